/-
  The law WireListRoundTrip: what its check computes is true, where no sum passes an int.
-/
import Derived.Test.YtomjniijnpnehaaWen
namespace Go.Proofs.Ytomjniijnpnehaa.Wi
open Go Go.RowKit Pu Lb

theorem encList_pos {α : Type} (g : α → List UInt8) (l : List α) : 1 ≤ (encList g l).length := by
  unfold encList
  rw [List.length_append, enc_length]; omega
theorem mem_sum {x : List (List UInt8)} {s : List UInt8} (h : s ∈ x) : s.length ≤ sumL x := by
  induction x with
  | nil => cases h
  | cons a r ih =>
    have e : sumL (a :: r) = a.length + sumL r := by simp [sumL]
    rw [e]
    rcases List.mem_cons.1 h with rfl | h
    · omega
    · have := ih h; omega

set_option maxRecDepth 100000 in
set_option maxHeartbeats 6400000 in
theorem listround_any (s t : List UInt8) (l : List Int) (x d : List (List UInt8)) (v1 v2 v3 v4 : Value) (w : World) (hs : s.length ≤ 1048576) (hl : l.length ≤ 1048576) (hx : sumL x + x.length ≤ 1048576) (hd : d.length ≤ 1048576) (ht : t.length ≤ 1048576)
    (okl : IntsOk l) (okd : DigsOk d) (r1 : Rd w 1 v1 l.length (iv l)) (r2 : Rd w 1 v2 x.length (sv x)) (r3 : Rd w 16 v3 d.length (bv d.flatten)) (r4 : Rd w 1 v4 t.length (bv t)) :
    Calls Try.prog 8 #[.string ⟨s.toArray⟩, v1, v2, v3, v4] w fun e w' => e = .returned (.bool true) ∧ Below w.heap.size w w' := by
  have hb := Below.refl w.heap.size w
  have b1 := encInts_le okl (by omega)
  have b2 := encStrings_le (l := x) (by omega) (by omega)
  have b3 := encDigs_le okd (by omega)
  have b4 := encBytes_le (s := s) (by omega)
  have p1 := encList_pos enc l
  have p2 := encList_pos encBytes x
  have p3 := encList_pos id d
  have p4 := codec_bytes.pos s
  have R1 := Lib.hid (getInts_rt l t (by omega) okl)
  have R2 := Lib.hid (getStrings_rt x t (by omega) (fun y hy => by have := mem_sum hy; omega))
  have R3 := Lib.hid (getDigests_rt d t (by omega) okd)
  have R4 := Lib.hid (getBytes_rt s t (by omega))
  obtain ⟨q1, hq1⟩ : ∃ k, (encList enc l).length = k := ⟨_, rfl⟩
  obtain ⟨q2, hq2⟩ : ∃ k, (encList encBytes x).length = k := ⟨_, rfl⟩
  obtain ⟨q3, hq3⟩ : ∃ k, (encList id d).length = k := ⟨_, rfl⟩
  obtain ⟨q4, hq4⟩ : ∃ k, (encBytes s).length = k := ⟨_, rfl⟩
  rw [hq1] at b1 p1
  rw [hq2] at b2 p2
  rw [hq3] at b3 p3
  rw [hq4] at b4 p4
  obtain ⟨ns, hns⟩ : ∃ k, s.length = k := ⟨_, rfl⟩
  obtain ⟨nl, hnl⟩ : ∃ k, l.length = k := ⟨_, rfl⟩
  obtain ⟨nx, hnx⟩ : ∃ k, x.length = k := ⟨_, rfl⟩
  obtain ⟨nd, hnd⟩ : ∃ k, d.length = k := ⟨_, rfl⟩
  obtain ⟨nt, hnt⟩ : ∃ k, t.length = k := ⟨_, rfl⟩
  have hsz : (ByteArray.mk s.toArray).size = ns := by rw [size_str, hns]
  rw [hns] at hs b4
  rw [hnl] at hl b1 r1
  rw [hnx] at hx b2 r2
  rw [hnd] at hd b3 r3
  rw [hnt] at ht r4
  have Q1 := Lib.hid hq1; have Q2 := Lib.hid hq2; have Q3 := Lib.hid hq3; have Q4 := Lib.hid hq4
  have OL := Lib.hid okl; have OD := Lib.hid okd; have NS := Lib.hid hns
  clear hq1 hq2 hq3 hq4 okl okd hns hnl hnx hnd hnt
  have fin := few_any v2 nx x w r2 (by omega)
  have FIN := Lib.hid fin
  clear fin
  by_cases h0 : ns + nl + nd + nt ≤ 2000
  · by_cases h1 : nx + sumL x ≤ 2000
    · have g1 : decide (nx + sumL x ≤ 2000) = true := decide_eq_true h1
      have G1 := Lib.hid g1
      clear g1
      go_enter Try.func8, Try.ntmps8
      go_wp2_with (first
        | ((with_reducible refine' wpList_len_rd (.tmp 29) 22 rfl ?_ Try.underlying22 ?_ r1 ?_); exact rfl; exact rfl; simp only [Act.put, List.setIfInBounds_toArray, List.set_cons_succ, List.set_cons_zero]) | ((with_reducible refine' wpList_len_rd (.tmp 32) 24 rfl ?_ Try.underlying24 ?_ r3 ?_); exact rfl; exact rfl; simp only [Act.put, List.setIfInBounds_toArray, List.set_cons_succ, List.set_cons_zero]) | ((with_reducible refine' wpList_len_rd (.tmp 35) 28 rfl ?_ Try.underlying28 ?_ r4 ?_); exact rfl; exact rfl; simp only [Act.put, List.setIfInBounds_toArray, List.set_cons_succ, List.set_cons_zero])
        | (go_at_call 11; (with_reducible refine (FIN.out).mono ?_); rintro e w' ⟨rfl, rfl⟩; rw [G1.out])
        | (go_at_call 16; (with_reducible refine (bytes_any s _ (by rw [NS.out]; omega)).mono ?_); rintro e w' ⟨va, rfl, oa, hN⟩; replace hb := hb.trans ((by exact hN : Below _ _ _).mono hb.size); (try replace r1 := Rd.below r1 hN); (try replace r2 := Rd.below r2 hN); (try replace r3 := Rd.below r3 hN); (try replace r4 := Rd.below r4 hN); have ra := Rd.of_own oa; clear oa; rw [Q4.out] at ra)
        | (go_at_call 18; (with_reducible refine (ints_any v1 _ l _ r1 OL.out (by rw [Q1.out]; omega)).mono ?_); rintro e w' ⟨vb, rfl, ob, hN⟩; replace hb := hb.trans ((by exact hN : Below _ _ _).mono hb.size); (try replace r1 := Rd.below r1 hN); (try replace r2 := Rd.below r2 hN); (try replace r3 := Rd.below r3 hN); (try replace r4 := Rd.below r4 hN); (try replace ra := Rd.below ra hN); have rb := Rd.of_own ob; clear ob; rw [Q1.out] at rb)
        | (go_at_call 22; (with_reducible refine (digests_any v3 _ d _ OD.out r3 (by rw [Q3.out]; omega)).mono ?_); rintro e w' ⟨vc, rfl, oc, hN⟩; replace hb := hb.trans ((by exact hN : Below _ _ _).mono hb.size); (try replace r1 := Rd.below r1 hN); (try replace r2 := Rd.below r2 hN); (try replace r3 := Rd.below r3 hN); (try replace r4 := Rd.below r4 hN); (try replace ra := Rd.below ra hN); (try replace rb := Rd.below rb hN); have rc := Rd.of_own oc; clear oc; rw [Q3.out] at rc)
        | (go_at_call 20; (with_reducible refine (strings_any v2 _ x _ r2 (by rw [Q2.out]; omega)).mono ?_); rintro e w' ⟨vo, rfl, oo, hN⟩; replace hb := hb.trans ((by exact hN : Below _ _ _).mono hb.size); (try replace r1 := Rd.below r1 hN); (try replace r2 := Rd.below r2 hN); (try replace r3 := Rd.below r3 hN); (try replace r4 := Rd.below r4 hN); (try replace ra := Rd.below ra hN); (try replace rb := Rd.below rb hN); (try replace rc := Rd.below rc hN); have ro := Rd.of_own oo; clear oo; rw [Q2.out] at ro)
        | ((with_reducible refine' wpList_len_rd (.tmp 55) 28 rfl ?_ Try.underlying28 ?_ ra ?_); exact rfl; exact rfl; simp only [Act.put, List.setIfInBounds_toArray, List.set_cons_succ, List.set_cons_zero]) | ((with_reducible refine' wpList_len_rd (.tmp 57) 28 rfl ?_ Try.underlying28 ?_ ra ?_); exact rfl; exact rfl; simp only [Act.put, List.setIfInBounds_toArray, List.set_cons_succ, List.set_cons_zero]) | ((with_reducible refine' wpList_full_rd (.tmp 54) (.tmp 56) (.tmp 58) 28 rfl ?_ Try.underlying28 sz_u8 ?_ ra (by decide) ?_ ?_ (by omega) ?_); exact rfl; exact rfl; (show (_ : Int) = _; omega); (show (_ : Int) = _; omega); intro va2 ra2 fa; simp only [Act.put, List.setIfInBounds_toArray, List.set_cons_succ, List.set_cons_zero])
        | (((with_reducible refine' wpList_append_full (.tmp 59) (.tmp 60) 28 rfl ?_ Try.underlying28 inf_u8 ?_ ?_ ?_ ra2 fa ?_ r4 ?_ ?_ ?_); exact rfl; exact rfl; omega; exact rfl; exact rfl; (first | omega | (unfold maxLen; omega)); omega; intro va3 wa3 ra3 hN; simp only [Act.put, List.setIfInBounds_toArray, List.set_cons_succ, List.set_cons_zero]); clear ra2; rw [← bv_append] at ra3; replace hb := hb.trans ((by exact hN : Below _ _ _).mono hb.size); (try replace r1 := Rd.below r1 hN); (try replace r2 := Rd.below r2 hN); (try replace r3 := Rd.below r3 hN); (try replace r4 := Rd.below r4 hN); (try replace ra := Rd.below ra hN); (try replace rb := Rd.below rb hN); (try replace rc := Rd.below rc hN); (try replace ro := Rd.below ro hN))
        | (go_at_call 26; (with_reducible refine (getbytes_any va3 _ (encBytes s ++ t) _ ra3 (by omega)).mono ?_); rintro e w' ⟨rfl, rfl⟩; rw [R4.out, Q4.out]; unfold RS; clear ra3)
        | ((with_reducible refine' wpList_len_rd (.tmp 68) 28 rfl ?_ Try.underlying28 ?_ rb ?_); exact rfl; exact rfl; simp only [Act.put, List.setIfInBounds_toArray, List.set_cons_succ, List.set_cons_zero]) | ((with_reducible refine' wpList_len_rd (.tmp 70) 28 rfl ?_ Try.underlying28 ?_ rb ?_); exact rfl; exact rfl; simp only [Act.put, List.setIfInBounds_toArray, List.set_cons_succ, List.set_cons_zero]) | ((with_reducible refine' wpList_full_rd (.tmp 67) (.tmp 69) (.tmp 71) 28 rfl ?_ Try.underlying28 sz_u8 ?_ rb (by decide) ?_ ?_ (by omega) ?_); exact rfl; exact rfl; (show (_ : Int) = _; omega); (show (_ : Int) = _; omega); intro vb2 rb2 fb; simp only [Act.put, List.setIfInBounds_toArray, List.set_cons_succ, List.set_cons_zero])
        | (((with_reducible refine' wpList_append_full (.tmp 72) (.tmp 73) 28 rfl ?_ Try.underlying28 inf_u8 ?_ ?_ ?_ rb2 fb ?_ r4 ?_ ?_ ?_); exact rfl; exact rfl; omega; exact rfl; exact rfl; (first | omega | (unfold maxLen; omega)); omega; intro vb3 wb3 rb3 hN; simp only [Act.put, List.setIfInBounds_toArray, List.set_cons_succ, List.set_cons_zero]); clear rb2; rw [← bv_append] at rb3; replace hb := hb.trans ((by exact hN : Below _ _ _).mono hb.size); (try replace r1 := Rd.below r1 hN); (try replace r2 := Rd.below r2 hN); (try replace r3 := Rd.below r3 hN); (try replace r4 := Rd.below r4 hN); (try replace ra := Rd.below ra hN); (try replace rb := Rd.below rb hN); (try replace rc := Rd.below rc hN); (try replace ro := Rd.below ro hN))
        | (go_at_call 28; (with_reducible refine (getints_any vb3 _ (encList enc l ++ t) _ rb3 (by omega)).mono ?_); rintro e w' ⟨vk, rfl, ok, hN⟩; rw [R1.out, Q1.out] at *; clear rb3; replace hb := hb.trans ((by exact hN : Below _ _ _).mono hb.size); (try replace r1 := Rd.below r1 hN); (try replace r2 := Rd.below r2 hN); (try replace r3 := Rd.below r3 hN); (try replace r4 := Rd.below r4 hN); (try replace ra := Rd.below ra hN); (try replace rb := Rd.below rb hN); (try replace rc := Rd.below rc hN); (try replace ro := Rd.below ro hN); have rk := Rd.of_own ok; clear ok)
        | ((with_reducible refine' wpList_len_rd (.tmp 81) 28 rfl ?_ Try.underlying28 ?_ rc ?_); exact rfl; exact rfl; simp only [Act.put, List.setIfInBounds_toArray, List.set_cons_succ, List.set_cons_zero]) | ((with_reducible refine' wpList_len_rd (.tmp 83) 28 rfl ?_ Try.underlying28 ?_ rc ?_); exact rfl; exact rfl; simp only [Act.put, List.setIfInBounds_toArray, List.set_cons_succ, List.set_cons_zero]) | ((with_reducible refine' wpList_full_rd (.tmp 80) (.tmp 82) (.tmp 84) 28 rfl ?_ Try.underlying28 sz_u8 ?_ rc (by decide) ?_ ?_ (by omega) ?_); exact rfl; exact rfl; (show (_ : Int) = _; omega); (show (_ : Int) = _; omega); intro vc2 rc2 fc; simp only [Act.put, List.setIfInBounds_toArray, List.set_cons_succ, List.set_cons_zero])
        | (((with_reducible refine' wpList_append_full (.tmp 85) (.tmp 86) 28 rfl ?_ Try.underlying28 inf_u8 ?_ ?_ ?_ rc2 fc ?_ r4 ?_ ?_ ?_); exact rfl; exact rfl; omega; exact rfl; exact rfl; (first | omega | (unfold maxLen; omega)); omega; intro vc3 wc3 rc3 hN; simp only [Act.put, List.setIfInBounds_toArray, List.set_cons_succ, List.set_cons_zero]); clear rc2; rw [← bv_append] at rc3; replace hb := hb.trans ((by exact hN : Below _ _ _).mono hb.size); (try replace r1 := Rd.below r1 hN); (try replace r2 := Rd.below r2 hN); (try replace r3 := Rd.below r3 hN); (try replace r4 := Rd.below r4 hN); (try replace ra := Rd.below ra hN); (try replace rb := Rd.below rb hN); (try replace rc := Rd.below rc hN); (try replace ro := Rd.below ro hN); (try replace rk := Rd.below rk hN))
        | (go_at_call 34; (with_reducible refine (getdigests_any vc3 _ (encList id d ++ t) _ rc3 (by omega)).mono ?_); rintro e w' ⟨vy, rfl, oy, hN⟩; rw [R3.out, Q3.out] at *; clear rc3; replace hb := hb.trans ((by exact hN : Below _ _ _).mono hb.size); (try replace r1 := Rd.below r1 hN); (try replace r2 := Rd.below r2 hN); (try replace r3 := Rd.below r3 hN); (try replace r4 := Rd.below r4 hN); (try replace ra := Rd.below ra hN); (try replace rb := Rd.below rb hN); (try replace rc := Rd.below rc hN); (try replace ro := Rd.below ro hN); (try replace rk := Rd.below rk hN); have ry := Rd.of_own oy; clear oy)
        | ((with_reducible refine' wpList_len_rd (.tmp 94) 28 rfl ?_ Try.underlying28 ?_ ro ?_); exact rfl; exact rfl; simp only [Act.put, List.setIfInBounds_toArray, List.set_cons_succ, List.set_cons_zero]) | ((with_reducible refine' wpList_len_rd (.tmp 96) 28 rfl ?_ Try.underlying28 ?_ ro ?_); exact rfl; exact rfl; simp only [Act.put, List.setIfInBounds_toArray, List.set_cons_succ, List.set_cons_zero]) | ((with_reducible refine' wpList_full_rd (.tmp 93) (.tmp 95) (.tmp 97) 28 rfl ?_ Try.underlying28 sz_u8 ?_ ro (by decide) ?_ ?_ (by omega) ?_); exact rfl; exact rfl; (show (_ : Int) = _; omega); (show (_ : Int) = _; omega); intro vo2 ro2 fo; simp only [Act.put, List.setIfInBounds_toArray, List.set_cons_succ, List.set_cons_zero])
        | (((with_reducible refine' wpList_append_full (.tmp 98) (.tmp 99) 28 rfl ?_ Try.underlying28 inf_u8 ?_ ?_ ?_ ro2 fo ?_ r4 ?_ ?_ ?_); exact rfl; exact rfl; omega; exact rfl; exact rfl; (first | omega | (unfold maxLen; omega)); omega; intro vo3 wo3 ro3 hN; simp only [Act.put, List.setIfInBounds_toArray, List.set_cons_succ, List.set_cons_zero]); clear ro2; rw [← bv_append] at ro3; replace hb := hb.trans ((by exact hN : Below _ _ _).mono hb.size); (try replace r1 := Rd.below r1 hN); (try replace r2 := Rd.below r2 hN); (try replace r3 := Rd.below r3 hN); (try replace r4 := Rd.below r4 hN); (try replace ra := Rd.below ra hN); (try replace rb := Rd.below rb hN); (try replace rc := Rd.below rc hN); (try replace ro := Rd.below ro hN); (try replace rk := Rd.below rk hN); (try replace ry := Rd.below ry hN))
        | (go_at_call 31; (with_reducible refine (getstrings_any vo3 _ (encList encBytes x ++ t) _ ro3 (by omega)).mono ?_); rintro e w' ⟨vz, rfl, oz, hN⟩; rw [R2.out, Q2.out] at *; clear ro3; replace hb := hb.trans ((by exact hN : Below _ _ _).mono hb.size); (try replace r1 := Rd.below r1 hN); (try replace r2 := Rd.below r2 hN); (try replace r3 := Rd.below r3 hN); (try replace r4 := Rd.below r4 hN); (try replace ra := Rd.below ra hN); (try replace rb := Rd.below rb hN); (try replace rc := Rd.below rc hN); (try replace ro := Rd.below ro hN); (try replace rk := Rd.below rk hN); (try replace ry := Rd.below ry hN); have rz := Rd.of_own oz; clear oz)
        | (go_at_call 12; (with_reducible refine (sanity_any _).mono ?_); rintro e w' ⟨rfl, hN⟩; replace hb := hb.trans ((by exact hN : Below _ _ _).mono hb.size); (try replace r1 := Rd.below r1 hN); (try replace r2 := Rd.below r2 hN); (try replace r3 := Rd.below r3 hN); (try replace r4 := Rd.below r4 hN); (try replace ra := Rd.below ra hN); (try replace rb := Rd.below rb hN); (try replace rc := Rd.below rc hN); (try replace ro := Rd.below ro hN); (try replace rk := Rd.below rk hN); (try replace ry := Rd.below ry hN); (try replace rz := Rd.below rz hN))
        | (go_at_call 33; (with_reducible refine (sametexts_any vz v2 _ _ x x _ rz r2).mono ?_); rintro e w' ⟨rfl, nq, rfl⟩; clear rz; replace hb := below_drewN hb nq; (try replace r1 := Rd.drewN r1 nq); (try replace r2 := Rd.drewN r2 nq); (try replace r3 := Rd.drewN r3 nq); (try replace r4 := Rd.drewN r4 nq); (try replace ra := Rd.drewN ra nq); (try replace rb := Rd.drewN rb nq); (try replace rc := Rd.drewN rc nq); (try replace ro := Rd.drewN ro nq); (try replace rk := Rd.drewN rk nq); (try replace ry := Rd.drewN ry nq); rw [decide_eq_true (rfl : x = x)])
        | ((with_reducible refine' wpList_len_rd (.tmp 113) 28 rfl ?_ Try.underlying28 ?_ ro ?_); exact rfl; exact rfl; simp only [Act.put, List.setIfInBounds_toArray, List.set_cons_succ, List.set_cons_zero]) | ((with_reducible refine' wpList_len_rd (.tmp 128) 28 rfl ?_ Try.underlying28 ?_ ra ?_); exact rfl; exact rfl; simp only [Act.put, List.setIfInBounds_toArray, List.set_cons_succ, List.set_cons_zero]) | ((with_reducible refine' wpList_len_rd (.tmp 143) 28 rfl ?_ Try.underlying28 ?_ rb ?_); exact rfl; exact rfl; simp only [Act.put, List.setIfInBounds_toArray, List.set_cons_succ, List.set_cons_zero]) | ((with_reducible refine' wpList_len_rd (.tmp 158) 28 rfl ?_ Try.underlying28 ?_ rc ?_); exact rfl; exact rfl; simp only [Act.put, List.setIfInBounds_toArray, List.set_cons_succ, List.set_cons_zero])
        | (go_at_call 30; (with_reducible refine (sameints_any vk v1 _ _ l l _ rk r1).mono ?_); rintro e w' ⟨rfl, nq, rfl⟩; clear rk; replace hb := below_drewN hb nq; (try replace r1 := Rd.drewN r1 nq); (try replace r2 := Rd.drewN r2 nq); (try replace r3 := Rd.drewN r3 nq); (try replace r4 := Rd.drewN r4 nq); (try replace ra := Rd.drewN ra nq); (try replace rb := Rd.drewN rb nq); (try replace rc := Rd.drewN rc nq); (try replace ro := Rd.drewN ro nq); (try replace ry := Rd.drewN ry nq); simp only [World.drewN_drewN] at hb r1 r2 r3 r4 ra rb rc ro ry; rw [decide_eq_true (rfl : l = l)])
        | (go_at_call 36; (with_reducible refine (samedigests_any vy v3 _ _ d d _ OD.out OD.out ry r3).mono ?_); rintro e w' ⟨rfl, nq, rfl⟩; clear ry; replace hb := below_drewN hb nq; (try replace r1 := Rd.drewN r1 nq); (try replace r2 := Rd.drewN r2 nq); (try replace r3 := Rd.drewN r3 nq); (try replace r4 := Rd.drewN r4 nq); (try replace ra := Rd.drewN ra nq); (try replace rb := Rd.drewN rb nq); (try replace rc := Rd.drewN rc nq); (try replace ro := Rd.drewN ro nq); simp only [World.drewN_drewN] at hb r1 r2 r3 r4 ra rb rc ro; rw [decide_eq_true (rfl : d = d)]))
      go_ret
      exact ⟨rfl, hb⟩
    · have g1 : decide (nx + sumL x ≤ 2000) = false := decide_eq_false h1
      have G1 := Lib.hid g1
      clear g1
      go_enter Try.func8, Try.ntmps8
      go_wp2_with (first
        | ((with_reducible refine' wpList_len_rd (.tmp 29) 22 rfl ?_ Try.underlying22 ?_ r1 ?_); exact rfl; exact rfl; simp only [Act.put, List.setIfInBounds_toArray, List.set_cons_succ, List.set_cons_zero]) | ((with_reducible refine' wpList_len_rd (.tmp 32) 24 rfl ?_ Try.underlying24 ?_ r3 ?_); exact rfl; exact rfl; simp only [Act.put, List.setIfInBounds_toArray, List.set_cons_succ, List.set_cons_zero]) | ((with_reducible refine' wpList_len_rd (.tmp 35) 28 rfl ?_ Try.underlying28 ?_ r4 ?_); exact rfl; exact rfl; simp only [Act.put, List.setIfInBounds_toArray, List.set_cons_succ, List.set_cons_zero])
        | (go_at_call 11; (with_reducible refine (FIN.out).mono ?_); rintro e w' ⟨rfl, rfl⟩; rw [G1.out])
        | (go_at_call 12; (with_reducible refine (sanity_any _).mono ?_); rintro e w' ⟨rfl, hN⟩; replace hb := hb.trans ((by exact hN : Below _ _ _).mono hb.size)))
      go_ret
      exact ⟨rfl, hb⟩
  · have h2 : 2000 < (ns : Int) + nl + nd + nt := by omega
    go_enter Try.func8, Try.ntmps8
    go_wp2_with (first
      | ((with_reducible refine' wpList_len_rd (.tmp 29) 22 rfl ?_ Try.underlying22 ?_ r1 ?_); exact rfl; exact rfl; simp only [Act.put, List.setIfInBounds_toArray, List.set_cons_succ, List.set_cons_zero]) | ((with_reducible refine' wpList_len_rd (.tmp 32) 24 rfl ?_ Try.underlying24 ?_ r3 ?_); exact rfl; exact rfl; simp only [Act.put, List.setIfInBounds_toArray, List.set_cons_succ, List.set_cons_zero]) | ((with_reducible refine' wpList_len_rd (.tmp 35) 28 rfl ?_ Try.underlying28 ?_ r4 ?_); exact rfl; exact rfl; simp only [Act.put, List.setIfInBounds_toArray, List.set_cons_succ, List.set_cons_zero])
      | (go_at_call 12; (with_reducible refine (sanity_any _).mono ?_); rintro e w' ⟨rfl, hN⟩; replace hb := hb.trans ((by exact hN : Below _ _ _).mono hb.size)))
    go_ret
    exact ⟨rfl, hb⟩
end Go.Proofs.Ytomjniijnpnehaa.Wi
