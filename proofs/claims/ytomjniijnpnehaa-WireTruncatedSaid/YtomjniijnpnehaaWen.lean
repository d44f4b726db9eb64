/-
  The law WireEncodeMatchesSpec: what its check computes is true, where no sum passes an int.
-/
import Derived.Test.YtomjniijnpnehaaFew
namespace Go.Proofs.Ytomjniijnpnehaa.Wi
open Go Go.RowKit Pu Lb

theorem encStrs_le : ∀ {l : List (List UInt8)}, sumL l ≤ 4611686018427387904 → (l.flatMap encBytes).length ≤ 9 * l.length + sumL l
  | [], _ => by simp
  | x :: l, h => by
    have e : sumL (x :: l) = x.length + sumL l := by simp [sumL]
    rw [e] at h ⊢
    have ih := encStrs_le (l := l) (by omega)
    have := encBytes_le (s := x) (by omega)
    rw [List.flatMap_cons, List.length_append, List.length_cons]; omega
theorem encStrings_le {l : List (List UInt8)} (h : sumL l ≤ 4611686018427387904) (hl : l.length ≤ 9223372036854775807) : (encList encBytes l).length ≤ 9 + 9 * l.length + sumL l := by
  unfold encList
  have := encStrs_le h
  have := enc_nat_le hl
  rw [List.length_append]; omega

set_option maxRecDepth 100000 in
set_option maxHeartbeats 3200000 in
theorem encode_any (z : Int) (s : List UInt8) (l : List Int) (x d : List (List UInt8)) (v2 v3 v4 : Value) (w : World) (z0 : -9223372036854775808 ≤ z) (z1 : z ≤ 9223372036854775807) (hs : s.length ≤ 1048576) (hl : l.length ≤ 1048576) (hx : sumL x + x.length ≤ 1048576) (hd : d.length ≤ 1048576)
    (okl : IntsOk l) (okd : DigsOk d) (r2 : Rd w 1 v2 l.length (iv l)) (r3 : Rd w 1 v3 x.length (sv x)) (r4 : Rd w 16 v4 d.length (bv d.flatten)) :
    Calls Try.prog 3 #[.int .i64 z, .string ⟨s.toArray⟩, v2, v3, v4] w fun e w' => e = .returned (.bool true) ∧ Below w.heap.size w w' := by
  have hb := Below.refl w.heap.size w
  have b1 := encInts_le okl (by omega)
  have b2 := encStrings_le (l := x) (by omega) (by omega)
  have b3 := encDigs_le okd (by omega)
  obtain ⟨ns, hns⟩ : ∃ k, s.length = k := ⟨_, rfl⟩
  obtain ⟨nl, hnl⟩ : ∃ k, l.length = k := ⟨_, rfl⟩
  obtain ⟨nx, hnx⟩ : ∃ k, x.length = k := ⟨_, rfl⟩
  obtain ⟨nd, hnd⟩ : ∃ k, d.length = k := ⟨_, rfl⟩
  have hsz : (ByteArray.mk s.toArray).size = ns := by rw [size_str, hns]
  rw [hns] at hs
  rw [hnl] at hl b1 r2
  rw [hnx] at hx b2 r3
  rw [hnd] at hd b3 r4
  have Z0 := Lib.hid z0; have Z1 := Lib.hid z1; have OL := Lib.hid okl; have OD := Lib.hid okd; have NS := Lib.hid hns
  clear z0 z1 okl okd hns hnl hnx hnd
  have fin := few_any v3 nx x w r3 (by omega)
  have FIN := Lib.hid fin
  clear fin
  by_cases h0 : ns + nl + nd ≤ 2000
  · by_cases h1 : nx + sumL x ≤ 2000
    · have g1 : decide (nx + sumL x ≤ 2000) = true := decide_eq_true h1
      have G1 := Lib.hid g1
      clear g1
      go_enter Try.func3, Try.ntmps3
      go_wp2_with (first
        | ((with_reducible refine' wpList_len_rd (.tmp 13) 22 rfl ?_ Try.underlying22 ?_ r2 ?_); exact rfl; exact rfl; simp only [Act.put, List.setIfInBounds_toArray, List.set_cons_succ, List.set_cons_zero]) | ((with_reducible refine' wpList_len_rd (.tmp 16) 24 rfl ?_ Try.underlying24 ?_ r4 ?_); exact rfl; exact rfl; simp only [Act.put, List.setIfInBounds_toArray, List.set_cons_succ, List.set_cons_zero])
        | (go_at_call 11; (with_reducible refine (FIN.out).mono ?_); rintro e w' ⟨rfl, rfl⟩; rw [G1.out])
        | (go_at_call 12; (with_reducible refine (sanity_any _).mono ?_); rintro e w' ⟨rfl, hN⟩; replace hb := hb.trans ((by exact hN : Below _ _ _).mono hb.size); (try replace r2 := Rd.below r2 hN); (try replace r3 := Rd.below r3 hN); (try replace r4 := Rd.below r4 hN))
        | (go_at_call 14; (with_reducible refine (int_any _ _ Z0.out Z1.out).mono ?_); rintro e w' ⟨va, rfl, oa, hN⟩; replace hb := hb.trans ((by exact hN : Below _ _ _).mono hb.size); (try replace r2 := Rd.below r2 hN); (try replace r3 := Rd.below r3 hN); (try replace r4 := Rd.below r4 hN); have ra := Rd.of_own oa; clear oa)
        | (go_at_call 15; (with_reducible refine (refint_any _ _ Z0.out Z1.out).mono ?_); rintro e w' ⟨vb, rfl, ob, hN⟩; replace hb := hb.trans ((by exact hN : Below _ _ _).mono hb.size); (try replace r2 := Rd.below r2 hN); (try replace r3 := Rd.below r3 hN); (try replace r4 := Rd.below r4 hN); (try replace ra := Rd.below ra hN); have rb := Rd.of_own ob; clear ob)
        | (go_at_call 13; (with_reducible refine (same_any va vb _ _ (enc z) (enc z) _ ra rb).mono ?_); rintro e w' ⟨rfl, nq, rfl⟩; clear ra rb; replace hb := below_drewN hb nq; (try replace r2 := Rd.drewN r2 nq); (try replace r3 := Rd.drewN r3 nq); (try replace r4 := Rd.drewN r4 nq); rw [decide_eq_true (rfl : enc z = enc z)])
        | (go_at_call 16; (with_reducible refine (bytes_any s _ (by rw [NS.out]; omega)).mono ?_); rintro e w' ⟨vc, rfl, oc, hN⟩; replace hb := hb.trans ((by exact hN : Below _ _ _).mono hb.size); (try replace r2 := Rd.below r2 hN); (try replace r3 := Rd.below r3 hN); (try replace r4 := Rd.below r4 hN); have rc := Rd.of_own oc; clear oc)
        | (go_at_call 17; (with_reducible refine (refbytes_any s _ (by rw [NS.out]; omega)).mono ?_); rintro e w' ⟨vd, rfl, od, hN⟩; replace hb := hb.trans ((by exact hN : Below _ _ _).mono hb.size); (try replace r2 := Rd.below r2 hN); (try replace r3 := Rd.below r3 hN); (try replace r4 := Rd.below r4 hN); (try replace rc := Rd.below rc hN); have rd := Rd.of_own od; clear od)
        | (go_at_call 13; (with_reducible refine (same_any vc vd _ _ (encBytes s) (encBytes s) _ rc rd).mono ?_); rintro e w' ⟨rfl, nq, rfl⟩; clear rc rd; replace hb := below_drewN hb nq; (try replace r2 := Rd.drewN r2 nq); (try replace r3 := Rd.drewN r3 nq); (try replace r4 := Rd.drewN r4 nq); rw [decide_eq_true (rfl : encBytes s = encBytes s)])
        | (go_at_call 18; (with_reducible refine (ints_any v2 _ l _ r2 OL.out (by omega)).mono ?_); rintro e w' ⟨ve, rfl, oe, hN⟩; replace hb := hb.trans ((by exact hN : Below _ _ _).mono hb.size); (try replace r2 := Rd.below r2 hN); (try replace r3 := Rd.below r3 hN); (try replace r4 := Rd.below r4 hN); have re := Rd.of_own oe; clear oe)
        | (go_at_call 19; (with_reducible refine (refints_any v2 _ l _ r2 OL.out (by omega)).mono ?_); rintro e w' ⟨vf, rfl, of, hN⟩; replace hb := hb.trans ((by exact hN : Below _ _ _).mono hb.size); (try replace r2 := Rd.below r2 hN); (try replace r3 := Rd.below r3 hN); (try replace r4 := Rd.below r4 hN); (try replace re := Rd.below re hN); have rf := Rd.of_own of; clear of)
        | (go_at_call 13; (with_reducible refine (same_any ve vf _ _ (encList enc l) (encList enc l) _ re rf).mono ?_); rintro e w' ⟨rfl, nq, rfl⟩; clear re rf; replace hb := below_drewN hb nq; (try replace r2 := Rd.drewN r2 nq); (try replace r3 := Rd.drewN r3 nq); (try replace r4 := Rd.drewN r4 nq); rw [decide_eq_true (rfl : encList enc l = encList enc l)])
        | (go_at_call 20; (with_reducible refine (strings_any v3 _ x _ r3 (by omega)).mono ?_); rintro e w' ⟨vg, rfl, og, hN⟩; replace hb := hb.trans ((by exact hN : Below _ _ _).mono hb.size); (try replace r2 := Rd.below r2 hN); (try replace r3 := Rd.below r3 hN); (try replace r4 := Rd.below r4 hN); have rg := Rd.of_own og; clear og)
        | (go_at_call 21; (with_reducible refine (refstrings_any v3 _ x _ r3 (by omega)).mono ?_); rintro e w' ⟨vh, rfl, oh, hN⟩; replace hb := hb.trans ((by exact hN : Below _ _ _).mono hb.size); (try replace r2 := Rd.below r2 hN); (try replace r3 := Rd.below r3 hN); (try replace r4 := Rd.below r4 hN); (try replace rg := Rd.below rg hN); have rh := Rd.of_own oh; clear oh)
        | (go_at_call 13; (with_reducible refine (same_any vg vh _ _ (encList encBytes x) (encList encBytes x) _ rg rh).mono ?_); rintro e w' ⟨rfl, nq, rfl⟩; clear rg rh; replace hb := below_drewN hb nq; (try replace r2 := Rd.drewN r2 nq); (try replace r3 := Rd.drewN r3 nq); (try replace r4 := Rd.drewN r4 nq); rw [decide_eq_true (rfl : encList encBytes x = encList encBytes x)])
        | (go_at_call 22; (with_reducible refine (digests_any v4 _ d _ OD.out r4 (by omega)).mono ?_); rintro e w' ⟨vi, rfl, oi, hN⟩; replace hb := hb.trans ((by exact hN : Below _ _ _).mono hb.size); (try replace r2 := Rd.below r2 hN); (try replace r3 := Rd.below r3 hN); (try replace r4 := Rd.below r4 hN); have ri := Rd.of_own oi; clear oi)
        | (go_at_call 23; (with_reducible refine (refdigests_any v4 _ d _ OD.out r4 (by omega)).mono ?_); rintro e w' ⟨vj, rfl, oj, hN⟩; replace hb := hb.trans ((by exact hN : Below _ _ _).mono hb.size); (try replace r2 := Rd.below r2 hN); (try replace r3 := Rd.below r3 hN); (try replace r4 := Rd.below r4 hN); (try replace ri := Rd.below ri hN); have rj := Rd.of_own oj; clear oj)
        | (go_at_call 13; (with_reducible refine (same_any vi vj _ _ (encList id d) (encList id d) _ ri rj).mono ?_); rintro e w' ⟨rfl, nq, rfl⟩; clear ri rj; replace hb := below_drewN hb nq; (try replace r2 := Rd.drewN r2 nq); (try replace r3 := Rd.drewN r3 nq); (try replace r4 := Rd.drewN r4 nq); rw [decide_eq_true (rfl : encList id d = encList id d)]))
      go_ret
      exact ⟨rfl, hb⟩
    · have g1 : decide (nx + sumL x ≤ 2000) = false := decide_eq_false h1
      have G1 := Lib.hid g1
      clear g1
      go_enter Try.func3, Try.ntmps3
      go_wp2_with (first
        | ((with_reducible refine' wpList_len_rd (.tmp 13) 22 rfl ?_ Try.underlying22 ?_ r2 ?_); exact rfl; exact rfl; simp only [Act.put, List.setIfInBounds_toArray, List.set_cons_succ, List.set_cons_zero]) | ((with_reducible refine' wpList_len_rd (.tmp 16) 24 rfl ?_ Try.underlying24 ?_ r4 ?_); exact rfl; exact rfl; simp only [Act.put, List.setIfInBounds_toArray, List.set_cons_succ, List.set_cons_zero])
        | (go_at_call 11; (with_reducible refine (FIN.out).mono ?_); rintro e w' ⟨rfl, rfl⟩; rw [G1.out])
        | (go_at_call 12; (with_reducible refine (sanity_any _).mono ?_); rintro e w' ⟨rfl, hN⟩; replace hb := hb.trans ((by exact hN : Below _ _ _).mono hb.size)))
      go_ret
      exact ⟨rfl, hb⟩
  · have h2 : 2000 < (ns : Int) + nl + nd := by omega
    go_enter Try.func3, Try.ntmps3
    go_wp2_with (first
      | ((with_reducible refine' wpList_len_rd (.tmp 13) 22 rfl ?_ Try.underlying22 ?_ r2 ?_); exact rfl; exact rfl; simp only [Act.put, List.setIfInBounds_toArray, List.set_cons_succ, List.set_cons_zero]) | ((with_reducible refine' wpList_len_rd (.tmp 16) 24 rfl ?_ Try.underlying24 ?_ r4 ?_); exact rfl; exact rfl; simp only [Act.put, List.setIfInBounds_toArray, List.set_cons_succ, List.set_cons_zero])
      | (go_at_call 12; (with_reducible refine (sanity_any _).mono ?_); rintro e w' ⟨rfl, hN⟩; replace hb := hb.trans ((by exact hN : Below _ _ _).mono hb.size)))
    go_ret
    exact ⟨rfl, hb⟩
end Go.Proofs.Ytomjniijnpnehaa.Wi
