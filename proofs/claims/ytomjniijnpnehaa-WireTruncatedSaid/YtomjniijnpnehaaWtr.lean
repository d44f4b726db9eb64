/-
  The law WireTruncated: what its check computes is true, where no sum passes an int.
-/
import Derived.Test.YtomjniijnpnehaaWlr
namespace Go.Proofs.Ytomjniijnpnehaa.Wi
open Go Go.RowKit Pu Lb

theorem inf_bs : (Try.prog.info? 28).map (fun i => (i.zero, i.size, i.bytes)) = some (some (.slice none 0 0), 1, 24) := by kernel_rfl
theorem sz_bs : (Try.prog.info? 28).map (·.size) = some 1 := by kernel_rfl
theorem sumL_bd {b : Nat} : ∀ (x : List (List UInt8)), (∀ y ∈ x, y.length ≤ b) → sumL x ≤ x.length * b
  | [], _ => by simp [sumL]
  | a :: r, h => by
    have e : sumL (a :: r) = a.length + sumL r := by simp [sumL]
    have ih := sumL_bd r (fun y hy => h y (List.mem_cons_of_mem _ hy))
    have := h a (List.mem_cons_self ..)
    rw [e, List.length_cons, Nat.add_mul]; omega
theorem rd_one {w : World} {s : Nat} {v : Value} {n : Nat} {xs : List Value} (h : Rd w s v n xs) : v.oneCell' = true := by
  obtain ⟨_, ad, cap, rfl, _⟩ := h
  rfl


set_option maxRecDepth 100000 in
set_option maxHeartbeats 6400000 in
theorem truncated_any (z : Int) (s : List UInt8) (l : List Int) (x d : List (List UInt8)) (v2 v3 v4 : Value) (w : World) (z0 : -9223372036854775808 ≤ z) (z1 : z ≤ 9223372036854775807) (hs : s.length ≤ 140737488351232) (hl : l.length ≤ 140737488351232) (hx : x.length ≤ 140737488351232) (hxs : ∀ y ∈ x, y.length ≤ 140737488351232) (hd : d.length ≤ 140737488351232)
    (okl : IntsOk l) (okd : DigsOk d) (r2 : Rd w 1 v2 l.length (iv l)) (r3 : Rd w 1 v3 x.length (sv x)) (r4 : Rd w 16 v4 d.length (bv d.flatten)) :
    Calls Try.prog 9 #[.int .i64 z, .string ⟨s.toArray⟩, v2, v3, v4] w fun e w' => e = .returned (.bool true) ∧ Below w.heap.size w w' := by
  have hb := Below.refl w.heap.size w
  obtain ⟨ns, hns⟩ : ∃ k, s.length = k := ⟨_, rfl⟩
  obtain ⟨nl, hnl⟩ : ∃ k, l.length = k := ⟨_, rfl⟩
  obtain ⟨nx, hnx⟩ : ∃ k, x.length = k := ⟨_, rfl⟩
  obtain ⟨nd, hnd⟩ : ∃ k, d.length = k := ⟨_, rfl⟩
  have hsz : (ByteArray.mk s.toArray).size = ns := by rw [size_str, hns]
  rw [hns] at hs
  rw [hnl] at hl r2
  rw [hnd] at hd r4
  by_cases h0 : ns + 9 * nl + 16 * nd ≤ 400
  · by_cases h4 : nx ≤ 40
    · have hsum : nx + sumL x ≤ 4611686018427387904 := by
        have := sumL_bd x hxs
        rw [hnx] at this
        have := Nat.mul_le_mul_right 140737488351232 h4
        omega
      rw [hnx] at hx r3
      have fin := few_any v3 nx x w r3 (by omega)
      have FIN := Lib.hid fin
      clear fin
      by_cases h1 : nx + sumL x ≤ 2000
      · have g1 : decide (nx + sumL x ≤ 2000) = true := decide_eq_true h1
        have G1 := Lib.hid g1
        clear g1
        have b1 := encInts_le okl (by omega)
        have b2 := encStrings_le (l := x) (by omega) (by omega)
        have b3 := encDigs_le okd (by omega)
        have b4 := encBytes_le (s := s) (by omega)
        obtain ⟨_, b5⟩ := enc_len_bd z0 z1
        have P0 : Hid (∀ i, i < (enc z).length → (getInt ((enc z).take i)).2.2 = 3) := Lib.hid fun i hi => by rw [get_part z i z0 z1 hi]
        have P1 := Lib.hid (fun i hi => getBytes_part s i (by omega) hi)
        have P2 := Lib.hid (fun i hi => getInts_part l i (by omega) okl hi)
        have P3 := Lib.hid (fun i hi => getStrings_part x i (by omega) (fun y hy => by have := mem_sum hy; omega) hi)
        have P4 := Lib.hid (fun i hi => getDigests_part d i (by omega) okd hi)
        obtain ⟨q0, hq0⟩ : ∃ k, (enc z).length = k := ⟨_, rfl⟩
        obtain ⟨q1, hq1⟩ : ∃ k, (encBytes s).length = k := ⟨_, rfl⟩
        obtain ⟨q2, hq2⟩ : ∃ k, (encList enc l).length = k := ⟨_, rfl⟩
        obtain ⟨q3, hq3⟩ : ∃ k, (encList encBytes x).length = k := ⟨_, rfl⟩
        obtain ⟨q4, hq4⟩ : ∃ k, (encList id d).length = k := ⟨_, rfl⟩
        rw [hq0] at b5 P0
        rw [hns, hq1] at b4
        rw [hq1] at P1
        rw [hnl, hq2] at b1
        rw [hq2] at P2
        rw [hnx, hq3] at b2
        rw [hq3] at P3
        rw [hnd, hq4] at b3
        rw [hq4] at P4
        have Q0 := Lib.hid hq0; have Q1 := Lib.hid hq1; have Q2 := Lib.hid hq2; have Q3 := Lib.hid hq3; have Q4 := Lib.hid hq4
        have Z0 := Lib.hid z0; have Z1 := Lib.hid z1; have OL := Lib.hid okl; have OD := Lib.hid okd; have NS := Lib.hid hns
        clear hq0 hq1 hq2 hq3 hq4 okl okd hns hnl hnx hnd z0 z1 hxs
        have hle : decide (400 < (ns : Int) + 9 * nl + 16 * nd) = false := by simp; omega
        go_enter Try.func9, Try.ntmps9
        go_wp2_with (first
          | ((with_reducible refine' wpList_len_rd (.tmp 17) 22 rfl ?_ Try.underlying22 ?_ r2 ?_); exact rfl; exact rfl; simp only [Act.put, List.setIfInBounds_toArray, List.set_cons_succ, List.set_cons_zero]) | ((with_reducible refine' wpList_len_rd (.tmp 21) 24 rfl ?_ Try.underlying24 ?_ r4 ?_); exact rfl; exact rfl; simp only [Act.put, List.setIfInBounds_toArray, List.set_cons_succ, List.set_cons_zero]) | ((with_reducible refine' wpList_len_rd (.tmp 27) 23 rfl ?_ Try.underlying23 ?_ r3 ?_); exact rfl; exact rfl; simp only [Act.put, List.setIfInBounds_toArray, List.set_cons_succ, List.set_cons_zero])
          | (go_at_call 11; (with_reducible refine (FIN.out).mono ?_); rintro e w' ⟨rfl, hw⟩; have hw2 := hw.symm; clear hw; subst hw2; rw [G1.out])
          | (go_at_call 14; (with_reducible refine (int_any _ _ Z0.out Z1.out).mono ?_); rintro e w' ⟨va, rfl, oa, hN⟩; replace hb := hb.trans ((by exact hN : Below _ _ _).mono hb.size); (try replace r2 := Rd.below r2 hN); (try replace r3 := Rd.below r3 hN); (try replace r4 := Rd.below r4 hN); have ra := Rd.of_own oa; clear oa; rw [Q0.out] at ra)
          | (go_at_call 16; (with_reducible refine (bytes_any s _ (by rw [NS.out]; omega)).mono ?_); rintro e w' ⟨vb, rfl, ob, hN⟩; replace hb := hb.trans ((by exact hN : Below _ _ _).mono hb.size); (try replace r2 := Rd.below r2 hN); (try replace r3 := Rd.below r3 hN); (try replace r4 := Rd.below r4 hN); (try replace ra := Rd.below ra hN); have rb := Rd.of_own ob; clear ob; rw [Q1.out] at rb)
          | (go_at_call 18; (with_reducible refine (ints_any v2 _ l _ r2 OL.out (by rw [Q2.out]; omega)).mono ?_); rintro e w' ⟨vc, rfl, oc, hN⟩; replace hb := hb.trans ((by exact hN : Below _ _ _).mono hb.size); (try replace r3 := Rd.below r3 hN); (try replace r4 := Rd.below r4 hN); (try replace ra := Rd.below ra hN); (try replace rb := Rd.below rb hN); have rc := Rd.of_own oc; clear oc; rw [Q2.out] at rc)
          | (go_at_call 20; (with_reducible refine (strings_any v3 _ x _ r3 (by rw [Q3.out]; omega)).mono ?_); rintro e w' ⟨vd, rfl, od, hN⟩; replace hb := hb.trans ((by exact hN : Below _ _ _).mono hb.size); (try replace r4 := Rd.below r4 hN); (try replace ra := Rd.below ra hN); (try replace rb := Rd.below rb hN); (try replace rc := Rd.below rc hN); have rd := Rd.of_own od; clear od; rw [Q3.out] at rd)
          | (go_at_call 22; (with_reducible refine (digests_any v4 _ d _ OD.out r4 (by rw [Q4.out]; omega)).mono ?_); rintro e w' ⟨ve, rfl, oe, hN⟩; replace hb := hb.trans ((by exact hN : Below _ _ _).mono hb.size); (try replace ra := Rd.below ra hN); (try replace rb := Rd.below rb hN); (try replace rc := Rd.below rc hN); (try replace rd := Rd.below rd hN); have re := Rd.of_own oe; clear oe; rw [Q4.out] at re)
          | (((with_reducible refine' wpList_build_cs (cs := [va, vb, vc, vd, ve]) rfl ?_ Try.underlying54 inf_bs ?_ ?_ ?_ ?_ ?_ ?_); exact rfl; exact rfl; omega; omega; exact rfl; (intro u hu; simp only [List.mem_cons, List.not_mem_nil, or_false] at hu; rcases hu with rfl | rfl | rfl | rfl | rfl; exact rd_one ra; exact rd_one rb; exact rd_one rc; exact rd_one rd; exact rd_one re); intro vf wf rf hN; simp only [Act.put, List.setIfInBounds_toArray, List.set_cons_succ, List.set_cons_zero]); replace hb := hb.trans ((by exact hN : Below _ _ _).mono hb.size); (try replace ra := Rd.below ra hN); (try replace rb := Rd.below rb hN); (try replace rc := Rd.below rc hN); (try replace rd := Rd.below rd hN); (try replace re := Rd.below re hN))
          | ((with_reducible refine' wpList_len_rd (.tmp 47) 54 rfl ?_ Try.underlying54 ?_ rf ?_); exact rfl; exact rfl; simp only [Act.put, List.setIfInBounds_toArray, List.set_cons_succ, List.set_cons_zero]))
        go_loopw [49] (fun i wr => ∃ j : Nat, j ≤ 5 ∧ i = .int .i64 j ∧ Below w.heap.size w wr ∧ Below wf.heap.size wf wr) (fun i _ => 5 - (intOf i).toNat)
        case atStart => exact ⟨0, by omega, rfl, hb, Below.refl _ _⟩
        case round =>
          obtain ⟨j, hj, rfl, hbj, hfj⟩ := hrel
          have hlj := rf.below hfj
          by_cases h5 : j < 5
          · have raj := ra.below hfj
            have rbj := rb.below hfj
            have rcj := rc.below hfj
            have rdj := rd.below hfj
            have rej := re.below hfj
            obtain rfl | rfl | rfl | rfl | rfl : j = 0 ∨ j = 1 ∨ j = 2 ∨ j = 3 ∨ j = 4 := by omega
            · skip
              obtain ⟨wo, rfl⟩ : ∃ wo : World, wo = wr := ⟨_, rfl⟩
              have hA : [va, vb, vc, vd, ve][0]? = some va := rfl
              have HA := Lib.hid hA
              clear hA
              go_upto_block 1 with fail
              go_cut [] (fun w' => Below w.heap.size w w' ∧ Below wf.heap.size wf w')
              case first =>
                go_wp2_with (first | ((with_reducible refine' wpList_at1_rd (.tmp 47) (.tmp 49) 54 rfl ?_ Try.underlying54 sz_bs ?_ hlj (0) ?_ ?_ ?_); exact rfl; exact rfl; (show (_ : Int) = _; omega); omega; simp only [Act.put, List.setIfInBounds_toArray, List.set_cons_succ, List.set_cons_zero]) | ((with_reducible refine' wpList_load_rd (.tmp 52) 28 rfl ?_ ld_bs ?_ hlj (HA.out) ?_); exact rfl; exact rfl; simp only [Act.put, List.setIfInBounds_toArray, List.set_cons_succ, List.set_cons_zero]) | ((with_reducible refine' wpList_len_rd (.tmp 54) 28 rfl ?_ Try.underlying28 ?_ raj ?_); exact rfl; exact rfl; simp only [Act.put, List.setIfInBounds_toArray, List.set_cons_succ, List.set_cons_zero]))
                go_loopw [57] (fun i wr => ∃ m : Nat, m ≤ q0 ∧ i = .int .i64 m ∧ Below w.heap.size w wr ∧ Below wf.heap.size wf wr) (fun i _ => q0 - (intOf i).toNat)
                case atStart => exact ⟨0, Nat.zero_le _, rfl, hbj, hfj⟩
                case round =>
                  obtain ⟨m, hm, rfl, hbm, hfm⟩ := hrel
                  by_cases hlt : m < q0
                  · have hp := P0.out m (by omega)
                    have hE := Lib.hid hp
                    clear hp
                    have hrm := ra.below hfm
                    go_wp2_with (first | ((with_reducible refine' wpList_to_b (.tmp 72) (.tmp 73) 28 rfl ?_ Try.underlying28 sz_u8 ?_ hrm (m) ?_ ?_ ?_); exact rfl; exact rfl; (show (_ : Int) = _; omega); omega; intro v5 r5; simp only [Act.put, List.setIfInBounds_toArray, List.set_cons_succ, List.set_cons_zero]) | (go_at_call 24; (with_reducible refine (getint_any v5 _ ((enc z).take m) _ r5).mono ?_); rintro e w' ⟨rfl, rfl⟩; unfold R3; rw [hE.out]))
                    go_roundw
                    case rel => first | exact ⟨m + 1, by omega, by go_num, hbm, hfm⟩ | ((repeat apply Exists.intro); refine ⟨?_, rfl⟩; exact ⟨m + 1, by omega, by go_num, hbm, hfm⟩)
                    case measure => simp [intOf]; omega
                  · go_wp2_with fail
                    go_meet
                    case rel => exact ⟨hbm, hfm⟩
              case rest =>
                obtain ⟨hbr, hfr⟩ := hcut
                go_wp2_with fail
                go_roundw
                case rel => exact ⟨0 + 1, by omega, by go_num, hbr, hfr⟩
                case measure => simp [intOf]
            · skip
              obtain ⟨wo, rfl⟩ : ∃ wo : World, wo = wr := ⟨_, rfl⟩
              have hA : [va, vb, vc, vd, ve][1]? = some vb := rfl
              have HA := Lib.hid hA
              clear hA
              go_upto_block 1 with fail
              go_cut [] (fun w' => Below w.heap.size w w' ∧ Below wf.heap.size wf w')
              case first =>
                go_wp2_with (first | ((with_reducible refine' wpList_at1_rd (.tmp 47) (.tmp 49) 54 rfl ?_ Try.underlying54 sz_bs ?_ hlj (1) ?_ ?_ ?_); exact rfl; exact rfl; (show (_ : Int) = _; omega); omega; simp only [Act.put, List.setIfInBounds_toArray, List.set_cons_succ, List.set_cons_zero]) | ((with_reducible refine' wpList_load_rd (.tmp 52) 28 rfl ?_ ld_bs ?_ hlj (HA.out) ?_); exact rfl; exact rfl; simp only [Act.put, List.setIfInBounds_toArray, List.set_cons_succ, List.set_cons_zero]) | ((with_reducible refine' wpList_len_rd (.tmp 54) 28 rfl ?_ Try.underlying28 ?_ rbj ?_); exact rfl; exact rfl; simp only [Act.put, List.setIfInBounds_toArray, List.set_cons_succ, List.set_cons_zero]))
                go_loopw [57] (fun i wr => ∃ m : Nat, m ≤ q1 ∧ i = .int .i64 m ∧ Below w.heap.size w wr ∧ Below wf.heap.size wf wr) (fun i _ => q1 - (intOf i).toNat)
                case atStart => exact ⟨0, Nat.zero_le _, rfl, hbj, hfj⟩
                case round =>
                  obtain ⟨m, hm, rfl, hbm, hfm⟩ := hrel
                  by_cases hlt : m < q1
                  · have hp := P1.out m (by omega)
                    have hE := Lib.hid hp
                    clear hp
                    have hrm := rb.below hfm
                    go_wp2_with (first | ((with_reducible refine' wpList_to_b (.tmp 82) (.tmp 83) 28 rfl ?_ Try.underlying28 sz_u8 ?_ hrm (m) ?_ ?_ ?_); exact rfl; exact rfl; (show (_ : Int) = _; omega); omega; intro v5 r5; simp only [Act.put, List.setIfInBounds_toArray, List.set_cons_succ, List.set_cons_zero]) | (go_at_call 26; (with_reducible refine (getbytes_any v5 _ ((encBytes s).take m) _ r5 (by omega)).mono ?_); rintro e w' ⟨rfl, rfl⟩; unfold RS; rw [hE.out]))
                    go_roundw
                    case rel => first | exact ⟨m + 1, by omega, by go_num, hbm, hfm⟩ | ((repeat apply Exists.intro); refine ⟨?_, rfl⟩; exact ⟨m + 1, by omega, by go_num, hbm, hfm⟩)
                    case measure => simp [intOf]; omega
                  · go_wp2_with fail
                    go_meet
                    case rel => exact ⟨hbm, hfm⟩
              case rest =>
                obtain ⟨hbr, hfr⟩ := hcut
                go_wp2_with fail
                go_roundw
                case rel => exact ⟨1 + 1, by omega, by go_num, hbr, hfr⟩
                case measure => simp [intOf]
            · skip
              obtain ⟨wo, rfl⟩ : ∃ wo : World, wo = wr := ⟨_, rfl⟩
              have hA : [va, vb, vc, vd, ve][2]? = some vc := rfl
              have HA := Lib.hid hA
              clear hA
              go_upto_block 1 with fail
              go_cut [] (fun w' => Below w.heap.size w w' ∧ Below wf.heap.size wf w')
              case first =>
                go_wp2_with (first | ((with_reducible refine' wpList_at1_rd (.tmp 47) (.tmp 49) 54 rfl ?_ Try.underlying54 sz_bs ?_ hlj (2) ?_ ?_ ?_); exact rfl; exact rfl; (show (_ : Int) = _; omega); omega; simp only [Act.put, List.setIfInBounds_toArray, List.set_cons_succ, List.set_cons_zero]) | ((with_reducible refine' wpList_load_rd (.tmp 52) 28 rfl ?_ ld_bs ?_ hlj (HA.out) ?_); exact rfl; exact rfl; simp only [Act.put, List.setIfInBounds_toArray, List.set_cons_succ, List.set_cons_zero]) | ((with_reducible refine' wpList_len_rd (.tmp 54) 28 rfl ?_ Try.underlying28 ?_ rcj ?_); exact rfl; exact rfl; simp only [Act.put, List.setIfInBounds_toArray, List.set_cons_succ, List.set_cons_zero]))
                go_loopw [57] (fun i wr => ∃ m : Nat, m ≤ q2 ∧ i = .int .i64 m ∧ Below w.heap.size w wr ∧ Below wf.heap.size wf wr) (fun i _ => q2 - (intOf i).toNat)
                case atStart => exact ⟨0, Nat.zero_le _, rfl, hbj, hfj⟩
                case round =>
                  obtain ⟨m, hm, rfl, hbm, hfm⟩ := hrel
                  by_cases hlt : m < q2
                  · have hp := P2.out m (by omega)
                    have hE := Lib.hid hp
                    clear hp
                    have hrm := rc.below hfm
                    go_wp2_with (first | ((with_reducible refine' wpList_to_b (.tmp 92) (.tmp 93) 28 rfl ?_ Try.underlying28 sz_u8 ?_ hrm (m) ?_ ?_ ?_); exact rfl; exact rfl; (show (_ : Int) = _; omega); omega; intro v5 r5; simp only [Act.put, List.setIfInBounds_toArray, List.set_cons_succ, List.set_cons_zero]) | (go_at_call 28; (with_reducible refine (getints_any v5 _ ((encList enc l).take m) _ r5 (by omega)).mono ?_); rintro e w' ⟨v6, rfl, _, hN⟩; rw [hE.out]; replace hbm := hbm.trans (hN.mono hbm.size); replace hfm := hfm.trans (hN.mono hfm.size)))
                    go_roundw
                    case rel => first | exact ⟨m + 1, by omega, by go_num, hbm, hfm⟩ | ((repeat apply Exists.intro); refine ⟨?_, rfl⟩; exact ⟨m + 1, by omega, by go_num, hbm, hfm⟩)
                    case measure => simp [intOf]; omega
                  · go_wp2_with fail
                    go_meet
                    case rel => exact ⟨hbm, hfm⟩
              case rest =>
                obtain ⟨hbr, hfr⟩ := hcut
                go_wp2_with fail
                go_roundw
                case rel => exact ⟨2 + 1, by omega, by go_num, hbr, hfr⟩
                case measure => simp [intOf]
            · by_cases h500 : q3 ≤ 500
              · skip
                obtain ⟨wo, rfl⟩ : ∃ wo : World, wo = wr := ⟨_, rfl⟩
                have hA : [va, vb, vc, vd, ve][3]? = some vd := rfl
                have HA := Lib.hid hA
                clear hA
                go_upto_block 1 with fail
                go_cut [] (fun w' => Below w.heap.size w w' ∧ Below wf.heap.size wf w')
                case first =>
                  go_wp2_with (first | ((with_reducible refine' wpList_at1_rd (.tmp 47) (.tmp 49) 54 rfl ?_ Try.underlying54 sz_bs ?_ hlj (3) ?_ ?_ ?_); exact rfl; exact rfl; (show (_ : Int) = _; omega); omega; simp only [Act.put, List.setIfInBounds_toArray, List.set_cons_succ, List.set_cons_zero]) | ((with_reducible refine' wpList_load_rd (.tmp 52) 28 rfl ?_ ld_bs ?_ hlj (HA.out) ?_); exact rfl; exact rfl; simp only [Act.put, List.setIfInBounds_toArray, List.set_cons_succ, List.set_cons_zero]) | ((with_reducible refine' wpList_len_rd (.tmp 54) 28 rfl ?_ Try.underlying28 ?_ rdj ?_); exact rfl; exact rfl; simp only [Act.put, List.setIfInBounds_toArray, List.set_cons_succ, List.set_cons_zero]))
                  go_loopw [57] (fun i wr => ∃ m : Nat, m ≤ q3 ∧ i = .int .i64 m ∧ Below w.heap.size w wr ∧ Below wf.heap.size wf wr) (fun i _ => q3 - (intOf i).toNat)
                  case atStart => exact ⟨0, Nat.zero_le _, rfl, hbj, hfj⟩
                  case round =>
                    obtain ⟨m, hm, rfl, hbm, hfm⟩ := hrel
                    by_cases hlt : m < q3
                    · have hp := P3.out m (by omega)
                      have hE := Lib.hid hp
                      clear hp
                      have hrm := rd.below hfm
                      go_wp2_with (first | ((with_reducible refine' wpList_to_b (.tmp 102) (.tmp 103) 28 rfl ?_ Try.underlying28 sz_u8 ?_ hrm (m) ?_ ?_ ?_); exact rfl; exact rfl; (show (_ : Int) = _; omega); omega; intro v5 r5; simp only [Act.put, List.setIfInBounds_toArray, List.set_cons_succ, List.set_cons_zero]) | (go_at_call 31; (with_reducible refine (getstrings_any v5 _ ((encList encBytes x).take m) _ r5 (by omega)).mono ?_); rintro e w' ⟨v6, rfl, _, hN⟩; rw [hE.out]; replace hbm := hbm.trans (hN.mono hbm.size); replace hfm := hfm.trans (hN.mono hfm.size)))
                      go_roundw
                      case rel => first | exact ⟨m + 1, by omega, by go_num, hbm, hfm⟩ | ((repeat apply Exists.intro); refine ⟨?_, rfl⟩; exact ⟨m + 1, by omega, by go_num, hbm, hfm⟩)
                      case measure => simp [intOf]; omega
                    · go_wp2_with fail
                      go_meet
                      case rel => exact ⟨hbm, hfm⟩
                case rest =>
                  obtain ⟨hbr, hfr⟩ := hcut
                  go_wp2_with fail
                  go_roundw
                  case rel => exact ⟨3 + 1, by omega, by go_num, hbr, hfr⟩
                  case measure => simp [intOf]
              · skip
                obtain ⟨wo, rfl⟩ : ∃ wo : World, wo = wr := ⟨_, rfl⟩
                have hA : [va, vb, vc, vd, ve][3]? = some vd := rfl
                have HA := Lib.hid hA
                clear hA
                go_upto_block 1 with fail
                go_cut [] (fun w' => Below w.heap.size w w' ∧ Below wf.heap.size wf w')
                case first =>
                  go_wp2_with (first | ((with_reducible refine' wpList_at1_rd (.tmp 47) (.tmp 49) 54 rfl ?_ Try.underlying54 sz_bs ?_ hlj (3) ?_ ?_ ?_); exact rfl; exact rfl; (show (_ : Int) = _; omega); omega; simp only [Act.put, List.setIfInBounds_toArray, List.set_cons_succ, List.set_cons_zero]) | ((with_reducible refine' wpList_load_rd (.tmp 52) 28 rfl ?_ ld_bs ?_ hlj (HA.out) ?_); exact rfl; exact rfl; simp only [Act.put, List.setIfInBounds_toArray, List.set_cons_succ, List.set_cons_zero]) | ((with_reducible refine' wpList_len_rd (.tmp 54) 28 rfl ?_ Try.underlying28 ?_ rdj ?_); exact rfl; exact rfl; simp only [Act.put, List.setIfInBounds_toArray, List.set_cons_succ, List.set_cons_zero]))
                  go_loopw [57] (fun i wr => ∃ m : Nat, m ≤ 500 ∧ i = .int .i64 m ∧ Below w.heap.size w wr ∧ Below wf.heap.size wf wr) (fun i _ => 500 - (intOf i).toNat)
                  case atStart => exact ⟨0, Nat.zero_le _, rfl, hbj, hfj⟩
                  case round =>
                    obtain ⟨m, hm, rfl, hbm, hfm⟩ := hrel
                    by_cases hlt : m < 500
                    · have hp := P3.out m (by omega)
                      have hE := Lib.hid hp
                      clear hp
                      have hrm := rd.below hfm
                      go_wp2_with (first | ((with_reducible refine' wpList_to_b (.tmp 102) (.tmp 103) 28 rfl ?_ Try.underlying28 sz_u8 ?_ hrm (m) ?_ ?_ ?_); exact rfl; exact rfl; (show (_ : Int) = _; omega); omega; intro v5 r5; simp only [Act.put, List.setIfInBounds_toArray, List.set_cons_succ, List.set_cons_zero]) | (go_at_call 31; (with_reducible refine (getstrings_any v5 _ ((encList encBytes x).take m) _ r5 (by omega)).mono ?_); rintro e w' ⟨v6, rfl, _, hN⟩; rw [hE.out]; replace hbm := hbm.trans (hN.mono hbm.size); replace hfm := hfm.trans (hN.mono hfm.size)))
                      go_roundw
                      case rel => first | exact ⟨m + 1, by omega, by go_num, hbm, hfm⟩ | ((repeat apply Exists.intro); refine ⟨?_, rfl⟩; exact ⟨m + 1, by omega, by go_num, hbm, hfm⟩)
                      case measure => simp [intOf]; omega
                    · go_wp2_with fail
                      go_meet
                      case rel => exact ⟨hbm, hfm⟩
                case rest =>
                  obtain ⟨hbr, hfr⟩ := hcut
                  go_wp2_with fail
                  go_roundw
                  case rel => exact ⟨3 + 1, by omega, by go_num, hbr, hfr⟩
                  case measure => simp [intOf]
            · skip
              obtain ⟨wo, rfl⟩ : ∃ wo : World, wo = wr := ⟨_, rfl⟩
              have hA : [va, vb, vc, vd, ve][4]? = some ve := rfl
              have HA := Lib.hid hA
              clear hA
              go_upto_block 1 with fail
              go_cut [] (fun w' => Below w.heap.size w w' ∧ Below wf.heap.size wf w')
              case first =>
                go_wp2_with (first | ((with_reducible refine' wpList_at1_rd (.tmp 47) (.tmp 49) 54 rfl ?_ Try.underlying54 sz_bs ?_ hlj (4) ?_ ?_ ?_); exact rfl; exact rfl; (show (_ : Int) = _; omega); omega; simp only [Act.put, List.setIfInBounds_toArray, List.set_cons_succ, List.set_cons_zero]) | ((with_reducible refine' wpList_load_rd (.tmp 52) 28 rfl ?_ ld_bs ?_ hlj (HA.out) ?_); exact rfl; exact rfl; simp only [Act.put, List.setIfInBounds_toArray, List.set_cons_succ, List.set_cons_zero]) | ((with_reducible refine' wpList_len_rd (.tmp 54) 28 rfl ?_ Try.underlying28 ?_ rej ?_); exact rfl; exact rfl; simp only [Act.put, List.setIfInBounds_toArray, List.set_cons_succ, List.set_cons_zero]))
                go_loopw [57] (fun i wr => ∃ m : Nat, m ≤ q4 ∧ i = .int .i64 m ∧ Below w.heap.size w wr ∧ Below wf.heap.size wf wr) (fun i _ => q4 - (intOf i).toNat)
                case atStart => exact ⟨0, Nat.zero_le _, rfl, hbj, hfj⟩
                case round =>
                  obtain ⟨m, hm, rfl, hbm, hfm⟩ := hrel
                  by_cases hlt : m < q4
                  · have hp := P4.out m (by omega)
                    have hE := Lib.hid hp
                    clear hp
                    have hrm := re.below hfm
                    go_wp2_with (first | ((with_reducible refine' wpList_to_b (.tmp 62) (.tmp 63) 28 rfl ?_ Try.underlying28 sz_u8 ?_ hrm (m) ?_ ?_ ?_); exact rfl; exact rfl; (show (_ : Int) = _; omega); omega; intro v5 r5; simp only [Act.put, List.setIfInBounds_toArray, List.set_cons_succ, List.set_cons_zero]) | (go_at_call 34; (with_reducible refine (getdigests_any v5 _ ((encList id d).take m) _ r5 (by omega)).mono ?_); rintro e w' ⟨v6, rfl, _, hN⟩; rw [hE.out]; replace hbm := hbm.trans (hN.mono hbm.size); replace hfm := hfm.trans (hN.mono hfm.size)))
                    go_roundw
                    case rel => first | exact ⟨m + 1, by omega, by go_num, hbm, hfm⟩ | ((repeat apply Exists.intro); refine ⟨?_, rfl⟩; exact ⟨m + 1, by omega, by go_num, hbm, hfm⟩)
                    case measure => simp [intOf]; omega
                  · go_wp2_with fail
                    go_meet
                    case rel => exact ⟨hbm, hfm⟩
              case rest =>
                obtain ⟨hbr, hfr⟩ := hcut
                go_wp2_with fail
                go_roundw
                case rel => exact ⟨4 + 1, by omega, by go_num, hbr, hfr⟩
                case measure => simp [intOf]
          · obtain rfl : j = 5 := by omega
            go_wp2_with (first | (go_at_call 12; (with_reducible refine (sanity_any _).mono ?_); rintro e w' ⟨rfl, hN⟩; replace hbj := hbj.trans (hN.mono hbj.size)))
            go_ret
            exact ⟨rfl, hbj⟩
      · have g1 : decide (nx + sumL x ≤ 2000) = false := decide_eq_false h1
        have G1 := Lib.hid g1
        clear g1
        have hle : decide (400 < (ns : Int) + 9 * nl + 16 * nd) = false := by simp; omega
        go_enter Try.func9, Try.ntmps9
        go_wp2_with (first
          | ((with_reducible refine' wpList_len_rd (.tmp 17) 22 rfl ?_ Try.underlying22 ?_ r2 ?_); exact rfl; exact rfl; simp only [Act.put, List.setIfInBounds_toArray, List.set_cons_succ, List.set_cons_zero]) | ((with_reducible refine' wpList_len_rd (.tmp 21) 24 rfl ?_ Try.underlying24 ?_ r4 ?_); exact rfl; exact rfl; simp only [Act.put, List.setIfInBounds_toArray, List.set_cons_succ, List.set_cons_zero]) | ((with_reducible refine' wpList_len_rd (.tmp 27) 23 rfl ?_ Try.underlying23 ?_ r3 ?_); exact rfl; exact rfl; simp only [Act.put, List.setIfInBounds_toArray, List.set_cons_succ, List.set_cons_zero])
          | (go_at_call 11; (with_reducible refine (FIN.out).mono ?_); rintro e w' ⟨rfl, hw⟩; have hw2 := hw.symm; clear hw; subst hw2; rw [G1.out])
          | (go_at_call 12; (with_reducible refine (sanity_any _).mono ?_); rintro e w' ⟨rfl, hN⟩; replace hb := hb.trans ((by exact hN : Below _ _ _).mono hb.size)))
        go_ret
        exact ⟨rfl, hb⟩
    · rw [hnx] at r3
      have hle : decide (400 < (ns : Int) + 9 * nl + 16 * nd) = false := by simp; omega
      have hlf : decide (40 < (nx : Int)) = true := by simp; omega
      go_enter Try.func9, Try.ntmps9
      go_wp2_with (first
        | ((with_reducible refine' wpList_len_rd (.tmp 17) 22 rfl ?_ Try.underlying22 ?_ r2 ?_); exact rfl; exact rfl; simp only [Act.put, List.setIfInBounds_toArray, List.set_cons_succ, List.set_cons_zero]) | ((with_reducible refine' wpList_len_rd (.tmp 21) 24 rfl ?_ Try.underlying24 ?_ r4 ?_); exact rfl; exact rfl; simp only [Act.put, List.setIfInBounds_toArray, List.set_cons_succ, List.set_cons_zero]) | ((with_reducible refine' wpList_len_rd (.tmp 27) 23 rfl ?_ Try.underlying23 ?_ r3 ?_); exact rfl; exact rfl; simp only [Act.put, List.setIfInBounds_toArray, List.set_cons_succ, List.set_cons_zero])
        | (go_at_call 12; (with_reducible refine (sanity_any _).mono ?_); rintro e w' ⟨rfl, hN⟩; replace hb := hb.trans ((by exact hN : Below _ _ _).mono hb.size)))
      go_ret
      exact ⟨rfl, hb⟩
  · have hle : decide (400 < (ns : Int) + 9 * nl + 16 * nd) = true := by simp; omega
    go_enter Try.func9, Try.ntmps9
    go_wp2_with (first
      | ((with_reducible refine' wpList_len_rd (.tmp 17) 22 rfl ?_ Try.underlying22 ?_ r2 ?_); exact rfl; exact rfl; simp only [Act.put, List.setIfInBounds_toArray, List.set_cons_succ, List.set_cons_zero]) | ((with_reducible refine' wpList_len_rd (.tmp 21) 24 rfl ?_ Try.underlying24 ?_ r4 ?_); exact rfl; exact rfl; simp only [Act.put, List.setIfInBounds_toArray, List.set_cons_succ, List.set_cons_zero])
      | (go_at_call 12; (with_reducible refine (sanity_any _).mono ?_); rintro e w' ⟨rfl, hN⟩; replace hb := hb.trans ((by exact hN : Below _ _ _).mono hb.size)))
    go_ret
    exact ⟨rfl, hb⟩
end Go.Proofs.Ytomjniijnpnehaa.Wi
