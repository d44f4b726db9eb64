/-
  Tac, Gac: my texts of these names, one behind the other. Conditions: those that each law names.
-/
import Derived.Test.YtajglgkjpagcjaaDoorMk
import Derived.Test.YtajglgkjpagcjaaDoorMc
import Derived.WalkKit
import Derived.ProofKit
import Derived.OpenShut
import Derived.ShutString
import Derived.JoinedCond
import Derived.SizedLaws
import Derived.Deep.CondSized
import Derived.Test.YtajglgkjpagcjaaDoorTie
import Derived.Test.YtajglgkjpagcjaaDoorCards
import Derived.SevenTiedAt
import Derived.Stop.Joined
import Derived.LaidMore
import Derived.WideKeyPair
namespace Go.Proofs.YtajglgkjpagcjaaDoor.Wi
open Go Go.RowKit Pu Lb
set_option linter.unusedSimpArgs false
set_option linter.unusedVariables false
attribute [local irreducible] comp sched comps sha outS mac digOf digs verV sigV nodeAt

theorem enc_short {i : Nat} (h : i < 65536) : (enc (i : Int)).length ≤ 3 := by
  have h1 : (encB i).length ≤ 3 := by unfold encB; split <;> (try split) <;> simp only [List.length_cons, List.length_nil] <;> decide
  rw [encB_eq h, List.length_map] at h1; exact h1
set_option maxRecDepth 100000 in
set_option maxHeartbeats 3200000 in
theorem accepted_law (c hg ix : UInt8) (m : List UInt8) (w : World) (hT : TabH w) :
    Calls Tryd.prog 6 #[.int .u8 (c.toNat : Int), .int .u8 (hg.toNat : Int), .int .u8 (ix.toNat : Int), .string ⟨m.toArray⟩] w fun e w' => e = .returned (.bool true) ∧ Below w.heap.size w w' := by
  have hsm := size_str m
  have hc8 := u8_lt c
  have hg8 := u8_lt hg
  have hi8 := u8_lt ix
  go_enter Tryd.func6, Tryd.ntmps6
  have hb := Below.refl w.heap.size w
  go_upto_region 2 with ((go_at_call 9; (with_reducible refine (sanity_any _ hT).mono ?_); rintro e w' ⟨rfl, hN⟩); replace hb := hb.trans ((by exact hN : Below _ _ _).mono hb.size))
  by_cases hm : 200 < m.length
  · go_wp2_with fail
    go_ret
    exact ⟨rfl, hb⟩
  have M7 := Lib.hid (show m.length ≤ 140737488355328 by omega)
  have L1 := Lib.hid (show decide (200 < (m.length : Int)) = false by rw [decide_eq_false_iff_not]; omega)
  go_upto_region 5 with (rw [L1.out])
  obtain ⟨l, hl⟩ : ∃ l, hg.toNat % 3 = l := ⟨_, rfl⟩
  rw [show ((hg.toNat : Int) % 3) = (l : Int) by omega]
  have hl2 : l ≤ 2 := by omega
  clear hl
  have hpw := wrap_pow (show l ≤ 6 by omega)
  obtain ⟨K, hK⟩ : ∃ K : Nat, 2 ^ l = K := ⟨_, rfl⟩
  rw [hK] at hpw
  have hK0 : 0 < K := by rw [← hK]; exact Nat.pos_of_ne_zero (by simp)
  go_upto_region 6 with fail
  obtain ⟨i, hi⟩ : ∃ i, ix.toNat % K = i := ⟨_, rfl⟩
  have hiK : i < K := by rw [← hi]; exact Nat.mod_lt _ hK0
  have hie : ((ix.toNat : Int) % (K : Int)) = (i : Int) := by rw [← hi]; omega
  rw [hie]
  have hK4 : K ≤ 2 ^ 2 := by rw [← hK]; exact Nat.pow_le_pow_right (by decide) hl2
  have hi2 : i < 2 ^ l := by rw [hK]; exact hiK
  clear hie hi hpw
  obtain ⟨sd, hsd⟩ : ∃ s, List.replicate 32 c = s := ⟨_, rfl⟩
  have SD := Lib.hid hsd
  have h32 : sd.length = 32 := by rw [← hsd, List.length_replicate]
  have SL := Lib.hid (show sd.length ≤ 1000000 by omega)
  obtain ⟨P, hP⟩ : ∃ P, nodeAt sd l 0 = P := ⟨_, rfl⟩
  obtain ⟨S, hS⟩ : ∃ S, sigV sd l i m = S := ⟨_, rfl⟩
  have hm2 : m.length ≤ 1048576 := by omega
  have P16 := Lib.hid (show P.length = 16 by rw [← hP]; exact nodeAt_len _ _ _)
  have PB := Lib.hid (show (bv P).length = 16 by rw [bv_length, P16.out])
  have E1 := Lib.hid (show D2 (pubV sd (l : Int)) = .tuple #[.agg (bv P).toArray, .int .i64 0] by rw [pub_good ⟨h32, by omega, by omega⟩, Int.toNat_natCast, hP]; rfl)
  have E2 := Lib.hid (show S2 (signV sd (l : Int) (i : Int) m) = .tuple #[.string ⟨S.toArray⟩, .int .i64 0] by
    rw [sign_good ⟨h32, by omega, by omega⟩ (by rw [Int.toNat_natCast, show ((2 : Int) ^ l) = (K : Int) by rw [← hK]; simp]; omega) (by omega), Int.toNat_natCast, Int.toNat_natCast, hS]; rfl)
  have E3 := Lib.hid (show RZ (verV P (l : Int) m S) = .tuple #[.int .i64 (i : Int), .int .i64 0] by rw [← hP, ← hS, accept sd l i m (by omega) hi2 hm2]; rfl)
  have E4 := Lib.hid (show RZ (verV P (l : Int) m (S ++ [120])) = .tuple #[.int .i64 0, .int .i64 2] by rw [← hP, ← hS, longer sd l i m 120 (by omega) hi2 hm2]; rfl)
  have E5 := Lib.hid (show RZ (verV P (l : Int) m (S.take (S.length - 1))) = .tuple #[.int .i64 0, .int .i64 2] by rw [← hP, ← hS, shorter sd l i m (by omega) hi2 hm2]; rfl)
  have hSl : 1000 < S.length ∧ S.length ≤ 2000 := by
    have h1 := enc_short (i := i) (by omega)
    rw [← hS, sig_rest, List.length_append, rest_len]; omega
  have hss := size_str S
  have G1 := Lib.hid (show S.length ≤ 1000000 by omega)
  have G2 := Lib.hid (show (S ++ [120]).length ≤ 1000000 by rw [List.length_append]; simp; omega)
  have G3 := Lib.hid (show (S.take (S.length - 1)).length ≤ 1000000 by rw [List.length_take]; omega)
  have G4 := Lib.hid (show S.length + ([120] : List UInt8).length ≤ 9223372036854775807 by simp; omega)
  have LN := Lib.hid (show decide ((S.length : Int) < 2) = false by rw [decide_eq_false_iff_not]; omega)
  have TS := Lib.hid (show ((S.length : Int) - 1) = ((S.length - 1 : Nat) : Int) by omega)
  have IB := Lib.hid (show ((i : Int) == (i : Int)) = true by simp)
  clear hsd h32 hP hS hm hm2 hK hK4 hK0 hiK hi2 hl2 hg8 hi8
  have hT1 := hT.below hb
  go_upto_region 7 with (first
    | ((go_at_call 20; (with_reducible refine (seed_any c _).mono ?_); rintro e w' ⟨rfl, hN⟩); rw [SD.out]; replace hb := hb.trans ((by exact hN : Below _ _ _).mono hb.size); have hT2 := hT.below hb)
    | ((go_at_call 12; (with_reducible refine (public_any sd (l : Int) _ hT2 SL.out).mono ?_); rintro e w' ⟨rfl, hN⟩); rw [E1.out]; replace hb := hb.trans ((by exact hN : Below _ _ _).mono hb.size); have y1 := hb.size)
    | (((with_reducible refine' wpList_alloc_blk (cs := List.replicate 16 (.int .u8 0)) 23 rfl ?_ zr_dig ?_ ?_); exact rfl; exact zeros_u8 16; intro wa k1 hN hz1; simp only [Act.put, List.setIfInBounds_toArray, List.set_cons_succ, List.set_cons_zero]); replace hb := hb.trans ((by exact hN : Below _ _ _).mono hb.size))
    | (((with_reducible refine' wpList_store_blk (cs := bv P) 23 (.tmp 12) (.tmp 40) rfl ?_ ?_ ?_ k1 sz_dig ?_ ?_ ?_ ?_); exact rfl; exact rfl; exact rfl; exact PB.out; exact List.length_replicate; exact bv_one _; intro wb k1b hO hz2; simp only [Act.put]); replace hb := hb.trans (hO.below y1 hb.size); replace k1 := k1b))
  obtain ⟨B1, hB1⟩ : ∃ B, w'.heap.size = B := ⟨_, rfl⟩
  rw [hB1] at k1 ⊢
  clear hT1 hT2 hO k1b hB1
  go_upto_region 8 with (first
    | ((go_at_call 20; (with_reducible refine (seed_any c _).mono ?_); rintro e w' ⟨rfl, hN⟩); rw [SD.out]; replace hb := hb.trans ((by exact hN : Below _ _ _).mono hb.size); (try replace k1 := Blk.below k1 hN (Blk.lt k1)); have hT2 := hT.below hb)
    | ((go_at_call 14; (with_reducible refine (sign_any sd m (l : Int) (i : Int) _ hT2 SL.out M7.out).mono ?_); rintro e w' ⟨rfl, hN⟩); rw [E2.out]; replace hb := hb.trans ((by exact hN : Below _ _ _).mono hb.size); (try replace k1 := Blk.below k1 hN (Blk.lt k1))))
  clear hT2
  have hT1 := hT.below hb
  go_upto_region 9 with (first
    | ((with_reducible refine' wpList_loadall_blk (.tmp 12) 23 rfl ?_ Tryd.underlying23 sz_dig ?_ k1 ?_ ?_ ?_); exact rfl; exact rfl; exact PB.out; omega; simp only [Act.put, List.setIfInBounds_toArray, List.set_cons_succ, List.set_cons_zero])
    | ((go_at_call 18; (with_reducible refine (verify_any P m S (l : Int) _ hT1 P16.out M7.out G1.out).mono ?_); rintro e w' ⟨rfl, hN⟩); rw [E3.out]; replace hb := hb.trans ((by exact hN : Below _ _ _).mono hb.size); (try replace k1 := Blk.below k1 hN (Blk.lt k1))))
  clear hT1
  have hT1 := hT.below hb
  go_upto_region 12 with (first
    | (rw [LN.out])
    | ((with_reducible refine' wpList_loadall_blk (.tmp 12) 23 rfl ?_ Tryd.underlying23 sz_dig ?_ k1 ?_ ?_ ?_); exact rfl; exact rfl; exact PB.out; omega; simp only [Act.put, List.setIfInBounds_toArray, List.set_cons_succ, List.set_cons_zero])
    | ((with_reducible refine' wpList_str_add (l := S) (m := [120]) (.tmp 78) _ 9 9 rfl ?_ ?_ ?_ ?_ ?_); exact rfl; exact rfl; exact rfl; exact G4.out)
    | ((go_at_call 18; (with_reducible refine (verify_any P m (S ++ [120]) (l : Int) _ hT1 P16.out M7.out G2.out).mono ?_); rintro e w' ⟨rfl, hN⟩); rw [E4.out]; replace hb := hb.trans ((by exact hN : Below _ _ _).mono hb.size); (try replace k1 := Blk.below k1 hN (Blk.lt k1))))
  clear hT1
  have hT1 := hT.below hb
  obtain ⟨ws, rfl⟩ : ∃ ws : World, ws = w' := ⟨_, rfl⟩
  refine wp_region_mono (w := ws) 13 (fun i => match i with | 0 => fun (vv : Value) (ww : World) => vv = .agg (bv P).toArray | 1 => fun (vv : Value) (ww : World) => vv = .int .i64 (l : Int) | 2 => fun (vv : Value) (ww : World) => vv = .string ⟨m.toArray⟩ | 3 => fun (vv : Value) (ww : World) => vv = .string ⟨S.toArray⟩ | 4 => fun (vv : Value) (ww : World) => vv = .string ⟨S.toArray⟩ | 5 => fun (vv : Value) (ww : World) => vv = .int .i64 (S.length : Int) | 6 => fun (vv : Value) (ww : World) => vv = .int .i64 ((S.length - 1 : Nat) : Int) | 7 => fun (vv : Value) (ww : World) => vv = .string ⟨(S.take (S.length - 1)).toArray⟩ | 8 => fun (vv : Value) (ww : World) => vv = .tuple #[.int .i64 0, .int .i64 2] | 9 => fun (vv : Value) (ww : World) => vv = .tuple #[.int .i64 0, .int .i64 2] | 10 => fun (vv : Value) (ww : World) => vv = .int .i64 0 | 11 => fun (vv : Value) (ww : World) => vv = .int .i64 2 | 12 => fun (vv : Value) (ww : World) => vv = .int .i64 0 | _ => fun _ _ => True) (by kernel_rfl) (by kernel_rfl) ?_ ?_ ?_
  · intro i vv w1 w2 h hb
    rcases i with _ | _ | _ | _ | _ | _ | _ | _ | _ | _ | _ | _ | _ | i
    all_goals first | exact h | exact Rd.below h hb | exact own_below h hb | (obtain ⟨B, h1, h2, h3⟩ := h; exact ⟨B, h1, h2, Blk.below h3 hb (Blk.lt h3)⟩) | trivial
  · intro i o hi ho us wz hl hbz hd
    obtain ⟨u0, u1, u2, u3, u4, u5, u6, u7, u8, u9, u10, u11, u12, rfl⟩ := len13 hl
    rcases i with _ | _ | _ | _ | _ | _ | _ | _ | _ | _ | _ | _ | _ | i
    · simp only [List.getElem?_cons_succ, List.getElem?_cons_zero, Option.some.injEq] at ho; subst ho; clear hi hl
      clear hd
      simp only [List.take_succ_cons, List.take_zero, List.drop_succ_cons, List.drop_zero, List.map_cons, List.map_nil, puts, Act.put, List.setIfInBounds_toArray, List.set_cons_succ, List.set_cons_zero]
      go_wp2_with (((with_reducible refine' wpList_loadall_blk (.tmp 12) 23 rfl ?_ Tryd.underlying23 sz_dig ?_ (k1.below hbz k1.lt) ?_ ?_ ?_); exact rfl; exact rfl; exact PB.out; omega; simp only [Act.put, List.setIfInBounds_toArray, List.set_cons_succ, List.set_cons_zero]))
      exact ⟨rfl, _, rfl, Below.refl _ _, rfl⟩
    · simp only [List.getElem?_cons_succ, List.getElem?_cons_zero, Option.some.injEq] at ho; subst ho; clear hi hl
      clear hd
      simp only [List.take_succ_cons, List.take_zero, List.drop_succ_cons, List.drop_zero, List.map_cons, List.map_nil, puts, Act.put, List.setIfInBounds_toArray, List.set_cons_succ, List.set_cons_zero]
      go_wp2_with (fail)
      exact ⟨rfl, _, rfl, Below.refl _ _, rfl⟩
    · simp only [List.getElem?_cons_succ, List.getElem?_cons_zero, Option.some.injEq] at ho; subst ho; clear hi hl
      clear hd
      simp only [List.take_succ_cons, List.take_zero, List.drop_succ_cons, List.drop_zero, List.map_cons, List.map_nil, puts, Act.put, List.setIfInBounds_toArray, List.set_cons_succ, List.set_cons_zero]
      go_wp2_with (fail)
      exact ⟨rfl, _, rfl, Below.refl _ _, rfl⟩
    · simp only [List.getElem?_cons_succ, List.getElem?_cons_zero, Option.some.injEq] at ho; subst ho; clear hi hl
      clear hd
      simp only [List.take_succ_cons, List.take_zero, List.drop_succ_cons, List.drop_zero, List.map_cons, List.map_nil, puts, Act.put, List.setIfInBounds_toArray, List.set_cons_succ, List.set_cons_zero]
      go_wp2_with (fail)
      exact ⟨rfl, _, rfl, Below.refl _ _, rfl⟩
    · simp only [List.getElem?_cons_succ, List.getElem?_cons_zero, Option.some.injEq] at ho; subst ho; clear hi hl
      clear hd
      simp only [List.take_succ_cons, List.take_zero, List.drop_succ_cons, List.drop_zero, List.map_cons, List.map_nil, puts, Act.put, List.setIfInBounds_toArray, List.set_cons_succ, List.set_cons_zero]
      go_wp2_with (fail)
      exact ⟨rfl, _, rfl, Below.refl _ _, rfl⟩
    · simp only [List.getElem?_cons_succ, List.getElem?_cons_zero, Option.some.injEq] at ho; subst ho; clear hi hl
      have s4 : (fun (vv : Value) (ww : World) => vv = .string ⟨S.toArray⟩) u4 wz := hd 4 (by kernel_rfl)
      simp only at s4
      obtain rfl := s4
      clear hd
      simp only [List.take_succ_cons, List.take_zero, List.drop_succ_cons, List.drop_zero, List.map_cons, List.map_nil, puts, Act.put, List.setIfInBounds_toArray, List.set_cons_succ, List.set_cons_zero]
      go_wp2_with (fail)
      exact ⟨rfl, _, rfl, Below.refl _ _, by simp⟩
    · simp only [List.getElem?_cons_succ, List.getElem?_cons_zero, Option.some.injEq] at ho; subst ho; clear hi hl
      have s5 : (fun (vv : Value) (ww : World) => vv = .int .i64 (S.length : Int)) u5 wz := hd 5 (by kernel_rfl)
      simp only at s5
      obtain rfl := s5
      clear hd
      simp only [List.take_succ_cons, List.take_zero, List.drop_succ_cons, List.drop_zero, List.map_cons, List.map_nil, puts, Act.put, List.setIfInBounds_toArray, List.set_cons_succ, List.set_cons_zero]
      go_wp2_with (fail)
      exact ⟨rfl, _, rfl, Below.refl _ _, by rw [TS.out]⟩
    · simp only [List.getElem?_cons_succ, List.getElem?_cons_zero, Option.some.injEq] at ho; subst ho; clear hi hl
      have s3 : (fun (vv : Value) (ww : World) => vv = .string ⟨S.toArray⟩) u3 wz := hd 3 (by kernel_rfl)
      simp only at s3
      obtain rfl := s3
      have s6 : (fun (vv : Value) (ww : World) => vv = .int .i64 ((S.length - 1 : Nat) : Int)) u6 wz := hd 6 (by kernel_rfl)
      simp only at s6
      obtain rfl := s6
      clear hd
      simp only [List.take_succ_cons, List.take_zero, List.drop_succ_cons, List.drop_zero, List.map_cons, List.map_nil, puts, Act.put, List.setIfInBounds_toArray, List.set_cons_succ, List.set_cons_zero]
      ((with_reducible refine' wpList_str_to (l := S) (.tmp 87) _ 9 rfl ?_ Tryd.underlying9 ?_ (S.length - 1) ?_ ?_ ?_); exact rfl; exact rfl; exact rfl; exact Nat.sub_le _ _)
      exact ⟨rfl, _, rfl, Below.refl _ _, rfl⟩
    · simp only [List.getElem?_cons_succ, List.getElem?_cons_zero, Option.some.injEq] at ho; subst ho; clear hi hl
      have s0 : (fun (vv : Value) (ww : World) => vv = .agg (bv P).toArray) u0 wz := hd 0 (by kernel_rfl)
      simp only at s0
      obtain rfl := s0
      have s1 : (fun (vv : Value) (ww : World) => vv = .int .i64 (l : Int)) u1 wz := hd 1 (by kernel_rfl)
      simp only at s1
      obtain rfl := s1
      have s2 : (fun (vv : Value) (ww : World) => vv = .string ⟨m.toArray⟩) u2 wz := hd 2 (by kernel_rfl)
      simp only at s2
      obtain rfl := s2
      have s7 : (fun (vv : Value) (ww : World) => vv = .string ⟨(S.take (S.length - 1)).toArray⟩) u7 wz := hd 7 (by kernel_rfl)
      simp only at s7
      obtain rfl := s7
      clear hd
      simp only [List.take_succ_cons, List.take_zero, List.drop_succ_cons, List.drop_zero, List.map_cons, List.map_nil, puts, Act.put, List.setIfInBounds_toArray, List.set_cons_succ, List.set_cons_zero]
      go_wp2_with (((go_at_call 18; (with_reducible refine (verify_any P m (S.take (S.length - 1)) (l : Int) _ (hT1.below hbz) P16.out M7.out G3.out).mono ?_); rintro e w' ⟨rfl, hN⟩); rw [E5.out]))
      exact ⟨rfl, _, rfl, hN, rfl⟩
    · simp only [List.getElem?_cons_succ, List.getElem?_cons_zero, Option.some.injEq] at ho; subst ho; clear hi hl
      have s8 : (fun (vv : Value) (ww : World) => vv = .tuple #[.int .i64 0, .int .i64 2]) u8 wz := hd 8 (by kernel_rfl)
      simp only at s8
      obtain rfl := s8
      clear hd
      simp only [List.take_succ_cons, List.take_zero, List.drop_succ_cons, List.drop_zero, List.map_cons, List.map_nil, puts, Act.put, List.setIfInBounds_toArray, List.set_cons_succ, List.set_cons_zero]
      go_wp2_with (fail)
      exact ⟨rfl, _, rfl, Below.refl _ _, rfl⟩
    · simp only [List.getElem?_cons_succ, List.getElem?_cons_zero, Option.some.injEq] at ho; subst ho; clear hi hl
      have s9 : (fun (vv : Value) (ww : World) => vv = .tuple #[.int .i64 0, .int .i64 2]) u9 wz := hd 9 (by kernel_rfl)
      simp only at s9
      obtain rfl := s9
      clear hd
      simp only [List.take_succ_cons, List.take_zero, List.drop_succ_cons, List.drop_zero, List.map_cons, List.map_nil, puts, Act.put, List.setIfInBounds_toArray, List.set_cons_succ, List.set_cons_zero]
      go_wp2_with (fail)
      exact ⟨rfl, _, rfl, Below.refl _ _, rfl⟩
    · simp only [List.getElem?_cons_succ, List.getElem?_cons_zero, Option.some.injEq] at ho; subst ho; clear hi hl
      have s9 : (fun (vv : Value) (ww : World) => vv = .tuple #[.int .i64 0, .int .i64 2]) u9 wz := hd 9 (by kernel_rfl)
      simp only at s9
      obtain rfl := s9
      clear hd
      simp only [List.take_succ_cons, List.take_zero, List.drop_succ_cons, List.drop_zero, List.map_cons, List.map_nil, puts, Act.put, List.setIfInBounds_toArray, List.set_cons_succ, List.set_cons_zero]
      go_wp2_with (fail)
      exact ⟨rfl, _, rfl, Below.refl _ _, rfl⟩
    · simp only [List.getElem?_cons_succ, List.getElem?_cons_zero, Option.some.injEq] at ho; subst ho; clear hi hl
      have s10 : (fun (vv : Value) (ww : World) => vv = .int .i64 0) u10 wz := hd 10 (by kernel_rfl)
      simp only at s10
      obtain rfl := s10
      clear hd
      simp only [List.take_succ_cons, List.take_zero, List.drop_succ_cons, List.drop_zero, List.map_cons, List.map_nil, puts, Act.put, List.setIfInBounds_toArray, List.set_cons_succ, List.set_cons_zero]
      go_wp2_with (fail)
      exact ⟨rfl, _, rfl, Below.refl _ _, rfl⟩
    · omega
  intro us wz hl hbz hS
  obtain ⟨u0, u1, u2, u3, u4, u5, u6, u7, u8, u9, u10, u11, u12, rfl⟩ := len13 hl
  have s11 : (fun (vv : Value) (ww : World) => vv = .int .i64 2) u11 wz := hS 11 (by omega)
  simp only at s11
  obtain rfl := s11
  clear hS hl
  simp only [List.take_succ_cons, List.take_zero, List.drop_succ_cons, List.drop_zero, List.map_cons, List.map_nil, puts, Act.put, List.setIfInBounds_toArray, List.set_cons_succ, List.set_cons_zero]
  go_wp2_with fail
  refine onlyN ?_
  go_wp2_with (first | (rw [IB.out]))
  go_ret
  exact ⟨rfl, hb.trans (hbz.mono hb.size)⟩
end Go.Proofs.YtajglgkjpagcjaaDoor.Wi
namespace Go.Proofs.YtajglgkjpagcjaaDoor.signIsAccepted
open Go.ChangeShapes Go.WideShapes Go.ChangeAt Go.RowKit
open Go.Proofs.YtajglgkjpagcjaaDoor.Wi Go.Proofs.YtajglgkjpagcjaaDoor.Pu Go.Proofs.YtajglgkjpagcjaaDoor.Lb
set_option linter.unusedVariables false

theorem own : ownKnob Tryd.prog.godebug = none := by kernel_rfl
theorem laidOut : laidOutB Tryd.prog = true := by kernel_rfl

set_option maxRecDepth 100000 in
theorem lifted (os : Os) (started : os.Started) (H : Type) (enc : TypeId × Value → H) :
    ReturnsInHanded {} Tryd.checked os 6 .any (fun w args => (Rows.signIsAcceptedSpec.pre enc Tryd.prog Tryd.f6 [] false w args ∧ laidMetH Tryd.prog lH w) ∧ sizedMet enc Tryd.prog Tryd.f6 (OpenSpec.ofChange Rows.signIsAcceptedSpec) false w args) (Rows.signIsAcceptedSpec.post enc Tryd.prog Tryd.f6 false true false false) := by
  refine returnsInHanded_of_change_and (C := Tryd.checked) (X := fun w _ => laidMetH Tryd.prog lH w) (fun _ _ _ hh h => h.of_heap hh) own started (by kernel_rfl) Tryd.func6
    (ChangeSpec.witness_shaped (enc := enc) (C := Tryd.checked) (os := os) (X := fun w _ => laidMetH Tryd.prog lH w) false (World.doorLaid Tryd.prog 19 os) #[.int .u8 0, .int .u8 0, .int .u8 0, .string ByteArray.empty] 8 rfl (World.shaped_of_RefB (by kernel_rfl) (by kernel_rfl)) (by kernel_rfl) (by kernel_rfl) (by kernel_rfl) (doorH os _)) ?_
  intro W base args ds gs before hval0 hW hcnd hk hL _
  have hT := tabH_of hL
  have hval : ∀ (j : Nat) t v, Tryd.f6.params[j]? = some t → args[j]? = some v → Value.okWide Tryd.prog W .any base t v := hval0
  have hW' := hW
  obtain ⟨p, q, hA0, hV, rfl, hfz, hnd⟩ := hW
  have hA : DataW.TrodAll enc Tryd.prog W 0 (fun _ => true) true Tryd.f6.params.toList args.toList ds p := hA0
  rw [Tryd.params6] at hA hval
  obtain ⟨v0, vs0, d0, ds0, p0, q0, hargs, rfl, rfl, h0, t0⟩ := trodAll_cons hA
  obtain ⟨v1, vs1, d1, ds1, p1, q1, rfl, rfl, rfl, h1, t1⟩ := trodAll_cons t0
  obtain ⟨v2, vs2, d2, ds2, p2, q2, rfl, rfl, rfl, h2, t2⟩ := trodAll_cons t1
  obtain ⟨v3, vs3, d3, ds3, p3, q3, rfl, rfl, rfl, h3, t3⟩ := trodAll_cons t2
  obtain ⟨rfl, rfl, rfl⟩ := trodAll_nil t3
  obtain rfl : args = #[v0, v1, v2, v3] := by cases args; simp_all
  obtain ⟨rfl, rfl⟩ := trodVars_none hV
  clear hA0 hval0
  have b0 : ∀ x ∈ p0, x.block < W.heap.size := by obtain ⟨m, hm⟩ := h0; exact DataW.trod_lt m _ _ _ hm
  have k0 := h0
  have b1 : ∀ x ∈ p1, x.block < W.heap.size := by obtain ⟨m, hm⟩ := h1; exact DataW.trod_lt m _ _ _ hm
  have k1 := h1
  have b2 : ∀ x ∈ p2, x.block < W.heap.size := by obtain ⟨m, hm⟩ := h2; exact DataW.trod_lt m _ _ _ hm
  have k2 := h2
  have b3 : ∀ x ∈ p3, x.block < W.heap.size := by obtain ⟨m, hm⟩ := h3; exact DataW.trod_lt m _ _ _ hm
  have k3 := h3
  obtain ⟨z0, rfl, wf0⟩ := op_int Tryd.underlying5 (hval 0 5 v0 rfl rfl) h0
  obtain ⟨z1, rfl, wf1⟩ := op_int Tryd.underlying5 (hval 1 5 v1 rfl rfl) h1
  obtain ⟨z2, rfl, wf2⟩ := op_int Tryd.underlying5 (hval 2 5 v2 rfl rfl) h2
  obtain ⟨s3, rfl, m3, rfl⟩ := op_str Tryd.underlying9 (hval 3 9 v3 rfl rfl) h3
  have n3 := sized_str hk (j := 3) rfl rfl
  have walk : Calls Tryd.prog 6 #[.int .u8 z0, .int .u8 z1, .int .u8 z2, .string ⟨s3.toArray⟩] W fun e w' => e = .returned (.bool true) ∧ Below W.heap.size W w' := by
    have ha := wf_u8 wf0
    have hb := wf_u8 wf1
    have hc := wf_u8 wf2
    have e1 : z0 = ((bt z0).toNat : Int) := by rw [bt_toNat]; omega
    have e2 : z1 = ((bt z1).toNat : Int) := by rw [bt_toNat]; omega
    have e3 : z2 = ((bt z2).toNat : Int) := by rw [bt_toNat]; omega
    rw [e1, e2, e3]
    exact accepted_law (bt z0) (bt z1) (bt z2) s3 W hT
  refine walk.mono fun e W' ⟨he, bel⟩ => ?_
  subst he
  exact ⟨_, rfl, _, _, _, [], _, [], hW', trodAll_mk1 (shut_bool Tryd.underlying4 _), (trodAll_cons_mk (Below.trod laidOut (by kernel_rfl) (of_decide_eq_true (by kernel_rfl)) k0 bel b0) (trodAll_cons_mk (Below.trod laidOut (by kernel_rfl) (of_decide_eq_true (by kernel_rfl)) k1 bel b1) (trodAll_cons_mk (Below.trod laidOut (by kernel_rfl) (of_decide_eq_true (by kernel_rfl)) k2 bel b2) (trodAll_cons_mk (Below.trod laidOut (by kernel_rfl) (of_decide_eq_true (by kernel_rfl)) k3 bel b3) trodAll_mk0)))), rfl, bel.frame _, fun h => by cases h⟩

theorem over : Rows.signIsAcceptedRow.holds Tryd.pinned (OpenSpec.ofChange Rows.signIsAcceptedSpec) :=
  OpenClaim.holds_of_wide 6 Tryd.f6 rfl rfl rfl rfl rfl rfl rfl ⟨rfl, rfl, rfl, rfl, rfl⟩ rfl rfl rfl rfl rfl (by kernel_rfl) Tryd.func6 (by kernel_rfl)
    (of_decide_eq_true (by kernel_rfl)) (by unfold Func.isWrapper; first | (rw [if_pos (by decide +kernel)]; kernel_rfl) | (rw [if_neg (by decide +kernel)]; exact ⟨rfl, rfl⟩))
    (fun os started H enc _ => lifted os started H enc)

theorem proved : Rows.SignIsAcceptedCardSaid :=
  Claim7.holds_tied_plain_at .later [] [.data] true (true, _) false
    over (fun _ h => by cases h) (by kernel_rfl) (fun _ h => by cases h) signIsAccepted_row_tie rfl ⟨rfl, rfl⟩ (by kernel_rfl) rfl
    (fun f fn hf hfn => by
      obtain rfl : f = 6 := Option.some.inj ((show Tryd.prog.funcNamed "scoria/scorialaw03.SignIsAccepted" = some 6 by kernel_rfl).symm.trans hf) |>.symm
      obtain rfl : fn = Tryd.f6 := (Option.some.inj (Tryd.func6.symm.trans hfn)).symm
      exact ⟨by kernel_rfl, fun j t ht => by
        rw [Tryd.params6] at ht
        have hm : t ∈ [5, 5, 5, 9] := by simpa using Array.mem_of_getElem? ht
        have hall : ([5, 5, 5, 9].all fun u => !Tryd.prog.wantsStandIn u) = true := by kernel_rfl
        exact (show Tryd.prog.wantsStandIn t = false by simpa using List.all_eq_true.1 hall t hm)⟩)
    (by kernel_rfl)
#print axioms proved
end Go.Proofs.YtajglgkjpagcjaaDoor.signIsAccepted
