/-
  Tbi, Gbi: my texts of these names, one behind the other. Conditions: those that each law names.
-/
import Derived.Test.YtajglgkjpagcjaaDoorMk
import Derived.Test.YtajglgkjpagcjaaDoorMc
import Derived.WalkKit
import Derived.ProofKit
import Derived.OpenShut
import Derived.ShutString
import Derived.JoinedCond
import Derived.SizedLaws
import Derived.Deep.CondSized
import Derived.Test.YtajglgkjpagcjaaDoorTie
import Derived.Test.YtajglgkjpagcjaaDoorCards
import Derived.SevenTiedAt
import Derived.Stop.Joined
import Derived.LaidMore
import Derived.WideKeyPair
namespace Go.Proofs.YtajglgkjpagcjaaDoor.Wi
open Go Go.RowKit Pu Lb
set_option linter.unusedSimpArgs false
set_option linter.unusedVariables false
attribute [local irreducible] comp sched comps sha outS mac digOf digs verV sigV nodeAt

theorem enc_small {i : Nat} (h : i < 65536) : (enc (i : Int)).length ≤ 3 := by
  have h1 : (encB i).length ≤ 3 := by unfold encB; split <;> (try split) <;> simp only [List.length_cons, List.length_nil] <;> decide
  rw [encB_eq h, List.length_map] at h1; exact h1
set_option maxRecDepth 100000 in
set_option maxHeartbeats 3200000 in
theorem binds_law (c hg ix kx : UInt8) (m : List UInt8) (w : World) (hT : TabH w) (hR : TabR w) :
    Calls Tryd.prog 8 #[.int .u8 (c.toNat : Int), .int .u8 (hg.toNat : Int), .int .u8 (ix.toNat : Int), .int .u8 (kx.toNat : Int), .string ⟨m.toArray⟩] w fun e w' => e = .returned (.bool true) ∧ Below w.heap.size w w' := by
  have hsm := size_str m
  have hc8 := u8_lt c
  have hg8 := u8_lt hg
  have hi8 := u8_lt ix
  have hk8 := u8_lt kx
  go_enter Tryd.func8, Tryd.ntmps8
  have hb := Below.refl w.heap.size w
  go_upto_region 2 with ((go_at_call 9; (with_reducible refine (sanity_any _ hT).mono ?_); rintro e w' ⟨rfl, hN⟩); replace hb := hb.trans ((by exact hN : Below _ _ _).mono hb.size))
  by_cases hm : 200 < m.length
  · go_wp2_with fail
    go_ret
    exact ⟨rfl, hb⟩
  have M7 := Lib.hid (show m.length ≤ 140737488355328 by omega)
  have L1 := Lib.hid (show decide (200 < (m.length : Int)) = false by rw [decide_eq_false_iff_not]; omega)
  go_upto_region 5 with (rw [L1.out])
  obtain ⟨l, hl⟩ : ∃ l, hg.toNat % 3 = l := ⟨_, rfl⟩
  rw [show ((hg.toNat : Int) % 3) = (l : Int) by omega]
  have hl2 : l ≤ 2 := by omega
  clear hl
  have hpw := wrap_pow (show l ≤ 6 by omega)
  obtain ⟨K, hK⟩ : ∃ K : Nat, 2 ^ l = K := ⟨_, rfl⟩
  rw [hK] at hpw
  have hK0 : 0 < K := by rw [← hK]; exact Nat.pos_of_ne_zero (by simp)
  go_upto_region 6 with fail
  obtain ⟨i, hi⟩ : ∃ i, ix.toNat % K = i := ⟨_, rfl⟩
  have hiK : i < K := by rw [← hi]; exact Nat.mod_lt _ hK0
  have hie : ((ix.toNat : Int) % (K : Int)) = (i : Int) := by rw [← hi]; omega
  rw [hie]
  clear hie hi
  go_upto_region 7 with fail
  obtain ⟨k, hk⟩ : ∃ k, kx.toNat % K = k := ⟨_, rfl⟩
  have hkK : k < K := by rw [← hk]; exact Nat.mod_lt _ hK0
  have hke : ((kx.toNat : Int) % (K : Int)) = (k : Int) := by rw [← hk]; omega
  rw [hke]
  have hK4 : K ≤ 2 ^ 2 := by rw [← hK]; exact Nat.pow_le_pow_right (by decide) hl2
  have hi2 : i < 2 ^ l := by rw [hK]; exact hiK
  have hk2 : k < 2 ^ l := by rw [hK]; exact hkK
  clear hke hk hpw
  obtain ⟨sd, hsd⟩ : ∃ s, List.replicate 32 c = s := ⟨_, rfl⟩
  have SD := Lib.hid hsd
  have h32 : sd.length = 32 := by rw [← hsd, List.length_replicate]
  have SL := Lib.hid (show sd.length ≤ 1000000 by omega)
  obtain ⟨P, hP⟩ : ∃ P, nodeAt sd l 0 = P := ⟨_, rfl⟩
  have hm2 : m.length ≤ 1048576 := by omega
  have P16 := Lib.hid (show P.length = 16 by rw [← hP]; exact nodeAt_len _ _ _)
  have PB := Lib.hid (show (bv P).length = 16 by rw [bv_length, P16.out])
  have E1 := Lib.hid (show D2 (pubV sd (l : Int)) = .tuple #[.agg (bv P).toArray, .int .i64 0] by rw [pub_good ⟨h32, by omega, by omega⟩, Int.toNat_natCast, hP]; rfl)
  have hKK : ((2 : Int) ^ l) = (K : Int) := by rw [← hK]; simp
  obtain ⟨S, hS⟩ : ∃ S, sigV sd l i m = S := ⟨_, rfl⟩
  obtain ⟨T, hTT⟩ : ∃ S, sigV sd l k m = S := ⟨_, rfl⟩
  have E2 := Lib.hid (show S2 (signV sd (l : Int) (i : Int) m) = .tuple #[.string ⟨S.toArray⟩, .int .i64 0] by
    rw [sign_good ⟨h32, by omega, by omega⟩ (by rw [Int.toNat_natCast, hKK]; omega) (by omega), Int.toNat_natCast, Int.toNat_natCast, hS]; rfl)
  have E3 := Lib.hid (show S2 (signV sd (l : Int) (k : Int) m) = .tuple #[.string ⟨T.toArray⟩, .int .i64 0] by
    rw [sign_good ⟨h32, by omega, by omega⟩ (by rw [Int.toNat_natCast, hKK]; omega) (by omega), Int.toNat_natCast, Int.toNat_natCast, hTT]; rfl)
  obtain ⟨N, hN9⟩ : ∃ N, (68 + l) * 16 = N := ⟨_, rfl⟩
  have hSe : S = enc (i : Int) ++ restV sd l i m := by rw [← hS, sig_rest]
  have hTe : T = enc (k : Int) ++ restV sd l k m := by rw [← hTT, sig_rest]
  have hri := rest_len sd l i m
  have hrk := rest_len sd l k m
  have hei := enc_small (i := i) (by omega)
  have hek := enc_small (i := k) (by omega)
  rw [hN9] at hri hrk
  have hSl : S.length = (enc (i : Int)).length + N := by rw [hSe, List.length_append, hri]
  have hTl : T.length = (enc (k : Int)).length + N := by rw [hTe, List.length_append, hrk]
  obtain ⟨X, hX⟩ : ∃ X, T.take (T.length - N) ++ S.drop (S.length - N) = X := ⟨_, rfl⟩
  have hXe : X = enc (k : Int) ++ restV sd l i m := by
    rw [← hX, hSl, hTl, Nat.add_sub_cancel, Nat.add_sub_cancel]
    conv => lhs; rw [hTe, hSe]
    simp
  have XE := Lib.hid hX
  have EK := Lib.hid (show i = k → verV P (l : Int) m X = ((i : Int), 0) by
    rintro rfl
    rw [hXe, ← hSe, ← hP, ← hS]; exact accept sd l i m (by omega) hi2 hm2)
  have X6 := Lib.hid (show X.length ≤ 1000000 by rw [hXe, List.length_append, hri]; omega)
  have hss := size_str S
  have hst := size_str T
  have NN := Lib.hid (show ((68 + (l : Int)) * 16) = (N : Int) by omega)
  have LA := Lib.hid (show decide ((S.length : Int) < 1088) = false by rw [decide_eq_false_iff_not]; omega)
  have LB := Lib.hid (show decide ((S.length : Int) < (N : Int)) = false by rw [decide_eq_false_iff_not]; omega)
  have LC := Lib.hid (show decide ((T.length : Int) < (N : Int)) = false by rw [decide_eq_false_iff_not]; omega)
  have LB2 := Lib.hid (show decide (S.length < N) = false by rw [decide_eq_false_iff_not]; omega)
  have LC2 := Lib.hid (show decide (T.length < N) = false by rw [decide_eq_false_iff_not]; omega)
  have TS := Lib.hid (show ((S.length : Int) - (N : Int)) = ((S.length - N : Nat) : Int) by omega)
  have TT := Lib.hid (show ((T.length : Int) - (N : Int)) = ((T.length - N : Nat) : Int) by omega)
  have WT := Lib.hid (show wrap64 (((T.length - N : Nat)) : Int) = ((T.length - N : Nat) : Int) by unfold wrap64; omega)
  have WS := Lib.hid (show wrap64 (((S.length - N : Nat)) : Int) = ((S.length - N : Nat) : Int) by unfold wrap64; omega)
  have SBND := Lib.hid (show (T.take (T.length - N)).length + (S.drop (S.length - N)).length ≤ 9223372036854775807 by rw [List.length_take, List.length_drop]; omega)
  clear hsd h32 hP hS hTT hm hm2 hK hK4 hK0 hiK hi2 hkK hk2 hg8 hi8 hk8 hKK hSe hTe hri hrk hei hek hSl hTl hX hXe
  have hT1 := hT.below hb
  go_upto_region 8 with (first
    | ((go_at_call 20; (with_reducible refine (seed_any c _).mono ?_); rintro e w' ⟨rfl, hN⟩); rw [SD.out]; replace hb := hb.trans ((by exact hN : Below _ _ _).mono hb.size); have hT2 := hT.below hb)
    | ((go_at_call 12; (with_reducible refine (public_any sd (l : Int) _ hT2 SL.out).mono ?_); rintro e w' ⟨rfl, hN⟩); rw [E1.out]; replace hb := hb.trans ((by exact hN : Below _ _ _).mono hb.size); have y1 := hb.size)
    | (((with_reducible refine' wpList_alloc_blk (cs := List.replicate 16 (.int .u8 0)) 23 rfl ?_ zr_dig ?_ ?_); exact rfl; exact zeros_u8 16; intro wa k1 hN hz1; simp only [Act.put, List.setIfInBounds_toArray, List.set_cons_succ, List.set_cons_zero]); replace hb := hb.trans ((by exact hN : Below _ _ _).mono hb.size))
    | (((with_reducible refine' wpList_store_blk (cs := bv P) 23 (.tmp 15) (.tmp 50) rfl ?_ ?_ ?_ k1 sz_dig ?_ ?_ ?_ ?_); exact rfl; exact rfl; exact rfl; exact PB.out; exact List.length_replicate; exact bv_one _; intro wb k1b hO hz2; simp only [Act.put]); replace hb := hb.trans (hO.below y1 hb.size); replace k1 := k1b))
  obtain ⟨B1, hB1⟩ : ∃ B, w'.heap.size = B := ⟨_, rfl⟩
  rw [hB1] at k1 ⊢
  clear hT1 hT2 hO k1b hB1
  go_upto_region 9 with (first
    | ((go_at_call 20; (with_reducible refine (seed_any c _).mono ?_); rintro e w' ⟨rfl, hN⟩); rw [SD.out]; replace hb := hb.trans ((by exact hN : Below _ _ _).mono hb.size); (try replace k1 := Blk.below k1 hN (Blk.lt k1)); have hT2 := hT.below hb)
    | ((go_at_call 14; (with_reducible refine (sign_any sd m (l : Int) (i : Int) _ hT2 SL.out M7.out).mono ?_); rintro e w' ⟨rfl, hN⟩); rw [E2.out]; replace hb := hb.trans ((by exact hN : Below _ _ _).mono hb.size); (try replace k1 := Blk.below k1 hN (Blk.lt k1))))
  clear hT2
  go_upto_region 10 with (first
    | ((go_at_call 20; (with_reducible refine (seed_any c _).mono ?_); rintro e w' ⟨rfl, hN⟩); rw [SD.out]; replace hb := hb.trans ((by exact hN : Below _ _ _).mono hb.size); (try replace k1 := Blk.below k1 hN (Blk.lt k1)); have hT2 := hT.below hb)
    | ((go_at_call 14; (with_reducible refine (sign_any sd m (l : Int) (k : Int) _ hT2 SL.out M7.out).mono ?_); rintro e w' ⟨rfl, hN⟩); rw [E3.out]; replace hb := hb.trans ((by exact hN : Below _ _ _).mono hb.size); (try replace k1 := Blk.below k1 hN (Blk.lt k1))))
  clear hT2
  go_upto_region 13 with (first | (rw [LA.out]))
  rw [NN.out]
  clear NN hN9 hl2
  go_upto_region 15 with (first | (rw [LB.out]) | (rw [LC.out]) | (rw [LB2.out]) | (rw [LC2.out]))
  obtain ⟨ws, rfl⟩ : ∃ ws : World, ws = w' := ⟨_, rfl⟩
  refine wp_region_mono (w := ws) 13 (fun i => match i with | 0 => fun (vv : Value) (ww : World) => vv = .string ⟨T.toArray⟩ | 1 => fun (vv : Value) (ww : World) => vv = .string ⟨T.toArray⟩ | 2 => fun (vv : Value) (ww : World) => vv = .int .i64 (T.length : Int) | 3 => fun (vv : Value) (ww : World) => vv = .int .i64 (N : Int) | 4 => fun (vv : Value) (ww : World) => vv = .int .i64 ((T.length - N : Nat) : Int) | 5 => fun (vv : Value) (ww : World) => vv = .string ⟨(T.take (T.length - N)).toArray⟩ | 6 => fun (vv : Value) (ww : World) => vv = .string ⟨S.toArray⟩ | 7 => fun (vv : Value) (ww : World) => vv = .string ⟨S.toArray⟩ | 8 => fun (vv : Value) (ww : World) => vv = .int .i64 (S.length : Int) | 9 => fun (vv : Value) (ww : World) => vv = .int .i64 (N : Int) | 10 => fun (vv : Value) (ww : World) => vv = .int .i64 ((S.length - N : Nat) : Int) | 11 => fun (vv : Value) (ww : World) => vv = .string ⟨(S.drop (S.length - N)).toArray⟩ | 12 => fun (vv : Value) (ww : World) => vv = .string ⟨X.toArray⟩ | _ => fun _ _ => True) (by kernel_rfl) (by kernel_rfl) ?_ ?_ ?_
  · intro i vv w1 w2 h hb
    rcases i with _ | _ | _ | _ | _ | _ | _ | _ | _ | _ | _ | _ | _ | i
    all_goals first | exact h | exact Rd.below h hb | exact own_below h hb | (obtain ⟨B, h1, h2, h3⟩ := h; exact ⟨B, h1, h2, Blk.below h3 hb (Blk.lt h3)⟩) | trivial
  · intro i o hi ho us wz hl hbz hd
    obtain ⟨u0, u1, u2, u3, u4, u5, u6, u7, u8, u9, u10, u11, u12, rfl⟩ := len13 hl
    rcases i with _ | _ | _ | _ | _ | _ | _ | _ | _ | _ | _ | _ | _ | i
    · simp only [List.getElem?_cons_succ, List.getElem?_cons_zero, Option.some.injEq] at ho; subst ho; clear hi hl
      clear hd
      simp only [List.take_succ_cons, List.take_zero, List.drop_succ_cons, List.drop_zero, List.map_cons, List.map_nil, puts, Act.put, List.setIfInBounds_toArray, List.set_cons_succ, List.set_cons_zero]
      go_wp2_with (fail)
      exact ⟨rfl, _, rfl, Below.refl _ _, rfl⟩
    · simp only [List.getElem?_cons_succ, List.getElem?_cons_zero, Option.some.injEq] at ho; subst ho; clear hi hl
      clear hd
      simp only [List.take_succ_cons, List.take_zero, List.drop_succ_cons, List.drop_zero, List.map_cons, List.map_nil, puts, Act.put, List.setIfInBounds_toArray, List.set_cons_succ, List.set_cons_zero]
      go_wp2_with (fail)
      exact ⟨rfl, _, rfl, Below.refl _ _, rfl⟩
    · simp only [List.getElem?_cons_succ, List.getElem?_cons_zero, Option.some.injEq] at ho; subst ho; clear hi hl
      have s1 : (fun (vv : Value) (ww : World) => vv = .string ⟨T.toArray⟩) u1 wz := hd 1 (by kernel_rfl)
      simp only at s1
      obtain rfl := s1
      clear hd
      simp only [List.take_succ_cons, List.take_zero, List.drop_succ_cons, List.drop_zero, List.map_cons, List.map_nil, puts, Act.put, List.setIfInBounds_toArray, List.set_cons_succ, List.set_cons_zero]
      go_wp2_with (fail)
      exact ⟨rfl, _, rfl, Below.refl _ _, by simp⟩
    · simp only [List.getElem?_cons_succ, List.getElem?_cons_zero, Option.some.injEq] at ho; subst ho; clear hi hl
      clear hd
      simp only [List.take_succ_cons, List.take_zero, List.drop_succ_cons, List.drop_zero, List.map_cons, List.map_nil, puts, Act.put, List.setIfInBounds_toArray, List.set_cons_succ, List.set_cons_zero]
      go_wp2_with (fail)
      exact ⟨rfl, _, rfl, Below.refl _ _, rfl⟩
    · simp only [List.getElem?_cons_succ, List.getElem?_cons_zero, Option.some.injEq] at ho; subst ho; clear hi hl
      have s2 : (fun (vv : Value) (ww : World) => vv = .int .i64 (T.length : Int)) u2 wz := hd 2 (by kernel_rfl)
      simp only at s2
      obtain rfl := s2
      have s3 : (fun (vv : Value) (ww : World) => vv = .int .i64 (N : Int)) u3 wz := hd 3 (by kernel_rfl)
      simp only at s3
      obtain rfl := s3
      clear hd
      simp only [List.take_succ_cons, List.take_zero, List.drop_succ_cons, List.drop_zero, List.map_cons, List.map_nil, puts, Act.put, List.setIfInBounds_toArray, List.set_cons_succ, List.set_cons_zero]
      go_wp2_with (fail)
      exact ⟨rfl, _, rfl, Below.refl _ _, by rw [TT.out, WT.out]⟩
    · simp only [List.getElem?_cons_succ, List.getElem?_cons_zero, Option.some.injEq] at ho; subst ho; clear hi hl
      have s0 : (fun (vv : Value) (ww : World) => vv = .string ⟨T.toArray⟩) u0 wz := hd 0 (by kernel_rfl)
      simp only at s0
      obtain rfl := s0
      have s4 : (fun (vv : Value) (ww : World) => vv = .int .i64 ((T.length - N : Nat) : Int)) u4 wz := hd 4 (by kernel_rfl)
      simp only at s4
      obtain rfl := s4
      clear hd
      simp only [List.take_succ_cons, List.take_zero, List.drop_succ_cons, List.drop_zero, List.map_cons, List.map_nil, puts, Act.put, List.setIfInBounds_toArray, List.set_cons_succ, List.set_cons_zero]
      ((with_reducible refine' wpList_str_to (l := T) (.tmp 90) _ 9 rfl ?_ Tryd.underlying9 ?_ (T.length - N) ?_ ?_ ?_); exact rfl; exact rfl; exact rfl; exact Nat.sub_le _ _)
      exact ⟨rfl, _, rfl, Below.refl _ _, rfl⟩
    · simp only [List.getElem?_cons_succ, List.getElem?_cons_zero, Option.some.injEq] at ho; subst ho; clear hi hl
      clear hd
      simp only [List.take_succ_cons, List.take_zero, List.drop_succ_cons, List.drop_zero, List.map_cons, List.map_nil, puts, Act.put, List.setIfInBounds_toArray, List.set_cons_succ, List.set_cons_zero]
      go_wp2_with (fail)
      exact ⟨rfl, _, rfl, Below.refl _ _, rfl⟩
    · simp only [List.getElem?_cons_succ, List.getElem?_cons_zero, Option.some.injEq] at ho; subst ho; clear hi hl
      clear hd
      simp only [List.take_succ_cons, List.take_zero, List.drop_succ_cons, List.drop_zero, List.map_cons, List.map_nil, puts, Act.put, List.setIfInBounds_toArray, List.set_cons_succ, List.set_cons_zero]
      go_wp2_with (fail)
      exact ⟨rfl, _, rfl, Below.refl _ _, rfl⟩
    · simp only [List.getElem?_cons_succ, List.getElem?_cons_zero, Option.some.injEq] at ho; subst ho; clear hi hl
      have s7 : (fun (vv : Value) (ww : World) => vv = .string ⟨S.toArray⟩) u7 wz := hd 7 (by kernel_rfl)
      simp only at s7
      obtain rfl := s7
      clear hd
      simp only [List.take_succ_cons, List.take_zero, List.drop_succ_cons, List.drop_zero, List.map_cons, List.map_nil, puts, Act.put, List.setIfInBounds_toArray, List.set_cons_succ, List.set_cons_zero]
      go_wp2_with (fail)
      exact ⟨rfl, _, rfl, Below.refl _ _, by simp⟩
    · simp only [List.getElem?_cons_succ, List.getElem?_cons_zero, Option.some.injEq] at ho; subst ho; clear hi hl
      clear hd
      simp only [List.take_succ_cons, List.take_zero, List.drop_succ_cons, List.drop_zero, List.map_cons, List.map_nil, puts, Act.put, List.setIfInBounds_toArray, List.set_cons_succ, List.set_cons_zero]
      go_wp2_with (fail)
      exact ⟨rfl, _, rfl, Below.refl _ _, rfl⟩
    · simp only [List.getElem?_cons_succ, List.getElem?_cons_zero, Option.some.injEq] at ho; subst ho; clear hi hl
      have s8 : (fun (vv : Value) (ww : World) => vv = .int .i64 (S.length : Int)) u8 wz := hd 8 (by kernel_rfl)
      simp only at s8
      obtain rfl := s8
      have s9 : (fun (vv : Value) (ww : World) => vv = .int .i64 (N : Int)) u9 wz := hd 9 (by kernel_rfl)
      simp only at s9
      obtain rfl := s9
      clear hd
      simp only [List.take_succ_cons, List.take_zero, List.drop_succ_cons, List.drop_zero, List.map_cons, List.map_nil, puts, Act.put, List.setIfInBounds_toArray, List.set_cons_succ, List.set_cons_zero]
      go_wp2_with (fail)
      exact ⟨rfl, _, rfl, Below.refl _ _, by rw [TS.out, WS.out]⟩
    · simp only [List.getElem?_cons_succ, List.getElem?_cons_zero, Option.some.injEq] at ho; subst ho; clear hi hl
      have s6 : (fun (vv : Value) (ww : World) => vv = .string ⟨S.toArray⟩) u6 wz := hd 6 (by kernel_rfl)
      simp only at s6
      obtain rfl := s6
      have s10 : (fun (vv : Value) (ww : World) => vv = .int .i64 ((S.length - N : Nat) : Int)) u10 wz := hd 10 (by kernel_rfl)
      simp only at s10
      obtain rfl := s10
      clear hd
      simp only [List.take_succ_cons, List.take_zero, List.drop_succ_cons, List.drop_zero, List.map_cons, List.map_nil, puts, Act.put, List.setIfInBounds_toArray, List.set_cons_succ, List.set_cons_zero]
      ((with_reducible refine' wpList_str_from (.tmp 96) _ 9 rfl ?_ Tryd.underlying9 (l := S) ?_ (S.length - N) ?_ ?_ ?_); exact rfl; exact rfl; exact rfl; exact Nat.sub_le _ _)
      exact ⟨rfl, _, rfl, Below.refl _ _, rfl⟩
    · simp only [List.getElem?_cons_succ, List.getElem?_cons_zero, Option.some.injEq] at ho; subst ho; clear hi hl
      have s5 : (fun (vv : Value) (ww : World) => vv = .string ⟨(T.take (T.length - N)).toArray⟩) u5 wz := hd 5 (by kernel_rfl)
      simp only at s5
      obtain rfl := s5
      have s11 : (fun (vv : Value) (ww : World) => vv = .string ⟨(S.drop (S.length - N)).toArray⟩) u11 wz := hd 11 (by kernel_rfl)
      simp only at s11
      obtain rfl := s11
      clear hd
      simp only [List.take_succ_cons, List.take_zero, List.drop_succ_cons, List.drop_zero, List.map_cons, List.map_nil, puts, Act.put, List.setIfInBounds_toArray, List.set_cons_succ, List.set_cons_zero]
      ((with_reducible refine' wpList_str_add (l := T.take (T.length - N)) (m := S.drop (S.length - N)) (.tmp 95) (.tmp 101) 9 9 rfl ?_ ?_ ?_ ?_ ?_); exact rfl; exact rfl; exact rfl; exact SBND.out; rw [XE.out])
      exact ⟨rfl, _, rfl, Below.refl _ _, rfl⟩
    · omega
  intro us wz hl hbz hS
  obtain ⟨u0, u1, u2, u3, u4, u5, u6, u7, u8, u9, u10, u11, u12, rfl⟩ := len13 hl
  have s12 : (fun (vv : Value) (ww : World) => vv = .string ⟨X.toArray⟩) u12 wz := hS 12 (by omega)
  simp only at s12
  obtain rfl := s12
  clear hS hl
  simp only [List.take_succ_cons, List.take_zero, List.drop_succ_cons, List.drop_zero, List.map_cons, List.map_nil, puts, Act.put, List.setIfInBounds_toArray, List.set_cons_succ, List.set_cons_zero]
  go_wp2_with fail
  refine onlyN ?_
  replace k1 := k1.below hbz k1.lt
  replace hb := hb.trans (hbz.mono hb.size)
  clear hbz hss hst
  by_cases he : i = k
  · have E6 := Lib.hid (show RZ (verV P (l : Int) m X) = .tuple #[.int .i64 (i : Int), .int .i64 0] by rw [EK.out he]; rfl)
    subst he
    have ZB := Lib.hid (show ((i : Int) == (i : Int)) = true by simp)
    have EB := ZB
    have IK := Lib.hid (show ((i : Int) != (i : Int)) = false by simp)
    clear EK
    have hT1 := hT.below hb
    go_upto_region 17 with (first
      | ((with_reducible refine' wpList_loadall_blk (.tmp 15) 23 rfl ?_ Tryd.underlying23 sz_dig ?_ k1 ?_ ?_ ?_); exact rfl; exact rfl; exact PB.out; omega; simp only [Act.put, List.setIfInBounds_toArray, List.set_cons_succ, List.set_cons_zero])
      | ((go_at_call 18; (with_reducible refine (verify_any P m X (l : Int) _ hT1 P16.out M7.out X6.out).mono ?_); rintro e w' ⟨rfl, hN⟩); rw [E6.out]; replace hb := hb.trans ((by exact hN : Below _ _ _).mono hb.size); (try replace k1 := Blk.below k1 hN (Blk.lt k1))))
    clear hT1
    have hT1 := hR.below hb
    go_upto_region 18 with (first
      | ((with_reducible refine' wpList_loadall_blk (.tmp 15) 23 rfl ?_ Tryd.underlying23 sz_dig ?_ k1 ?_ ?_ ?_); exact rfl; exact rfl; exact PB.out; omega; simp only [Act.put, List.setIfInBounds_toArray, List.set_cons_succ, List.set_cons_zero])
      | ((go_at_call 19; (with_reducible refine (refverify_any P m X (l : Int) _ hT1 P16.out M7.out X6.out).mono ?_); rintro e w' ⟨rfl, hN⟩); rw [E6.out]; replace hb := hb.trans ((by exact hN : Below _ _ _).mono hb.size); (try replace k1 := Blk.below k1 hN (Blk.lt k1))))
    go_wp2_with (first | (rw [ZB.out]) | (rw [EB.out]) | (rw [IK.out]))
    go_ret
    exact ⟨rfl, hb⟩
  · obtain ⟨z, e, hV⟩ : ∃ z e, verV P (l : Int) m X = (z, e) := ⟨_, _, rfl⟩
    have E6 := Lib.hid (show RZ (verV P (l : Int) m X) = .tuple #[.int .i64 z, .int .i64 (e : Int)] by rw [hV]; rfl)
    have ZB := Lib.hid (show (z == z) = true by simp)
    have EB := Lib.hid (show ((e : Int) == (e : Int)) = true by simp)
    have IK := Lib.hid (show ((i : Int) != (k : Int)) = true by rw [bne_iff_ne]; omega)
    have hik : ¬((i : Int) = (k : Int)) := by omega
    clear EK hV he
    have hT1 := hT.below hb
    go_upto_region 17 with (first
      | ((with_reducible refine' wpList_loadall_blk (.tmp 15) 23 rfl ?_ Tryd.underlying23 sz_dig ?_ k1 ?_ ?_ ?_); exact rfl; exact rfl; exact PB.out; omega; simp only [Act.put, List.setIfInBounds_toArray, List.set_cons_succ, List.set_cons_zero])
      | ((go_at_call 18; (with_reducible refine (verify_any P m X (l : Int) _ hT1 P16.out M7.out X6.out).mono ?_); rintro e w' ⟨rfl, hN⟩); rw [E6.out]; replace hb := hb.trans ((by exact hN : Below _ _ _).mono hb.size); (try replace k1 := Blk.below k1 hN (Blk.lt k1))))
    clear hT1
    have hT1 := hR.below hb
    go_upto_region 18 with (first
      | ((with_reducible refine' wpList_loadall_blk (.tmp 15) 23 rfl ?_ Tryd.underlying23 sz_dig ?_ k1 ?_ ?_ ?_); exact rfl; exact rfl; exact PB.out; omega; simp only [Act.put, List.setIfInBounds_toArray, List.set_cons_succ, List.set_cons_zero])
      | ((go_at_call 19; (with_reducible refine (refverify_any P m X (l : Int) _ hT1 P16.out M7.out X6.out).mono ?_); rintro e w' ⟨rfl, hN⟩); rw [E6.out]; replace hb := hb.trans ((by exact hN : Below _ _ _).mono hb.size); (try replace k1 := Blk.below k1 hN (Blk.lt k1))))
    go_wp2_with (first | (rw [ZB.out]) | (rw [EB.out]) | (rw [IK.out]))
    go_ret
    exact ⟨rfl, hb⟩
end Go.Proofs.YtajglgkjpagcjaaDoor.Wi
namespace Go.Proofs.YtajglgkjpagcjaaDoor.signBindsTheIndex
open Go.ChangeShapes Go.WideShapes Go.ChangeAt Go.RowKit
open Go.Proofs.YtajglgkjpagcjaaDoor.Wi Go.Proofs.YtajglgkjpagcjaaDoor.Pu Go.Proofs.YtajglgkjpagcjaaDoor.Lb
set_option linter.unusedVariables false

theorem own : ownKnob Tryd.prog.godebug = none := by kernel_rfl
theorem laidOut : laidOutB Tryd.prog = true := by kernel_rfl

set_option maxRecDepth 100000 in
theorem lifted (os : Os) (started : os.Started) (H : Type) (enc : TypeId × Value → H) :
    ReturnsInHanded {} Tryd.checked os 8 .any (fun w args => (Rows.signBindsTheIndexSpec.pre enc Tryd.prog Tryd.f8 [] false w args ∧ laidMetH Tryd.prog lRH w) ∧ sizedMet enc Tryd.prog Tryd.f8 (OpenSpec.ofChange Rows.signBindsTheIndexSpec) false w args) (Rows.signBindsTheIndexSpec.post enc Tryd.prog Tryd.f8 false true false false) := by
  refine returnsInHanded_of_change_and (C := Tryd.checked) (X := fun w _ => laidMetH Tryd.prog lRH w) (fun _ _ _ hh h => h.of_heap hh) own started (by kernel_rfl) Tryd.func8
    (ChangeSpec.witness_shaped (enc := enc) (C := Tryd.checked) (os := os) (X := fun w _ => laidMetH Tryd.prog lRH w) false (World.doorLaid Tryd.prog 19 os) #[.int .u8 0, .int .u8 0, .int .u8 0, .int .u8 0, .string ByteArray.empty] 8 rfl (World.shaped_of_RefB (by kernel_rfl) (by kernel_rfl)) (by kernel_rfl) (by kernel_rfl) (by kernel_rfl) (doorRH os _)) ?_
  intro W base args ds gs before hval0 hW hcnd hk hL _
  have hT := tabs_of hL
  have hval : ∀ (j : Nat) t v, Tryd.f8.params[j]? = some t → args[j]? = some v → Value.okWide Tryd.prog W .any base t v := hval0
  have hW' := hW
  obtain ⟨p, q, hA0, hV, rfl, hfz, hnd⟩ := hW
  have hA : DataW.TrodAll enc Tryd.prog W 0 (fun _ => true) true Tryd.f8.params.toList args.toList ds p := hA0
  rw [Tryd.params8] at hA hval
  obtain ⟨v0, vs0, d0, ds0, p0, q0, hargs, rfl, rfl, h0, t0⟩ := trodAll_cons hA
  obtain ⟨v1, vs1, d1, ds1, p1, q1, rfl, rfl, rfl, h1, t1⟩ := trodAll_cons t0
  obtain ⟨v2, vs2, d2, ds2, p2, q2, rfl, rfl, rfl, h2, t2⟩ := trodAll_cons t1
  obtain ⟨v3, vs3, d3, ds3, p3, q3, rfl, rfl, rfl, h3, t3⟩ := trodAll_cons t2
  obtain ⟨v4, vs4, d4, ds4, p4, q4, rfl, rfl, rfl, h4, t4⟩ := trodAll_cons t3
  obtain ⟨rfl, rfl, rfl⟩ := trodAll_nil t4
  obtain rfl : args = #[v0, v1, v2, v3, v4] := by cases args; simp_all
  obtain ⟨rfl, rfl⟩ := trodVars_none hV
  clear hA0 hval0
  have b0 : ∀ x ∈ p0, x.block < W.heap.size := by obtain ⟨m, hm⟩ := h0; exact DataW.trod_lt m _ _ _ hm
  have k0 := h0
  have b1 : ∀ x ∈ p1, x.block < W.heap.size := by obtain ⟨m, hm⟩ := h1; exact DataW.trod_lt m _ _ _ hm
  have k1 := h1
  have b2 : ∀ x ∈ p2, x.block < W.heap.size := by obtain ⟨m, hm⟩ := h2; exact DataW.trod_lt m _ _ _ hm
  have k2 := h2
  have b3 : ∀ x ∈ p3, x.block < W.heap.size := by obtain ⟨m, hm⟩ := h3; exact DataW.trod_lt m _ _ _ hm
  have k3 := h3
  have b4 : ∀ x ∈ p4, x.block < W.heap.size := by obtain ⟨m, hm⟩ := h4; exact DataW.trod_lt m _ _ _ hm
  have k4 := h4
  obtain ⟨z0, rfl, wf0⟩ := op_int Tryd.underlying5 (hval 0 5 v0 rfl rfl) h0
  obtain ⟨z1, rfl, wf1⟩ := op_int Tryd.underlying5 (hval 1 5 v1 rfl rfl) h1
  obtain ⟨z2, rfl, wf2⟩ := op_int Tryd.underlying5 (hval 2 5 v2 rfl rfl) h2
  obtain ⟨z3, rfl, wf3⟩ := op_int Tryd.underlying5 (hval 3 5 v3 rfl rfl) h3
  obtain ⟨s4, rfl, m4, rfl⟩ := op_str Tryd.underlying9 (hval 4 9 v4 rfl rfl) h4
  have n4 := sized_str hk (j := 4) rfl rfl
  have walk : Calls Tryd.prog 8 #[.int .u8 z0, .int .u8 z1, .int .u8 z2, .int .u8 z3, .string ⟨s4.toArray⟩] W fun e w' => e = .returned (.bool true) ∧ Below W.heap.size W w' := by
    have ha := wf_u8 wf0
    have hb := wf_u8 wf1
    have hc := wf_u8 wf2
    have hd := wf_u8 wf3
    have e1 : z0 = ((bt z0).toNat : Int) := by rw [bt_toNat]; omega
    have e2 : z1 = ((bt z1).toNat : Int) := by rw [bt_toNat]; omega
    have e3 : z2 = ((bt z2).toNat : Int) := by rw [bt_toNat]; omega
    have e4 : z3 = ((bt z3).toNat : Int) := by rw [bt_toNat]; omega
    rw [e1, e2, e3, e4]
    exact binds_law (bt z0) (bt z1) (bt z2) (bt z3) s4 W hT.2 hT.1
  refine walk.mono fun e W' ⟨he, bel⟩ => ?_
  subst he
  exact ⟨_, rfl, _, _, _, [], _, [], hW', trodAll_mk1 (shut_bool Tryd.underlying4 _), (trodAll_cons_mk (Below.trod laidOut (by kernel_rfl) (of_decide_eq_true (by kernel_rfl)) k0 bel b0) (trodAll_cons_mk (Below.trod laidOut (by kernel_rfl) (of_decide_eq_true (by kernel_rfl)) k1 bel b1) (trodAll_cons_mk (Below.trod laidOut (by kernel_rfl) (of_decide_eq_true (by kernel_rfl)) k2 bel b2) (trodAll_cons_mk (Below.trod laidOut (by kernel_rfl) (of_decide_eq_true (by kernel_rfl)) k3 bel b3) (trodAll_cons_mk (Below.trod laidOut (by kernel_rfl) (of_decide_eq_true (by kernel_rfl)) k4 bel b4) trodAll_mk0))))), rfl, bel.frame _, fun h => by cases h⟩

theorem over : Rows.signBindsTheIndexRow.holds Tryd.pinned (OpenSpec.ofChange Rows.signBindsTheIndexSpec) :=
  OpenClaim.holds_of_wide 8 Tryd.f8 rfl rfl rfl rfl rfl rfl rfl ⟨rfl, rfl, rfl, rfl, rfl⟩ rfl rfl rfl rfl rfl (by kernel_rfl) Tryd.func8 (by kernel_rfl)
    (of_decide_eq_true (by kernel_rfl)) (by unfold Func.isWrapper; first | (rw [if_pos (by decide +kernel)]; kernel_rfl) | (rw [if_neg (by decide +kernel)]; exact ⟨rfl, rfl⟩))
    (fun os started H enc _ => lifted os started H enc)

theorem proved : Rows.SignBindsTheIndexCardSaid :=
  Claim7.holds_tied_plain_at .later [] [.data, .data] true (true, _) false
    over (fun _ h => by cases h) (by kernel_rfl) (fun _ h => by cases h) signBindsTheIndex_row_tie rfl ⟨rfl, rfl⟩ (by kernel_rfl) rfl
    (fun f fn hf hfn => by
      obtain rfl : f = 8 := Option.some.inj ((show Tryd.prog.funcNamed "scoria/scorialaw03.SignBindsTheIndex" = some 8 by kernel_rfl).symm.trans hf) |>.symm
      obtain rfl : fn = Tryd.f8 := (Option.some.inj (Tryd.func8.symm.trans hfn)).symm
      exact ⟨by kernel_rfl, fun j t ht => by
        rw [Tryd.params8] at ht
        have hm : t ∈ [5, 5, 5, 5, 9] := by simpa using Array.mem_of_getElem? ht
        have hall : ([5, 5, 5, 5, 9].all fun u => !Tryd.prog.wantsStandIn u) = true := by kernel_rfl
        exact (show Tryd.prog.wantsStandIn t = false by simpa using List.all_eq_true.1 hall t hm)⟩)
    (by kernel_rfl)
#print axioms proved
end Go.Proofs.YtajglgkjpagcjaaDoor.signBindsTheIndex
