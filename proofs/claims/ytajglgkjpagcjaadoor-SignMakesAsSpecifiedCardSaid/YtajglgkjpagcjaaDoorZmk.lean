/-
  Tmk, Gmk: my texts of these names, one behind the other. Conditions: those that each law names.
-/
import Derived.Test.YtajglgkjpagcjaaDoorMk
import Derived.Test.YtajglgkjpagcjaaDoorMj
import Derived.Test.YtajglgkjpagcjaaDoorMg
import Derived.Test.YtajglgkjpagcjaaDoorMc
import Derived.WalkKit
import Derived.ProofKit
import Derived.OpenShut
import Derived.ShutString
import Derived.JoinedCond
import Derived.SizedLaws
import Derived.Deep.CondSized
import Derived.Test.YtajglgkjpagcjaaDoorTie
import Derived.Test.YtajglgkjpagcjaaDoorCards
import Derived.SevenTiedAt
import Derived.Stop.Joined
import Derived.LaidMore
import Derived.WideKeyPair
namespace Go.Proofs.YtajglgkjpagcjaaDoor.Wi
open Go Go.RowKit Pu Lb
set_option linter.unusedSimpArgs false
set_option linter.unusedVariables false
attribute [local irreducible] comp sched comps sha outS mac digOf digs pubV signV msgD
set_option maxRecDepth 100000 in
set_option maxHeartbeats 3200000 in
theorem makes_law (s m : List UInt8) (z0 z1 : Int) (w : World) (hT : TabH w) (hR : TabR w) (hi : I64 z1) :
    Calls Tryd.prog 4 #[.string ⟨s.toArray⟩, .agg #[.int .i64 z0, .int .i64 z1], .string ⟨m.toArray⟩] w fun e w' => e = .returned (.bool true) ∧ Below w.heap.size w w' := by
  have hss := size_str s
  have hsm := size_str m
  have I1 := Lib.hid hi
  have PZ := Lib.hid (show ([.int .i64 z0, .int .i64 z1] : List Value)[0]? = some (.int .i64 z0) from rfl)
  have PO := Lib.hid (show ([.int .i64 z0, .int .i64 z1] : List Value)[1]? = some (.int .i64 z1) from rfl)
  obtain ⟨A, ea, hA⟩ : ∃ A ea, pubV s z0 = (A, ea) := ⟨_, _, rfl⟩
  obtain ⟨C, ec, hC⟩ : ∃ C ec, signV s z0 z1 m = (C, ec) := ⟨_, _, rfl⟩
  obtain ⟨F, hF⟩ : ∃ F, msgD A z1 m = F := ⟨_, rfl⟩
  have EF := Lib.hid hF
  have F16 := Lib.hid (show F.length = 16 by rw [← hF]; exact msgD_len _ _ _)
  have A16 := Lib.hid (show A.length = 16 by have := pubV_len s z0; rw [hA] at this; exact this)
  have AB := Lib.hid (show (bv A).length = 16 by rw [bv_length, A16.out])
  have E1 := Lib.hid (show D2 (pubV s z0) = .tuple #[.agg (bv A).toArray, .int .i64 (ea : Int)] by rw [hA]; rfl)
  have E2 := Lib.hid (show S2 (signV s z0 z1 m) = .tuple #[.string ⟨C.toArray⟩, .int .i64 (ec : Int)] by rw [hC]; rfl)
  clear hA hC hF hi
  go_enter Tryd.func4, Tryd.ntmps4
  have hb := Below.refl w.heap.size w
  go_upto_region 1 with (first
    | (((with_reducible refine' wpList_boxa (cs := [.int .i64 z0, .int .i64 z1]) 28 (.tmp 1) rfl ?_ ?_ ?_); exact rfl; exact rfl; intro w1 hk4 hN hz1; simp only [Act.put, List.setIfInBounds_toArray, List.set_cons_succ, List.set_cons_zero]); replace hb := hb.trans ((by exact hN : Below _ _ _).mono hb.size)))
  obtain ⟨B4, hB4⟩ : ∃ B, w.heap.size = B := ⟨_, rfl⟩
  rw [hB4] at hk4 ⊢
  have hT1 := hT.below hb
  go_upto_region 2 with ((go_at_call 9; (with_reducible refine (sanity_any _ hT1).mono ?_); rintro e w' ⟨rfl, hN⟩); replace hb := hb.trans ((by exact hN : Below _ _ _).mono hb.size); (try replace hk4 := Blk.below hk4 hN (Blk.lt hk4)))
  clear hT1 hz1
  have hT1 := hT.below hb
  have BB := Lib.hid hB4
  clear hB4
  by_cases hs : 200 < s.length
  · go_wp2_with fail
    go_ret
    exact ⟨rfl, hb⟩
  by_cases hm : 200 < m.length
  · go_wp2_with fail
    go_ret
    exact ⟨rfl, hb⟩
  have L1 := Lib.hid (show decide (200 < (s.length : Int)) = false by rw [decide_eq_false_iff_not]; omega)
  have L2 := Lib.hid (show decide (200 < (m.length : Int)) = false by rw [decide_eq_false_iff_not]; omega)
  have S6 := Lib.hid (show s.length ≤ 1000000 by omega)
  have M6 := Lib.hid (show m.length ≤ 140737488355328 by omega)
  have M7 := Lib.hid (show m.length ≤ 35184372088832 by omega)
  by_cases h2 : 2 < z0
  · by_cases h6 : z0 ≤ 6
    · have L3 := Lib.hid (show decide (2 < z0) = true from decide_eq_true h2)
      have L4 := Lib.hid (show decide (z0 ≤ 6) = true from decide_eq_true h6)
      go_wp2_with (first | (rw [L1.out]) | (rw [L2.out]) | (rw [L3.out]) | (rw [L4.out]) | ((with_reducible refine' wpList_at_blk (.tmp 4) (.const (.int .i64 0)) 28 rfl ?_ Tryd.underlying28 sz_int ?_ (0) ?_ ?_ ?_); exact rfl; exact rfl; (show (_ : Int) = _; omega); omega; simp only [Act.put, List.setIfInBounds_toArray, List.set_cons_succ, List.set_cons_zero]) | ((with_reducible refine' wpList_load_blk (.tmp 26) 3 rfl ?_ ld_int ?_ hk4 (PZ.out) ?_); exact rfl; exact rfl; simp only [Act.put, List.setIfInBounds_toArray, List.set_cons_succ, List.set_cons_zero]) | ((with_reducible refine' wpList_load_blk (.tmp 30) 3 rfl ?_ ld_int ?_ hk4 (PZ.out) ?_); exact rfl; exact rfl; simp only [Act.put, List.setIfInBounds_toArray, List.set_cons_succ, List.set_cons_zero]))
      go_ret
      exact ⟨rfl, hb⟩
    · have L3 := Lib.hid (show decide (2 < z0) = true from decide_eq_true h2)
      have L4 := Lib.hid (show decide (z0 ≤ 6) = false from decide_eq_false h6)
      go_upto_region 4 with (first | (rw [L1.out]) | (rw [L2.out]) | (rw [L3.out]) | (rw [L4.out]) | ((with_reducible refine' wpList_at_blk (.tmp 4) (.const (.int .i64 0)) 28 rfl ?_ Tryd.underlying28 sz_int ?_ (0) ?_ ?_ ?_); exact rfl; exact rfl; (show (_ : Int) = _; omega); omega; simp only [Act.put, List.setIfInBounds_toArray, List.set_cons_succ, List.set_cons_zero]) | ((with_reducible refine' wpList_load_blk (.tmp 26) 3 rfl ?_ ld_int ?_ hk4 (PZ.out) ?_); exact rfl; exact rfl; simp only [Act.put, List.setIfInBounds_toArray, List.set_cons_succ, List.set_cons_zero]) | ((with_reducible refine' wpList_load_blk (.tmp 30) 3 rfl ?_ ld_int ?_ hk4 (PZ.out) ?_); exact rfl; exact rfl; simp only [Act.put, List.setIfInBounds_toArray, List.set_cons_succ, List.set_cons_zero]))
      clear h2 h6 hs hm hss hsm
      go_upto_region 5 with (first
        | ((with_reducible refine' wpList_at_blk (.tmp 4) (.const (.int .i64 0)) 28 rfl ?_ Tryd.underlying28 sz_int ?_ (0) ?_ ?_ ?_); exact rfl; exact rfl; (show (_ : Int) = _; omega); omega; simp only [Act.put, List.setIfInBounds_toArray, List.set_cons_succ, List.set_cons_zero]) | ((with_reducible refine' wpList_load_blk (.tmp 38) 3 rfl ?_ ld_int ?_ hk4 (PZ.out) ?_); exact rfl; exact rfl; simp only [Act.put, List.setIfInBounds_toArray, List.set_cons_succ, List.set_cons_zero])
        | ((go_at_call 12; (with_reducible refine (public_any s z0 _ hT1 S6.out).mono ?_); rintro e w' ⟨rfl, hN⟩); rw [E1.out]; replace hb := hb.trans ((by exact hN : Below _ _ _).mono hb.size); (try replace hk4 := Blk.below hk4 hN (Blk.lt hk4)); have y1 := hb.size; have l4 := hk4.lt)
        | (((with_reducible refine' wpList_alloc_blk (cs := List.replicate 16 (.int .u8 0)) 23 rfl ?_ zr_dig ?_ ?_); exact rfl; exact zeros_u8 16; intro wa k8 hN hz1; simp only [Act.put, List.setIfInBounds_toArray, List.set_cons_succ, List.set_cons_zero]); replace hb := hb.trans ((by exact hN : Below _ _ _).mono hb.size); (try replace hk4 := Blk.below hk4 hN (Blk.lt hk4)))
        | (((with_reducible refine' wpList_store_blk (cs := bv A) 23 (.tmp 8) (.tmp 41) rfl ?_ ?_ ?_ k8 sz_dig ?_ ?_ ?_ ?_); exact rfl; exact rfl; exact rfl; exact AB.out; exact List.length_replicate; exact bv_one _; intro wb k8b hO hz2; simp only [Act.put]); replace hb := hb.trans (hO.below y1 hb.size); replace k8 := k8b; replace hk4 := hO.blk hk4 (by omega)))
      obtain ⟨B8, hB8⟩ : ∃ B, w'.heap.size = B := ⟨_, rfl⟩
      rw [hB8] at k8 ⊢
      have hTa := hT.below hb
      have hRa := hR.below hb
      clear hT1 hB8 hO k8b hz1 hz2
      go_upto_region 6 with (first
        | ((with_reducible refine' wpList_at_blk (.tmp 4) (.const (.int .i64 0)) 28 rfl ?_ Tryd.underlying28 sz_int ?_ (0) ?_ ?_ ?_); exact rfl; exact rfl; (show (_ : Int) = _; omega); omega; simp only [Act.put, List.setIfInBounds_toArray, List.set_cons_succ, List.set_cons_zero]) | ((with_reducible refine' wpList_load_blk (.tmp 45) 3 rfl ?_ ld_int ?_ hk4 (PZ.out) ?_); exact rfl; exact rfl; simp only [Act.put, List.setIfInBounds_toArray, List.set_cons_succ, List.set_cons_zero])
        | ((go_at_call 13; (with_reducible refine (refpublic_any s z0 _ hRa S6.out).mono ?_); rintro e w' ⟨rfl, hN⟩); rw [E1.out]; replace hb := hb.trans ((by exact hN : Below _ _ _).mono hb.size); (try replace hk4 := Blk.below hk4 hN (Blk.lt hk4)); (try replace k8 := Blk.below k8 hN (Blk.lt k8)); have y2 := hb.size; have l4 := hk4.lt; have l8 := k8.lt)
        | (((with_reducible refine' wpList_alloc_blk (cs := List.replicate 16 (.int .u8 0)) 23 rfl ?_ zr_dig ?_ ?_); exact rfl; exact zeros_u8 16; intro wc k10 hN hz1; simp only [Act.put, List.setIfInBounds_toArray, List.set_cons_succ, List.set_cons_zero]); replace hb := hb.trans ((by exact hN : Below _ _ _).mono hb.size); (try replace hk4 := Blk.below hk4 hN (Blk.lt hk4)); (try replace k8 := Blk.below k8 hN (Blk.lt k8)))
        | (((with_reducible refine' wpList_store_blk (cs := bv A) 23 (.tmp 10) (.tmp 48) rfl ?_ ?_ ?_ k10 sz_dig ?_ ?_ ?_ ?_); exact rfl; exact rfl; exact rfl; exact AB.out; exact List.length_replicate; exact bv_one _; intro wd k10b hO hz2; simp only [Act.put]); replace hb := hb.trans (hO.below y2 hb.size); replace k10 := k10b; replace hk4 := hO.blk hk4 (by omega); replace k8 := hO.blk k8 (by omega)))
      obtain ⟨B10, hB10⟩ : ∃ B, w'.heap.size = B := ⟨_, rfl⟩
      rw [hB10] at k10 ⊢
      clear hTa hRa hO k10b hB10
      have hTa := hT.below hb
      go_upto_region 7 with (first
        | ((with_reducible refine' wpList_at_blk (.tmp 4) (.const (.int .i64 0)) 28 rfl ?_ Tryd.underlying28 sz_int ?_ (0) ?_ ?_ ?_); exact rfl; exact rfl; (show (_ : Int) = _; omega); omega; simp only [Act.put, List.setIfInBounds_toArray, List.set_cons_succ, List.set_cons_zero]) | ((with_reducible refine' wpList_load_blk (.tmp 52) 3 rfl ?_ ld_int ?_ hk4 (PZ.out) ?_); exact rfl; exact rfl; simp only [Act.put, List.setIfInBounds_toArray, List.set_cons_succ, List.set_cons_zero]) | ((with_reducible refine' wpList_at_blk (.tmp 4) (.const (.int .i64 1)) 28 rfl ?_ Tryd.underlying28 sz_int ?_ (1) ?_ ?_ ?_); exact rfl; exact rfl; (show (_ : Int) = _; omega); omega; simp only [Act.put, List.setIfInBounds_toArray, List.set_cons_succ, List.set_cons_zero]) | ((with_reducible refine' wpList_load_blk (.tmp 54) 3 rfl ?_ ld_int ?_ hk4 (PO.out) ?_); exact rfl; exact rfl; simp only [Act.put, List.setIfInBounds_toArray, List.set_cons_succ, List.set_cons_zero])
        | ((go_at_call 14; (with_reducible refine (sign_any s m z0 z1 _ hTa S6.out M6.out).mono ?_); rintro e w' ⟨rfl, hN⟩); rw [E2.out]; replace hb := hb.trans ((by exact hN : Below _ _ _).mono hb.size); (try replace hk4 := Blk.below hk4 hN (Blk.lt hk4)); (try replace k8 := Blk.below k8 hN (Blk.lt k8)); (try replace k10 := Blk.below k10 hN (Blk.lt k10))))
      clear hTa
      have hRa := hR.below hb
      go_upto_region 8 with (first
        | ((with_reducible refine' wpList_at_blk (.tmp 4) (.const (.int .i64 0)) 28 rfl ?_ Tryd.underlying28 sz_int ?_ (0) ?_ ?_ ?_); exact rfl; exact rfl; (show (_ : Int) = _; omega); omega; simp only [Act.put, List.setIfInBounds_toArray, List.set_cons_succ, List.set_cons_zero]) | ((with_reducible refine' wpList_load_blk (.tmp 62) 3 rfl ?_ ld_int ?_ hk4 (PZ.out) ?_); exact rfl; exact rfl; simp only [Act.put, List.setIfInBounds_toArray, List.set_cons_succ, List.set_cons_zero]) | ((with_reducible refine' wpList_at_blk (.tmp 4) (.const (.int .i64 1)) 28 rfl ?_ Tryd.underlying28 sz_int ?_ (1) ?_ ?_ ?_); exact rfl; exact rfl; (show (_ : Int) = _; omega); omega; simp only [Act.put, List.setIfInBounds_toArray, List.set_cons_succ, List.set_cons_zero]) | ((with_reducible refine' wpList_load_blk (.tmp 64) 3 rfl ?_ ld_int ?_ hk4 (PO.out) ?_); exact rfl; exact rfl; simp only [Act.put, List.setIfInBounds_toArray, List.set_cons_succ, List.set_cons_zero])
        | ((go_at_call 15; (with_reducible refine (refsign_any s m z0 z1 _ hRa S6.out M6.out).mono ?_); rintro e w' ⟨rfl, hN⟩); rw [E2.out]; replace hb := hb.trans ((by exact hN : Below _ _ _).mono hb.size); (try replace hk4 := Blk.below hk4 hN (Blk.lt hk4)); (try replace k8 := Blk.below k8 hN (Blk.lt k8)); (try replace k10 := Blk.below k10 hN (Blk.lt k10))))
      have hTa := hT.below hb
      clear hRa
      have hRa := hR.below hb
      obtain ⟨ws, rfl⟩ : ∃ ws : World, ws = w' := ⟨_, rfl⟩
      refine wp_region_mono (w := ws) 33 (fun i => match i with | 0 => fun (vv : Value) (ww : World) => vv = .bool true | 1 => fun (vv : Value) (ww : World) => vv = .bool true | 2 => fun (vv : Value) (ww : World) => vv = .agg (bv A).toArray | 3 => fun (vv : Value) (ww : World) => vv = .agg (bv A).toArray | 4 => fun (vv : Value) (ww : World) => vv = .bool true | 5 => fun (vv : Value) (ww : World) => vv = .bool true | 6 => fun (vv : Value) (ww : World) => vv = .bool true | 7 => fun (vv : Value) (ww : World) => vv = .int .i64 (ea : Int) | 8 => fun (vv : Value) (ww : World) => vv = .int .i64 (ea : Int) | 9 => fun (vv : Value) (ww : World) => vv = .bool true | 10 => fun (vv : Value) (ww : World) => vv = .bool true | 11 => fun (vv : Value) (ww : World) => vv = .bool true | 12 => fun (vv : Value) (ww : World) => vv = .string ⟨C.toArray⟩ | 13 => fun (vv : Value) (ww : World) => vv = .string ⟨C.toArray⟩ | 14 => fun (vv : Value) (ww : World) => vv = .bool true | 15 => fun (vv : Value) (ww : World) => vv = .bool true | 16 => fun (vv : Value) (ww : World) => vv = .bool true | 17 => fun (vv : Value) (ww : World) => vv = .int .i64 (ec : Int) | 18 => fun (vv : Value) (ww : World) => vv = .int .i64 (ec : Int) | 19 => fun (vv : Value) (ww : World) => vv = .bool true | 20 => fun (vv : Value) (ww : World) => vv = .bool true | 21 => fun (vv : Value) (ww : World) => vv = .bool true | 22 => fun (vv : Value) (ww : World) => vv = .agg (bv A).toArray | 23 => fun (vv : Value) (ww : World) => vv = .pointer (some ⟨B4, 1, none⟩) | 24 => fun (vv : Value) (ww : World) => vv = .int .i64 z1 | 25 => fun (vv : Value) (ww : World) => vv = .string ⟨m.toArray⟩ | 26 => fun (vv : Value) (ww : World) => vv = .agg (bv F).toArray | 27 => fun (vv : Value) (ww : World) => vv = .agg (bv A).toArray | 28 => fun (vv : Value) (ww : World) => vv = .pointer (some ⟨B4, 1, none⟩) | 29 => fun (vv : Value) (ww : World) => vv = .int .i64 z1 | 30 => fun (vv : Value) (ww : World) => vv = .string ⟨m.toArray⟩ | 31 => fun (vv : Value) (ww : World) => vv = .agg (bv F).toArray | 32 => fun (vv : Value) (ww : World) => vv = .bool true | _ => fun _ _ => True) (by kernel_rfl) (by kernel_rfl) ?_ ?_ ?_
      · intro i vv w1 w2 h hb
        rcases i with _ | _ | _ | _ | _ | _ | _ | _ | _ | _ | _ | _ | _ | _ | _ | _ | _ | _ | _ | _ | _ | _ | _ | _ | _ | _ | _ | _ | _ | _ | _ | _ | _ | i
        all_goals first | exact h | exact Rd.below h hb | exact own_below h hb | (obtain ⟨B, h1, h2, h3⟩ := h; exact ⟨B, h1, h2, Blk.below h3 hb (Blk.lt h3)⟩) | trivial
      · intro i o hi ho us wz hl hbz hd
        obtain ⟨u0, u1, u2, u3, u4, u5, u6, u7, u8, u9, u10, u11, u12, u13, u14, u15, u16, u17, u18, u19, u20, u21, u22, u23, u24, u25, u26, u27, u28, u29, u30, u31, u32, rfl⟩ := len33 hl
        rcases i with _ | _ | _ | _ | _ | _ | _ | _ | _ | _ | _ | _ | _ | _ | _ | _ | _ | _ | _ | _ | _ | _ | _ | _ | _ | _ | _ | _ | _ | _ | _ | _ | _ | i
        · simp only [List.getElem?_cons_succ, List.getElem?_cons_zero, Option.some.injEq] at ho; subst ho; clear hi hl
          clear hd
          simp only [List.take_succ_cons, List.take_zero, List.drop_succ_cons, List.drop_zero, List.map_cons, List.map_nil, puts, Act.put, List.setIfInBounds_toArray, List.set_cons_succ, List.set_cons_zero]
          go_wp2_with (fail)
          exact ⟨rfl, _, rfl, Below.refl _ _, rfl⟩
        · simp only [List.getElem?_cons_succ, List.getElem?_cons_zero, Option.some.injEq] at ho; subst ho; clear hi hl
          have s0 : (fun (vv : Value) (ww : World) => vv = .bool true) u0 wz := hd 0 (by kernel_rfl)
          simp only at s0
          obtain rfl := s0
          clear hd
          simp only [List.take_succ_cons, List.take_zero, List.drop_succ_cons, List.drop_zero, List.map_cons, List.map_nil, puts, Act.put, List.setIfInBounds_toArray, List.set_cons_succ, List.set_cons_zero]
          go_wp2_with (fail)
          exact ⟨rfl, _, rfl, Below.refl _ _, rfl⟩
        · simp only [List.getElem?_cons_succ, List.getElem?_cons_zero, Option.some.injEq] at ho; subst ho; clear hi hl
          have s1 : (fun (vv : Value) (ww : World) => vv = .bool true) u1 wz := hd 1 (by kernel_rfl)
          simp only at s1
          obtain rfl := s1
          clear hd
          simp only [List.take_succ_cons, List.take_zero, List.drop_succ_cons, List.drop_zero, List.map_cons, List.map_nil, puts, Act.put, List.setIfInBounds_toArray, List.set_cons_succ, List.set_cons_zero]
          go_wp2_with (((with_reducible refine' wpList_loadall_blk (.tmp 8) 23 rfl ?_ Tryd.underlying23 sz_dig ?_ (k8.below hbz k8.lt) ?_ ?_ ?_); exact rfl; exact rfl; exact AB.out; omega; simp only [Act.put, List.setIfInBounds_toArray, List.set_cons_succ, List.set_cons_zero]))
          exact ⟨rfl, _, rfl, Below.refl _ _, rfl⟩
        · simp only [List.getElem?_cons_succ, List.getElem?_cons_zero, Option.some.injEq] at ho; subst ho; clear hi hl
          have s1 : (fun (vv : Value) (ww : World) => vv = .bool true) u1 wz := hd 1 (by kernel_rfl)
          simp only at s1
          obtain rfl := s1
          clear hd
          simp only [List.take_succ_cons, List.take_zero, List.drop_succ_cons, List.drop_zero, List.map_cons, List.map_nil, puts, Act.put, List.setIfInBounds_toArray, List.set_cons_succ, List.set_cons_zero]
          go_wp2_with (((with_reducible refine' wpList_loadall_blk (.tmp 10) 23 rfl ?_ Tryd.underlying23 sz_dig ?_ (k10.below hbz k10.lt) ?_ ?_ ?_); exact rfl; exact rfl; exact AB.out; omega; simp only [Act.put, List.setIfInBounds_toArray, List.set_cons_succ, List.set_cons_zero]))
          exact ⟨rfl, _, rfl, Below.refl _ _, rfl⟩
        · simp only [List.getElem?_cons_succ, List.getElem?_cons_zero, Option.some.injEq] at ho; subst ho; clear hi hl
          have s2 : (fun (vv : Value) (ww : World) => vv = .agg (bv A).toArray) u2 wz := hd 2 (by kernel_rfl)
          simp only at s2
          obtain rfl := s2
          have s3 : (fun (vv : Value) (ww : World) => vv = .agg (bv A).toArray) u3 wz := hd 3 (by kernel_rfl)
          simp only at s3
          obtain rfl := s3
          have s1 : (fun (vv : Value) (ww : World) => vv = .bool true) u1 wz := hd 1 (by kernel_rfl)
          simp only at s1
          obtain rfl := s1
          clear hd
          simp only [List.take_succ_cons, List.take_zero, List.drop_succ_cons, List.drop_zero, List.map_cons, List.map_nil, puts, Act.put, List.setIfInBounds_toArray, List.set_cons_succ, List.set_cons_zero]
          go_wp2_with (((with_reducible refine' wpList_arr_eql (l := A) (m := A) (.tmp 72) (.tmp 73) 23 _ rfl ?_ Tryd.underlying23 Tryd.underlying5 sz_u8 (by kernel_rfl) ?_ ?_ A16.out A16.out ?_); exact rfl; exact rfl; exact rfl; simp only [Act.put, List.setIfInBounds_toArray, List.set_cons_succ, List.set_cons_zero]))
          exact ⟨rfl, _, rfl, Below.refl _ _, by simp⟩
        · simp only [List.getElem?_cons_succ, List.getElem?_cons_zero, Option.some.injEq] at ho; subst ho; clear hi hl
          have s1 : (fun (vv : Value) (ww : World) => vv = .bool true) u1 wz := hd 1 (by kernel_rfl)
          simp only at s1
          obtain rfl := s1
          have s4 : (fun (vv : Value) (ww : World) => vv = .bool true) u4 wz := hd 4 (by kernel_rfl)
          simp only at s4
          obtain rfl := s4
          clear hd
          simp only [List.take_succ_cons, List.take_zero, List.drop_succ_cons, List.drop_zero, List.map_cons, List.map_nil, puts, Act.put, List.setIfInBounds_toArray, List.set_cons_succ, List.set_cons_zero]
          go_wp2_with (fail)
          exact ⟨rfl, _, rfl, Below.refl _ _, rfl⟩
        · simp only [List.getElem?_cons_succ, List.getElem?_cons_zero, Option.some.injEq] at ho; subst ho; clear hi hl
          have s5 : (fun (vv : Value) (ww : World) => vv = .bool true) u5 wz := hd 5 (by kernel_rfl)
          simp only at s5
          obtain rfl := s5
          clear hd
          simp only [List.take_succ_cons, List.take_zero, List.drop_succ_cons, List.drop_zero, List.map_cons, List.map_nil, puts, Act.put, List.setIfInBounds_toArray, List.set_cons_succ, List.set_cons_zero]
          go_wp2_with (fail)
          exact ⟨rfl, _, rfl, Below.refl _ _, rfl⟩
        · simp only [List.getElem?_cons_succ, List.getElem?_cons_zero, Option.some.injEq] at ho; subst ho; clear hi hl
          have s6 : (fun (vv : Value) (ww : World) => vv = .bool true) u6 wz := hd 6 (by kernel_rfl)
          simp only at s6
          obtain rfl := s6
          clear hd
          simp only [List.take_succ_cons, List.take_zero, List.drop_succ_cons, List.drop_zero, List.map_cons, List.map_nil, puts, Act.put, List.setIfInBounds_toArray, List.set_cons_succ, List.set_cons_zero]
          go_wp2_with (fail)
          exact ⟨rfl, _, rfl, Below.refl _ _, rfl⟩
        · simp only [List.getElem?_cons_succ, List.getElem?_cons_zero, Option.some.injEq] at ho; subst ho; clear hi hl
          have s6 : (fun (vv : Value) (ww : World) => vv = .bool true) u6 wz := hd 6 (by kernel_rfl)
          simp only at s6
          obtain rfl := s6
          clear hd
          simp only [List.take_succ_cons, List.take_zero, List.drop_succ_cons, List.drop_zero, List.map_cons, List.map_nil, puts, Act.put, List.setIfInBounds_toArray, List.set_cons_succ, List.set_cons_zero]
          go_wp2_with (fail)
          exact ⟨rfl, _, rfl, Below.refl _ _, rfl⟩
        · simp only [List.getElem?_cons_succ, List.getElem?_cons_zero, Option.some.injEq] at ho; subst ho; clear hi hl
          have s7 : (fun (vv : Value) (ww : World) => vv = .int .i64 (ea : Int)) u7 wz := hd 7 (by kernel_rfl)
          simp only at s7
          obtain rfl := s7
          have s8 : (fun (vv : Value) (ww : World) => vv = .int .i64 (ea : Int)) u8 wz := hd 8 (by kernel_rfl)
          simp only at s8
          obtain rfl := s8
          have s6 : (fun (vv : Value) (ww : World) => vv = .bool true) u6 wz := hd 6 (by kernel_rfl)
          simp only at s6
          obtain rfl := s6
          clear hd
          simp only [List.take_succ_cons, List.take_zero, List.drop_succ_cons, List.drop_zero, List.map_cons, List.map_nil, puts, Act.put, List.setIfInBounds_toArray, List.set_cons_succ, List.set_cons_zero]
          go_wp2_with (fail)
          exact ⟨rfl, _, rfl, Below.refl _ _, by simp⟩
        · simp only [List.getElem?_cons_succ, List.getElem?_cons_zero, Option.some.injEq] at ho; subst ho; clear hi hl
          have s6 : (fun (vv : Value) (ww : World) => vv = .bool true) u6 wz := hd 6 (by kernel_rfl)
          simp only at s6
          obtain rfl := s6
          have s9 : (fun (vv : Value) (ww : World) => vv = .bool true) u9 wz := hd 9 (by kernel_rfl)
          simp only at s9
          obtain rfl := s9
          clear hd
          simp only [List.take_succ_cons, List.take_zero, List.drop_succ_cons, List.drop_zero, List.map_cons, List.map_nil, puts, Act.put, List.setIfInBounds_toArray, List.set_cons_succ, List.set_cons_zero]
          go_wp2_with (fail)
          exact ⟨rfl, _, rfl, Below.refl _ _, rfl⟩
        · simp only [List.getElem?_cons_succ, List.getElem?_cons_zero, Option.some.injEq] at ho; subst ho; clear hi hl
          have s10 : (fun (vv : Value) (ww : World) => vv = .bool true) u10 wz := hd 10 (by kernel_rfl)
          simp only at s10
          obtain rfl := s10
          clear hd
          simp only [List.take_succ_cons, List.take_zero, List.drop_succ_cons, List.drop_zero, List.map_cons, List.map_nil, puts, Act.put, List.setIfInBounds_toArray, List.set_cons_succ, List.set_cons_zero]
          go_wp2_with (fail)
          exact ⟨rfl, _, rfl, Below.refl _ _, rfl⟩
        · simp only [List.getElem?_cons_succ, List.getElem?_cons_zero, Option.some.injEq] at ho; subst ho; clear hi hl
          have s11 : (fun (vv : Value) (ww : World) => vv = .bool true) u11 wz := hd 11 (by kernel_rfl)
          simp only at s11
          obtain rfl := s11
          clear hd
          simp only [List.take_succ_cons, List.take_zero, List.drop_succ_cons, List.drop_zero, List.map_cons, List.map_nil, puts, Act.put, List.setIfInBounds_toArray, List.set_cons_succ, List.set_cons_zero]
          go_wp2_with (fail)
          exact ⟨rfl, _, rfl, Below.refl _ _, rfl⟩
        · simp only [List.getElem?_cons_succ, List.getElem?_cons_zero, Option.some.injEq] at ho; subst ho; clear hi hl
          have s11 : (fun (vv : Value) (ww : World) => vv = .bool true) u11 wz := hd 11 (by kernel_rfl)
          simp only at s11
          obtain rfl := s11
          clear hd
          simp only [List.take_succ_cons, List.take_zero, List.drop_succ_cons, List.drop_zero, List.map_cons, List.map_nil, puts, Act.put, List.setIfInBounds_toArray, List.set_cons_succ, List.set_cons_zero]
          go_wp2_with (fail)
          exact ⟨rfl, _, rfl, Below.refl _ _, rfl⟩
        · simp only [List.getElem?_cons_succ, List.getElem?_cons_zero, Option.some.injEq] at ho; subst ho; clear hi hl
          have s12 : (fun (vv : Value) (ww : World) => vv = .string ⟨C.toArray⟩) u12 wz := hd 12 (by kernel_rfl)
          simp only at s12
          obtain rfl := s12
          have s13 : (fun (vv : Value) (ww : World) => vv = .string ⟨C.toArray⟩) u13 wz := hd 13 (by kernel_rfl)
          simp only at s13
          obtain rfl := s13
          have s11 : (fun (vv : Value) (ww : World) => vv = .bool true) u11 wz := hd 11 (by kernel_rfl)
          simp only at s11
          obtain rfl := s11
          clear hd
          simp only [List.take_succ_cons, List.take_zero, List.drop_succ_cons, List.drop_zero, List.map_cons, List.map_nil, puts, Act.put, List.setIfInBounds_toArray, List.set_cons_succ, List.set_cons_zero]
          go_wp2_with (((with_reducible refine' wpList_str_eql (l := C) (m := C) (.tmp 82) (.tmp 83) 9 _ rfl ?_ ?_ ?_ ?_); exact rfl; exact rfl; exact rfl; simp only [Act.put, List.setIfInBounds_toArray, List.set_cons_succ, List.set_cons_zero]))
          exact ⟨rfl, _, rfl, Below.refl _ _, by simp⟩
        · simp only [List.getElem?_cons_succ, List.getElem?_cons_zero, Option.some.injEq] at ho; subst ho; clear hi hl
          have s11 : (fun (vv : Value) (ww : World) => vv = .bool true) u11 wz := hd 11 (by kernel_rfl)
          simp only at s11
          obtain rfl := s11
          have s14 : (fun (vv : Value) (ww : World) => vv = .bool true) u14 wz := hd 14 (by kernel_rfl)
          simp only at s14
          obtain rfl := s14
          clear hd
          simp only [List.take_succ_cons, List.take_zero, List.drop_succ_cons, List.drop_zero, List.map_cons, List.map_nil, puts, Act.put, List.setIfInBounds_toArray, List.set_cons_succ, List.set_cons_zero]
          go_wp2_with (fail)
          exact ⟨rfl, _, rfl, Below.refl _ _, rfl⟩
        · simp only [List.getElem?_cons_succ, List.getElem?_cons_zero, Option.some.injEq] at ho; subst ho; clear hi hl
          have s15 : (fun (vv : Value) (ww : World) => vv = .bool true) u15 wz := hd 15 (by kernel_rfl)
          simp only at s15
          obtain rfl := s15
          clear hd
          simp only [List.take_succ_cons, List.take_zero, List.drop_succ_cons, List.drop_zero, List.map_cons, List.map_nil, puts, Act.put, List.setIfInBounds_toArray, List.set_cons_succ, List.set_cons_zero]
          go_wp2_with (fail)
          exact ⟨rfl, _, rfl, Below.refl _ _, rfl⟩
        · simp only [List.getElem?_cons_succ, List.getElem?_cons_zero, Option.some.injEq] at ho; subst ho; clear hi hl
          have s16 : (fun (vv : Value) (ww : World) => vv = .bool true) u16 wz := hd 16 (by kernel_rfl)
          simp only at s16
          obtain rfl := s16
          clear hd
          simp only [List.take_succ_cons, List.take_zero, List.drop_succ_cons, List.drop_zero, List.map_cons, List.map_nil, puts, Act.put, List.setIfInBounds_toArray, List.set_cons_succ, List.set_cons_zero]
          go_wp2_with (fail)
          exact ⟨rfl, _, rfl, Below.refl _ _, rfl⟩
        · simp only [List.getElem?_cons_succ, List.getElem?_cons_zero, Option.some.injEq] at ho; subst ho; clear hi hl
          have s16 : (fun (vv : Value) (ww : World) => vv = .bool true) u16 wz := hd 16 (by kernel_rfl)
          simp only at s16
          obtain rfl := s16
          clear hd
          simp only [List.take_succ_cons, List.take_zero, List.drop_succ_cons, List.drop_zero, List.map_cons, List.map_nil, puts, Act.put, List.setIfInBounds_toArray, List.set_cons_succ, List.set_cons_zero]
          go_wp2_with (fail)
          exact ⟨rfl, _, rfl, Below.refl _ _, rfl⟩
        · simp only [List.getElem?_cons_succ, List.getElem?_cons_zero, Option.some.injEq] at ho; subst ho; clear hi hl
          have s17 : (fun (vv : Value) (ww : World) => vv = .int .i64 (ec : Int)) u17 wz := hd 17 (by kernel_rfl)
          simp only at s17
          obtain rfl := s17
          have s18 : (fun (vv : Value) (ww : World) => vv = .int .i64 (ec : Int)) u18 wz := hd 18 (by kernel_rfl)
          simp only at s18
          obtain rfl := s18
          have s16 : (fun (vv : Value) (ww : World) => vv = .bool true) u16 wz := hd 16 (by kernel_rfl)
          simp only at s16
          obtain rfl := s16
          clear hd
          simp only [List.take_succ_cons, List.take_zero, List.drop_succ_cons, List.drop_zero, List.map_cons, List.map_nil, puts, Act.put, List.setIfInBounds_toArray, List.set_cons_succ, List.set_cons_zero]
          go_wp2_with (fail)
          exact ⟨rfl, _, rfl, Below.refl _ _, by simp⟩
        · simp only [List.getElem?_cons_succ, List.getElem?_cons_zero, Option.some.injEq] at ho; subst ho; clear hi hl
          have s16 : (fun (vv : Value) (ww : World) => vv = .bool true) u16 wz := hd 16 (by kernel_rfl)
          simp only at s16
          obtain rfl := s16
          have s19 : (fun (vv : Value) (ww : World) => vv = .bool true) u19 wz := hd 19 (by kernel_rfl)
          simp only at s19
          obtain rfl := s19
          clear hd
          simp only [List.take_succ_cons, List.take_zero, List.drop_succ_cons, List.drop_zero, List.map_cons, List.map_nil, puts, Act.put, List.setIfInBounds_toArray, List.set_cons_succ, List.set_cons_zero]
          go_wp2_with (fail)
          exact ⟨rfl, _, rfl, Below.refl _ _, rfl⟩
        · simp only [List.getElem?_cons_succ, List.getElem?_cons_zero, Option.some.injEq] at ho; subst ho; clear hi hl
          have s20 : (fun (vv : Value) (ww : World) => vv = .bool true) u20 wz := hd 20 (by kernel_rfl)
          simp only at s20
          obtain rfl := s20
          clear hd
          simp only [List.take_succ_cons, List.take_zero, List.drop_succ_cons, List.drop_zero, List.map_cons, List.map_nil, puts, Act.put, List.setIfInBounds_toArray, List.set_cons_succ, List.set_cons_zero]
          go_wp2_with (fail)
          exact ⟨rfl, _, rfl, Below.refl _ _, rfl⟩
        · simp only [List.getElem?_cons_succ, List.getElem?_cons_zero, Option.some.injEq] at ho; subst ho; clear hi hl
          have s21 : (fun (vv : Value) (ww : World) => vv = .bool true) u21 wz := hd 21 (by kernel_rfl)
          simp only at s21
          obtain rfl := s21
          clear hd
          simp only [List.take_succ_cons, List.take_zero, List.drop_succ_cons, List.drop_zero, List.map_cons, List.map_nil, puts, Act.put, List.setIfInBounds_toArray, List.set_cons_succ, List.set_cons_zero]
          go_wp2_with (((with_reducible refine' wpList_loadall_blk (.tmp 8) 23 rfl ?_ Tryd.underlying23 sz_dig ?_ (k8.below hbz k8.lt) ?_ ?_ ?_); exact rfl; exact rfl; exact AB.out; omega; simp only [Act.put, List.setIfInBounds_toArray, List.set_cons_succ, List.set_cons_zero]))
          exact ⟨rfl, _, rfl, Below.refl _ _, rfl⟩
        · simp only [List.getElem?_cons_succ, List.getElem?_cons_zero, Option.some.injEq] at ho; subst ho; clear hi hl
          have s21 : (fun (vv : Value) (ww : World) => vv = .bool true) u21 wz := hd 21 (by kernel_rfl)
          simp only at s21
          obtain rfl := s21
          clear hd
          simp only [List.take_succ_cons, List.take_zero, List.drop_succ_cons, List.drop_zero, List.map_cons, List.map_nil, puts, Act.put, List.setIfInBounds_toArray, List.set_cons_succ, List.set_cons_zero]
          go_wp2_with (((with_reducible refine' wpList_at_blk (.tmp 4) (.const (.int .i64 1)) 28 rfl ?_ Tryd.underlying28 sz_int ?_ (1) ?_ ?_ ?_); exact rfl; exact rfl; (show (_ : Int) = _; omega); omega; simp only [Act.put, List.setIfInBounds_toArray, List.set_cons_succ, List.set_cons_zero]))
          exact ⟨rfl, _, rfl, Below.refl _ _, rfl⟩
        · simp only [List.getElem?_cons_succ, List.getElem?_cons_zero, Option.some.injEq] at ho; subst ho; clear hi hl
          have s23 : (fun (vv : Value) (ww : World) => vv = .pointer (some ⟨B4, 1, none⟩)) u23 wz := hd 23 (by kernel_rfl)
          simp only at s23
          obtain rfl := s23
          have s21 : (fun (vv : Value) (ww : World) => vv = .bool true) u21 wz := hd 21 (by kernel_rfl)
          simp only at s21
          obtain rfl := s21
          clear hd
          simp only [List.take_succ_cons, List.take_zero, List.drop_succ_cons, List.drop_zero, List.map_cons, List.map_nil, puts, Act.put, List.setIfInBounds_toArray, List.set_cons_succ, List.set_cons_zero]
          go_wp2_with (((with_reducible refine' wpList_load_blk (.tmp 93) 3 rfl ?_ ld_int ?_ (hk4.below hbz hk4.lt) (PO.out) ?_); exact rfl; exact rfl; simp only [Act.put, List.setIfInBounds_toArray, List.set_cons_succ, List.set_cons_zero]))
          exact ⟨rfl, _, rfl, Below.refl _ _, rfl⟩
        · simp only [List.getElem?_cons_succ, List.getElem?_cons_zero, Option.some.injEq] at ho; subst ho; clear hi hl
          have s21 : (fun (vv : Value) (ww : World) => vv = .bool true) u21 wz := hd 21 (by kernel_rfl)
          simp only at s21
          obtain rfl := s21
          clear hd
          simp only [List.take_succ_cons, List.take_zero, List.drop_succ_cons, List.drop_zero, List.map_cons, List.map_nil, puts, Act.put, List.setIfInBounds_toArray, List.set_cons_succ, List.set_cons_zero]
          go_wp2_with (fail)
          exact ⟨rfl, _, rfl, Below.refl _ _, rfl⟩
        · simp only [List.getElem?_cons_succ, List.getElem?_cons_zero, Option.some.injEq] at ho; subst ho; clear hi hl
          have s22 : (fun (vv : Value) (ww : World) => vv = .agg (bv A).toArray) u22 wz := hd 22 (by kernel_rfl)
          simp only at s22
          obtain rfl := s22
          have s24 : (fun (vv : Value) (ww : World) => vv = .int .i64 z1) u24 wz := hd 24 (by kernel_rfl)
          simp only at s24
          obtain rfl := s24
          have s25 : (fun (vv : Value) (ww : World) => vv = .string ⟨m.toArray⟩) u25 wz := hd 25 (by kernel_rfl)
          simp only at s25
          obtain rfl := s25
          have s21 : (fun (vv : Value) (ww : World) => vv = .bool true) u21 wz := hd 21 (by kernel_rfl)
          simp only at s21
          obtain rfl := s21
          clear hd
          simp only [List.take_succ_cons, List.take_zero, List.drop_succ_cons, List.drop_zero, List.map_cons, List.map_nil, puts, Act.put, List.setIfInBounds_toArray, List.set_cons_succ, List.set_cons_zero]
          go_wp2_with (((go_at_call 16; (with_reducible refine (msg_any A z1 m _ (hTa.below hbz) A16.out I1.out M7.out).mono ?_); rintro e w' ⟨rfl, hN⟩); rw [EF.out]))
          exact ⟨rfl, _, rfl, hN, rfl⟩
        · simp only [List.getElem?_cons_succ, List.getElem?_cons_zero, Option.some.injEq] at ho; subst ho; clear hi hl
          have s21 : (fun (vv : Value) (ww : World) => vv = .bool true) u21 wz := hd 21 (by kernel_rfl)
          simp only at s21
          obtain rfl := s21
          clear hd
          simp only [List.take_succ_cons, List.take_zero, List.drop_succ_cons, List.drop_zero, List.map_cons, List.map_nil, puts, Act.put, List.setIfInBounds_toArray, List.set_cons_succ, List.set_cons_zero]
          go_wp2_with (((with_reducible refine' wpList_loadall_blk (.tmp 8) 23 rfl ?_ Tryd.underlying23 sz_dig ?_ (k8.below hbz k8.lt) ?_ ?_ ?_); exact rfl; exact rfl; exact AB.out; omega; simp only [Act.put, List.setIfInBounds_toArray, List.set_cons_succ, List.set_cons_zero]))
          exact ⟨rfl, _, rfl, Below.refl _ _, rfl⟩
        · simp only [List.getElem?_cons_succ, List.getElem?_cons_zero, Option.some.injEq] at ho; subst ho; clear hi hl
          have s21 : (fun (vv : Value) (ww : World) => vv = .bool true) u21 wz := hd 21 (by kernel_rfl)
          simp only at s21
          obtain rfl := s21
          clear hd
          simp only [List.take_succ_cons, List.take_zero, List.drop_succ_cons, List.drop_zero, List.map_cons, List.map_nil, puts, Act.put, List.setIfInBounds_toArray, List.set_cons_succ, List.set_cons_zero]
          go_wp2_with (((with_reducible refine' wpList_at_blk (.tmp 4) (.const (.int .i64 1)) 28 rfl ?_ Tryd.underlying28 sz_int ?_ (1) ?_ ?_ ?_); exact rfl; exact rfl; (show (_ : Int) = _; omega); omega; simp only [Act.put, List.setIfInBounds_toArray, List.set_cons_succ, List.set_cons_zero]))
          exact ⟨rfl, _, rfl, Below.refl _ _, rfl⟩
        · simp only [List.getElem?_cons_succ, List.getElem?_cons_zero, Option.some.injEq] at ho; subst ho; clear hi hl
          have s28 : (fun (vv : Value) (ww : World) => vv = .pointer (some ⟨B4, 1, none⟩)) u28 wz := hd 28 (by kernel_rfl)
          simp only at s28
          obtain rfl := s28
          have s21 : (fun (vv : Value) (ww : World) => vv = .bool true) u21 wz := hd 21 (by kernel_rfl)
          simp only at s21
          obtain rfl := s21
          clear hd
          simp only [List.take_succ_cons, List.take_zero, List.drop_succ_cons, List.drop_zero, List.map_cons, List.map_nil, puts, Act.put, List.setIfInBounds_toArray, List.set_cons_succ, List.set_cons_zero]
          go_wp2_with (((with_reducible refine' wpList_load_blk (.tmp 98) 3 rfl ?_ ld_int ?_ (hk4.below hbz hk4.lt) (PO.out) ?_); exact rfl; exact rfl; simp only [Act.put, List.setIfInBounds_toArray, List.set_cons_succ, List.set_cons_zero]))
          exact ⟨rfl, _, rfl, Below.refl _ _, rfl⟩
        · simp only [List.getElem?_cons_succ, List.getElem?_cons_zero, Option.some.injEq] at ho; subst ho; clear hi hl
          have s21 : (fun (vv : Value) (ww : World) => vv = .bool true) u21 wz := hd 21 (by kernel_rfl)
          simp only at s21
          obtain rfl := s21
          clear hd
          simp only [List.take_succ_cons, List.take_zero, List.drop_succ_cons, List.drop_zero, List.map_cons, List.map_nil, puts, Act.put, List.setIfInBounds_toArray, List.set_cons_succ, List.set_cons_zero]
          go_wp2_with (fail)
          exact ⟨rfl, _, rfl, Below.refl _ _, rfl⟩
        · simp only [List.getElem?_cons_succ, List.getElem?_cons_zero, Option.some.injEq] at ho; subst ho; clear hi hl
          have s27 : (fun (vv : Value) (ww : World) => vv = .agg (bv A).toArray) u27 wz := hd 27 (by kernel_rfl)
          simp only at s27
          obtain rfl := s27
          have s29 : (fun (vv : Value) (ww : World) => vv = .int .i64 z1) u29 wz := hd 29 (by kernel_rfl)
          simp only at s29
          obtain rfl := s29
          have s30 : (fun (vv : Value) (ww : World) => vv = .string ⟨m.toArray⟩) u30 wz := hd 30 (by kernel_rfl)
          simp only at s30
          obtain rfl := s30
          have s21 : (fun (vv : Value) (ww : World) => vv = .bool true) u21 wz := hd 21 (by kernel_rfl)
          simp only at s21
          obtain rfl := s21
          clear hd
          simp only [List.take_succ_cons, List.take_zero, List.drop_succ_cons, List.drop_zero, List.map_cons, List.map_nil, puts, Act.put, List.setIfInBounds_toArray, List.set_cons_succ, List.set_cons_zero]
          go_wp2_with (((go_at_call 17; (with_reducible refine (refmsg_any A z1 m _ (hRa.below hbz) A16.out I1.out M7.out).mono ?_); rintro e w' ⟨rfl, hN⟩); rw [EF.out]))
          exact ⟨rfl, _, rfl, hN, rfl⟩
        · simp only [List.getElem?_cons_succ, List.getElem?_cons_zero, Option.some.injEq] at ho; subst ho; clear hi hl
          have s26 : (fun (vv : Value) (ww : World) => vv = .agg (bv F).toArray) u26 wz := hd 26 (by kernel_rfl)
          simp only at s26
          obtain rfl := s26
          have s31 : (fun (vv : Value) (ww : World) => vv = .agg (bv F).toArray) u31 wz := hd 31 (by kernel_rfl)
          simp only at s31
          obtain rfl := s31
          have s21 : (fun (vv : Value) (ww : World) => vv = .bool true) u21 wz := hd 21 (by kernel_rfl)
          simp only at s21
          obtain rfl := s21
          clear hd
          simp only [List.take_succ_cons, List.take_zero, List.drop_succ_cons, List.drop_zero, List.map_cons, List.map_nil, puts, Act.put, List.setIfInBounds_toArray, List.set_cons_succ, List.set_cons_zero]
          go_wp2_with (((with_reducible refine' wpList_arr_eql (l := F) (m := F) (.tmp 96) (.tmp 101) 23 _ rfl ?_ Tryd.underlying23 Tryd.underlying5 sz_u8 (by kernel_rfl) ?_ ?_ F16.out F16.out ?_); exact rfl; exact rfl; exact rfl; simp only [Act.put, List.setIfInBounds_toArray, List.set_cons_succ, List.set_cons_zero]))
          exact ⟨rfl, _, rfl, Below.refl _ _, by simp⟩
        · omega
      intro us wz hl hbz hS
      obtain ⟨u0, u1, u2, u3, u4, u5, u6, u7, u8, u9, u10, u11, u12, u13, u14, u15, u16, u17, u18, u19, u20, u21, u22, u23, u24, u25, u26, u27, u28, u29, u30, u31, u32, rfl⟩ := len33 hl
      have s21 : (fun (vv : Value) (ww : World) => vv = .bool true) u21 wz := hS 21 (by omega)
      simp only at s21
      obtain rfl := s21
      have s32 : (fun (vv : Value) (ww : World) => vv = .bool true) u32 wz := hS 32 (by omega)
      simp only at s32
      obtain rfl := s32
      clear hS hl
      simp only [List.take_succ_cons, List.take_zero, List.drop_succ_cons, List.drop_zero, List.map_cons, List.map_nil, puts, Act.put, List.setIfInBounds_toArray, List.set_cons_succ, List.set_cons_zero]
      go_wp2_with fail
      refine onlyN ?_
      go_wp2_with fail
      go_ret
      exact ⟨rfl, hb.trans (hbz.mono hb.size)⟩
  · have L3 := Lib.hid (show decide (2 < z0) = false from decide_eq_false h2)
    go_upto_region 4 with (first | (rw [L1.out]) | (rw [L2.out]) | (rw [L3.out]) | ((with_reducible refine' wpList_at_blk (.tmp 4) (.const (.int .i64 0)) 28 rfl ?_ Tryd.underlying28 sz_int ?_ (0) ?_ ?_ ?_); exact rfl; exact rfl; (show (_ : Int) = _; omega); omega; simp only [Act.put, List.setIfInBounds_toArray, List.set_cons_succ, List.set_cons_zero]) | ((with_reducible refine' wpList_load_blk (.tmp 26) 3 rfl ?_ ld_int ?_ hk4 (PZ.out) ?_); exact rfl; exact rfl; simp only [Act.put, List.setIfInBounds_toArray, List.set_cons_succ, List.set_cons_zero]))
    clear h2 hs hm hss hsm
    go_upto_region 5 with (first
      | ((with_reducible refine' wpList_at_blk (.tmp 4) (.const (.int .i64 0)) 28 rfl ?_ Tryd.underlying28 sz_int ?_ (0) ?_ ?_ ?_); exact rfl; exact rfl; (show (_ : Int) = _; omega); omega; simp only [Act.put, List.setIfInBounds_toArray, List.set_cons_succ, List.set_cons_zero]) | ((with_reducible refine' wpList_load_blk (.tmp 38) 3 rfl ?_ ld_int ?_ hk4 (PZ.out) ?_); exact rfl; exact rfl; simp only [Act.put, List.setIfInBounds_toArray, List.set_cons_succ, List.set_cons_zero])
      | ((go_at_call 12; (with_reducible refine (public_any s z0 _ hT1 S6.out).mono ?_); rintro e w' ⟨rfl, hN⟩); rw [E1.out]; replace hb := hb.trans ((by exact hN : Below _ _ _).mono hb.size); (try replace hk4 := Blk.below hk4 hN (Blk.lt hk4)); have y1 := hb.size; have l4 := hk4.lt)
      | (((with_reducible refine' wpList_alloc_blk (cs := List.replicate 16 (.int .u8 0)) 23 rfl ?_ zr_dig ?_ ?_); exact rfl; exact zeros_u8 16; intro wa k8 hN hz1; simp only [Act.put, List.setIfInBounds_toArray, List.set_cons_succ, List.set_cons_zero]); replace hb := hb.trans ((by exact hN : Below _ _ _).mono hb.size); (try replace hk4 := Blk.below hk4 hN (Blk.lt hk4)))
      | (((with_reducible refine' wpList_store_blk (cs := bv A) 23 (.tmp 8) (.tmp 41) rfl ?_ ?_ ?_ k8 sz_dig ?_ ?_ ?_ ?_); exact rfl; exact rfl; exact rfl; exact AB.out; exact List.length_replicate; exact bv_one _; intro wb k8b hO hz2; simp only [Act.put]); replace hb := hb.trans (hO.below y1 hb.size); replace k8 := k8b; replace hk4 := hO.blk hk4 (by omega)))
    obtain ⟨B8, hB8⟩ : ∃ B, w'.heap.size = B := ⟨_, rfl⟩
    rw [hB8] at k8 ⊢
    have hTa := hT.below hb
    have hRa := hR.below hb
    clear hT1 hB8 hO k8b hz1 hz2
    go_upto_region 6 with (first
      | ((with_reducible refine' wpList_at_blk (.tmp 4) (.const (.int .i64 0)) 28 rfl ?_ Tryd.underlying28 sz_int ?_ (0) ?_ ?_ ?_); exact rfl; exact rfl; (show (_ : Int) = _; omega); omega; simp only [Act.put, List.setIfInBounds_toArray, List.set_cons_succ, List.set_cons_zero]) | ((with_reducible refine' wpList_load_blk (.tmp 45) 3 rfl ?_ ld_int ?_ hk4 (PZ.out) ?_); exact rfl; exact rfl; simp only [Act.put, List.setIfInBounds_toArray, List.set_cons_succ, List.set_cons_zero])
      | ((go_at_call 13; (with_reducible refine (refpublic_any s z0 _ hRa S6.out).mono ?_); rintro e w' ⟨rfl, hN⟩); rw [E1.out]; replace hb := hb.trans ((by exact hN : Below _ _ _).mono hb.size); (try replace hk4 := Blk.below hk4 hN (Blk.lt hk4)); (try replace k8 := Blk.below k8 hN (Blk.lt k8)); have y2 := hb.size; have l4 := hk4.lt; have l8 := k8.lt)
      | (((with_reducible refine' wpList_alloc_blk (cs := List.replicate 16 (.int .u8 0)) 23 rfl ?_ zr_dig ?_ ?_); exact rfl; exact zeros_u8 16; intro wc k10 hN hz1; simp only [Act.put, List.setIfInBounds_toArray, List.set_cons_succ, List.set_cons_zero]); replace hb := hb.trans ((by exact hN : Below _ _ _).mono hb.size); (try replace hk4 := Blk.below hk4 hN (Blk.lt hk4)); (try replace k8 := Blk.below k8 hN (Blk.lt k8)))
      | (((with_reducible refine' wpList_store_blk (cs := bv A) 23 (.tmp 10) (.tmp 48) rfl ?_ ?_ ?_ k10 sz_dig ?_ ?_ ?_ ?_); exact rfl; exact rfl; exact rfl; exact AB.out; exact List.length_replicate; exact bv_one _; intro wd k10b hO hz2; simp only [Act.put]); replace hb := hb.trans (hO.below y2 hb.size); replace k10 := k10b; replace hk4 := hO.blk hk4 (by omega); replace k8 := hO.blk k8 (by omega)))
    obtain ⟨B10, hB10⟩ : ∃ B, w'.heap.size = B := ⟨_, rfl⟩
    rw [hB10] at k10 ⊢
    clear hTa hRa hO k10b hB10
    have hTa := hT.below hb
    go_upto_region 7 with (first
      | ((with_reducible refine' wpList_at_blk (.tmp 4) (.const (.int .i64 0)) 28 rfl ?_ Tryd.underlying28 sz_int ?_ (0) ?_ ?_ ?_); exact rfl; exact rfl; (show (_ : Int) = _; omega); omega; simp only [Act.put, List.setIfInBounds_toArray, List.set_cons_succ, List.set_cons_zero]) | ((with_reducible refine' wpList_load_blk (.tmp 52) 3 rfl ?_ ld_int ?_ hk4 (PZ.out) ?_); exact rfl; exact rfl; simp only [Act.put, List.setIfInBounds_toArray, List.set_cons_succ, List.set_cons_zero]) | ((with_reducible refine' wpList_at_blk (.tmp 4) (.const (.int .i64 1)) 28 rfl ?_ Tryd.underlying28 sz_int ?_ (1) ?_ ?_ ?_); exact rfl; exact rfl; (show (_ : Int) = _; omega); omega; simp only [Act.put, List.setIfInBounds_toArray, List.set_cons_succ, List.set_cons_zero]) | ((with_reducible refine' wpList_load_blk (.tmp 54) 3 rfl ?_ ld_int ?_ hk4 (PO.out) ?_); exact rfl; exact rfl; simp only [Act.put, List.setIfInBounds_toArray, List.set_cons_succ, List.set_cons_zero])
      | ((go_at_call 14; (with_reducible refine (sign_any s m z0 z1 _ hTa S6.out M6.out).mono ?_); rintro e w' ⟨rfl, hN⟩); rw [E2.out]; replace hb := hb.trans ((by exact hN : Below _ _ _).mono hb.size); (try replace hk4 := Blk.below hk4 hN (Blk.lt hk4)); (try replace k8 := Blk.below k8 hN (Blk.lt k8)); (try replace k10 := Blk.below k10 hN (Blk.lt k10))))
    clear hTa
    have hRa := hR.below hb
    go_upto_region 8 with (first
      | ((with_reducible refine' wpList_at_blk (.tmp 4) (.const (.int .i64 0)) 28 rfl ?_ Tryd.underlying28 sz_int ?_ (0) ?_ ?_ ?_); exact rfl; exact rfl; (show (_ : Int) = _; omega); omega; simp only [Act.put, List.setIfInBounds_toArray, List.set_cons_succ, List.set_cons_zero]) | ((with_reducible refine' wpList_load_blk (.tmp 62) 3 rfl ?_ ld_int ?_ hk4 (PZ.out) ?_); exact rfl; exact rfl; simp only [Act.put, List.setIfInBounds_toArray, List.set_cons_succ, List.set_cons_zero]) | ((with_reducible refine' wpList_at_blk (.tmp 4) (.const (.int .i64 1)) 28 rfl ?_ Tryd.underlying28 sz_int ?_ (1) ?_ ?_ ?_); exact rfl; exact rfl; (show (_ : Int) = _; omega); omega; simp only [Act.put, List.setIfInBounds_toArray, List.set_cons_succ, List.set_cons_zero]) | ((with_reducible refine' wpList_load_blk (.tmp 64) 3 rfl ?_ ld_int ?_ hk4 (PO.out) ?_); exact rfl; exact rfl; simp only [Act.put, List.setIfInBounds_toArray, List.set_cons_succ, List.set_cons_zero])
      | ((go_at_call 15; (with_reducible refine (refsign_any s m z0 z1 _ hRa S6.out M6.out).mono ?_); rintro e w' ⟨rfl, hN⟩); rw [E2.out]; replace hb := hb.trans ((by exact hN : Below _ _ _).mono hb.size); (try replace hk4 := Blk.below hk4 hN (Blk.lt hk4)); (try replace k8 := Blk.below k8 hN (Blk.lt k8)); (try replace k10 := Blk.below k10 hN (Blk.lt k10))))
    have hTa := hT.below hb
    clear hRa
    have hRa := hR.below hb
    obtain ⟨ws, rfl⟩ : ∃ ws : World, ws = w' := ⟨_, rfl⟩
    refine wp_region_mono (w := ws) 33 (fun i => match i with | 0 => fun (vv : Value) (ww : World) => vv = .bool true | 1 => fun (vv : Value) (ww : World) => vv = .bool true | 2 => fun (vv : Value) (ww : World) => vv = .agg (bv A).toArray | 3 => fun (vv : Value) (ww : World) => vv = .agg (bv A).toArray | 4 => fun (vv : Value) (ww : World) => vv = .bool true | 5 => fun (vv : Value) (ww : World) => vv = .bool true | 6 => fun (vv : Value) (ww : World) => vv = .bool true | 7 => fun (vv : Value) (ww : World) => vv = .int .i64 (ea : Int) | 8 => fun (vv : Value) (ww : World) => vv = .int .i64 (ea : Int) | 9 => fun (vv : Value) (ww : World) => vv = .bool true | 10 => fun (vv : Value) (ww : World) => vv = .bool true | 11 => fun (vv : Value) (ww : World) => vv = .bool true | 12 => fun (vv : Value) (ww : World) => vv = .string ⟨C.toArray⟩ | 13 => fun (vv : Value) (ww : World) => vv = .string ⟨C.toArray⟩ | 14 => fun (vv : Value) (ww : World) => vv = .bool true | 15 => fun (vv : Value) (ww : World) => vv = .bool true | 16 => fun (vv : Value) (ww : World) => vv = .bool true | 17 => fun (vv : Value) (ww : World) => vv = .int .i64 (ec : Int) | 18 => fun (vv : Value) (ww : World) => vv = .int .i64 (ec : Int) | 19 => fun (vv : Value) (ww : World) => vv = .bool true | 20 => fun (vv : Value) (ww : World) => vv = .bool true | 21 => fun (vv : Value) (ww : World) => vv = .bool true | 22 => fun (vv : Value) (ww : World) => vv = .agg (bv A).toArray | 23 => fun (vv : Value) (ww : World) => vv = .pointer (some ⟨B4, 1, none⟩) | 24 => fun (vv : Value) (ww : World) => vv = .int .i64 z1 | 25 => fun (vv : Value) (ww : World) => vv = .string ⟨m.toArray⟩ | 26 => fun (vv : Value) (ww : World) => vv = .agg (bv F).toArray | 27 => fun (vv : Value) (ww : World) => vv = .agg (bv A).toArray | 28 => fun (vv : Value) (ww : World) => vv = .pointer (some ⟨B4, 1, none⟩) | 29 => fun (vv : Value) (ww : World) => vv = .int .i64 z1 | 30 => fun (vv : Value) (ww : World) => vv = .string ⟨m.toArray⟩ | 31 => fun (vv : Value) (ww : World) => vv = .agg (bv F).toArray | 32 => fun (vv : Value) (ww : World) => vv = .bool true | _ => fun _ _ => True) (by kernel_rfl) (by kernel_rfl) ?_ ?_ ?_
    · intro i vv w1 w2 h hb
      rcases i with _ | _ | _ | _ | _ | _ | _ | _ | _ | _ | _ | _ | _ | _ | _ | _ | _ | _ | _ | _ | _ | _ | _ | _ | _ | _ | _ | _ | _ | _ | _ | _ | _ | i
      all_goals first | exact h | exact Rd.below h hb | exact own_below h hb | (obtain ⟨B, h1, h2, h3⟩ := h; exact ⟨B, h1, h2, Blk.below h3 hb (Blk.lt h3)⟩) | trivial
    · intro i o hi ho us wz hl hbz hd
      obtain ⟨u0, u1, u2, u3, u4, u5, u6, u7, u8, u9, u10, u11, u12, u13, u14, u15, u16, u17, u18, u19, u20, u21, u22, u23, u24, u25, u26, u27, u28, u29, u30, u31, u32, rfl⟩ := len33 hl
      rcases i with _ | _ | _ | _ | _ | _ | _ | _ | _ | _ | _ | _ | _ | _ | _ | _ | _ | _ | _ | _ | _ | _ | _ | _ | _ | _ | _ | _ | _ | _ | _ | _ | _ | i
      · simp only [List.getElem?_cons_succ, List.getElem?_cons_zero, Option.some.injEq] at ho; subst ho; clear hi hl
        clear hd
        simp only [List.take_succ_cons, List.take_zero, List.drop_succ_cons, List.drop_zero, List.map_cons, List.map_nil, puts, Act.put, List.setIfInBounds_toArray, List.set_cons_succ, List.set_cons_zero]
        go_wp2_with (fail)
        exact ⟨rfl, _, rfl, Below.refl _ _, rfl⟩
      · simp only [List.getElem?_cons_succ, List.getElem?_cons_zero, Option.some.injEq] at ho; subst ho; clear hi hl
        have s0 : (fun (vv : Value) (ww : World) => vv = .bool true) u0 wz := hd 0 (by kernel_rfl)
        simp only at s0
        obtain rfl := s0
        clear hd
        simp only [List.take_succ_cons, List.take_zero, List.drop_succ_cons, List.drop_zero, List.map_cons, List.map_nil, puts, Act.put, List.setIfInBounds_toArray, List.set_cons_succ, List.set_cons_zero]
        go_wp2_with (fail)
        exact ⟨rfl, _, rfl, Below.refl _ _, rfl⟩
      · simp only [List.getElem?_cons_succ, List.getElem?_cons_zero, Option.some.injEq] at ho; subst ho; clear hi hl
        have s1 : (fun (vv : Value) (ww : World) => vv = .bool true) u1 wz := hd 1 (by kernel_rfl)
        simp only at s1
        obtain rfl := s1
        clear hd
        simp only [List.take_succ_cons, List.take_zero, List.drop_succ_cons, List.drop_zero, List.map_cons, List.map_nil, puts, Act.put, List.setIfInBounds_toArray, List.set_cons_succ, List.set_cons_zero]
        go_wp2_with (((with_reducible refine' wpList_loadall_blk (.tmp 8) 23 rfl ?_ Tryd.underlying23 sz_dig ?_ (k8.below hbz k8.lt) ?_ ?_ ?_); exact rfl; exact rfl; exact AB.out; omega; simp only [Act.put, List.setIfInBounds_toArray, List.set_cons_succ, List.set_cons_zero]))
        exact ⟨rfl, _, rfl, Below.refl _ _, rfl⟩
      · simp only [List.getElem?_cons_succ, List.getElem?_cons_zero, Option.some.injEq] at ho; subst ho; clear hi hl
        have s1 : (fun (vv : Value) (ww : World) => vv = .bool true) u1 wz := hd 1 (by kernel_rfl)
        simp only at s1
        obtain rfl := s1
        clear hd
        simp only [List.take_succ_cons, List.take_zero, List.drop_succ_cons, List.drop_zero, List.map_cons, List.map_nil, puts, Act.put, List.setIfInBounds_toArray, List.set_cons_succ, List.set_cons_zero]
        go_wp2_with (((with_reducible refine' wpList_loadall_blk (.tmp 10) 23 rfl ?_ Tryd.underlying23 sz_dig ?_ (k10.below hbz k10.lt) ?_ ?_ ?_); exact rfl; exact rfl; exact AB.out; omega; simp only [Act.put, List.setIfInBounds_toArray, List.set_cons_succ, List.set_cons_zero]))
        exact ⟨rfl, _, rfl, Below.refl _ _, rfl⟩
      · simp only [List.getElem?_cons_succ, List.getElem?_cons_zero, Option.some.injEq] at ho; subst ho; clear hi hl
        have s2 : (fun (vv : Value) (ww : World) => vv = .agg (bv A).toArray) u2 wz := hd 2 (by kernel_rfl)
        simp only at s2
        obtain rfl := s2
        have s3 : (fun (vv : Value) (ww : World) => vv = .agg (bv A).toArray) u3 wz := hd 3 (by kernel_rfl)
        simp only at s3
        obtain rfl := s3
        have s1 : (fun (vv : Value) (ww : World) => vv = .bool true) u1 wz := hd 1 (by kernel_rfl)
        simp only at s1
        obtain rfl := s1
        clear hd
        simp only [List.take_succ_cons, List.take_zero, List.drop_succ_cons, List.drop_zero, List.map_cons, List.map_nil, puts, Act.put, List.setIfInBounds_toArray, List.set_cons_succ, List.set_cons_zero]
        go_wp2_with (((with_reducible refine' wpList_arr_eql (l := A) (m := A) (.tmp 72) (.tmp 73) 23 _ rfl ?_ Tryd.underlying23 Tryd.underlying5 sz_u8 (by kernel_rfl) ?_ ?_ A16.out A16.out ?_); exact rfl; exact rfl; exact rfl; simp only [Act.put, List.setIfInBounds_toArray, List.set_cons_succ, List.set_cons_zero]))
        exact ⟨rfl, _, rfl, Below.refl _ _, by simp⟩
      · simp only [List.getElem?_cons_succ, List.getElem?_cons_zero, Option.some.injEq] at ho; subst ho; clear hi hl
        have s1 : (fun (vv : Value) (ww : World) => vv = .bool true) u1 wz := hd 1 (by kernel_rfl)
        simp only at s1
        obtain rfl := s1
        have s4 : (fun (vv : Value) (ww : World) => vv = .bool true) u4 wz := hd 4 (by kernel_rfl)
        simp only at s4
        obtain rfl := s4
        clear hd
        simp only [List.take_succ_cons, List.take_zero, List.drop_succ_cons, List.drop_zero, List.map_cons, List.map_nil, puts, Act.put, List.setIfInBounds_toArray, List.set_cons_succ, List.set_cons_zero]
        go_wp2_with (fail)
        exact ⟨rfl, _, rfl, Below.refl _ _, rfl⟩
      · simp only [List.getElem?_cons_succ, List.getElem?_cons_zero, Option.some.injEq] at ho; subst ho; clear hi hl
        have s5 : (fun (vv : Value) (ww : World) => vv = .bool true) u5 wz := hd 5 (by kernel_rfl)
        simp only at s5
        obtain rfl := s5
        clear hd
        simp only [List.take_succ_cons, List.take_zero, List.drop_succ_cons, List.drop_zero, List.map_cons, List.map_nil, puts, Act.put, List.setIfInBounds_toArray, List.set_cons_succ, List.set_cons_zero]
        go_wp2_with (fail)
        exact ⟨rfl, _, rfl, Below.refl _ _, rfl⟩
      · simp only [List.getElem?_cons_succ, List.getElem?_cons_zero, Option.some.injEq] at ho; subst ho; clear hi hl
        have s6 : (fun (vv : Value) (ww : World) => vv = .bool true) u6 wz := hd 6 (by kernel_rfl)
        simp only at s6
        obtain rfl := s6
        clear hd
        simp only [List.take_succ_cons, List.take_zero, List.drop_succ_cons, List.drop_zero, List.map_cons, List.map_nil, puts, Act.put, List.setIfInBounds_toArray, List.set_cons_succ, List.set_cons_zero]
        go_wp2_with (fail)
        exact ⟨rfl, _, rfl, Below.refl _ _, rfl⟩
      · simp only [List.getElem?_cons_succ, List.getElem?_cons_zero, Option.some.injEq] at ho; subst ho; clear hi hl
        have s6 : (fun (vv : Value) (ww : World) => vv = .bool true) u6 wz := hd 6 (by kernel_rfl)
        simp only at s6
        obtain rfl := s6
        clear hd
        simp only [List.take_succ_cons, List.take_zero, List.drop_succ_cons, List.drop_zero, List.map_cons, List.map_nil, puts, Act.put, List.setIfInBounds_toArray, List.set_cons_succ, List.set_cons_zero]
        go_wp2_with (fail)
        exact ⟨rfl, _, rfl, Below.refl _ _, rfl⟩
      · simp only [List.getElem?_cons_succ, List.getElem?_cons_zero, Option.some.injEq] at ho; subst ho; clear hi hl
        have s7 : (fun (vv : Value) (ww : World) => vv = .int .i64 (ea : Int)) u7 wz := hd 7 (by kernel_rfl)
        simp only at s7
        obtain rfl := s7
        have s8 : (fun (vv : Value) (ww : World) => vv = .int .i64 (ea : Int)) u8 wz := hd 8 (by kernel_rfl)
        simp only at s8
        obtain rfl := s8
        have s6 : (fun (vv : Value) (ww : World) => vv = .bool true) u6 wz := hd 6 (by kernel_rfl)
        simp only at s6
        obtain rfl := s6
        clear hd
        simp only [List.take_succ_cons, List.take_zero, List.drop_succ_cons, List.drop_zero, List.map_cons, List.map_nil, puts, Act.put, List.setIfInBounds_toArray, List.set_cons_succ, List.set_cons_zero]
        go_wp2_with (fail)
        exact ⟨rfl, _, rfl, Below.refl _ _, by simp⟩
      · simp only [List.getElem?_cons_succ, List.getElem?_cons_zero, Option.some.injEq] at ho; subst ho; clear hi hl
        have s6 : (fun (vv : Value) (ww : World) => vv = .bool true) u6 wz := hd 6 (by kernel_rfl)
        simp only at s6
        obtain rfl := s6
        have s9 : (fun (vv : Value) (ww : World) => vv = .bool true) u9 wz := hd 9 (by kernel_rfl)
        simp only at s9
        obtain rfl := s9
        clear hd
        simp only [List.take_succ_cons, List.take_zero, List.drop_succ_cons, List.drop_zero, List.map_cons, List.map_nil, puts, Act.put, List.setIfInBounds_toArray, List.set_cons_succ, List.set_cons_zero]
        go_wp2_with (fail)
        exact ⟨rfl, _, rfl, Below.refl _ _, rfl⟩
      · simp only [List.getElem?_cons_succ, List.getElem?_cons_zero, Option.some.injEq] at ho; subst ho; clear hi hl
        have s10 : (fun (vv : Value) (ww : World) => vv = .bool true) u10 wz := hd 10 (by kernel_rfl)
        simp only at s10
        obtain rfl := s10
        clear hd
        simp only [List.take_succ_cons, List.take_zero, List.drop_succ_cons, List.drop_zero, List.map_cons, List.map_nil, puts, Act.put, List.setIfInBounds_toArray, List.set_cons_succ, List.set_cons_zero]
        go_wp2_with (fail)
        exact ⟨rfl, _, rfl, Below.refl _ _, rfl⟩
      · simp only [List.getElem?_cons_succ, List.getElem?_cons_zero, Option.some.injEq] at ho; subst ho; clear hi hl
        have s11 : (fun (vv : Value) (ww : World) => vv = .bool true) u11 wz := hd 11 (by kernel_rfl)
        simp only at s11
        obtain rfl := s11
        clear hd
        simp only [List.take_succ_cons, List.take_zero, List.drop_succ_cons, List.drop_zero, List.map_cons, List.map_nil, puts, Act.put, List.setIfInBounds_toArray, List.set_cons_succ, List.set_cons_zero]
        go_wp2_with (fail)
        exact ⟨rfl, _, rfl, Below.refl _ _, rfl⟩
      · simp only [List.getElem?_cons_succ, List.getElem?_cons_zero, Option.some.injEq] at ho; subst ho; clear hi hl
        have s11 : (fun (vv : Value) (ww : World) => vv = .bool true) u11 wz := hd 11 (by kernel_rfl)
        simp only at s11
        obtain rfl := s11
        clear hd
        simp only [List.take_succ_cons, List.take_zero, List.drop_succ_cons, List.drop_zero, List.map_cons, List.map_nil, puts, Act.put, List.setIfInBounds_toArray, List.set_cons_succ, List.set_cons_zero]
        go_wp2_with (fail)
        exact ⟨rfl, _, rfl, Below.refl _ _, rfl⟩
      · simp only [List.getElem?_cons_succ, List.getElem?_cons_zero, Option.some.injEq] at ho; subst ho; clear hi hl
        have s12 : (fun (vv : Value) (ww : World) => vv = .string ⟨C.toArray⟩) u12 wz := hd 12 (by kernel_rfl)
        simp only at s12
        obtain rfl := s12
        have s13 : (fun (vv : Value) (ww : World) => vv = .string ⟨C.toArray⟩) u13 wz := hd 13 (by kernel_rfl)
        simp only at s13
        obtain rfl := s13
        have s11 : (fun (vv : Value) (ww : World) => vv = .bool true) u11 wz := hd 11 (by kernel_rfl)
        simp only at s11
        obtain rfl := s11
        clear hd
        simp only [List.take_succ_cons, List.take_zero, List.drop_succ_cons, List.drop_zero, List.map_cons, List.map_nil, puts, Act.put, List.setIfInBounds_toArray, List.set_cons_succ, List.set_cons_zero]
        go_wp2_with (((with_reducible refine' wpList_str_eql (l := C) (m := C) (.tmp 82) (.tmp 83) 9 _ rfl ?_ ?_ ?_ ?_); exact rfl; exact rfl; exact rfl; simp only [Act.put, List.setIfInBounds_toArray, List.set_cons_succ, List.set_cons_zero]))
        exact ⟨rfl, _, rfl, Below.refl _ _, by simp⟩
      · simp only [List.getElem?_cons_succ, List.getElem?_cons_zero, Option.some.injEq] at ho; subst ho; clear hi hl
        have s11 : (fun (vv : Value) (ww : World) => vv = .bool true) u11 wz := hd 11 (by kernel_rfl)
        simp only at s11
        obtain rfl := s11
        have s14 : (fun (vv : Value) (ww : World) => vv = .bool true) u14 wz := hd 14 (by kernel_rfl)
        simp only at s14
        obtain rfl := s14
        clear hd
        simp only [List.take_succ_cons, List.take_zero, List.drop_succ_cons, List.drop_zero, List.map_cons, List.map_nil, puts, Act.put, List.setIfInBounds_toArray, List.set_cons_succ, List.set_cons_zero]
        go_wp2_with (fail)
        exact ⟨rfl, _, rfl, Below.refl _ _, rfl⟩
      · simp only [List.getElem?_cons_succ, List.getElem?_cons_zero, Option.some.injEq] at ho; subst ho; clear hi hl
        have s15 : (fun (vv : Value) (ww : World) => vv = .bool true) u15 wz := hd 15 (by kernel_rfl)
        simp only at s15
        obtain rfl := s15
        clear hd
        simp only [List.take_succ_cons, List.take_zero, List.drop_succ_cons, List.drop_zero, List.map_cons, List.map_nil, puts, Act.put, List.setIfInBounds_toArray, List.set_cons_succ, List.set_cons_zero]
        go_wp2_with (fail)
        exact ⟨rfl, _, rfl, Below.refl _ _, rfl⟩
      · simp only [List.getElem?_cons_succ, List.getElem?_cons_zero, Option.some.injEq] at ho; subst ho; clear hi hl
        have s16 : (fun (vv : Value) (ww : World) => vv = .bool true) u16 wz := hd 16 (by kernel_rfl)
        simp only at s16
        obtain rfl := s16
        clear hd
        simp only [List.take_succ_cons, List.take_zero, List.drop_succ_cons, List.drop_zero, List.map_cons, List.map_nil, puts, Act.put, List.setIfInBounds_toArray, List.set_cons_succ, List.set_cons_zero]
        go_wp2_with (fail)
        exact ⟨rfl, _, rfl, Below.refl _ _, rfl⟩
      · simp only [List.getElem?_cons_succ, List.getElem?_cons_zero, Option.some.injEq] at ho; subst ho; clear hi hl
        have s16 : (fun (vv : Value) (ww : World) => vv = .bool true) u16 wz := hd 16 (by kernel_rfl)
        simp only at s16
        obtain rfl := s16
        clear hd
        simp only [List.take_succ_cons, List.take_zero, List.drop_succ_cons, List.drop_zero, List.map_cons, List.map_nil, puts, Act.put, List.setIfInBounds_toArray, List.set_cons_succ, List.set_cons_zero]
        go_wp2_with (fail)
        exact ⟨rfl, _, rfl, Below.refl _ _, rfl⟩
      · simp only [List.getElem?_cons_succ, List.getElem?_cons_zero, Option.some.injEq] at ho; subst ho; clear hi hl
        have s17 : (fun (vv : Value) (ww : World) => vv = .int .i64 (ec : Int)) u17 wz := hd 17 (by kernel_rfl)
        simp only at s17
        obtain rfl := s17
        have s18 : (fun (vv : Value) (ww : World) => vv = .int .i64 (ec : Int)) u18 wz := hd 18 (by kernel_rfl)
        simp only at s18
        obtain rfl := s18
        have s16 : (fun (vv : Value) (ww : World) => vv = .bool true) u16 wz := hd 16 (by kernel_rfl)
        simp only at s16
        obtain rfl := s16
        clear hd
        simp only [List.take_succ_cons, List.take_zero, List.drop_succ_cons, List.drop_zero, List.map_cons, List.map_nil, puts, Act.put, List.setIfInBounds_toArray, List.set_cons_succ, List.set_cons_zero]
        go_wp2_with (fail)
        exact ⟨rfl, _, rfl, Below.refl _ _, by simp⟩
      · simp only [List.getElem?_cons_succ, List.getElem?_cons_zero, Option.some.injEq] at ho; subst ho; clear hi hl
        have s16 : (fun (vv : Value) (ww : World) => vv = .bool true) u16 wz := hd 16 (by kernel_rfl)
        simp only at s16
        obtain rfl := s16
        have s19 : (fun (vv : Value) (ww : World) => vv = .bool true) u19 wz := hd 19 (by kernel_rfl)
        simp only at s19
        obtain rfl := s19
        clear hd
        simp only [List.take_succ_cons, List.take_zero, List.drop_succ_cons, List.drop_zero, List.map_cons, List.map_nil, puts, Act.put, List.setIfInBounds_toArray, List.set_cons_succ, List.set_cons_zero]
        go_wp2_with (fail)
        exact ⟨rfl, _, rfl, Below.refl _ _, rfl⟩
      · simp only [List.getElem?_cons_succ, List.getElem?_cons_zero, Option.some.injEq] at ho; subst ho; clear hi hl
        have s20 : (fun (vv : Value) (ww : World) => vv = .bool true) u20 wz := hd 20 (by kernel_rfl)
        simp only at s20
        obtain rfl := s20
        clear hd
        simp only [List.take_succ_cons, List.take_zero, List.drop_succ_cons, List.drop_zero, List.map_cons, List.map_nil, puts, Act.put, List.setIfInBounds_toArray, List.set_cons_succ, List.set_cons_zero]
        go_wp2_with (fail)
        exact ⟨rfl, _, rfl, Below.refl _ _, rfl⟩
      · simp only [List.getElem?_cons_succ, List.getElem?_cons_zero, Option.some.injEq] at ho; subst ho; clear hi hl
        have s21 : (fun (vv : Value) (ww : World) => vv = .bool true) u21 wz := hd 21 (by kernel_rfl)
        simp only at s21
        obtain rfl := s21
        clear hd
        simp only [List.take_succ_cons, List.take_zero, List.drop_succ_cons, List.drop_zero, List.map_cons, List.map_nil, puts, Act.put, List.setIfInBounds_toArray, List.set_cons_succ, List.set_cons_zero]
        go_wp2_with (((with_reducible refine' wpList_loadall_blk (.tmp 8) 23 rfl ?_ Tryd.underlying23 sz_dig ?_ (k8.below hbz k8.lt) ?_ ?_ ?_); exact rfl; exact rfl; exact AB.out; omega; simp only [Act.put, List.setIfInBounds_toArray, List.set_cons_succ, List.set_cons_zero]))
        exact ⟨rfl, _, rfl, Below.refl _ _, rfl⟩
      · simp only [List.getElem?_cons_succ, List.getElem?_cons_zero, Option.some.injEq] at ho; subst ho; clear hi hl
        have s21 : (fun (vv : Value) (ww : World) => vv = .bool true) u21 wz := hd 21 (by kernel_rfl)
        simp only at s21
        obtain rfl := s21
        clear hd
        simp only [List.take_succ_cons, List.take_zero, List.drop_succ_cons, List.drop_zero, List.map_cons, List.map_nil, puts, Act.put, List.setIfInBounds_toArray, List.set_cons_succ, List.set_cons_zero]
        go_wp2_with (((with_reducible refine' wpList_at_blk (.tmp 4) (.const (.int .i64 1)) 28 rfl ?_ Tryd.underlying28 sz_int ?_ (1) ?_ ?_ ?_); exact rfl; exact rfl; (show (_ : Int) = _; omega); omega; simp only [Act.put, List.setIfInBounds_toArray, List.set_cons_succ, List.set_cons_zero]))
        exact ⟨rfl, _, rfl, Below.refl _ _, rfl⟩
      · simp only [List.getElem?_cons_succ, List.getElem?_cons_zero, Option.some.injEq] at ho; subst ho; clear hi hl
        have s23 : (fun (vv : Value) (ww : World) => vv = .pointer (some ⟨B4, 1, none⟩)) u23 wz := hd 23 (by kernel_rfl)
        simp only at s23
        obtain rfl := s23
        have s21 : (fun (vv : Value) (ww : World) => vv = .bool true) u21 wz := hd 21 (by kernel_rfl)
        simp only at s21
        obtain rfl := s21
        clear hd
        simp only [List.take_succ_cons, List.take_zero, List.drop_succ_cons, List.drop_zero, List.map_cons, List.map_nil, puts, Act.put, List.setIfInBounds_toArray, List.set_cons_succ, List.set_cons_zero]
        go_wp2_with (((with_reducible refine' wpList_load_blk (.tmp 93) 3 rfl ?_ ld_int ?_ (hk4.below hbz hk4.lt) (PO.out) ?_); exact rfl; exact rfl; simp only [Act.put, List.setIfInBounds_toArray, List.set_cons_succ, List.set_cons_zero]))
        exact ⟨rfl, _, rfl, Below.refl _ _, rfl⟩
      · simp only [List.getElem?_cons_succ, List.getElem?_cons_zero, Option.some.injEq] at ho; subst ho; clear hi hl
        have s21 : (fun (vv : Value) (ww : World) => vv = .bool true) u21 wz := hd 21 (by kernel_rfl)
        simp only at s21
        obtain rfl := s21
        clear hd
        simp only [List.take_succ_cons, List.take_zero, List.drop_succ_cons, List.drop_zero, List.map_cons, List.map_nil, puts, Act.put, List.setIfInBounds_toArray, List.set_cons_succ, List.set_cons_zero]
        go_wp2_with (fail)
        exact ⟨rfl, _, rfl, Below.refl _ _, rfl⟩
      · simp only [List.getElem?_cons_succ, List.getElem?_cons_zero, Option.some.injEq] at ho; subst ho; clear hi hl
        have s22 : (fun (vv : Value) (ww : World) => vv = .agg (bv A).toArray) u22 wz := hd 22 (by kernel_rfl)
        simp only at s22
        obtain rfl := s22
        have s24 : (fun (vv : Value) (ww : World) => vv = .int .i64 z1) u24 wz := hd 24 (by kernel_rfl)
        simp only at s24
        obtain rfl := s24
        have s25 : (fun (vv : Value) (ww : World) => vv = .string ⟨m.toArray⟩) u25 wz := hd 25 (by kernel_rfl)
        simp only at s25
        obtain rfl := s25
        have s21 : (fun (vv : Value) (ww : World) => vv = .bool true) u21 wz := hd 21 (by kernel_rfl)
        simp only at s21
        obtain rfl := s21
        clear hd
        simp only [List.take_succ_cons, List.take_zero, List.drop_succ_cons, List.drop_zero, List.map_cons, List.map_nil, puts, Act.put, List.setIfInBounds_toArray, List.set_cons_succ, List.set_cons_zero]
        go_wp2_with (((go_at_call 16; (with_reducible refine (msg_any A z1 m _ (hTa.below hbz) A16.out I1.out M7.out).mono ?_); rintro e w' ⟨rfl, hN⟩); rw [EF.out]))
        exact ⟨rfl, _, rfl, hN, rfl⟩
      · simp only [List.getElem?_cons_succ, List.getElem?_cons_zero, Option.some.injEq] at ho; subst ho; clear hi hl
        have s21 : (fun (vv : Value) (ww : World) => vv = .bool true) u21 wz := hd 21 (by kernel_rfl)
        simp only at s21
        obtain rfl := s21
        clear hd
        simp only [List.take_succ_cons, List.take_zero, List.drop_succ_cons, List.drop_zero, List.map_cons, List.map_nil, puts, Act.put, List.setIfInBounds_toArray, List.set_cons_succ, List.set_cons_zero]
        go_wp2_with (((with_reducible refine' wpList_loadall_blk (.tmp 8) 23 rfl ?_ Tryd.underlying23 sz_dig ?_ (k8.below hbz k8.lt) ?_ ?_ ?_); exact rfl; exact rfl; exact AB.out; omega; simp only [Act.put, List.setIfInBounds_toArray, List.set_cons_succ, List.set_cons_zero]))
        exact ⟨rfl, _, rfl, Below.refl _ _, rfl⟩
      · simp only [List.getElem?_cons_succ, List.getElem?_cons_zero, Option.some.injEq] at ho; subst ho; clear hi hl
        have s21 : (fun (vv : Value) (ww : World) => vv = .bool true) u21 wz := hd 21 (by kernel_rfl)
        simp only at s21
        obtain rfl := s21
        clear hd
        simp only [List.take_succ_cons, List.take_zero, List.drop_succ_cons, List.drop_zero, List.map_cons, List.map_nil, puts, Act.put, List.setIfInBounds_toArray, List.set_cons_succ, List.set_cons_zero]
        go_wp2_with (((with_reducible refine' wpList_at_blk (.tmp 4) (.const (.int .i64 1)) 28 rfl ?_ Tryd.underlying28 sz_int ?_ (1) ?_ ?_ ?_); exact rfl; exact rfl; (show (_ : Int) = _; omega); omega; simp only [Act.put, List.setIfInBounds_toArray, List.set_cons_succ, List.set_cons_zero]))
        exact ⟨rfl, _, rfl, Below.refl _ _, rfl⟩
      · simp only [List.getElem?_cons_succ, List.getElem?_cons_zero, Option.some.injEq] at ho; subst ho; clear hi hl
        have s28 : (fun (vv : Value) (ww : World) => vv = .pointer (some ⟨B4, 1, none⟩)) u28 wz := hd 28 (by kernel_rfl)
        simp only at s28
        obtain rfl := s28
        have s21 : (fun (vv : Value) (ww : World) => vv = .bool true) u21 wz := hd 21 (by kernel_rfl)
        simp only at s21
        obtain rfl := s21
        clear hd
        simp only [List.take_succ_cons, List.take_zero, List.drop_succ_cons, List.drop_zero, List.map_cons, List.map_nil, puts, Act.put, List.setIfInBounds_toArray, List.set_cons_succ, List.set_cons_zero]
        go_wp2_with (((with_reducible refine' wpList_load_blk (.tmp 98) 3 rfl ?_ ld_int ?_ (hk4.below hbz hk4.lt) (PO.out) ?_); exact rfl; exact rfl; simp only [Act.put, List.setIfInBounds_toArray, List.set_cons_succ, List.set_cons_zero]))
        exact ⟨rfl, _, rfl, Below.refl _ _, rfl⟩
      · simp only [List.getElem?_cons_succ, List.getElem?_cons_zero, Option.some.injEq] at ho; subst ho; clear hi hl
        have s21 : (fun (vv : Value) (ww : World) => vv = .bool true) u21 wz := hd 21 (by kernel_rfl)
        simp only at s21
        obtain rfl := s21
        clear hd
        simp only [List.take_succ_cons, List.take_zero, List.drop_succ_cons, List.drop_zero, List.map_cons, List.map_nil, puts, Act.put, List.setIfInBounds_toArray, List.set_cons_succ, List.set_cons_zero]
        go_wp2_with (fail)
        exact ⟨rfl, _, rfl, Below.refl _ _, rfl⟩
      · simp only [List.getElem?_cons_succ, List.getElem?_cons_zero, Option.some.injEq] at ho; subst ho; clear hi hl
        have s27 : (fun (vv : Value) (ww : World) => vv = .agg (bv A).toArray) u27 wz := hd 27 (by kernel_rfl)
        simp only at s27
        obtain rfl := s27
        have s29 : (fun (vv : Value) (ww : World) => vv = .int .i64 z1) u29 wz := hd 29 (by kernel_rfl)
        simp only at s29
        obtain rfl := s29
        have s30 : (fun (vv : Value) (ww : World) => vv = .string ⟨m.toArray⟩) u30 wz := hd 30 (by kernel_rfl)
        simp only at s30
        obtain rfl := s30
        have s21 : (fun (vv : Value) (ww : World) => vv = .bool true) u21 wz := hd 21 (by kernel_rfl)
        simp only at s21
        obtain rfl := s21
        clear hd
        simp only [List.take_succ_cons, List.take_zero, List.drop_succ_cons, List.drop_zero, List.map_cons, List.map_nil, puts, Act.put, List.setIfInBounds_toArray, List.set_cons_succ, List.set_cons_zero]
        go_wp2_with (((go_at_call 17; (with_reducible refine (refmsg_any A z1 m _ (hRa.below hbz) A16.out I1.out M7.out).mono ?_); rintro e w' ⟨rfl, hN⟩); rw [EF.out]))
        exact ⟨rfl, _, rfl, hN, rfl⟩
      · simp only [List.getElem?_cons_succ, List.getElem?_cons_zero, Option.some.injEq] at ho; subst ho; clear hi hl
        have s26 : (fun (vv : Value) (ww : World) => vv = .agg (bv F).toArray) u26 wz := hd 26 (by kernel_rfl)
        simp only at s26
        obtain rfl := s26
        have s31 : (fun (vv : Value) (ww : World) => vv = .agg (bv F).toArray) u31 wz := hd 31 (by kernel_rfl)
        simp only at s31
        obtain rfl := s31
        have s21 : (fun (vv : Value) (ww : World) => vv = .bool true) u21 wz := hd 21 (by kernel_rfl)
        simp only at s21
        obtain rfl := s21
        clear hd
        simp only [List.take_succ_cons, List.take_zero, List.drop_succ_cons, List.drop_zero, List.map_cons, List.map_nil, puts, Act.put, List.setIfInBounds_toArray, List.set_cons_succ, List.set_cons_zero]
        go_wp2_with (((with_reducible refine' wpList_arr_eql (l := F) (m := F) (.tmp 96) (.tmp 101) 23 _ rfl ?_ Tryd.underlying23 Tryd.underlying5 sz_u8 (by kernel_rfl) ?_ ?_ F16.out F16.out ?_); exact rfl; exact rfl; exact rfl; simp only [Act.put, List.setIfInBounds_toArray, List.set_cons_succ, List.set_cons_zero]))
        exact ⟨rfl, _, rfl, Below.refl _ _, by simp⟩
      · omega
    intro us wz hl hbz hS
    obtain ⟨u0, u1, u2, u3, u4, u5, u6, u7, u8, u9, u10, u11, u12, u13, u14, u15, u16, u17, u18, u19, u20, u21, u22, u23, u24, u25, u26, u27, u28, u29, u30, u31, u32, rfl⟩ := len33 hl
    have s21 : (fun (vv : Value) (ww : World) => vv = .bool true) u21 wz := hS 21 (by omega)
    simp only at s21
    obtain rfl := s21
    have s32 : (fun (vv : Value) (ww : World) => vv = .bool true) u32 wz := hS 32 (by omega)
    simp only at s32
    obtain rfl := s32
    clear hS hl
    simp only [List.take_succ_cons, List.take_zero, List.drop_succ_cons, List.drop_zero, List.map_cons, List.map_nil, puts, Act.put, List.setIfInBounds_toArray, List.set_cons_succ, List.set_cons_zero]
    go_wp2_with fail
    refine onlyN ?_
    go_wp2_with fail
    go_ret
    exact ⟨rfl, hb.trans (hbz.mono hb.size)⟩
end Go.Proofs.YtajglgkjpagcjaaDoor.Wi
namespace Go.Proofs.YtajglgkjpagcjaaDoor.signMakesAsSpecified
open Go.ChangeShapes Go.WideShapes Go.ChangeAt Go.RowKit
open Go.Proofs.YtajglgkjpagcjaaDoor.Wi Go.Proofs.YtajglgkjpagcjaaDoor.Pu Go.Proofs.YtajglgkjpagcjaaDoor.Lb
set_option linter.unusedVariables false

theorem own : ownKnob Tryd.prog.godebug = none := by kernel_rfl
theorem laidOut : laidOutB Tryd.prog = true := by kernel_rfl

set_option maxRecDepth 100000 in
theorem lifted (os : Os) (started : os.Started) (H : Type) (enc : TypeId × Value → H) :
    ReturnsInHanded {} Tryd.checked os 4 .any (fun w args => (Rows.signMakesAsSpecifiedSpec.pre enc Tryd.prog Tryd.f4 [] false w args ∧ laidMetH Tryd.prog lRH w) ∧ sizedMet enc Tryd.prog Tryd.f4 (OpenSpec.ofChange Rows.signMakesAsSpecifiedSpec) false w args) (Rows.signMakesAsSpecifiedSpec.post enc Tryd.prog Tryd.f4 false true false false) := by
  refine returnsInHanded_of_change_and (C := Tryd.checked) (X := fun w _ => laidMetH Tryd.prog lRH w) (fun _ _ _ hh h => h.of_heap hh) own started (by kernel_rfl) Tryd.func4
    (ChangeSpec.witness_shaped (enc := enc) (C := Tryd.checked) (os := os) (X := fun w _ => laidMetH Tryd.prog lRH w) false (World.doorLaid Tryd.prog 19 os) #[.string ByteArray.empty, .agg #[.int .i64 0, .int .i64 0], .string ByteArray.empty] 8 rfl (World.shaped_of_RefB (by kernel_rfl) (by kernel_rfl)) (by kernel_rfl) (by kernel_rfl) (by kernel_rfl) (doorRH os _)) ?_
  intro W base args ds gs before hval0 hW hcnd hk hL _
  have hT := tabs_of hL
  have hval : ∀ (j : Nat) t v, Tryd.f4.params[j]? = some t → args[j]? = some v → Value.okWide Tryd.prog W .any base t v := hval0
  have hW' := hW
  obtain ⟨p, q, hA0, hV, rfl, hfz, hnd⟩ := hW
  have hA : DataW.TrodAll enc Tryd.prog W 0 (fun _ => true) true Tryd.f4.params.toList args.toList ds p := hA0
  rw [Tryd.params4] at hA hval
  obtain ⟨v0, vs0, d0, ds0, p0, q0, hargs, rfl, rfl, h0, t0⟩ := trodAll_cons hA
  obtain ⟨v1, vs1, d1, ds1, p1, q1, rfl, rfl, rfl, h1, t1⟩ := trodAll_cons t0
  obtain ⟨v2, vs2, d2, ds2, p2, q2, rfl, rfl, rfl, h2, t2⟩ := trodAll_cons t1
  obtain ⟨rfl, rfl, rfl⟩ := trodAll_nil t2
  obtain rfl : args = #[v0, v1, v2] := by cases args; simp_all
  obtain ⟨rfl, rfl⟩ := trodVars_none hV
  clear hA0 hval0
  have b0 : ∀ x ∈ p0, x.block < W.heap.size := by obtain ⟨m, hm⟩ := h0; exact DataW.trod_lt m _ _ _ hm
  have k0 := h0
  have b1 : ∀ x ∈ p1, x.block < W.heap.size := by obtain ⟨m, hm⟩ := h1; exact DataW.trod_lt m _ _ _ hm
  have k1 := h1
  have b2 : ∀ x ∈ p2, x.block < W.heap.size := by obtain ⟨m, hm⟩ := h2; exact DataW.trod_lt m _ _ _ hm
  have k2 := h2
  obtain ⟨s0, rfl, m0, rfl⟩ := op_str Tryd.underlying9 (hval 0 9 v0 rfl rfl) h0
  have n0 := sized_str hk (j := 0) rfl rfl
  obtain ⟨za1, zb1, rfl, rfl, rfl, wa1, wb1⟩ := Go.WideMaps.open_pair ⟨Tryd.underlying28, by kernel_rfl, by kernel_rfl, by kernel_rfl⟩ Tryd.underlying3 (hval 1 28 v1 rfl rfl) h1
  obtain ⟨s2, rfl, m2, rfl⟩ := op_str Tryd.underlying9 (hval 2 9 v2 rfl rfl) h2
  have n2 := sized_str hk (j := 2) rfl rfl
  have walk : Calls Tryd.prog 4 #[.string ⟨s0.toArray⟩, .agg #[.int .i64 za1, .int .i64 zb1], .string ⟨s2.toArray⟩] W fun e w' => e = .returned (.bool true) ∧ Below W.heap.size W w' := by
    exact makes_law s0 s2 za1 zb1 W hT.2 hT.1 (by have := wf_i64 wb1; unfold I64; omega)
  refine walk.mono fun e W' ⟨he, bel⟩ => ?_
  subst he
  exact ⟨_, rfl, _, _, _, [], _, [], hW', trodAll_mk1 (shut_bool Tryd.underlying4 _), (trodAll_cons_mk (Below.trod laidOut (by kernel_rfl) (of_decide_eq_true (by kernel_rfl)) k0 bel b0) (trodAll_cons_mk (Below.trod laidOut (by kernel_rfl) (of_decide_eq_true (by kernel_rfl)) k1 bel b1) (trodAll_cons_mk (Below.trod laidOut (by kernel_rfl) (of_decide_eq_true (by kernel_rfl)) k2 bel b2) trodAll_mk0))), rfl, bel.frame _, fun h => by cases h⟩

theorem over : Rows.signMakesAsSpecifiedRow.holds Tryd.pinned (OpenSpec.ofChange Rows.signMakesAsSpecifiedSpec) :=
  OpenClaim.holds_of_wide 4 Tryd.f4 rfl rfl rfl rfl rfl rfl rfl ⟨rfl, rfl, rfl, rfl, rfl⟩ rfl rfl rfl rfl rfl (by kernel_rfl) Tryd.func4 (by kernel_rfl)
    (of_decide_eq_true (by kernel_rfl)) (by unfold Func.isWrapper; first | (rw [if_pos (by decide +kernel)]; kernel_rfl) | (rw [if_neg (by decide +kernel)]; exact ⟨rfl, rfl⟩))
    (fun os started H enc _ => lifted os started H enc)

theorem proved : Rows.SignMakesAsSpecifiedCardSaid :=
  Claim7.holds_tied_plain_at .later [] [.data, .data] true (true, _) false
    over (fun _ h => by cases h) (by kernel_rfl) (fun _ h => by cases h) signMakesAsSpecified_row_tie rfl ⟨rfl, rfl⟩ (by kernel_rfl) rfl
    (fun f fn hf hfn => by
      obtain rfl : f = 4 := Option.some.inj ((show Tryd.prog.funcNamed "scoria/scorialaw03.SignMakesAsSpecified" = some 4 by kernel_rfl).symm.trans hf) |>.symm
      obtain rfl : fn = Tryd.f4 := (Option.some.inj (Tryd.func4.symm.trans hfn)).symm
      exact ⟨by kernel_rfl, fun j t ht => by
        rw [Tryd.params4] at ht
        have hm : t ∈ [9, 28, 9] := by simpa using Array.mem_of_getElem? ht
        have hall : ([9, 28, 9].all fun u => !Tryd.prog.wantsStandIn u) = true := by kernel_rfl
        exact (show Tryd.prog.wantsStandIn t = false by simpa using List.all_eq_true.1 hall t hm)⟩)
    (by kernel_rfl)
#print axioms proved
end Go.Proofs.YtajglgkjpagcjaaDoor.signMakesAsSpecified
