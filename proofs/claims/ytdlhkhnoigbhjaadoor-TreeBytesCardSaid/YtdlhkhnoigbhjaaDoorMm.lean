/-
  Trd, Gin, Tdd, Tdn, Tfe: my texts of these names, one behind the other. Conditions: those that each law names.
-/
import Derived.Test.YtdlhkhnoigbhjaaDoorMl
import Derived.Test.YtdlhkhnoigbhjaaDoorMg
import Derived.Test.YtdlhkhnoigbhjaaDoorMa
import Derived.Test.YtdlhkhnoigbhjaaDoorMi
namespace Go.Proofs.YtdlhkhnoigbhjaaDoor.Wi
open Go Go.RowKit Pu Lb
set_option linter.unusedSimpArgs false
set_option linter.unusedVariables false
/-- what a reader gives: a tree that lies in blocks of its own and the place behind it, or -1 -/
def ReadR (w w' : World) (o : Option (Tree × Nat)) (cs : List Value) (u : Int) : Prop :=
  match o with
  | none => cs.length = 4 ∧ (∀ x ∈ cs, x.oneCell' = true) ∧ u = -1
  | some (t, k) => IsTX (fun b => w.heap.size ≤ b) w' t cs ∧ u = (k : Int)
def ReadC (d : Nat) : Prop := ∀ (D : Int) (b : List UInt8) (v : Value) (n : Nat) (w : World), D = (d : Int) → D ≤ 24 → Rd w 1 v n (bv b) → n ≤ 1099511627776 →
    Calls Tryd.prog 65 #[v, .int .i64 D] w fun e w' => ∃ cs u, e = .returned (.tuple #[.agg cs.toArray, .int .i64 u]) ∧ ReadR w w' (rdT d b) cs u ∧ Below w.heap.size w w'
theorem ReadR.len {w w' : World} {o : Option (Tree × Nat)} {cs : List Value} {u : Int} (h : ReadR w w' o cs u) : cs.length = 4 := by
  cases o with
  | none => exact h.1
  | some r => exact h.1.len
theorem ReadR.ones {w w' : World} {o : Option (Tree × Nat)} {cs : List Value} {u : Int} (h : ReadR w w' o cs u) : ∀ x ∈ cs, x.oneCell' = true := by
  cases o with
  | none => exact h.2.1
  | some r => exact h.1.isT.ones
theorem list4 {l : List Int} (h : l.length = 4) : ∃ a b c d, l = [a, b, c, d] := by
  match l, h with
  | [a, b, c, d], _ => exact ⟨a, b, c, d, rfl⟩
set_option maxRecDepth 100000 in
set_option maxHeartbeats 3200000 in
theorem read_step (d : Nat) (ih : ∀ d', d = d' + 1 → ReadC d') : ReadC d := by
  intro D b v n w hD hD24 hv hn
  have IH := Lib.hid ih
  obtain ⟨⟨l, a0, e0⟩, hx⟩ : ∃ x, getInts b = x := ⟨_, rfl⟩
  have HX := Lib.hid hx
  have hbl : b.length = n := by have := hv.1; rw [bv_length] at this; omega
  have HBL := Lib.hid hbl
  have G : ∀ w, Rd w 1 v n (bv b) → Calls Tryd.prog 87 #[v] w fun e w' => ∃ v', e = .returned (.tuple #[v', .int .i64 (a0 : Int), .int .i64 (e0 : Int)]) ∧ w'.ownsRow w.heap.size 3 1 v' l.length (iv l) ∧ Below w.heap.size w w' := fun w h => by
    have h2 := refgetints_any v n b w h hn; rw [hx] at h2; exact h2
  have HG := Lib.hid G
  have HDD := Lib.hid hD
  have hD0 : 0 ≤ D := by omega
  clear ih hx hbl G hD
  go_enter Tryd.func65, Tryd.ntmps65
  go_upto_region 2 with (first
    | (((with_reducible refine' wpList_alloc_blk (cs := nodz) 25 rfl ?_ zr_node ?_ ?_); exact rfl; exact nodz_cells; intro w1 kR hN1 hz1; simp only [Act.put, List.setIfInBounds_toArray, List.set_cons_succ, List.set_cons_zero]); have hv1 := hv.below hN1)
    | (go_at_call 87; (with_reducible refine (HG.out _ hv1).mono ?_); rintro e w' ⟨vl, rfl, ol, hN2⟩))
  obtain ⟨w2, rfl⟩ : ∃ x : World, x = w' := ⟨_, rfl⟩
  obtain ⟨R, hR⟩ : ∃ R, w.heap.size = R := ⟨_, rfl⟩
  have hb2 : Below w.heap.size w w2 := hN1.trans (hN2.mono hN1.size)
  have hwR : w.heap.size ≤ R := Nat.le_of_eq hR
  have lR := kR.lt
  have kR2 := kR.below hN2 lR
  have l2R := kR2.lt
  rw [hR] at kR2 l2R
  simp only [hR]
  have rl := Rd.of_own ol
  have hv2 := hv.below hb2
  clear hN1 hz1 hN2 kR lR hR hv1
  by_cases he : e0 = 0
  rotate_left
  · have heb : ((e0 : Int) != 0) = true := by rw [bne_iff_ne]; omega
    have heq : decide ((e0 : Int) = 0) = false := decide_eq_false (by omega)
    have HN := Lib.hid (show rdT d b = none from rdT_none_e (by rw [HX.out]; exact he))
    clear he
    go_wp2_with (first
      | ((with_reducible refine' wpList_len_rd (.tmp 22) 22 rfl ?_ Tryd.underlying22 ?_ rl ?_); exact rfl; exact rfl; simp only [Act.put, List.setIfInBounds_toArray, List.set_cons_succ, List.set_cons_zero])
      | ((with_reducible refine' wpList_of_run (o := ⟨_, .build _ _, _, _, _, _⟩) (v := .agg #[.int .i64 0, .int .i64 0, .int .i64 0, .slice none 0 0]) (w' := w2) ?_ ?_ ?_); exact rfl; kernel_rfl; simp only [Act.put, List.setIfInBounds_toArray, List.set_cons_succ, List.set_cons_zero])
      | ((with_reducible refine' wpList_store_blk (cs := nodz) 25 (.tmp 4) (.tmp 30) rfl ?_ ?_ ?_ kR2 sz_node ?_ ?_ ?_ ?_); exact rfl; exact rfl; exact rfl; exact rfl; exact rfl; exact node_ones rfl; intro w4 k4 hO4 hz4; simp only [Act.put]))
    ((try simp only [Exit.inBlock, Exit.then]); refine bodyPost_ret (results_cell_row_tmp rfl _ _ _ _ _ _ _ rfl k4 Tryd.underlying25 rfl (by rw [sz_node]; rfl)) rfl ?_)
    rw [HN.out]
    exact ⟨nodz, -1, rfl, ⟨rfl, node_ones rfl, rfl⟩, hb2.trans (hO4.below hwR hb2.size)⟩
  subst he
  by_cases h4 : l.length = 4
  rotate_left
  · have hlb : ((l.length : Int) != 4) = true := by rw [bne_iff_ne]; omega
    have hlq : decide ((l.length : Int) = 4) = false := decide_eq_false (by omega)
    have HN := Lib.hid (show rdT d b = none from rdT_none_l (by rw [HX.out]; exact h4))
    clear h4
    go_wp2_with (first
      | ((with_reducible refine' wpList_len_rd (.tmp 22) 22 rfl ?_ Tryd.underlying22 ?_ rl ?_); exact rfl; exact rfl; simp only [Act.put, List.setIfInBounds_toArray, List.set_cons_succ, List.set_cons_zero])
      | ((with_reducible refine' wpList_of_run (o := ⟨_, .build _ _, _, _, _, _⟩) (v := .agg #[.int .i64 0, .int .i64 0, .int .i64 0, .slice none 0 0]) (w' := w2) ?_ ?_ ?_); exact rfl; kernel_rfl; simp only [Act.put, List.setIfInBounds_toArray, List.set_cons_succ, List.set_cons_zero])
      | ((with_reducible refine' wpList_store_blk (cs := nodz) 25 (.tmp 4) (.tmp 30) rfl ?_ ?_ ?_ kR2 sz_node ?_ ?_ ?_ ?_); exact rfl; exact rfl; exact rfl; exact rfl; exact rfl; exact node_ones rfl; intro w4 k4 hO4 hz4; simp only [Act.put]))
    ((try simp only [Exit.inBlock, Exit.then]); refine bodyPost_ret (results_cell_row_tmp rfl _ _ _ _ _ _ _ rfl k4 Tryd.underlying25 rfl (by rw [sz_node]; rfl)) rfl ?_)
    rw [HN.out]
    exact ⟨nodz, -1, rfl, ⟨rfl, node_ones rfl, rfl⟩, hb2.trans (hO4.below hwR hb2.size)⟩
  obtain ⟨k, n', m, c, rfl⟩ := list4 h4
  have rl4 : Rd w2 1 vl 4 (iv [k, n', m, c]) := rl
  clear rl h4
  by_cases hd0 : D = 0
  · have hdb : (D == 0) = true := by rw [beq_iff_eq]; exact hd0
    have hdq : decide (D = 0) = true := decide_eq_true hd0
    have HN := Lib.hid (show rdT d b = none by rw [show d = 0 by have := HDD.out; omega, rdT])
    clear hd0
    go_wp2_with (first
      | ((with_reducible refine' wpList_len_rd (.tmp 22) 22 rfl ?_ Tryd.underlying22 ?_ rl4 ?_); exact rfl; exact rfl; simp only [Act.put, List.setIfInBounds_toArray, List.set_cons_succ, List.set_cons_zero])
      | ((with_reducible refine' wpList_of_run (o := ⟨_, .build _ _, _, _, _, _⟩) (v := .agg #[.int .i64 0, .int .i64 0, .int .i64 0, .slice none 0 0]) (w' := w2) ?_ ?_ ?_); exact rfl; kernel_rfl; simp only [Act.put, List.setIfInBounds_toArray, List.set_cons_succ, List.set_cons_zero])
      | ((with_reducible refine' wpList_store_blk (cs := nodz) 25 (.tmp 4) (.tmp 30) rfl ?_ ?_ ?_ kR2 sz_node ?_ ?_ ?_ ?_); exact rfl; exact rfl; exact rfl; exact rfl; exact rfl; exact node_ones rfl; intro w4 k4 hO4 hz4; simp only [Act.put]))
    ((try simp only [Exit.inBlock, Exit.then]); refine bodyPost_ret (results_cell_row_tmp rfl _ _ _ _ _ _ _ rfl k4 Tryd.underlying25 rfl (by rw [sz_node]; rfl)) rfl ?_)
    rw [HN.out]
    exact ⟨nodz, -1, rfl, ⟨rfl, node_ones rfl, rfl⟩, hb2.trans (hO4.below hwR hb2.size)⟩
  have hdb : (D == 0) = false := by rw [beq_eq_false_iff_ne]; exact hd0
  have hdq : decide (D = 0) = false := decide_eq_false hd0
  obtain ⟨d, rfl⟩ : ∃ d', d = d' + 1 := ⟨d - 1, by have := HDD.out; omega⟩
  have hdb1 : 1 ≤ D := by omega
  have IHd := Lib.hid (IH.out d rfl)
  have DM := Lib.hid (show D - 1 = (d : Int) by have := HDD.out; omega)
  go_upto_region 4 with (first | ((with_reducible refine' wpList_len_rd (.tmp 22) 22 rfl ?_ Tryd.underlying22 ?_ rl4 ?_); exact rfl; exact rfl; simp only [Act.put, List.setIfInBounds_toArray, List.set_cons_succ, List.set_cons_zero]))
  have L0 := Lib.hid (show (iv [k, n', m, c])[0]? = some (.int .i64 k) from rfl)
  have L1 := Lib.hid (show (iv [k, n', m, c])[1]? = some (.int .i64 n') from rfl)
  have L2 := Lib.hid (show (iv [k, n', m, c])[2]? = some (.int .i64 m) from rfl)
  have L3 := Lib.hid (show (iv [k, n', m, c])[3]? = some (.int .i64 c) from rfl)
  have hd : Below w2.heap.size w2 w2.drew := (Below.refl _ _).drew
  (refine wp_region_plan (fun w' => Below w2.heap.size w2 w') (.f 0 (.f 1 (.f 2 (.f 3 (.f 4 (.f 5 (.f 6 (.f 7 (.f 8 (.f 9 (.o 10 .tail))))))))))) 11 (by kernel_rfl) (by kernel_rfl) (hd) ?_)
  (repeat (refine wpPlan_f rfl ?_; (first | ((with_reducible refine' wpQuiet_at1_rd (.tmp 31) (.const (.int .i64 0)) 22 rfl ?_ Tryd.underlying22 sz_int ?_ rl4 (0) ?_ ?_ ?_); exact rfl; exact rfl; (show (_ : Int) = _; omega); omega; simp only [Act.put, List.setIfInBounds_toArray, List.set_cons_succ, List.set_cons_zero]) | ((with_reducible refine' wpQuietC_load_rd (cov_below _) (.tmp 32) 3 rfl ?_ ld_int ?_ rl4 (L0.out) ?_); exact rfl; exact rfl; simp only [Act.put, List.setIfInBounds_toArray, List.set_cons_succ, List.set_cons_zero]) | ((with_reducible refine' wpQuiet_at1_rd (.tmp 34) (.const (.int .i64 1)) 22 rfl ?_ Tryd.underlying22 sz_int ?_ rl4 (1) ?_ ?_ ?_); exact rfl; exact rfl; (show (_ : Int) = _; omega); omega; simp only [Act.put, List.setIfInBounds_toArray, List.set_cons_succ, List.set_cons_zero]) | ((with_reducible refine' wpQuietC_load_rd (cov_below _) (.tmp 35) 3 rfl ?_ ld_int ?_ rl4 (L1.out) ?_); exact rfl; exact rfl; simp only [Act.put, List.setIfInBounds_toArray, List.set_cons_succ, List.set_cons_zero]) | ((with_reducible refine' wpQuiet_at1_rd (.tmp 37) (.const (.int .i64 2)) 22 rfl ?_ Tryd.underlying22 sz_int ?_ rl4 (2) ?_ ?_ ?_); exact rfl; exact rfl; (show (_ : Int) = _; omega); omega; simp only [Act.put, List.setIfInBounds_toArray, List.set_cons_succ, List.set_cons_zero]) | ((with_reducible refine' wpQuietC_load_rd (cov_below _) (.tmp 38) 3 rfl ?_ ld_int ?_ rl4 (L2.out) ?_); exact rfl; exact rfl; simp only [Act.put, List.setIfInBounds_toArray, List.set_cons_succ, List.set_cons_zero]) | go_big_quiet_step (fail) | (go_big_quiet_want; go_big_quiet_op; refine ⟨_, fun _ _ => rfl, ?_⟩; go_big_quiet_on)); refine wpQuiet_nil ?_))
  (repeat (refine wpPlan_f rfl ?_; (first | ((with_reducible refine' wpQuiet_of_run (v := .agg #[.int .i64 k, .int .i64 n', .int .i64 m, .slice none 0 0]) ?_ ?_ ?_); exact rfl; (intro w _; kernel_rfl); simp only [Act.put, List.setIfInBounds_toArray, List.set_cons_succ, List.set_cons_zero]) | go_big_quiet_step (fail) | (go_big_quiet_want; go_big_quiet_op; refine ⟨_, fun _ _ => rfl, ?_⟩; go_big_quiet_on)); refine wpQuiet_nil ?_))
  refine wpPlan_o rfl ?_
  go_wp2_with (((with_reducible refine' wpList_alloc_blk (cs := nodz) 25 rfl ?_ zr_node ?_ ?_); exact rfl; exact nodz_cells; intro w3 k3 hN3 hz3; simp only [Act.put, List.setIfInBounds_toArray, List.set_cons_succ, List.set_cons_zero]))
  obtain ⟨A, hA⟩ : ∃ A, w2.drew.heap.size = A := ⟨_, rfl⟩
  have hc3 : Below w2.heap.size w2 w3 := hd.trans hN3
  refine ⟨rfl, hc3, ?_⟩
  refine wpPlan_tail ?_
  simp only [List.drop_succ_cons, List.drop_zero]
  go_wp2_with (((with_reducible refine' wpList_store_blk (cs := [.int .i64 k, .int .i64 n', .int .i64 m, .slice none 0 0]) 25 (.tmp 9) (.tmp 40) rfl ?_ ?_ ?_ k3 sz_node ?_ ?_ ?_ ?_); exact rfl; exact rfl; exact rfl; exact rfl; exact rfl; exact node_ones rfl; intro w4 k4 hO4 hz4; simp only [Act.put]))
  refine onlyN ?_
  have hA2 : w2.heap.size = A := hA
  have HA2 := Lib.hid hA2
  have k4' : Blk w4 A 25 [.int .i64 k, .int .i64 n', .int .i64 m, .slice none 0 0] := by rw [← hA]; exact k4
  have hb24 : Below w2.heap.size w2 w4 := hc3.trans (hO4.below (Nat.le_refl _) hc3.size)
  simp only [hA, hA2]
  have l4 := k4'.lt
  have hRA : R < A := by omega
  have rl5 := rl4.below hb24
  have kR4 := kR2.below hb24 l2R
  clear k3 k4 hN3 hz3 hO4 hz4 hc3 hd hA
  by_cases hc : c < 0
  · have hcb : decide (c < 0) = true := decide_eq_true hc
    have HN := Lib.hid (show rdT (d + 1) b = none from rdT_none_c HX.out (.inl hc))
    have AL := Lib.hid (show ([.int .i64 k, .int .i64 n', .int .i64 m, .slice none 0 0] : List Value).length = 4 from rfl)
    clear hc
    go_wp2_with (first
      | ((with_reducible refine' wpList_at1_rd (.tmp 41) (.const (.int .i64 3)) 22 rfl ?_ Tryd.underlying22 sz_int ?_ rl5 (3) ?_ ?_ ?_); exact rfl; exact rfl; (show (_ : Int) = _; omega); omega; simp only [Act.put, List.setIfInBounds_toArray, List.set_cons_succ, List.set_cons_zero]) | ((with_reducible refine' wpList_load_rd (.tmp 42) 3 rfl ?_ ld_int ?_ rl5 (L3.out) ?_); exact rfl; exact rfl; simp only [Act.put, List.setIfInBounds_toArray, List.set_cons_succ, List.set_cons_zero])
      | ((with_reducible refine' wpList_loadst_blk (.tmp 9) 25 rfl ?_ Tryd.underlying25 ?_ sz_node ?_ k4' ?_ ?_ ?_); exact rfl; exact rfl; exact rfl; exact AL.out; decide; simp only [Act.put, List.setIfInBounds_toArray, List.set_cons_succ, List.set_cons_zero])
      | ((with_reducible refine' wpList_store_blk (cs := [.int .i64 k, .int .i64 n', .int .i64 m, .slice none 0 0]) 25 (.tmp 4) (.tmp 45) rfl ?_ ?_ ?_ kR4 sz_node ?_ ?_ ?_ ?_); exact rfl; exact rfl; exact rfl; exact rfl; exact rfl; exact node_ones rfl; intro w5 k5 hO5 hz5; simp only [Act.put]))
    ((try simp only [Exit.inBlock, Exit.then]); refine bodyPost_ret (results_cell_row_tmp rfl _ _ _ _ _ _ _ rfl k5 Tryd.underlying25 rfl (by rw [sz_node]; rfl)) rfl ?_)
    rw [HN.out]
    have hb4 := hb2.trans (hb24.mono hb2.size)
    exact ⟨_, -1, rfl, ⟨rfl, node_ones rfl, rfl⟩, hb4.trans (hO5.below hwR hb4.size)⟩
  have hcb : decide (c < 0) = false := decide_eq_false hc
  have hc0 : 0 ≤ c := by omega
  obtain ⟨C, rfl⟩ : ∃ C : Nat, c = (C : Int) := ⟨c.toNat, by omega⟩
  obtain ⟨hci, hau, hae⟩ := getInts_can HX.out
  have hC63 : (C : Int) ≤ 9223372036854775807 := (hci _ (by simp)).2
  have HT := Lib.hid (show rdT (d + 1) b = (rdTs (rdT d) b a0 C).map fun r => (.mk k n' m r.1, r.2) by rw [rdT_succ HX.out hc0, Int.toNat_natCast])
  have HAU := Lib.hid hau
  clear hci hae hau hc hc0
  have R0 := Lib.hid (show w4.ownsRow w4.heap.size 25 4 (.slice none 0 0) 0 [] from World.ownsRow_nil _ _ _ _)
  have T0 := Lib.hid (show IsTsX (fun b => w4.heap.size ≤ b ∧ (Value.slice none 0 0).ownBlock ≠ some b) w4 [] [] from IsTsX.nil)
  go_upto_region 8 with (first | ((with_reducible refine' wpList_at1_rd (.tmp 41) (.const (.int .i64 3)) 22 rfl ?_ Tryd.underlying22 sz_int ?_ rl5 (3) ?_ ?_ ?_); exact rfl; exact rfl; (show (_ : Int) = _; omega); omega; simp only [Act.put, List.setIfInBounds_toArray, List.set_cons_succ, List.set_cons_zero]) | ((with_reducible refine' wpList_load_rd (.tmp 42) 3 rfl ?_ ld_int ?_ rl5 (L3.out) ?_); exact rfl; exact rfl; simp only [Act.put, List.setIfInBounds_toArray, List.set_cons_succ, List.set_cons_zero]))
  go_loopw [7, 10] (fun a i wr => ∃ (j a' : Nat) (ts : List Tree) (xs : List Value) (vk : Value), j ≤ C ∧ i = .int .i64 (j : Int) ∧ a = .int .i64 (a' : Int) ∧ Hid (rdTs (rdT d) b a0 j = some (ts, a')) ∧ Blk wr A 25 [.int .i64 k, .int .i64 n', .int .i64 m, vk] ∧
    Hid (wr.ownsRow w4.heap.size 25 4 vk j xs) ∧ Hid (IsTsX (fun b => w4.heap.size ≤ b ∧ vk.ownBlock ≠ some b) wr ts xs) ∧ Below w2.heap.size w2 wr ∧ w4.heap.size ≤ wr.heap.size) (fun _ i _ => C - (intOf i).toNat)
  case atStart => exact ⟨0, a0, [], [], _, Nat.zero_le _, rfl, rfl, Lib.hid rfl, k4', R0, T0, hb24, Nat.le_refl _⟩
  case round =>
    clear R0 T0 k4' kR4 rl5
    obtain ⟨j, a', ts, xs, vk, hj, rfl, rfl, HJ, kA, HO, HI, hbj, hsz⟩ := hrel
    obtain ⟨wo, rfl⟩ : ∃ wo : World, wo = wr := ⟨_, rfl⟩
    have rlj := rl4.below hbj
    have hvj := hv2.below hbj
    have kRj := kR2.below hbj l2R
    have lA := kA.lt
    have hbw := hb2.trans (hbj.mono hb2.size)
    obtain ⟨_, _, _, _, g5, g6, g7⟩ := rdTs_can (rdT_can d) HAU.out HJ.out
    rw [HBL.out] at g6
    by_cases hlt : j < C
    · have LJ : decide ((j : Int) < (C : Int)) = true := by rw [decide_eq_true_eq]; omega
      have IHc := Lib.hid (fun v5 (h : Rd wo 1 v5 (n - a') (bv (b.drop a'))) => IHd.out (D - 1) (b.drop a') v5 (n - a') wo DM.out (by omega) h (by omega))
      cases hr : rdT d (b.drop a') with
      | none =>
        have HN := Lib.hid (show rdT (d + 1) b = none by rw [HT.out, rdTs_none (rdTs_fail HJ.out hr) C (by omega)]; rfl)
        have AL := Lib.hid (show ([.int .i64 k, .int .i64 n', .int .i64 m, vk] : List Value).length = 4 from rfl)
        have VO := Lib.hid (own_one HO.out)
        rw [hr] at IHc
        clear hr
        go_wp2_with (first
          | ((with_reducible refine' wpList_at1_rd (.tmp 47) (.const (.int .i64 3)) 22 rfl ?_ Tryd.underlying22 sz_int ?_ rlj (3) ?_ ?_ ?_); exact rfl; exact rfl; (show (_ : Int) = _; omega); omega; simp only [Act.put, List.setIfInBounds_toArray, List.set_cons_succ, List.set_cons_zero]) | ((with_reducible refine' wpList_load_rd (.tmp 48) 3 rfl ?_ ld_int ?_ rlj (L3.out) ?_); exact rfl; exact rfl; simp only [Act.put, List.setIfInBounds_toArray, List.set_cons_succ, List.set_cons_zero])
          | ((with_reducible refine' wpList_from_b (.tmp 54) (.tmp 55) 49 rfl ?_ Tryd.underlying49 sz_u8 ?_ hvj (a') ?_ ?_ ?_); exact rfl; exact rfl; (show (_ : Int) = _; omega); omega; intro v5 hv5; simp only [Act.put, List.setIfInBounds_toArray, List.set_cons_succ, List.set_cons_zero])
          | ((go_at_call 65; (with_reducible refine (IHc.out v5 hv5).mono ?_); rintro e w' ⟨cs, u, rfl, ⟨h1, h2, rfl⟩, hN5⟩); have CL := Lib.hid h1; have CO := Lib.hid h2; clear h1 h2)
          | (((with_reducible refine' wpList_alloc_blk (cs := nodz) 25 rfl ?_ zr_node ?_ ?_); exact rfl; exact nodz_cells; intro w6 k6 hN6 hz6; simp only [Act.put, List.setIfInBounds_toArray, List.set_cons_succ, List.set_cons_zero]))
          | (((with_reducible refine' wpList_store_blk (cs := cs) 25 (.tmp 11) (.tmp 60) rfl ?_ ?_ ?_ k6 sz_node ?_ ?_ ?_ ?_); exact rfl; exact rfl; exact rfl; exact CL.out; exact rfl; exact CO.out; intro w7 k7 hO7 hz7; simp only [Act.put]); have hb57 : Below wo.heap.size wo w7 := (hN5.trans (hN6.mono hN5.size)).trans (hO7.below hN5.size (Nat.le_trans hN5.size hN6.size)); have kA7 := kA.below hb57 lA; have kR7 := kRj.below hb57 (by omega))
          | ((with_reducible refine' wpList_loadst_blk (.tmp 9) 25 rfl ?_ Tryd.underlying25 ?_ sz_node ?_ kA7 ?_ ?_ ?_); exact rfl; exact rfl; exact rfl; exact AL.out; decide; simp only [Act.put, List.setIfInBounds_toArray, List.set_cons_succ, List.set_cons_zero])
          | ((with_reducible refine' wpList_store_blk (cs := [.int .i64 k, .int .i64 n', .int .i64 m, vk]) 25 (.tmp 4) (.tmp 64) rfl ?_ ?_ ?_ kR7 sz_node ?_ ?_ ?_ ?_); exact rfl; exact rfl; exact rfl; exact rfl; exact rfl; exact node_ones VO.out; intro w8 k8 hO8 hz8; simp only [Act.put]))
        ((try simp only [Exit.inBlock, Exit.then]); refine bodyPost_ret (results_cell_row_tmp rfl _ _ _ _ _ _ _ rfl k8 Tryd.underlying25 rfl (by rw [sz_node]; rfl)) rfl ?_)
        rw [HN.out]
        have hb7 := hbw.trans (hb57.mono hbw.size)
        exact ⟨_, -1, rfl, ⟨rfl, node_ones VO.out, rfl⟩, hb7.trans (hO8.below hwR hb7.size)⟩
      | some r =>
        obtain ⟨t, u⟩ := r
        obtain ⟨_, _, _, _, f5, f6⟩ := rdT_can d _ _ _ hr
        rw [List.length_drop, HBL.out] at f6
        have HS := Lib.hid (rdTs_some HJ.out hr)
        have VO := Lib.hid (own_one HO.out)
        have V3 := Lib.hid (show ([.int .i64 k, .int .i64 n', .int .i64 m, vk] : List Value)[3]? = some vk from rfl)
        have UL : decide ((u : Int) < 0) = false := decide_eq_false (by omega)
        have hA4 : A < w4.heap.size := l4
        rw [hr] at IHc
        clear hr
        go_wp2_with (first
          | ((with_reducible refine' wpList_at1_rd (.tmp 47) (.const (.int .i64 3)) 22 rfl ?_ Tryd.underlying22 sz_int ?_ rlj (3) ?_ ?_ ?_); exact rfl; exact rfl; (show (_ : Int) = _; omega); omega; simp only [Act.put, List.setIfInBounds_toArray, List.set_cons_succ, List.set_cons_zero]) | ((with_reducible refine' wpList_load_rd (.tmp 48) 3 rfl ?_ ld_int ?_ rlj (L3.out) ?_); exact rfl; exact rfl; simp only [Act.put, List.setIfInBounds_toArray, List.set_cons_succ, List.set_cons_zero])
          | ((with_reducible refine' wpList_from_b (.tmp 54) (.tmp 55) 49 rfl ?_ Tryd.underlying49 sz_u8 ?_ hvj (a') ?_ ?_ ?_); exact rfl; exact rfl; (show (_ : Int) = _; omega); omega; intro v5 hv5; simp only [Act.put, List.setIfInBounds_toArray, List.set_cons_succ, List.set_cons_zero])
          | ((go_at_call 65; (with_reducible refine (IHc.out v5 hv5).mono ?_); rintro e w' ⟨cs, uu, rfl, ⟨h1, rfl⟩, hN5⟩); have H1 := Lib.hid h1; have CL := Lib.hid h1.len; have CO := Lib.hid h1.isT.ones; clear h1)
          | (((with_reducible refine' wpList_alloc_blk (cs := nodz) 25 rfl ?_ zr_node ?_ ?_); exact rfl; exact nodz_cells; intro w6 k6 hN6 hz6; simp only [Act.put, List.setIfInBounds_toArray, List.set_cons_succ, List.set_cons_zero]))
          | (((with_reducible refine' wpList_store_blk (cs := cs) 25 (.tmp 11) (.tmp 60) rfl ?_ ?_ ?_ k6 sz_node ?_ ?_ ?_ ?_); exact rfl; exact rfl; exact rfl; exact CL.out; exact rfl; exact CO.out; intro w7 k7 hO7 hz7; simp only [Act.put]); have hb57 : Below w'.heap.size w' w7 := hN6.trans (hO7.below (Nat.le_refl _) hN6.size); have hb47 : Below wo.heap.size wo w7 := hN5.trans (hb57.mono hN5.size); have kA7 := kA.below hb47 lA)
          | ((with_reducible refine' wpList_field_blk (j := 3) (.tmp 9) 25 3 rfl ?_ fo_node_3 ?_ rfl ?_); exact rfl; exact rfl; simp only [Act.put, List.setIfInBounds_toArray, List.set_cons_succ, List.set_cons_zero]) | ((with_reducible refine' wpList_load_blk (.tmp 65) 23 rfl ?_ ld_nds ?_ kA7 (V3.out) ?_); exact rfl; exact rfl; simp only [Act.put, List.setIfInBounds_toArray, List.set_cons_succ, List.set_cons_zero]) | ((with_reducible refine' wpList_loadst_blk (.tmp 11) 25 rfl ?_ Tryd.underlying25 ?_ sz_node ?_ k7 ?_ ?_ ?_); exact rfl; exact rfl; exact rfl; exact CL.out; decide; simp only [Act.put, List.setIfInBounds_toArray, List.set_cons_succ, List.set_cons_zero])
          | (((with_reducible refine' wpList_build_sts (css := [cs]) rfl ?_ Tryd.underlying23 inf_node ?_ ?_ ?_ ?_ ?_ ?_); exact rfl; exact rfl; (first | omega | decide); (first | omega | decide); exact rfl; (intro c hc; simp at hc; subst hc; exact CL.out); intro w8 k8 hN8 hz8; simp only [Act.put, List.setIfInBounds_toArray, List.set_cons_succ, List.set_cons_zero]); rw [flat1] at k8; have r8 := k8.rdall 1 4 CL.out (by unfold maxLen; omega); have own8 := own_below (own_below HO.out hb47) hN8; have hb48 := hb47.trans (hN8.mono hb47.size); have s8 : w4.heap.size ≤ w8.heap.size := Nat.le_trans hsz hb48.size)
          | (((with_reducible refine' wpList_append_at (.tmp 66) (.tmp 68) 23 rfl ?_ Tryd.underlying23 inf_node ?_ ?_ ?_ own8 ?_ r8 CO.out ?_ ?_ s8 ?_); exact rfl; exact rfl; omega; exact rfl; exact rfl; (first | omega | (unfold maxLen; omega)); omega; intro v9 w9 o9 hg9 hst9; simp only [Act.put, List.setIfInBounds_toArray, List.set_cons_succ, List.set_cons_zero]); have kA9 := (kA7.below hN8 kA7.lt).grown hg9 (fun e => own_ne own8 hA4 e.symm))
          | ((with_reducible refine' wpList_set_blk (u := v9) 23 (.tmp 70) (.tmp 69) rfl ?_ sz_nds ?_ ?_ kA9 (len4_lt) ?_ ?_); exact rfl; exact rfl; exact rfl; exact (own_one o9); intro w10 k10 hO10 hz10; simp only [Act.put, List.setIfInBounds_toArray, List.set_cons_succ, List.set_cons_zero]))
        have k10' : Blk w10 A 25 [.int .i64 k, .int .i64 n', .int .i64 m, v9] := k10
        have o10 := Lib.hid (Lb.own_only o9 hO10 (own_ne o9 hA4))
        have hI10 := Lib.hid ((kids_next (X := fun b => w4.heap.size ≤ b) HO.out HI.out (gb_below (b := some A) hN5) H1.out (hb57.trans (hN8.mono hb57.size)) hg9 hst9 (fun b h => by omega) (fun b h => by omega)).only hO10 (fun b h => by have := h.1; omega))
        have hb9 : Below w2.heap.size w2 w9 := (hbj.trans (hb48.mono hbj.size)).grown hg9 ((hbj.trans (hb48.mono hbj.size)).size) (fun b hb => by have := (own8.lt b hb).1; have := HA2.out; omega)
        have hb10 : Below w2.heap.size w2 w10 := hb9.trans (hO10.below (by have := HA2.out; omega) hb9.size)
        have s10 : w4.heap.size ≤ w10.heap.size := Nat.le_trans s8 (Nat.le_trans hg9.size hO10.size)
        clear kA9 o9 hg9 hst9 hO10 hz10 k10 own8 k8 hN8 hz8 r8 k7 k6 hN6 hz6 hO7 hz7 hN5 H1 hb57 hb47 hb48 hb9 hv5
        go_roundw
        case rel => (first | exact ⟨j + 1, a' + u, ts ++ [t], xs ++ cs, v9, by omega, by go_num, by go_num, HS, k10', o10, hI10, hb10, s10⟩ | ((repeat apply Exists.intro); exact ⟨⟨j + 1, a' + u, ts ++ [t], xs ++ cs, v9, by omega, by go_num, by go_num, HS, k10', o10, hI10, hb10, s10⟩, rfl⟩))
        case measure => simp [intOf]; omega
    · obtain rfl : j = C := by omega
      have LJ : decide ((j : Int) < (j : Int)) = false := by simp
      have HN := Lib.hid (show rdT (d + 1) b = some (.mk k n' m ts, a') by rw [HT.out, HJ.out]; rfl)
      have AL := Lib.hid (show ([.int .i64 k, .int .i64 n', .int .i64 m, vk] : List Value).length = 4 from rfl)
      have VO := Lib.hid (own_one HO.out)
      go_wp2_with (first
        | ((with_reducible refine' wpList_at1_rd (.tmp 47) (.const (.int .i64 3)) 22 rfl ?_ Tryd.underlying22 sz_int ?_ rlj (3) ?_ ?_ ?_); exact rfl; exact rfl; (show (_ : Int) = _; omega); omega; simp only [Act.put, List.setIfInBounds_toArray, List.set_cons_succ, List.set_cons_zero]) | ((with_reducible refine' wpList_load_rd (.tmp 48) 3 rfl ?_ ld_int ?_ rlj (L3.out) ?_); exact rfl; exact rfl; simp only [Act.put, List.setIfInBounds_toArray, List.set_cons_succ, List.set_cons_zero])
        | ((with_reducible refine' wpList_loadst_blk (.tmp 9) 25 rfl ?_ Tryd.underlying25 ?_ sz_node ?_ kA ?_ ?_ ?_); exact rfl; exact rfl; exact rfl; exact AL.out; decide; simp only [Act.put, List.setIfInBounds_toArray, List.set_cons_succ, List.set_cons_zero])
        | ((with_reducible refine' wpList_store_blk (cs := [.int .i64 k, .int .i64 n', .int .i64 m, vk]) 25 (.tmp 4) (.tmp 74) rfl ?_ ?_ ?_ kRj sz_node ?_ ?_ ?_ ?_); exact rfl; exact rfl; exact rfl; exact rfl; exact rfl; exact node_ones VO.out; intro w8 k8 hO8 hz8; simp only [Act.put]))
      ((try simp only [Exit.inBlock, Exit.then]); refine bodyPost_ret (results_cell_row_tmp rfl _ _ _ _ _ _ _ rfl k8 Tryd.underlying25 rfl (by rw [sz_node]; rfl)) rfl ?_)
      rw [HN.out]
      have hR4 : R < w4.heap.size := by omega
      have hw4 : w.heap.size ≤ w4.heap.size := by omega
      have o8 := Lb.own_only HO.out hO8 (own_ne HO.out hR4)
      refine ⟨_, _, rfl, ⟨IsTX.node (xs := xs) (by rw [g7]; exact Rd.of_own o8) (fun b hb _ => by have := (o8.lt b hb).1; omega) ((HI.out.only hO8 (fun b h => by have := h.1; omega)).mono fun b h => by have := h.1; omega), rfl⟩, hbw.trans (hO8.below hwR hbw.size)⟩
theorem read_any (d : Nat) : ReadC d := by
  induction d with
  | zero => exact read_step 0 fun d' h => by omega
  | succ d ih => exact read_step (d + 1) fun d' h => Nat.succ.inj h ▸ ih
end Go.Proofs.YtdlhkhnoigbhjaaDoor.Wi
namespace Go.Proofs.YtdlhkhnoigbhjaaDoor.Wi
open Go Go.RowKit Pu Lb

theorem only_drewN {B : Nat} {w w' : World} (h : Only B w w') (n : Nat) : Only B w (w'.drewN n) := ⟨h.os, h.tape, h.output, h.size, h.block⟩

set_option maxRecDepth 100000 in
set_option maxHeartbeats 800000 in
theorem reader1_any (B C : Nat) (v : Value) (n at_ : Nat) (b : List UInt8) (w : World) (hB : Blk w B 49 [v]) (hC : Blk w C 3 [.int .i64 (at_ : Int)]) (hv : Rd w 1 v n (bv b)) (hat : at_ ≤ n) (hn1 : n ≤ 1099511627776) :
    Calls Tryd.prog 89 #[.pointer (some ⟨B, 0, none⟩), .pointer (some ⟨C, 0, none⟩)] w fun e w' =>
      e = .returned (.tuple #[.int .i64 (getInt (b.drop at_)).1, .int .i64 ((at_ + (getInt (b.drop at_)).2.1 : Nat) : Int), .int .i64 ((getInt (b.drop at_)).2.2 : Int)]) ∧ Blk w' C 3 [.int .i64 ((at_ + (getInt (b.drop at_)).2.1 : Nat) : Int)] ∧ Only C w w' := by
  have hl : b.length = n := by have := hv.1; rw [bv_length] at this; omega
  obtain ⟨⟨x, used, err⟩, hx⟩ : ∃ x, getInt (b.drop at_) = x := ⟨_, rfl⟩
  have hu : used ≤ n := by
    by_cases he : err = 0
    · subst he; have := getInt_used hx; rw [List.length_drop] at this; omega
    · have := (get_used_zero hx he).2.1; omega
  rw [hx]
  have HX := Lib.hid hx
  clear hx hl
  have hat1 : [Value.int .i64 (at_ : Int)][0]? = some (.int .i64 (at_ : Int)) := rfl
  have HAT := Lib.hid hat1; clear hat1
  have hone : (0 : Nat) < [Value.int .i64 (at_ : Int)].length := by simp
  go_enter Tryd.func89, Tryd.ntmps89
  go_wp2_with (first | ((with_reducible refine' wpList_load_blk (.tmp 0) 49 rfl ?_ ld_bs ?_ hB ((rfl : [v][0]? = some v)) ?_); exact rfl; exact rfl; simp only [Act.put, List.setIfInBounds_toArray, List.set_cons_succ, List.set_cons_zero]) | ((with_reducible refine' wpList_load_blk (.tmp 1) 3 rfl ?_ ld_int ?_ hC (HAT.out) ?_); exact rfl; exact rfl; simp only [Act.put, List.setIfInBounds_toArray, List.set_cons_succ, List.set_cons_zero]) | ((with_reducible refine' wpList_from_b (.tmp 9) (.tmp 10) 49 rfl ?_ Tryd.underlying49 sz_u8 ?_ hv (at_) ?_ ?_ ?_); exact rfl; exact rfl; (show (_ : Int) = _; omega); omega; intro v1 hv1; simp only [Act.put, List.setIfInBounds_toArray, List.set_cons_succ, List.set_cons_zero]) | (go_at_call 88; (with_reducible refine (getint_any _ _ _ _ hv1).mono ?_); rintro e w' ⟨rfl, rfl⟩; rw [HX.out]; unfold R3) | ((with_reducible refine' wpList_set_blk (u := .int .i64 ((at_ : Int) + used)) 3 (.tmp 1) (.tmp 18) rfl ?_ sz_int ?_ ?_ hC (hone) ?_ ?_); exact rfl; exact rfl; exact rfl; exact rfl; intro w2 hk2 hq2 hz2; simp only [Act.put]))
  have hk3 : Blk w2 C 3 [.int .i64 ((at_ : Int) + used)] := hk2
  have hat2 : [Value.int .i64 ((at_ : Int) + used)][0]? = some (.int .i64 ((at_ : Int) + used)) := rfl
  have HAT2 := Lib.hid hat2; clear hat2
  go_wp2_with ((refine wp_region_quiet_lit (by kernel_rfl) (by kernel_rfl) ?_; (repeat (first | ((with_reducible refine' wpQuiet_load_blk (fun _ h => h) (.tmp 1) 3 rfl ?_ ld_int ?_ hk3 (HAT2.out) ?_); exact rfl; exact rfl; simp only [Act.put, List.setIfInBounds_toArray, List.set_cons_succ, List.set_cons_zero]) | go_big_quiet_step (fail))); refine wpQuiet_nil ?_; intro _ hw'; obtain ⟨nq, hw''⟩ := hw'; subst hw''))
  go_ret3
  refine ⟨by rw [Int.natCast_add]; rfl, ?_, only_drewN hq2 nq⟩
  rw [Int.natCast_add]
  exact hk3.drewN nq

theorem ownsRow_only {w w' : World} {base B : Nat} {e : TypeId} {s : Nat} {v : Value} {n : Nat} {xs : List Value} (h : w.ownsRow base e s v n xs) (hO : Only B w w') (hB : B < base) : w'.ownsRow base e s v n xs := by
  refine h.kept hO ?_
  cases hv : v.ownBlock with
  | none => exact .inl rfl
  | some k => exact .inr (by have := (h.lt k hv).1; simp; omega)

theorem heap_alloc2 (w : World) (o p : Obj) : ((w.alloc o).alloc p).heap[w.heap.size]? = some o := by
  have h : ((w.alloc o).alloc p).heap[w.heap.size]? = (w.alloc o).heap[w.heap.size]? := heap_alloc_old (w.alloc o) p (by simp)
  rw [h]; exact heap_alloc_new w o

set_option maxRecDepth 100000 in
theorem reader_any (v : Value) (n at_ : Nat) (xs : List Value) (w : World) (hv : Rd w 1 v n xs) :
    Calls Tryd.prog 67 #[v, .int .i64 (at_ : Int)] w fun e w' => e = .returned (.func (.func 89) #[] #[.pointer (some ⟨w.heap.size, 0, none⟩), .pointer (some ⟨w.heap.size + 1, 0, none⟩)]) ∧
      Blk w' w.heap.size 49 [v] ∧ Blk w' (w.heap.size + 1) 3 [.int .i64 (at_ : Int)] ∧ Below w.heap.size w w' ∧ w'.heap.size = w.heap.size + 2 := by
  obtain ⟨_, ad, cap, rfl, _⟩ := hv
  go_enter Tryd.func67, Tryd.ntmps67
  go_wp2
  go_ret
  refine ⟨rfl, heap_alloc2 w _ _, ?_, ((Below.refl _ _).alloc (Nat.le_refl _) _).alloc (by simp) _, by simp⟩
  have h := heap_alloc_new (w.alloc (.cells #[.slice ad n cap] 49)) (.cells #[.int .i64 (at_ : Int)] 3)
  rw [World.size_alloc] at h
  exact h

set_option maxRecDepth 100000 in
set_option maxHeartbeats 1600000 in
theorem getints_any (v : Value) (n : Nat) (b : List UInt8) (w : World) (hv : Rd w 1 v n (bv b)) (hn1 : n ≤ 1099511627776) :
    Calls Tryd.prog 43 #[v] w fun e w' => ∃ v, e = .returned (.tuple #[v, .int .i64 ((getInts b).2.1 : Int), .int .i64 ((getInts b).2.2 : Int)]) ∧ w'.ownsRow w.heap.size 3 1 v (getInts b).1.length (iv (getInts b).1) ∧ Below w.heap.size w w' := by
  have hl : b.length = n := by have := hv.1; rw [bv_length] at this; omega
  have HL := Lib.hid hl; clear hl
  obtain ⟨⟨m, at0, e0⟩, hx⟩ : ∃ x, cnt b 1 = x := ⟨_, rfl⟩
  have HC := Lib.hid hx
  by_cases he : e0 = 0
  · subst he
    obtain ⟨_, h2, h3, _, h5⟩ := cnt_ok hx
    rw [HL.out] at h2 h3
    have hgl : getInts b = behind [] (decN getInt b m at0) := by rw [behind_nil]; simp [getInts, HC.out]
    have HG := Lib.hid hgl
    clear hx hgl
    go_enter Tryd.func43, Tryd.ntmps43
    go_wp2_with (first | (go_at_call 66; (with_reducible refine (count_1 _ _ _ _ hv).mono ?_); rintro e w' ⟨x, y, rfl, hxy, rfl⟩; rw [HC.out] at hxy ⊢; obtain ⟨rfl, rfl⟩ := hxy rfl; clear hxy) | (go_at_call 67; (with_reducible refine (reader_any _ _ _ _ _ hv).mono ?_); rintro e w' ⟨rfl, hB1, hC1, hb1, hz1⟩))
    go_loopw [6, 9, 26] (fun a o i wr => ∃ (j at_ : Nat) (acc : List Int), j ≤ m ∧ at_ ≤ n ∧ acc.length = j ∧ i = .int .i64 j ∧ a = .int .i64 at_ ∧ wr.ownsRow (w.heap.size + 2) 3 1 o j (iv acc) ∧ Blk wr w.heap.size 49 [v] ∧ Blk wr (w.heap.size + 1) 3 [.int .i64 (at_ : Int)] ∧ Below w.heap.size w wr ∧ w.heap.size + 2 ≤ wr.heap.size ∧ getInts b = behind acc (decN getInt b (m - j) at_)) (fun _ _ i _ => m - (intOf i).toNat)
    case atStart => exact ⟨0, at0, [], Nat.zero_le _, h2, rfl, rfl, rfl, World.ownsRow_nil _ _ _ _, hB1, hC1, hb1, by omega, HG.out⟩
    case round =>
      obtain ⟨j, at_, acc, hj, hat, hacc, rfl, rfl, hown, hB, hC, hbl, hsz, hdec⟩ := hrel
      have HO := Lib.hid hown
      have HD := Lib.hid hdec
      have HA := Lib.hid hacc
      clear hown hdec hacc
      have hg := hv.below hbl
      by_cases hlt : j < m
      · obtain ⟨⟨x, used, e⟩, hx⟩ : ∃ x, getInt (b.drop at_) = x := ⟨_, rfl⟩
        have HX := Lib.hid hx
        have hmj : m - j = (m - (j + 1)) + 1 := by omega
        have HMJ := Lib.hid hmj; clear hmj
        by_cases he : e = 0
        · subst he
          have hu := getInt_used hx
          rw [List.length_drop, HL.out] at hu
          clear hx
          go_wp2_with (first | (go_at_call 89; (with_reducible refine (reader1_any _ _ _ _ _ _ _ hB hC hg hat hn1).mono ?_); rintro e w' ⟨rfl, hC2, hO2⟩; rw [HX.out] at hC2 ⊢; have hb2 := hO2.below (C := w.heap.size) (by omega) (by omega); have hO3 := ownsRow_only HO.out hO2 (by omega); have hB2 := hO2.blk hB (by omega)) | ((with_reducible refine' wpList_append_one (.tmp 37) (.tmp 39) 22 rfl ?_ Tryd.underlying22 inf_int ?_ ?_ hO3 ?_ ?_ ?_ ?_ (Nat.le_trans hsz hO2.size) ?_); exact rfl; exact rfl; exact rfl; exact rfl; exact rfl; (first | omega | (unfold maxLen; omega)); omega; intro v3 w3 ho3 hb3; simp only [Act.put, List.setIfInBounds_toArray, List.set_cons_succ, List.set_cons_zero]))
          have hd := HD.out
          rw [HMJ.out, behind_step HX.out] at hd
          have hc : iv acc ++ [.int .i64 x] = iv (acc ++ [x]) := by simp [iv]
          rw [hc] at ho3
          have HO3 := Lib.hid ho3
          have HD3 := Lib.hid hd
          clear ho3 hd hc
          go_roundw
          case rel => exact ⟨j + 1, at_ + used, acc ++ [x], by omega, by omega, by simp [HA.out], by go_num, rfl, HO3.out, hB2.below hb3 (by omega), hC2.below hb3 (by omega), (hbl.trans hb2).trans (hb3.mono (by omega)), Nat.le_trans (Nat.le_trans hsz hO2.size) hb3.size, HD3.out⟩
          case measure => simp [intOf]; omega
        · have heb : ((e : Int) != 0) = true := by rw [bne_iff_ne]; omega
          have HE := Lib.hid he
          clear he hx
          go_wp2_with (first | (go_at_call 89; (with_reducible refine (reader1_any _ _ _ _ _ _ _ hB hC hg hat hn1).mono ?_); rintro e w' ⟨rfl, hC2, hO2⟩; rw [HX.out]; have hb2 := hO2.below (C := w.heap.size) (by omega) (by omega)))
          go_ret3
          have hd := HD.out
          rw [HMJ.out, behind_fail HX.out HE.out] at hd
          rw [hd]
          exact ⟨_, rfl, World.ownsRow_nil _ _ _ _, hbl.trans hb2⟩
      · obtain rfl : j = m := by omega
        go_wp2_with fail
        go_ret3
        have hd := HD.out
        rw [Nat.sub_self, behind_zero] at hd
        rw [hd]
        refine ⟨_, rfl, ?_, hbl⟩
        rw [HA.out]
        exact own_mono HO.out (by omega)
  · have heb : ((e0 : Int) != 0) = true := by rw [bne_iff_ne]; omega
    have hgl : getInts b = ([], 0, e0) := by simp [getInts, HC.out, he]
    have HG := Lib.hid hgl
    clear he hx hgl
    go_enter Tryd.func43, Tryd.ntmps43
    go_wp2_with (first | (go_at_call 66; (with_reducible refine (count_1 _ _ _ _ hv).mono ?_); rintro e w' ⟨x, y, rfl, hxy, rfl⟩; rw [HC.out]; clear hxy))
    go_ret3
    rw [HG.out]
    exact ⟨_, rfl, World.ownsRow_nil _ _ _ _, Below.refl _ _⟩
end Go.Proofs.YtdlhkhnoigbhjaaDoor.Wi
namespace Go.Proofs.YtdlhkhnoigbhjaaDoor.Lb
open Go Go.RowKit
theorem results_cell_row_tmp2 {P : Program} {fn : Func} {p q r : Tmp} {ty : TypeId} (h : fn.results = #[.cell p ty, .tmp q, .tmp r]) (tmps : Array Value) (w : World) (g : Nat) (t : TypeId) (cs : Array Value) (fr : Nat × Nat) (d : TypeDesc)
    (hp : tmps.getD p undef = .pointer (some ⟨g, 0, none⟩)) (hg : w.heap[g]? = some (.cells cs t fr))
    (hu : P.underlying ty = some d) (hd : (match d with | .struct _ | .array _ _ => true | _ => false) = true) (hi : (P.info? ty).map (·.size) = some cs.size) :
    (results fn tmps).run P w = .ok (.tuple #[.agg cs, tmps.getD q undef, tmps.getD r undef]) w := by
  have hp' : tmps[p]?.getD undef = .pointer (some ⟨g, 0, none⟩) := by simpa using hp
  simp [results, h, hp', asAddr, run_loadVar_row w g t ty cs fr d hg hu hd hi]
end Go.Proofs.YtdlhkhnoigbhjaaDoor.Lb
namespace Go.Proofs.YtdlhkhnoigbhjaaDoor.Wi
open Go Go.RowKit Pu Lb
set_option linter.unusedSimpArgs false
set_option linter.unusedVariables false
/-- what a reader gives: a tree that lies in blocks of its own and the place behind it, or nothing -/
def DecR (w w' : World) (o : Option (Tree × Nat)) (cs : List Value) (u : Int) (ok : Bool) : Prop :=
  match o with
  | none => cs = nodz ∧ u = 0 ∧ ok = false
  | some (t, k) => IsTX (fun b => w.heap.size ≤ b) w' t cs ∧ u = (k : Int) ∧ ok = true
def DecC (d : Nat) : Prop := ∀ (D : Int) (b : List UInt8) (v : Value) (n : Nat) (w : World), D = (d : Int) → D ≤ 24 → Rd w 1 v n (bv b) → n ≤ 1099511627776 →
    Calls Tryd.prog 64 #[v, .int .i64 D] w fun e w' => ∃ cs u ok, e = .returned (.tuple #[.agg cs.toArray, .int .i64 u, .bool ok]) ∧ DecR w w' (rdT d b) cs u ok ∧ Below w.heap.size w w'
set_option maxRecDepth 100000 in
set_option maxHeartbeats 3200000 in
theorem decode_step (d : Nat) (ih : ∀ d', d = d' + 1 → DecC d') : DecC d := by
  intro D b v n w hD hD24 hv hn
  have IH := Lib.hid ih
  obtain ⟨⟨l, a0, e0⟩, hx⟩ : ∃ x, getInts b = x := ⟨_, rfl⟩
  have HX := Lib.hid hx
  have hbl : b.length = n := by have := hv.1; rw [bv_length] at this; omega
  have HBL := Lib.hid hbl
  have G : ∀ w, Rd w 1 v n (bv b) → Calls Tryd.prog 43 #[v] w fun e w' => ∃ v', e = .returned (.tuple #[v', .int .i64 (a0 : Int), .int .i64 (e0 : Int)]) ∧ w'.ownsRow w.heap.size 3 1 v' l.length (iv l) ∧ Below w.heap.size w w' := fun w h => by
    have h2 := getints_any v n b w h hn; rw [hx] at h2; exact h2
  have HG := Lib.hid G
  have HDD := Lib.hid hD
  have hD0 : 0 ≤ D := by omega
  clear ih hx hbl G hD
  go_enter Tryd.func64, Tryd.ntmps64
  go_upto_region 2 with (first
    | (((with_reducible refine' wpList_alloc_blk (cs := nodz) 25 rfl ?_ zr_node ?_ ?_); exact rfl; exact nodz_cells; intro w1 kR hN1 hz1; simp only [Act.put, List.setIfInBounds_toArray, List.set_cons_succ, List.set_cons_zero]); have hv1 := hv.below hN1)
    | (go_at_call 43; (with_reducible refine (HG.out _ hv1).mono ?_); rintro e w' ⟨vl, rfl, ol, hN2⟩))
  obtain ⟨w2, rfl⟩ : ∃ x : World, x = w' := ⟨_, rfl⟩
  obtain ⟨R, hR⟩ : ∃ R, w.heap.size = R := ⟨_, rfl⟩
  have hb2 : Below w.heap.size w w2 := hN1.trans (hN2.mono hN1.size)
  have hwR : w.heap.size ≤ R := Nat.le_of_eq hR
  have lR := kR.lt
  have kR2 := kR.below hN2 lR
  have l2R := kR2.lt
  rw [hR] at kR2 l2R
  simp only [hR]
  have rl := Rd.of_own ol
  have hv2 := hv.below hb2
  clear hN1 hz1 hN2 kR lR hR hv1
  by_cases he : e0 = 0
  rotate_left
  · have heb : ((e0 : Int) != 0) = true := by rw [bne_iff_ne]; omega
    have heq : decide ((e0 : Int) = 0) = false := decide_eq_false (by omega)
    have HN := Lib.hid (show rdT d b = none from rdT_none_e (by rw [HX.out]; exact he))
    clear he
    go_wp2_with (first
      | ((with_reducible refine' wpList_len_rd (.tmp 23) 22 rfl ?_ Tryd.underlying22 ?_ rl ?_); exact rfl; exact rfl; simp only [Act.put, List.setIfInBounds_toArray, List.set_cons_succ, List.set_cons_zero])
      | ((with_reducible refine' wpList_of_run (o := ⟨_, .build _ _, _, _, _, _⟩) (v := .agg #[.int .i64 0, .int .i64 0, .int .i64 0, .slice none 0 0]) (w' := w2) ?_ ?_ ?_); exact rfl; kernel_rfl; simp only [Act.put, List.setIfInBounds_toArray, List.set_cons_succ, List.set_cons_zero])
      | ((with_reducible refine' wpList_store_blk (cs := nodz) 25 (.tmp 4) (.tmp 45) rfl ?_ ?_ ?_ kR2 sz_node ?_ ?_ ?_ ?_); exact rfl; exact rfl; exact rfl; exact rfl; exact rfl; exact node_ones rfl; intro w4 k4 hO4 hz4; simp only [Act.put]))
    ((try simp only [Exit.inBlock, Exit.then]); refine bodyPost_ret (results_cell_row_tmp2 rfl _ _ _ _ _ _ _ rfl k4 Tryd.underlying25 rfl (by rw [sz_node]; rfl)) rfl ?_)
    rw [HN.out]
    exact ⟨nodz, 0, false, rfl, ⟨rfl, rfl, rfl⟩, hb2.trans (hO4.below hwR hb2.size)⟩
  subst he
  by_cases h4 : l.length = 4
  rotate_left
  · have hlb : ((l.length : Int) != 4) = true := by rw [bne_iff_ne]; omega
    have hlq : decide ((l.length : Int) = 4) = false := decide_eq_false (by omega)
    have HN := Lib.hid (show rdT d b = none from rdT_none_l (by rw [HX.out]; exact h4))
    clear h4
    go_wp2_with (first
      | ((with_reducible refine' wpList_len_rd (.tmp 23) 22 rfl ?_ Tryd.underlying22 ?_ rl ?_); exact rfl; exact rfl; simp only [Act.put, List.setIfInBounds_toArray, List.set_cons_succ, List.set_cons_zero])
      | ((with_reducible refine' wpList_of_run (o := ⟨_, .build _ _, _, _, _, _⟩) (v := .agg #[.int .i64 0, .int .i64 0, .int .i64 0, .slice none 0 0]) (w' := w2) ?_ ?_ ?_); exact rfl; kernel_rfl; simp only [Act.put, List.setIfInBounds_toArray, List.set_cons_succ, List.set_cons_zero])
      | ((with_reducible refine' wpList_store_blk (cs := nodz) 25 (.tmp 4) (.tmp 45) rfl ?_ ?_ ?_ kR2 sz_node ?_ ?_ ?_ ?_); exact rfl; exact rfl; exact rfl; exact rfl; exact rfl; exact node_ones rfl; intro w4 k4 hO4 hz4; simp only [Act.put]))
    ((try simp only [Exit.inBlock, Exit.then]); refine bodyPost_ret (results_cell_row_tmp2 rfl _ _ _ _ _ _ _ rfl k4 Tryd.underlying25 rfl (by rw [sz_node]; rfl)) rfl ?_)
    rw [HN.out]
    exact ⟨nodz, 0, false, rfl, ⟨rfl, rfl, rfl⟩, hb2.trans (hO4.below hwR hb2.size)⟩
  obtain ⟨k, n', m, c, rfl⟩ := list4 h4
  have rl4 : Rd w2 1 vl 4 (iv [k, n', m, c]) := rl
  clear rl h4
  have L0 := Lib.hid (show (iv [k, n', m, c])[0]? = some (.int .i64 k) from rfl)
  have L1 := Lib.hid (show (iv [k, n', m, c])[1]? = some (.int .i64 n') from rfl)
  have L2 := Lib.hid (show (iv [k, n', m, c])[2]? = some (.int .i64 m) from rfl)
  have L3 := Lib.hid (show (iv [k, n', m, c])[3]? = some (.int .i64 c) from rfl)
  by_cases hc : c < 0
  · have hcb : decide (c < 0) = true := decide_eq_true hc
    have HN := Lib.hid (show rdT d b = none from rdT_none_c HX.out (.inl hc))
    clear hc
    go_wp2_with (first
      | ((with_reducible refine' wpList_len_rd (.tmp 23) 22 rfl ?_ Tryd.underlying22 ?_ rl4 ?_); exact rfl; exact rfl; simp only [Act.put, List.setIfInBounds_toArray, List.set_cons_succ, List.set_cons_zero]) | ((with_reducible refine' wpList_at1_rd (.tmp 28) (.const (.int .i64 3)) 22 rfl ?_ Tryd.underlying22 sz_int ?_ rl4 (3) ?_ ?_ ?_); exact rfl; exact rfl; (show (_ : Int) = _; omega); omega; simp only [Act.put, List.setIfInBounds_toArray, List.set_cons_succ, List.set_cons_zero]) | ((with_reducible refine' wpList_load_rd (.tmp 29) 3 rfl ?_ ld_int ?_ rl4 (L3.out) ?_); exact rfl; exact rfl; simp only [Act.put, List.setIfInBounds_toArray, List.set_cons_succ, List.set_cons_zero])
      | ((with_reducible refine' wpList_of_run (o := ⟨_, .build _ _, _, _, _, _⟩) (v := .agg #[.int .i64 0, .int .i64 0, .int .i64 0, .slice none 0 0]) (w' := w2) ?_ ?_ ?_); exact rfl; kernel_rfl; simp only [Act.put, List.setIfInBounds_toArray, List.set_cons_succ, List.set_cons_zero])
      | ((with_reducible refine' wpList_store_blk (cs := nodz) 25 (.tmp 4) (.tmp 45) rfl ?_ ?_ ?_ kR2 sz_node ?_ ?_ ?_ ?_); exact rfl; exact rfl; exact rfl; exact rfl; exact rfl; exact node_ones rfl; intro w4 k4 hO4 hz4; simp only [Act.put]))
    ((try simp only [Exit.inBlock, Exit.then]); refine bodyPost_ret (results_cell_row_tmp2 rfl _ _ _ _ _ _ _ rfl k4 Tryd.underlying25 rfl (by rw [sz_node]; rfl)) rfl ?_)
    rw [HN.out]
    exact ⟨nodz, 0, false, rfl, ⟨rfl, rfl, rfl⟩, hb2.trans (hO4.below hwR hb2.size)⟩
  have hcb : decide (c < 0) = false := decide_eq_false hc
  by_cases hcn : (n : Int) < c
  · have hnb : decide ((n : Int) < c) = true := decide_eq_true hcn
    have HN := Lib.hid (show rdT d b = none from rdT_none_c HX.out (.inr (by rw [HBL.out]; exact hcn)))
    clear hc hcn
    go_wp2_with (first
      | ((with_reducible refine' wpList_len_rd (.tmp 23) 22 rfl ?_ Tryd.underlying22 ?_ rl4 ?_); exact rfl; exact rfl; simp only [Act.put, List.setIfInBounds_toArray, List.set_cons_succ, List.set_cons_zero]) | ((with_reducible refine' wpList_at1_rd (.tmp 28) (.const (.int .i64 3)) 22 rfl ?_ Tryd.underlying22 sz_int ?_ rl4 (3) ?_ ?_ ?_); exact rfl; exact rfl; (show (_ : Int) = _; omega); omega; simp only [Act.put, List.setIfInBounds_toArray, List.set_cons_succ, List.set_cons_zero]) | ((with_reducible refine' wpList_load_rd (.tmp 29) 3 rfl ?_ ld_int ?_ rl4 (L3.out) ?_); exact rfl; exact rfl; simp only [Act.put, List.setIfInBounds_toArray, List.set_cons_succ, List.set_cons_zero]) | ((with_reducible refine' wpList_at1_rd (.tmp 34) (.const (.int .i64 3)) 22 rfl ?_ Tryd.underlying22 sz_int ?_ rl4 (3) ?_ ?_ ?_); exact rfl; exact rfl; (show (_ : Int) = _; omega); omega; simp only [Act.put, List.setIfInBounds_toArray, List.set_cons_succ, List.set_cons_zero]) | ((with_reducible refine' wpList_load_rd (.tmp 35) 3 rfl ?_ ld_int ?_ rl4 (L3.out) ?_); exact rfl; exact rfl; simp only [Act.put, List.setIfInBounds_toArray, List.set_cons_succ, List.set_cons_zero]) | ((with_reducible refine' wpList_len_rd (.tmp 37) 49 rfl ?_ Tryd.underlying49 ?_ hv2 ?_); exact rfl; exact rfl; simp only [Act.put, List.setIfInBounds_toArray, List.set_cons_succ, List.set_cons_zero])
      | ((with_reducible refine' wpList_of_run (o := ⟨_, .build _ _, _, _, _, _⟩) (v := .agg #[.int .i64 0, .int .i64 0, .int .i64 0, .slice none 0 0]) (w' := w2) ?_ ?_ ?_); exact rfl; kernel_rfl; simp only [Act.put, List.setIfInBounds_toArray, List.set_cons_succ, List.set_cons_zero])
      | ((with_reducible refine' wpList_store_blk (cs := nodz) 25 (.tmp 4) (.tmp 45) rfl ?_ ?_ ?_ kR2 sz_node ?_ ?_ ?_ ?_); exact rfl; exact rfl; exact rfl; exact rfl; exact rfl; exact node_ones rfl; intro w4 k4 hO4 hz4; simp only [Act.put]))
    ((try simp only [Exit.inBlock, Exit.then]); refine bodyPost_ret (results_cell_row_tmp2 rfl _ _ _ _ _ _ _ rfl k4 Tryd.underlying25 rfl (by rw [sz_node]; rfl)) rfl ?_)
    rw [HN.out]
    exact ⟨nodz, 0, false, rfl, ⟨rfl, rfl, rfl⟩, hb2.trans (hO4.below hwR hb2.size)⟩
  have hnb : decide ((n : Int) < c) = false := decide_eq_false hcn
  by_cases hd0 : D = 0
  · have hdb : (D == 0) = true := by rw [beq_iff_eq]; exact hd0
    have hdq : decide (D = 0) = true := decide_eq_true hd0
    have HN := Lib.hid (show rdT d b = none by rw [show d = 0 by have := HDD.out; omega, rdT])
    clear hd0 hc hcn
    go_wp2_with (first
      | ((with_reducible refine' wpList_len_rd (.tmp 23) 22 rfl ?_ Tryd.underlying22 ?_ rl4 ?_); exact rfl; exact rfl; simp only [Act.put, List.setIfInBounds_toArray, List.set_cons_succ, List.set_cons_zero]) | ((with_reducible refine' wpList_at1_rd (.tmp 28) (.const (.int .i64 3)) 22 rfl ?_ Tryd.underlying22 sz_int ?_ rl4 (3) ?_ ?_ ?_); exact rfl; exact rfl; (show (_ : Int) = _; omega); omega; simp only [Act.put, List.setIfInBounds_toArray, List.set_cons_succ, List.set_cons_zero]) | ((with_reducible refine' wpList_load_rd (.tmp 29) 3 rfl ?_ ld_int ?_ rl4 (L3.out) ?_); exact rfl; exact rfl; simp only [Act.put, List.setIfInBounds_toArray, List.set_cons_succ, List.set_cons_zero]) | ((with_reducible refine' wpList_at1_rd (.tmp 34) (.const (.int .i64 3)) 22 rfl ?_ Tryd.underlying22 sz_int ?_ rl4 (3) ?_ ?_ ?_); exact rfl; exact rfl; (show (_ : Int) = _; omega); omega; simp only [Act.put, List.setIfInBounds_toArray, List.set_cons_succ, List.set_cons_zero]) | ((with_reducible refine' wpList_load_rd (.tmp 35) 3 rfl ?_ ld_int ?_ rl4 (L3.out) ?_); exact rfl; exact rfl; simp only [Act.put, List.setIfInBounds_toArray, List.set_cons_succ, List.set_cons_zero]) | ((with_reducible refine' wpList_len_rd (.tmp 37) 49 rfl ?_ Tryd.underlying49 ?_ hv2 ?_); exact rfl; exact rfl; simp only [Act.put, List.setIfInBounds_toArray, List.set_cons_succ, List.set_cons_zero])
      | ((with_reducible refine' wpList_of_run (o := ⟨_, .build _ _, _, _, _, _⟩) (v := .agg #[.int .i64 0, .int .i64 0, .int .i64 0, .slice none 0 0]) (w' := w2) ?_ ?_ ?_); exact rfl; kernel_rfl; simp only [Act.put, List.setIfInBounds_toArray, List.set_cons_succ, List.set_cons_zero])
      | ((with_reducible refine' wpList_store_blk (cs := nodz) 25 (.tmp 4) (.tmp 45) rfl ?_ ?_ ?_ kR2 sz_node ?_ ?_ ?_ ?_); exact rfl; exact rfl; exact rfl; exact rfl; exact rfl; exact node_ones rfl; intro w4 k4 hO4 hz4; simp only [Act.put]))
    ((try simp only [Exit.inBlock, Exit.then]); refine bodyPost_ret (results_cell_row_tmp2 rfl _ _ _ _ _ _ _ rfl k4 Tryd.underlying25 rfl (by rw [sz_node]; rfl)) rfl ?_)
    rw [HN.out]
    exact ⟨nodz, 0, false, rfl, ⟨rfl, rfl, rfl⟩, hb2.trans (hO4.below hwR hb2.size)⟩
  have hdb : (D == 0) = false := by rw [beq_eq_false_iff_ne]; exact hd0
  have hdq : decide (D = 0) = false := decide_eq_false hd0
  obtain ⟨d, rfl⟩ : ∃ d', d = d' + 1 := ⟨d - 1, by have := HDD.out; omega⟩
  have hdb1 : 1 ≤ D := by omega
  have IHd := Lib.hid (IH.out d rfl)
  have DM := Lib.hid (show D - 1 = (d : Int) by have := HDD.out; omega)
  have hc0 : 0 ≤ c := by omega
  go_upto_region 4 with (first | ((with_reducible refine' wpList_len_rd (.tmp 23) 22 rfl ?_ Tryd.underlying22 ?_ rl4 ?_); exact rfl; exact rfl; simp only [Act.put, List.setIfInBounds_toArray, List.set_cons_succ, List.set_cons_zero]) | ((with_reducible refine' wpList_at1_rd (.tmp 28) (.const (.int .i64 3)) 22 rfl ?_ Tryd.underlying22 sz_int ?_ rl4 (3) ?_ ?_ ?_); exact rfl; exact rfl; (show (_ : Int) = _; omega); omega; simp only [Act.put, List.setIfInBounds_toArray, List.set_cons_succ, List.set_cons_zero]) | ((with_reducible refine' wpList_load_rd (.tmp 29) 3 rfl ?_ ld_int ?_ rl4 (L3.out) ?_); exact rfl; exact rfl; simp only [Act.put, List.setIfInBounds_toArray, List.set_cons_succ, List.set_cons_zero]) | ((with_reducible refine' wpList_at1_rd (.tmp 34) (.const (.int .i64 3)) 22 rfl ?_ Tryd.underlying22 sz_int ?_ rl4 (3) ?_ ?_ ?_); exact rfl; exact rfl; (show (_ : Int) = _; omega); omega; simp only [Act.put, List.setIfInBounds_toArray, List.set_cons_succ, List.set_cons_zero]) | ((with_reducible refine' wpList_load_rd (.tmp 35) 3 rfl ?_ ld_int ?_ rl4 (L3.out) ?_); exact rfl; exact rfl; simp only [Act.put, List.setIfInBounds_toArray, List.set_cons_succ, List.set_cons_zero]) | ((with_reducible refine' wpList_len_rd (.tmp 37) 49 rfl ?_ Tryd.underlying49 ?_ hv2 ?_); exact rfl; exact rfl; simp only [Act.put, List.setIfInBounds_toArray, List.set_cons_succ, List.set_cons_zero]))
  have hd : Below w2.heap.size w2 w2.drew := (Below.refl _ _).drew
  (refine wp_region_plan (fun w' => Below w2.heap.size w2 w') (.f 0 (.f 1 (.f 2 (.f 3 (.f 4 (.f 5 (.f 6 (.f 7 (.f 8 (.f 9 (.o 10 .tail))))))))))) 11 (by kernel_rfl) (by kernel_rfl) (hd) ?_)
  (repeat (refine wpPlan_f rfl ?_; (first | ((with_reducible refine' wpQuiet_at1_rd (.tmp 46) (.const (.int .i64 0)) 22 rfl ?_ Tryd.underlying22 sz_int ?_ rl4 (0) ?_ ?_ ?_); exact rfl; exact rfl; (show (_ : Int) = _; omega); omega; simp only [Act.put, List.setIfInBounds_toArray, List.set_cons_succ, List.set_cons_zero]) | ((with_reducible refine' wpQuietC_load_rd (cov_below _) (.tmp 47) 3 rfl ?_ ld_int ?_ rl4 (L0.out) ?_); exact rfl; exact rfl; simp only [Act.put, List.setIfInBounds_toArray, List.set_cons_succ, List.set_cons_zero]) | ((with_reducible refine' wpQuiet_at1_rd (.tmp 49) (.const (.int .i64 1)) 22 rfl ?_ Tryd.underlying22 sz_int ?_ rl4 (1) ?_ ?_ ?_); exact rfl; exact rfl; (show (_ : Int) = _; omega); omega; simp only [Act.put, List.setIfInBounds_toArray, List.set_cons_succ, List.set_cons_zero]) | ((with_reducible refine' wpQuietC_load_rd (cov_below _) (.tmp 50) 3 rfl ?_ ld_int ?_ rl4 (L1.out) ?_); exact rfl; exact rfl; simp only [Act.put, List.setIfInBounds_toArray, List.set_cons_succ, List.set_cons_zero]) | ((with_reducible refine' wpQuiet_at1_rd (.tmp 52) (.const (.int .i64 2)) 22 rfl ?_ Tryd.underlying22 sz_int ?_ rl4 (2) ?_ ?_ ?_); exact rfl; exact rfl; (show (_ : Int) = _; omega); omega; simp only [Act.put, List.setIfInBounds_toArray, List.set_cons_succ, List.set_cons_zero]) | ((with_reducible refine' wpQuietC_load_rd (cov_below _) (.tmp 53) 3 rfl ?_ ld_int ?_ rl4 (L2.out) ?_); exact rfl; exact rfl; simp only [Act.put, List.setIfInBounds_toArray, List.set_cons_succ, List.set_cons_zero]) | go_big_quiet_step (fail) | (go_big_quiet_want; go_big_quiet_op; refine ⟨_, fun _ _ => rfl, ?_⟩; go_big_quiet_on)); refine wpQuiet_nil ?_))
  (repeat (refine wpPlan_f rfl ?_; (first | ((with_reducible refine' wpQuiet_of_run (v := .agg #[.int .i64 k, .int .i64 n', .int .i64 m, .slice none 0 0]) ?_ ?_ ?_); exact rfl; (intro w _; kernel_rfl); simp only [Act.put, List.setIfInBounds_toArray, List.set_cons_succ, List.set_cons_zero]) | go_big_quiet_step (fail) | (go_big_quiet_want; go_big_quiet_op; refine ⟨_, fun _ _ => rfl, ?_⟩; go_big_quiet_on)); refine wpQuiet_nil ?_))
  refine wpPlan_o rfl ?_
  go_wp2_with (((with_reducible refine' wpList_alloc_blk (cs := nodz) 25 rfl ?_ zr_node ?_ ?_); exact rfl; exact nodz_cells; intro w3 k3 hN3 hz3; simp only [Act.put, List.setIfInBounds_toArray, List.set_cons_succ, List.set_cons_zero]))
  obtain ⟨A, hA⟩ : ∃ A, w2.drew.heap.size = A := ⟨_, rfl⟩
  have hc3 : Below w2.heap.size w2 w3 := hd.trans hN3
  refine ⟨rfl, hc3, ?_⟩
  refine wpPlan_tail ?_
  simp only [List.drop_succ_cons, List.drop_zero]
  go_wp2_with (((with_reducible refine' wpList_store_blk (cs := [.int .i64 k, .int .i64 n', .int .i64 m, .slice none 0 0]) 25 (.tmp 10) (.tmp 55) rfl ?_ ?_ ?_ k3 sz_node ?_ ?_ ?_ ?_); exact rfl; exact rfl; exact rfl; exact rfl; exact rfl; exact node_ones rfl; intro w4 k4 hO4 hz4; simp only [Act.put]))
  refine onlyN ?_
  have hA2 : w2.heap.size = A := hA
  have HA2 := Lib.hid hA2
  have k4' : Blk w4 A 25 [.int .i64 k, .int .i64 n', .int .i64 m, .slice none 0 0] := by rw [← hA]; exact k4
  have hb24 : Below w2.heap.size w2 w4 := hc3.trans (hO4.below (Nat.le_refl _) hc3.size)
  simp only [hA, hA2]
  have l4 := k4'.lt
  have hRA : R < A := by omega
  have rl5 := rl4.below hb24
  have kR4 := kR2.below hb24 l2R
  clear k3 k4 hN3 hz3 hO4 hz4 hc3 hd hA
  obtain ⟨C, rfl⟩ : ∃ C : Nat, c = (C : Int) := ⟨c.toNat, by omega⟩
  obtain ⟨hci, hau, hae⟩ := getInts_can HX.out
  have hC63 : (C : Int) ≤ 9223372036854775807 := (hci _ (by simp)).2
  have HT := Lib.hid (show rdT (d + 1) b = (rdTs (rdT d) b a0 C).map fun r => (.mk k n' m r.1, r.2) by rw [rdT_succ HX.out hc0, Int.toNat_natCast])
  have HAU := Lib.hid hau
  clear hci hae hau hc hc0 hcn
  have R0 := Lib.hid (show w4.ownsRow w4.heap.size 25 4 (.slice none 0 0) 0 [] from World.ownsRow_nil _ _ _ _)
  have T0 := Lib.hid (show IsTsX (fun b => w4.heap.size ≤ b ∧ (Value.slice none 0 0).ownBlock ≠ some b) w4 [] [] from IsTsX.nil)
  go_upto_region 6 with (first | ((with_reducible refine' wpList_at1_rd (.tmp 56) (.const (.int .i64 3)) 22 rfl ?_ Tryd.underlying22 sz_int ?_ rl5 (3) ?_ ?_ ?_); exact rfl; exact rfl; (show (_ : Int) = _; omega); omega; simp only [Act.put, List.setIfInBounds_toArray, List.set_cons_succ, List.set_cons_zero]) | ((with_reducible refine' wpList_load_rd (.tmp 57) 3 rfl ?_ ld_int ?_ rl5 (L3.out) ?_); exact rfl; exact rfl; simp only [Act.put, List.setIfInBounds_toArray, List.set_cons_succ, List.set_cons_zero]))
  go_loopw [8, 59] (fun a i wr => ∃ (j a' : Nat) (ts : List Tree) (xs : List Value) (vk : Value), j ≤ C ∧ i = .int .i64 (j : Int) ∧ a = .int .i64 (a' : Int) ∧ Hid (rdTs (rdT d) b a0 j = some (ts, a')) ∧ Blk wr A 25 [.int .i64 k, .int .i64 n', .int .i64 m, vk] ∧
    Hid (wr.ownsRow w4.heap.size 25 4 vk j xs) ∧ Hid (IsTsX (fun b => w4.heap.size ≤ b ∧ vk.ownBlock ≠ some b) wr ts xs) ∧ Below w2.heap.size w2 wr ∧ w4.heap.size ≤ wr.heap.size) (fun _ i _ => C - (intOf i).toNat)
  case atStart => exact ⟨0, a0, [], [], _, Nat.zero_le _, rfl, rfl, Lib.hid rfl, k4', R0, T0, hb24, Nat.le_refl _⟩
  case round =>
    clear R0 T0 k4' kR4 rl5
    obtain ⟨j, a', ts, xs, vk, hj, rfl, rfl, HJ, kA, HO, HI, hbj, hsz⟩ := hrel
    obtain ⟨wo, rfl⟩ : ∃ wo : World, wo = wr := ⟨_, rfl⟩
    have rlj := rl4.below hbj
    have hvj := hv2.below hbj
    have kRj := kR2.below hbj l2R
    have lA := kA.lt
    have hbw := hb2.trans (hbj.mono hb2.size)
    obtain ⟨_, _, _, _, g5, g6, g7⟩ := rdTs_can (rdT_can d) HAU.out HJ.out
    rw [HBL.out] at g6
    by_cases hlt : j < C
    · have LJ : decide ((j : Int) < (C : Int)) = true := by rw [decide_eq_true_eq]; omega
      have IHc := Lib.hid (fun v5 (h : Rd wo 1 v5 (n - a') (bv (b.drop a'))) => IHd.out (D - 1) (b.drop a') v5 (n - a') wo DM.out (by omega) h (by omega))
      cases hr : rdT d (b.drop a') with
      | none =>
        have HN := Lib.hid (show rdT (d + 1) b = none by rw [HT.out, rdTs_none (rdTs_fail HJ.out hr) C (by omega)]; rfl)
        have AL := Lib.hid (show ([.int .i64 k, .int .i64 n', .int .i64 m, vk] : List Value).length = 4 from rfl)
        have VO := Lib.hid (own_one HO.out)
        rw [hr] at IHc
        clear hr
        go_wp2_with (first
          | ((with_reducible refine' wpList_from_b (.tmp 62) (.tmp 63) 49 rfl ?_ Tryd.underlying49 sz_u8 ?_ hvj (a') ?_ ?_ ?_); exact rfl; exact rfl; (show (_ : Int) = _; omega); omega; intro v5 hv5; simp only [Act.put, List.setIfInBounds_toArray, List.set_cons_succ, List.set_cons_zero])
          | ((go_at_call 64; (with_reducible refine (IHc.out v5 hv5).mono ?_); rintro e w' ⟨cs, u, ok, rfl, ⟨rfl, rfl, rfl⟩, hN5⟩))
          | (((with_reducible refine' wpList_alloc_blk (cs := nodz) 25 rfl ?_ zr_node ?_ ?_); exact rfl; exact nodz_cells; intro w6 k6 hN6 hz6; simp only [Act.put, List.setIfInBounds_toArray, List.set_cons_succ, List.set_cons_zero]))
          | (((with_reducible refine' wpList_store_blk (cs := nodz) 25 (.tmp 11) (.tmp 68) rfl ?_ ?_ ?_ k6 sz_node ?_ ?_ ?_ ?_); exact rfl; exact rfl; exact rfl; exact rfl; exact rfl; exact node_ones rfl; intro w7 k7 hO7 hz7; simp only [Act.put]); have hb57 : Below wo.heap.size wo w7 := (hN5.trans (hN6.mono hN5.size)).trans (hO7.below hN5.size (Nat.le_trans hN5.size hN6.size)); have kR7 := kRj.below hb57 (by omega))
          | ((with_reducible refine' wpList_of_run (o := ⟨_, .build _ _, _, _, _, _⟩) (v := .agg #[.int .i64 0, .int .i64 0, .int .i64 0, .slice none 0 0]) (w' := w7) ?_ ?_ ?_); exact rfl; kernel_rfl; simp only [Act.put, List.setIfInBounds_toArray, List.set_cons_succ, List.set_cons_zero])
          | ((with_reducible refine' wpList_store_blk (cs := nodz) 25 (.tmp 4) (.tmp 73) rfl ?_ ?_ ?_ kR7 sz_node ?_ ?_ ?_ ?_); exact rfl; exact rfl; exact rfl; exact rfl; exact rfl; exact node_ones rfl; intro w8 k8 hO8 hz8; simp only [Act.put]))
        ((try simp only [Exit.inBlock, Exit.then]); refine bodyPost_ret (results_cell_row_tmp2 rfl _ _ _ _ _ _ _ rfl k8 Tryd.underlying25 rfl (by rw [sz_node]; rfl)) rfl ?_)
        rw [HN.out]
        have hb7 := hbw.trans (hb57.mono hbw.size)
        exact ⟨nodz, 0, false, rfl, ⟨rfl, rfl, rfl⟩, hb7.trans (hO8.below hwR hb7.size)⟩
      | some r =>
        obtain ⟨t, u⟩ := r
        obtain ⟨_, _, _, _, f5, f6⟩ := rdT_can d _ _ _ hr
        rw [List.length_drop, HBL.out] at f6
        have HS := Lib.hid (rdTs_some HJ.out hr)
        have VO := Lib.hid (own_one HO.out)
        have V3 := Lib.hid (show ([.int .i64 k, .int .i64 n', .int .i64 m, vk] : List Value)[3]? = some vk from rfl)
        have UL : decide ((u : Int) < 0) = false := decide_eq_false (by omega)
        have hA4 : A < w4.heap.size := l4
        rw [hr] at IHc
        clear hr
        go_wp2_with (first
          | ((with_reducible refine' wpList_from_b (.tmp 62) (.tmp 63) 49 rfl ?_ Tryd.underlying49 sz_u8 ?_ hvj (a') ?_ ?_ ?_); exact rfl; exact rfl; (show (_ : Int) = _; omega); omega; intro v5 hv5; simp only [Act.put, List.setIfInBounds_toArray, List.set_cons_succ, List.set_cons_zero])
          | ((go_at_call 64; (with_reducible refine (IHc.out v5 hv5).mono ?_); rintro e w' ⟨cs, uu, ok, rfl, ⟨h1, rfl, rfl⟩, hN5⟩); have H1 := Lib.hid h1; have CL := Lib.hid h1.len; have CO := Lib.hid h1.isT.ones; clear h1)
          | (((with_reducible refine' wpList_alloc_blk (cs := nodz) 25 rfl ?_ zr_node ?_ ?_); exact rfl; exact nodz_cells; intro w6 k6 hN6 hz6; simp only [Act.put, List.setIfInBounds_toArray, List.set_cons_succ, List.set_cons_zero]))
          | (((with_reducible refine' wpList_store_blk (cs := cs) 25 (.tmp 11) (.tmp 68) rfl ?_ ?_ ?_ k6 sz_node ?_ ?_ ?_ ?_); exact rfl; exact rfl; exact rfl; exact CL.out; exact rfl; exact CO.out; intro w7 k7 hO7 hz7; simp only [Act.put]); have hb57 : Below w'.heap.size w' w7 := hN6.trans (hO7.below (Nat.le_refl _) hN6.size); have hb47 : Below wo.heap.size wo w7 := hN5.trans (hb57.mono hN5.size); have kA7 := kA.below hb47 lA)
          | ((with_reducible refine' wpList_field_blk (j := 3) (.tmp 10) 25 3 rfl ?_ fo_node_3 ?_ rfl ?_); exact rfl; exact rfl; simp only [Act.put, List.setIfInBounds_toArray, List.set_cons_succ, List.set_cons_zero]) | ((with_reducible refine' wpList_load_blk (.tmp 74) 23 rfl ?_ ld_nds ?_ kA7 (V3.out) ?_); exact rfl; exact rfl; simp only [Act.put, List.setIfInBounds_toArray, List.set_cons_succ, List.set_cons_zero]) | ((with_reducible refine' wpList_loadst_blk (.tmp 11) 25 rfl ?_ Tryd.underlying25 ?_ sz_node ?_ k7 ?_ ?_ ?_); exact rfl; exact rfl; exact rfl; exact CL.out; decide; simp only [Act.put, List.setIfInBounds_toArray, List.set_cons_succ, List.set_cons_zero])
          | (((with_reducible refine' wpList_build_sts (css := [cs]) rfl ?_ Tryd.underlying23 inf_node ?_ ?_ ?_ ?_ ?_ ?_); exact rfl; exact rfl; (first | omega | decide); (first | omega | decide); exact rfl; (intro c hc; simp at hc; subst hc; exact CL.out); intro w8 k8 hN8 hz8; simp only [Act.put, List.setIfInBounds_toArray, List.set_cons_succ, List.set_cons_zero]); rw [flat1] at k8; have r8 := k8.rdall 1 4 CL.out (by unfold maxLen; omega); have own8 := own_below (own_below HO.out hb47) hN8; have hb48 := hb47.trans (hN8.mono hb47.size); have s8 : w4.heap.size ≤ w8.heap.size := Nat.le_trans hsz hb48.size)
          | (((with_reducible refine' wpList_append_at (.tmp 75) (.tmp 77) 23 rfl ?_ Tryd.underlying23 inf_node ?_ ?_ ?_ own8 ?_ r8 CO.out ?_ ?_ s8 ?_); exact rfl; exact rfl; omega; exact rfl; exact rfl; (first | omega | (unfold maxLen; omega)); omega; intro v9 w9 o9 hg9 hst9; simp only [Act.put, List.setIfInBounds_toArray, List.set_cons_succ, List.set_cons_zero]); have kA9 := (kA7.below hN8 kA7.lt).grown hg9 (fun e => own_ne own8 hA4 e.symm))
          | ((with_reducible refine' wpList_set_blk (u := v9) 23 (.tmp 79) (.tmp 78) rfl ?_ sz_nds ?_ ?_ kA9 (len4_lt) ?_ ?_); exact rfl; exact rfl; exact rfl; exact (own_one o9); intro w10 k10 hO10 hz10; simp only [Act.put, List.setIfInBounds_toArray, List.set_cons_succ, List.set_cons_zero]))
        have k10' : Blk w10 A 25 [.int .i64 k, .int .i64 n', .int .i64 m, v9] := k10
        have o10 := Lib.hid (Lb.own_only o9 hO10 (own_ne o9 hA4))
        have hI10 := Lib.hid ((kids_next (X := fun b => w4.heap.size ≤ b) HO.out HI.out (gb_below (b := some A) hN5) H1.out (hb57.trans (hN8.mono hb57.size)) hg9 hst9 (fun b h => by omega) (fun b h => by omega)).only hO10 (fun b h => by have := h.1; omega))
        have hb9 : Below w2.heap.size w2 w9 := (hbj.trans (hb48.mono hbj.size)).grown hg9 ((hbj.trans (hb48.mono hbj.size)).size) (fun b hb => by have := (own8.lt b hb).1; have := HA2.out; omega)
        have hb10 : Below w2.heap.size w2 w10 := hb9.trans (hO10.below (by have := HA2.out; omega) hb9.size)
        have s10 : w4.heap.size ≤ w10.heap.size := Nat.le_trans s8 (Nat.le_trans hg9.size hO10.size)
        clear kA9 o9 hg9 hst9 hO10 hz10 k10 own8 k8 hN8 hz8 r8 k7 k6 hN6 hz6 hO7 hz7 hN5 H1 hb57 hb47 hb48 hb9 hv5
        go_roundw
        case rel => (first | exact ⟨j + 1, a' + u, ts ++ [t], xs ++ cs, v9, by omega, by go_num, by go_num, HS, k10', o10, hI10, hb10, s10⟩ | ((repeat apply Exists.intro); exact ⟨⟨j + 1, a' + u, ts ++ [t], xs ++ cs, v9, by omega, by go_num, by go_num, HS, k10', o10, hI10, hb10, s10⟩, rfl⟩))
        case measure => simp [intOf]; omega
    · obtain rfl : j = C := by omega
      have LJ : decide ((j : Int) < (j : Int)) = false := by simp
      have HN := Lib.hid (show rdT (d + 1) b = some (.mk k n' m ts, a') by rw [HT.out, HJ.out]; rfl)
      have AL := Lib.hid (show ([.int .i64 k, .int .i64 n', .int .i64 m, vk] : List Value).length = 4 from rfl)
      have VO := Lib.hid (own_one HO.out)
      go_wp2_with (first
        | ((with_reducible refine' wpList_loadst_blk (.tmp 10) 25 rfl ?_ Tryd.underlying25 ?_ sz_node ?_ kA ?_ ?_ ?_); exact rfl; exact rfl; exact rfl; exact AL.out; decide; simp only [Act.put, List.setIfInBounds_toArray, List.set_cons_succ, List.set_cons_zero])
        | ((with_reducible refine' wpList_store_blk (cs := [.int .i64 k, .int .i64 n', .int .i64 m, vk]) 25 (.tmp 4) (.tmp 84) rfl ?_ ?_ ?_ kRj sz_node ?_ ?_ ?_ ?_); exact rfl; exact rfl; exact rfl; exact rfl; exact rfl; exact node_ones VO.out; intro w8 k8 hO8 hz8; simp only [Act.put]))
      ((try simp only [Exit.inBlock, Exit.then]); refine bodyPost_ret (results_cell_row_tmp2 rfl _ _ _ _ _ _ _ rfl k8 Tryd.underlying25 rfl (by rw [sz_node]; rfl)) rfl ?_)
      rw [HN.out]
      have hR4 : R < w4.heap.size := by omega
      have hw4 : w.heap.size ≤ w4.heap.size := by omega
      have o8 := Lb.own_only HO.out hO8 (own_ne HO.out hR4)
      refine ⟨_, _, true, rfl, ⟨IsTX.node (xs := xs) (by rw [g7]; exact Rd.of_own o8) (fun b hb _ => by have := (o8.lt b hb).1; omega) ((HI.out.only hO8 (fun b h => by have := h.1; omega)).mono fun b h => by have := h.1; omega), rfl, rfl⟩, hbw.trans (hO8.below hwR hbw.size)⟩
theorem decode_any (d : Nat) : DecC d := by
  induction d with
  | zero => exact decode_step 0 fun d' h => by omega
  | succ d ih => exact decode_step (d + 1) fun d' h => Nat.succ.inj h ▸ ih
end Go.Proofs.YtdlhkhnoigbhjaaDoor.Wi
namespace Go.Proofs.YtdlhkhnoigbhjaaDoor.Wi
open Go Go.RowKit Pu Lb
set_option linter.unusedSimpArgs false
set_option linter.unusedVariables false
/-- what Decode gives -/
def DecE (w w' : World) (o : Option (Tree × Nat)) (cs : List Value) (u e : Int) : Prop :=
  match o with
  | none => cs = nodz ∧ u = 0 ∧ e = 2
  | some (t, k) => IsTX (fun b => w.heap.size ≤ b) w' t cs ∧ u = (k : Int) ∧ e = 0
theorem DecR.len {w w' : World} {o : Option (Tree × Nat)} {cs : List Value} {u : Int} {ok : Bool} (h : DecR w w' o cs u ok) : cs.length = 4 := by
  cases o with
  | none => rw [h.1]; rfl
  | some r => exact h.1.len
theorem DecR.ones {w w' : World} {o : Option (Tree × Nat)} {cs : List Value} {u : Int} {ok : Bool} (h : DecR w w' o cs u ok) : ∀ x ∈ cs, x.oneCell' = true := by
  cases o with
  | none => rw [h.1]; exact node_ones rfl
  | some r => exact h.1.isT.ones
theorem dec24 (v : Value) (n : Nat) (b : List UInt8) (w : World) (hv : Rd w 1 v n (bv b)) (hn : n ≤ 1099511627776) :
    Calls Tryd.prog 64 #[v, .int .i64 24] w fun e w' => ∃ cs u ok, e = .returned (.tuple #[.agg cs.toArray, .int .i64 u, .bool ok]) ∧ DecR w w' (rdT 24 b) cs u ok ∧ Below w.heap.size w w' :=
  decode_any 24 24 b v n w rfl (by omega) hv hn
theorem rd24 (v : Value) (n : Nat) (b : List UInt8) (w : World) (hv : Rd w 1 v n (bv b)) (hn : n ≤ 1099511627776) :
    Calls Tryd.prog 65 #[v, .int .i64 24] w fun e w' => ∃ cs u, e = .returned (.tuple #[.agg cs.toArray, .int .i64 u]) ∧ ReadR w w' (rdT 24 b) cs u ∧ Below w.heap.size w w' :=
  read_any 24 24 b v n w rfl (by omega) hv hn
set_option maxRecDepth 100000 in
theorem Decode_any (v : Value) (n : Nat) (b : List UInt8) (w : World) (hv : Rd w 1 v n (bv b)) (hn : n ≤ 1099511627776) :
    Calls Tryd.prog 41 #[v] w fun e w' => ∃ cs u er, e = .returned (.tuple #[.agg cs.toArray, .int .i64 u, .int .i64 er]) ∧ DecE w w' (rdT 24 b) cs u er ∧ Below w.heap.size w w' := by
  go_enter Tryd.func41, Tryd.ntmps41
  go_upto_region 2 with (first
    | (((with_reducible refine' wpList_alloc_blk (cs := nodz) 25 rfl ?_ zr_node ?_ ?_); exact rfl; exact nodz_cells; intro w1 kR hN1 hz1; simp only [Act.put, List.setIfInBounds_toArray, List.set_cons_succ, List.set_cons_zero]); have hv1 := hv.below hN1; have lR := kR.lt)
    | ((go_at_call 64; (with_reducible refine (dec24 _ _ _ _ hv1 hn).mono ?_); rintro e w' ⟨cs, u0, ok, rfl, hR, hN2⟩); have CL := Lib.hid hR.len; have CO := Lib.hid hR.ones; have kR2 := kR.below hN2 lR)
    | (((with_reducible refine' wpList_alloc_blk (cs := nodz) 25 rfl ?_ zr_node ?_ ?_); exact rfl; exact nodz_cells; intro w3 k3 hN3 hz3; simp only [Act.put, List.setIfInBounds_toArray, List.set_cons_succ, List.set_cons_zero]); have kR3 := kR2.below hN3 kR2.lt)
    | (((with_reducible refine' wpList_store_blk (cs := cs) 25 (.tmp 5) (.tmp 11) rfl ?_ ?_ ?_ k3 sz_node ?_ ?_ ?_ ?_); exact rfl; exact rfl; exact rfl; exact CL.out; exact rfl; exact CO.out; intro w4 k4 hO4 hz4; simp only [Act.put])))
  have hb2 := hN1.trans (hN2.mono hN1.size)
  have hb24 : Below w'.heap.size w' w4 := hN3.trans (hO4.below (Nat.le_refl _) hN3.size)
  have hb4 := hb2.trans (hb24.mono hb2.size)
  have lR2 : w.heap.size < w'.heap.size := kR2.lt
  have kR4 := kR2.below hb24 lR2
  cases hr : rdT 24 b with
  | none =>
    rw [hr] at hR
    obtain ⟨rfl, rfl, rfl⟩ := hR
    go_wp2_with (first
      | ((with_reducible refine' wpList_of_run (o := ⟨_, .build _ _, _, _, _, _⟩) (v := .agg #[.int .i64 0, .int .i64 0, .int .i64 0, .slice none 0 0]) (w' := w4) ?_ ?_ ?_); exact rfl; kernel_rfl; simp only [Act.put, List.setIfInBounds_toArray, List.set_cons_succ, List.set_cons_zero])
      | ((with_reducible refine' wpList_store_blk (cs := nodz) 25 (.tmp 2) (.tmp 16) rfl ?_ ?_ ?_ kR4 sz_node ?_ ?_ ?_ ?_); exact rfl; exact rfl; exact rfl; exact rfl; exact rfl; exact node_ones rfl; intro w5 k5 hO5 hz5; simp only [Act.put]))
    ((try simp only [Exit.inBlock, Exit.then]); refine bodyPost_ret (results_cell_row_tmp2 rfl _ _ _ _ _ _ _ rfl k5 Tryd.underlying25 rfl (by rw [sz_node]; rfl)) rfl ?_)
    rw [hr]
    exact ⟨nodz, 0, 2, rfl, ⟨rfl, rfl, rfl⟩, hb4.trans (hO5.below (Nat.le_refl _) hb4.size)⟩
  | some r =>
    obtain ⟨t, u⟩ := r
    rw [hr] at hR
    obtain ⟨hT, rfl, rfl⟩ := hR
    skip
    go_wp2_with (first
      | ((with_reducible refine' wpList_loadst_blk (.tmp 5) 25 rfl ?_ Tryd.underlying25 ?_ sz_node ?_ k4 ?_ ?_ ?_); exact rfl; exact rfl; exact rfl; exact CL.out; decide; simp only [Act.put, List.setIfInBounds_toArray, List.set_cons_succ, List.set_cons_zero])
      | ((with_reducible refine' wpList_store_blk (cs := cs) 25 (.tmp 2) (.tmp 17) rfl ?_ ?_ ?_ kR4 sz_node ?_ ?_ ?_ ?_); exact rfl; exact rfl; exact rfl; exact CL.out; exact rfl; exact CO.out; intro w5 k5 hO5 hz5; simp only [Act.put]))
    ((try simp only [Exit.inBlock, Exit.then]); refine bodyPost_ret (results_cell_row_tmp2 rfl _ _ _ _ _ _ _ rfl k5 Tryd.underlying25 rfl (by rw [sz_node]; simp [CL.out])) rfl ?_)
    rw [hr]
    refine ⟨cs, _, 0, rfl, ⟨?_, rfl, rfl⟩, hb4.trans (hO5.below (Nat.le_refl _) hb4.size)⟩
    have s1 : w1.heap.size = w.heap.size + 1 := hz1
    exact ((hT.below hb24).only hO5 (fun b h => by have h2 : w1.heap.size ≤ b := h; omega)).mono fun b h => by have h2 : w1.heap.size ≤ b := h; omega
set_option maxRecDepth 100000 in
theorem refDecode_any (v : Value) (n : Nat) (b : List UInt8) (w : World) (hv : Rd w 1 v n (bv b)) (hn : n ≤ 1099511627776) :
    Calls Tryd.prog 42 #[v] w fun e w' => ∃ cs u er, e = .returned (.tuple #[.agg cs.toArray, .int .i64 u, .int .i64 er]) ∧ DecE w w' (rdT 24 b) cs u er ∧ Below w.heap.size w w' := by
  go_enter Tryd.func42, Tryd.ntmps42
  go_upto_region 2 with (first
    | (((with_reducible refine' wpList_alloc_blk (cs := nodz) 25 rfl ?_ zr_node ?_ ?_); exact rfl; exact nodz_cells; intro w1 kR hN1 hz1; simp only [Act.put, List.setIfInBounds_toArray, List.set_cons_succ, List.set_cons_zero]); have hv1 := hv.below hN1; have lR := kR.lt)
    | ((go_at_call 65; (with_reducible refine (rd24 _ _ _ _ hv1 hn).mono ?_); rintro e w' ⟨cs, u0, rfl, hR, hN2⟩); have CL := Lib.hid hR.len; have CO := Lib.hid hR.ones; have kR2 := kR.below hN2 lR)
    | (((with_reducible refine' wpList_alloc_blk (cs := nodz) 25 rfl ?_ zr_node ?_ ?_); exact rfl; exact nodz_cells; intro w3 k3 hN3 hz3; simp only [Act.put, List.setIfInBounds_toArray, List.set_cons_succ, List.set_cons_zero]); have kR3 := kR2.below hN3 kR2.lt)
    | (((with_reducible refine' wpList_store_blk (cs := cs) 25 (.tmp 5) (.tmp 10) rfl ?_ ?_ ?_ k3 sz_node ?_ ?_ ?_ ?_); exact rfl; exact rfl; exact rfl; exact CL.out; exact rfl; exact CO.out; intro w4 k4 hO4 hz4; simp only [Act.put])))
  have hb2 := hN1.trans (hN2.mono hN1.size)
  have hb24 : Below w'.heap.size w' w4 := hN3.trans (hO4.below (Nat.le_refl _) hN3.size)
  have hb4 := hb2.trans (hb24.mono hb2.size)
  have lR2 : w.heap.size < w'.heap.size := kR2.lt
  have kR4 := kR2.below hb24 lR2
  cases hr : rdT 24 b with
  | none =>
    rw [hr] at hR
    obtain ⟨_, _, rfl⟩ := hR
    go_wp2_with (first
      | ((with_reducible refine' wpList_of_run (o := ⟨_, .build _ _, _, _, _, _⟩) (v := .agg #[.int .i64 0, .int .i64 0, .int .i64 0, .slice none 0 0]) (w' := w4) ?_ ?_ ?_); exact rfl; kernel_rfl; simp only [Act.put, List.setIfInBounds_toArray, List.set_cons_succ, List.set_cons_zero])
      | ((with_reducible refine' wpList_store_blk (cs := nodz) 25 (.tmp 2) (.tmp 14) rfl ?_ ?_ ?_ kR4 sz_node ?_ ?_ ?_ ?_); exact rfl; exact rfl; exact rfl; exact rfl; exact rfl; exact node_ones rfl; intro w5 k5 hO5 hz5; simp only [Act.put]))
    ((try simp only [Exit.inBlock, Exit.then]); refine bodyPost_ret (results_cell_row_tmp2 rfl _ _ _ _ _ _ _ rfl k5 Tryd.underlying25 rfl (by rw [sz_node]; rfl)) rfl ?_)
    rw [hr]
    exact ⟨nodz, 0, 2, rfl, ⟨rfl, rfl, rfl⟩, hb4.trans (hO5.below (Nat.le_refl _) hb4.size)⟩
  | some r =>
    obtain ⟨t, u⟩ := r
    rw [hr] at hR
    obtain ⟨hT, rfl⟩ := hR
    have UL : decide ((u : Int) < 0) = false := decide_eq_false (by omega)
    go_wp2_with (first
      | ((with_reducible refine' wpList_loadst_blk (.tmp 5) 25 rfl ?_ Tryd.underlying25 ?_ sz_node ?_ k4 ?_ ?_ ?_); exact rfl; exact rfl; exact rfl; exact CL.out; decide; simp only [Act.put, List.setIfInBounds_toArray, List.set_cons_succ, List.set_cons_zero])
      | ((with_reducible refine' wpList_store_blk (cs := cs) 25 (.tmp 2) (.tmp 15) rfl ?_ ?_ ?_ kR4 sz_node ?_ ?_ ?_ ?_); exact rfl; exact rfl; exact rfl; exact CL.out; exact rfl; exact CO.out; intro w5 k5 hO5 hz5; simp only [Act.put]))
    ((try simp only [Exit.inBlock, Exit.then]); refine bodyPost_ret (results_cell_row_tmp2 rfl _ _ _ _ _ _ _ rfl k5 Tryd.underlying25 rfl (by rw [sz_node]; simp [CL.out])) rfl ?_)
    rw [hr]
    refine ⟨cs, _, 0, rfl, ⟨?_, rfl, rfl⟩, hb4.trans (hO5.below (Nat.le_refl _) hb4.size)⟩
    have s1 : w1.heap.size = w.heap.size + 1 := hz1
    exact ((hT.below hb24).only hO5 (fun b h => by have h2 : w1.heap.size ≤ b := h; omega)).mono fun b h => by have h2 : w1.heap.size ≤ b := h; omega
end Go.Proofs.YtdlhkhnoigbhjaaDoor.Wi
namespace Go.Proofs.YtdlhkhnoigbhjaaDoor.Pu
theorem tsInts_all {ts : List Tree} (h : ∀ t ∈ ts, tInts t) : tsInts ts := by
  induction ts with
  | nil => rw [tsInts]; trivial
  | cons u ts ih => rw [tsInts]; exact ⟨h u (by simp), ih fun t ht => h t (by simp [ht])⟩
theorem gkids_ints (g : GS → Tree × GS) (hg : ∀ s, tInts (g s).1) : ∀ (k : Nat) (s : GS), tsInts (gkids g k s).1
  | 0, s => by rw [gkids, tsInts]; trivial
  | k + 1, s => by
    rw [gkids]
    split
    · rw [tsInts]; exact ⟨hg s, gkids_ints g hg k (g s).2⟩
    · rw [tsInts]; trivial
theorem gtree_ints (l : List Int) : ∀ (d : Nat) (s : GS), tInts (gtree l d s).1
  | 0, s => by
    rw [gtree_eq, gsub, tInts]
    have h1 := atV_bd l ((s.1 : Nat) : Int) (most := 32) (by omega)
    have h2 := atV_bd l ((s.1 + 1 : Nat) : Int) (most := 19) (by omega)
    have h3 := atV_bd l ((s.1 + 1 + 1 : Nat) : Int) (most := 5) (by omega)
    refine ⟨by unfold I64; omega, by unfold I64; omega, by unfold I64; omega, by rw [tsInts]; trivial⟩
  | d + 1, s => by
    rw [gtree_eq, gsub, tInts]
    have h1 := atV_bd l ((s.1 : Nat) : Int) (most := 32) (by omega)
    have h2 := atV_bd l ((s.1 + 1 : Nat) : Int) (most := 19) (by omega)
    have h3 := atV_bd l ((s.1 + 1 + 1 : Nat) : Int) (most := 5) (by omega)
    exact ⟨by unfold I64; omega, by unfold I64; omega, by unfold I64; omega, gkids_ints _ (gtree_ints l d) _ _⟩
theorem gTree_ints (l : List Int) : tInts (gTree l) := gtree_ints l 5 (0, 29)
theorem deepT_ints : ∀ n, tInts (deepT n)
  | 0 => by rw [deepT, tInts]; refine ⟨by unfold I64; omega, by unfold I64; omega, by unfold I64; omega, by rw [tsInts]; trivial⟩
  | n + 1 => by rw [deepT, tInts]; refine ⟨by unfold I64; omega, by unfold I64; omega, by unfold I64; omega, by rw [tsInts, tsInts]; exact ⟨deepT_ints n, trivial⟩⟩
theorem gkids_depth (g : GS → Tree × GS) (c : Nat) (hg : ∀ s, tdepth (g s).1 ≤ c) : ∀ (k : Nat) (s : GS), tdepths (gkids g k s).1 ≤ c
  | 0, s => by rw [gkids, tdepths]; omega
  | k + 1, s => by
    rw [gkids]
    split
    · have h1 := hg s
      have h2 := gkids_depth g c hg k (g s).2
      simp only [tdepths]; omega
    · simp only [tdepths]; omega
theorem gtree_depth (l : List Int) : ∀ (d : Nat) (s : GS), tdepth (gtree l d s).1 ≤ d + 1
  | 0, s => by rw [gtree_eq, gsub, tdepth, tdepths]; omega
  | d + 1, s => by
    rw [gtree_eq, gsub, tdepth]
    have := gkids_depth (gtree l d) (d + 1) (gtree_depth l d) (atV l ((s.1 + 1 + 1 + 1 : Nat) : Int) 4).toNat (s.1 + 1 + 1 + 1 + 1, s.2 - 1)
    omega
theorem gTree_depth (l : List Int) : tdepth (gTree l) ≤ 6 := gtree_depth l 5 (0, 29)
end Go.Proofs.YtdlhkhnoigbhjaaDoor.Pu
namespace Go.Proofs.YtdlhkhnoigbhjaaDoor.Wi
open Go Go.RowKit Pu Lb
set_option linter.unusedSimpArgs false
set_option linter.unusedVariables false
set_option maxRecDepth 100000 in
theorem fewb_any (v : Value) (n : Nat) (b : List UInt8) (most : Nat) (w : World) (hv : Rd w 1 v n (bv b)) (hm : most ≤ 1000) :
    Calls Tryd.prog 40 #[v, .int .i64 (most : Int)] w fun e w' => ∃ v', e = .returned v' ∧ w'.ownsRow w.heap.size 5 1 v' (min n most) (bv (b.take most)) ∧ Below w.heap.size w w' := by
  have hnm := hv.len
  have hbl : b.length = n := by have := hv.1; rw [bv_length] at this; omega
  have HT := Lib.hid (show b.take (min n most) = b.take most by
    by_cases h : n ≤ most
    · rw [Nat.min_eq_left h, List.take_of_length_le (by omega), List.take_of_length_le (by omega)]
    · rw [Nat.min_eq_right (by omega)])
  have MN : min (n : Int) (most : Int) = ((min n most : Nat) : Int) := by omega
  have ON := World.ownsRow_nil w w.heap.size 5 1
  have BO := Lib.hid (bv_one (b.take (min n most)))
  go_enter Tryd.func40, Tryd.ntmps40
  go_wp2_with (first
    | ((with_reducible refine' wpList_len_rd (.tmp 8) 49 rfl ?_ Tryd.underlying49 ?_ hv ?_); exact rfl; exact rfl; simp only [Act.put, List.setIfInBounds_toArray, List.set_cons_succ, List.set_cons_zero])
    | ((with_reducible refine' wpList_to_b (.tmp 7) (.tmp 11) 49 rfl ?_ Tryd.underlying49 sz_u8 ?_ hv (min n most) ?_ ?_ ?_); exact rfl; exact rfl; (show (_ : Int) = _; omega); omega; intro v12 r12; simp only [Act.put, List.setIfInBounds_toArray, List.set_cons_succ, List.set_cons_zero])
    | ((with_reducible refine' wpList_append_rd (.tmp 6) (.tmp 12) 49 rfl ?_ Tryd.underlying49 inf_u8 ?_ ?_ ?_ ON ?_ r12 BO.out ?_ ?_ (Nat.le_refl _) ?_); exact rfl; exact rfl; omega; exact rfl; exact rfl; (first | omega | (unfold maxLen; omega)); omega; intro v13 w13 o13 hN13; simp only [Act.put, List.setIfInBounds_toArray, List.set_cons_succ, List.set_cons_zero]))
  all_goals
    go_ret
    rw [Nat.zero_add, List.nil_append, HT.out] at o13
    exact ⟨v13, rfl, o13, hN13⟩
end Go.Proofs.YtdlhkhnoigbhjaaDoor.Wi
