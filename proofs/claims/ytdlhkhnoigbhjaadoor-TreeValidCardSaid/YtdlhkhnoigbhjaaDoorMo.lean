/-
  Tvy, Tvz: my texts of these names, one behind the other. Conditions: those that each law names.
-/
import Derived.Test.YtdlhkhnoigbhjaaDoorMn
namespace Go.Proofs.YtdlhkhnoigbhjaaDoor.Pu
theorem tall_take_succ (want : Int) (ts : List Tree) (j : Nat) (t : Tree) (h : ts[j]? = some t) : tall want (ts.take (j + 1)) = (tall want (ts.take j) && tfits t want) := by
  have hj : j < ts.length := (List.getElem?_eq_some_iff.1 h).1
  have ht : ts[j] = t := (List.getElem?_eq_some_iff.1 h).2
  have e : ts.take (j + 1) = ts.take j ++ [t] := by rw [List.take_add_one, h]; rfl
  have H : ∀ (l : List Tree), tall want (l ++ [t]) = (tall want l && tfits t want) := by
    intro l
    induction l with
    | nil => rw [List.nil_append, tall_cons]; simp [tall, tfitsL]
    | cons u l ih => rw [List.cons_append, tall_cons, ih, tall_cons, Bool.and_assoc]
  rw [e, H]
end Go.Proofs.YtdlhkhnoigbhjaaDoor.Pu
namespace Go.Proofs.YtdlhkhnoigbhjaaDoor.Wi
open Go Go.RowKit Pu Lb
set_option linter.unusedSimpArgs false
set_option linter.unusedVariables false
theorem plain_fits (t : Tree) (cs : List Value) (w : World) (hT : IsT w t cs) :
    Calls Tryd.prog 77 #[.agg cs.toArray] w fun e w' => e = .returned (.bool (tfits t 3)) ∧ Below w.heap.size w w' := by
  cases t with
  | mk k n m ts => rw [tfits_plain]; exact plain_any k n m ts cs w hT
set_option maxRecDepth 100000 in
set_option maxHeartbeats 3200000 in
theorem type_of (k n m : Int) (ts : List Tree) (cs : List Value) (w : World) (hT : IsT w (.mk k n m ts) cs) (hl : ts.length ≤ 1000000) :
    Calls Tryd.prog 76 #[.agg cs.toArray] w fun e w' => e = .returned (.bool (tfits (.mk k n m ts) 2)) ∧ Below w.heap.size w w' := by
  have HT0 := Lib.hid hT
  rw [IsT] at hT
  obtain ⟨v, xs, rfl, hr, hts⟩ := hT
  have CO := Lib.hid (HT0.out.ones)
  have CL := Lib.hid (HT0.out.len)
  have X0 := Lib.hid (show ([.int .i64 k, .int .i64 n, .int .i64 m, v] : List Value)[0]? = some (.int .i64 k) from rfl)
  have X1 := Lib.hid (show ([.int .i64 k, .int .i64 n, .int .i64 m, v] : List Value)[1]? = some (.int .i64 n) from rfl)
  have X2 := Lib.hid (show ([.int .i64 k, .int .i64 n, .int .i64 m, v] : List Value)[2]? = some (.int .i64 m) from rfl)
  have X3 := Lib.hid (show ([.int .i64 k, .int .i64 n, .int .i64 m, v] : List Value)[3]? = some v from rfl)
  go_enter Tryd.func76, Tryd.ntmps76
  go_upto_region 1 with (((with_reducible refine' wpList_boxa (cs := [.int .i64 k, .int .i64 n, .int .i64 m, v]) 25 (.tmp 0) rfl ?_ ?_ ?_); exact rfl; exact rfl; intro w1 kA hN1 hz1; simp only [Act.put, List.setIfInBounds_toArray, List.set_cons_succ, List.set_cons_zero]))
  have hr1 := hr.below hN1
  have ht1 := Lib.hid (IsTs.below hN1 hts)
  have hT1 := HT0.out.below hN1
  clear hr hz1 hts
  by_cases k2 : k = 2
  · subst k2
    have TN := Lib.hid (tfits_arr n m ts)
    obtain ⟨L, hL⟩ : ∃ L, ts.length = L := ⟨_, rfl⟩
    rw [hL] at hr1 TN
    clear hL
    by_cases c0 : 1 ≤ n
    rotate_left
    · have e0 : decide (1 ≤ n) = false := decide_eq_false c0
      have HV := Lib.hid (show tfits (.mk 2 n m ts) 2 = false by rw [TN.out]; rw [e0]; simp)
      clear c0
      go_wp2_with (first | ((with_reducible refine' wpList_field_blk (j := 0) (.tmp 1) 25 0 rfl ?_ fo_node_0 ?_ rfl ?_); exact rfl; exact rfl; simp only [Act.put, List.setIfInBounds_toArray, List.set_cons_succ, List.set_cons_zero]) | ((with_reducible refine' wpList_field_blk (j := 1) (.tmp 1) 25 1 rfl ?_ fo_node_1 ?_ rfl ?_); exact rfl; exact rfl; simp only [Act.put, List.setIfInBounds_toArray, List.set_cons_succ, List.set_cons_zero]) | ((with_reducible refine' wpList_field_blk (j := 2) (.tmp 1) 25 2 rfl ?_ fo_node_2 ?_ rfl ?_); exact rfl; exact rfl; simp only [Act.put, List.setIfInBounds_toArray, List.set_cons_succ, List.set_cons_zero]) | ((with_reducible refine' wpList_field_blk (j := 3) (.tmp 1) 25 3 rfl ?_ fo_node_3 ?_ rfl ?_); exact rfl; exact rfl; simp only [Act.put, List.setIfInBounds_toArray, List.set_cons_succ, List.set_cons_zero]) | ((with_reducible refine' wpList_load_blk (.tmp 5) 3 rfl ?_ ld_int ?_ kA (X0.out) ?_); exact rfl; exact rfl; simp only [Act.put, List.setIfInBounds_toArray, List.set_cons_succ, List.set_cons_zero]) | ((with_reducible refine' wpList_load_blk (.tmp 8) 3 rfl ?_ ld_int ?_ kA (X1.out) ?_); exact rfl; exact rfl; simp only [Act.put, List.setIfInBounds_toArray, List.set_cons_succ, List.set_cons_zero]) | ((with_reducible refine' wpList_load_blk (.tmp 12) 3 rfl ?_ ld_int ?_ kA (X1.out) ?_); exact rfl; exact rfl; simp only [Act.put, List.setIfInBounds_toArray, List.set_cons_succ, List.set_cons_zero]) | ((with_reducible refine' wpList_load_blk (.tmp 17) 3 rfl ?_ ld_int ?_ kA (X2.out) ?_); exact rfl; exact rfl; simp only [Act.put, List.setIfInBounds_toArray, List.set_cons_succ, List.set_cons_zero]) | ((with_reducible refine' wpList_load_blk (.tmp 22) 23 rfl ?_ ld_nds ?_ kA (X3.out) ?_); exact rfl; exact rfl; simp only [Act.put, List.setIfInBounds_toArray, List.set_cons_succ, List.set_cons_zero]) | ((with_reducible refine' wpList_len_rd (.tmp 23) 23 rfl ?_ Tryd.underlying23 ?_ hr1 ?_); exact rfl; exact rfl; simp only [Act.put, List.setIfInBounds_toArray, List.set_cons_succ, List.set_cons_zero]))
      go_ret
      rw [HV.out]
      exact ⟨rfl, hN1⟩
    have e0 : decide (1 ≤ n) = true := decide_eq_true c0
    by_cases c1 : n ≤ 4
    rotate_left
    · have e1 : decide (n ≤ 4) = false := decide_eq_false c1
      have HV := Lib.hid (show tfits (.mk 2 n m ts) 2 = false by rw [TN.out]; rw [e0, e1]; simp)
      clear c0 c1
      go_wp2_with (first | ((with_reducible refine' wpList_field_blk (j := 0) (.tmp 1) 25 0 rfl ?_ fo_node_0 ?_ rfl ?_); exact rfl; exact rfl; simp only [Act.put, List.setIfInBounds_toArray, List.set_cons_succ, List.set_cons_zero]) | ((with_reducible refine' wpList_field_blk (j := 1) (.tmp 1) 25 1 rfl ?_ fo_node_1 ?_ rfl ?_); exact rfl; exact rfl; simp only [Act.put, List.setIfInBounds_toArray, List.set_cons_succ, List.set_cons_zero]) | ((with_reducible refine' wpList_field_blk (j := 2) (.tmp 1) 25 2 rfl ?_ fo_node_2 ?_ rfl ?_); exact rfl; exact rfl; simp only [Act.put, List.setIfInBounds_toArray, List.set_cons_succ, List.set_cons_zero]) | ((with_reducible refine' wpList_field_blk (j := 3) (.tmp 1) 25 3 rfl ?_ fo_node_3 ?_ rfl ?_); exact rfl; exact rfl; simp only [Act.put, List.setIfInBounds_toArray, List.set_cons_succ, List.set_cons_zero]) | ((with_reducible refine' wpList_load_blk (.tmp 5) 3 rfl ?_ ld_int ?_ kA (X0.out) ?_); exact rfl; exact rfl; simp only [Act.put, List.setIfInBounds_toArray, List.set_cons_succ, List.set_cons_zero]) | ((with_reducible refine' wpList_load_blk (.tmp 8) 3 rfl ?_ ld_int ?_ kA (X1.out) ?_); exact rfl; exact rfl; simp only [Act.put, List.setIfInBounds_toArray, List.set_cons_succ, List.set_cons_zero]) | ((with_reducible refine' wpList_load_blk (.tmp 12) 3 rfl ?_ ld_int ?_ kA (X1.out) ?_); exact rfl; exact rfl; simp only [Act.put, List.setIfInBounds_toArray, List.set_cons_succ, List.set_cons_zero]) | ((with_reducible refine' wpList_load_blk (.tmp 17) 3 rfl ?_ ld_int ?_ kA (X2.out) ?_); exact rfl; exact rfl; simp only [Act.put, List.setIfInBounds_toArray, List.set_cons_succ, List.set_cons_zero]) | ((with_reducible refine' wpList_load_blk (.tmp 22) 23 rfl ?_ ld_nds ?_ kA (X3.out) ?_); exact rfl; exact rfl; simp only [Act.put, List.setIfInBounds_toArray, List.set_cons_succ, List.set_cons_zero]) | ((with_reducible refine' wpList_len_rd (.tmp 23) 23 rfl ?_ Tryd.underlying23 ?_ hr1 ?_); exact rfl; exact rfl; simp only [Act.put, List.setIfInBounds_toArray, List.set_cons_succ, List.set_cons_zero]))
      go_ret
      rw [HV.out]
      exact ⟨rfl, hN1⟩
    have e1 : decide (n ≤ 4) = true := decide_eq_true c1
    by_cases c2 : m = 0
    rotate_left
    · have e2 : decide (m = 0) = false := decide_eq_false c2
      have f2 : ((m : Int) == 0) = false := by rw [beq_eq_false_iff_ne]; exact c2
      have HV := Lib.hid (show tfits (.mk 2 n m ts) 2 = false by rw [TN.out]; rw [e0, e1, e2]; simp)
      clear c0 c1 c2
      go_wp2_with (first | ((with_reducible refine' wpList_field_blk (j := 0) (.tmp 1) 25 0 rfl ?_ fo_node_0 ?_ rfl ?_); exact rfl; exact rfl; simp only [Act.put, List.setIfInBounds_toArray, List.set_cons_succ, List.set_cons_zero]) | ((with_reducible refine' wpList_field_blk (j := 1) (.tmp 1) 25 1 rfl ?_ fo_node_1 ?_ rfl ?_); exact rfl; exact rfl; simp only [Act.put, List.setIfInBounds_toArray, List.set_cons_succ, List.set_cons_zero]) | ((with_reducible refine' wpList_field_blk (j := 2) (.tmp 1) 25 2 rfl ?_ fo_node_2 ?_ rfl ?_); exact rfl; exact rfl; simp only [Act.put, List.setIfInBounds_toArray, List.set_cons_succ, List.set_cons_zero]) | ((with_reducible refine' wpList_field_blk (j := 3) (.tmp 1) 25 3 rfl ?_ fo_node_3 ?_ rfl ?_); exact rfl; exact rfl; simp only [Act.put, List.setIfInBounds_toArray, List.set_cons_succ, List.set_cons_zero]) | ((with_reducible refine' wpList_load_blk (.tmp 5) 3 rfl ?_ ld_int ?_ kA (X0.out) ?_); exact rfl; exact rfl; simp only [Act.put, List.setIfInBounds_toArray, List.set_cons_succ, List.set_cons_zero]) | ((with_reducible refine' wpList_load_blk (.tmp 8) 3 rfl ?_ ld_int ?_ kA (X1.out) ?_); exact rfl; exact rfl; simp only [Act.put, List.setIfInBounds_toArray, List.set_cons_succ, List.set_cons_zero]) | ((with_reducible refine' wpList_load_blk (.tmp 12) 3 rfl ?_ ld_int ?_ kA (X1.out) ?_); exact rfl; exact rfl; simp only [Act.put, List.setIfInBounds_toArray, List.set_cons_succ, List.set_cons_zero]) | ((with_reducible refine' wpList_load_blk (.tmp 17) 3 rfl ?_ ld_int ?_ kA (X2.out) ?_); exact rfl; exact rfl; simp only [Act.put, List.setIfInBounds_toArray, List.set_cons_succ, List.set_cons_zero]) | ((with_reducible refine' wpList_load_blk (.tmp 22) 23 rfl ?_ ld_nds ?_ kA (X3.out) ?_); exact rfl; exact rfl; simp only [Act.put, List.setIfInBounds_toArray, List.set_cons_succ, List.set_cons_zero]) | ((with_reducible refine' wpList_len_rd (.tmp 23) 23 rfl ?_ Tryd.underlying23 ?_ hr1 ?_); exact rfl; exact rfl; simp only [Act.put, List.setIfInBounds_toArray, List.set_cons_succ, List.set_cons_zero]))
      go_ret
      rw [HV.out]
      exact ⟨rfl, hN1⟩
    have e2 : decide (m = 0) = true := decide_eq_true c2
    have f2 : ((m : Int) == 0) = true := by rw [beq_iff_eq]; exact c2
    by_cases c3 : (L : Int) = 0
    rotate_left
    · have e3 : decide ((L : Int) = 0) = false := decide_eq_false c3
      have f3 : (((L : Int) : Int) == 0) = false := by rw [beq_eq_false_iff_ne]; exact c3
      have HV := Lib.hid (show tfits (.mk 2 n m ts) 2 = false by rw [TN.out]; rw [decide_eq_false (show ¬ L = 0 by omega)]; simp)
      clear c0 c1 c2 c3
      go_wp2_with (first | ((with_reducible refine' wpList_field_blk (j := 0) (.tmp 1) 25 0 rfl ?_ fo_node_0 ?_ rfl ?_); exact rfl; exact rfl; simp only [Act.put, List.setIfInBounds_toArray, List.set_cons_succ, List.set_cons_zero]) | ((with_reducible refine' wpList_field_blk (j := 1) (.tmp 1) 25 1 rfl ?_ fo_node_1 ?_ rfl ?_); exact rfl; exact rfl; simp only [Act.put, List.setIfInBounds_toArray, List.set_cons_succ, List.set_cons_zero]) | ((with_reducible refine' wpList_field_blk (j := 2) (.tmp 1) 25 2 rfl ?_ fo_node_2 ?_ rfl ?_); exact rfl; exact rfl; simp only [Act.put, List.setIfInBounds_toArray, List.set_cons_succ, List.set_cons_zero]) | ((with_reducible refine' wpList_field_blk (j := 3) (.tmp 1) 25 3 rfl ?_ fo_node_3 ?_ rfl ?_); exact rfl; exact rfl; simp only [Act.put, List.setIfInBounds_toArray, List.set_cons_succ, List.set_cons_zero]) | ((with_reducible refine' wpList_load_blk (.tmp 5) 3 rfl ?_ ld_int ?_ kA (X0.out) ?_); exact rfl; exact rfl; simp only [Act.put, List.setIfInBounds_toArray, List.set_cons_succ, List.set_cons_zero]) | ((with_reducible refine' wpList_load_blk (.tmp 8) 3 rfl ?_ ld_int ?_ kA (X1.out) ?_); exact rfl; exact rfl; simp only [Act.put, List.setIfInBounds_toArray, List.set_cons_succ, List.set_cons_zero]) | ((with_reducible refine' wpList_load_blk (.tmp 12) 3 rfl ?_ ld_int ?_ kA (X1.out) ?_); exact rfl; exact rfl; simp only [Act.put, List.setIfInBounds_toArray, List.set_cons_succ, List.set_cons_zero]) | ((with_reducible refine' wpList_load_blk (.tmp 17) 3 rfl ?_ ld_int ?_ kA (X2.out) ?_); exact rfl; exact rfl; simp only [Act.put, List.setIfInBounds_toArray, List.set_cons_succ, List.set_cons_zero]) | ((with_reducible refine' wpList_load_blk (.tmp 22) 23 rfl ?_ ld_nds ?_ kA (X3.out) ?_); exact rfl; exact rfl; simp only [Act.put, List.setIfInBounds_toArray, List.set_cons_succ, List.set_cons_zero]) | ((with_reducible refine' wpList_len_rd (.tmp 23) 23 rfl ?_ Tryd.underlying23 ?_ hr1 ?_); exact rfl; exact rfl; simp only [Act.put, List.setIfInBounds_toArray, List.set_cons_succ, List.set_cons_zero]))
      go_ret
      rw [HV.out]
      exact ⟨rfl, hN1⟩
    have e3 : decide ((L : Int) = 0) = true := decide_eq_true c3
    have f3 : (((L : Int) : Int) == 0) = true := by rw [beq_iff_eq]; exact c3
    have HV := Lib.hid (show tfits (.mk 2 n m ts) 2 = true by rw [TN.out]; rw [decide_eq_true (show L = 0 by omega), e0, e1, e2]; rfl)
    clear c0 c1 c2 c3
    go_wp2_with (first | ((with_reducible refine' wpList_field_blk (j := 0) (.tmp 1) 25 0 rfl ?_ fo_node_0 ?_ rfl ?_); exact rfl; exact rfl; simp only [Act.put, List.setIfInBounds_toArray, List.set_cons_succ, List.set_cons_zero]) | ((with_reducible refine' wpList_field_blk (j := 1) (.tmp 1) 25 1 rfl ?_ fo_node_1 ?_ rfl ?_); exact rfl; exact rfl; simp only [Act.put, List.setIfInBounds_toArray, List.set_cons_succ, List.set_cons_zero]) | ((with_reducible refine' wpList_field_blk (j := 2) (.tmp 1) 25 2 rfl ?_ fo_node_2 ?_ rfl ?_); exact rfl; exact rfl; simp only [Act.put, List.setIfInBounds_toArray, List.set_cons_succ, List.set_cons_zero]) | ((with_reducible refine' wpList_field_blk (j := 3) (.tmp 1) 25 3 rfl ?_ fo_node_3 ?_ rfl ?_); exact rfl; exact rfl; simp only [Act.put, List.setIfInBounds_toArray, List.set_cons_succ, List.set_cons_zero]) | ((with_reducible refine' wpList_load_blk (.tmp 5) 3 rfl ?_ ld_int ?_ kA (X0.out) ?_); exact rfl; exact rfl; simp only [Act.put, List.setIfInBounds_toArray, List.set_cons_succ, List.set_cons_zero]) | ((with_reducible refine' wpList_load_blk (.tmp 8) 3 rfl ?_ ld_int ?_ kA (X1.out) ?_); exact rfl; exact rfl; simp only [Act.put, List.setIfInBounds_toArray, List.set_cons_succ, List.set_cons_zero]) | ((with_reducible refine' wpList_load_blk (.tmp 12) 3 rfl ?_ ld_int ?_ kA (X1.out) ?_); exact rfl; exact rfl; simp only [Act.put, List.setIfInBounds_toArray, List.set_cons_succ, List.set_cons_zero]) | ((with_reducible refine' wpList_load_blk (.tmp 17) 3 rfl ?_ ld_int ?_ kA (X2.out) ?_); exact rfl; exact rfl; simp only [Act.put, List.setIfInBounds_toArray, List.set_cons_succ, List.set_cons_zero]) | ((with_reducible refine' wpList_load_blk (.tmp 22) 23 rfl ?_ ld_nds ?_ kA (X3.out) ?_); exact rfl; exact rfl; simp only [Act.put, List.setIfInBounds_toArray, List.set_cons_succ, List.set_cons_zero]) | ((with_reducible refine' wpList_len_rd (.tmp 23) 23 rfl ?_ Tryd.underlying23 ?_ hr1 ?_); exact rfl; exact rfl; simp only [Act.put, List.setIfInBounds_toArray, List.set_cons_succ, List.set_cons_zero]))
    go_ret
    rw [HV.out]
    exact ⟨rfl, hN1⟩
  have q2 : decide (k = 2) = false := decide_eq_false k2
  have p2 : (k == 2) = false := by rw [beq_eq_false_iff_ne]; exact k2
  by_cases k3 : k = 3
  rotate_left
  · have q3 : decide (k = 3) = false := decide_eq_false k3
    have p3 : (k == 3) = false := by rw [beq_eq_false_iff_ne]; exact k3
    have HV := Lib.hid (tfits_type k n m ts k2 k3)
    clear k2 k3
    go_wp2_with (first
      | ((with_reducible refine' wpList_field_blk (j := 0) (.tmp 1) 25 0 rfl ?_ fo_node_0 ?_ rfl ?_); exact rfl; exact rfl; simp only [Act.put, List.setIfInBounds_toArray, List.set_cons_succ, List.set_cons_zero])
      | ((with_reducible refine' wpList_load_blk (.tmp 5) 3 rfl ?_ ld_int ?_ kA (X0.out) ?_); exact rfl; exact rfl; simp only [Act.put, List.setIfInBounds_toArray, List.set_cons_succ, List.set_cons_zero])
      | ((with_reducible refine' wpList_load_blk (.tmp 27) 3 rfl ?_ ld_int ?_ kA (X0.out) ?_); exact rfl; exact rfl; simp only [Act.put, List.setIfInBounds_toArray, List.set_cons_succ, List.set_cons_zero])
      | ((with_reducible refine' wpList_loadst_blk (.tmp 1) 25 rfl ?_ Tryd.underlying25 ?_ sz_node ?_ kA ?_ ?_ ?_); exact rfl; exact rfl; exact rfl; exact CL.out; decide; simp only [Act.put, List.setIfInBounds_toArray, List.set_cons_succ, List.set_cons_zero])
      | ((go_at_call 77; (with_reducible refine (plain_any k n m ts _ _ hT1).mono ?_); rintro e w' ⟨rfl, hN2⟩)))
    go_ret
    rw [HV.out]
    exact ⟨rfl, hN1.trans (hN2.mono hN1.size)⟩
  subst k3
  clear k2 q2 p2
  have TN := Lib.hid (tfits_rec n m ts)
  have HLN := Lib.hid hl
  have XL := ht1.out.len
  obtain ⟨L, hL⟩ : ∃ L, ts.length = L := ⟨_, rfl⟩
  have HLL := Lib.hid hL
  rw [hL] at hr1 TN XL hl
  clear hL
  by_cases c0 : n = 0
  rotate_left
  · have e0 : decide (n = 0) = false := decide_eq_false c0
    have f0 : ((n : Int) == 0) = false := by rw [beq_eq_false_iff_ne]; exact c0
    have HV := Lib.hid (show tfits (.mk 3 n m ts) 2 = false by rw [TN.out]; rw [e0]; simp)
    clear c0
    go_upto_region 6 with (first | ((with_reducible refine' wpList_field_blk (j := 0) (.tmp 1) 25 0 rfl ?_ fo_node_0 ?_ rfl ?_); exact rfl; exact rfl; simp only [Act.put, List.setIfInBounds_toArray, List.set_cons_succ, List.set_cons_zero]) | ((with_reducible refine' wpList_field_blk (j := 1) (.tmp 1) 25 1 rfl ?_ fo_node_1 ?_ rfl ?_); exact rfl; exact rfl; simp only [Act.put, List.setIfInBounds_toArray, List.set_cons_succ, List.set_cons_zero]) | ((with_reducible refine' wpList_field_blk (j := 2) (.tmp 1) 25 2 rfl ?_ fo_node_2 ?_ rfl ?_); exact rfl; exact rfl; simp only [Act.put, List.setIfInBounds_toArray, List.set_cons_succ, List.set_cons_zero]) | ((with_reducible refine' wpList_field_blk (j := 3) (.tmp 1) 25 3 rfl ?_ fo_node_3 ?_ rfl ?_); exact rfl; exact rfl; simp only [Act.put, List.setIfInBounds_toArray, List.set_cons_succ, List.set_cons_zero]) | ((with_reducible refine' wpList_load_blk (.tmp 5) 3 rfl ?_ ld_int ?_ kA (X0.out) ?_); exact rfl; exact rfl; simp only [Act.put, List.setIfInBounds_toArray, List.set_cons_succ, List.set_cons_zero]) | ((with_reducible refine' wpList_load_blk (.tmp 27) 3 rfl ?_ ld_int ?_ kA (X0.out) ?_); exact rfl; exact rfl; simp only [Act.put, List.setIfInBounds_toArray, List.set_cons_succ, List.set_cons_zero]) | ((with_reducible refine' wpList_load_blk (.tmp 30) 3 rfl ?_ ld_int ?_ kA (X1.out) ?_); exact rfl; exact rfl; simp only [Act.put, List.setIfInBounds_toArray, List.set_cons_succ, List.set_cons_zero]) | ((with_reducible refine' wpList_load_blk (.tmp 34) 3 rfl ?_ ld_int ?_ kA (X2.out) ?_); exact rfl; exact rfl; simp only [Act.put, List.setIfInBounds_toArray, List.set_cons_succ, List.set_cons_zero]) | ((with_reducible refine' wpList_load_blk (.tmp 39) 23 rfl ?_ ld_nds ?_ kA (X3.out) ?_); exact rfl; exact rfl; simp only [Act.put, List.setIfInBounds_toArray, List.set_cons_succ, List.set_cons_zero]) | ((with_reducible refine' wpList_len_rd (.tmp 40) 23 rfl ?_ Tryd.underlying23 ?_ hr1 ?_); exact rfl; exact rfl; simp only [Act.put, List.setIfInBounds_toArray, List.set_cons_succ, List.set_cons_zero]) | ((with_reducible refine' wpList_load_blk (.tmp 45) 23 rfl ?_ ld_nds ?_ kA (X3.out) ?_); exact rfl; exact rfl; simp only [Act.put, List.setIfInBounds_toArray, List.set_cons_succ, List.set_cons_zero]) | ((with_reducible refine' wpList_len_rd (.tmp 46) 23 rfl ?_ Tryd.underlying23 ?_ hr1 ?_); exact rfl; exact rfl; simp only [Act.put, List.setIfInBounds_toArray, List.set_cons_succ, List.set_cons_zero]))
    go_loopw [3, 4] (fun b i wr => ∃ j : Nat, j ≤ L ∧ i = .int .i64 (j : Int) ∧ b = .bool (false) ∧ Below w1.heap.size w1 wr) (fun _ i _ => L - (intOf i).toNat)
    case atStart => exact ⟨0, Nat.zero_le _, rfl, rfl, Below.refl _ _⟩
    case round =>
      obtain ⟨j, hj, rfl, rfl, hbj⟩ := hrel
      obtain ⟨wo, rfl⟩ : ∃ wo : World, wo = wr := ⟨_, rfl⟩
      have hrj := hr1.below hbj
      have kAj := kA.below hbj kA.lt
      have hbw := hN1.trans (hbj.mono hN1.size)
      by_cases hlt : j < L
      · have LJ : decide ((j : Int) < (L : Int)) = true := by rw [decide_eq_true_eq]; omega
        go_wp2_with (first
          | ((with_reducible refine' wpList_field_blk (j := 3) (.tmp 1) 25 3 rfl ?_ fo_node_3 ?_ rfl ?_); exact rfl; exact rfl; simp only [Act.put, List.setIfInBounds_toArray, List.set_cons_succ, List.set_cons_zero])
          | ((with_reducible refine' wpList_load_blk (.tmp 51) 23 rfl ?_ ld_nds ?_ kAj (X3.out) ?_); exact rfl; exact rfl; simp only [Act.put, List.setIfInBounds_toArray, List.set_cons_succ, List.set_cons_zero])
          | ((with_reducible refine' wpList_len_rd (.tmp 52) 23 rfl ?_ Tryd.underlying23 ?_ hrj ?_); exact rfl; exact rfl; simp only [Act.put, List.setIfInBounds_toArray, List.set_cons_succ, List.set_cons_zero]))
        go_roundw
        case rel => (first | exact ⟨j + 1, by omega, by go_num, rfl, hbj⟩ | ((repeat apply Exists.intro); exact ⟨⟨j + 1, by omega, by go_num, rfl, hbj⟩, rfl⟩))
        case measure => simp [intOf]; omega
      · obtain rfl : j = L := by omega
        go_wp2_with (first
          | ((with_reducible refine' wpList_field_blk (j := 3) (.tmp 1) 25 3 rfl ?_ fo_node_3 ?_ rfl ?_); exact rfl; exact rfl; simp only [Act.put, List.setIfInBounds_toArray, List.set_cons_succ, List.set_cons_zero])
          | ((with_reducible refine' wpList_load_blk (.tmp 51) 23 rfl ?_ ld_nds ?_ kAj (X3.out) ?_); exact rfl; exact rfl; simp only [Act.put, List.setIfInBounds_toArray, List.set_cons_succ, List.set_cons_zero])
          | ((with_reducible refine' wpList_len_rd (.tmp 52) 23 rfl ?_ Tryd.underlying23 ?_ hrj ?_); exact rfl; exact rfl; simp only [Act.put, List.setIfInBounds_toArray, List.set_cons_succ, List.set_cons_zero]))
        go_ret
        rw [HV.out]
        exact ⟨rfl, hbw⟩
  have e0 : decide (n = 0) = true := decide_eq_true c0
  have f0 : ((n : Int) == 0) = true := by rw [beq_iff_eq]; exact c0
  by_cases c1 : m = 0
  rotate_left
  · have e1 : decide (m = 0) = false := decide_eq_false c1
    have f1 : ((m : Int) == 0) = false := by rw [beq_eq_false_iff_ne]; exact c1
    have HV := Lib.hid (show tfits (.mk 3 n m ts) 2 = false by rw [TN.out]; rw [e0, e1]; simp)
    clear c0 c1
    go_upto_region 6 with (first | ((with_reducible refine' wpList_field_blk (j := 0) (.tmp 1) 25 0 rfl ?_ fo_node_0 ?_ rfl ?_); exact rfl; exact rfl; simp only [Act.put, List.setIfInBounds_toArray, List.set_cons_succ, List.set_cons_zero]) | ((with_reducible refine' wpList_field_blk (j := 1) (.tmp 1) 25 1 rfl ?_ fo_node_1 ?_ rfl ?_); exact rfl; exact rfl; simp only [Act.put, List.setIfInBounds_toArray, List.set_cons_succ, List.set_cons_zero]) | ((with_reducible refine' wpList_field_blk (j := 2) (.tmp 1) 25 2 rfl ?_ fo_node_2 ?_ rfl ?_); exact rfl; exact rfl; simp only [Act.put, List.setIfInBounds_toArray, List.set_cons_succ, List.set_cons_zero]) | ((with_reducible refine' wpList_field_blk (j := 3) (.tmp 1) 25 3 rfl ?_ fo_node_3 ?_ rfl ?_); exact rfl; exact rfl; simp only [Act.put, List.setIfInBounds_toArray, List.set_cons_succ, List.set_cons_zero]) | ((with_reducible refine' wpList_load_blk (.tmp 5) 3 rfl ?_ ld_int ?_ kA (X0.out) ?_); exact rfl; exact rfl; simp only [Act.put, List.setIfInBounds_toArray, List.set_cons_succ, List.set_cons_zero]) | ((with_reducible refine' wpList_load_blk (.tmp 27) 3 rfl ?_ ld_int ?_ kA (X0.out) ?_); exact rfl; exact rfl; simp only [Act.put, List.setIfInBounds_toArray, List.set_cons_succ, List.set_cons_zero]) | ((with_reducible refine' wpList_load_blk (.tmp 30) 3 rfl ?_ ld_int ?_ kA (X1.out) ?_); exact rfl; exact rfl; simp only [Act.put, List.setIfInBounds_toArray, List.set_cons_succ, List.set_cons_zero]) | ((with_reducible refine' wpList_load_blk (.tmp 34) 3 rfl ?_ ld_int ?_ kA (X2.out) ?_); exact rfl; exact rfl; simp only [Act.put, List.setIfInBounds_toArray, List.set_cons_succ, List.set_cons_zero]) | ((with_reducible refine' wpList_load_blk (.tmp 39) 23 rfl ?_ ld_nds ?_ kA (X3.out) ?_); exact rfl; exact rfl; simp only [Act.put, List.setIfInBounds_toArray, List.set_cons_succ, List.set_cons_zero]) | ((with_reducible refine' wpList_len_rd (.tmp 40) 23 rfl ?_ Tryd.underlying23 ?_ hr1 ?_); exact rfl; exact rfl; simp only [Act.put, List.setIfInBounds_toArray, List.set_cons_succ, List.set_cons_zero]) | ((with_reducible refine' wpList_load_blk (.tmp 45) 23 rfl ?_ ld_nds ?_ kA (X3.out) ?_); exact rfl; exact rfl; simp only [Act.put, List.setIfInBounds_toArray, List.set_cons_succ, List.set_cons_zero]) | ((with_reducible refine' wpList_len_rd (.tmp 46) 23 rfl ?_ Tryd.underlying23 ?_ hr1 ?_); exact rfl; exact rfl; simp only [Act.put, List.setIfInBounds_toArray, List.set_cons_succ, List.set_cons_zero]))
    go_loopw [3, 4] (fun b i wr => ∃ j : Nat, j ≤ L ∧ i = .int .i64 (j : Int) ∧ b = .bool (false) ∧ Below w1.heap.size w1 wr) (fun _ i _ => L - (intOf i).toNat)
    case atStart => exact ⟨0, Nat.zero_le _, rfl, rfl, Below.refl _ _⟩
    case round =>
      obtain ⟨j, hj, rfl, rfl, hbj⟩ := hrel
      obtain ⟨wo, rfl⟩ : ∃ wo : World, wo = wr := ⟨_, rfl⟩
      have hrj := hr1.below hbj
      have kAj := kA.below hbj kA.lt
      have hbw := hN1.trans (hbj.mono hN1.size)
      by_cases hlt : j < L
      · have LJ : decide ((j : Int) < (L : Int)) = true := by rw [decide_eq_true_eq]; omega
        go_wp2_with (first
          | ((with_reducible refine' wpList_field_blk (j := 3) (.tmp 1) 25 3 rfl ?_ fo_node_3 ?_ rfl ?_); exact rfl; exact rfl; simp only [Act.put, List.setIfInBounds_toArray, List.set_cons_succ, List.set_cons_zero])
          | ((with_reducible refine' wpList_load_blk (.tmp 51) 23 rfl ?_ ld_nds ?_ kAj (X3.out) ?_); exact rfl; exact rfl; simp only [Act.put, List.setIfInBounds_toArray, List.set_cons_succ, List.set_cons_zero])
          | ((with_reducible refine' wpList_len_rd (.tmp 52) 23 rfl ?_ Tryd.underlying23 ?_ hrj ?_); exact rfl; exact rfl; simp only [Act.put, List.setIfInBounds_toArray, List.set_cons_succ, List.set_cons_zero]))
        go_roundw
        case rel => (first | exact ⟨j + 1, by omega, by go_num, rfl, hbj⟩ | ((repeat apply Exists.intro); exact ⟨⟨j + 1, by omega, by go_num, rfl, hbj⟩, rfl⟩))
        case measure => simp [intOf]; omega
      · obtain rfl : j = L := by omega
        go_wp2_with (first
          | ((with_reducible refine' wpList_field_blk (j := 3) (.tmp 1) 25 3 rfl ?_ fo_node_3 ?_ rfl ?_); exact rfl; exact rfl; simp only [Act.put, List.setIfInBounds_toArray, List.set_cons_succ, List.set_cons_zero])
          | ((with_reducible refine' wpList_load_blk (.tmp 51) 23 rfl ?_ ld_nds ?_ kAj (X3.out) ?_); exact rfl; exact rfl; simp only [Act.put, List.setIfInBounds_toArray, List.set_cons_succ, List.set_cons_zero])
          | ((with_reducible refine' wpList_len_rd (.tmp 52) 23 rfl ?_ Tryd.underlying23 ?_ hrj ?_); exact rfl; exact rfl; simp only [Act.put, List.setIfInBounds_toArray, List.set_cons_succ, List.set_cons_zero]))
        go_ret
        rw [HV.out]
        exact ⟨rfl, hbw⟩
  have e1 : decide (m = 0) = true := decide_eq_true c1
  have f1 : ((m : Int) == 0) = true := by rw [beq_iff_eq]; exact c1
  by_cases c2 : 1 ≤ (L : Int)
  rotate_left
  · have e2 : decide (1 ≤ (L : Int)) = false := decide_eq_false c2
    have HV := Lib.hid (show tfits (.mk 3 n m ts) 2 = false by rw [TN.out]; rw [decide_eq_false (show ¬ 1 ≤ L by omega)]; simp)
    clear c0 c1 c2
    go_upto_region 6 with (first | ((with_reducible refine' wpList_field_blk (j := 0) (.tmp 1) 25 0 rfl ?_ fo_node_0 ?_ rfl ?_); exact rfl; exact rfl; simp only [Act.put, List.setIfInBounds_toArray, List.set_cons_succ, List.set_cons_zero]) | ((with_reducible refine' wpList_field_blk (j := 1) (.tmp 1) 25 1 rfl ?_ fo_node_1 ?_ rfl ?_); exact rfl; exact rfl; simp only [Act.put, List.setIfInBounds_toArray, List.set_cons_succ, List.set_cons_zero]) | ((with_reducible refine' wpList_field_blk (j := 2) (.tmp 1) 25 2 rfl ?_ fo_node_2 ?_ rfl ?_); exact rfl; exact rfl; simp only [Act.put, List.setIfInBounds_toArray, List.set_cons_succ, List.set_cons_zero]) | ((with_reducible refine' wpList_field_blk (j := 3) (.tmp 1) 25 3 rfl ?_ fo_node_3 ?_ rfl ?_); exact rfl; exact rfl; simp only [Act.put, List.setIfInBounds_toArray, List.set_cons_succ, List.set_cons_zero]) | ((with_reducible refine' wpList_load_blk (.tmp 5) 3 rfl ?_ ld_int ?_ kA (X0.out) ?_); exact rfl; exact rfl; simp only [Act.put, List.setIfInBounds_toArray, List.set_cons_succ, List.set_cons_zero]) | ((with_reducible refine' wpList_load_blk (.tmp 27) 3 rfl ?_ ld_int ?_ kA (X0.out) ?_); exact rfl; exact rfl; simp only [Act.put, List.setIfInBounds_toArray, List.set_cons_succ, List.set_cons_zero]) | ((with_reducible refine' wpList_load_blk (.tmp 30) 3 rfl ?_ ld_int ?_ kA (X1.out) ?_); exact rfl; exact rfl; simp only [Act.put, List.setIfInBounds_toArray, List.set_cons_succ, List.set_cons_zero]) | ((with_reducible refine' wpList_load_blk (.tmp 34) 3 rfl ?_ ld_int ?_ kA (X2.out) ?_); exact rfl; exact rfl; simp only [Act.put, List.setIfInBounds_toArray, List.set_cons_succ, List.set_cons_zero]) | ((with_reducible refine' wpList_load_blk (.tmp 39) 23 rfl ?_ ld_nds ?_ kA (X3.out) ?_); exact rfl; exact rfl; simp only [Act.put, List.setIfInBounds_toArray, List.set_cons_succ, List.set_cons_zero]) | ((with_reducible refine' wpList_len_rd (.tmp 40) 23 rfl ?_ Tryd.underlying23 ?_ hr1 ?_); exact rfl; exact rfl; simp only [Act.put, List.setIfInBounds_toArray, List.set_cons_succ, List.set_cons_zero]) | ((with_reducible refine' wpList_load_blk (.tmp 45) 23 rfl ?_ ld_nds ?_ kA (X3.out) ?_); exact rfl; exact rfl; simp only [Act.put, List.setIfInBounds_toArray, List.set_cons_succ, List.set_cons_zero]) | ((with_reducible refine' wpList_len_rd (.tmp 46) 23 rfl ?_ Tryd.underlying23 ?_ hr1 ?_); exact rfl; exact rfl; simp only [Act.put, List.setIfInBounds_toArray, List.set_cons_succ, List.set_cons_zero]))
    go_loopw [3, 4] (fun b i wr => ∃ j : Nat, j ≤ L ∧ i = .int .i64 (j : Int) ∧ b = .bool (false) ∧ Below w1.heap.size w1 wr) (fun _ i _ => L - (intOf i).toNat)
    case atStart => exact ⟨0, Nat.zero_le _, rfl, rfl, Below.refl _ _⟩
    case round =>
      obtain ⟨j, hj, rfl, rfl, hbj⟩ := hrel
      obtain ⟨wo, rfl⟩ : ∃ wo : World, wo = wr := ⟨_, rfl⟩
      have hrj := hr1.below hbj
      have kAj := kA.below hbj kA.lt
      have hbw := hN1.trans (hbj.mono hN1.size)
      by_cases hlt : j < L
      · have LJ : decide ((j : Int) < (L : Int)) = true := by rw [decide_eq_true_eq]; omega
        go_wp2_with (first
          | ((with_reducible refine' wpList_field_blk (j := 3) (.tmp 1) 25 3 rfl ?_ fo_node_3 ?_ rfl ?_); exact rfl; exact rfl; simp only [Act.put, List.setIfInBounds_toArray, List.set_cons_succ, List.set_cons_zero])
          | ((with_reducible refine' wpList_load_blk (.tmp 51) 23 rfl ?_ ld_nds ?_ kAj (X3.out) ?_); exact rfl; exact rfl; simp only [Act.put, List.setIfInBounds_toArray, List.set_cons_succ, List.set_cons_zero])
          | ((with_reducible refine' wpList_len_rd (.tmp 52) 23 rfl ?_ Tryd.underlying23 ?_ hrj ?_); exact rfl; exact rfl; simp only [Act.put, List.setIfInBounds_toArray, List.set_cons_succ, List.set_cons_zero]))
        go_roundw
        case rel => (first | exact ⟨j + 1, by omega, by go_num, rfl, hbj⟩ | ((repeat apply Exists.intro); exact ⟨⟨j + 1, by omega, by go_num, rfl, hbj⟩, rfl⟩))
        case measure => simp [intOf]; omega
      · obtain rfl : j = L := by omega
        go_wp2_with (first
          | ((with_reducible refine' wpList_field_blk (j := 3) (.tmp 1) 25 3 rfl ?_ fo_node_3 ?_ rfl ?_); exact rfl; exact rfl; simp only [Act.put, List.setIfInBounds_toArray, List.set_cons_succ, List.set_cons_zero])
          | ((with_reducible refine' wpList_load_blk (.tmp 51) 23 rfl ?_ ld_nds ?_ kAj (X3.out) ?_); exact rfl; exact rfl; simp only [Act.put, List.setIfInBounds_toArray, List.set_cons_succ, List.set_cons_zero])
          | ((with_reducible refine' wpList_len_rd (.tmp 52) 23 rfl ?_ Tryd.underlying23 ?_ hrj ?_); exact rfl; exact rfl; simp only [Act.put, List.setIfInBounds_toArray, List.set_cons_succ, List.set_cons_zero]))
        go_ret
        rw [HV.out]
        exact ⟨rfl, hbw⟩
  have e2 : decide (1 ≤ (L : Int)) = true := decide_eq_true c2
  by_cases c3 : (L : Int) ≤ 3
  rotate_left
  · have e3 : decide ((L : Int) ≤ 3) = false := decide_eq_false c3
    have HV := Lib.hid (show tfits (.mk 3 n m ts) 2 = false by rw [TN.out]; rw [decide_eq_false (show ¬ L ≤ 3 by omega)]; simp)
    clear c0 c1 c2 c3
    go_upto_region 6 with (first | ((with_reducible refine' wpList_field_blk (j := 0) (.tmp 1) 25 0 rfl ?_ fo_node_0 ?_ rfl ?_); exact rfl; exact rfl; simp only [Act.put, List.setIfInBounds_toArray, List.set_cons_succ, List.set_cons_zero]) | ((with_reducible refine' wpList_field_blk (j := 1) (.tmp 1) 25 1 rfl ?_ fo_node_1 ?_ rfl ?_); exact rfl; exact rfl; simp only [Act.put, List.setIfInBounds_toArray, List.set_cons_succ, List.set_cons_zero]) | ((with_reducible refine' wpList_field_blk (j := 2) (.tmp 1) 25 2 rfl ?_ fo_node_2 ?_ rfl ?_); exact rfl; exact rfl; simp only [Act.put, List.setIfInBounds_toArray, List.set_cons_succ, List.set_cons_zero]) | ((with_reducible refine' wpList_field_blk (j := 3) (.tmp 1) 25 3 rfl ?_ fo_node_3 ?_ rfl ?_); exact rfl; exact rfl; simp only [Act.put, List.setIfInBounds_toArray, List.set_cons_succ, List.set_cons_zero]) | ((with_reducible refine' wpList_load_blk (.tmp 5) 3 rfl ?_ ld_int ?_ kA (X0.out) ?_); exact rfl; exact rfl; simp only [Act.put, List.setIfInBounds_toArray, List.set_cons_succ, List.set_cons_zero]) | ((with_reducible refine' wpList_load_blk (.tmp 27) 3 rfl ?_ ld_int ?_ kA (X0.out) ?_); exact rfl; exact rfl; simp only [Act.put, List.setIfInBounds_toArray, List.set_cons_succ, List.set_cons_zero]) | ((with_reducible refine' wpList_load_blk (.tmp 30) 3 rfl ?_ ld_int ?_ kA (X1.out) ?_); exact rfl; exact rfl; simp only [Act.put, List.setIfInBounds_toArray, List.set_cons_succ, List.set_cons_zero]) | ((with_reducible refine' wpList_load_blk (.tmp 34) 3 rfl ?_ ld_int ?_ kA (X2.out) ?_); exact rfl; exact rfl; simp only [Act.put, List.setIfInBounds_toArray, List.set_cons_succ, List.set_cons_zero]) | ((with_reducible refine' wpList_load_blk (.tmp 39) 23 rfl ?_ ld_nds ?_ kA (X3.out) ?_); exact rfl; exact rfl; simp only [Act.put, List.setIfInBounds_toArray, List.set_cons_succ, List.set_cons_zero]) | ((with_reducible refine' wpList_len_rd (.tmp 40) 23 rfl ?_ Tryd.underlying23 ?_ hr1 ?_); exact rfl; exact rfl; simp only [Act.put, List.setIfInBounds_toArray, List.set_cons_succ, List.set_cons_zero]) | ((with_reducible refine' wpList_load_blk (.tmp 45) 23 rfl ?_ ld_nds ?_ kA (X3.out) ?_); exact rfl; exact rfl; simp only [Act.put, List.setIfInBounds_toArray, List.set_cons_succ, List.set_cons_zero]) | ((with_reducible refine' wpList_len_rd (.tmp 46) 23 rfl ?_ Tryd.underlying23 ?_ hr1 ?_); exact rfl; exact rfl; simp only [Act.put, List.setIfInBounds_toArray, List.set_cons_succ, List.set_cons_zero]))
    go_loopw [3, 4] (fun b i wr => ∃ j : Nat, j ≤ L ∧ i = .int .i64 (j : Int) ∧ b = .bool (false) ∧ Below w1.heap.size w1 wr) (fun _ i _ => L - (intOf i).toNat)
    case atStart => exact ⟨0, Nat.zero_le _, rfl, rfl, Below.refl _ _⟩
    case round =>
      obtain ⟨j, hj, rfl, rfl, hbj⟩ := hrel
      obtain ⟨wo, rfl⟩ : ∃ wo : World, wo = wr := ⟨_, rfl⟩
      have hrj := hr1.below hbj
      have kAj := kA.below hbj kA.lt
      have hbw := hN1.trans (hbj.mono hN1.size)
      by_cases hlt : j < L
      · have LJ : decide ((j : Int) < (L : Int)) = true := by rw [decide_eq_true_eq]; omega
        go_wp2_with (first
          | ((with_reducible refine' wpList_field_blk (j := 3) (.tmp 1) 25 3 rfl ?_ fo_node_3 ?_ rfl ?_); exact rfl; exact rfl; simp only [Act.put, List.setIfInBounds_toArray, List.set_cons_succ, List.set_cons_zero])
          | ((with_reducible refine' wpList_load_blk (.tmp 51) 23 rfl ?_ ld_nds ?_ kAj (X3.out) ?_); exact rfl; exact rfl; simp only [Act.put, List.setIfInBounds_toArray, List.set_cons_succ, List.set_cons_zero])
          | ((with_reducible refine' wpList_len_rd (.tmp 52) 23 rfl ?_ Tryd.underlying23 ?_ hrj ?_); exact rfl; exact rfl; simp only [Act.put, List.setIfInBounds_toArray, List.set_cons_succ, List.set_cons_zero]))
        go_roundw
        case rel => (first | exact ⟨j + 1, by omega, by go_num, rfl, hbj⟩ | ((repeat apply Exists.intro); exact ⟨⟨j + 1, by omega, by go_num, rfl, hbj⟩, rfl⟩))
        case measure => simp [intOf]; omega
      · obtain rfl : j = L := by omega
        go_wp2_with (first
          | ((with_reducible refine' wpList_field_blk (j := 3) (.tmp 1) 25 3 rfl ?_ fo_node_3 ?_ rfl ?_); exact rfl; exact rfl; simp only [Act.put, List.setIfInBounds_toArray, List.set_cons_succ, List.set_cons_zero])
          | ((with_reducible refine' wpList_load_blk (.tmp 51) 23 rfl ?_ ld_nds ?_ kAj (X3.out) ?_); exact rfl; exact rfl; simp only [Act.put, List.setIfInBounds_toArray, List.set_cons_succ, List.set_cons_zero])
          | ((with_reducible refine' wpList_len_rd (.tmp 52) 23 rfl ?_ Tryd.underlying23 ?_ hrj ?_); exact rfl; exact rfl; simp only [Act.put, List.setIfInBounds_toArray, List.set_cons_succ, List.set_cons_zero]))
        go_ret
        rw [HV.out]
        exact ⟨rfl, hbw⟩
  have e3 : decide ((L : Int) ≤ 3) = true := decide_eq_true c3
  have HV := Lib.hid (show tfits (.mk 3 n m ts) 2 = tall 3 ts by rw [TN.out, e0, e1, decide_eq_true (show 1 ≤ L by omega), decide_eq_true (show L ≤ 3 by omega)]; rfl)
  clear c0 c1 c2 c3
  go_upto_region 6 with (first | ((with_reducible refine' wpList_field_blk (j := 0) (.tmp 1) 25 0 rfl ?_ fo_node_0 ?_ rfl ?_); exact rfl; exact rfl; simp only [Act.put, List.setIfInBounds_toArray, List.set_cons_succ, List.set_cons_zero]) | ((with_reducible refine' wpList_field_blk (j := 1) (.tmp 1) 25 1 rfl ?_ fo_node_1 ?_ rfl ?_); exact rfl; exact rfl; simp only [Act.put, List.setIfInBounds_toArray, List.set_cons_succ, List.set_cons_zero]) | ((with_reducible refine' wpList_field_blk (j := 2) (.tmp 1) 25 2 rfl ?_ fo_node_2 ?_ rfl ?_); exact rfl; exact rfl; simp only [Act.put, List.setIfInBounds_toArray, List.set_cons_succ, List.set_cons_zero]) | ((with_reducible refine' wpList_field_blk (j := 3) (.tmp 1) 25 3 rfl ?_ fo_node_3 ?_ rfl ?_); exact rfl; exact rfl; simp only [Act.put, List.setIfInBounds_toArray, List.set_cons_succ, List.set_cons_zero]) | ((with_reducible refine' wpList_load_blk (.tmp 5) 3 rfl ?_ ld_int ?_ kA (X0.out) ?_); exact rfl; exact rfl; simp only [Act.put, List.setIfInBounds_toArray, List.set_cons_succ, List.set_cons_zero]) | ((with_reducible refine' wpList_load_blk (.tmp 27) 3 rfl ?_ ld_int ?_ kA (X0.out) ?_); exact rfl; exact rfl; simp only [Act.put, List.setIfInBounds_toArray, List.set_cons_succ, List.set_cons_zero]) | ((with_reducible refine' wpList_load_blk (.tmp 30) 3 rfl ?_ ld_int ?_ kA (X1.out) ?_); exact rfl; exact rfl; simp only [Act.put, List.setIfInBounds_toArray, List.set_cons_succ, List.set_cons_zero]) | ((with_reducible refine' wpList_load_blk (.tmp 34) 3 rfl ?_ ld_int ?_ kA (X2.out) ?_); exact rfl; exact rfl; simp only [Act.put, List.setIfInBounds_toArray, List.set_cons_succ, List.set_cons_zero]) | ((with_reducible refine' wpList_load_blk (.tmp 39) 23 rfl ?_ ld_nds ?_ kA (X3.out) ?_); exact rfl; exact rfl; simp only [Act.put, List.setIfInBounds_toArray, List.set_cons_succ, List.set_cons_zero]) | ((with_reducible refine' wpList_len_rd (.tmp 40) 23 rfl ?_ Tryd.underlying23 ?_ hr1 ?_); exact rfl; exact rfl; simp only [Act.put, List.setIfInBounds_toArray, List.set_cons_succ, List.set_cons_zero]) | ((with_reducible refine' wpList_load_blk (.tmp 45) 23 rfl ?_ ld_nds ?_ kA (X3.out) ?_); exact rfl; exact rfl; simp only [Act.put, List.setIfInBounds_toArray, List.set_cons_succ, List.set_cons_zero]) | ((with_reducible refine' wpList_len_rd (.tmp 46) 23 rfl ?_ Tryd.underlying23 ?_ hr1 ?_); exact rfl; exact rfl; simp only [Act.put, List.setIfInBounds_toArray, List.set_cons_succ, List.set_cons_zero]))
  go_loopw [3, 4] (fun b i wr => ∃ j : Nat, j ≤ L ∧ i = .int .i64 (j : Int) ∧ b = .bool (tall 3 (ts.take j)) ∧ Below w1.heap.size w1 wr) (fun _ i _ => L - (intOf i).toNat)
  case atStart => exact ⟨0, Nat.zero_le _, rfl, rfl, Below.refl _ _⟩
  case round =>
    obtain ⟨j, hj, rfl, rfl, hbj⟩ := hrel
    obtain ⟨wo, rfl⟩ : ∃ wo : World, wo = wr := ⟨_, rfl⟩
    have hrj := hr1.below hbj
    have kAj := kA.below hbj kA.lt
    have hbw := hN1.trans (hbj.mono hN1.size)
    by_cases hlt : j < L
    · have LJ : decide ((j : Int) < (L : Int)) = true := by rw [decide_eq_true_eq]; omega
      obtain ⟨t, ht⟩ := kid_at (ts := ts) (i := j) (by rw [HLL.out]; omega)
      obtain ⟨cj, hcj⟩ : ∃ cs, (xs.drop (j * 4)).take 4 = cs := ⟨_, rfl⟩
      have hTj := (IsTs.get ht1.out ht).below hbj
      rw [hcj] at hTj
      have HC := Lib.hid hcj
      have BD := Lib.hid (show j * 4 + 4 ≤ xs.length by rw [XL]; omega)
      have TS := Lib.hid (tall_take_succ 3 ts j t ht)
      clear hcj ht
      cases hc : tall 3 (ts.take j) with
      | true =>
        have TS2 := Lib.hid (show tall 3 (ts.take (j + 1)) = tfits t 3 by rw [TS.out, hc]; rfl)
        clear hc TS
        go_wp2_with (first
          | ((with_reducible refine' wpList_field_blk (j := 3) (.tmp 1) 25 3 rfl ?_ fo_node_3 ?_ rfl ?_); exact rfl; exact rfl; simp only [Act.put, List.setIfInBounds_toArray, List.set_cons_succ, List.set_cons_zero])
          | ((with_reducible refine' wpList_load_blk (.tmp 51) 23 rfl ?_ ld_nds ?_ kAj (X3.out) ?_); exact rfl; exact rfl; simp only [Act.put, List.setIfInBounds_toArray, List.set_cons_succ, List.set_cons_zero])
          | ((with_reducible refine' wpList_len_rd (.tmp 52) 23 rfl ?_ Tryd.underlying23 ?_ hrj ?_); exact rfl; exact rfl; simp only [Act.put, List.setIfInBounds_toArray, List.set_cons_succ, List.set_cons_zero])
          | ((with_reducible refine' wpList_load_blk (.tmp 59) 23 rfl ?_ ld_nds ?_ kAj (X3.out) ?_); exact rfl; exact rfl; simp only [Act.put, List.setIfInBounds_toArray, List.set_cons_succ, List.set_cons_zero])
          | ((with_reducible refine' wpList_at_rd (.tmp 60) (.tmp 61) 23 rfl ?_ Tryd.underlying23 sz_node ?_ hrj (by decide) (j) ?_ ?_ ?_); exact rfl; exact rfl; (show (_ : Int) = _; omega); omega; simp only [Act.put, List.setIfInBounds_toArray, List.set_cons_succ, List.set_cons_zero]) | ((with_reducible refine' wpList_load_st (cp := cj) (.tmp 62) 25 rfl ?_ Tryd.underlying25 ?_ sz_node ?_ hrj ?_ ?_ HC.out ?_); exact rfl; exact rfl; exact rfl; exact BD.out; decide; simp only [Act.put, List.setIfInBounds_toArray, List.set_cons_succ, List.set_cons_zero])
          | ((go_at_call 77; (with_reducible refine (plain_fits t cj _ hTj).mono ?_); rintro e w' ⟨rfl, hN6⟩); rw [← TS2.out]))
        go_roundw
        case rel => (first | exact ⟨j + 1, by omega, by go_num, rfl, hbj.trans (hN6.mono hbj.size)⟩ | ((repeat apply Exists.intro); exact ⟨⟨j + 1, by omega, by go_num, rfl, hbj.trans (hN6.mono hbj.size)⟩, rfl⟩))
        case measure => simp [intOf]; omega
      | false =>
        have TS2 := Lib.hid (show false = tall 3 (ts.take (j + 1)) by rw [TS.out, hc]; rfl)
        clear hc TS
        go_wp2_with (first
          | ((with_reducible refine' wpList_field_blk (j := 3) (.tmp 1) 25 3 rfl ?_ fo_node_3 ?_ rfl ?_); exact rfl; exact rfl; simp only [Act.put, List.setIfInBounds_toArray, List.set_cons_succ, List.set_cons_zero])
          | ((with_reducible refine' wpList_load_blk (.tmp 51) 23 rfl ?_ ld_nds ?_ kAj (X3.out) ?_); exact rfl; exact rfl; simp only [Act.put, List.setIfInBounds_toArray, List.set_cons_succ, List.set_cons_zero])
          | ((with_reducible refine' wpList_len_rd (.tmp 52) 23 rfl ?_ Tryd.underlying23 ?_ hrj ?_); exact rfl; exact rfl; simp only [Act.put, List.setIfInBounds_toArray, List.set_cons_succ, List.set_cons_zero]))
        go_roundw
        case rel => (first | exact ⟨j + 1, by omega, by go_num, congrArg Value.bool TS2.out, hbj⟩ | ((repeat apply Exists.intro); exact ⟨⟨j + 1, by omega, by go_num, congrArg Value.bool TS2.out, hbj⟩, rfl⟩))
        case measure => simp [intOf]; omega
    · obtain rfl : j = L := by omega
      go_wp2_with (first
        | ((with_reducible refine' wpList_field_blk (j := 3) (.tmp 1) 25 3 rfl ?_ fo_node_3 ?_ rfl ?_); exact rfl; exact rfl; simp only [Act.put, List.setIfInBounds_toArray, List.set_cons_succ, List.set_cons_zero])
        | ((with_reducible refine' wpList_load_blk (.tmp 51) 23 rfl ?_ ld_nds ?_ kAj (X3.out) ?_); exact rfl; exact rfl; simp only [Act.put, List.setIfInBounds_toArray, List.set_cons_succ, List.set_cons_zero])
        | ((with_reducible refine' wpList_len_rd (.tmp 52) 23 rfl ?_ Tryd.underlying23 ?_ hrj ?_); exact rfl; exact rfl; simp only [Act.put, List.setIfInBounds_toArray, List.set_cons_succ, List.set_cons_zero]))
      go_ret
      rw [HV.out, List.take_of_length_le (by rw [HLL.out]; exact Nat.le_refl _)]
      exact ⟨rfl, hbw⟩
theorem type_any (t : Tree) (cs : List Value) (w : World) (hT : IsT w t cs) (hz : tsize t ≤ 1000000) :
    Calls Tryd.prog 76 #[.agg cs.toArray] w fun e w' => e = .returned (.bool (tfits t 2)) ∧ Below w.heap.size w w' := by
  cases t with
  | mk k n m ts => exact type_of k n m ts cs w hT (by have := tsizes_len ts; rw [tsize] at hz; omega)
end Go.Proofs.YtdlhkhnoigbhjaaDoor.Wi
namespace Go.Proofs.YtdlhkhnoigbhjaaDoor.Pu
theorem tfits_fun (n m : Int) (ts : List Tree) : tfits (.mk 26 n m ts) 1 = (btw n m ts.length 3 0 1 7 && (decide (n ≤ (ts.length : Int) - 1) && tfitsL (fWant 26 n ts.length) 0 ts)) := by
  have h := tfits_row (i := 26) rfl n m 1 ts
  rw [show ((26 : Nat) : Int) = 26 from rfl] at h
  rw [h]
  generalize tfitsL (fWant 26 n ts.length) 0 ts = r
  generalize ts.length = L
  simp only [fOk, fLen, fIs, btw]; rw [Bool.eq_iff_iff]; cases r <;> simp <;> omega
theorem tfits_fno (k n m : Int) (ts : List Tree) (h : k ≠ 26) : tfits (.mk k n m ts) 1 = false :=
  kind_cases (P := fun k => k ≠ 26 → tfits (.mk k n m ts) 1 = false)
    (fun i hi _ => fIs_only (P := fun j => j = 26) (by decide) hi (by omega) n m ts)
    (fun k hk _ => tfits_out 1 hk) k h
theorem tfits_prog (n m : Int) (ts : List Tree) : tfits (.mk 27 n m ts) 0 = (btw n m ts.length 3 0 1 6 && tall 1 ts) :=
  tfits_same (i := 27) rfl (by decide) 0 1 1 6 rfl rfl rfl (by decide) n m ts
theorem tfits_pno (k n m : Int) (ts : List Tree) (h : k ≠ 27) : tfits (.mk k n m ts) 0 = false :=
  kind_cases (P := fun k => k ≠ 27 → tfits (.mk k n m ts) 0 = false)
    (fun i hi _ => fIs_only (P := fun j => j = 27) (by decide) hi (by omega) n m ts)
    (fun k hk _ => tfits_out 0 hk) k h
theorem tvalid_kno (k n m : Int) (ts : List Tree) (h : k ≠ 27) : tvalid (.mk k n m ts) = false := by
  rw [tvalid, tfits_pno k n m ts h]; simp
/-- a plain type is a type -/
theorem tfits_3_2 (t : Tree) (h : tfits t 3 = true) : tfits t 2 = true := by
  cases t with
  | mk k n m ts =>
    rw [tfits_plain] at h
    by_cases h2 : k = 2
    · subst h2; simp [pln] at h
    · by_cases h3 : k = 3
      · subst h3; simp [pln] at h
      · rw [tfits_type k n m ts h2 h3]; exact h
theorem tfitsL_no {f : Nat → Int} {ts : List Tree} {j : Nat} {t : Tree} (h : ts[j]? = some t) (hf : tfits t (f j) = false) : tfitsL f 0 ts = false := by
  cases hc : tfitsL f 0 ts with
  | false => rfl
  | true => have := (tfitsL_iff f ts 0).1 hc j t h; rw [Nat.zero_add, hf] at this; cases this
theorem fWant_last (n : Int) (L : Nat) : fWant 26 n (L + 1) L = 6 := by
  unfold fWant; simp [shF]
theorem fWant_plain {n : Int} {L j : Nat} (h : j + 1 ≠ L) (hn : (j : Int) < n) : fWant 26 n L j = 3 := by
  unfold fWant; simp [shF, h, hn]
theorem fWant_type {n : Int} {L j : Nat} (h : j + 1 ≠ L) (hn : ¬ (j : Int) < n) : fWant 26 n L j = 2 := by
  unfold fWant; simp [shF, h, hn]
/-- all but the last fit: then the last one decides -/
theorem tfitsL_last {f : Nat → Int} {ts : List Tree} {L : Nat} {t : Tree} (hL : ts.length = L + 1) (ht : ts[L]? = some t) (h : ∀ r u, r < L → ts[r]? = some u → tfits u (f r) = true) : tfitsL f 0 ts = tfits t (f L) := by
  cases hc : tfits t (f L) with
  | false => exact tfitsL_no ht hc
  | true =>
    rw [tfitsL_iff]
    intro j u hu
    rw [Nat.zero_add]
    have hj : j < ts.length := (List.getElem?_eq_some_iff.1 hu).1
    by_cases c : j = L
    · subst c; rw [ht] at hu; cases hu; exact hc
    · exact h j u (by omega) hu
end Go.Proofs.YtdlhkhnoigbhjaaDoor.Pu
namespace Go.Proofs.YtdlhkhnoigbhjaaDoor.Wi
open Go Go.RowKit Pu Lb
set_option linter.unusedSimpArgs false
set_option linter.unusedVariables false
set_option maxRecDepth 100000 in
set_option maxHeartbeats 3200000 in
theorem fun_of (k n m : Int) (ts : List Tree) (cs : List Value) (w : World) (hT : IsT w (.mk k n m ts) cs) (hz : tsize (.mk k n m ts) ≤ 1000000) :
    Calls Tryd.prog 56 #[.agg cs.toArray] w fun e w' => e = .returned (.bool (tfits (.mk k n m ts) 1)) ∧ Below w.heap.size w w' := by
  have HT0 := Lib.hid hT
  rw [IsT] at hT
  obtain ⟨v, xs, rfl, hr, hts⟩ := hT
  have CO := Lib.hid (HT0.out.ones)
  have CL := Lib.hid (HT0.out.len)
  have X0 := Lib.hid (show ([.int .i64 k, .int .i64 n, .int .i64 m, v] : List Value)[0]? = some (.int .i64 k) from rfl)
  have X1 := Lib.hid (show ([.int .i64 k, .int .i64 n, .int .i64 m, v] : List Value)[1]? = some (.int .i64 n) from rfl)
  have X2 := Lib.hid (show ([.int .i64 k, .int .i64 n, .int .i64 m, v] : List Value)[2]? = some (.int .i64 m) from rfl)
  have X3 := Lib.hid (show ([.int .i64 k, .int .i64 n, .int .i64 m, v] : List Value)[3]? = some v from rfl)
  go_enter Tryd.func56, Tryd.ntmps56
  go_upto_region 1 with (((with_reducible refine' wpList_boxa (cs := [.int .i64 k, .int .i64 n, .int .i64 m, v]) 25 (.tmp 0) rfl ?_ ?_ ?_); exact rfl; exact rfl; intro w1 kA hN1 hz1; simp only [Act.put, List.setIfInBounds_toArray, List.set_cons_succ, List.set_cons_zero]))
  have hr1 := hr.below hN1
  have ht1 := Lib.hid (IsTs.below hN1 hts)
  have hT1 := HT0.out.below hN1
  clear hr hz1 hts
  by_cases k26 : k = 26
  rotate_left
  · have q26 : decide (k = 26) = false := decide_eq_false k26
    have p26 : (k == 26) = false := by rw [beq_eq_false_iff_ne]; exact k26
    have r26 : (k != 26) = true := by rw [bne_iff_ne]; exact k26
    have HV := Lib.hid (tfits_fno k n m ts k26)
    clear k26
    go_wp2_with (first
      | ((with_reducible refine' wpList_field_blk (j := 0) (.tmp 1) 25 0 rfl ?_ fo_node_0 ?_ rfl ?_); exact rfl; exact rfl; simp only [Act.put, List.setIfInBounds_toArray, List.set_cons_succ, List.set_cons_zero])
      | ((with_reducible refine' wpList_load_blk (.tmp 4) 3 rfl ?_ ld_int ?_ kA (X0.out) ?_); exact rfl; exact rfl; simp only [Act.put, List.setIfInBounds_toArray, List.set_cons_succ, List.set_cons_zero]))
    go_ret
    rw [HV.out]
    exact ⟨rfl, hN1⟩
  subst k26
  cases hb : btw n m ts.length 3 0 1 7 with
  | false =>
    have HB := Lib.hid hb
    have HV := Lib.hid (show tfits (.mk 26 n m ts) 1 = false by rw [tfits_fun, hb]; rfl)
    clear hb
    go_wp2_with (first
      | ((with_reducible refine' wpList_field_blk (j := 0) (.tmp 1) 25 0 rfl ?_ fo_node_0 ?_ rfl ?_); exact rfl; exact rfl; simp only [Act.put, List.setIfInBounds_toArray, List.set_cons_succ, List.set_cons_zero])
      | ((with_reducible refine' wpList_load_blk (.tmp 4) 3 rfl ?_ ld_int ?_ kA (X0.out) ?_); exact rfl; exact rfl; simp only [Act.put, List.setIfInBounds_toArray, List.set_cons_succ, List.set_cons_zero])
      | ((with_reducible refine' wpList_loadst_blk (.tmp 1) 25 rfl ?_ Tryd.underlying25 ?_ sz_node ?_ kA ?_ ?_ ?_); exact rfl; exact rfl; exact rfl; exact CL.out; decide; simp only [Act.put, List.setIfInBounds_toArray, List.set_cons_succ, List.set_cons_zero])
      | ((go_at_call 55; (with_reducible refine (between_any 26 n m ts 3 0 1 7 _ _ hT1).mono ?_); rintro e w' ⟨rfl, hN2⟩); rw [HB.out]; have kA2 := kA.below hN2 kA.lt; have hr2 := hr1.below hN2; have ht2 := Lib.hid (IsTs.below hN2 ht1.out); have hT2 := hT1.below hN2; have hb2 := hN1.trans (hN2.mono hN1.size)))
    go_ret
    rw [HV.out]
    exact ⟨rfl, hb2⟩
  | true =>
  have HB := Lib.hid hb
  have HL := Lib.hid (show 1 ≤ ts.length ∧ ts.length ≤ 7 ∧ 0 ≤ n ∧ n ≤ 3 by simp only [btw, Bool.and_eq_true, decide_eq_true_eq] at hb; omega)
  have HZ := Lib.hid (show ∀ t ∈ ts, tsize t ≤ 1000000 from fun t ht => by rw [tsize] at hz; have := tsize_mem ht; omega)
  have hl := HL.out
  by_cases cn : (ts.length : Int) - 1 < n
  · have en : decide ((ts.length : Int) - 1 < n) = true := decide_eq_true cn
    have HV := Lib.hid (show tfits (.mk 26 n m ts) 1 = false by rw [tfits_fun, hb, decide_eq_false (show ¬ n ≤ (ts.length : Int) - 1 by omega)]; rfl)
    clear hb cn
    go_wp2_with (first
      | ((with_reducible refine' wpList_field_blk (j := 0) (.tmp 1) 25 0 rfl ?_ fo_node_0 ?_ rfl ?_); exact rfl; exact rfl; simp only [Act.put, List.setIfInBounds_toArray, List.set_cons_succ, List.set_cons_zero])
      | ((with_reducible refine' wpList_load_blk (.tmp 4) 3 rfl ?_ ld_int ?_ kA (X0.out) ?_); exact rfl; exact rfl; simp only [Act.put, List.setIfInBounds_toArray, List.set_cons_succ, List.set_cons_zero])
      | ((with_reducible refine' wpList_loadst_blk (.tmp 1) 25 rfl ?_ Tryd.underlying25 ?_ sz_node ?_ kA ?_ ?_ ?_); exact rfl; exact rfl; exact rfl; exact CL.out; decide; simp only [Act.put, List.setIfInBounds_toArray, List.set_cons_succ, List.set_cons_zero])
      | ((go_at_call 55; (with_reducible refine (between_any 26 n m ts 3 0 1 7 _ _ hT1).mono ?_); rintro e w' ⟨rfl, hN2⟩); rw [HB.out]; have kA2 := kA.below hN2 kA.lt; have hr2 := hr1.below hN2; have ht2 := Lib.hid (IsTs.below hN2 ht1.out); have hT2 := hT1.below hN2; have hb2 := hN1.trans (hN2.mono hN1.size))
      | ((with_reducible refine' wpList_field_blk (j := 3) (.tmp 1) 25 3 rfl ?_ fo_node_3 ?_ rfl ?_); exact rfl; exact rfl; simp only [Act.put, List.setIfInBounds_toArray, List.set_cons_succ, List.set_cons_zero])
      | ((with_reducible refine' wpList_load_blk (.tmp 13) 23 rfl ?_ ld_nds ?_ kA2 (X3.out) ?_); exact rfl; exact rfl; simp only [Act.put, List.setIfInBounds_toArray, List.set_cons_succ, List.set_cons_zero])
      | ((with_reducible refine' wpList_len_rd (.tmp 14) 23 rfl ?_ Tryd.underlying23 ?_ hr2 ?_); exact rfl; exact rfl; simp only [Act.put, List.setIfInBounds_toArray, List.set_cons_succ, List.set_cons_zero])
      | ((with_reducible refine' wpList_field_blk (j := 1) (.tmp 1) 25 1 rfl ?_ fo_node_1 ?_ rfl ?_); exact rfl; exact rfl; simp only [Act.put, List.setIfInBounds_toArray, List.set_cons_succ, List.set_cons_zero])
      | ((with_reducible refine' wpList_load_blk (.tmp 17) 3 rfl ?_ ld_int ?_ kA2 (X1.out) ?_); exact rfl; exact rfl; simp only [Act.put, List.setIfInBounds_toArray, List.set_cons_succ, List.set_cons_zero]))
    go_ret
    rw [HV.out]
    exact ⟨rfl, hb2⟩
  have en : decide ((ts.length : Int) - 1 < n) = false := decide_eq_false cn
  have HV := Lib.hid (show tfits (.mk 26 n m ts) 1 = tfitsL (fWant 26 n ts.length) 0 ts by rw [tfits_fun, hb, decide_eq_true (show n ≤ (ts.length : Int) - 1 by omega)]; rfl)
  clear hb
  go_upto_region 4 with (first
      | ((with_reducible refine' wpList_field_blk (j := 0) (.tmp 1) 25 0 rfl ?_ fo_node_0 ?_ rfl ?_); exact rfl; exact rfl; simp only [Act.put, List.setIfInBounds_toArray, List.set_cons_succ, List.set_cons_zero])
      | ((with_reducible refine' wpList_load_blk (.tmp 4) 3 rfl ?_ ld_int ?_ kA (X0.out) ?_); exact rfl; exact rfl; simp only [Act.put, List.setIfInBounds_toArray, List.set_cons_succ, List.set_cons_zero])
      | ((with_reducible refine' wpList_loadst_blk (.tmp 1) 25 rfl ?_ Tryd.underlying25 ?_ sz_node ?_ kA ?_ ?_ ?_); exact rfl; exact rfl; exact rfl; exact CL.out; decide; simp only [Act.put, List.setIfInBounds_toArray, List.set_cons_succ, List.set_cons_zero])
      | ((go_at_call 55; (with_reducible refine (between_any 26 n m ts 3 0 1 7 _ _ hT1).mono ?_); rintro e w' ⟨rfl, hN2⟩); rw [HB.out]; have kA2 := kA.below hN2 kA.lt; have hr2 := hr1.below hN2; have ht2 := Lib.hid (IsTs.below hN2 ht1.out); have hT2 := hT1.below hN2; have hb2 := hN1.trans (hN2.mono hN1.size))
      | ((with_reducible refine' wpList_field_blk (j := 3) (.tmp 1) 25 3 rfl ?_ fo_node_3 ?_ rfl ?_); exact rfl; exact rfl; simp only [Act.put, List.setIfInBounds_toArray, List.set_cons_succ, List.set_cons_zero])
      | ((with_reducible refine' wpList_load_blk (.tmp 13) 23 rfl ?_ ld_nds ?_ kA2 (X3.out) ?_); exact rfl; exact rfl; simp only [Act.put, List.setIfInBounds_toArray, List.set_cons_succ, List.set_cons_zero])
      | ((with_reducible refine' wpList_len_rd (.tmp 14) 23 rfl ?_ Tryd.underlying23 ?_ hr2 ?_); exact rfl; exact rfl; simp only [Act.put, List.setIfInBounds_toArray, List.set_cons_succ, List.set_cons_zero])
      | ((with_reducible refine' wpList_field_blk (j := 1) (.tmp 1) 25 1 rfl ?_ fo_node_1 ?_ rfl ?_); exact rfl; exact rfl; simp only [Act.put, List.setIfInBounds_toArray, List.set_cons_succ, List.set_cons_zero])
      | ((with_reducible refine' wpList_load_blk (.tmp 17) 3 rfl ?_ ld_int ?_ kA2 (X1.out) ?_); exact rfl; exact rfl; simp only [Act.put, List.setIfInBounds_toArray, List.set_cons_succ, List.set_cons_zero]))
  have XL := ht2.out.len
  obtain ⟨w2, rfl⟩ : ∃ w2 : World, w2 = w' := ⟨_, rfl⟩
  go_loopw [3] (fun i wr => ∃ j : Nat, j + 1 ≤ ts.length ∧ i = .int .i64 (j : Int) ∧ Hid (∀ r u, r < j → ts[r]? = some u → tfits u (fWant 26 n ts.length r) = true) ∧ Below w2.heap.size w2 wr) (fun i _ => ts.length - (intOf i).toNat)
  case atStart => exact ⟨0, by omega, rfl, Lib.hid (fun r u hr => absurd hr (by omega)), Below.refl _ _⟩
  case round =>
    obtain ⟨j, hj, rfl, HE, hbj⟩ := hrel
    obtain ⟨wo, rfl⟩ : ∃ wo : World, wo = wr := ⟨_, rfl⟩
    have hrj := hr2.below hbj
    have kAj := kA2.below hbj kA2.lt
    have hbw := hb2.trans (hbj.mono hb2.size)
    by_cases hlt : j + 1 < ts.length
    · obtain ⟨t, ht⟩ := kid_at (ts := ts) (i := j) (by omega)
      obtain ⟨cj, hcj⟩ : ∃ cs, (xs.drop (j * 4)).take 4 = cs := ⟨_, rfl⟩
      have hTj := (IsTs.get ht2.out ht).below hbj
      rw [hcj] at hTj
      have HC := Lib.hid hcj
      have BD := Lib.hid (show j * 4 + 4 ≤ xs.length by rw [XL]; omega)
      have HT1 := Lib.hid ht
      have LJ : decide ((j : Int) < (ts.length : Int) - 1) = true := by rw [decide_eq_true_eq]; omega
      have ZJ := Lib.hid (HZ.out t (List.mem_of_getElem? ht))
      clear hcj ht
      have GO (cf : tfits t (fWant 26 n ts.length j) = true) : ∀ r u, r < j + 1 → ts[r]? = some u → tfits u (fWant 26 n ts.length r) = true := fun r u hr hu => by
        by_cases hrj : r = j
        · subst hrj; rw [HT1.out] at hu; cases hu; exact cf
        · exact HE.out r u (by omega) hu
      have NO (cf : tfits t (fWant 26 n ts.length j) = false) : tfitsL (fWant 26 n ts.length) 0 ts = false := tfitsL_no HT1.out cf
      have HGO := Lib.hid GO
      have HNO := Lib.hid NO
      clear GO NO
      by_cases cjn : (j : Int) < n
      · have LN : decide ((j : Int) < n) = true := decide_eq_true cjn
        have FW := Lib.hid (fWant_plain (n := n) (L := ts.length) (j := j) (by omega) cjn)
        by_cases c2 : tfits t 2 = true
        · have CF := Lib.hid c2
          by_cases c3 : tfits t 3 = true
          · have CG := Lib.hid c3
            have HE2 := Lib.hid (HGO.out (by rw [FW.out]; exact c3))
            clear c2 c3 HE
            go_wp2_with (first
              | ((with_reducible refine' wpList_field_blk (j := 3) (.tmp 1) 25 3 rfl ?_ fo_node_3 ?_ rfl ?_); exact rfl; exact rfl; simp only [Act.put, List.setIfInBounds_toArray, List.set_cons_succ, List.set_cons_zero])
              | ((with_reducible refine' wpList_load_blk (.tmp 22) 23 rfl ?_ ld_nds ?_ kAj (X3.out) ?_); exact rfl; exact rfl; simp only [Act.put, List.setIfInBounds_toArray, List.set_cons_succ, List.set_cons_zero])
              | ((with_reducible refine' wpList_len_rd (.tmp 23) 23 rfl ?_ Tryd.underlying23 ?_ hrj ?_); exact rfl; exact rfl; simp only [Act.put, List.setIfInBounds_toArray, List.set_cons_succ, List.set_cons_zero])
              | ((with_reducible refine' wpList_load_blk (.tmp 29) 23 rfl ?_ ld_nds ?_ kAj (X3.out) ?_); exact rfl; exact rfl; simp only [Act.put, List.setIfInBounds_toArray, List.set_cons_succ, List.set_cons_zero])
              | ((with_reducible refine' wpList_at_rd (.tmp 30) (.tmp 31) 23 rfl ?_ Tryd.underlying23 sz_node ?_ hrj (by decide) (j) ?_ ?_ ?_); exact rfl; exact rfl; (show (_ : Int) = _; omega); omega; simp only [Act.put, List.setIfInBounds_toArray, List.set_cons_succ, List.set_cons_zero])
              | ((with_reducible refine' wpList_load_st (cp := cj) (.tmp 32) 25 rfl ?_ Tryd.underlying25 ?_ sz_node ?_ hrj ?_ ?_ HC.out ?_); exact rfl; exact rfl; exact rfl; exact BD.out; decide; simp only [Act.put, List.setIfInBounds_toArray, List.set_cons_succ, List.set_cons_zero])
              | ((go_at_call 76; (with_reducible refine (type_any t cj _ hTj ZJ.out).mono ?_); rintro e w' ⟨rfl, hN6⟩); rw [CF.out]; have kA6 := kAj.below hN6 kAj.lt; have hr6 := hrj.below hN6; have hT6 := hTj.below hN6)
              | ((with_reducible refine' wpList_field_blk (j := 1) (.tmp 1) 25 1 rfl ?_ fo_node_1 ?_ rfl ?_); exact rfl; exact rfl; simp only [Act.put, List.setIfInBounds_toArray, List.set_cons_succ, List.set_cons_zero])
              | ((with_reducible refine' wpList_load_blk (.tmp 38) 3 rfl ?_ ld_int ?_ kA6 (X1.out) ?_); exact rfl; exact rfl; simp only [Act.put, List.setIfInBounds_toArray, List.set_cons_succ, List.set_cons_zero])
              | ((with_reducible refine' wpList_load_blk (.tmp 42) 23 rfl ?_ ld_nds ?_ kA6 (X3.out) ?_); exact rfl; exact rfl; simp only [Act.put, List.setIfInBounds_toArray, List.set_cons_succ, List.set_cons_zero])
              | ((with_reducible refine' wpList_at_rd (.tmp 43) (.tmp 44) 23 rfl ?_ Tryd.underlying23 sz_node ?_ hr6 (by decide) (j) ?_ ?_ ?_); exact rfl; exact rfl; (show (_ : Int) = _; omega); omega; simp only [Act.put, List.setIfInBounds_toArray, List.set_cons_succ, List.set_cons_zero])
              | ((with_reducible refine' wpList_load_st (cp := cj) (.tmp 45) 25 rfl ?_ Tryd.underlying25 ?_ sz_node ?_ hr6 ?_ ?_ HC.out ?_); exact rfl; exact rfl; exact rfl; exact BD.out; decide; simp only [Act.put, List.setIfInBounds_toArray, List.set_cons_succ, List.set_cons_zero])
              | ((go_at_call 77; (with_reducible refine (plain_fits t cj _ hT6).mono ?_); rintro e w' ⟨rfl, hN7⟩); rw [CG.out]))
            go_roundw
            case rel => (first | exact ⟨j + 1, by omega, by go_num, HE2, hbj.trans (hN6.mono hbj.size) |>.trans (hN7.mono (hbj.trans (hN6.mono hbj.size)).size)⟩ | ((repeat apply Exists.intro); exact ⟨⟨j + 1, by omega, by go_num, HE2, hbj.trans (hN6.mono hbj.size) |>.trans (hN7.mono (hbj.trans (hN6.mono hbj.size)).size)⟩, rfl⟩))
            case measure => simp [intOf]; omega
          · have CG := Lib.hid (show tfits t 3 = false by simpa using c3)
            have HF := Lib.hid (HNO.out (by rw [FW.out]; exact CG.out))
            clear c2 c3 HE
            go_wp2_with (first
              | ((with_reducible refine' wpList_field_blk (j := 3) (.tmp 1) 25 3 rfl ?_ fo_node_3 ?_ rfl ?_); exact rfl; exact rfl; simp only [Act.put, List.setIfInBounds_toArray, List.set_cons_succ, List.set_cons_zero])
              | ((with_reducible refine' wpList_load_blk (.tmp 22) 23 rfl ?_ ld_nds ?_ kAj (X3.out) ?_); exact rfl; exact rfl; simp only [Act.put, List.setIfInBounds_toArray, List.set_cons_succ, List.set_cons_zero])
              | ((with_reducible refine' wpList_len_rd (.tmp 23) 23 rfl ?_ Tryd.underlying23 ?_ hrj ?_); exact rfl; exact rfl; simp only [Act.put, List.setIfInBounds_toArray, List.set_cons_succ, List.set_cons_zero])
              | ((with_reducible refine' wpList_load_blk (.tmp 29) 23 rfl ?_ ld_nds ?_ kAj (X3.out) ?_); exact rfl; exact rfl; simp only [Act.put, List.setIfInBounds_toArray, List.set_cons_succ, List.set_cons_zero])
              | ((with_reducible refine' wpList_at_rd (.tmp 30) (.tmp 31) 23 rfl ?_ Tryd.underlying23 sz_node ?_ hrj (by decide) (j) ?_ ?_ ?_); exact rfl; exact rfl; (show (_ : Int) = _; omega); omega; simp only [Act.put, List.setIfInBounds_toArray, List.set_cons_succ, List.set_cons_zero])
              | ((with_reducible refine' wpList_load_st (cp := cj) (.tmp 32) 25 rfl ?_ Tryd.underlying25 ?_ sz_node ?_ hrj ?_ ?_ HC.out ?_); exact rfl; exact rfl; exact rfl; exact BD.out; decide; simp only [Act.put, List.setIfInBounds_toArray, List.set_cons_succ, List.set_cons_zero])
              | ((go_at_call 76; (with_reducible refine (type_any t cj _ hTj ZJ.out).mono ?_); rintro e w' ⟨rfl, hN6⟩); rw [CF.out]; have kA6 := kAj.below hN6 kAj.lt; have hr6 := hrj.below hN6; have hT6 := hTj.below hN6)
              | ((with_reducible refine' wpList_field_blk (j := 1) (.tmp 1) 25 1 rfl ?_ fo_node_1 ?_ rfl ?_); exact rfl; exact rfl; simp only [Act.put, List.setIfInBounds_toArray, List.set_cons_succ, List.set_cons_zero])
              | ((with_reducible refine' wpList_load_blk (.tmp 38) 3 rfl ?_ ld_int ?_ kA6 (X1.out) ?_); exact rfl; exact rfl; simp only [Act.put, List.setIfInBounds_toArray, List.set_cons_succ, List.set_cons_zero])
              | ((with_reducible refine' wpList_load_blk (.tmp 42) 23 rfl ?_ ld_nds ?_ kA6 (X3.out) ?_); exact rfl; exact rfl; simp only [Act.put, List.setIfInBounds_toArray, List.set_cons_succ, List.set_cons_zero])
              | ((with_reducible refine' wpList_at_rd (.tmp 43) (.tmp 44) 23 rfl ?_ Tryd.underlying23 sz_node ?_ hr6 (by decide) (j) ?_ ?_ ?_); exact rfl; exact rfl; (show (_ : Int) = _; omega); omega; simp only [Act.put, List.setIfInBounds_toArray, List.set_cons_succ, List.set_cons_zero])
              | ((with_reducible refine' wpList_load_st (cp := cj) (.tmp 45) 25 rfl ?_ Tryd.underlying25 ?_ sz_node ?_ hr6 ?_ ?_ HC.out ?_); exact rfl; exact rfl; exact rfl; exact BD.out; decide; simp only [Act.put, List.setIfInBounds_toArray, List.set_cons_succ, List.set_cons_zero])
              | ((go_at_call 77; (with_reducible refine (plain_fits t cj _ hT6).mono ?_); rintro e w' ⟨rfl, hN7⟩); rw [CG.out]))
            go_ret
            rw [HV.out, HF.out]
            exact ⟨rfl, (hbw.trans (hN6.mono hbw.size)).trans (hN7.mono (hbw.trans (hN6.mono hbw.size)).size)⟩
        · have CF := Lib.hid (show tfits t 2 = false by simpa using c2)
          have HF := Lib.hid (HNO.out (by
            rw [FW.out]
            cases h3 : tfits t 3 with
            | false => rfl
            | true => exact absurd (tfits_3_2 t h3) c2))
          clear c2 HE
          go_wp2_with (first
            | ((with_reducible refine' wpList_field_blk (j := 3) (.tmp 1) 25 3 rfl ?_ fo_node_3 ?_ rfl ?_); exact rfl; exact rfl; simp only [Act.put, List.setIfInBounds_toArray, List.set_cons_succ, List.set_cons_zero])
            | ((with_reducible refine' wpList_load_blk (.tmp 22) 23 rfl ?_ ld_nds ?_ kAj (X3.out) ?_); exact rfl; exact rfl; simp only [Act.put, List.setIfInBounds_toArray, List.set_cons_succ, List.set_cons_zero])
            | ((with_reducible refine' wpList_len_rd (.tmp 23) 23 rfl ?_ Tryd.underlying23 ?_ hrj ?_); exact rfl; exact rfl; simp only [Act.put, List.setIfInBounds_toArray, List.set_cons_succ, List.set_cons_zero])
            | ((with_reducible refine' wpList_load_blk (.tmp 29) 23 rfl ?_ ld_nds ?_ kAj (X3.out) ?_); exact rfl; exact rfl; simp only [Act.put, List.setIfInBounds_toArray, List.set_cons_succ, List.set_cons_zero])
            | ((with_reducible refine' wpList_at_rd (.tmp 30) (.tmp 31) 23 rfl ?_ Tryd.underlying23 sz_node ?_ hrj (by decide) (j) ?_ ?_ ?_); exact rfl; exact rfl; (show (_ : Int) = _; omega); omega; simp only [Act.put, List.setIfInBounds_toArray, List.set_cons_succ, List.set_cons_zero])
            | ((with_reducible refine' wpList_load_st (cp := cj) (.tmp 32) 25 rfl ?_ Tryd.underlying25 ?_ sz_node ?_ hrj ?_ ?_ HC.out ?_); exact rfl; exact rfl; exact rfl; exact BD.out; decide; simp only [Act.put, List.setIfInBounds_toArray, List.set_cons_succ, List.set_cons_zero])
            | ((go_at_call 76; (with_reducible refine (type_any t cj _ hTj ZJ.out).mono ?_); rintro e w' ⟨rfl, hN6⟩); rw [CF.out]; have kA6 := kAj.below hN6 kAj.lt; have hr6 := hrj.below hN6; have hT6 := hTj.below hN6)
            | ((with_reducible refine' wpList_field_blk (j := 1) (.tmp 1) 25 1 rfl ?_ fo_node_1 ?_ rfl ?_); exact rfl; exact rfl; simp only [Act.put, List.setIfInBounds_toArray, List.set_cons_succ, List.set_cons_zero])
            | ((with_reducible refine' wpList_load_blk (.tmp 38) 3 rfl ?_ ld_int ?_ kA6 (X1.out) ?_); exact rfl; exact rfl; simp only [Act.put, List.setIfInBounds_toArray, List.set_cons_succ, List.set_cons_zero]))
          go_ret
          rw [HV.out, HF.out]
          exact ⟨rfl, hbw.trans (hN6.mono hbw.size)⟩
      · have LN : decide ((j : Int) < n) = false := decide_eq_false cjn
        have FW := Lib.hid (fWant_type (n := n) (L := ts.length) (j := j) (by omega) cjn)
        by_cases c2 : tfits t 2 = true
        · have CF := Lib.hid c2
          have HE2 := Lib.hid (HGO.out (by rw [FW.out]; exact c2))
          clear c2 HE
          go_wp2_with (first
            | ((with_reducible refine' wpList_field_blk (j := 3) (.tmp 1) 25 3 rfl ?_ fo_node_3 ?_ rfl ?_); exact rfl; exact rfl; simp only [Act.put, List.setIfInBounds_toArray, List.set_cons_succ, List.set_cons_zero])
            | ((with_reducible refine' wpList_load_blk (.tmp 22) 23 rfl ?_ ld_nds ?_ kAj (X3.out) ?_); exact rfl; exact rfl; simp only [Act.put, List.setIfInBounds_toArray, List.set_cons_succ, List.set_cons_zero])
            | ((with_reducible refine' wpList_len_rd (.tmp 23) 23 rfl ?_ Tryd.underlying23 ?_ hrj ?_); exact rfl; exact rfl; simp only [Act.put, List.setIfInBounds_toArray, List.set_cons_succ, List.set_cons_zero])
            | ((with_reducible refine' wpList_load_blk (.tmp 29) 23 rfl ?_ ld_nds ?_ kAj (X3.out) ?_); exact rfl; exact rfl; simp only [Act.put, List.setIfInBounds_toArray, List.set_cons_succ, List.set_cons_zero])
            | ((with_reducible refine' wpList_at_rd (.tmp 30) (.tmp 31) 23 rfl ?_ Tryd.underlying23 sz_node ?_ hrj (by decide) (j) ?_ ?_ ?_); exact rfl; exact rfl; (show (_ : Int) = _; omega); omega; simp only [Act.put, List.setIfInBounds_toArray, List.set_cons_succ, List.set_cons_zero])
            | ((with_reducible refine' wpList_load_st (cp := cj) (.tmp 32) 25 rfl ?_ Tryd.underlying25 ?_ sz_node ?_ hrj ?_ ?_ HC.out ?_); exact rfl; exact rfl; exact rfl; exact BD.out; decide; simp only [Act.put, List.setIfInBounds_toArray, List.set_cons_succ, List.set_cons_zero])
            | ((go_at_call 76; (with_reducible refine (type_any t cj _ hTj ZJ.out).mono ?_); rintro e w' ⟨rfl, hN6⟩); rw [CF.out]; have kA6 := kAj.below hN6 kAj.lt; have hr6 := hrj.below hN6; have hT6 := hTj.below hN6)
            | ((with_reducible refine' wpList_field_blk (j := 1) (.tmp 1) 25 1 rfl ?_ fo_node_1 ?_ rfl ?_); exact rfl; exact rfl; simp only [Act.put, List.setIfInBounds_toArray, List.set_cons_succ, List.set_cons_zero])
            | ((with_reducible refine' wpList_load_blk (.tmp 38) 3 rfl ?_ ld_int ?_ kA6 (X1.out) ?_); exact rfl; exact rfl; simp only [Act.put, List.setIfInBounds_toArray, List.set_cons_succ, List.set_cons_zero]))
          go_roundw
          case rel => (first | exact ⟨j + 1, by omega, by go_num, HE2, hbj.trans (hN6.mono hbj.size)⟩ | ((repeat apply Exists.intro); exact ⟨⟨j + 1, by omega, by go_num, HE2, hbj.trans (hN6.mono hbj.size)⟩, rfl⟩))
          case measure => simp [intOf]; omega
        · have CF := Lib.hid (show tfits t 2 = false by simpa using c2)
          have HF := Lib.hid (HNO.out (by rw [FW.out]; exact CF.out))
          clear c2 HE
          go_wp2_with (first
            | ((with_reducible refine' wpList_field_blk (j := 3) (.tmp 1) 25 3 rfl ?_ fo_node_3 ?_ rfl ?_); exact rfl; exact rfl; simp only [Act.put, List.setIfInBounds_toArray, List.set_cons_succ, List.set_cons_zero])
            | ((with_reducible refine' wpList_load_blk (.tmp 22) 23 rfl ?_ ld_nds ?_ kAj (X3.out) ?_); exact rfl; exact rfl; simp only [Act.put, List.setIfInBounds_toArray, List.set_cons_succ, List.set_cons_zero])
            | ((with_reducible refine' wpList_len_rd (.tmp 23) 23 rfl ?_ Tryd.underlying23 ?_ hrj ?_); exact rfl; exact rfl; simp only [Act.put, List.setIfInBounds_toArray, List.set_cons_succ, List.set_cons_zero])
            | ((with_reducible refine' wpList_load_blk (.tmp 29) 23 rfl ?_ ld_nds ?_ kAj (X3.out) ?_); exact rfl; exact rfl; simp only [Act.put, List.setIfInBounds_toArray, List.set_cons_succ, List.set_cons_zero])
            | ((with_reducible refine' wpList_at_rd (.tmp 30) (.tmp 31) 23 rfl ?_ Tryd.underlying23 sz_node ?_ hrj (by decide) (j) ?_ ?_ ?_); exact rfl; exact rfl; (show (_ : Int) = _; omega); omega; simp only [Act.put, List.setIfInBounds_toArray, List.set_cons_succ, List.set_cons_zero])
            | ((with_reducible refine' wpList_load_st (cp := cj) (.tmp 32) 25 rfl ?_ Tryd.underlying25 ?_ sz_node ?_ hrj ?_ ?_ HC.out ?_); exact rfl; exact rfl; exact rfl; exact BD.out; decide; simp only [Act.put, List.setIfInBounds_toArray, List.set_cons_succ, List.set_cons_zero])
            | ((go_at_call 76; (with_reducible refine (type_any t cj _ hTj ZJ.out).mono ?_); rintro e w' ⟨rfl, hN6⟩); rw [CF.out]; have kA6 := kAj.below hN6 kAj.lt; have hr6 := hrj.below hN6; have hT6 := hTj.below hN6)
            | ((with_reducible refine' wpList_field_blk (j := 1) (.tmp 1) 25 1 rfl ?_ fo_node_1 ?_ rfl ?_); exact rfl; exact rfl; simp only [Act.put, List.setIfInBounds_toArray, List.set_cons_succ, List.set_cons_zero])
            | ((with_reducible refine' wpList_load_blk (.tmp 38) 3 rfl ?_ ld_int ?_ kA6 (X1.out) ?_); exact rfl; exact rfl; simp only [Act.put, List.setIfInBounds_toArray, List.set_cons_succ, List.set_cons_zero]))
          go_ret
          rw [HV.out, HF.out]
          exact ⟨rfl, hbw.trans (hN6.mono hbw.size)⟩
    · have hje : j + 1 = ts.length := by omega
      obtain ⟨t, ht⟩ := kid_at (ts := ts) (i := j) (by omega)
      obtain ⟨cj, hcj⟩ : ∃ cs, (xs.drop (j * 4)).take 4 = cs := ⟨_, rfl⟩
      have hTj := (IsTs.get ht2.out ht).below hbj
      rw [hcj] at hTj
      have HC := Lib.hid hcj
      have BD := Lib.hid (show j * 4 + 4 ≤ xs.length by rw [XL]; omega)
      have LJ : decide ((j : Int) < (ts.length : Int) - 1) = false := by rw [decide_eq_false_iff_not]; omega
      have HF := Lib.hid (show tfitsL (fWant 26 n ts.length) 0 ts = tfits t 6 by
        rw [tfitsL_last hje.symm ht HE.out, ← hje, fWant_last])
      clear hcj ht
      go_wp2_with (first
        | ((with_reducible refine' wpList_field_blk (j := 3) (.tmp 1) 25 3 rfl ?_ fo_node_3 ?_ rfl ?_); exact rfl; exact rfl; simp only [Act.put, List.setIfInBounds_toArray, List.set_cons_succ, List.set_cons_zero])
        | ((with_reducible refine' wpList_load_blk (.tmp 22) 23 rfl ?_ ld_nds ?_ kAj (X3.out) ?_); exact rfl; exact rfl; simp only [Act.put, List.setIfInBounds_toArray, List.set_cons_succ, List.set_cons_zero])
        | ((with_reducible refine' wpList_len_rd (.tmp 23) 23 rfl ?_ Tryd.underlying23 ?_ hrj ?_); exact rfl; exact rfl; simp only [Act.put, List.setIfInBounds_toArray, List.set_cons_succ, List.set_cons_zero])
        | ((with_reducible refine' wpList_load_blk (.tmp 51) 23 rfl ?_ ld_nds ?_ kAj (X3.out) ?_); exact rfl; exact rfl; simp only [Act.put, List.setIfInBounds_toArray, List.set_cons_succ, List.set_cons_zero])
        | ((with_reducible refine' wpList_load_blk (.tmp 53) 23 rfl ?_ ld_nds ?_ kAj (X3.out) ?_); exact rfl; exact rfl; simp only [Act.put, List.setIfInBounds_toArray, List.set_cons_succ, List.set_cons_zero])
        | ((with_reducible refine' wpList_len_rd (.tmp 54) 23 rfl ?_ Tryd.underlying23 ?_ hrj ?_); exact rfl; exact rfl; simp only [Act.put, List.setIfInBounds_toArray, List.set_cons_succ, List.set_cons_zero])
        | ((with_reducible refine' wpList_at_rd (.tmp 52) (.tmp 56) 23 rfl ?_ Tryd.underlying23 sz_node ?_ hrj (by decide) (j) ?_ ?_ ?_); exact rfl; exact rfl; (show (_ : Int) = _; omega); omega; simp only [Act.put, List.setIfInBounds_toArray, List.set_cons_succ, List.set_cons_zero])
        | ((with_reducible refine' wpList_load_st (cp := cj) (.tmp 57) 25 rfl ?_ Tryd.underlying25 ?_ sz_node ?_ hrj ?_ ?_ HC.out ?_); exact rfl; exact rfl; exact rfl; exact BD.out; decide; simp only [Act.put, List.setIfInBounds_toArray, List.set_cons_succ, List.set_cons_zero])
        | ((go_at_call 78; (with_reducible refine (block_any t cj _ hTj).mono ?_); rintro e w' ⟨rfl, hN6⟩)))
      go_ret
      rw [HV.out, HF.out]
      exact ⟨rfl, hbw.trans (hN6.mono hbw.size)⟩
theorem reffun_any (t : Tree) (cs : List Value) (w : World) (hT : IsT w t cs) (hz : tsize t ≤ 1000000) :
    Calls Tryd.prog 56 #[.agg cs.toArray] w fun e w' => e = .returned (.bool (tfits t 1)) ∧ Below w.heap.size w w' := by
  cases t with
  | mk k n m ts => exact fun_of k n m ts cs w hT hz
set_option maxRecDepth 100000 in
set_option maxHeartbeats 3200000 in
theorem refvalid_of (k n m : Int) (ts : List Tree) (cs : List Value) (w : World) (hT : IsT w (.mk k n m ts) cs) (hz : tsize (.mk k n m ts) ≤ 1000000) :
    Calls Tryd.prog 23 #[.agg cs.toArray] w fun e w' => e = .returned (.bool (tvalid (.mk k n m ts))) ∧ Below w.heap.size w w' := by
  have hdz := tdepth_le (.mk k n m ts)
  have HZ0 := Lib.hid hz
  have HT0 := Lib.hid hT
  rw [IsT] at hT
  obtain ⟨v, xs, rfl, hr, hts⟩ := hT
  have CO := Lib.hid (HT0.out.ones)
  have CL := Lib.hid (HT0.out.len)
  have X0 := Lib.hid (show ([.int .i64 k, .int .i64 n, .int .i64 m, v] : List Value)[0]? = some (.int .i64 k) from rfl)
  have X1 := Lib.hid (show ([.int .i64 k, .int .i64 n, .int .i64 m, v] : List Value)[1]? = some (.int .i64 n) from rfl)
  have X2 := Lib.hid (show ([.int .i64 k, .int .i64 n, .int .i64 m, v] : List Value)[2]? = some (.int .i64 m) from rfl)
  have X3 := Lib.hid (show ([.int .i64 k, .int .i64 n, .int .i64 m, v] : List Value)[3]? = some v from rfl)
  go_enter Tryd.func23, Tryd.ntmps23
  go_upto_region 1 with (((with_reducible refine' wpList_boxa (cs := [.int .i64 k, .int .i64 n, .int .i64 m, v]) 25 (.tmp 0) rfl ?_ ?_ ?_); exact rfl; exact rfl; intro w1 kA hN1 hz1; simp only [Act.put, List.setIfInBounds_toArray, List.set_cons_succ, List.set_cons_zero]))
  have hr1 := hr.below hN1
  have ht1 := Lib.hid (IsTs.below hN1 hts)
  have hT1 := HT0.out.below hN1
  clear hr hz1 hts
  by_cases k27 : k = 27
  rotate_left
  · have q27 : decide (k = 27) = false := decide_eq_false k27
    have p27 : (k == 27) = false := by rw [beq_eq_false_iff_ne]; exact k27
    have r27 : (k != 27) = true := by rw [bne_iff_ne]; exact k27
    have HV := Lib.hid (tvalid_kno k n m ts k27)
    clear k27
    go_wp2_with (first
      | ((with_reducible refine' wpList_field_blk (j := 0) (.tmp 1) 25 0 rfl ?_ fo_node_0 ?_ rfl ?_); exact rfl; exact rfl; simp only [Act.put, List.setIfInBounds_toArray, List.set_cons_succ, List.set_cons_zero])
      | ((with_reducible refine' wpList_load_blk (.tmp 4) 3 rfl ?_ ld_int ?_ kA (X0.out) ?_); exact rfl; exact rfl; simp only [Act.put, List.setIfInBounds_toArray, List.set_cons_succ, List.set_cons_zero]))
    go_ret
    rw [HV.out]
    exact ⟨rfl, hN1⟩
  subst k27
  cases hb : btw n m ts.length 3 0 1 6 with
  | false =>
    have HB := Lib.hid hb
    have HV := Lib.hid (show tvalid (.mk 27 n m ts) = false by rw [tvalid, tfits_prog, hb]; simp)
    clear hb
    go_wp2_with (first
      | ((with_reducible refine' wpList_field_blk (j := 0) (.tmp 1) 25 0 rfl ?_ fo_node_0 ?_ rfl ?_); exact rfl; exact rfl; simp only [Act.put, List.setIfInBounds_toArray, List.set_cons_succ, List.set_cons_zero])
      | ((with_reducible refine' wpList_load_blk (.tmp 4) 3 rfl ?_ ld_int ?_ kA (X0.out) ?_); exact rfl; exact rfl; simp only [Act.put, List.setIfInBounds_toArray, List.set_cons_succ, List.set_cons_zero])
      | ((with_reducible refine' wpList_loadst_blk (.tmp 1) 25 rfl ?_ Tryd.underlying25 ?_ sz_node ?_ kA ?_ ?_ ?_); exact rfl; exact rfl; exact rfl; exact CL.out; decide; simp only [Act.put, List.setIfInBounds_toArray, List.set_cons_succ, List.set_cons_zero])
      | ((go_at_call 55; (with_reducible refine (between_any 27 n m ts 3 0 1 6 _ _ hT1).mono ?_); rintro e w' ⟨rfl, hN2⟩); rw [HB.out]; have kA2 := kA.below hN2 kA.lt; have hr2 := hr1.below hN2; have ht2 := Lib.hid (IsTs.below hN2 ht1.out); have hT2 := hT1.below hN2; have hb2 := hN1.trans (hN2.mono hN1.size)))
    go_ret
    rw [HV.out]
    exact ⟨rfl, hb2⟩
  | true =>
  have HB := Lib.hid hb
  have HL := Lib.hid (show 1 ≤ ts.length ∧ ts.length ≤ 6 by simp only [btw, Bool.and_eq_true, decide_eq_true_eq] at hb; omega)
  have HZ := Lib.hid (show ∀ t ∈ ts, tsize t ≤ 1000000 from fun t ht => by rw [tsize] at hz; have := tsize_mem ht; omega)
  have hl := HL.out
  obtain ⟨sz, hsz⟩ : ∃ x, tsize (.mk 27 n m ts) = x := ⟨_, rfl⟩
  obtain ⟨dp, hdp⟩ : ∃ x, tdepth (.mk 27 n m ts) = x := ⟨_, rfl⟩
  have HSZ := Lib.hid hsz
  have HDP := Lib.hid hdp
  have HV := Lib.hid (show tvalid (.mk 27 n m ts) = (decide (sz ≤ 256) && (decide (dp ≤ 16) && tall 1 ts)) by rw [tvalid, tfits_prog, hb, hsz, hdp]; rfl)
  rw [hsz, hdp] at hdz
  rw [hsz] at hz
  clear hsz hdp hb
  by_cases c1 : sz ≤ 256
  rotate_left
  · have HV2 := Lib.hid (show tvalid (.mk 27 n m ts) = false by rw [HV.out, decide_eq_false c1]; rfl)
    have b1 : decide ((sz : Int) ≤ 256) = false := decide_eq_false (by omega)
    have b2 : decide ((256 : Int) < (sz : Int)) = true := decide_eq_true (by omega)
    clear c1
    go_wp2_with (first
      | ((with_reducible refine' wpList_field_blk (j := 0) (.tmp 1) 25 0 rfl ?_ fo_node_0 ?_ rfl ?_); exact rfl; exact rfl; simp only [Act.put, List.setIfInBounds_toArray, List.set_cons_succ, List.set_cons_zero])
      | ((with_reducible refine' wpList_load_blk (.tmp 4) 3 rfl ?_ ld_int ?_ kA (X0.out) ?_); exact rfl; exact rfl; simp only [Act.put, List.setIfInBounds_toArray, List.set_cons_succ, List.set_cons_zero])
      | ((with_reducible refine' wpList_loadst_blk (.tmp 1) 25 rfl ?_ Tryd.underlying25 ?_ sz_node ?_ kA ?_ ?_ ?_); exact rfl; exact rfl; exact rfl; exact CL.out; decide; simp only [Act.put, List.setIfInBounds_toArray, List.set_cons_succ, List.set_cons_zero])
      | ((go_at_call 55; (with_reducible refine (between_any 27 n m ts 3 0 1 6 _ _ hT1).mono ?_); rintro e w' ⟨rfl, hN2⟩); rw [HB.out]; have kA2 := kA.below hN2 kA.lt; have hr2 := hr1.below hN2; have ht2 := Lib.hid (IsTs.below hN2 ht1.out); have hT2 := hT1.below hN2; have hb2 := hN1.trans (hN2.mono hN1.size))
      | ((with_reducible refine' wpList_loadst_blk (.tmp 1) 25 rfl ?_ Tryd.underlying25 ?_ sz_node ?_ kA2 ?_ ?_ ?_); exact rfl; exact rfl; exact rfl; exact CL.out; decide; simp only [Act.put, List.setIfInBounds_toArray, List.set_cons_succ, List.set_cons_zero])
      | ((go_at_call 16; (with_reducible refine (refsize_any _ _ _ hT2 HZ0.out).mono ?_); rintro e w' ⟨rfl, hN3⟩); rw [HSZ.out]; have hT3 := hT2.below hN3; have kA3 := kA2.below hN3 kA2.lt; have hr3 := hr2.below hN3; have ht3 := Lib.hid (IsTs.below hN3 ht2.out); have hb3 := hb2.trans (hN3.mono hb2.size)))
    go_ret
    rw [HV2.out]
    exact ⟨rfl, hb3⟩
  by_cases c2 : dp ≤ 16
  rotate_left
  · have HV2 := Lib.hid (show tvalid (.mk 27 n m ts) = false by rw [HV.out, decide_eq_false c2]; simp)
    have b1 : decide ((sz : Int) ≤ 256) = true := decide_eq_true (by omega)
    have b2 : decide ((256 : Int) < (sz : Int)) = false := decide_eq_false (by omega)
    have d1 : decide ((dp : Int) ≤ 16) = false := decide_eq_false (by omega)
    have d2 : decide ((16 : Int) < (dp : Int)) = true := decide_eq_true (by omega)
    clear c1 c2
    go_wp2_with (first
      | ((with_reducible refine' wpList_field_blk (j := 0) (.tmp 1) 25 0 rfl ?_ fo_node_0 ?_ rfl ?_); exact rfl; exact rfl; simp only [Act.put, List.setIfInBounds_toArray, List.set_cons_succ, List.set_cons_zero])
      | ((with_reducible refine' wpList_load_blk (.tmp 4) 3 rfl ?_ ld_int ?_ kA (X0.out) ?_); exact rfl; exact rfl; simp only [Act.put, List.setIfInBounds_toArray, List.set_cons_succ, List.set_cons_zero])
      | ((with_reducible refine' wpList_loadst_blk (.tmp 1) 25 rfl ?_ Tryd.underlying25 ?_ sz_node ?_ kA ?_ ?_ ?_); exact rfl; exact rfl; exact rfl; exact CL.out; decide; simp only [Act.put, List.setIfInBounds_toArray, List.set_cons_succ, List.set_cons_zero])
      | ((go_at_call 55; (with_reducible refine (between_any 27 n m ts 3 0 1 6 _ _ hT1).mono ?_); rintro e w' ⟨rfl, hN2⟩); rw [HB.out]; have kA2 := kA.below hN2 kA.lt; have hr2 := hr1.below hN2; have ht2 := Lib.hid (IsTs.below hN2 ht1.out); have hT2 := hT1.below hN2; have hb2 := hN1.trans (hN2.mono hN1.size))
      | ((with_reducible refine' wpList_loadst_blk (.tmp 1) 25 rfl ?_ Tryd.underlying25 ?_ sz_node ?_ kA2 ?_ ?_ ?_); exact rfl; exact rfl; exact rfl; exact CL.out; decide; simp only [Act.put, List.setIfInBounds_toArray, List.set_cons_succ, List.set_cons_zero])
      | ((go_at_call 16; (with_reducible refine (refsize_any _ _ _ hT2 HZ0.out).mono ?_); rintro e w' ⟨rfl, hN3⟩); rw [HSZ.out]; have hT3 := hT2.below hN3; have kA3 := kA2.below hN3 kA2.lt; have hr3 := hr2.below hN3; have ht3 := Lib.hid (IsTs.below hN3 ht2.out); have hb3 := hb2.trans (hN3.mono hb2.size))
      | ((with_reducible refine' wpList_loadst_blk (.tmp 1) 25 rfl ?_ Tryd.underlying25 ?_ sz_node ?_ kA3 ?_ ?_ ?_); exact rfl; exact rfl; exact rfl; exact CL.out; decide; simp only [Act.put, List.setIfInBounds_toArray, List.set_cons_succ, List.set_cons_zero])
      | ((go_at_call 18; (with_reducible refine (refdepth_any _ _ _ hT3 HZ0.out).mono ?_); rintro e w' ⟨rfl, hN4⟩); rw [HDP.out]; have kA4 := kA3.below hN4 kA3.lt; have hr4 := hr3.below hN4; have ht4 := Lib.hid (IsTs.below hN4 ht3.out); have hb4 := hb3.trans (hN4.mono hb3.size)))
    go_ret
    rw [HV2.out]
    exact ⟨rfl, hb4⟩
  have HV2 := Lib.hid (show tvalid (.mk 27 n m ts) = tall 1 ts by rw [HV.out, decide_eq_true c1, decide_eq_true c2]; rfl)
  have b1 : decide ((sz : Int) ≤ 256) = true := decide_eq_true (by omega)
  have b2 : decide ((256 : Int) < (sz : Int)) = false := decide_eq_false (by omega)
  have d1 : decide ((dp : Int) ≤ 16) = true := decide_eq_true (by omega)
  have d2 : decide ((16 : Int) < (dp : Int)) = false := decide_eq_false (by omega)
  clear c1 c2
  go_upto_region 4 with (first
      | ((with_reducible refine' wpList_field_blk (j := 0) (.tmp 1) 25 0 rfl ?_ fo_node_0 ?_ rfl ?_); exact rfl; exact rfl; simp only [Act.put, List.setIfInBounds_toArray, List.set_cons_succ, List.set_cons_zero])
      | ((with_reducible refine' wpList_load_blk (.tmp 4) 3 rfl ?_ ld_int ?_ kA (X0.out) ?_); exact rfl; exact rfl; simp only [Act.put, List.setIfInBounds_toArray, List.set_cons_succ, List.set_cons_zero])
      | ((with_reducible refine' wpList_loadst_blk (.tmp 1) 25 rfl ?_ Tryd.underlying25 ?_ sz_node ?_ kA ?_ ?_ ?_); exact rfl; exact rfl; exact rfl; exact CL.out; decide; simp only [Act.put, List.setIfInBounds_toArray, List.set_cons_succ, List.set_cons_zero])
      | ((go_at_call 55; (with_reducible refine (between_any 27 n m ts 3 0 1 6 _ _ hT1).mono ?_); rintro e w' ⟨rfl, hN2⟩); rw [HB.out]; have kA2 := kA.below hN2 kA.lt; have hr2 := hr1.below hN2; have ht2 := Lib.hid (IsTs.below hN2 ht1.out); have hT2 := hT1.below hN2; have hb2 := hN1.trans (hN2.mono hN1.size))
      | ((with_reducible refine' wpList_loadst_blk (.tmp 1) 25 rfl ?_ Tryd.underlying25 ?_ sz_node ?_ kA2 ?_ ?_ ?_); exact rfl; exact rfl; exact rfl; exact CL.out; decide; simp only [Act.put, List.setIfInBounds_toArray, List.set_cons_succ, List.set_cons_zero])
      | ((go_at_call 16; (with_reducible refine (refsize_any _ _ _ hT2 HZ0.out).mono ?_); rintro e w' ⟨rfl, hN3⟩); rw [HSZ.out]; have hT3 := hT2.below hN3; have kA3 := kA2.below hN3 kA2.lt; have hr3 := hr2.below hN3; have ht3 := Lib.hid (IsTs.below hN3 ht2.out); have hb3 := hb2.trans (hN3.mono hb2.size))
      | ((with_reducible refine' wpList_loadst_blk (.tmp 1) 25 rfl ?_ Tryd.underlying25 ?_ sz_node ?_ kA3 ?_ ?_ ?_); exact rfl; exact rfl; exact rfl; exact CL.out; decide; simp only [Act.put, List.setIfInBounds_toArray, List.set_cons_succ, List.set_cons_zero])
      | ((go_at_call 18; (with_reducible refine (refdepth_any _ _ _ hT3 HZ0.out).mono ?_); rintro e w' ⟨rfl, hN4⟩); rw [HDP.out]; have kA4 := kA3.below hN4 kA3.lt; have hr4 := hr3.below hN4; have ht4 := Lib.hid (IsTs.below hN4 ht3.out); have hb4 := hb3.trans (hN4.mono hb3.size)))
  have XL := ht4.out.len
  obtain ⟨w4, rfl⟩ : ∃ w4 : World, w4 = w' := ⟨_, rfl⟩
  go_loopw [3] (fun i wr => ∃ j : Nat, j ≤ ts.length ∧ i = .int .i64 (j : Int) ∧ Hid (∀ r u, r < j → ts[r]? = some u → tfits u 1 = true) ∧ Below w4.heap.size w4 wr) (fun i _ => ts.length - (intOf i).toNat)
  case atStart => exact ⟨0, Nat.zero_le _, rfl, Lib.hid (fun r u hr => absurd hr (by omega)), Below.refl _ _⟩
  case round =>
    obtain ⟨j, hj, rfl, HE, hbj⟩ := hrel
    obtain ⟨wo, rfl⟩ : ∃ wo : World, wo = wr := ⟨_, rfl⟩
    have hrj := hr4.below hbj
    have kAj := kA4.below hbj kA4.lt
    have hbw := hb4.trans (hbj.mono hb4.size)
    by_cases hlt : j < ts.length
    · obtain ⟨t, ht⟩ := kid_at (ts := ts) (i := j) (by omega)
      obtain ⟨cj, hcj⟩ : ∃ cs, (xs.drop (j * 4)).take 4 = cs := ⟨_, rfl⟩
      have hTj := (IsTs.get ht4.out ht).below hbj
      rw [hcj] at hTj
      have HC := Lib.hid hcj
      have BD := Lib.hid (show j * 4 + 4 ≤ xs.length by rw [XL]; omega)
      have HT1 := Lib.hid ht
      have ZJ := Lib.hid (HZ.out t (List.mem_of_getElem? ht))
      have LJ : decide ((j : Int) < (ts.length : Int)) = true := by rw [decide_eq_true_eq]; omega
      clear hcj ht
      by_cases cf : tfits t 1 = true
      · have CF := Lib.hid cf
        have HE2 := Lib.hid (show ∀ r u, r < j + 1 → ts[r]? = some u → tfits u 1 = true from fun r u hr hu => by
          by_cases hrj : r = j
          · subst hrj; rw [HT1.out] at hu; cases hu; exact CF.out
          · exact HE.out r u (by omega) hu)
        clear cf HE
        go_wp2_with (first
          | ((with_reducible refine' wpList_field_blk (j := 3) (.tmp 1) 25 3 rfl ?_ fo_node_3 ?_ rfl ?_); exact rfl; exact rfl; simp only [Act.put, List.setIfInBounds_toArray, List.set_cons_succ, List.set_cons_zero])
          | ((with_reducible refine' wpList_load_blk (.tmp 23) 23 rfl ?_ ld_nds ?_ kAj (X3.out) ?_); exact rfl; exact rfl; simp only [Act.put, List.setIfInBounds_toArray, List.set_cons_succ, List.set_cons_zero])
          | ((with_reducible refine' wpList_len_rd (.tmp 24) 23 rfl ?_ Tryd.underlying23 ?_ hrj ?_); exact rfl; exact rfl; simp only [Act.put, List.setIfInBounds_toArray, List.set_cons_succ, List.set_cons_zero])
          | ((with_reducible refine' wpList_load_blk (.tmp 29) 23 rfl ?_ ld_nds ?_ kAj (X3.out) ?_); exact rfl; exact rfl; simp only [Act.put, List.setIfInBounds_toArray, List.set_cons_succ, List.set_cons_zero])
          | ((with_reducible refine' wpList_at_rd (.tmp 30) (.tmp 31) 23 rfl ?_ Tryd.underlying23 sz_node ?_ hrj (by decide) (j) ?_ ?_ ?_); exact rfl; exact rfl; (show (_ : Int) = _; omega); omega; simp only [Act.put, List.setIfInBounds_toArray, List.set_cons_succ, List.set_cons_zero]) | ((with_reducible refine' wpList_load_st (cp := cj) (.tmp 32) 25 rfl ?_ Tryd.underlying25 ?_ sz_node ?_ hrj ?_ ?_ HC.out ?_); exact rfl; exact rfl; exact rfl; exact BD.out; decide; simp only [Act.put, List.setIfInBounds_toArray, List.set_cons_succ, List.set_cons_zero])
          | ((go_at_call 56; (with_reducible refine (reffun_any t cj _ hTj ZJ.out).mono ?_); rintro e w' ⟨rfl, hN6⟩); rw [CF.out]))
        go_roundw
        case rel => (first | exact ⟨j + 1, by omega, by go_num, HE2, hbj.trans (hN6.mono hbj.size)⟩ | ((repeat apply Exists.intro); exact ⟨⟨j + 1, by omega, by go_num, HE2, hbj.trans (hN6.mono hbj.size)⟩, rfl⟩))
        case measure => simp [intOf]; omega
      · have CF := Lib.hid (show tfits t 1 = false by simpa using cf)
        have HF := Lib.hid (show tall 1 ts = false from tall_no (List.mem_of_getElem? HT1.out) CF.out)
        clear cf HE
        go_wp2_with (first
          | ((with_reducible refine' wpList_field_blk (j := 3) (.tmp 1) 25 3 rfl ?_ fo_node_3 ?_ rfl ?_); exact rfl; exact rfl; simp only [Act.put, List.setIfInBounds_toArray, List.set_cons_succ, List.set_cons_zero])
          | ((with_reducible refine' wpList_load_blk (.tmp 23) 23 rfl ?_ ld_nds ?_ kAj (X3.out) ?_); exact rfl; exact rfl; simp only [Act.put, List.setIfInBounds_toArray, List.set_cons_succ, List.set_cons_zero])
          | ((with_reducible refine' wpList_len_rd (.tmp 24) 23 rfl ?_ Tryd.underlying23 ?_ hrj ?_); exact rfl; exact rfl; simp only [Act.put, List.setIfInBounds_toArray, List.set_cons_succ, List.set_cons_zero])
          | ((with_reducible refine' wpList_load_blk (.tmp 29) 23 rfl ?_ ld_nds ?_ kAj (X3.out) ?_); exact rfl; exact rfl; simp only [Act.put, List.setIfInBounds_toArray, List.set_cons_succ, List.set_cons_zero])
          | ((with_reducible refine' wpList_at_rd (.tmp 30) (.tmp 31) 23 rfl ?_ Tryd.underlying23 sz_node ?_ hrj (by decide) (j) ?_ ?_ ?_); exact rfl; exact rfl; (show (_ : Int) = _; omega); omega; simp only [Act.put, List.setIfInBounds_toArray, List.set_cons_succ, List.set_cons_zero]) | ((with_reducible refine' wpList_load_st (cp := cj) (.tmp 32) 25 rfl ?_ Tryd.underlying25 ?_ sz_node ?_ hrj ?_ ?_ HC.out ?_); exact rfl; exact rfl; exact rfl; exact BD.out; decide; simp only [Act.put, List.setIfInBounds_toArray, List.set_cons_succ, List.set_cons_zero])
          | ((go_at_call 56; (with_reducible refine (reffun_any t cj _ hTj ZJ.out).mono ?_); rintro e w' ⟨rfl, hN6⟩); rw [CF.out]))
        go_ret
        rw [HV2.out, HF.out]
        exact ⟨rfl, hbw.trans (hN6.mono hbw.size)⟩
    · obtain rfl : j = ts.length := by omega
      have HF := Lib.hid (show tall 1 ts = true from (tall_iff 1 ts).2 fun u hu => by
        obtain ⟨r, hr, rfl⟩ := List.mem_iff_getElem.1 hu
        exact HE.out r _ hr (List.getElem?_eq_getElem hr))
      go_wp2_with (first
        | ((with_reducible refine' wpList_field_blk (j := 3) (.tmp 1) 25 3 rfl ?_ fo_node_3 ?_ rfl ?_); exact rfl; exact rfl; simp only [Act.put, List.setIfInBounds_toArray, List.set_cons_succ, List.set_cons_zero])
        | ((with_reducible refine' wpList_load_blk (.tmp 23) 23 rfl ?_ ld_nds ?_ kAj (X3.out) ?_); exact rfl; exact rfl; simp only [Act.put, List.setIfInBounds_toArray, List.set_cons_succ, List.set_cons_zero])
        | ((with_reducible refine' wpList_len_rd (.tmp 24) 23 rfl ?_ Tryd.underlying23 ?_ hrj ?_); exact rfl; exact rfl; simp only [Act.put, List.setIfInBounds_toArray, List.set_cons_succ, List.set_cons_zero]))
      go_ret
      rw [HV2.out, HF.out]
      exact ⟨rfl, hbw⟩
theorem refvalid_any (t : Tree) (cs : List Value) (w : World) (hT : IsT w t cs) (hz : tsize t ≤ 1000000) :
    Calls Tryd.prog 23 #[.agg cs.toArray] w fun e w' => e = .returned (.bool (tvalid t)) ∧ Below w.heap.size w w' := by
  cases t with
  | mk k n m ts => exact refvalid_of k n m ts cs w hT hz
end Go.Proofs.YtdlhkhnoigbhjaaDoor.Wi
