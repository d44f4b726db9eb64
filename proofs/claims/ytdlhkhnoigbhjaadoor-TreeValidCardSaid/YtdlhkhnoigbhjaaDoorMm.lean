/-
  Tvr, Tvs, Tvt, Tvu: my texts of these names, one behind the other. Conditions: those that each law names.
-/
import Derived.Test.YtdlhkhnoigbhjaaDoorMl
namespace Go.Proofs.YtdlhkhnoigbhjaaDoor.Pu
def btw (n m : Int) (len : Nat) (most last least kids : Int) : Bool :=
  decide (0 ≤ n) && (decide (n ≤ most) && (decide (0 ≤ m) && (decide (m ≤ last) && (decide (least ≤ (len : Int)) && decide ((len : Int) ≤ kids)))))
def pln (k n m : Int) (len : Nat) : Bool := (decide (k = 0) || decide (k = 1)) && (decide (n = 0) && (decide (m = 0) && decide (len = 0)))
end Go.Proofs.YtdlhkhnoigbhjaaDoor.Pu
namespace Go.Proofs.YtdlhkhnoigbhjaaDoor.Wi
open Go Go.RowKit Pu Lb
set_option linter.unusedSimpArgs false
set_option linter.unusedVariables false
set_option maxRecDepth 100000 in
theorem between_any (k n m : Int) (ts : List Tree) (most last least kids : Int) (cs : List Value) (w : World) (hT : IsT w (.mk k n m ts) cs) :
    Calls Tryd.prog 55 #[.agg cs.toArray, .int .i64 most, .int .i64 last, .int .i64 least, .int .i64 kids] w fun e w' => e = .returned (.bool (btw n m ts.length most last least kids)) ∧ Below w.heap.size w w' := by
  have HT0 := Lib.hid hT
  rw [IsT] at hT
  obtain ⟨v, xs, rfl, hr, hts⟩ := hT
  have CO := Lib.hid (HT0.out.ones)
  have X0 := Lib.hid (show ([.int .i64 k, .int .i64 n, .int .i64 m, v] : List Value)[0]? = some (.int .i64 k) from rfl)
  have X1 := Lib.hid (show ([.int .i64 k, .int .i64 n, .int .i64 m, v] : List Value)[1]? = some (.int .i64 n) from rfl)
  have X2 := Lib.hid (show ([.int .i64 k, .int .i64 n, .int .i64 m, v] : List Value)[2]? = some (.int .i64 m) from rfl)
  have X3 := Lib.hid (show ([.int .i64 k, .int .i64 n, .int .i64 m, v] : List Value)[3]? = some v from rfl)
  clear hts
  obtain ⟨L, hL⟩ : ∃ L, ts.length = L := ⟨_, rfl⟩
  rw [hL] at hr ⊢
  clear hL
  go_enter Tryd.func55, Tryd.ntmps55
  go_upto_region 1 with (((with_reducible refine' wpList_boxa (cs := [.int .i64 k, .int .i64 n, .int .i64 m, v]) 25 (.tmp 0) rfl ?_ ?_ ?_); exact rfl; exact rfl; intro w1 kA hN1 hz1; simp only [Act.put, List.setIfInBounds_toArray, List.set_cons_succ, List.set_cons_zero]))
  have hr1 := hr.below hN1
  clear hr hz1
  by_cases c0 : 0 ≤ n
  rotate_left
  · have e0 : decide (0 ≤ n) = false := decide_eq_false c0
    have HV := Lib.hid (show btw n m L most last least kids = false by unfold btw; rw [e0]; rfl)
    clear c0
    go_wp2_with (first | ((with_reducible refine' wpList_field_blk (j := 1) (.tmp 5) 25 1 rfl ?_ fo_node_1 ?_ rfl ?_); exact rfl; exact rfl; simp only [Act.put, List.setIfInBounds_toArray, List.set_cons_succ, List.set_cons_zero]) | ((with_reducible refine' wpList_field_blk (j := 2) (.tmp 5) 25 2 rfl ?_ fo_node_2 ?_ rfl ?_); exact rfl; exact rfl; simp only [Act.put, List.setIfInBounds_toArray, List.set_cons_succ, List.set_cons_zero]) | ((with_reducible refine' wpList_field_blk (j := 3) (.tmp 5) 25 3 rfl ?_ fo_node_3 ?_ rfl ?_); exact rfl; exact rfl; simp only [Act.put, List.setIfInBounds_toArray, List.set_cons_succ, List.set_cons_zero]) | ((with_reducible refine' wpList_load_blk (.tmp 11) 3 rfl ?_ ld_int ?_ kA (X1.out) ?_); exact rfl; exact rfl; simp only [Act.put, List.setIfInBounds_toArray, List.set_cons_succ, List.set_cons_zero]) | ((with_reducible refine' wpList_load_blk (.tmp 15) 3 rfl ?_ ld_int ?_ kA (X1.out) ?_); exact rfl; exact rfl; simp only [Act.put, List.setIfInBounds_toArray, List.set_cons_succ, List.set_cons_zero]) | ((with_reducible refine' wpList_load_blk (.tmp 21) 3 rfl ?_ ld_int ?_ kA (X2.out) ?_); exact rfl; exact rfl; simp only [Act.put, List.setIfInBounds_toArray, List.set_cons_succ, List.set_cons_zero]) | ((with_reducible refine' wpList_load_blk (.tmp 26) 3 rfl ?_ ld_int ?_ kA (X2.out) ?_); exact rfl; exact rfl; simp only [Act.put, List.setIfInBounds_toArray, List.set_cons_succ, List.set_cons_zero]) | ((with_reducible refine' wpList_load_blk (.tmp 32) 23 rfl ?_ ld_nds ?_ kA (X3.out) ?_); exact rfl; exact rfl; simp only [Act.put, List.setIfInBounds_toArray, List.set_cons_succ, List.set_cons_zero]) | ((with_reducible refine' wpList_load_blk (.tmp 39) 23 rfl ?_ ld_nds ?_ kA (X3.out) ?_); exact rfl; exact rfl; simp only [Act.put, List.setIfInBounds_toArray, List.set_cons_succ, List.set_cons_zero]) | ((with_reducible refine' wpList_len_rd (.tmp 33) 23 rfl ?_ Tryd.underlying23 ?_ hr1 ?_); exact rfl; exact rfl; simp only [Act.put, List.setIfInBounds_toArray, List.set_cons_succ, List.set_cons_zero]) | ((with_reducible refine' wpList_len_rd (.tmp 40) 23 rfl ?_ Tryd.underlying23 ?_ hr1 ?_); exact rfl; exact rfl; simp only [Act.put, List.setIfInBounds_toArray, List.set_cons_succ, List.set_cons_zero]))
    go_ret
    rw [HV.out]
    exact ⟨rfl, hN1⟩
  have e0 : decide (0 ≤ n) = true := decide_eq_true c0
  by_cases c1 : n ≤ most
  rotate_left
  · have e1 : decide (n ≤ most) = false := decide_eq_false c1
    have HV := Lib.hid (show btw n m L most last least kids = false by unfold btw; rw [e0, e1]; rfl)
    clear c0 c1
    go_wp2_with (first | ((with_reducible refine' wpList_field_blk (j := 1) (.tmp 5) 25 1 rfl ?_ fo_node_1 ?_ rfl ?_); exact rfl; exact rfl; simp only [Act.put, List.setIfInBounds_toArray, List.set_cons_succ, List.set_cons_zero]) | ((with_reducible refine' wpList_field_blk (j := 2) (.tmp 5) 25 2 rfl ?_ fo_node_2 ?_ rfl ?_); exact rfl; exact rfl; simp only [Act.put, List.setIfInBounds_toArray, List.set_cons_succ, List.set_cons_zero]) | ((with_reducible refine' wpList_field_blk (j := 3) (.tmp 5) 25 3 rfl ?_ fo_node_3 ?_ rfl ?_); exact rfl; exact rfl; simp only [Act.put, List.setIfInBounds_toArray, List.set_cons_succ, List.set_cons_zero]) | ((with_reducible refine' wpList_load_blk (.tmp 11) 3 rfl ?_ ld_int ?_ kA (X1.out) ?_); exact rfl; exact rfl; simp only [Act.put, List.setIfInBounds_toArray, List.set_cons_succ, List.set_cons_zero]) | ((with_reducible refine' wpList_load_blk (.tmp 15) 3 rfl ?_ ld_int ?_ kA (X1.out) ?_); exact rfl; exact rfl; simp only [Act.put, List.setIfInBounds_toArray, List.set_cons_succ, List.set_cons_zero]) | ((with_reducible refine' wpList_load_blk (.tmp 21) 3 rfl ?_ ld_int ?_ kA (X2.out) ?_); exact rfl; exact rfl; simp only [Act.put, List.setIfInBounds_toArray, List.set_cons_succ, List.set_cons_zero]) | ((with_reducible refine' wpList_load_blk (.tmp 26) 3 rfl ?_ ld_int ?_ kA (X2.out) ?_); exact rfl; exact rfl; simp only [Act.put, List.setIfInBounds_toArray, List.set_cons_succ, List.set_cons_zero]) | ((with_reducible refine' wpList_load_blk (.tmp 32) 23 rfl ?_ ld_nds ?_ kA (X3.out) ?_); exact rfl; exact rfl; simp only [Act.put, List.setIfInBounds_toArray, List.set_cons_succ, List.set_cons_zero]) | ((with_reducible refine' wpList_load_blk (.tmp 39) 23 rfl ?_ ld_nds ?_ kA (X3.out) ?_); exact rfl; exact rfl; simp only [Act.put, List.setIfInBounds_toArray, List.set_cons_succ, List.set_cons_zero]) | ((with_reducible refine' wpList_len_rd (.tmp 33) 23 rfl ?_ Tryd.underlying23 ?_ hr1 ?_); exact rfl; exact rfl; simp only [Act.put, List.setIfInBounds_toArray, List.set_cons_succ, List.set_cons_zero]) | ((with_reducible refine' wpList_len_rd (.tmp 40) 23 rfl ?_ Tryd.underlying23 ?_ hr1 ?_); exact rfl; exact rfl; simp only [Act.put, List.setIfInBounds_toArray, List.set_cons_succ, List.set_cons_zero]))
    go_ret
    rw [HV.out]
    exact ⟨rfl, hN1⟩
  have e1 : decide (n ≤ most) = true := decide_eq_true c1
  by_cases c2 : 0 ≤ m
  rotate_left
  · have e2 : decide (0 ≤ m) = false := decide_eq_false c2
    have HV := Lib.hid (show btw n m L most last least kids = false by unfold btw; rw [e0, e1, e2]; rfl)
    clear c0 c1 c2
    go_wp2_with (first | ((with_reducible refine' wpList_field_blk (j := 1) (.tmp 5) 25 1 rfl ?_ fo_node_1 ?_ rfl ?_); exact rfl; exact rfl; simp only [Act.put, List.setIfInBounds_toArray, List.set_cons_succ, List.set_cons_zero]) | ((with_reducible refine' wpList_field_blk (j := 2) (.tmp 5) 25 2 rfl ?_ fo_node_2 ?_ rfl ?_); exact rfl; exact rfl; simp only [Act.put, List.setIfInBounds_toArray, List.set_cons_succ, List.set_cons_zero]) | ((with_reducible refine' wpList_field_blk (j := 3) (.tmp 5) 25 3 rfl ?_ fo_node_3 ?_ rfl ?_); exact rfl; exact rfl; simp only [Act.put, List.setIfInBounds_toArray, List.set_cons_succ, List.set_cons_zero]) | ((with_reducible refine' wpList_load_blk (.tmp 11) 3 rfl ?_ ld_int ?_ kA (X1.out) ?_); exact rfl; exact rfl; simp only [Act.put, List.setIfInBounds_toArray, List.set_cons_succ, List.set_cons_zero]) | ((with_reducible refine' wpList_load_blk (.tmp 15) 3 rfl ?_ ld_int ?_ kA (X1.out) ?_); exact rfl; exact rfl; simp only [Act.put, List.setIfInBounds_toArray, List.set_cons_succ, List.set_cons_zero]) | ((with_reducible refine' wpList_load_blk (.tmp 21) 3 rfl ?_ ld_int ?_ kA (X2.out) ?_); exact rfl; exact rfl; simp only [Act.put, List.setIfInBounds_toArray, List.set_cons_succ, List.set_cons_zero]) | ((with_reducible refine' wpList_load_blk (.tmp 26) 3 rfl ?_ ld_int ?_ kA (X2.out) ?_); exact rfl; exact rfl; simp only [Act.put, List.setIfInBounds_toArray, List.set_cons_succ, List.set_cons_zero]) | ((with_reducible refine' wpList_load_blk (.tmp 32) 23 rfl ?_ ld_nds ?_ kA (X3.out) ?_); exact rfl; exact rfl; simp only [Act.put, List.setIfInBounds_toArray, List.set_cons_succ, List.set_cons_zero]) | ((with_reducible refine' wpList_load_blk (.tmp 39) 23 rfl ?_ ld_nds ?_ kA (X3.out) ?_); exact rfl; exact rfl; simp only [Act.put, List.setIfInBounds_toArray, List.set_cons_succ, List.set_cons_zero]) | ((with_reducible refine' wpList_len_rd (.tmp 33) 23 rfl ?_ Tryd.underlying23 ?_ hr1 ?_); exact rfl; exact rfl; simp only [Act.put, List.setIfInBounds_toArray, List.set_cons_succ, List.set_cons_zero]) | ((with_reducible refine' wpList_len_rd (.tmp 40) 23 rfl ?_ Tryd.underlying23 ?_ hr1 ?_); exact rfl; exact rfl; simp only [Act.put, List.setIfInBounds_toArray, List.set_cons_succ, List.set_cons_zero]))
    go_ret
    rw [HV.out]
    exact ⟨rfl, hN1⟩
  have e2 : decide (0 ≤ m) = true := decide_eq_true c2
  by_cases c3 : m ≤ last
  rotate_left
  · have e3 : decide (m ≤ last) = false := decide_eq_false c3
    have HV := Lib.hid (show btw n m L most last least kids = false by unfold btw; rw [e0, e1, e2, e3]; rfl)
    clear c0 c1 c2 c3
    go_wp2_with (first | ((with_reducible refine' wpList_field_blk (j := 1) (.tmp 5) 25 1 rfl ?_ fo_node_1 ?_ rfl ?_); exact rfl; exact rfl; simp only [Act.put, List.setIfInBounds_toArray, List.set_cons_succ, List.set_cons_zero]) | ((with_reducible refine' wpList_field_blk (j := 2) (.tmp 5) 25 2 rfl ?_ fo_node_2 ?_ rfl ?_); exact rfl; exact rfl; simp only [Act.put, List.setIfInBounds_toArray, List.set_cons_succ, List.set_cons_zero]) | ((with_reducible refine' wpList_field_blk (j := 3) (.tmp 5) 25 3 rfl ?_ fo_node_3 ?_ rfl ?_); exact rfl; exact rfl; simp only [Act.put, List.setIfInBounds_toArray, List.set_cons_succ, List.set_cons_zero]) | ((with_reducible refine' wpList_load_blk (.tmp 11) 3 rfl ?_ ld_int ?_ kA (X1.out) ?_); exact rfl; exact rfl; simp only [Act.put, List.setIfInBounds_toArray, List.set_cons_succ, List.set_cons_zero]) | ((with_reducible refine' wpList_load_blk (.tmp 15) 3 rfl ?_ ld_int ?_ kA (X1.out) ?_); exact rfl; exact rfl; simp only [Act.put, List.setIfInBounds_toArray, List.set_cons_succ, List.set_cons_zero]) | ((with_reducible refine' wpList_load_blk (.tmp 21) 3 rfl ?_ ld_int ?_ kA (X2.out) ?_); exact rfl; exact rfl; simp only [Act.put, List.setIfInBounds_toArray, List.set_cons_succ, List.set_cons_zero]) | ((with_reducible refine' wpList_load_blk (.tmp 26) 3 rfl ?_ ld_int ?_ kA (X2.out) ?_); exact rfl; exact rfl; simp only [Act.put, List.setIfInBounds_toArray, List.set_cons_succ, List.set_cons_zero]) | ((with_reducible refine' wpList_load_blk (.tmp 32) 23 rfl ?_ ld_nds ?_ kA (X3.out) ?_); exact rfl; exact rfl; simp only [Act.put, List.setIfInBounds_toArray, List.set_cons_succ, List.set_cons_zero]) | ((with_reducible refine' wpList_load_blk (.tmp 39) 23 rfl ?_ ld_nds ?_ kA (X3.out) ?_); exact rfl; exact rfl; simp only [Act.put, List.setIfInBounds_toArray, List.set_cons_succ, List.set_cons_zero]) | ((with_reducible refine' wpList_len_rd (.tmp 33) 23 rfl ?_ Tryd.underlying23 ?_ hr1 ?_); exact rfl; exact rfl; simp only [Act.put, List.setIfInBounds_toArray, List.set_cons_succ, List.set_cons_zero]) | ((with_reducible refine' wpList_len_rd (.tmp 40) 23 rfl ?_ Tryd.underlying23 ?_ hr1 ?_); exact rfl; exact rfl; simp only [Act.put, List.setIfInBounds_toArray, List.set_cons_succ, List.set_cons_zero]))
    go_ret
    rw [HV.out]
    exact ⟨rfl, hN1⟩
  have e3 : decide (m ≤ last) = true := decide_eq_true c3
  by_cases c4 : least ≤ (L : Int)
  rotate_left
  · have e4 : decide (least ≤ (L : Int)) = false := decide_eq_false c4
    have HV := Lib.hid (show btw n m L most last least kids = false by unfold btw; rw [e0, e1, e2, e3, e4]; rfl)
    clear c0 c1 c2 c3 c4
    go_wp2_with (first | ((with_reducible refine' wpList_field_blk (j := 1) (.tmp 5) 25 1 rfl ?_ fo_node_1 ?_ rfl ?_); exact rfl; exact rfl; simp only [Act.put, List.setIfInBounds_toArray, List.set_cons_succ, List.set_cons_zero]) | ((with_reducible refine' wpList_field_blk (j := 2) (.tmp 5) 25 2 rfl ?_ fo_node_2 ?_ rfl ?_); exact rfl; exact rfl; simp only [Act.put, List.setIfInBounds_toArray, List.set_cons_succ, List.set_cons_zero]) | ((with_reducible refine' wpList_field_blk (j := 3) (.tmp 5) 25 3 rfl ?_ fo_node_3 ?_ rfl ?_); exact rfl; exact rfl; simp only [Act.put, List.setIfInBounds_toArray, List.set_cons_succ, List.set_cons_zero]) | ((with_reducible refine' wpList_load_blk (.tmp 11) 3 rfl ?_ ld_int ?_ kA (X1.out) ?_); exact rfl; exact rfl; simp only [Act.put, List.setIfInBounds_toArray, List.set_cons_succ, List.set_cons_zero]) | ((with_reducible refine' wpList_load_blk (.tmp 15) 3 rfl ?_ ld_int ?_ kA (X1.out) ?_); exact rfl; exact rfl; simp only [Act.put, List.setIfInBounds_toArray, List.set_cons_succ, List.set_cons_zero]) | ((with_reducible refine' wpList_load_blk (.tmp 21) 3 rfl ?_ ld_int ?_ kA (X2.out) ?_); exact rfl; exact rfl; simp only [Act.put, List.setIfInBounds_toArray, List.set_cons_succ, List.set_cons_zero]) | ((with_reducible refine' wpList_load_blk (.tmp 26) 3 rfl ?_ ld_int ?_ kA (X2.out) ?_); exact rfl; exact rfl; simp only [Act.put, List.setIfInBounds_toArray, List.set_cons_succ, List.set_cons_zero]) | ((with_reducible refine' wpList_load_blk (.tmp 32) 23 rfl ?_ ld_nds ?_ kA (X3.out) ?_); exact rfl; exact rfl; simp only [Act.put, List.setIfInBounds_toArray, List.set_cons_succ, List.set_cons_zero]) | ((with_reducible refine' wpList_load_blk (.tmp 39) 23 rfl ?_ ld_nds ?_ kA (X3.out) ?_); exact rfl; exact rfl; simp only [Act.put, List.setIfInBounds_toArray, List.set_cons_succ, List.set_cons_zero]) | ((with_reducible refine' wpList_len_rd (.tmp 33) 23 rfl ?_ Tryd.underlying23 ?_ hr1 ?_); exact rfl; exact rfl; simp only [Act.put, List.setIfInBounds_toArray, List.set_cons_succ, List.set_cons_zero]) | ((with_reducible refine' wpList_len_rd (.tmp 40) 23 rfl ?_ Tryd.underlying23 ?_ hr1 ?_); exact rfl; exact rfl; simp only [Act.put, List.setIfInBounds_toArray, List.set_cons_succ, List.set_cons_zero]))
    go_ret
    rw [HV.out]
    exact ⟨rfl, hN1⟩
  have e4 : decide (least ≤ (L : Int)) = true := decide_eq_true c4
  by_cases c5 : (L : Int) ≤ kids
  rotate_left
  · have e5 : decide ((L : Int) ≤ kids) = false := decide_eq_false c5
    have HV := Lib.hid (show btw n m L most last least kids = false by unfold btw; rw [e0, e1, e2, e3, e4, e5]; rfl)
    clear c0 c1 c2 c3 c4 c5
    go_wp2_with (first | ((with_reducible refine' wpList_field_blk (j := 1) (.tmp 5) 25 1 rfl ?_ fo_node_1 ?_ rfl ?_); exact rfl; exact rfl; simp only [Act.put, List.setIfInBounds_toArray, List.set_cons_succ, List.set_cons_zero]) | ((with_reducible refine' wpList_field_blk (j := 2) (.tmp 5) 25 2 rfl ?_ fo_node_2 ?_ rfl ?_); exact rfl; exact rfl; simp only [Act.put, List.setIfInBounds_toArray, List.set_cons_succ, List.set_cons_zero]) | ((with_reducible refine' wpList_field_blk (j := 3) (.tmp 5) 25 3 rfl ?_ fo_node_3 ?_ rfl ?_); exact rfl; exact rfl; simp only [Act.put, List.setIfInBounds_toArray, List.set_cons_succ, List.set_cons_zero]) | ((with_reducible refine' wpList_load_blk (.tmp 11) 3 rfl ?_ ld_int ?_ kA (X1.out) ?_); exact rfl; exact rfl; simp only [Act.put, List.setIfInBounds_toArray, List.set_cons_succ, List.set_cons_zero]) | ((with_reducible refine' wpList_load_blk (.tmp 15) 3 rfl ?_ ld_int ?_ kA (X1.out) ?_); exact rfl; exact rfl; simp only [Act.put, List.setIfInBounds_toArray, List.set_cons_succ, List.set_cons_zero]) | ((with_reducible refine' wpList_load_blk (.tmp 21) 3 rfl ?_ ld_int ?_ kA (X2.out) ?_); exact rfl; exact rfl; simp only [Act.put, List.setIfInBounds_toArray, List.set_cons_succ, List.set_cons_zero]) | ((with_reducible refine' wpList_load_blk (.tmp 26) 3 rfl ?_ ld_int ?_ kA (X2.out) ?_); exact rfl; exact rfl; simp only [Act.put, List.setIfInBounds_toArray, List.set_cons_succ, List.set_cons_zero]) | ((with_reducible refine' wpList_load_blk (.tmp 32) 23 rfl ?_ ld_nds ?_ kA (X3.out) ?_); exact rfl; exact rfl; simp only [Act.put, List.setIfInBounds_toArray, List.set_cons_succ, List.set_cons_zero]) | ((with_reducible refine' wpList_load_blk (.tmp 39) 23 rfl ?_ ld_nds ?_ kA (X3.out) ?_); exact rfl; exact rfl; simp only [Act.put, List.setIfInBounds_toArray, List.set_cons_succ, List.set_cons_zero]) | ((with_reducible refine' wpList_len_rd (.tmp 33) 23 rfl ?_ Tryd.underlying23 ?_ hr1 ?_); exact rfl; exact rfl; simp only [Act.put, List.setIfInBounds_toArray, List.set_cons_succ, List.set_cons_zero]) | ((with_reducible refine' wpList_len_rd (.tmp 40) 23 rfl ?_ Tryd.underlying23 ?_ hr1 ?_); exact rfl; exact rfl; simp only [Act.put, List.setIfInBounds_toArray, List.set_cons_succ, List.set_cons_zero]))
    go_ret
    rw [HV.out]
    exact ⟨rfl, hN1⟩
  have e5 : decide ((L : Int) ≤ kids) = true := decide_eq_true c5
  have HV := Lib.hid (show btw n m L most last least kids = true by unfold btw; rw [e0, e1, e2, e3, e4, e5]; rfl)
  clear c0 c1 c2 c3 c4 c5
  go_wp2_with (first | ((with_reducible refine' wpList_field_blk (j := 1) (.tmp 5) 25 1 rfl ?_ fo_node_1 ?_ rfl ?_); exact rfl; exact rfl; simp only [Act.put, List.setIfInBounds_toArray, List.set_cons_succ, List.set_cons_zero]) | ((with_reducible refine' wpList_field_blk (j := 2) (.tmp 5) 25 2 rfl ?_ fo_node_2 ?_ rfl ?_); exact rfl; exact rfl; simp only [Act.put, List.setIfInBounds_toArray, List.set_cons_succ, List.set_cons_zero]) | ((with_reducible refine' wpList_field_blk (j := 3) (.tmp 5) 25 3 rfl ?_ fo_node_3 ?_ rfl ?_); exact rfl; exact rfl; simp only [Act.put, List.setIfInBounds_toArray, List.set_cons_succ, List.set_cons_zero]) | ((with_reducible refine' wpList_load_blk (.tmp 11) 3 rfl ?_ ld_int ?_ kA (X1.out) ?_); exact rfl; exact rfl; simp only [Act.put, List.setIfInBounds_toArray, List.set_cons_succ, List.set_cons_zero]) | ((with_reducible refine' wpList_load_blk (.tmp 15) 3 rfl ?_ ld_int ?_ kA (X1.out) ?_); exact rfl; exact rfl; simp only [Act.put, List.setIfInBounds_toArray, List.set_cons_succ, List.set_cons_zero]) | ((with_reducible refine' wpList_load_blk (.tmp 21) 3 rfl ?_ ld_int ?_ kA (X2.out) ?_); exact rfl; exact rfl; simp only [Act.put, List.setIfInBounds_toArray, List.set_cons_succ, List.set_cons_zero]) | ((with_reducible refine' wpList_load_blk (.tmp 26) 3 rfl ?_ ld_int ?_ kA (X2.out) ?_); exact rfl; exact rfl; simp only [Act.put, List.setIfInBounds_toArray, List.set_cons_succ, List.set_cons_zero]) | ((with_reducible refine' wpList_load_blk (.tmp 32) 23 rfl ?_ ld_nds ?_ kA (X3.out) ?_); exact rfl; exact rfl; simp only [Act.put, List.setIfInBounds_toArray, List.set_cons_succ, List.set_cons_zero]) | ((with_reducible refine' wpList_load_blk (.tmp 39) 23 rfl ?_ ld_nds ?_ kA (X3.out) ?_); exact rfl; exact rfl; simp only [Act.put, List.setIfInBounds_toArray, List.set_cons_succ, List.set_cons_zero]) | ((with_reducible refine' wpList_len_rd (.tmp 33) 23 rfl ?_ Tryd.underlying23 ?_ hr1 ?_); exact rfl; exact rfl; simp only [Act.put, List.setIfInBounds_toArray, List.set_cons_succ, List.set_cons_zero]) | ((with_reducible refine' wpList_len_rd (.tmp 40) 23 rfl ?_ Tryd.underlying23 ?_ hr1 ?_); exact rfl; exact rfl; simp only [Act.put, List.setIfInBounds_toArray, List.set_cons_succ, List.set_cons_zero]))
  go_ret
  rw [HV.out]
  exact ⟨rfl, hN1⟩
set_option maxRecDepth 100000 in
theorem plain_any (k n m : Int) (ts : List Tree) (cs : List Value) (w : World) (hT : IsT w (.mk k n m ts) cs) :
    Calls Tryd.prog 77 #[.agg cs.toArray] w fun e w' => e = .returned (.bool (pln k n m ts.length)) ∧ Below w.heap.size w w' := by
  have HT0 := Lib.hid hT
  rw [IsT] at hT
  obtain ⟨v, xs, rfl, hr, hts⟩ := hT
  have CO := Lib.hid (HT0.out.ones)
  have X0 := Lib.hid (show ([.int .i64 k, .int .i64 n, .int .i64 m, v] : List Value)[0]? = some (.int .i64 k) from rfl)
  have X1 := Lib.hid (show ([.int .i64 k, .int .i64 n, .int .i64 m, v] : List Value)[1]? = some (.int .i64 n) from rfl)
  have X2 := Lib.hid (show ([.int .i64 k, .int .i64 n, .int .i64 m, v] : List Value)[2]? = some (.int .i64 m) from rfl)
  have X3 := Lib.hid (show ([.int .i64 k, .int .i64 n, .int .i64 m, v] : List Value)[3]? = some v from rfl)
  clear hts
  obtain ⟨L, hL⟩ : ∃ L, ts.length = L := ⟨_, rfl⟩
  rw [hL] at hr ⊢
  clear hL
  go_enter Tryd.func77, Tryd.ntmps77
  go_upto_region 1 with (((with_reducible refine' wpList_boxa (cs := [.int .i64 k, .int .i64 n, .int .i64 m, v]) 25 (.tmp 0) rfl ?_ ?_ ?_); exact rfl; exact rfl; intro w1 kA hN1 hz1; simp only [Act.put, List.setIfInBounds_toArray, List.set_cons_succ, List.set_cons_zero]))
  have hr1 := hr.below hN1
  clear hr hz1
  by_cases k0 : k = 0
  · subst k0
    by_cases c0 : n = 0
    rotate_left
    · have e0 : decide (n = 0) = false := decide_eq_false c0
      have f0 : ((n : Int) == 0) = false := by rw [beq_eq_false_iff_ne]; exact c0
      have HV := Lib.hid (show pln 0 n m L = false by simp [pln, c0])
      clear c0
      go_wp2_with (first | ((with_reducible refine' wpList_field_blk (j := 0) (.tmp 1) 25 0 rfl ?_ fo_node_0 ?_ rfl ?_); exact rfl; exact rfl; simp only [Act.put, List.setIfInBounds_toArray, List.set_cons_succ, List.set_cons_zero]) | ((with_reducible refine' wpList_field_blk (j := 1) (.tmp 1) 25 1 rfl ?_ fo_node_1 ?_ rfl ?_); exact rfl; exact rfl; simp only [Act.put, List.setIfInBounds_toArray, List.set_cons_succ, List.set_cons_zero]) | ((with_reducible refine' wpList_field_blk (j := 2) (.tmp 1) 25 2 rfl ?_ fo_node_2 ?_ rfl ?_); exact rfl; exact rfl; simp only [Act.put, List.setIfInBounds_toArray, List.set_cons_succ, List.set_cons_zero]) | ((with_reducible refine' wpList_field_blk (j := 3) (.tmp 1) 25 3 rfl ?_ fo_node_3 ?_ rfl ?_); exact rfl; exact rfl; simp only [Act.put, List.setIfInBounds_toArray, List.set_cons_succ, List.set_cons_zero]) | ((with_reducible refine' wpList_load_blk (.tmp 3) 3 rfl ?_ ld_int ?_ kA (X0.out) ?_); exact rfl; exact rfl; simp only [Act.put, List.setIfInBounds_toArray, List.set_cons_succ, List.set_cons_zero]) | ((with_reducible refine' wpList_load_blk (.tmp 7) 3 rfl ?_ ld_int ?_ kA (X0.out) ?_); exact rfl; exact rfl; simp only [Act.put, List.setIfInBounds_toArray, List.set_cons_succ, List.set_cons_zero]) | ((with_reducible refine' wpList_load_blk (.tmp 12) 3 rfl ?_ ld_int ?_ kA (X1.out) ?_); exact rfl; exact rfl; simp only [Act.put, List.setIfInBounds_toArray, List.set_cons_succ, List.set_cons_zero]) | ((with_reducible refine' wpList_load_blk (.tmp 17) 3 rfl ?_ ld_int ?_ kA (X2.out) ?_); exact rfl; exact rfl; simp only [Act.put, List.setIfInBounds_toArray, List.set_cons_succ, List.set_cons_zero]) | ((with_reducible refine' wpList_load_blk (.tmp 22) 23 rfl ?_ ld_nds ?_ kA (X3.out) ?_); exact rfl; exact rfl; simp only [Act.put, List.setIfInBounds_toArray, List.set_cons_succ, List.set_cons_zero]) | ((with_reducible refine' wpList_len_rd (.tmp 23) 23 rfl ?_ Tryd.underlying23 ?_ hr1 ?_); exact rfl; exact rfl; simp only [Act.put, List.setIfInBounds_toArray, List.set_cons_succ, List.set_cons_zero]))
      go_ret
      rw [HV.out]
      exact ⟨rfl, hN1⟩
    have e0 : decide (n = 0) = true := decide_eq_true c0
    have f0 : ((n : Int) == 0) = true := by rw [beq_iff_eq]; exact c0
    by_cases c1 : m = 0
    rotate_left
    · have e1 : decide (m = 0) = false := decide_eq_false c1
      have f1 : ((m : Int) == 0) = false := by rw [beq_eq_false_iff_ne]; exact c1
      have HV := Lib.hid (show pln 0 n m L = false by simp [pln, c1])
      clear c0 c1
      go_wp2_with (first | ((with_reducible refine' wpList_field_blk (j := 0) (.tmp 1) 25 0 rfl ?_ fo_node_0 ?_ rfl ?_); exact rfl; exact rfl; simp only [Act.put, List.setIfInBounds_toArray, List.set_cons_succ, List.set_cons_zero]) | ((with_reducible refine' wpList_field_blk (j := 1) (.tmp 1) 25 1 rfl ?_ fo_node_1 ?_ rfl ?_); exact rfl; exact rfl; simp only [Act.put, List.setIfInBounds_toArray, List.set_cons_succ, List.set_cons_zero]) | ((with_reducible refine' wpList_field_blk (j := 2) (.tmp 1) 25 2 rfl ?_ fo_node_2 ?_ rfl ?_); exact rfl; exact rfl; simp only [Act.put, List.setIfInBounds_toArray, List.set_cons_succ, List.set_cons_zero]) | ((with_reducible refine' wpList_field_blk (j := 3) (.tmp 1) 25 3 rfl ?_ fo_node_3 ?_ rfl ?_); exact rfl; exact rfl; simp only [Act.put, List.setIfInBounds_toArray, List.set_cons_succ, List.set_cons_zero]) | ((with_reducible refine' wpList_load_blk (.tmp 3) 3 rfl ?_ ld_int ?_ kA (X0.out) ?_); exact rfl; exact rfl; simp only [Act.put, List.setIfInBounds_toArray, List.set_cons_succ, List.set_cons_zero]) | ((with_reducible refine' wpList_load_blk (.tmp 7) 3 rfl ?_ ld_int ?_ kA (X0.out) ?_); exact rfl; exact rfl; simp only [Act.put, List.setIfInBounds_toArray, List.set_cons_succ, List.set_cons_zero]) | ((with_reducible refine' wpList_load_blk (.tmp 12) 3 rfl ?_ ld_int ?_ kA (X1.out) ?_); exact rfl; exact rfl; simp only [Act.put, List.setIfInBounds_toArray, List.set_cons_succ, List.set_cons_zero]) | ((with_reducible refine' wpList_load_blk (.tmp 17) 3 rfl ?_ ld_int ?_ kA (X2.out) ?_); exact rfl; exact rfl; simp only [Act.put, List.setIfInBounds_toArray, List.set_cons_succ, List.set_cons_zero]) | ((with_reducible refine' wpList_load_blk (.tmp 22) 23 rfl ?_ ld_nds ?_ kA (X3.out) ?_); exact rfl; exact rfl; simp only [Act.put, List.setIfInBounds_toArray, List.set_cons_succ, List.set_cons_zero]) | ((with_reducible refine' wpList_len_rd (.tmp 23) 23 rfl ?_ Tryd.underlying23 ?_ hr1 ?_); exact rfl; exact rfl; simp only [Act.put, List.setIfInBounds_toArray, List.set_cons_succ, List.set_cons_zero]))
      go_ret
      rw [HV.out]
      exact ⟨rfl, hN1⟩
    have e1 : decide (m = 0) = true := decide_eq_true c1
    have f1 : ((m : Int) == 0) = true := by rw [beq_iff_eq]; exact c1
    by_cases c2 : (L : Int) = 0
    rotate_left
    · have e2 : decide ((L : Int) = 0) = false := decide_eq_false c2
      have f2 : (((L : Int) : Int) == 0) = false := by rw [beq_eq_false_iff_ne]; exact c2
      have HV := Lib.hid (show pln 0 n m L = false by simp only [pln]; rw [decide_eq_false (show ¬ L = 0 by omega)]; simp)
      clear c0 c1 c2
      go_wp2_with (first | ((with_reducible refine' wpList_field_blk (j := 0) (.tmp 1) 25 0 rfl ?_ fo_node_0 ?_ rfl ?_); exact rfl; exact rfl; simp only [Act.put, List.setIfInBounds_toArray, List.set_cons_succ, List.set_cons_zero]) | ((with_reducible refine' wpList_field_blk (j := 1) (.tmp 1) 25 1 rfl ?_ fo_node_1 ?_ rfl ?_); exact rfl; exact rfl; simp only [Act.put, List.setIfInBounds_toArray, List.set_cons_succ, List.set_cons_zero]) | ((with_reducible refine' wpList_field_blk (j := 2) (.tmp 1) 25 2 rfl ?_ fo_node_2 ?_ rfl ?_); exact rfl; exact rfl; simp only [Act.put, List.setIfInBounds_toArray, List.set_cons_succ, List.set_cons_zero]) | ((with_reducible refine' wpList_field_blk (j := 3) (.tmp 1) 25 3 rfl ?_ fo_node_3 ?_ rfl ?_); exact rfl; exact rfl; simp only [Act.put, List.setIfInBounds_toArray, List.set_cons_succ, List.set_cons_zero]) | ((with_reducible refine' wpList_load_blk (.tmp 3) 3 rfl ?_ ld_int ?_ kA (X0.out) ?_); exact rfl; exact rfl; simp only [Act.put, List.setIfInBounds_toArray, List.set_cons_succ, List.set_cons_zero]) | ((with_reducible refine' wpList_load_blk (.tmp 7) 3 rfl ?_ ld_int ?_ kA (X0.out) ?_); exact rfl; exact rfl; simp only [Act.put, List.setIfInBounds_toArray, List.set_cons_succ, List.set_cons_zero]) | ((with_reducible refine' wpList_load_blk (.tmp 12) 3 rfl ?_ ld_int ?_ kA (X1.out) ?_); exact rfl; exact rfl; simp only [Act.put, List.setIfInBounds_toArray, List.set_cons_succ, List.set_cons_zero]) | ((with_reducible refine' wpList_load_blk (.tmp 17) 3 rfl ?_ ld_int ?_ kA (X2.out) ?_); exact rfl; exact rfl; simp only [Act.put, List.setIfInBounds_toArray, List.set_cons_succ, List.set_cons_zero]) | ((with_reducible refine' wpList_load_blk (.tmp 22) 23 rfl ?_ ld_nds ?_ kA (X3.out) ?_); exact rfl; exact rfl; simp only [Act.put, List.setIfInBounds_toArray, List.set_cons_succ, List.set_cons_zero]) | ((with_reducible refine' wpList_len_rd (.tmp 23) 23 rfl ?_ Tryd.underlying23 ?_ hr1 ?_); exact rfl; exact rfl; simp only [Act.put, List.setIfInBounds_toArray, List.set_cons_succ, List.set_cons_zero]))
      go_ret
      rw [HV.out]
      exact ⟨rfl, hN1⟩
    have e2 : decide ((L : Int) = 0) = true := decide_eq_true c2
    have f2 : (((L : Int) : Int) == 0) = true := by rw [beq_iff_eq]; exact c2
    have HV := Lib.hid (show pln 0 n m L = true by simp only [pln]; rw [decide_eq_true (show L = 0 by omega), e0, e1]; rfl)
    clear c0 c1 c2
    go_wp2_with (first | ((with_reducible refine' wpList_field_blk (j := 0) (.tmp 1) 25 0 rfl ?_ fo_node_0 ?_ rfl ?_); exact rfl; exact rfl; simp only [Act.put, List.setIfInBounds_toArray, List.set_cons_succ, List.set_cons_zero]) | ((with_reducible refine' wpList_field_blk (j := 1) (.tmp 1) 25 1 rfl ?_ fo_node_1 ?_ rfl ?_); exact rfl; exact rfl; simp only [Act.put, List.setIfInBounds_toArray, List.set_cons_succ, List.set_cons_zero]) | ((with_reducible refine' wpList_field_blk (j := 2) (.tmp 1) 25 2 rfl ?_ fo_node_2 ?_ rfl ?_); exact rfl; exact rfl; simp only [Act.put, List.setIfInBounds_toArray, List.set_cons_succ, List.set_cons_zero]) | ((with_reducible refine' wpList_field_blk (j := 3) (.tmp 1) 25 3 rfl ?_ fo_node_3 ?_ rfl ?_); exact rfl; exact rfl; simp only [Act.put, List.setIfInBounds_toArray, List.set_cons_succ, List.set_cons_zero]) | ((with_reducible refine' wpList_load_blk (.tmp 3) 3 rfl ?_ ld_int ?_ kA (X0.out) ?_); exact rfl; exact rfl; simp only [Act.put, List.setIfInBounds_toArray, List.set_cons_succ, List.set_cons_zero]) | ((with_reducible refine' wpList_load_blk (.tmp 7) 3 rfl ?_ ld_int ?_ kA (X0.out) ?_); exact rfl; exact rfl; simp only [Act.put, List.setIfInBounds_toArray, List.set_cons_succ, List.set_cons_zero]) | ((with_reducible refine' wpList_load_blk (.tmp 12) 3 rfl ?_ ld_int ?_ kA (X1.out) ?_); exact rfl; exact rfl; simp only [Act.put, List.setIfInBounds_toArray, List.set_cons_succ, List.set_cons_zero]) | ((with_reducible refine' wpList_load_blk (.tmp 17) 3 rfl ?_ ld_int ?_ kA (X2.out) ?_); exact rfl; exact rfl; simp only [Act.put, List.setIfInBounds_toArray, List.set_cons_succ, List.set_cons_zero]) | ((with_reducible refine' wpList_load_blk (.tmp 22) 23 rfl ?_ ld_nds ?_ kA (X3.out) ?_); exact rfl; exact rfl; simp only [Act.put, List.setIfInBounds_toArray, List.set_cons_succ, List.set_cons_zero]) | ((with_reducible refine' wpList_len_rd (.tmp 23) 23 rfl ?_ Tryd.underlying23 ?_ hr1 ?_); exact rfl; exact rfl; simp only [Act.put, List.setIfInBounds_toArray, List.set_cons_succ, List.set_cons_zero]))
    go_ret
    rw [HV.out]
    exact ⟨rfl, hN1⟩
  by_cases k1 : k = 1
  · subst k1
    by_cases c0 : n = 0
    rotate_left
    · have e0 : decide (n = 0) = false := decide_eq_false c0
      have f0 : ((n : Int) == 0) = false := by rw [beq_eq_false_iff_ne]; exact c0
      have HV := Lib.hid (show pln 1 n m L = false by simp [pln, c0])
      clear c0
      go_wp2_with (first | ((with_reducible refine' wpList_field_blk (j := 0) (.tmp 1) 25 0 rfl ?_ fo_node_0 ?_ rfl ?_); exact rfl; exact rfl; simp only [Act.put, List.setIfInBounds_toArray, List.set_cons_succ, List.set_cons_zero]) | ((with_reducible refine' wpList_field_blk (j := 1) (.tmp 1) 25 1 rfl ?_ fo_node_1 ?_ rfl ?_); exact rfl; exact rfl; simp only [Act.put, List.setIfInBounds_toArray, List.set_cons_succ, List.set_cons_zero]) | ((with_reducible refine' wpList_field_blk (j := 2) (.tmp 1) 25 2 rfl ?_ fo_node_2 ?_ rfl ?_); exact rfl; exact rfl; simp only [Act.put, List.setIfInBounds_toArray, List.set_cons_succ, List.set_cons_zero]) | ((with_reducible refine' wpList_field_blk (j := 3) (.tmp 1) 25 3 rfl ?_ fo_node_3 ?_ rfl ?_); exact rfl; exact rfl; simp only [Act.put, List.setIfInBounds_toArray, List.set_cons_succ, List.set_cons_zero]) | ((with_reducible refine' wpList_load_blk (.tmp 3) 3 rfl ?_ ld_int ?_ kA (X0.out) ?_); exact rfl; exact rfl; simp only [Act.put, List.setIfInBounds_toArray, List.set_cons_succ, List.set_cons_zero]) | ((with_reducible refine' wpList_load_blk (.tmp 7) 3 rfl ?_ ld_int ?_ kA (X0.out) ?_); exact rfl; exact rfl; simp only [Act.put, List.setIfInBounds_toArray, List.set_cons_succ, List.set_cons_zero]) | ((with_reducible refine' wpList_load_blk (.tmp 12) 3 rfl ?_ ld_int ?_ kA (X1.out) ?_); exact rfl; exact rfl; simp only [Act.put, List.setIfInBounds_toArray, List.set_cons_succ, List.set_cons_zero]) | ((with_reducible refine' wpList_load_blk (.tmp 17) 3 rfl ?_ ld_int ?_ kA (X2.out) ?_); exact rfl; exact rfl; simp only [Act.put, List.setIfInBounds_toArray, List.set_cons_succ, List.set_cons_zero]) | ((with_reducible refine' wpList_load_blk (.tmp 22) 23 rfl ?_ ld_nds ?_ kA (X3.out) ?_); exact rfl; exact rfl; simp only [Act.put, List.setIfInBounds_toArray, List.set_cons_succ, List.set_cons_zero]) | ((with_reducible refine' wpList_len_rd (.tmp 23) 23 rfl ?_ Tryd.underlying23 ?_ hr1 ?_); exact rfl; exact rfl; simp only [Act.put, List.setIfInBounds_toArray, List.set_cons_succ, List.set_cons_zero]))
      go_ret
      rw [HV.out]
      exact ⟨rfl, hN1⟩
    have e0 : decide (n = 0) = true := decide_eq_true c0
    have f0 : ((n : Int) == 0) = true := by rw [beq_iff_eq]; exact c0
    by_cases c1 : m = 0
    rotate_left
    · have e1 : decide (m = 0) = false := decide_eq_false c1
      have f1 : ((m : Int) == 0) = false := by rw [beq_eq_false_iff_ne]; exact c1
      have HV := Lib.hid (show pln 1 n m L = false by simp [pln, c1])
      clear c0 c1
      go_wp2_with (first | ((with_reducible refine' wpList_field_blk (j := 0) (.tmp 1) 25 0 rfl ?_ fo_node_0 ?_ rfl ?_); exact rfl; exact rfl; simp only [Act.put, List.setIfInBounds_toArray, List.set_cons_succ, List.set_cons_zero]) | ((with_reducible refine' wpList_field_blk (j := 1) (.tmp 1) 25 1 rfl ?_ fo_node_1 ?_ rfl ?_); exact rfl; exact rfl; simp only [Act.put, List.setIfInBounds_toArray, List.set_cons_succ, List.set_cons_zero]) | ((with_reducible refine' wpList_field_blk (j := 2) (.tmp 1) 25 2 rfl ?_ fo_node_2 ?_ rfl ?_); exact rfl; exact rfl; simp only [Act.put, List.setIfInBounds_toArray, List.set_cons_succ, List.set_cons_zero]) | ((with_reducible refine' wpList_field_blk (j := 3) (.tmp 1) 25 3 rfl ?_ fo_node_3 ?_ rfl ?_); exact rfl; exact rfl; simp only [Act.put, List.setIfInBounds_toArray, List.set_cons_succ, List.set_cons_zero]) | ((with_reducible refine' wpList_load_blk (.tmp 3) 3 rfl ?_ ld_int ?_ kA (X0.out) ?_); exact rfl; exact rfl; simp only [Act.put, List.setIfInBounds_toArray, List.set_cons_succ, List.set_cons_zero]) | ((with_reducible refine' wpList_load_blk (.tmp 7) 3 rfl ?_ ld_int ?_ kA (X0.out) ?_); exact rfl; exact rfl; simp only [Act.put, List.setIfInBounds_toArray, List.set_cons_succ, List.set_cons_zero]) | ((with_reducible refine' wpList_load_blk (.tmp 12) 3 rfl ?_ ld_int ?_ kA (X1.out) ?_); exact rfl; exact rfl; simp only [Act.put, List.setIfInBounds_toArray, List.set_cons_succ, List.set_cons_zero]) | ((with_reducible refine' wpList_load_blk (.tmp 17) 3 rfl ?_ ld_int ?_ kA (X2.out) ?_); exact rfl; exact rfl; simp only [Act.put, List.setIfInBounds_toArray, List.set_cons_succ, List.set_cons_zero]) | ((with_reducible refine' wpList_load_blk (.tmp 22) 23 rfl ?_ ld_nds ?_ kA (X3.out) ?_); exact rfl; exact rfl; simp only [Act.put, List.setIfInBounds_toArray, List.set_cons_succ, List.set_cons_zero]) | ((with_reducible refine' wpList_len_rd (.tmp 23) 23 rfl ?_ Tryd.underlying23 ?_ hr1 ?_); exact rfl; exact rfl; simp only [Act.put, List.setIfInBounds_toArray, List.set_cons_succ, List.set_cons_zero]))
      go_ret
      rw [HV.out]
      exact ⟨rfl, hN1⟩
    have e1 : decide (m = 0) = true := decide_eq_true c1
    have f1 : ((m : Int) == 0) = true := by rw [beq_iff_eq]; exact c1
    by_cases c2 : (L : Int) = 0
    rotate_left
    · have e2 : decide ((L : Int) = 0) = false := decide_eq_false c2
      have f2 : (((L : Int) : Int) == 0) = false := by rw [beq_eq_false_iff_ne]; exact c2
      have HV := Lib.hid (show pln 1 n m L = false by simp only [pln]; rw [decide_eq_false (show ¬ L = 0 by omega)]; simp)
      clear c0 c1 c2
      go_wp2_with (first | ((with_reducible refine' wpList_field_blk (j := 0) (.tmp 1) 25 0 rfl ?_ fo_node_0 ?_ rfl ?_); exact rfl; exact rfl; simp only [Act.put, List.setIfInBounds_toArray, List.set_cons_succ, List.set_cons_zero]) | ((with_reducible refine' wpList_field_blk (j := 1) (.tmp 1) 25 1 rfl ?_ fo_node_1 ?_ rfl ?_); exact rfl; exact rfl; simp only [Act.put, List.setIfInBounds_toArray, List.set_cons_succ, List.set_cons_zero]) | ((with_reducible refine' wpList_field_blk (j := 2) (.tmp 1) 25 2 rfl ?_ fo_node_2 ?_ rfl ?_); exact rfl; exact rfl; simp only [Act.put, List.setIfInBounds_toArray, List.set_cons_succ, List.set_cons_zero]) | ((with_reducible refine' wpList_field_blk (j := 3) (.tmp 1) 25 3 rfl ?_ fo_node_3 ?_ rfl ?_); exact rfl; exact rfl; simp only [Act.put, List.setIfInBounds_toArray, List.set_cons_succ, List.set_cons_zero]) | ((with_reducible refine' wpList_load_blk (.tmp 3) 3 rfl ?_ ld_int ?_ kA (X0.out) ?_); exact rfl; exact rfl; simp only [Act.put, List.setIfInBounds_toArray, List.set_cons_succ, List.set_cons_zero]) | ((with_reducible refine' wpList_load_blk (.tmp 7) 3 rfl ?_ ld_int ?_ kA (X0.out) ?_); exact rfl; exact rfl; simp only [Act.put, List.setIfInBounds_toArray, List.set_cons_succ, List.set_cons_zero]) | ((with_reducible refine' wpList_load_blk (.tmp 12) 3 rfl ?_ ld_int ?_ kA (X1.out) ?_); exact rfl; exact rfl; simp only [Act.put, List.setIfInBounds_toArray, List.set_cons_succ, List.set_cons_zero]) | ((with_reducible refine' wpList_load_blk (.tmp 17) 3 rfl ?_ ld_int ?_ kA (X2.out) ?_); exact rfl; exact rfl; simp only [Act.put, List.setIfInBounds_toArray, List.set_cons_succ, List.set_cons_zero]) | ((with_reducible refine' wpList_load_blk (.tmp 22) 23 rfl ?_ ld_nds ?_ kA (X3.out) ?_); exact rfl; exact rfl; simp only [Act.put, List.setIfInBounds_toArray, List.set_cons_succ, List.set_cons_zero]) | ((with_reducible refine' wpList_len_rd (.tmp 23) 23 rfl ?_ Tryd.underlying23 ?_ hr1 ?_); exact rfl; exact rfl; simp only [Act.put, List.setIfInBounds_toArray, List.set_cons_succ, List.set_cons_zero]))
      go_ret
      rw [HV.out]
      exact ⟨rfl, hN1⟩
    have e2 : decide ((L : Int) = 0) = true := decide_eq_true c2
    have f2 : (((L : Int) : Int) == 0) = true := by rw [beq_iff_eq]; exact c2
    have HV := Lib.hid (show pln 1 n m L = true by simp only [pln]; rw [decide_eq_true (show L = 0 by omega), e0, e1]; rfl)
    clear c0 c1 c2
    go_wp2_with (first | ((with_reducible refine' wpList_field_blk (j := 0) (.tmp 1) 25 0 rfl ?_ fo_node_0 ?_ rfl ?_); exact rfl; exact rfl; simp only [Act.put, List.setIfInBounds_toArray, List.set_cons_succ, List.set_cons_zero]) | ((with_reducible refine' wpList_field_blk (j := 1) (.tmp 1) 25 1 rfl ?_ fo_node_1 ?_ rfl ?_); exact rfl; exact rfl; simp only [Act.put, List.setIfInBounds_toArray, List.set_cons_succ, List.set_cons_zero]) | ((with_reducible refine' wpList_field_blk (j := 2) (.tmp 1) 25 2 rfl ?_ fo_node_2 ?_ rfl ?_); exact rfl; exact rfl; simp only [Act.put, List.setIfInBounds_toArray, List.set_cons_succ, List.set_cons_zero]) | ((with_reducible refine' wpList_field_blk (j := 3) (.tmp 1) 25 3 rfl ?_ fo_node_3 ?_ rfl ?_); exact rfl; exact rfl; simp only [Act.put, List.setIfInBounds_toArray, List.set_cons_succ, List.set_cons_zero]) | ((with_reducible refine' wpList_load_blk (.tmp 3) 3 rfl ?_ ld_int ?_ kA (X0.out) ?_); exact rfl; exact rfl; simp only [Act.put, List.setIfInBounds_toArray, List.set_cons_succ, List.set_cons_zero]) | ((with_reducible refine' wpList_load_blk (.tmp 7) 3 rfl ?_ ld_int ?_ kA (X0.out) ?_); exact rfl; exact rfl; simp only [Act.put, List.setIfInBounds_toArray, List.set_cons_succ, List.set_cons_zero]) | ((with_reducible refine' wpList_load_blk (.tmp 12) 3 rfl ?_ ld_int ?_ kA (X1.out) ?_); exact rfl; exact rfl; simp only [Act.put, List.setIfInBounds_toArray, List.set_cons_succ, List.set_cons_zero]) | ((with_reducible refine' wpList_load_blk (.tmp 17) 3 rfl ?_ ld_int ?_ kA (X2.out) ?_); exact rfl; exact rfl; simp only [Act.put, List.setIfInBounds_toArray, List.set_cons_succ, List.set_cons_zero]) | ((with_reducible refine' wpList_load_blk (.tmp 22) 23 rfl ?_ ld_nds ?_ kA (X3.out) ?_); exact rfl; exact rfl; simp only [Act.put, List.setIfInBounds_toArray, List.set_cons_succ, List.set_cons_zero]) | ((with_reducible refine' wpList_len_rd (.tmp 23) 23 rfl ?_ Tryd.underlying23 ?_ hr1 ?_); exact rfl; exact rfl; simp only [Act.put, List.setIfInBounds_toArray, List.set_cons_succ, List.set_cons_zero]))
    go_ret
    rw [HV.out]
    exact ⟨rfl, hN1⟩
  have e0 : decide (k = 0) = false := decide_eq_false k0
  have f0 : ((k : Int) == 0) = false := by rw [beq_eq_false_iff_ne]; exact k0
  have e1 : decide (k = 1) = false := decide_eq_false k1
  have f1 : ((k : Int) == 1) = false := by rw [beq_eq_false_iff_ne]; exact k1
  have HV := Lib.hid (show pln k n m L = false by unfold pln; rw [e0, e1]; rfl)
  clear k0 k1
  go_wp2_with (first | ((with_reducible refine' wpList_field_blk (j := 0) (.tmp 1) 25 0 rfl ?_ fo_node_0 ?_ rfl ?_); exact rfl; exact rfl; simp only [Act.put, List.setIfInBounds_toArray, List.set_cons_succ, List.set_cons_zero]) | ((with_reducible refine' wpList_field_blk (j := 1) (.tmp 1) 25 1 rfl ?_ fo_node_1 ?_ rfl ?_); exact rfl; exact rfl; simp only [Act.put, List.setIfInBounds_toArray, List.set_cons_succ, List.set_cons_zero]) | ((with_reducible refine' wpList_field_blk (j := 2) (.tmp 1) 25 2 rfl ?_ fo_node_2 ?_ rfl ?_); exact rfl; exact rfl; simp only [Act.put, List.setIfInBounds_toArray, List.set_cons_succ, List.set_cons_zero]) | ((with_reducible refine' wpList_field_blk (j := 3) (.tmp 1) 25 3 rfl ?_ fo_node_3 ?_ rfl ?_); exact rfl; exact rfl; simp only [Act.put, List.setIfInBounds_toArray, List.set_cons_succ, List.set_cons_zero]) | ((with_reducible refine' wpList_load_blk (.tmp 3) 3 rfl ?_ ld_int ?_ kA (X0.out) ?_); exact rfl; exact rfl; simp only [Act.put, List.setIfInBounds_toArray, List.set_cons_succ, List.set_cons_zero]) | ((with_reducible refine' wpList_load_blk (.tmp 7) 3 rfl ?_ ld_int ?_ kA (X0.out) ?_); exact rfl; exact rfl; simp only [Act.put, List.setIfInBounds_toArray, List.set_cons_succ, List.set_cons_zero]) | ((with_reducible refine' wpList_load_blk (.tmp 12) 3 rfl ?_ ld_int ?_ kA (X1.out) ?_); exact rfl; exact rfl; simp only [Act.put, List.setIfInBounds_toArray, List.set_cons_succ, List.set_cons_zero]) | ((with_reducible refine' wpList_load_blk (.tmp 17) 3 rfl ?_ ld_int ?_ kA (X2.out) ?_); exact rfl; exact rfl; simp only [Act.put, List.setIfInBounds_toArray, List.set_cons_succ, List.set_cons_zero]) | ((with_reducible refine' wpList_load_blk (.tmp 22) 23 rfl ?_ ld_nds ?_ kA (X3.out) ?_); exact rfl; exact rfl; simp only [Act.put, List.setIfInBounds_toArray, List.set_cons_succ, List.set_cons_zero]) | ((with_reducible refine' wpList_len_rd (.tmp 23) 23 rfl ?_ Tryd.underlying23 ?_ hr1 ?_); exact rfl; exact rfl; simp only [Act.put, List.setIfInBounds_toArray, List.set_cons_succ, List.set_cons_zero]))
  go_ret
  rw [HV.out]
  exact ⟨rfl, hN1⟩
end Go.Proofs.YtdlhkhnoigbhjaaDoor.Wi
namespace Go.Proofs.YtdlhkhnoigbhjaaDoor.Pu
/-- a tree of a kind outside the table fits nowhere -/
theorem tfits_out {k n m : Int} {ts : List Tree} (want : Int) (h : k < 0 ∨ 28 ≤ k) : tfits (.mk k n m ts) want = false := by
  rw [tfits, fHead]
  rcases h with h | h
  · split
    · rfl
    · rw [decide_eq_false (show ¬ (0 : Int) ≤ k by omega), Bool.false_and, Bool.false_and]
  · rw [List.getElem?_eq_none (by simp [shF]; omega)]; rfl
theorem kind_cases {P : Int → Prop} (h : ∀ i : Nat, i < 28 → P (i : Int)) (ho : ∀ k : Int, k < 0 ∨ 28 ≤ k → P k) (k : Int) : P k := by
  by_cases c : k < 0 ∨ 28 ≤ k
  · exact ho k c
  · obtain ⟨i, rfl⟩ : ∃ i : Nat, k = (i : Int) := ⟨k.toNat, by omega⟩
    exact h i (by omega)
theorem tfits_plain (k n m : Int) (ts : List Tree) : tfits (.mk k n m ts) 3 = pln k n m ts.length := by
  refine kind_cases (P := fun k => tfits (.mk k n m ts) 3 = pln k n m ts.length) ?_ ?_ k
  · intro i hi
    match i with
    | 0 =>
      rw [tfits_row (i := 0) rfl]
      cases ts with
      | nil => simp only [fOk, fLen, fIs, pln, tfitsL, List.length_nil]; rw [Bool.eq_iff_iff]; simp; omega
      | cons t ts => simp only [fOk, fLen, fIs, pln, tfitsL, List.length_cons]; rw [Bool.eq_iff_iff]; simp; omega
    | 1 =>
      rw [tfits_row (i := 1) rfl]
      cases ts with
      | nil => simp only [fOk, fLen, fIs, pln, tfitsL, List.length_nil]; rw [Bool.eq_iff_iff]; simp; omega
      | cons t ts => simp only [fOk, fLen, fIs, pln, tfitsL, List.length_cons]; rw [Bool.eq_iff_iff]; simp; omega
    | i + 2 =>
      have hp : pln ((i + 2 : Nat) : Int) n m ts.length = false := by
        unfold pln; rw [decide_eq_false (by omega), decide_eq_false (by omega)]; rfl
      rw [hp]
      have H : ∀ j : Fin 28, 2 ≤ j.val → ∀ s, shF[j.val]? = some s → fIs s.1 3 = false := by
        intro j hj s hs
        have : ∀ j : Fin 28, 2 ≤ j.val → ((shF[j.val]?).map fun s => fIs s.1 3) = some false := by decide
        have h := this j hj
        rw [hs] at h; simpa using h
      obtain ⟨s, hs⟩ : ∃ s, shF[i + 2]? = some s := ⟨_, List.getElem?_eq_getElem (by simp [shF]; omega)⟩
      rw [tfits_row hs, fOk, H ⟨i + 2, hi⟩ (by simp) s hs, Bool.false_and, Bool.false_and]
  · intro k hk
    rw [tfits_out 3 hk]
    unfold pln; rw [decide_eq_false (by omega), decide_eq_false (by omega)]; rfl
/-- a row that begins at 0, by its numbers -/
theorem tfits_btw {i : Nat} {s3 s4 s6 s7 s8 : Int} {s1 : Int} {ks : List Int} (hs : shF[i]? = some (s1, 0, s3, s4, ks, s6, s7, s8)) (hi : i ≠ 26) (n m want : Int) (ts : List Tree) :
    tfits (.mk (i : Int) n m ts) want = (fIs s1 want && (btw n m ts.length s3 s4 (ks.length + s7) (ks.length + s6) && tfitsL (fWant (i : Int) n ts.length) 0 ts)) := by
  rw [tfits_row hs]
  have e1 : decide (s7 ≤ (ts.length : Int) - ks.length) = decide ((ks.length : Int) + s7 ≤ (ts.length : Int)) := by rw [decide_eq_decide]; omega
  have e2 : decide ((ts.length : Int) - ks.length ≤ s6) = decide ((ts.length : Int) ≤ (ks.length : Int) + s6) := by rw [decide_eq_decide]; omega
  simp only [fOk, fLen, btw, if_neg (show ¬ (i : Int) = 26 by omega), e1, e2, Bool.and_assoc]
theorem fWant_row {i : Nat} {s : ShpP} (hs : shF[i]? = some s) (hi : i ≠ 26) (n : Int) (len j : Nat) : fWant (i : Int) n len j = (s.2.2.2.2.1[j]?).getD s.2.2.2.2.2.2.2 := by
  unfold fWant
  rw [Int.toNat_natCast, hs]
  simp only [if_neg (show ¬ (i : Int) = 26 by omega)]
/-- all of one sort -/
def tall (want : Int) (ts : List Tree) : Bool := tfitsL (fun _ => want) 0 ts
theorem tfitsL_congr {f g : Nat → Int} : ∀ {ts : List Tree} {i : Nat}, (∀ j, i ≤ j → j < i + ts.length → f j = g j) → tfitsL f i ts = tfitsL g i ts
  | [], i, _ => by rw [tfitsL, tfitsL]
  | t :: ts, i, h => by
    rw [tfitsL, tfitsL, h i (Nat.le_refl _) (by simp), tfitsL_congr (ts := ts) (i := i + 1) (fun j h1 h2 => h j (by omega) (by simp; omega))]
theorem tall_cons (want : Int) (t : Tree) (ts : List Tree) : tall want (t :: ts) = (tfits t want && tall want ts) := by
  unfold tall
  rw [tfitsL, tfitsL_congr (g := fun _ => want) (fun _ _ _ => rfl)]
  congr 1
  have : ∀ (ts : List Tree) (i j : Nat), tfitsL (fun _ => want) i ts = tfitsL (fun _ => want) j ts := by
    intro ts
    induction ts with
    | nil => intro i j; rw [tfitsL, tfitsL]
    | cons u ts ih => intro i j; rw [tfitsL, tfitsL, ih (i + 1) (j + 1)]
  exact this ts 1 0
theorem tall_iff (want : Int) (ts : List Tree) : tall want ts = true ↔ ∀ t ∈ ts, tfits t want = true := by
  induction ts with
  | nil => simp [tall, tfitsL]
  | cons t ts ih => rw [tall_cons, Bool.and_eq_true, ih]; simp
theorem tall_no {want : Int} {ts : List Tree} {t : Tree} (h : t ∈ ts) (hf : tfits t want = false) : tall want ts = false := by
  cases hc : tall want ts with
  | false => rfl
  | true => rw [(tall_iff want ts).1 hc t h] at hf; cases hf
theorem fIs_only {want : Int} {P : Nat → Prop} [DecidablePred P] (hd : ∀ j : Fin 28, ¬ P j.val → ((shF[j.val]?).map fun s => fIs s.1 want) = some false) {i : Nat} (hi : i < 28) (hP : ¬ P i) (n m : Int) (ts : List Tree) :
    tfits (.mk (i : Int) n m ts) want = false := by
  obtain ⟨s, hs⟩ : ∃ s, shF[i]? = some s := ⟨_, List.getElem?_eq_getElem (by simp [shF]; omega)⟩
  have h := hd ⟨i, hi⟩ hP
  simp only [hs, Option.map_some, Option.some.injEq] at h
  rw [tfits_row hs, fOk, h, Bool.false_and, Bool.false_and]
theorem tfits_arr (n m : Int) (ts : List Tree) : tfits (.mk 2 n m ts) 2 = (decide (1 ≤ n) && (decide (n ≤ 4) && (decide (m = 0) && decide (ts.length = 0)))) := by
  have h := tfits_row (i := 2) rfl n m 2 ts
  rw [show ((2 : Nat) : Int) = 2 from rfl] at h
  rw [h]
  cases ts with
  | nil => simp only [fOk, fLen, fIs, tfitsL, List.length_nil]; rw [Bool.eq_iff_iff]; simp; omega
  | cons t ts => simp only [fOk, fLen, fIs, tfitsL, List.length_cons]; rw [Bool.eq_iff_iff]; simp; omega
theorem tfits_rec (n m : Int) (ts : List Tree) : tfits (.mk 3 n m ts) 2 = ((decide (n = 0) && (decide (m = 0) && (decide (1 ≤ ts.length) && decide (ts.length ≤ 3)))) && tall 3 ts) := by
  have h := tfits_btw (i := 3) (s1 := 2) (ks := []) rfl (by decide) n m 2 ts
  rw [show ((3 : Nat) : Int) = 3 from rfl] at h
  rw [h, tfitsL_congr (g := fun _ => 3) (fun j _ _ => by rw [show (3 : Int) = ((3 : Nat) : Int) from rfl, fWant_row (i := 3) rfl (by decide)]; rfl)]
  rw [show tfitsL (fun _ => 3) 0 ts = tall 3 ts from rfl]
  simp only [btw, fIs]; rw [Bool.eq_iff_iff]; simp; omega
theorem tfits_type (k n m : Int) (ts : List Tree) (h2 : k ≠ 2) (h3 : k ≠ 3) : tfits (.mk k n m ts) 2 = pln k n m ts.length := by
  rw [← tfits_plain]
  refine kind_cases (P := fun k => k ≠ 2 → k ≠ 3 → tfits (.mk k n m ts) 2 = tfits (.mk k n m ts) 3) ?_ ?_ k h2 h3
  · intro i hi h2 h3
    by_cases c : i = 0 ∨ i = 1
    · rcases c with rfl | rfl
      · rw [tfits_row (i := 0) rfl, tfits_row (i := 0) rfl]; rfl
      · rw [tfits_row (i := 1) rfl, tfits_row (i := 1) rfl]; rfl
    · rw [fIs_only (P := fun j => j ≤ 3) (by decide) hi (by omega), fIs_only (P := fun j => j ≤ 1) (by decide) hi (by omega)]
  · intro k hk _ _
    rw [tfits_out 2 hk, tfits_out 3 hk]
/-- a row whose kids are all of one sort -/
theorem tfits_same {i : Nat} {s3 s4 s6 s7 s8 s1 : Int} {ks : List Int} (hs : shF[i]? = some (s1, 0, s3, s4, ks, s6, s7, s8)) (hi : i ≠ 26) (want all : Int) (least kids : Nat)
    (hw : fIs s1 want = true) (hl : (ks.length : Int) + s7 = least) (hk : (ks.length : Int) + s6 = kids) (ha : ∀ j, j < kids → (ks[j]?).getD s8 = all) (n m : Int) (ts : List Tree) :
    tfits (.mk (i : Int) n m ts) want = (btw n m ts.length s3 s4 least kids && tall all ts) := by
  rw [tfits_btw hs hi, hw, Bool.true_and, hl, hk]
  cases hb : btw n m ts.length s3 s4 least kids with
  | false => rfl
  | true =>
    have hlen : ts.length ≤ kids := by
      simp only [btw, Bool.and_eq_true, decide_eq_true_eq] at hb
      omega
    rw [Bool.true_and, Bool.true_and]
    exact tfitsL_congr fun j _ hj => by rw [fWant_row hs hi]; exact ha j (by omega)
end Go.Proofs.YtdlhkhnoigbhjaaDoor.Pu
namespace Go.Proofs.YtdlhkhnoigbhjaaDoor.Wi
open Go Go.RowKit Pu Lb
set_option linter.unusedSimpArgs false
set_option linter.unusedVariables false
/-- what the reference's Expr promises of a tree -/
def ExprC (t : Tree) : Prop := ∀ (cs : List Value) (w : World), IsT w t cs →
    Calls Tryd.prog 100 #[.agg cs.toArray] w fun e w' => e = .returned (.bool (tfits t 4)) ∧ Below w.heap.size w w'
set_option maxRecDepth 100000 in
theorem exprs_step (ts : List Tree) (ih : ∀ t ∈ ts, ExprC t) (v : Value) (xs : List Value) (w : World) (hr : Rd w 4 v ts.length xs) (hts : IsTs w ts xs) (hl : ts.length ≤ 1000000) :
    Calls Tryd.prog 101 #[v] w fun e w' => e = .returned (.bool (tall 4 ts)) ∧ Below w.heap.size w w' := by
  have IH := Lib.hid ih
  clear ih
  have XL := hts.len
  have HT := Lib.hid hts
  have HR := Lib.hid hr
  clear hts
  go_enter Tryd.func101, Tryd.ntmps101
  go_upto_region 2 with fail
  go_loopw [3] (fun i wr => ∃ j : Nat, j ≤ ts.length ∧ i = .int .i64 (j : Int) ∧ Hid (∀ r u, r < j → ts[r]? = some u → tfits u 4 = true) ∧ Below w.heap.size w wr) (fun i _ => ts.length - (intOf i).toNat)
  case atStart => exact ⟨0, Nat.zero_le _, rfl, Lib.hid (fun r u hr => absurd hr (by omega)), Below.refl _ _⟩
  case round =>
    obtain ⟨j, hj, rfl, HE, hbj⟩ := hrel
    obtain ⟨wo, rfl⟩ : ∃ wo : World, wo = wr := ⟨_, rfl⟩
    have hrj := HR.out.below hbj
    by_cases hlt : j < ts.length
    · obtain ⟨t, ht⟩ := kid_at (ts := ts) (i := j) (by omega)
      obtain ⟨cj, hcj⟩ : ∃ cs, (xs.drop (j * 4)).take 4 = cs := ⟨_, rfl⟩
      have hTj := (IsTs.get HT.out ht).below hbj
      rw [hcj] at hTj
      have HC := Lib.hid hcj
      have BD := Lib.hid (show j * 4 + 4 ≤ xs.length by rw [XL]; omega)
      have HT0 := Lib.hid ht
      have IHj := Lib.hid (IH.out t (List.mem_of_getElem? ht) cj _ hTj)
      have LJ : decide ((j : Int) < (ts.length : Int)) = true := by rw [decide_eq_true_eq]; omega
      clear hcj ht
      by_cases cf : tfits t 4 = true
      · have CF := Lib.hid cf
        have HE2 := Lib.hid (show ∀ r u, r < j + 1 → ts[r]? = some u → tfits u 4 = true from fun r u hr hu => by
          by_cases hrj : r = j
          · subst hrj; rw [HT0.out] at hu; cases hu; exact CF.out
          · exact HE.out r u (by omega) hu)
        clear cf HE
        go_wp2_with (first
          | ((with_reducible refine' wpList_len_rd (.tmp 5) 23 rfl ?_ Tryd.underlying23 ?_ hrj ?_); exact rfl; exact rfl; simp only [Act.put, List.setIfInBounds_toArray, List.set_cons_succ, List.set_cons_zero]) | ((with_reducible refine' wpList_at_rd (.tmp 10) (.tmp 11) 23 rfl ?_ Tryd.underlying23 sz_node ?_ hrj (by decide) (j) ?_ ?_ ?_); exact rfl; exact rfl; (show (_ : Int) = _; omega); omega; simp only [Act.put, List.setIfInBounds_toArray, List.set_cons_succ, List.set_cons_zero]) | ((with_reducible refine' wpList_load_st (cp := cj) (.tmp 12) 25 rfl ?_ Tryd.underlying25 ?_ sz_node ?_ hrj ?_ ?_ HC.out ?_); exact rfl; exact rfl; exact rfl; exact BD.out; decide; simp only [Act.put, List.setIfInBounds_toArray, List.set_cons_succ, List.set_cons_zero])
          | ((go_at_call 100; (with_reducible refine (IHj.out).mono ?_); rintro e w' ⟨rfl, hN6⟩); rw [CF.out]))
        go_roundw
        case rel => (first | exact ⟨j + 1, by omega, by go_num, HE2, hbj.trans (hN6.mono hbj.size)⟩ | ((repeat apply Exists.intro); exact ⟨⟨j + 1, by omega, by go_num, HE2, hbj.trans (hN6.mono hbj.size)⟩, rfl⟩))
        case measure => simp [intOf]; omega
      · have CF := Lib.hid (show tfits t 4 = false by simpa using cf)
        have HF := Lib.hid (show tall 4 ts = false from tall_no (List.mem_of_getElem? HT0.out) CF.out)
        clear cf HE
        go_wp2_with (first
          | ((with_reducible refine' wpList_len_rd (.tmp 5) 23 rfl ?_ Tryd.underlying23 ?_ hrj ?_); exact rfl; exact rfl; simp only [Act.put, List.setIfInBounds_toArray, List.set_cons_succ, List.set_cons_zero]) | ((with_reducible refine' wpList_at_rd (.tmp 10) (.tmp 11) 23 rfl ?_ Tryd.underlying23 sz_node ?_ hrj (by decide) (j) ?_ ?_ ?_); exact rfl; exact rfl; (show (_ : Int) = _; omega); omega; simp only [Act.put, List.setIfInBounds_toArray, List.set_cons_succ, List.set_cons_zero]) | ((with_reducible refine' wpList_load_st (cp := cj) (.tmp 12) 25 rfl ?_ Tryd.underlying25 ?_ sz_node ?_ hrj ?_ ?_ HC.out ?_); exact rfl; exact rfl; exact rfl; exact BD.out; decide; simp only [Act.put, List.setIfInBounds_toArray, List.set_cons_succ, List.set_cons_zero])
          | ((go_at_call 100; (with_reducible refine (IHj.out).mono ?_); rintro e w' ⟨rfl, hN6⟩); rw [CF.out]))
        go_ret
        rw [HF.out]
        exact ⟨rfl, hbj.trans (hN6.mono hbj.size)⟩
    · obtain rfl : j = ts.length := by omega
      have HF := Lib.hid (show tall 4 ts = true from (tall_iff 4 ts).2 fun u hu => by
        obtain ⟨r, hr, rfl⟩ := List.mem_iff_getElem.1 hu
        exact HE.out r _ hr (List.getElem?_eq_getElem hr))
      go_wp2_with (((with_reducible refine' wpList_len_rd (.tmp 5) 23 rfl ?_ Tryd.underlying23 ?_ hrj ?_); exact rfl; exact rfl; simp only [Act.put, List.setIfInBounds_toArray, List.set_cons_succ, List.set_cons_zero]))
      go_ret
      rw [HF.out]
      exact ⟨rfl, hbj⟩
end Go.Proofs.YtdlhkhnoigbhjaaDoor.Wi
namespace Go.Proofs.YtdlhkhnoigbhjaaDoor.Wi
open Go Go.RowKit Pu Lb
set_option linter.unusedSimpArgs false
set_option linter.unusedVariables false
theorem tfits_num (n m : Int) (ts : List Tree) : tfits (.mk 4 n m ts) 4 = (decide (-8 ≤ n) && (decide (n ≤ 7) && (decide (m = 0) && decide (ts.length = 0)))) := by
  have h := tfits_row (i := 4) rfl n m 4 ts
  rw [show ((4 : Nat) : Int) = 4 from rfl] at h
  rw [h]
  cases ts with
  | nil => simp only [fOk, fLen, fIs, tfitsL, List.length_nil]; rw [Bool.eq_iff_iff]; simp; omega
  | cons t ts => simp only [fOk, fLen, fIs, tfitsL, List.length_cons]; rw [Bool.eq_iff_iff]; simp; omega
theorem tfits_e5 (n m : Int) (ts : List Tree) : tfits (.mk 5 n m ts) 4 = (btw n m ts.length 1 0 0 0 && tall 4 ts) :=
  tfits_same (i := 5) rfl (by decide) 4 4 0 0 rfl rfl rfl (by decide) n m ts
theorem tfits_e6 (n m : Int) (ts : List Tree) : tfits (.mk 6 n m ts) 4 = (btw n m ts.length 5 0 0 0 && tall 4 ts) :=
  tfits_same (i := 6) rfl (by decide) 4 4 0 0 rfl rfl rfl (by decide) n m ts
theorem tfits_e7 (n m : Int) (ts : List Tree) : tfits (.mk 7 n m ts) 4 = (btw n m ts.length 5 0 1 1 && tall 4 ts) :=
  tfits_same (i := 7) rfl (by decide) 4 4 1 1 rfl rfl rfl (by decide) n m ts
theorem tfits_e8 (n m : Int) (ts : List Tree) : tfits (.mk 8 n m ts) 4 = (btw n m ts.length 5 2 0 0 && tall 4 ts) :=
  tfits_same (i := 8) rfl (by decide) 4 4 0 0 rfl rfl rfl (by decide) n m ts
theorem tfits_e9 (n m : Int) (ts : List Tree) : tfits (.mk 9 n m ts) 4 = (btw n m ts.length 13 0 2 2 && tall 4 ts) :=
  tfits_same (i := 9) rfl (by decide) 4 4 2 2 rfl rfl rfl (by decide) n m ts
theorem tfits_e10 (n m : Int) (ts : List Tree) : tfits (.mk 10 n m ts) 4 = (btw n m ts.length 0 0 1 1 && tall 4 ts) :=
  tfits_same (i := 10) rfl (by decide) 4 4 1 1 rfl rfl rfl (by decide) n m ts
theorem tfits_e11 (n m : Int) (ts : List Tree) : tfits (.mk 11 n m ts) 4 = (btw n m ts.length 5 0 0 3 && tall 4 ts) :=
  tfits_same (i := 11) rfl (by decide) 4 4 0 3 rfl rfl rfl (by decide) n m ts
theorem tfits_e12 (n m : Int) (ts : List Tree) : tfits (.mk 12 n m ts) 4 = (btw n m ts.length 2 0 0 0 && tall 4 ts) :=
  tfits_same (i := 12) rfl (by decide) 4 4 0 0 rfl rfl rfl (by decide) n m ts
set_option maxRecDepth 100000 in
set_option maxHeartbeats 3200000 in
theorem refexpr_any : ∀ t : Tree, ExprC t := by
  refine Tree.ind fun k n m ts ih => ?_
  intro cs w hT
  have HT0 := Lib.hid hT
  have IH := Lib.hid ih
  clear ih
  rw [IsT] at hT
  obtain ⟨v, xs, rfl, hr, hts⟩ := hT
  have CO := Lib.hid (HT0.out.ones)
  have CL := Lib.hid (HT0.out.len)
  have X0 := Lib.hid (show ([.int .i64 k, .int .i64 n, .int .i64 m, v] : List Value)[0]? = some (.int .i64 k) from rfl)
  have X1 := Lib.hid (show ([.int .i64 k, .int .i64 n, .int .i64 m, v] : List Value)[1]? = some (.int .i64 n) from rfl)
  have X2 := Lib.hid (show ([.int .i64 k, .int .i64 n, .int .i64 m, v] : List Value)[2]? = some (.int .i64 m) from rfl)
  have X3 := Lib.hid (show ([.int .i64 k, .int .i64 n, .int .i64 m, v] : List Value)[3]? = some v from rfl)
  go_enter Tryd.func100, Tryd.ntmps100
  go_upto_region 1 with (((with_reducible refine' wpList_boxa (cs := [.int .i64 k, .int .i64 n, .int .i64 m, v]) 25 (.tmp 0) rfl ?_ ?_ ?_); exact rfl; exact rfl; intro w1 kA hN1 hz1; simp only [Act.put, List.setIfInBounds_toArray, List.set_cons_succ, List.set_cons_zero]))
  have hr1 := hr.below hN1
  have ht1 := Lib.hid (IsTs.below hN1 hts)
  have hT1 := HT0.out.below hN1
  clear hr hz1 hts
  by_cases k4 : k = 4
  · subst k4
    have TN := Lib.hid (tfits_num n m ts)
    obtain ⟨L, hL⟩ : ∃ L, ts.length = L := ⟨_, rfl⟩
    rw [hL] at hr1 TN
    clear hL
    by_cases c0 : -8 ≤ n
    rotate_left
    · have e0 : decide (-8 ≤ n) = false := decide_eq_false c0
      have HV := Lib.hid (show tfits (.mk 4 n m ts) 4 = false by rw [TN.out]; rw [e0]; simp)
      clear c0
      go_wp2_with (first | ((with_reducible refine' wpList_field_blk (j := 0) (.tmp 1) 25 0 rfl ?_ fo_node_0 ?_ rfl ?_); exact rfl; exact rfl; simp only [Act.put, List.setIfInBounds_toArray, List.set_cons_succ, List.set_cons_zero]) | ((with_reducible refine' wpList_field_blk (j := 1) (.tmp 1) 25 1 rfl ?_ fo_node_1 ?_ rfl ?_); exact rfl; exact rfl; simp only [Act.put, List.setIfInBounds_toArray, List.set_cons_succ, List.set_cons_zero]) | ((with_reducible refine' wpList_field_blk (j := 2) (.tmp 1) 25 2 rfl ?_ fo_node_2 ?_ rfl ?_); exact rfl; exact rfl; simp only [Act.put, List.setIfInBounds_toArray, List.set_cons_succ, List.set_cons_zero]) | ((with_reducible refine' wpList_field_blk (j := 3) (.tmp 1) 25 3 rfl ?_ fo_node_3 ?_ rfl ?_); exact rfl; exact rfl; simp only [Act.put, List.setIfInBounds_toArray, List.set_cons_succ, List.set_cons_zero]) | ((with_reducible refine' wpList_load_blk (.tmp 4) 3 rfl ?_ ld_int ?_ kA (X0.out) ?_); exact rfl; exact rfl; simp only [Act.put, List.setIfInBounds_toArray, List.set_cons_succ, List.set_cons_zero]) | ((with_reducible refine' wpList_load_blk (.tmp 8) 3 rfl ?_ ld_int ?_ kA (X1.out) ?_); exact rfl; exact rfl; simp only [Act.put, List.setIfInBounds_toArray, List.set_cons_succ, List.set_cons_zero]) | ((with_reducible refine' wpList_load_blk (.tmp 12) 3 rfl ?_ ld_int ?_ kA (X1.out) ?_); exact rfl; exact rfl; simp only [Act.put, List.setIfInBounds_toArray, List.set_cons_succ, List.set_cons_zero]) | ((with_reducible refine' wpList_load_blk (.tmp 17) 3 rfl ?_ ld_int ?_ kA (X2.out) ?_); exact rfl; exact rfl; simp only [Act.put, List.setIfInBounds_toArray, List.set_cons_succ, List.set_cons_zero]) | ((with_reducible refine' wpList_load_blk (.tmp 22) 23 rfl ?_ ld_nds ?_ kA (X3.out) ?_); exact rfl; exact rfl; simp only [Act.put, List.setIfInBounds_toArray, List.set_cons_succ, List.set_cons_zero]) | ((with_reducible refine' wpList_len_rd (.tmp 23) 23 rfl ?_ Tryd.underlying23 ?_ hr1 ?_); exact rfl; exact rfl; simp only [Act.put, List.setIfInBounds_toArray, List.set_cons_succ, List.set_cons_zero]))
      go_ret
      rw [HV.out]
      exact ⟨rfl, hN1⟩
    have e0 : decide (-8 ≤ n) = true := decide_eq_true c0
    by_cases c1 : n ≤ 7
    rotate_left
    · have e1 : decide (n ≤ 7) = false := decide_eq_false c1
      have HV := Lib.hid (show tfits (.mk 4 n m ts) 4 = false by rw [TN.out]; rw [e0, e1]; simp)
      clear c0 c1
      go_wp2_with (first | ((with_reducible refine' wpList_field_blk (j := 0) (.tmp 1) 25 0 rfl ?_ fo_node_0 ?_ rfl ?_); exact rfl; exact rfl; simp only [Act.put, List.setIfInBounds_toArray, List.set_cons_succ, List.set_cons_zero]) | ((with_reducible refine' wpList_field_blk (j := 1) (.tmp 1) 25 1 rfl ?_ fo_node_1 ?_ rfl ?_); exact rfl; exact rfl; simp only [Act.put, List.setIfInBounds_toArray, List.set_cons_succ, List.set_cons_zero]) | ((with_reducible refine' wpList_field_blk (j := 2) (.tmp 1) 25 2 rfl ?_ fo_node_2 ?_ rfl ?_); exact rfl; exact rfl; simp only [Act.put, List.setIfInBounds_toArray, List.set_cons_succ, List.set_cons_zero]) | ((with_reducible refine' wpList_field_blk (j := 3) (.tmp 1) 25 3 rfl ?_ fo_node_3 ?_ rfl ?_); exact rfl; exact rfl; simp only [Act.put, List.setIfInBounds_toArray, List.set_cons_succ, List.set_cons_zero]) | ((with_reducible refine' wpList_load_blk (.tmp 4) 3 rfl ?_ ld_int ?_ kA (X0.out) ?_); exact rfl; exact rfl; simp only [Act.put, List.setIfInBounds_toArray, List.set_cons_succ, List.set_cons_zero]) | ((with_reducible refine' wpList_load_blk (.tmp 8) 3 rfl ?_ ld_int ?_ kA (X1.out) ?_); exact rfl; exact rfl; simp only [Act.put, List.setIfInBounds_toArray, List.set_cons_succ, List.set_cons_zero]) | ((with_reducible refine' wpList_load_blk (.tmp 12) 3 rfl ?_ ld_int ?_ kA (X1.out) ?_); exact rfl; exact rfl; simp only [Act.put, List.setIfInBounds_toArray, List.set_cons_succ, List.set_cons_zero]) | ((with_reducible refine' wpList_load_blk (.tmp 17) 3 rfl ?_ ld_int ?_ kA (X2.out) ?_); exact rfl; exact rfl; simp only [Act.put, List.setIfInBounds_toArray, List.set_cons_succ, List.set_cons_zero]) | ((with_reducible refine' wpList_load_blk (.tmp 22) 23 rfl ?_ ld_nds ?_ kA (X3.out) ?_); exact rfl; exact rfl; simp only [Act.put, List.setIfInBounds_toArray, List.set_cons_succ, List.set_cons_zero]) | ((with_reducible refine' wpList_len_rd (.tmp 23) 23 rfl ?_ Tryd.underlying23 ?_ hr1 ?_); exact rfl; exact rfl; simp only [Act.put, List.setIfInBounds_toArray, List.set_cons_succ, List.set_cons_zero]))
      go_ret
      rw [HV.out]
      exact ⟨rfl, hN1⟩
    have e1 : decide (n ≤ 7) = true := decide_eq_true c1
    by_cases c2 : m = 0
    rotate_left
    · have e2 : decide (m = 0) = false := decide_eq_false c2
      have f2 : ((m : Int) == 0) = false := by rw [beq_eq_false_iff_ne]; exact c2
      have HV := Lib.hid (show tfits (.mk 4 n m ts) 4 = false by rw [TN.out]; rw [e0, e1, e2]; simp)
      clear c0 c1 c2
      go_wp2_with (first | ((with_reducible refine' wpList_field_blk (j := 0) (.tmp 1) 25 0 rfl ?_ fo_node_0 ?_ rfl ?_); exact rfl; exact rfl; simp only [Act.put, List.setIfInBounds_toArray, List.set_cons_succ, List.set_cons_zero]) | ((with_reducible refine' wpList_field_blk (j := 1) (.tmp 1) 25 1 rfl ?_ fo_node_1 ?_ rfl ?_); exact rfl; exact rfl; simp only [Act.put, List.setIfInBounds_toArray, List.set_cons_succ, List.set_cons_zero]) | ((with_reducible refine' wpList_field_blk (j := 2) (.tmp 1) 25 2 rfl ?_ fo_node_2 ?_ rfl ?_); exact rfl; exact rfl; simp only [Act.put, List.setIfInBounds_toArray, List.set_cons_succ, List.set_cons_zero]) | ((with_reducible refine' wpList_field_blk (j := 3) (.tmp 1) 25 3 rfl ?_ fo_node_3 ?_ rfl ?_); exact rfl; exact rfl; simp only [Act.put, List.setIfInBounds_toArray, List.set_cons_succ, List.set_cons_zero]) | ((with_reducible refine' wpList_load_blk (.tmp 4) 3 rfl ?_ ld_int ?_ kA (X0.out) ?_); exact rfl; exact rfl; simp only [Act.put, List.setIfInBounds_toArray, List.set_cons_succ, List.set_cons_zero]) | ((with_reducible refine' wpList_load_blk (.tmp 8) 3 rfl ?_ ld_int ?_ kA (X1.out) ?_); exact rfl; exact rfl; simp only [Act.put, List.setIfInBounds_toArray, List.set_cons_succ, List.set_cons_zero]) | ((with_reducible refine' wpList_load_blk (.tmp 12) 3 rfl ?_ ld_int ?_ kA (X1.out) ?_); exact rfl; exact rfl; simp only [Act.put, List.setIfInBounds_toArray, List.set_cons_succ, List.set_cons_zero]) | ((with_reducible refine' wpList_load_blk (.tmp 17) 3 rfl ?_ ld_int ?_ kA (X2.out) ?_); exact rfl; exact rfl; simp only [Act.put, List.setIfInBounds_toArray, List.set_cons_succ, List.set_cons_zero]) | ((with_reducible refine' wpList_load_blk (.tmp 22) 23 rfl ?_ ld_nds ?_ kA (X3.out) ?_); exact rfl; exact rfl; simp only [Act.put, List.setIfInBounds_toArray, List.set_cons_succ, List.set_cons_zero]) | ((with_reducible refine' wpList_len_rd (.tmp 23) 23 rfl ?_ Tryd.underlying23 ?_ hr1 ?_); exact rfl; exact rfl; simp only [Act.put, List.setIfInBounds_toArray, List.set_cons_succ, List.set_cons_zero]))
      go_ret
      rw [HV.out]
      exact ⟨rfl, hN1⟩
    have e2 : decide (m = 0) = true := decide_eq_true c2
    have f2 : ((m : Int) == 0) = true := by rw [beq_iff_eq]; exact c2
    by_cases c3 : (L : Int) = 0
    rotate_left
    · have e3 : decide ((L : Int) = 0) = false := decide_eq_false c3
      have f3 : (((L : Int) : Int) == 0) = false := by rw [beq_eq_false_iff_ne]; exact c3
      have HV := Lib.hid (show tfits (.mk 4 n m ts) 4 = false by rw [TN.out]; rw [decide_eq_false (show ¬ L = 0 by omega)]; simp)
      clear c0 c1 c2 c3
      go_wp2_with (first | ((with_reducible refine' wpList_field_blk (j := 0) (.tmp 1) 25 0 rfl ?_ fo_node_0 ?_ rfl ?_); exact rfl; exact rfl; simp only [Act.put, List.setIfInBounds_toArray, List.set_cons_succ, List.set_cons_zero]) | ((with_reducible refine' wpList_field_blk (j := 1) (.tmp 1) 25 1 rfl ?_ fo_node_1 ?_ rfl ?_); exact rfl; exact rfl; simp only [Act.put, List.setIfInBounds_toArray, List.set_cons_succ, List.set_cons_zero]) | ((with_reducible refine' wpList_field_blk (j := 2) (.tmp 1) 25 2 rfl ?_ fo_node_2 ?_ rfl ?_); exact rfl; exact rfl; simp only [Act.put, List.setIfInBounds_toArray, List.set_cons_succ, List.set_cons_zero]) | ((with_reducible refine' wpList_field_blk (j := 3) (.tmp 1) 25 3 rfl ?_ fo_node_3 ?_ rfl ?_); exact rfl; exact rfl; simp only [Act.put, List.setIfInBounds_toArray, List.set_cons_succ, List.set_cons_zero]) | ((with_reducible refine' wpList_load_blk (.tmp 4) 3 rfl ?_ ld_int ?_ kA (X0.out) ?_); exact rfl; exact rfl; simp only [Act.put, List.setIfInBounds_toArray, List.set_cons_succ, List.set_cons_zero]) | ((with_reducible refine' wpList_load_blk (.tmp 8) 3 rfl ?_ ld_int ?_ kA (X1.out) ?_); exact rfl; exact rfl; simp only [Act.put, List.setIfInBounds_toArray, List.set_cons_succ, List.set_cons_zero]) | ((with_reducible refine' wpList_load_blk (.tmp 12) 3 rfl ?_ ld_int ?_ kA (X1.out) ?_); exact rfl; exact rfl; simp only [Act.put, List.setIfInBounds_toArray, List.set_cons_succ, List.set_cons_zero]) | ((with_reducible refine' wpList_load_blk (.tmp 17) 3 rfl ?_ ld_int ?_ kA (X2.out) ?_); exact rfl; exact rfl; simp only [Act.put, List.setIfInBounds_toArray, List.set_cons_succ, List.set_cons_zero]) | ((with_reducible refine' wpList_load_blk (.tmp 22) 23 rfl ?_ ld_nds ?_ kA (X3.out) ?_); exact rfl; exact rfl; simp only [Act.put, List.setIfInBounds_toArray, List.set_cons_succ, List.set_cons_zero]) | ((with_reducible refine' wpList_len_rd (.tmp 23) 23 rfl ?_ Tryd.underlying23 ?_ hr1 ?_); exact rfl; exact rfl; simp only [Act.put, List.setIfInBounds_toArray, List.set_cons_succ, List.set_cons_zero]))
      go_ret
      rw [HV.out]
      exact ⟨rfl, hN1⟩
    have e3 : decide ((L : Int) = 0) = true := decide_eq_true c3
    have f3 : (((L : Int) : Int) == 0) = true := by rw [beq_iff_eq]; exact c3
    have HV := Lib.hid (show tfits (.mk 4 n m ts) 4 = true by rw [TN.out]; rw [decide_eq_true (show L = 0 by omega), e0, e1, e2]; rfl)
    clear c0 c1 c2 c3
    go_wp2_with (first | ((with_reducible refine' wpList_field_blk (j := 0) (.tmp 1) 25 0 rfl ?_ fo_node_0 ?_ rfl ?_); exact rfl; exact rfl; simp only [Act.put, List.setIfInBounds_toArray, List.set_cons_succ, List.set_cons_zero]) | ((with_reducible refine' wpList_field_blk (j := 1) (.tmp 1) 25 1 rfl ?_ fo_node_1 ?_ rfl ?_); exact rfl; exact rfl; simp only [Act.put, List.setIfInBounds_toArray, List.set_cons_succ, List.set_cons_zero]) | ((with_reducible refine' wpList_field_blk (j := 2) (.tmp 1) 25 2 rfl ?_ fo_node_2 ?_ rfl ?_); exact rfl; exact rfl; simp only [Act.put, List.setIfInBounds_toArray, List.set_cons_succ, List.set_cons_zero]) | ((with_reducible refine' wpList_field_blk (j := 3) (.tmp 1) 25 3 rfl ?_ fo_node_3 ?_ rfl ?_); exact rfl; exact rfl; simp only [Act.put, List.setIfInBounds_toArray, List.set_cons_succ, List.set_cons_zero]) | ((with_reducible refine' wpList_load_blk (.tmp 4) 3 rfl ?_ ld_int ?_ kA (X0.out) ?_); exact rfl; exact rfl; simp only [Act.put, List.setIfInBounds_toArray, List.set_cons_succ, List.set_cons_zero]) | ((with_reducible refine' wpList_load_blk (.tmp 8) 3 rfl ?_ ld_int ?_ kA (X1.out) ?_); exact rfl; exact rfl; simp only [Act.put, List.setIfInBounds_toArray, List.set_cons_succ, List.set_cons_zero]) | ((with_reducible refine' wpList_load_blk (.tmp 12) 3 rfl ?_ ld_int ?_ kA (X1.out) ?_); exact rfl; exact rfl; simp only [Act.put, List.setIfInBounds_toArray, List.set_cons_succ, List.set_cons_zero]) | ((with_reducible refine' wpList_load_blk (.tmp 17) 3 rfl ?_ ld_int ?_ kA (X2.out) ?_); exact rfl; exact rfl; simp only [Act.put, List.setIfInBounds_toArray, List.set_cons_succ, List.set_cons_zero]) | ((with_reducible refine' wpList_load_blk (.tmp 22) 23 rfl ?_ ld_nds ?_ kA (X3.out) ?_); exact rfl; exact rfl; simp only [Act.put, List.setIfInBounds_toArray, List.set_cons_succ, List.set_cons_zero]) | ((with_reducible refine' wpList_len_rd (.tmp 23) 23 rfl ?_ Tryd.underlying23 ?_ hr1 ?_); exact rfl; exact rfl; simp only [Act.put, List.setIfInBounds_toArray, List.set_cons_succ, List.set_cons_zero]))
    go_ret
    rw [HV.out]
    exact ⟨rfl, hN1⟩
  by_cases k5 : k = 5
  · subst k5
    cases hb : btw n m ts.length 1 0 0 0 with
    | false =>
      have HB := Lib.hid hb
      have HV := Lib.hid (show tfits (.mk 5 n m ts) 4 = false by rw [tfits_e5, hb]; rfl)
      clear hb
      go_wp2_with (first
        | ((with_reducible refine' wpList_field_blk (j := 0) (.tmp 1) 25 0 rfl ?_ fo_node_0 ?_ rfl ?_); exact rfl; exact rfl; simp only [Act.put, List.setIfInBounds_toArray, List.set_cons_succ, List.set_cons_zero])
        | ((with_reducible refine' wpList_load_blk (.tmp 4) 3 rfl ?_ ld_int ?_ kA (X0.out) ?_); exact rfl; exact rfl; simp only [Act.put, List.setIfInBounds_toArray, List.set_cons_succ, List.set_cons_zero])
        | ((with_reducible refine' wpList_loadst_blk (.tmp 1) 25 rfl ?_ Tryd.underlying25 ?_ sz_node ?_ kA ?_ ?_ ?_); exact rfl; exact rfl; exact rfl; exact CL.out; decide; simp only [Act.put, List.setIfInBounds_toArray, List.set_cons_succ, List.set_cons_zero])
        | ((go_at_call 55; (with_reducible refine (between_any 5 n m ts 1 0 0 0 _ _ hT1).mono ?_); rintro e w' ⟨rfl, hN2⟩); rw [HB.out]; have kA2 := kA.below hN2 kA.lt; have hr2 := hr1.below hN2; have ht2 := Lib.hid (IsTs.below hN2 ht1.out); have hb2 := hN1.trans (hN2.mono hN1.size)))
      go_ret
      rw [HV.out]
      exact ⟨rfl, hb2⟩
    | true =>
      have HB := Lib.hid hb
      have HV := Lib.hid (show tfits (.mk 5 n m ts) 4 = tall 4 ts by rw [tfits_e5, hb]; rfl)
      have HL := Lib.hid (show ts.length ≤ 1000000 by simp only [btw, Bool.and_eq_true, decide_eq_true_eq] at hb; omega)
      clear hb
      go_wp2_with (first
        | ((with_reducible refine' wpList_field_blk (j := 0) (.tmp 1) 25 0 rfl ?_ fo_node_0 ?_ rfl ?_); exact rfl; exact rfl; simp only [Act.put, List.setIfInBounds_toArray, List.set_cons_succ, List.set_cons_zero])
        | ((with_reducible refine' wpList_load_blk (.tmp 4) 3 rfl ?_ ld_int ?_ kA (X0.out) ?_); exact rfl; exact rfl; simp only [Act.put, List.setIfInBounds_toArray, List.set_cons_succ, List.set_cons_zero])
        | ((with_reducible refine' wpList_loadst_blk (.tmp 1) 25 rfl ?_ Tryd.underlying25 ?_ sz_node ?_ kA ?_ ?_ ?_); exact rfl; exact rfl; exact rfl; exact CL.out; decide; simp only [Act.put, List.setIfInBounds_toArray, List.set_cons_succ, List.set_cons_zero])
        | ((go_at_call 55; (with_reducible refine (between_any 5 n m ts 1 0 0 0 _ _ hT1).mono ?_); rintro e w' ⟨rfl, hN2⟩); rw [HB.out]; have kA2 := kA.below hN2 kA.lt; have hr2 := hr1.below hN2; have ht2 := Lib.hid (IsTs.below hN2 ht1.out); have hb2 := hN1.trans (hN2.mono hN1.size))
        | ((with_reducible refine' wpList_field_blk (j := 3) (.tmp 1) 25 3 rfl ?_ fo_node_3 ?_ rfl ?_); exact rfl; exact rfl; simp only [Act.put, List.setIfInBounds_toArray, List.set_cons_succ, List.set_cons_zero])
        | ((with_reducible refine' wpList_load_blk (.tmp 61) 23 rfl ?_ ld_nds ?_ kA2 (X3.out) ?_); exact rfl; exact rfl; simp only [Act.put, List.setIfInBounds_toArray, List.set_cons_succ, List.set_cons_zero])
        | ((go_at_call 101; (with_reducible refine (exprs_step ts IH.out v xs _ hr2 ht2.out HL.out).mono ?_); rintro e w' ⟨rfl, hN3⟩)))
      go_ret
      rw [HV.out]
      exact ⟨rfl, hb2.trans (hN3.mono hb2.size)⟩
  by_cases k6 : k = 6
  · subst k6
    cases hb : btw n m ts.length 5 0 0 0 with
    | false =>
      have HB := Lib.hid hb
      have HV := Lib.hid (show tfits (.mk 6 n m ts) 4 = false by rw [tfits_e6, hb]; rfl)
      clear hb
      go_wp2_with (first
        | ((with_reducible refine' wpList_field_blk (j := 0) (.tmp 1) 25 0 rfl ?_ fo_node_0 ?_ rfl ?_); exact rfl; exact rfl; simp only [Act.put, List.setIfInBounds_toArray, List.set_cons_succ, List.set_cons_zero])
        | ((with_reducible refine' wpList_load_blk (.tmp 4) 3 rfl ?_ ld_int ?_ kA (X0.out) ?_); exact rfl; exact rfl; simp only [Act.put, List.setIfInBounds_toArray, List.set_cons_succ, List.set_cons_zero])
        | ((with_reducible refine' wpList_loadst_blk (.tmp 1) 25 rfl ?_ Tryd.underlying25 ?_ sz_node ?_ kA ?_ ?_ ?_); exact rfl; exact rfl; exact rfl; exact CL.out; decide; simp only [Act.put, List.setIfInBounds_toArray, List.set_cons_succ, List.set_cons_zero])
        | ((go_at_call 55; (with_reducible refine (between_any 6 n m ts 5 0 0 0 _ _ hT1).mono ?_); rintro e w' ⟨rfl, hN2⟩); rw [HB.out]; have kA2 := kA.below hN2 kA.lt; have hr2 := hr1.below hN2; have ht2 := Lib.hid (IsTs.below hN2 ht1.out); have hb2 := hN1.trans (hN2.mono hN1.size)))
      go_ret
      rw [HV.out]
      exact ⟨rfl, hb2⟩
    | true =>
      have HB := Lib.hid hb
      have HV := Lib.hid (show tfits (.mk 6 n m ts) 4 = tall 4 ts by rw [tfits_e6, hb]; rfl)
      have HL := Lib.hid (show ts.length ≤ 1000000 by simp only [btw, Bool.and_eq_true, decide_eq_true_eq] at hb; omega)
      clear hb
      go_wp2_with (first
        | ((with_reducible refine' wpList_field_blk (j := 0) (.tmp 1) 25 0 rfl ?_ fo_node_0 ?_ rfl ?_); exact rfl; exact rfl; simp only [Act.put, List.setIfInBounds_toArray, List.set_cons_succ, List.set_cons_zero])
        | ((with_reducible refine' wpList_load_blk (.tmp 4) 3 rfl ?_ ld_int ?_ kA (X0.out) ?_); exact rfl; exact rfl; simp only [Act.put, List.setIfInBounds_toArray, List.set_cons_succ, List.set_cons_zero])
        | ((with_reducible refine' wpList_loadst_blk (.tmp 1) 25 rfl ?_ Tryd.underlying25 ?_ sz_node ?_ kA ?_ ?_ ?_); exact rfl; exact rfl; exact rfl; exact CL.out; decide; simp only [Act.put, List.setIfInBounds_toArray, List.set_cons_succ, List.set_cons_zero])
        | ((go_at_call 55; (with_reducible refine (between_any 6 n m ts 5 0 0 0 _ _ hT1).mono ?_); rintro e w' ⟨rfl, hN2⟩); rw [HB.out]; have kA2 := kA.below hN2 kA.lt; have hr2 := hr1.below hN2; have ht2 := Lib.hid (IsTs.below hN2 ht1.out); have hb2 := hN1.trans (hN2.mono hN1.size))
        | ((with_reducible refine' wpList_field_blk (j := 3) (.tmp 1) 25 3 rfl ?_ fo_node_3 ?_ rfl ?_); exact rfl; exact rfl; simp only [Act.put, List.setIfInBounds_toArray, List.set_cons_succ, List.set_cons_zero])
        | ((with_reducible refine' wpList_load_blk (.tmp 61) 23 rfl ?_ ld_nds ?_ kA2 (X3.out) ?_); exact rfl; exact rfl; simp only [Act.put, List.setIfInBounds_toArray, List.set_cons_succ, List.set_cons_zero])
        | ((go_at_call 101; (with_reducible refine (exprs_step ts IH.out v xs _ hr2 ht2.out HL.out).mono ?_); rintro e w' ⟨rfl, hN3⟩)))
      go_ret
      rw [HV.out]
      exact ⟨rfl, hb2.trans (hN3.mono hb2.size)⟩
  by_cases k7 : k = 7
  · subst k7
    cases hb : btw n m ts.length 5 0 1 1 with
    | false =>
      have HB := Lib.hid hb
      have HV := Lib.hid (show tfits (.mk 7 n m ts) 4 = false by rw [tfits_e7, hb]; rfl)
      clear hb
      go_wp2_with (first
        | ((with_reducible refine' wpList_field_blk (j := 0) (.tmp 1) 25 0 rfl ?_ fo_node_0 ?_ rfl ?_); exact rfl; exact rfl; simp only [Act.put, List.setIfInBounds_toArray, List.set_cons_succ, List.set_cons_zero])
        | ((with_reducible refine' wpList_load_blk (.tmp 4) 3 rfl ?_ ld_int ?_ kA (X0.out) ?_); exact rfl; exact rfl; simp only [Act.put, List.setIfInBounds_toArray, List.set_cons_succ, List.set_cons_zero])
        | ((with_reducible refine' wpList_loadst_blk (.tmp 1) 25 rfl ?_ Tryd.underlying25 ?_ sz_node ?_ kA ?_ ?_ ?_); exact rfl; exact rfl; exact rfl; exact CL.out; decide; simp only [Act.put, List.setIfInBounds_toArray, List.set_cons_succ, List.set_cons_zero])
        | ((go_at_call 55; (with_reducible refine (between_any 7 n m ts 5 0 1 1 _ _ hT1).mono ?_); rintro e w' ⟨rfl, hN2⟩); rw [HB.out]; have kA2 := kA.below hN2 kA.lt; have hr2 := hr1.below hN2; have ht2 := Lib.hid (IsTs.below hN2 ht1.out); have hb2 := hN1.trans (hN2.mono hN1.size)))
      go_ret
      rw [HV.out]
      exact ⟨rfl, hb2⟩
    | true =>
      have HB := Lib.hid hb
      have HV := Lib.hid (show tfits (.mk 7 n m ts) 4 = tall 4 ts by rw [tfits_e7, hb]; rfl)
      have HL := Lib.hid (show ts.length ≤ 1000000 by simp only [btw, Bool.and_eq_true, decide_eq_true_eq] at hb; omega)
      clear hb
      go_wp2_with (first
        | ((with_reducible refine' wpList_field_blk (j := 0) (.tmp 1) 25 0 rfl ?_ fo_node_0 ?_ rfl ?_); exact rfl; exact rfl; simp only [Act.put, List.setIfInBounds_toArray, List.set_cons_succ, List.set_cons_zero])
        | ((with_reducible refine' wpList_load_blk (.tmp 4) 3 rfl ?_ ld_int ?_ kA (X0.out) ?_); exact rfl; exact rfl; simp only [Act.put, List.setIfInBounds_toArray, List.set_cons_succ, List.set_cons_zero])
        | ((with_reducible refine' wpList_loadst_blk (.tmp 1) 25 rfl ?_ Tryd.underlying25 ?_ sz_node ?_ kA ?_ ?_ ?_); exact rfl; exact rfl; exact rfl; exact CL.out; decide; simp only [Act.put, List.setIfInBounds_toArray, List.set_cons_succ, List.set_cons_zero])
        | ((go_at_call 55; (with_reducible refine (between_any 7 n m ts 5 0 1 1 _ _ hT1).mono ?_); rintro e w' ⟨rfl, hN2⟩); rw [HB.out]; have kA2 := kA.below hN2 kA.lt; have hr2 := hr1.below hN2; have ht2 := Lib.hid (IsTs.below hN2 ht1.out); have hb2 := hN1.trans (hN2.mono hN1.size))
        | ((with_reducible refine' wpList_field_blk (j := 3) (.tmp 1) 25 3 rfl ?_ fo_node_3 ?_ rfl ?_); exact rfl; exact rfl; simp only [Act.put, List.setIfInBounds_toArray, List.set_cons_succ, List.set_cons_zero])
        | ((with_reducible refine' wpList_load_blk (.tmp 61) 23 rfl ?_ ld_nds ?_ kA2 (X3.out) ?_); exact rfl; exact rfl; simp only [Act.put, List.setIfInBounds_toArray, List.set_cons_succ, List.set_cons_zero])
        | ((go_at_call 101; (with_reducible refine (exprs_step ts IH.out v xs _ hr2 ht2.out HL.out).mono ?_); rintro e w' ⟨rfl, hN3⟩)))
      go_ret
      rw [HV.out]
      exact ⟨rfl, hb2.trans (hN3.mono hb2.size)⟩
  by_cases k8 : k = 8
  · subst k8
    cases hb : btw n m ts.length 5 2 0 0 with
    | false =>
      have HB := Lib.hid hb
      have HV := Lib.hid (show tfits (.mk 8 n m ts) 4 = false by rw [tfits_e8, hb]; rfl)
      clear hb
      go_wp2_with (first
        | ((with_reducible refine' wpList_field_blk (j := 0) (.tmp 1) 25 0 rfl ?_ fo_node_0 ?_ rfl ?_); exact rfl; exact rfl; simp only [Act.put, List.setIfInBounds_toArray, List.set_cons_succ, List.set_cons_zero])
        | ((with_reducible refine' wpList_load_blk (.tmp 4) 3 rfl ?_ ld_int ?_ kA (X0.out) ?_); exact rfl; exact rfl; simp only [Act.put, List.setIfInBounds_toArray, List.set_cons_succ, List.set_cons_zero])
        | ((with_reducible refine' wpList_loadst_blk (.tmp 1) 25 rfl ?_ Tryd.underlying25 ?_ sz_node ?_ kA ?_ ?_ ?_); exact rfl; exact rfl; exact rfl; exact CL.out; decide; simp only [Act.put, List.setIfInBounds_toArray, List.set_cons_succ, List.set_cons_zero])
        | ((go_at_call 55; (with_reducible refine (between_any 8 n m ts 5 2 0 0 _ _ hT1).mono ?_); rintro e w' ⟨rfl, hN2⟩); rw [HB.out]; have kA2 := kA.below hN2 kA.lt; have hr2 := hr1.below hN2; have ht2 := Lib.hid (IsTs.below hN2 ht1.out); have hb2 := hN1.trans (hN2.mono hN1.size)))
      go_ret
      rw [HV.out]
      exact ⟨rfl, hb2⟩
    | true =>
      have HB := Lib.hid hb
      have HV := Lib.hid (show tfits (.mk 8 n m ts) 4 = tall 4 ts by rw [tfits_e8, hb]; rfl)
      have HL := Lib.hid (show ts.length ≤ 1000000 by simp only [btw, Bool.and_eq_true, decide_eq_true_eq] at hb; omega)
      clear hb
      go_wp2_with (first
        | ((with_reducible refine' wpList_field_blk (j := 0) (.tmp 1) 25 0 rfl ?_ fo_node_0 ?_ rfl ?_); exact rfl; exact rfl; simp only [Act.put, List.setIfInBounds_toArray, List.set_cons_succ, List.set_cons_zero])
        | ((with_reducible refine' wpList_load_blk (.tmp 4) 3 rfl ?_ ld_int ?_ kA (X0.out) ?_); exact rfl; exact rfl; simp only [Act.put, List.setIfInBounds_toArray, List.set_cons_succ, List.set_cons_zero])
        | ((with_reducible refine' wpList_loadst_blk (.tmp 1) 25 rfl ?_ Tryd.underlying25 ?_ sz_node ?_ kA ?_ ?_ ?_); exact rfl; exact rfl; exact rfl; exact CL.out; decide; simp only [Act.put, List.setIfInBounds_toArray, List.set_cons_succ, List.set_cons_zero])
        | ((go_at_call 55; (with_reducible refine (between_any 8 n m ts 5 2 0 0 _ _ hT1).mono ?_); rintro e w' ⟨rfl, hN2⟩); rw [HB.out]; have kA2 := kA.below hN2 kA.lt; have hr2 := hr1.below hN2; have ht2 := Lib.hid (IsTs.below hN2 ht1.out); have hb2 := hN1.trans (hN2.mono hN1.size))
        | ((with_reducible refine' wpList_field_blk (j := 3) (.tmp 1) 25 3 rfl ?_ fo_node_3 ?_ rfl ?_); exact rfl; exact rfl; simp only [Act.put, List.setIfInBounds_toArray, List.set_cons_succ, List.set_cons_zero])
        | ((with_reducible refine' wpList_load_blk (.tmp 61) 23 rfl ?_ ld_nds ?_ kA2 (X3.out) ?_); exact rfl; exact rfl; simp only [Act.put, List.setIfInBounds_toArray, List.set_cons_succ, List.set_cons_zero])
        | ((go_at_call 101; (with_reducible refine (exprs_step ts IH.out v xs _ hr2 ht2.out HL.out).mono ?_); rintro e w' ⟨rfl, hN3⟩)))
      go_ret
      rw [HV.out]
      exact ⟨rfl, hb2.trans (hN3.mono hb2.size)⟩
  by_cases k9 : k = 9
  · subst k9
    cases hb : btw n m ts.length 13 0 2 2 with
    | false =>
      have HB := Lib.hid hb
      have HV := Lib.hid (show tfits (.mk 9 n m ts) 4 = false by rw [tfits_e9, hb]; rfl)
      clear hb
      go_wp2_with (first
        | ((with_reducible refine' wpList_field_blk (j := 0) (.tmp 1) 25 0 rfl ?_ fo_node_0 ?_ rfl ?_); exact rfl; exact rfl; simp only [Act.put, List.setIfInBounds_toArray, List.set_cons_succ, List.set_cons_zero])
        | ((with_reducible refine' wpList_load_blk (.tmp 4) 3 rfl ?_ ld_int ?_ kA (X0.out) ?_); exact rfl; exact rfl; simp only [Act.put, List.setIfInBounds_toArray, List.set_cons_succ, List.set_cons_zero])
        | ((with_reducible refine' wpList_loadst_blk (.tmp 1) 25 rfl ?_ Tryd.underlying25 ?_ sz_node ?_ kA ?_ ?_ ?_); exact rfl; exact rfl; exact rfl; exact CL.out; decide; simp only [Act.put, List.setIfInBounds_toArray, List.set_cons_succ, List.set_cons_zero])
        | ((go_at_call 55; (with_reducible refine (between_any 9 n m ts 13 0 2 2 _ _ hT1).mono ?_); rintro e w' ⟨rfl, hN2⟩); rw [HB.out]; have kA2 := kA.below hN2 kA.lt; have hr2 := hr1.below hN2; have ht2 := Lib.hid (IsTs.below hN2 ht1.out); have hb2 := hN1.trans (hN2.mono hN1.size)))
      go_ret
      rw [HV.out]
      exact ⟨rfl, hb2⟩
    | true =>
      have HB := Lib.hid hb
      have HV := Lib.hid (show tfits (.mk 9 n m ts) 4 = tall 4 ts by rw [tfits_e9, hb]; rfl)
      have HL := Lib.hid (show ts.length ≤ 1000000 by simp only [btw, Bool.and_eq_true, decide_eq_true_eq] at hb; omega)
      clear hb
      go_wp2_with (first
        | ((with_reducible refine' wpList_field_blk (j := 0) (.tmp 1) 25 0 rfl ?_ fo_node_0 ?_ rfl ?_); exact rfl; exact rfl; simp only [Act.put, List.setIfInBounds_toArray, List.set_cons_succ, List.set_cons_zero])
        | ((with_reducible refine' wpList_load_blk (.tmp 4) 3 rfl ?_ ld_int ?_ kA (X0.out) ?_); exact rfl; exact rfl; simp only [Act.put, List.setIfInBounds_toArray, List.set_cons_succ, List.set_cons_zero])
        | ((with_reducible refine' wpList_loadst_blk (.tmp 1) 25 rfl ?_ Tryd.underlying25 ?_ sz_node ?_ kA ?_ ?_ ?_); exact rfl; exact rfl; exact rfl; exact CL.out; decide; simp only [Act.put, List.setIfInBounds_toArray, List.set_cons_succ, List.set_cons_zero])
        | ((go_at_call 55; (with_reducible refine (between_any 9 n m ts 13 0 2 2 _ _ hT1).mono ?_); rintro e w' ⟨rfl, hN2⟩); rw [HB.out]; have kA2 := kA.below hN2 kA.lt; have hr2 := hr1.below hN2; have ht2 := Lib.hid (IsTs.below hN2 ht1.out); have hb2 := hN1.trans (hN2.mono hN1.size))
        | ((with_reducible refine' wpList_field_blk (j := 3) (.tmp 1) 25 3 rfl ?_ fo_node_3 ?_ rfl ?_); exact rfl; exact rfl; simp only [Act.put, List.setIfInBounds_toArray, List.set_cons_succ, List.set_cons_zero])
        | ((with_reducible refine' wpList_load_blk (.tmp 61) 23 rfl ?_ ld_nds ?_ kA2 (X3.out) ?_); exact rfl; exact rfl; simp only [Act.put, List.setIfInBounds_toArray, List.set_cons_succ, List.set_cons_zero])
        | ((go_at_call 101; (with_reducible refine (exprs_step ts IH.out v xs _ hr2 ht2.out HL.out).mono ?_); rintro e w' ⟨rfl, hN3⟩)))
      go_ret
      rw [HV.out]
      exact ⟨rfl, hb2.trans (hN3.mono hb2.size)⟩
  by_cases k10 : k = 10
  · subst k10
    cases hb : btw n m ts.length 0 0 1 1 with
    | false =>
      have HB := Lib.hid hb
      have HV := Lib.hid (show tfits (.mk 10 n m ts) 4 = false by rw [tfits_e10, hb]; rfl)
      clear hb
      go_wp2_with (first
        | ((with_reducible refine' wpList_field_blk (j := 0) (.tmp 1) 25 0 rfl ?_ fo_node_0 ?_ rfl ?_); exact rfl; exact rfl; simp only [Act.put, List.setIfInBounds_toArray, List.set_cons_succ, List.set_cons_zero])
        | ((with_reducible refine' wpList_load_blk (.tmp 4) 3 rfl ?_ ld_int ?_ kA (X0.out) ?_); exact rfl; exact rfl; simp only [Act.put, List.setIfInBounds_toArray, List.set_cons_succ, List.set_cons_zero])
        | ((with_reducible refine' wpList_loadst_blk (.tmp 1) 25 rfl ?_ Tryd.underlying25 ?_ sz_node ?_ kA ?_ ?_ ?_); exact rfl; exact rfl; exact rfl; exact CL.out; decide; simp only [Act.put, List.setIfInBounds_toArray, List.set_cons_succ, List.set_cons_zero])
        | ((go_at_call 55; (with_reducible refine (between_any 10 n m ts 0 0 1 1 _ _ hT1).mono ?_); rintro e w' ⟨rfl, hN2⟩); rw [HB.out]; have kA2 := kA.below hN2 kA.lt; have hr2 := hr1.below hN2; have ht2 := Lib.hid (IsTs.below hN2 ht1.out); have hb2 := hN1.trans (hN2.mono hN1.size)))
      go_ret
      rw [HV.out]
      exact ⟨rfl, hb2⟩
    | true =>
      have HB := Lib.hid hb
      have HV := Lib.hid (show tfits (.mk 10 n m ts) 4 = tall 4 ts by rw [tfits_e10, hb]; rfl)
      have HL := Lib.hid (show ts.length ≤ 1000000 by simp only [btw, Bool.and_eq_true, decide_eq_true_eq] at hb; omega)
      clear hb
      go_wp2_with (first
        | ((with_reducible refine' wpList_field_blk (j := 0) (.tmp 1) 25 0 rfl ?_ fo_node_0 ?_ rfl ?_); exact rfl; exact rfl; simp only [Act.put, List.setIfInBounds_toArray, List.set_cons_succ, List.set_cons_zero])
        | ((with_reducible refine' wpList_load_blk (.tmp 4) 3 rfl ?_ ld_int ?_ kA (X0.out) ?_); exact rfl; exact rfl; simp only [Act.put, List.setIfInBounds_toArray, List.set_cons_succ, List.set_cons_zero])
        | ((with_reducible refine' wpList_loadst_blk (.tmp 1) 25 rfl ?_ Tryd.underlying25 ?_ sz_node ?_ kA ?_ ?_ ?_); exact rfl; exact rfl; exact rfl; exact CL.out; decide; simp only [Act.put, List.setIfInBounds_toArray, List.set_cons_succ, List.set_cons_zero])
        | ((go_at_call 55; (with_reducible refine (between_any 10 n m ts 0 0 1 1 _ _ hT1).mono ?_); rintro e w' ⟨rfl, hN2⟩); rw [HB.out]; have kA2 := kA.below hN2 kA.lt; have hr2 := hr1.below hN2; have ht2 := Lib.hid (IsTs.below hN2 ht1.out); have hb2 := hN1.trans (hN2.mono hN1.size))
        | ((with_reducible refine' wpList_field_blk (j := 3) (.tmp 1) 25 3 rfl ?_ fo_node_3 ?_ rfl ?_); exact rfl; exact rfl; simp only [Act.put, List.setIfInBounds_toArray, List.set_cons_succ, List.set_cons_zero])
        | ((with_reducible refine' wpList_load_blk (.tmp 61) 23 rfl ?_ ld_nds ?_ kA2 (X3.out) ?_); exact rfl; exact rfl; simp only [Act.put, List.setIfInBounds_toArray, List.set_cons_succ, List.set_cons_zero])
        | ((go_at_call 101; (with_reducible refine (exprs_step ts IH.out v xs _ hr2 ht2.out HL.out).mono ?_); rintro e w' ⟨rfl, hN3⟩)))
      go_ret
      rw [HV.out]
      exact ⟨rfl, hb2.trans (hN3.mono hb2.size)⟩
  by_cases k11 : k = 11
  · subst k11
    cases hb : btw n m ts.length 5 0 0 3 with
    | false =>
      have HB := Lib.hid hb
      have HV := Lib.hid (show tfits (.mk 11 n m ts) 4 = false by rw [tfits_e11, hb]; rfl)
      clear hb
      go_wp2_with (first
        | ((with_reducible refine' wpList_field_blk (j := 0) (.tmp 1) 25 0 rfl ?_ fo_node_0 ?_ rfl ?_); exact rfl; exact rfl; simp only [Act.put, List.setIfInBounds_toArray, List.set_cons_succ, List.set_cons_zero])
        | ((with_reducible refine' wpList_load_blk (.tmp 4) 3 rfl ?_ ld_int ?_ kA (X0.out) ?_); exact rfl; exact rfl; simp only [Act.put, List.setIfInBounds_toArray, List.set_cons_succ, List.set_cons_zero])
        | ((with_reducible refine' wpList_loadst_blk (.tmp 1) 25 rfl ?_ Tryd.underlying25 ?_ sz_node ?_ kA ?_ ?_ ?_); exact rfl; exact rfl; exact rfl; exact CL.out; decide; simp only [Act.put, List.setIfInBounds_toArray, List.set_cons_succ, List.set_cons_zero])
        | ((go_at_call 55; (with_reducible refine (between_any 11 n m ts 5 0 0 3 _ _ hT1).mono ?_); rintro e w' ⟨rfl, hN2⟩); rw [HB.out]; have kA2 := kA.below hN2 kA.lt; have hr2 := hr1.below hN2; have ht2 := Lib.hid (IsTs.below hN2 ht1.out); have hb2 := hN1.trans (hN2.mono hN1.size)))
      go_ret
      rw [HV.out]
      exact ⟨rfl, hb2⟩
    | true =>
      have HB := Lib.hid hb
      have HV := Lib.hid (show tfits (.mk 11 n m ts) 4 = tall 4 ts by rw [tfits_e11, hb]; rfl)
      have HL := Lib.hid (show ts.length ≤ 1000000 by simp only [btw, Bool.and_eq_true, decide_eq_true_eq] at hb; omega)
      clear hb
      go_wp2_with (first
        | ((with_reducible refine' wpList_field_blk (j := 0) (.tmp 1) 25 0 rfl ?_ fo_node_0 ?_ rfl ?_); exact rfl; exact rfl; simp only [Act.put, List.setIfInBounds_toArray, List.set_cons_succ, List.set_cons_zero])
        | ((with_reducible refine' wpList_load_blk (.tmp 4) 3 rfl ?_ ld_int ?_ kA (X0.out) ?_); exact rfl; exact rfl; simp only [Act.put, List.setIfInBounds_toArray, List.set_cons_succ, List.set_cons_zero])
        | ((with_reducible refine' wpList_loadst_blk (.tmp 1) 25 rfl ?_ Tryd.underlying25 ?_ sz_node ?_ kA ?_ ?_ ?_); exact rfl; exact rfl; exact rfl; exact CL.out; decide; simp only [Act.put, List.setIfInBounds_toArray, List.set_cons_succ, List.set_cons_zero])
        | ((go_at_call 55; (with_reducible refine (between_any 11 n m ts 5 0 0 3 _ _ hT1).mono ?_); rintro e w' ⟨rfl, hN2⟩); rw [HB.out]; have kA2 := kA.below hN2 kA.lt; have hr2 := hr1.below hN2; have ht2 := Lib.hid (IsTs.below hN2 ht1.out); have hb2 := hN1.trans (hN2.mono hN1.size))
        | ((with_reducible refine' wpList_field_blk (j := 3) (.tmp 1) 25 3 rfl ?_ fo_node_3 ?_ rfl ?_); exact rfl; exact rfl; simp only [Act.put, List.setIfInBounds_toArray, List.set_cons_succ, List.set_cons_zero])
        | ((with_reducible refine' wpList_load_blk (.tmp 61) 23 rfl ?_ ld_nds ?_ kA2 (X3.out) ?_); exact rfl; exact rfl; simp only [Act.put, List.setIfInBounds_toArray, List.set_cons_succ, List.set_cons_zero])
        | ((go_at_call 101; (with_reducible refine (exprs_step ts IH.out v xs _ hr2 ht2.out HL.out).mono ?_); rintro e w' ⟨rfl, hN3⟩)))
      go_ret
      rw [HV.out]
      exact ⟨rfl, hb2.trans (hN3.mono hb2.size)⟩
  by_cases k12 : k = 12
  · subst k12
    cases hb : btw n m ts.length 2 0 0 0 with
    | false =>
      have HB := Lib.hid hb
      have HV := Lib.hid (show tfits (.mk 12 n m ts) 4 = false by rw [tfits_e12, hb]; rfl)
      clear hb
      go_wp2_with (first
        | ((with_reducible refine' wpList_field_blk (j := 0) (.tmp 1) 25 0 rfl ?_ fo_node_0 ?_ rfl ?_); exact rfl; exact rfl; simp only [Act.put, List.setIfInBounds_toArray, List.set_cons_succ, List.set_cons_zero])
        | ((with_reducible refine' wpList_load_blk (.tmp 4) 3 rfl ?_ ld_int ?_ kA (X0.out) ?_); exact rfl; exact rfl; simp only [Act.put, List.setIfInBounds_toArray, List.set_cons_succ, List.set_cons_zero])
        | ((with_reducible refine' wpList_loadst_blk (.tmp 1) 25 rfl ?_ Tryd.underlying25 ?_ sz_node ?_ kA ?_ ?_ ?_); exact rfl; exact rfl; exact rfl; exact CL.out; decide; simp only [Act.put, List.setIfInBounds_toArray, List.set_cons_succ, List.set_cons_zero])
        | ((go_at_call 55; (with_reducible refine (between_any 12 n m ts 2 0 0 0 _ _ hT1).mono ?_); rintro e w' ⟨rfl, hN2⟩); rw [HB.out]; have kA2 := kA.below hN2 kA.lt; have hr2 := hr1.below hN2; have ht2 := Lib.hid (IsTs.below hN2 ht1.out); have hb2 := hN1.trans (hN2.mono hN1.size)))
      go_ret
      rw [HV.out]
      exact ⟨rfl, hb2⟩
    | true =>
      have HB := Lib.hid hb
      have HV := Lib.hid (show tfits (.mk 12 n m ts) 4 = tall 4 ts by rw [tfits_e12, hb]; rfl)
      have HL := Lib.hid (show ts.length ≤ 1000000 by simp only [btw, Bool.and_eq_true, decide_eq_true_eq] at hb; omega)
      clear hb
      go_wp2_with (first
        | ((with_reducible refine' wpList_field_blk (j := 0) (.tmp 1) 25 0 rfl ?_ fo_node_0 ?_ rfl ?_); exact rfl; exact rfl; simp only [Act.put, List.setIfInBounds_toArray, List.set_cons_succ, List.set_cons_zero])
        | ((with_reducible refine' wpList_load_blk (.tmp 4) 3 rfl ?_ ld_int ?_ kA (X0.out) ?_); exact rfl; exact rfl; simp only [Act.put, List.setIfInBounds_toArray, List.set_cons_succ, List.set_cons_zero])
        | ((with_reducible refine' wpList_loadst_blk (.tmp 1) 25 rfl ?_ Tryd.underlying25 ?_ sz_node ?_ kA ?_ ?_ ?_); exact rfl; exact rfl; exact rfl; exact CL.out; decide; simp only [Act.put, List.setIfInBounds_toArray, List.set_cons_succ, List.set_cons_zero])
        | ((go_at_call 55; (with_reducible refine (between_any 12 n m ts 2 0 0 0 _ _ hT1).mono ?_); rintro e w' ⟨rfl, hN2⟩); rw [HB.out]; have kA2 := kA.below hN2 kA.lt; have hr2 := hr1.below hN2; have ht2 := Lib.hid (IsTs.below hN2 ht1.out); have hb2 := hN1.trans (hN2.mono hN1.size))
        | ((with_reducible refine' wpList_field_blk (j := 3) (.tmp 1) 25 3 rfl ?_ fo_node_3 ?_ rfl ?_); exact rfl; exact rfl; simp only [Act.put, List.setIfInBounds_toArray, List.set_cons_succ, List.set_cons_zero])
        | ((with_reducible refine' wpList_load_blk (.tmp 61) 23 rfl ?_ ld_nds ?_ kA2 (X3.out) ?_); exact rfl; exact rfl; simp only [Act.put, List.setIfInBounds_toArray, List.set_cons_succ, List.set_cons_zero])
        | ((go_at_call 101; (with_reducible refine (exprs_step ts IH.out v xs _ hr2 ht2.out HL.out).mono ?_); rintro e w' ⟨rfl, hN3⟩)))
      go_ret
      rw [HV.out]
      exact ⟨rfl, hb2.trans (hN3.mono hb2.size)⟩
  have HV := Lib.hid (show tfits (.mk k n m ts) 4 = false from
    kind_cases (P := fun k => k ≠ 4 → k ≠ 5 → k ≠ 6 → k ≠ 7 → k ≠ 8 → k ≠ 9 → k ≠ 10 → k ≠ 11 → k ≠ 12 → tfits (.mk k n m ts) 4 = false)
      (fun i hi _ _ _ _ _ _ _ _ _ => fIs_only (P := fun j => 4 ≤ j ∧ j ≤ 12) (by decide) hi (by omega) n m ts)
      (fun k hk _ _ _ _ _ _ _ _ _ => tfits_out 4 hk) k k4 k5 k6 k7 k8 k9 k10 k11 k12)
  have q4 : decide (k = 4) = false := decide_eq_false k4
  have p4 : (k == 4) = false := by rw [beq_eq_false_iff_ne]; exact k4
  have q5 : decide (k = 5) = false := decide_eq_false k5
  have p5 : (k == 5) = false := by rw [beq_eq_false_iff_ne]; exact k5
  have q6 : decide (k = 6) = false := decide_eq_false k6
  have p6 : (k == 6) = false := by rw [beq_eq_false_iff_ne]; exact k6
  have q7 : decide (k = 7) = false := decide_eq_false k7
  have p7 : (k == 7) = false := by rw [beq_eq_false_iff_ne]; exact k7
  have q8 : decide (k = 8) = false := decide_eq_false k8
  have p8 : (k == 8) = false := by rw [beq_eq_false_iff_ne]; exact k8
  have q9 : decide (k = 9) = false := decide_eq_false k9
  have p9 : (k == 9) = false := by rw [beq_eq_false_iff_ne]; exact k9
  have q10 : decide (k = 10) = false := decide_eq_false k10
  have p10 : (k == 10) = false := by rw [beq_eq_false_iff_ne]; exact k10
  have q11 : decide (k = 11) = false := decide_eq_false k11
  have p11 : (k == 11) = false := by rw [beq_eq_false_iff_ne]; exact k11
  have q12 : decide (k = 12) = false := decide_eq_false k12
  have p12 : (k == 12) = false := by rw [beq_eq_false_iff_ne]; exact k12
  clear k4 k5 k6 k7 k8 k9 k10 k11 k12
  go_wp2_with (first | ((with_reducible refine' wpList_field_blk (j := 0) (.tmp 1) 25 0 rfl ?_ fo_node_0 ?_ rfl ?_); exact rfl; exact rfl; simp only [Act.put, List.setIfInBounds_toArray, List.set_cons_succ, List.set_cons_zero]) | ((with_reducible refine' wpList_load_blk (.tmp 4) 3 rfl ?_ ld_int ?_ kA (X0.out) ?_); exact rfl; exact rfl; simp only [Act.put, List.setIfInBounds_toArray, List.set_cons_succ, List.set_cons_zero]))
  go_ret
  rw [HV.out]
  exact ⟨rfl, hN1⟩
end Go.Proofs.YtdlhkhnoigbhjaaDoor.Wi
