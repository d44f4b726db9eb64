/-
  'Same' of the specification: whether two rows of bytes are equal. Conditions: both read as bytes.
-/
import Derived.Test.YtomjniijnpnehaaTy
import Derived.Deep.DeepCutAuto
import Derived.Deep.CutBlock
import Derived.Lib.Hide
namespace Go.Proofs.Ytomjniijnpnehaa.Wi
open Go Go.RowKit Lb

theorem take_ne {α : Type} {A B : List α} {k : Nat} {x y : α} (ha : A[k]? = some x) (hb : B[k]? = some y) (h : x ≠ y) : A ≠ B := by
  intro e; subst e; rw [ha] at hb; exact h (Option.some.inj hb)
theorem take_step {α : Type} {A B : List α} {k : Nat} {x : α} (ha : A[k]? = some x) (hb : B[k]? = some x) (ht : A.take k = B.take k) : A.take (k + 1) = B.take (k + 1) := by
  rw [List.take_add_one, List.take_add_one, ha, hb, ht]

set_option maxHeartbeats 800000 in
theorem same_any (v1 v2 : Value) (n1 n2 : Nat) (A B : List UInt8) (w : World) (h1 : Rd w 1 v1 n1 (bv A)) (h2 : Rd w 1 v2 n2 (bv B)) :
    Calls Try.prog 13 #[v1, v2] w fun e w' => e = .returned (.bool (decide (A = B))) ∧ ∃ n, w' = w.drewN n := by
  have l1 := h1.len
  have l2 := h2.len
  unfold maxLen at l1 l2
  have e1 : A.length = n1 := by have := h1.1; rw [bv_length] at this; omega
  have e2 : B.length = n2 := by have := h2.1; rw [bv_length] at this; omega
  have HE1 := Lib.hid e1
  have HE2 := Lib.hid e2
  by_cases hne : n1 = n2
  · obtain rfl := hne
    clear e1 e2
    go_enter Try.func13, Try.ntmps13
    go_wp2_with (first | ((with_reducible refine' wpList_len_rd (.tmp 6) 28 rfl ?_ Try.underlying28 ?_ h1 ?_); exact rfl; exact rfl; simp only [Act.put, List.setIfInBounds_toArray, List.set_cons_succ, List.set_cons_zero]) | ((with_reducible refine' wpList_len_rd (.tmp 8) 28 rfl ?_ Try.underlying28 ?_ h2 ?_); exact rfl; exact rfl; simp only [Act.put, List.setIfInBounds_toArray, List.set_cons_succ, List.set_cons_zero]))
    go_loopw [5] (fun i wr => ∃ k : Nat, k ≤ n1 ∧ i = .int .i64 k ∧ A.take k = B.take k ∧ ∃ nq, wr = w.drewN nq) (fun i _ => n1 - (intOf i).toNat)
    case atStart => exact ⟨0, Nat.zero_le _, rfl, rfl, 0, rfl⟩
    case round =>
      obtain ⟨k, hk, rfl, ht, nq0, rfl⟩ := hrel
      have HT := Lib.hid ht
      clear ht
      have g1 := h1.drewN nq0
      have g2 := h2.drewN nq0
      by_cases hlt : k < n1
      · obtain ⟨x, hx⟩ : ∃ x, A[k]? = some x := get_lt (by rw [HE1.out]; exact hlt)
        obtain ⟨y, hy⟩ : ∃ y, B[k]? = some y := get_lt (by rw [HE2.out]; exact hlt)
        have C1 := Lib.hid (bv_at hx)
        have C2 := Lib.hid (bv_at hy)
        by_cases he : x = y
        · subst he
          have HT' := Lib.hid (take_step hx hy HT.out)
          clear hx hy
          go_wp2_with (first | ((with_reducible refine' wpList_len_rd (.tmp 12) 28 rfl ?_ Try.underlying28 ?_ h1 ?_); exact rfl; exact rfl; simp only [Act.put, List.setIfInBounds_toArray, List.set_cons_succ, List.set_cons_zero]) | (refine wp_region_quiet_lit (by kernel_rfl) (by kernel_rfl) ?_; (repeat (first | ((with_reducible refine' wpQuiet_at1_rd (.tmp 17) (.tmp 18) 28 rfl ?_ Try.underlying28 sz_u8 ?_ g1 (k) ?_ ?_ ?_); exact rfl; exact rfl; (show (_ : Int) = _; omega); omega; simp only [Act.put, List.setIfInBounds_toArray, List.set_cons_succ, List.set_cons_zero]) | ((with_reducible refine' wpQuiet_load_rd (fun _ h => h) (.tmp 19) 5 rfl ?_ ld_u8 ?_ g1 (C1.out) ?_); exact rfl; exact rfl; simp only [Act.put, List.setIfInBounds_toArray, List.set_cons_succ, List.set_cons_zero]) | ((with_reducible refine' wpQuiet_at1_rd (.tmp 21) (.tmp 22) 28 rfl ?_ Try.underlying28 sz_u8 ?_ g2 (k) ?_ ?_ ?_); exact rfl; exact rfl; (show (_ : Int) = _; omega); omega; simp only [Act.put, List.setIfInBounds_toArray, List.set_cons_succ, List.set_cons_zero]) | ((with_reducible refine' wpQuiet_load_rd (fun _ h => h) (.tmp 23) 5 rfl ?_ ld_u8 ?_ g2 (C2.out) ?_); exact rfl; exact rfl; simp only [Act.put, List.setIfInBounds_toArray, List.set_cons_succ, List.set_cons_zero]) | go_big_quiet_step (fail))); refine wpQuiet_nil ?_; intro _ hw'; obtain ⟨nq, hw''⟩ := hw'; subst hw''))
          go_roundw
          case rel => exact ⟨k + 1, by omega, by go_num, HT'.out, nq0 + nq, by first | rfl | rw [World.drewN_drewN]⟩
          case measure => simp [intOf]; omega
        · have hb : ((x.toNat : Int) != (y.toNat : Int)) = true := by rw [bne_iff_ne]; intro h; exact he (UInt8.toNat_inj.1 (by omega))
          have hn : decide (A = B) = false := decide_eq_false_iff_not.2 (take_ne hx hy he)
          have HN := Lib.hid hn
          clear he hx hy hn
          go_wp2_with (first | ((with_reducible refine' wpList_len_rd (.tmp 12) 28 rfl ?_ Try.underlying28 ?_ h1 ?_); exact rfl; exact rfl; simp only [Act.put, List.setIfInBounds_toArray, List.set_cons_succ, List.set_cons_zero]) | (refine wp_region_quiet_lit (by kernel_rfl) (by kernel_rfl) ?_; (repeat (first | ((with_reducible refine' wpQuiet_at1_rd (.tmp 17) (.tmp 18) 28 rfl ?_ Try.underlying28 sz_u8 ?_ g1 (k) ?_ ?_ ?_); exact rfl; exact rfl; (show (_ : Int) = _; omega); omega; simp only [Act.put, List.setIfInBounds_toArray, List.set_cons_succ, List.set_cons_zero]) | ((with_reducible refine' wpQuiet_load_rd (fun _ h => h) (.tmp 19) 5 rfl ?_ ld_u8 ?_ g1 (C1.out) ?_); exact rfl; exact rfl; simp only [Act.put, List.setIfInBounds_toArray, List.set_cons_succ, List.set_cons_zero]) | ((with_reducible refine' wpQuiet_at1_rd (.tmp 21) (.tmp 22) 28 rfl ?_ Try.underlying28 sz_u8 ?_ g2 (k) ?_ ?_ ?_); exact rfl; exact rfl; (show (_ : Int) = _; omega); omega; simp only [Act.put, List.setIfInBounds_toArray, List.set_cons_succ, List.set_cons_zero]) | ((with_reducible refine' wpQuiet_load_rd (fun _ h => h) (.tmp 23) 5 rfl ?_ ld_u8 ?_ g2 (C2.out) ?_); exact rfl; exact rfl; simp only [Act.put, List.setIfInBounds_toArray, List.set_cons_succ, List.set_cons_zero]) | go_big_quiet_step (fail))); refine wpQuiet_nil ?_; intro _ hw'; obtain ⟨nq, hw''⟩ := hw'; subst hw''))
          go_ret
          exact ⟨by rw [HN.out]; rfl, nq0 + nq, by first | rfl | rw [World.drewN_drewN]⟩
      · obtain rfl : k = n1 := by omega
        have he : decide (A = B) = true := by
          have h := HT.out
          rw [List.take_of_length_le (by rw [HE1.out]; omega), List.take_of_length_le (by rw [HE2.out]; omega)] at h
          exact decide_eq_true h
        have HE := Lib.hid he
        clear he
        go_wp2_with (first | ((with_reducible refine' wpList_len_rd (.tmp 12) 28 rfl ?_ Try.underlying28 ?_ h1 ?_); exact rfl; exact rfl; simp only [Act.put, List.setIfInBounds_toArray, List.set_cons_succ, List.set_cons_zero]))
        go_ret
        exact ⟨by rw [HE.out]; rfl, nq0, rfl⟩
  · have hne' : ((n1 : Int) != (n2 : Int)) = true := by rw [bne_iff_ne]; omega
    have hAB : decide (A = B) = false := by rw [decide_eq_false_iff_not]; intro h; subst h; omega
    have HA := Lib.hid hAB
    clear e1 e2 hAB
    go_enter Try.func13, Try.ntmps13
    go_wp2_with (first | ((with_reducible refine' wpList_len_rd (.tmp 6) 28 rfl ?_ Try.underlying28 ?_ h1 ?_); exact rfl; exact rfl; simp only [Act.put, List.setIfInBounds_toArray, List.set_cons_succ, List.set_cons_zero]) | ((with_reducible refine' wpList_len_rd (.tmp 8) 28 rfl ?_ Try.underlying28 ?_ h2 ?_); exact rfl; exact rfl; simp only [Act.put, List.setIfInBounds_toArray, List.set_cons_succ, List.set_cons_zero]))
    go_ret
    exact ⟨by rw [HA.out]; rfl, 0, rfl⟩
end Go.Proofs.Ytomjniijnpnehaa.Wi
