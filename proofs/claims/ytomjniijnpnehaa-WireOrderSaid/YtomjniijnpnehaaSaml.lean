/-
  'SameInts', 'SameTexts', 'SameDigests' of the specification: whether two lists are equal. Conditions: both read as such lists.
-/
import Derived.Test.YtomjniijnpnehaaLst
import Derived.Test.YtomjniijnpnehaaArr
import Derived.Deep.DeepCutAuto
import Derived.Deep.CutBlock
import Derived.Lib.Hide
namespace Go.Proofs.Ytomjniijnpnehaa.Wi
open Go Go.RowKit Pu Lb

set_option maxRecDepth 100000 in
set_option maxHeartbeats 800000 in
theorem sameints_any (v1 v2 : Value) (n1 n2 : Nat) (A B : List Int) (w : World) (h1 : Rd w 1 v1 n1 (iv A)) (h2 : Rd w 1 v2 n2 (iv B)) :
    Calls Try.prog 30 #[v1, v2] w fun e w' => e = .returned (.bool (decide (A = B))) ∧ ∃ n, w' = w.drewN n := by
  have l1 := h1.len
  have l2 := h2.len
  unfold maxLen at l1 l2
  have e1 : A.length = n1 := by have := h1.1; rw [iv_length] at this; omega
  have e2 : B.length = n2 := by have := h2.1; rw [iv_length] at this; omega
  have HE1 := Lib.hid e1
  have HE2 := Lib.hid e2
  by_cases hne : n1 = n2
  · obtain rfl := hne
    clear e1 e2
    go_enter Try.func30, Try.ntmps30
    go_wp2_with (first | ((with_reducible refine' wpList_len_rd (.tmp 6) 22 rfl ?_ Try.underlying22 ?_ h1 ?_); exact rfl; exact rfl; simp only [Act.put, List.setIfInBounds_toArray, List.set_cons_succ, List.set_cons_zero]) | ((with_reducible refine' wpList_len_rd (.tmp 8) 22 rfl ?_ Try.underlying22 ?_ h2 ?_); exact rfl; exact rfl; simp only [Act.put, List.setIfInBounds_toArray, List.set_cons_succ, List.set_cons_zero]))
    go_loopw [5] (fun i wr => ∃ k : Nat, k ≤ n1 ∧ i = .int .i64 k ∧ A.take k = B.take k ∧ ∃ nq, wr = w.drewN nq) (fun i _ => n1 - (intOf i).toNat)
    case atStart => exact ⟨0, Nat.zero_le _, rfl, rfl, 0, rfl⟩
    case round =>
      obtain ⟨k, hk, rfl, ht, nq0, rfl⟩ := hrel
      have HT := Lib.hid ht
      clear ht
      have g1 := h1.drewN nq0
      have g2 := h2.drewN nq0
      by_cases hlt : k < n1
      · obtain ⟨x, hx⟩ : ∃ x, A[k]? = some x := get_lt (by rw [HE1.out]; exact hlt)
        obtain ⟨y, hy⟩ : ∃ y, B[k]? = some y := get_lt (by rw [HE2.out]; exact hlt)
        have C1 := Lib.hid (iv_at hx); have C2 := Lib.hid (iv_at hy)
        by_cases he : x = y
        · subst he
          skip
          have HT' := Lib.hid (take_step hx hy HT.out)
          clear hx hy
          go_wp2_with (first | ((with_reducible refine' wpList_len_rd (.tmp 12) 22 rfl ?_ Try.underlying22 ?_ h1 ?_); exact rfl; exact rfl; simp only [Act.put, List.setIfInBounds_toArray, List.set_cons_succ, List.set_cons_zero]) | (refine wp_region_quiet_lit (by kernel_rfl) (by kernel_rfl) ?_; (repeat (first | ((with_reducible refine' wpQuiet_at1_rd (.tmp 17) (.tmp 18) 22 rfl ?_ Try.underlying22 sz_int ?_ g1 (k) ?_ ?_ ?_); exact rfl; exact rfl; (show (_ : Int) = _; omega); omega; simp only [Act.put, List.setIfInBounds_toArray, List.set_cons_succ, List.set_cons_zero]) | ((with_reducible refine' wpQuiet_load_rd (fun _ h => h) (.tmp 19) 3 rfl ?_ ld_int ?_ g1 (C1.out) ?_); exact rfl; exact rfl; simp only [Act.put, List.setIfInBounds_toArray, List.set_cons_succ, List.set_cons_zero]) | ((with_reducible refine' wpQuiet_at1_rd (.tmp 21) (.tmp 22) 22 rfl ?_ Try.underlying22 sz_int ?_ g2 (k) ?_ ?_ ?_); exact rfl; exact rfl; (show (_ : Int) = _; omega); omega; simp only [Act.put, List.setIfInBounds_toArray, List.set_cons_succ, List.set_cons_zero]) | ((with_reducible refine' wpQuiet_load_rd (fun _ h => h) (.tmp 23) 3 rfl ?_ ld_int ?_ g2 (C2.out) ?_); exact rfl; exact rfl; simp only [Act.put, List.setIfInBounds_toArray, List.set_cons_succ, List.set_cons_zero]) | go_big_quiet_step (fail))); refine wpQuiet_nil ?_; intro _ hw'; obtain ⟨nq, hw''⟩ := hw'; subst hw''))
          go_roundw
          case rel => exact ⟨k + 1, by omega, by go_num, HT'.out, nq0 + nq, by first | rfl | rw [World.drewN_drewN]⟩
          case measure => simp [intOf]; omega
        · have hb : (x != y) = true := by rw [bne_iff_ne]; exact he
          have hn : decide (A = B) = false := decide_eq_false_iff_not.2 (take_ne hx hy he)
          have HN := Lib.hid hn
          clear he hx hy hn
          go_wp2_with (first | ((with_reducible refine' wpList_len_rd (.tmp 12) 22 rfl ?_ Try.underlying22 ?_ h1 ?_); exact rfl; exact rfl; simp only [Act.put, List.setIfInBounds_toArray, List.set_cons_succ, List.set_cons_zero]) | (refine wp_region_quiet_lit (by kernel_rfl) (by kernel_rfl) ?_; (repeat (first | ((with_reducible refine' wpQuiet_at1_rd (.tmp 17) (.tmp 18) 22 rfl ?_ Try.underlying22 sz_int ?_ g1 (k) ?_ ?_ ?_); exact rfl; exact rfl; (show (_ : Int) = _; omega); omega; simp only [Act.put, List.setIfInBounds_toArray, List.set_cons_succ, List.set_cons_zero]) | ((with_reducible refine' wpQuiet_load_rd (fun _ h => h) (.tmp 19) 3 rfl ?_ ld_int ?_ g1 (C1.out) ?_); exact rfl; exact rfl; simp only [Act.put, List.setIfInBounds_toArray, List.set_cons_succ, List.set_cons_zero]) | ((with_reducible refine' wpQuiet_at1_rd (.tmp 21) (.tmp 22) 22 rfl ?_ Try.underlying22 sz_int ?_ g2 (k) ?_ ?_ ?_); exact rfl; exact rfl; (show (_ : Int) = _; omega); omega; simp only [Act.put, List.setIfInBounds_toArray, List.set_cons_succ, List.set_cons_zero]) | ((with_reducible refine' wpQuiet_load_rd (fun _ h => h) (.tmp 23) 3 rfl ?_ ld_int ?_ g2 (C2.out) ?_); exact rfl; exact rfl; simp only [Act.put, List.setIfInBounds_toArray, List.set_cons_succ, List.set_cons_zero]) | go_big_quiet_step (fail))); refine wpQuiet_nil ?_; intro _ hw'; obtain ⟨nq, hw''⟩ := hw'; subst hw''))
          go_ret
          exact ⟨by rw [HN.out]; rfl, nq0 + nq, by first | rfl | rw [World.drewN_drewN]⟩
      · obtain rfl : k = n1 := by omega
        have he : decide (A = B) = true := by
          have h := HT.out
          rw [List.take_of_length_le (by rw [HE1.out]; omega), List.take_of_length_le (by rw [HE2.out]; omega)] at h
          exact decide_eq_true h
        have HE := Lib.hid he
        clear he
        go_wp2_with (first | ((with_reducible refine' wpList_len_rd (.tmp 12) 22 rfl ?_ Try.underlying22 ?_ h1 ?_); exact rfl; exact rfl; simp only [Act.put, List.setIfInBounds_toArray, List.set_cons_succ, List.set_cons_zero]))
        go_ret
        exact ⟨by rw [HE.out]; rfl, nq0, rfl⟩
  · have hne' : ((n1 : Int) != (n2 : Int)) = true := by rw [bne_iff_ne]; omega
    have hAB : decide (A = B) = false := by rw [decide_eq_false_iff_not]; intro h; subst h; omega
    have HA := Lib.hid hAB
    clear e1 e2 hAB
    go_enter Try.func30, Try.ntmps30
    go_wp2_with (first | ((with_reducible refine' wpList_len_rd (.tmp 6) 22 rfl ?_ Try.underlying22 ?_ h1 ?_); exact rfl; exact rfl; simp only [Act.put, List.setIfInBounds_toArray, List.set_cons_succ, List.set_cons_zero]) | ((with_reducible refine' wpList_len_rd (.tmp 8) 22 rfl ?_ Try.underlying22 ?_ h2 ?_); exact rfl; exact rfl; simp only [Act.put, List.setIfInBounds_toArray, List.set_cons_succ, List.set_cons_zero]))
    go_ret
    exact ⟨by rw [HA.out]; rfl, 0, rfl⟩

set_option maxRecDepth 100000 in
set_option maxHeartbeats 800000 in
theorem sametexts_any (v1 v2 : Value) (n1 n2 : Nat) (A B : List (List UInt8)) (w : World) (h1 : Rd w 1 v1 n1 (sv A)) (h2 : Rd w 1 v2 n2 (sv B)) :
    Calls Try.prog 33 #[v1, v2] w fun e w' => e = .returned (.bool (decide (A = B))) ∧ ∃ n, w' = w.drewN n := by
  have l1 := h1.len
  have l2 := h2.len
  unfold maxLen at l1 l2
  have e1 : A.length = n1 := by have := h1.1; rw [sv_length] at this; omega
  have e2 : B.length = n2 := by have := h2.1; rw [sv_length] at this; omega
  have HE1 := Lib.hid e1
  have HE2 := Lib.hid e2
  by_cases hne : n1 = n2
  · obtain rfl := hne
    clear e1 e2
    go_enter Try.func33, Try.ntmps33
    go_wp2_with (first | ((with_reducible refine' wpList_len_rd (.tmp 6) 23 rfl ?_ Try.underlying23 ?_ h1 ?_); exact rfl; exact rfl; simp only [Act.put, List.setIfInBounds_toArray, List.set_cons_succ, List.set_cons_zero]) | ((with_reducible refine' wpList_len_rd (.tmp 8) 23 rfl ?_ Try.underlying23 ?_ h2 ?_); exact rfl; exact rfl; simp only [Act.put, List.setIfInBounds_toArray, List.set_cons_succ, List.set_cons_zero]))
    go_loopw [5] (fun i wr => ∃ k : Nat, k ≤ n1 ∧ i = .int .i64 k ∧ A.take k = B.take k ∧ ∃ nq, wr = w.drewN nq) (fun i _ => n1 - (intOf i).toNat)
    case atStart => exact ⟨0, Nat.zero_le _, rfl, rfl, 0, rfl⟩
    case round =>
      obtain ⟨k, hk, rfl, ht, nq0, rfl⟩ := hrel
      have HT := Lib.hid ht
      clear ht
      have g1 := h1.drewN nq0
      have g2 := h2.drewN nq0
      by_cases hlt : k < n1
      · obtain ⟨x, hx⟩ : ∃ x, A[k]? = some x := get_lt (by rw [HE1.out]; exact hlt)
        obtain ⟨y, hy⟩ : ∃ y, B[k]? = some y := get_lt (by rw [HE2.out]; exact hlt)
        have C1 := Lib.hid (sv_at hx); have C2 := Lib.hid (sv_at hy)
        by_cases he : x = y
        · subst he
          skip
          have HT' := Lib.hid (take_step hx hy HT.out)
          clear hx hy
          go_wp2_with (first | ((with_reducible refine' wpList_len_rd (.tmp 12) 23 rfl ?_ Try.underlying23 ?_ h1 ?_); exact rfl; exact rfl; simp only [Act.put, List.setIfInBounds_toArray, List.set_cons_succ, List.set_cons_zero]) | (refine wp_region_quiet_lit (by kernel_rfl) (by kernel_rfl) ?_; (repeat (first | ((with_reducible refine' wpQuiet_at1_rd (.tmp 17) (.tmp 18) 23 rfl ?_ Try.underlying23 sz_str ?_ g1 (k) ?_ ?_ ?_); exact rfl; exact rfl; (show (_ : Int) = _; omega); omega; simp only [Act.put, List.setIfInBounds_toArray, List.set_cons_succ, List.set_cons_zero]) | ((with_reducible refine' wpQuiet_load_rd (fun _ h => h) (.tmp 19) 9 rfl ?_ ld_str ?_ g1 (C1.out) ?_); exact rfl; exact rfl; simp only [Act.put, List.setIfInBounds_toArray, List.set_cons_succ, List.set_cons_zero]) | ((with_reducible refine' wpQuiet_at1_rd (.tmp 21) (.tmp 22) 23 rfl ?_ Try.underlying23 sz_str ?_ g2 (k) ?_ ?_ ?_); exact rfl; exact rfl; (show (_ : Int) = _; omega); omega; simp only [Act.put, List.setIfInBounds_toArray, List.set_cons_succ, List.set_cons_zero]) | ((with_reducible refine' wpQuiet_load_rd (fun _ h => h) (.tmp 23) 9 rfl ?_ ld_str ?_ g2 (C2.out) ?_); exact rfl; exact rfl; simp only [Act.put, List.setIfInBounds_toArray, List.set_cons_succ, List.set_cons_zero]) | go_big_quiet_step (fail))); refine wpQuiet_nil ?_; intro _ hw'; obtain ⟨nq, hw''⟩ := hw'; subst hw''))
          go_roundw
          case rel => exact ⟨k + 1, by omega, by go_num, HT'.out, nq0 + nq, by first | rfl | rw [World.drewN_drewN]⟩
          case measure => simp [intOf]; omega
        · have hb : (x == y) = false := by simp [he]
          have hn : decide (A = B) = false := decide_eq_false_iff_not.2 (take_ne hx hy he)
          have HN := Lib.hid hn
          clear he hx hy hn
          go_wp2_with (first | ((with_reducible refine' wpList_len_rd (.tmp 12) 23 rfl ?_ Try.underlying23 ?_ h1 ?_); exact rfl; exact rfl; simp only [Act.put, List.setIfInBounds_toArray, List.set_cons_succ, List.set_cons_zero]) | (refine wp_region_quiet_lit (by kernel_rfl) (by kernel_rfl) ?_; (repeat (first | ((with_reducible refine' wpQuiet_at1_rd (.tmp 17) (.tmp 18) 23 rfl ?_ Try.underlying23 sz_str ?_ g1 (k) ?_ ?_ ?_); exact rfl; exact rfl; (show (_ : Int) = _; omega); omega; simp only [Act.put, List.setIfInBounds_toArray, List.set_cons_succ, List.set_cons_zero]) | ((with_reducible refine' wpQuiet_load_rd (fun _ h => h) (.tmp 19) 9 rfl ?_ ld_str ?_ g1 (C1.out) ?_); exact rfl; exact rfl; simp only [Act.put, List.setIfInBounds_toArray, List.set_cons_succ, List.set_cons_zero]) | ((with_reducible refine' wpQuiet_at1_rd (.tmp 21) (.tmp 22) 23 rfl ?_ Try.underlying23 sz_str ?_ g2 (k) ?_ ?_ ?_); exact rfl; exact rfl; (show (_ : Int) = _; omega); omega; simp only [Act.put, List.setIfInBounds_toArray, List.set_cons_succ, List.set_cons_zero]) | ((with_reducible refine' wpQuiet_load_rd (fun _ h => h) (.tmp 23) 9 rfl ?_ ld_str ?_ g2 (C2.out) ?_); exact rfl; exact rfl; simp only [Act.put, List.setIfInBounds_toArray, List.set_cons_succ, List.set_cons_zero]) | go_big_quiet_step (fail))); refine wpQuiet_nil ?_; intro _ hw'; obtain ⟨nq, hw''⟩ := hw'; subst hw''))
          go_ret
          exact ⟨by rw [HN.out]; rfl, nq0 + nq, by first | rfl | rw [World.drewN_drewN]⟩
      · obtain rfl : k = n1 := by omega
        have he : decide (A = B) = true := by
          have h := HT.out
          rw [List.take_of_length_le (by rw [HE1.out]; omega), List.take_of_length_le (by rw [HE2.out]; omega)] at h
          exact decide_eq_true h
        have HE := Lib.hid he
        clear he
        go_wp2_with (first | ((with_reducible refine' wpList_len_rd (.tmp 12) 23 rfl ?_ Try.underlying23 ?_ h1 ?_); exact rfl; exact rfl; simp only [Act.put, List.setIfInBounds_toArray, List.set_cons_succ, List.set_cons_zero]))
        go_ret
        exact ⟨by rw [HE.out]; rfl, nq0, rfl⟩
  · have hne' : ((n1 : Int) != (n2 : Int)) = true := by rw [bne_iff_ne]; omega
    have hAB : decide (A = B) = false := by rw [decide_eq_false_iff_not]; intro h; subst h; omega
    have HA := Lib.hid hAB
    clear e1 e2 hAB
    go_enter Try.func33, Try.ntmps33
    go_wp2_with (first | ((with_reducible refine' wpList_len_rd (.tmp 6) 23 rfl ?_ Try.underlying23 ?_ h1 ?_); exact rfl; exact rfl; simp only [Act.put, List.setIfInBounds_toArray, List.set_cons_succ, List.set_cons_zero]) | ((with_reducible refine' wpList_len_rd (.tmp 8) 23 rfl ?_ Try.underlying23 ?_ h2 ?_); exact rfl; exact rfl; simp only [Act.put, List.setIfInBounds_toArray, List.set_cons_succ, List.set_cons_zero]))
    go_ret
    exact ⟨by rw [HA.out]; rfl, 0, rfl⟩

/-- a list of digests: each of 16 bytes -/
def DigsOk (l : List (List UInt8)) : Prop := ∀ d ∈ l, d.length = 16
theorem dig_len {A : List (List UInt8)} {n : Nat} (hA : DigsOk A) (h : (bv A.flatten).length = n * 16) : A.length = n := by
  rw [bv_length, flat_len hA] at h; omega
theorem dig_part {A : List (List UInt8)} {k : Nat} {x : List UInt8} (hA : DigsOk A) (h : A[k]? = some x) : ((bv A.flatten).drop (k * 16)).take 16 = bv x := by
  rw [bv_drop, bv_take, flat_part hA h]

set_option maxRecDepth 100000 in
set_option maxHeartbeats 800000 in
theorem samedigests_any (v1 v2 : Value) (n1 n2 : Nat) (A B : List (List UInt8)) (w : World) (hA : DigsOk A) (hB : DigsOk B) (h1 : Rd w 16 v1 n1 (bv A.flatten)) (h2 : Rd w 16 v2 n2 (bv B.flatten)) :
    Calls Try.prog 36 #[v1, v2] w fun e w' => e = .returned (.bool (decide (A = B))) ∧ ∃ n, w' = w.drewN n := by
  have hqg : Try.prog.eqGuardType Try.prog.depth 57 = false := by kernel_rfl
  have l1 := h1.len
  have l2 := h2.len
  unfold maxLen at l1 l2
  have e1 : A.length = n1 := by exact dig_len hA h1.1
  have e2 : B.length = n2 := by exact dig_len hB h2.1
  have HE1 := Lib.hid e1
  have HE2 := Lib.hid e2
  by_cases hne : n1 = n2
  · obtain rfl := hne
    clear e1 e2
    go_enter Try.func36, Try.ntmps36
    go_wp2_with (first | ((with_reducible refine' wpList_len_rd (.tmp 6) 24 rfl ?_ Try.underlying24 ?_ h1 ?_); exact rfl; exact rfl; simp only [Act.put, List.setIfInBounds_toArray, List.set_cons_succ, List.set_cons_zero]) | ((with_reducible refine' wpList_len_rd (.tmp 8) 24 rfl ?_ Try.underlying24 ?_ h2 ?_); exact rfl; exact rfl; simp only [Act.put, List.setIfInBounds_toArray, List.set_cons_succ, List.set_cons_zero]))
    go_loopw [5] (fun i wr => ∃ k : Nat, k ≤ n1 ∧ i = .int .i64 k ∧ A.take k = B.take k ∧ ∃ nq, wr = w.drewN nq) (fun i _ => n1 - (intOf i).toNat)
    case atStart => exact ⟨0, Nat.zero_le _, rfl, rfl, 0, rfl⟩
    case round =>
      obtain ⟨k, hk, rfl, ht, nq0, rfl⟩ := hrel
      have HT := Lib.hid ht
      clear ht
      have g1 := h1.drewN nq0
      have g2 := h2.drewN nq0
      by_cases hlt : k < n1
      · obtain ⟨x, hx⟩ : ∃ x, A[k]? = some x := get_lt (by rw [HE1.out]; exact hlt)
        obtain ⟨y, hy⟩ : ∃ y, B[k]? = some y := get_lt (by rw [HE2.out]; exact hlt)
        have P1 := Lib.hid (dig_part hA hx); have P2 := Lib.hid (dig_part hB hy); have G1 : k * 16 + 16 ≤ (bv A.flatten).length := (by rw [h1.1]; omega); have G2 : k * 16 + 16 ≤ (bv B.flatten).length := (by rw [h2.1]; omega); have X1 := hA x (mem_of_get hx); have X2 := hB y (mem_of_get hy); have hq := fun w => run_eq_bytes (P := Try.prog) 9998 57 5 16 Try.underlying57 Try.underlying5 sz_u8 x y X1 X2 w
        by_cases he : x = y
        · subst he
          have hxx : decide (x = x) = true := (by simp); rw [hxx] at hq; clear hxx X1 X2
          have HT' := Lib.hid (take_step hx hy HT.out)
          clear hx hy
          go_wp2_with (first | ((with_reducible refine' wpList_len_rd (.tmp 12) 24 rfl ?_ Try.underlying24 ?_ h1 ?_); exact rfl; exact rfl; simp only [Act.put, List.setIfInBounds_toArray, List.set_cons_succ, List.set_cons_zero]) | (refine wp_region_quiet_lit (by kernel_rfl) (by kernel_rfl) ?_; (repeat (first | ((with_reducible refine' wpQuiet_at_rd (.tmp 17) (.tmp 18) 24 rfl ?_ Try.underlying24 sz_dig ?_ g1 (by decide) (k) ?_ ?_ ?_); exact rfl; exact rfl; (show (_ : Int) = _; omega); omega; simp only [Act.put, List.setIfInBounds_toArray, List.set_cons_succ, List.set_cons_zero]) | (((with_reducible refine' wpQuiet_load_arr (fun _ h => h) (.tmp 19) 57 rfl ?_ Try.underlying57 sz_dig (k * 16) ?_ g1 ?_ (by decide) ?_); exact rfl; exact rfl; exact G1; simp only [Act.put, List.setIfInBounds_toArray, List.set_cons_succ, List.set_cons_zero]); rw [P1.out]) | ((with_reducible refine' wpQuiet_at_rd (.tmp 21) (.tmp 22) 24 rfl ?_ Try.underlying24 sz_dig ?_ g2 (by decide) (k) ?_ ?_ ?_); exact rfl; exact rfl; (show (_ : Int) = _; omega); omega; simp only [Act.put, List.setIfInBounds_toArray, List.set_cons_succ, List.set_cons_zero]) | (((with_reducible refine' wpQuiet_load_arr (fun _ h => h) (.tmp 23) 57 rfl ?_ Try.underlying57 sz_dig (k * 16) ?_ g2 ?_ (by decide) ?_); exact rfl; exact rfl; exact G2; simp only [Act.put, List.setIfInBounds_toArray, List.set_cons_succ, List.set_cons_zero]); rw [P2.out]) | go_big_quiet_step (fail))); refine wpQuiet_nil ?_; intro _ hw'; obtain ⟨nq, hw''⟩ := hw'; subst hw''))
          go_roundw
          case rel => exact ⟨k + 1, by omega, by go_num, HT'.out, nq0 + nq, by first | rfl | rw [World.drewN_drewN]⟩
          case measure => simp [intOf]; omega
        · have hxx : decide (x = y) = false := (by simp [he]); rw [hxx] at hq; clear hxx X1 X2
          have hn : decide (A = B) = false := decide_eq_false_iff_not.2 (take_ne hx hy he)
          have HN := Lib.hid hn
          clear he hx hy hn
          go_wp2_with (first | ((with_reducible refine' wpList_len_rd (.tmp 12) 24 rfl ?_ Try.underlying24 ?_ h1 ?_); exact rfl; exact rfl; simp only [Act.put, List.setIfInBounds_toArray, List.set_cons_succ, List.set_cons_zero]) | (refine wp_region_quiet_lit (by kernel_rfl) (by kernel_rfl) ?_; (repeat (first | ((with_reducible refine' wpQuiet_at_rd (.tmp 17) (.tmp 18) 24 rfl ?_ Try.underlying24 sz_dig ?_ g1 (by decide) (k) ?_ ?_ ?_); exact rfl; exact rfl; (show (_ : Int) = _; omega); omega; simp only [Act.put, List.setIfInBounds_toArray, List.set_cons_succ, List.set_cons_zero]) | (((with_reducible refine' wpQuiet_load_arr (fun _ h => h) (.tmp 19) 57 rfl ?_ Try.underlying57 sz_dig (k * 16) ?_ g1 ?_ (by decide) ?_); exact rfl; exact rfl; exact G1; simp only [Act.put, List.setIfInBounds_toArray, List.set_cons_succ, List.set_cons_zero]); rw [P1.out]) | ((with_reducible refine' wpQuiet_at_rd (.tmp 21) (.tmp 22) 24 rfl ?_ Try.underlying24 sz_dig ?_ g2 (by decide) (k) ?_ ?_ ?_); exact rfl; exact rfl; (show (_ : Int) = _; omega); omega; simp only [Act.put, List.setIfInBounds_toArray, List.set_cons_succ, List.set_cons_zero]) | (((with_reducible refine' wpQuiet_load_arr (fun _ h => h) (.tmp 23) 57 rfl ?_ Try.underlying57 sz_dig (k * 16) ?_ g2 ?_ (by decide) ?_); exact rfl; exact rfl; exact G2; simp only [Act.put, List.setIfInBounds_toArray, List.set_cons_succ, List.set_cons_zero]); rw [P2.out]) | go_big_quiet_step (fail))); refine wpQuiet_nil ?_; intro _ hw'; obtain ⟨nq, hw''⟩ := hw'; subst hw''))
          go_ret
          exact ⟨by rw [HN.out]; rfl, nq0 + nq, by first | rfl | rw [World.drewN_drewN]⟩
      · obtain rfl : k = n1 := by omega
        have he : decide (A = B) = true := by
          have h := HT.out
          rw [List.take_of_length_le (by rw [HE1.out]; omega), List.take_of_length_le (by rw [HE2.out]; omega)] at h
          exact decide_eq_true h
        have HE := Lib.hid he
        clear he
        go_wp2_with (first | ((with_reducible refine' wpList_len_rd (.tmp 12) 24 rfl ?_ Try.underlying24 ?_ h1 ?_); exact rfl; exact rfl; simp only [Act.put, List.setIfInBounds_toArray, List.set_cons_succ, List.set_cons_zero]))
        go_ret
        exact ⟨by rw [HE.out]; rfl, nq0, rfl⟩
  · have hne' : ((n1 : Int) != (n2 : Int)) = true := by rw [bne_iff_ne]; omega
    have hAB : decide (A = B) = false := by rw [decide_eq_false_iff_not]; intro h; subst h; omega
    have HA := Lib.hid hAB
    clear e1 e2 hAB
    go_enter Try.func36, Try.ntmps36
    go_wp2_with (first | ((with_reducible refine' wpList_len_rd (.tmp 6) 24 rfl ?_ Try.underlying24 ?_ h1 ?_); exact rfl; exact rfl; simp only [Act.put, List.setIfInBounds_toArray, List.set_cons_succ, List.set_cons_zero]) | ((with_reducible refine' wpList_len_rd (.tmp 8) 24 rfl ?_ Try.underlying24 ?_ h2 ?_); exact rfl; exact rfl; simp only [Act.put, List.setIfInBounds_toArray, List.set_cons_succ, List.set_cons_zero]))
    go_ret
    exact ⟨by rw [HA.out]; rfl, 0, rfl⟩
end Go.Proofs.Ytomjniijnpnehaa.Wi
