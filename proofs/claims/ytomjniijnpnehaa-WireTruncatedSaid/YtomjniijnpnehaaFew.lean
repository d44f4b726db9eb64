/-
  The law's count of bytes and elements of a list of strings, where the sum does not pass an int.
-/
import Derived.Test.YtomjniijnpnehaaPul
namespace Go.Proofs.Ytomjniijnpnehaa.Wi
open Go Go.RowKit Pu Lb

def sumL (l : List (List UInt8)) : Nat := (l.map List.length).sum
theorem sumL_step {l : List (List UInt8)} {k : Nat} {x : List UInt8} (h : l[k]? = some x) : sumL (l.take (k + 1)) = sumL (l.take k) + x.length := by
  unfold sumL
  rw [List.take_add_one, h]; simp
theorem sumL_le (l : List (List UInt8)) (k : Nat) : sumL (l.take k) ≤ sumL l := by
  unfold sumL
  conv => rhs; rw [← List.take_append_drop k l, List.map_append, List.sum_append]
  omega

set_option maxRecDepth 100000 in
set_option maxHeartbeats 800000 in
theorem few_any (v : Value) (n : Nat) (l : List (List UInt8)) (w : World) (hv : Rd w 1 v n (sv l)) (hs : n + sumL l ≤ 4611686018427387904) :
    Calls Try.prog 11 #[v] w fun e w' => e = .returned (.bool (decide (n + sumL l ≤ 2000))) ∧ w' = w := by
  have hl : l.length = n := by have := hv.1; rw [sv_length] at this; omega
  have HL := Lib.hid hl
  have HT := sumL_le l
  clear hl
  go_enter Try.func11, Try.ntmps11
  go_wp2_with (first | ((with_reducible refine' wpList_len_rd (.tmp 6) 23 rfl ?_ Try.underlying23 ?_ hv ?_); exact rfl; exact rfl; simp only [Act.put, List.setIfInBounds_toArray, List.set_cons_succ, List.set_cons_zero]) | ((with_reducible refine' wpList_len_rd (.tmp 8) 23 rfl ?_ Try.underlying23 ?_ hv ?_); exact rfl; exact rfl; simp only [Act.put, List.setIfInBounds_toArray, List.set_cons_succ, List.set_cons_zero]))
  go_loop [3, 10] (fun m i => ∃ j : Nat, j ≤ n ∧ i = .int .i64 j ∧ m = .int .i64 ((n + sumL (l.take j) : Nat) : Int)) (fun _ i => n - (intOf i).toNat)
  case atStart => exact ⟨0, Nat.zero_le _, rfl, by simp [sumL]⟩
  case round =>
    obtain ⟨j, hj, rfl, rfl⟩ := hrel
    have h1 := HT j
    by_cases hlt : j < n
    · obtain ⟨x, hx⟩ : ∃ x, l[j]? = some x := get_lt (by rw [HL.out]; exact hlt)
      have h2 := HT (j + 1)
      have h3 := sumL_step hx
      have C := Lib.hid (sv_at hx)
      obtain ⟨k, hk⟩ : ∃ k, x.length = k := ⟨_, rfl⟩
      have hsz : (ByteArray.mk x.toArray).size = k := by rw [size_str, hk]
      rw [hk] at h3
      clear hx hk
      obtain ⟨m, hm⟩ : ∃ m, sumL (l.take j) = m := ⟨_, rfl⟩
      rw [hm] at h1 h3 ⊢
      rw [h3] at h2
      have H3 := Lib.hid h3
      clear hm h3
      go_wp2_with (first | ((with_reducible refine' wpList_at1_rd (.tmp 8) (.tmp 10) 23 rfl ?_ Try.underlying23 sz_str ?_ hv (j) ?_ ?_ ?_); exact rfl; exact rfl; (show (_ : Int) = _; omega); omega; simp only [Act.put, List.setIfInBounds_toArray, List.set_cons_succ, List.set_cons_zero]) | ((with_reducible refine' wpList_load_rd (.tmp 12) 9 rfl ?_ ld_str ?_ hv (C.out) ?_); exact rfl; exact rfl; simp only [Act.put, List.setIfInBounds_toArray, List.set_cons_succ, List.set_cons_zero]))
      go_round
      case rel => exact ⟨j + 1, by omega, by go_num, by rw [H3.out]; go_num⟩
      case measure => simp [intOf]; omega
    · obtain rfl : j = n := by omega
      rw [List.take_of_length_le (by rw [HL.out]; exact Nat.le_refl _)]
      obtain ⟨m, hm⟩ : ∃ m, sumL l = m := ⟨_, rfl⟩
      rw [hm]
      have HM := Lib.hid hm
      clear hm
      go_wp2
      go_ret
      refine ⟨?_, rfl⟩
      show Ending.returned (.bool (decide _)) = Ending.returned (.bool (decide _))
      congr 2
      have := HM.out
      exact decide_eq_decide.2 (by omega)
end Go.Proofs.Ytomjniijnpnehaa.Wi
