/-
  Byte strings: the two encoders. Conditions: a string of at most 2^46 bytes.
-/
import Derived.Test.YtomjniijnpnehaaDoorInt
import Derived.Test.YtomjniijnpnehaaDoorDec
namespace Go.Proofs.YtomjniijnpnehaaDoor.Wi
open Go Go.RowKit Pu Lb

theorem encBytes_length (s : List UInt8) : (encBytes s).length = (enc s.length).length + s.length := by simp [encBytes]
theorem enc_len_bd {n : Int} (h0 : -9223372036854775808 ≤ n) (h1 : n ≤ 9223372036854775807) : 1 ≤ (enc n).length ∧ (enc n).length ≤ 9 := by
  rw [enc_length]; have := nd_mag_le h0 h1; omega

set_option maxRecDepth 100000 in
theorem bytes_any (s : List UInt8) (w : World) (hs : s.length ≤ 70368744177664) :
    Calls Tryd.prog 33 #[.string ⟨s.toArray⟩] w fun e w' => ∃ v, e = .returned v ∧ w'.ownsRow w.heap.size 5 1 v (encBytes s).length (bv (encBytes s)) ∧ Below w.heap.size w w' := by
  have hsz := size_str s
  have hb := enc_len_bd (n := s.length) (by omega) (by omega)
  go_enter Tryd.func33, Tryd.ntmps33
  go_wp2_with (first | (go_at_call 38; (with_reducible refine (int_any _ _ (by omega) (by omega)).mono ?_); rintro e w' ⟨v1, rfl, ho1, hb1⟩) | ((with_reducible refine' wpList_append_str (l := s) (.tmp 5) (.tmp 6) 22 9 rfl ?_ Tryd.underlying22 Tryd.underlying9 inf_u8 ?_ ho1 ?_ ?_ hb1.size ?_); exact rfl; exact rfl; exact rfl; omega; intro v2 w2 ho2 hb2; simp only [Act.put, List.setIfInBounds_toArray, List.set_cons_succ, List.set_cons_zero]))
  go_ret
  rw [← bv_append] at ho2
  exact ⟨_, rfl, by rw [encBytes_length]; exact ho2, hb1.trans hb2⟩

set_option maxRecDepth 100000 in
theorem refbytes_any (s : List UInt8) (w : World) (hs : s.length ≤ 70368744177664) :
    Calls Tryd.prog 35 #[.string ⟨s.toArray⟩] w fun e w' => ∃ v, e = .returned v ∧ w'.ownsRow w.heap.size 5 1 v (encBytes s).length (bv (encBytes s)) ∧ Below w.heap.size w w' := by
  have hsz := size_str s
  have hb := enc_len_bd (n := s.length) (by omega) (by omega)
  have h1 := bv_one s
  go_enter Tryd.func35, Tryd.ntmps35
  go_wp2_with (first | (go_at_call 39; (with_reducible refine (refint_any _ _ (by omega) (by omega)).mono ?_); rintro e w' ⟨v1, rfl, ho1, hb1⟩) | ((with_reducible refine' wpList_bytes_l (l := s) (.tmp 6) 9 22 rfl ?_ Tryd.underlying9 Tryd.underlying22 Tryd.underlying5 ?_ (by unfold maxLen; omega) ?_); exact rfl; exact rfl; intro v2 w2 hr2 hb2; simp only [Act.put, List.setIfInBounds_toArray, List.set_cons_succ, List.set_cons_zero]) | ((with_reducible refine' wpList_append_rd (.tmp 5) (.tmp 7) 22 rfl ?_ Tryd.underlying22 inf_u8 ?_ ?_ ?_ (own_below ho1 hb2) ?_ hr2 h1 ?_ ?_ (Nat.le_trans hb1.size hb2.size) ?_); exact rfl; exact rfl; omega; exact rfl; exact rfl; (first | omega | (unfold maxLen; omega)); omega; intro v3 w3 ho3 hb3; simp only [Act.put, List.setIfInBounds_toArray, List.set_cons_succ, List.set_cons_zero]))
  go_ret
  rw [← bv_append] at ho3
  exact ⟨_, rfl, by rw [encBytes_length]; exact ho3, (hb1.trans (hb2.mono hb1.size)).trans hb3⟩
end Go.Proofs.YtomjniijnpnehaaDoor.Wi
