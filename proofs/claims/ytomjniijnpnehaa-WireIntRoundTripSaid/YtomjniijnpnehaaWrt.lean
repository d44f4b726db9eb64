/-
  The law WireIntRoundTrip: what its check computes is true.
-/
import Derived.Test.YtomjniijnpnehaaPul
namespace Go.Proofs.Ytomjniijnpnehaa.Wi
open Go Go.RowKit Pu Lb

set_option maxRecDepth 100000 in
set_option maxHeartbeats 3200000 in
theorem introundtrip_any (z : Int) (v : Value) (n : Nat) (b : List UInt8) (w : World) (h0 : -9223372036854775808 ≤ z) (h1 : z ≤ 9223372036854775807) (hv : Rd w 1 v n (bv b)) :
    Calls Try.prog 6 #[.int .i64 z, v] w fun e w' => e = .returned (.bool true) ∧ Below w.heap.size w w' := by
  have hb := Below.refl w.heap.size w
  by_cases hn : n ≤ 2000
  · have HR := Lib.hid (get_enc z b h0 h1)
    obtain ⟨hl1, hl2⟩ := enc_len_bd h0 h1
    have hZ0 := Lib.hid h0; have hZ1 := Lib.hid h1; clear h0 h1
    have hk : ∃ k, (enc z).length = k := ⟨_, rfl⟩
    obtain ⟨k, hk⟩ := hk
    have HK := Lib.hid hk
    rw [hk] at hl1 hl2; clear hk
    go_enter Try.func6, Try.ntmps6
    go_wp2_with (first
      | ((with_reducible refine' wpList_len_rd (.tmp 9) 28 rfl ?_ Try.underlying28 ?_ hv ?_); exact rfl; exact rfl; simp only [Act.put, List.setIfInBounds_toArray, List.set_cons_succ, List.set_cons_zero])
      | (go_at_call 14; (with_reducible refine (int_any z _ hZ0.out hZ1.out).mono ?_); rintro e w' ⟨v1, rfl, o1, hN⟩; replace hb := hb.trans ((by exact hN : Below _ _ _).mono hb.size); (try replace hv := Rd.below hv hN); have r1 := Rd.of_own o1; clear o1; rw [HK.out] at r1)
      | ((with_reducible refine' wpList_len_rd (.tmp 17) 28 rfl ?_ Try.underlying28 ?_ r1 ?_); exact rfl; exact rfl; simp only [Act.put, List.setIfInBounds_toArray, List.set_cons_succ, List.set_cons_zero]) | ((with_reducible refine' wpList_len_rd (.tmp 19) 28 rfl ?_ Try.underlying28 ?_ r1 ?_); exact rfl; exact rfl; simp only [Act.put, List.setIfInBounds_toArray, List.set_cons_succ, List.set_cons_zero])
      | ((with_reducible refine' wpList_full_rd (.tmp 16) (.tmp 18) (.tmp 20) 28 rfl ?_ Try.underlying28 sz_u8 ?_ r1 (by decide) ?_ ?_ (by omega) ?_); exact rfl; exact rfl; (show (_ : Int) = _; omega); (show (_ : Int) = _; omega); intro v2 r2 hf; simp only [Act.put, List.setIfInBounds_toArray, List.set_cons_succ, List.set_cons_zero])
      | (((with_reducible refine' wpList_append_full (.tmp 21) (.tmp 22) 28 rfl ?_ Try.underlying28 inf_u8 ?_ ?_ ?_ r2 hf ?_ hv ?_ ?_ ?_); exact rfl; exact rfl; omega; exact rfl; exact rfl; (first | omega | (unfold maxLen; omega)); omega; intro v3 w3 r3 hN; simp only [Act.put, List.setIfInBounds_toArray, List.set_cons_succ, List.set_cons_zero]); rw [← bv_append] at r3; replace hb := hb.trans ((by exact hN : Below _ _ _).mono hb.size); (try replace hv := Rd.below hv hN); (try replace r1 := Rd.below r1 hN))
      | (go_at_call 24; (with_reducible refine (getint_any v3 _ (enc z ++ b) _ r3).mono ?_); rintro e w' ⟨rfl, rfl⟩; rw [HR.out, HK.out]; unfold R3)
      | (go_at_call 12; (with_reducible refine (sanity_any _).mono ?_); rintro e w' ⟨rfl, hN⟩; replace hb := hb.trans ((by exact hN : Below _ _ _).mono hb.size); (try replace hv := Rd.below hv hN); (try replace r1 := Rd.below r1 hN))
      | ((with_reducible refine' wpList_len_rd (.tmp 36) 28 rfl ?_ Try.underlying28 ?_ r1 ?_); exact rfl; exact rfl; simp only [Act.put, List.setIfInBounds_toArray, List.set_cons_succ, List.set_cons_zero]))
    go_ret
    refine ⟨?_, hb⟩
    show Ending.returned (.bool (decide ((k : Int) ≤ 9))) = _
    rw [show decide ((k : Int) ≤ 9) = true by simp; omega]
  · go_enter Try.func6, Try.ntmps6
    go_wp2_with (first
      | ((with_reducible refine' wpList_len_rd (.tmp 9) 28 rfl ?_ Try.underlying28 ?_ hv ?_); exact rfl; exact rfl; simp only [Act.put, List.setIfInBounds_toArray, List.set_cons_succ, List.set_cons_zero])
      | (go_at_call 12; (with_reducible refine (sanity_any _).mono ?_); rintro e w' ⟨rfl, hN⟩; replace hb := hb.trans ((by exact hN : Below _ _ _).mono hb.size); (try replace hv := Rd.below hv hN)))
    go_ret
    exact ⟨rfl, hb⟩
end Go.Proofs.Ytomjniijnpnehaa.Wi
