/-
  The law WireDecodeMatchesSpec: what its check computes is true.
-/
import Derived.Test.YtomjniijnpnehaaPul
namespace Go.Proofs.Ytomjniijnpnehaa.Wi
open Go Go.RowKit Pu Lb

set_option maxRecDepth 100000 in
set_option maxHeartbeats 3200000 in
theorem decode_any (v : Value) (n : Nat) (b : List UInt8) (w : World) (hv : Rd w 1 v n (bv b)) :
    Calls Try.prog 4 #[v] w fun e w' => e = .returned (.bool true) ∧ Below w.heap.size w w' := by
  have hb := Below.refl w.heap.size w
  by_cases hn : n ≤ 2000
  · have hd := getDigests_ok b
    have HD : DigsOk (getDigests b).1 := hd
    clear hd
    go_enter Try.func4, Try.ntmps4
    go_wp2_with (first
      | ((with_reducible refine' wpList_len_rd (.tmp 33) 28 rfl ?_ Try.underlying28 ?_ hv ?_); exact rfl; exact rfl; simp only [Act.put, List.setIfInBounds_toArray, List.set_cons_succ, List.set_cons_zero])
      | (go_at_call 24; (with_reducible refine (getint_any v _ b _ hv).mono ?_); rintro e w' ⟨rfl, rfl⟩; unfold R3)
      | (go_at_call 25; (with_reducible refine (refget_any v _ b _ hv).mono ?_); rintro e w' ⟨rfl, hN⟩; unfold R3; replace hb := hb.trans ((by exact hN : Below _ _ _).mono hb.size); (try replace hv := Rd.below hv hN))
      | (go_at_call 26; (with_reducible refine (getbytes_any v _ b _ hv (by omega)).mono ?_); rintro e w' ⟨rfl, rfl⟩; unfold RS)
      | (go_at_call 27; (with_reducible refine (refgetbytes_any v _ b _ hv (by omega)).mono ?_); rintro e w' ⟨rfl, hN⟩; unfold RS; replace hb := hb.trans ((by exact hN : Below _ _ _).mono hb.size); (try replace hv := Rd.below hv hN))
      | (go_at_call 28; (with_reducible refine (getints_any v _ b _ hv (by omega)).mono ?_); rintro e w' ⟨v1, rfl, o1, hN⟩; replace hb := hb.trans ((by exact hN : Below _ _ _).mono hb.size); (try replace hv := Rd.below hv hN); have r1 := Rd.of_own o1; clear o1)
      | (go_at_call 29; (with_reducible refine (refgetints_any v _ b _ hv (by omega)).mono ?_); rintro e w' ⟨v2, rfl, o2, hN⟩; replace hb := hb.trans ((by exact hN : Below _ _ _).mono hb.size); (try replace hv := Rd.below hv hN); (try replace r1 := Rd.below r1 hN); have r2 := Rd.of_own o2; clear o2)
      | (go_at_call 30; (with_reducible refine (sameints_any v1 v2 _ _ (getInts b).1 (getInts b).1 _ r1 r2).mono ?_); rintro e w' ⟨rfl, nq, rfl⟩; replace hb := below_drewN hb nq; (try replace hv := Rd.drewN hv nq); rw [decide_eq_true (rfl : (getInts b).1 = (getInts b).1)])
      | (go_at_call 31; (with_reducible refine (getstrings_any v _ b _ hv (by omega)).mono ?_); rintro e w' ⟨v3, rfl, o3, hN⟩; replace hb := hb.trans ((by exact hN : Below _ _ _).mono hb.size); (try replace hv := Rd.below hv hN); have r3 := Rd.of_own o3; clear o3)
      | (go_at_call 32; (with_reducible refine (refgetstrings_any v _ b _ hv (by omega)).mono ?_); rintro e w' ⟨v4, rfl, o4, hN⟩; replace hb := hb.trans ((by exact hN : Below _ _ _).mono hb.size); (try replace hv := Rd.below hv hN); (try replace r3 := Rd.below r3 hN); have r4 := Rd.of_own o4; clear o4)
      | (go_at_call 33; (with_reducible refine (sametexts_any v3 v4 _ _ (getStrings b).1 (getStrings b).1 _ r3 r4).mono ?_); rintro e w' ⟨rfl, nq, rfl⟩; replace hb := below_drewN hb nq; (try replace hv := Rd.drewN hv nq); rw [decide_eq_true (rfl : (getStrings b).1 = (getStrings b).1)])
      | (go_at_call 34; (with_reducible refine (getdigests_any v _ b _ hv (by omega)).mono ?_); rintro e w' ⟨v5, rfl, o5, hN⟩; replace hb := hb.trans ((by exact hN : Below _ _ _).mono hb.size); (try replace hv := Rd.below hv hN); have r5 := Rd.of_own o5; clear o5)
      | (go_at_call 35; (with_reducible refine (refgetdigests_any v _ b _ hv (by omega)).mono ?_); rintro e w' ⟨v6, rfl, o6, hN⟩; replace hb := hb.trans ((by exact hN : Below _ _ _).mono hb.size); (try replace hv := Rd.below hv hN); (try replace r5 := Rd.below r5 hN); have r6 := Rd.of_own o6; clear o6)
      | (go_at_call 12; (with_reducible refine (sanity_any _).mono ?_); rintro e w' ⟨rfl, hN⟩; replace hb := hb.trans ((by exact hN : Below _ _ _).mono hb.size); (try replace hv := Rd.below hv hN); (try replace r5 := Rd.below r5 hN); (try replace r6 := Rd.below r6 hN))
      | (go_at_call 36; (with_reducible refine (samedigests_any v5 v6 _ _ (getDigests b).1 (getDigests b).1 _ HD HD r5 r6).mono ?_); rintro e w' ⟨rfl, nq, rfl⟩; replace hb := below_drewN hb nq; (try replace hv := Rd.drewN hv nq); rw [decide_eq_true (rfl : (getDigests b).1 = (getDigests b).1)]))
    go_ret
    exact ⟨rfl, hb⟩
  · go_enter Try.func4, Try.ntmps4
    go_wp2_with (first
      | ((with_reducible refine' wpList_len_rd (.tmp 33) 28 rfl ?_ Try.underlying28 ?_ hv ?_); exact rfl; exact rfl; simp only [Act.put, List.setIfInBounds_toArray, List.set_cons_succ, List.set_cons_zero])
      | (go_at_call 12; (with_reducible refine (sanity_any _).mono ?_); rintro e w' ⟨rfl, hN⟩; replace hb := hb.trans ((by exact hN : Below _ _ _).mono hb.size); (try replace hv := Rd.below hv hN)))
    go_ret
    exact ⟨rfl, hb⟩
end Go.Proofs.Ytomjniijnpnehaa.Wi
