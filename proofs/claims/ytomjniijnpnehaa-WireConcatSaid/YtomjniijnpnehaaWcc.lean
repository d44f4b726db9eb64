/-
  The law WireConcat: what its check computes is true.
-/
import Derived.Test.YtomjniijnpnehaaPul
namespace Go.Proofs.Ytomjniijnpnehaa.Wi
open Go Go.RowKit Pu Lb

set_option maxRecDepth 100000 in
set_option maxHeartbeats 3200000 in
theorem concat_any (s : List UInt8) (v : Value) (n : Nat) (l : List Int) (w : World) (hs : s.length ≤ 140737488351232) (hnn : n ≤ 140737488351232) (hl : IntsOk l) (hv : Rd w 1 v n (iv l)) :
    Calls Try.prog 10 #[.string ⟨s.toArray⟩, v] w fun e w' => e = .returned (.bool true) ∧ Below w.heap.size w w' := by
  have hb := Below.refl w.heap.size w
  have hln : l.length = n := by have := hv.1; rw [iv_length] at this; omega
  obtain ⟨k, hk⟩ : ∃ k, s.length = k := ⟨_, rfl⟩
  have hsz : (ByteArray.mk s.toArray).size = k := by rw [size_str, hk]
  have HK := Lib.hid hk
  rw [hk] at hs
  have h64 : IntKind.i64.wrap ((k : Int) + (n : Int)) = (k : Int) + n := IntWalk.i64_in _ (by omega)
  by_cases hn : k + n ≤ 2000
  · have e1 := getBytes_rt s (encList enc l) (by omega)
    have e2 := getInts_rt l [] (by omega) hl
    rw [List.append_nil] at e2
    have b1 := encBytes_le (s := s) (by omega)
    have b2 := encInts_le hl (by omega)
    obtain ⟨p, hp⟩ : ∃ p, (encBytes s).length = p := ⟨_, rfl⟩
    obtain ⟨q, hq⟩ : ∃ q, (encList enc l).length = q := ⟨_, rfl⟩
    have hd : (encBytes s ++ encList enc l).drop p = encList enc l := by rw [← hp, List.drop_left]
    rw [hp] at e1 b1
    rw [hq] at e2 b2
    have HP := Lib.hid hp
    have HQ := Lib.hid hq
    have HL := Lib.hid hl
    have E1 := Lib.hid e1
    have E2 := Lib.hid e2
    have HD := Lib.hid hd
    have HLN := Lib.hid hln
    rw [HLN.out] at b2
    rw [HK.out] at b1
    clear hk hp hq hl e1 e2 hd hln
    have h65 : IntKind.i64.wrap ((p : Int) + (q : Int)) = (p : Int) + q := IntWalk.i64_in _ (by omega)
    have h66 : ((p : Int) + q == ((p + q : Nat) : Int)) = true := by rw [beq_iff_eq]; omega
    go_enter Try.func10, Try.ntmps10
    go_wp2_with (first
      | ((with_reducible refine' wpList_len_rd (.tmp 14) 22 rfl ?_ Try.underlying22 ?_ hv ?_); exact rfl; exact rfl; simp only [Act.put, List.setIfInBounds_toArray, List.set_cons_succ, List.set_cons_zero])
      | (((with_reducible refine' wpList_build_nil rfl ?_ Try.underlying28 sz_u8 ?_); exact rfl; intro v0 w0 o0 hN; simp only [Act.put, List.setIfInBounds_toArray, List.set_cons_succ, List.set_cons_zero]); replace hb := hb.trans ((by exact hN : Below _ _ _).mono hb.size))
      | (go_at_call 16; (with_reducible refine (bytes_any s _ (by rw [HK.out]; omega)).mono ?_); rintro e w' ⟨v1, rfl, o1, hN⟩; replace hb := hb.trans ((by exact hN : Below _ _ _).mono hb.size); replace o0 := own_below o0 hN; have r1 := Rd.of_own o1; clear o1; rw [HP.out] at r1)
      | (((with_reducible refine' wpList_append_rd (.tmp 19) (.tmp 21) 28 rfl ?_ Try.underlying28 inf_u8 ?_ ?_ ?_ o0 ?_ r1 (bv_one _) ?_ ?_ hb.size ?_); exact rfl; exact rfl; omega; exact rfl; exact rfl; (first | omega | (unfold maxLen; omega)); omega; intro v2 w2 o2 hN; simp only [Act.put, List.setIfInBounds_toArray, List.set_cons_succ, List.set_cons_zero]); replace hb := hb.trans hN; have hv2 := hv.below hb)
      | (go_at_call 18; (with_reducible refine (ints_any v _ l _ hv2 HL.out (by rw [HQ.out]; omega)).mono ?_); rintro e w' ⟨v3, rfl, o3, hN⟩; replace hb := hb.trans ((by exact hN : Below _ _ _).mono hb.size); replace o2 := own_below o2 hN; have r3 := Rd.of_own o3; clear o3; rw [HQ.out] at r3)
      | (((with_reducible refine' wpList_append_rd (.tmp 22) (.tmp 24) 28 rfl ?_ Try.underlying28 inf_u8 ?_ ?_ ?_ o2 ?_ r3 (bv_one _) ?_ ?_ hb.size ?_); exact rfl; exact rfl; omega; exact rfl; exact rfl; (first | omega | (unfold maxLen; omega)); omega; intro v4 w4 o4 hN; simp only [Act.put, List.setIfInBounds_toArray, List.set_cons_succ, List.set_cons_zero]); replace hb := hb.trans hN; have hv4 := hv.below hb; have r4 := Rd.of_own o4; clear o4; rw [List.nil_append, ← bv_append, Nat.zero_add] at r4)
      | (go_at_call 26; (with_reducible refine (getbytes_any v4 _ (encBytes s ++ encList enc l) _ r4 (by omega)).mono ?_); rintro e w' ⟨rfl, rfl⟩; rw [E1.out]; unfold RS)
      | ((with_reducible refine' wpList_len_rd (.tmp 40) 28 rfl ?_ Try.underlying28 ?_ r4 ?_); exact rfl; exact rfl; simp only [Act.put, List.setIfInBounds_toArray, List.set_cons_succ, List.set_cons_zero])
      | (((with_reducible refine' wpList_from_b (.tmp 45) (.tmp 46) 28 rfl ?_ Try.underlying28 sz_u8 ?_ r4 (p) ?_ ?_ ?_); exact rfl; exact rfl; (show (_ : Int) = _; omega); omega; intro v5 r5; simp only [Act.put, List.setIfInBounds_toArray, List.set_cons_succ, List.set_cons_zero]); rw [HD.out, Nat.add_sub_cancel_left] at r5)
      | (go_at_call 28; (with_reducible refine (getints_any v5 _ (encList enc l) _ r5 (by omega)).mono ?_); rintro e w' ⟨v6, rfl, o6, hN⟩; rw [E2.out] at o6 ⊢; replace hb := hb.trans ((by exact hN : Below _ _ _).mono hb.size); (try replace hv4 := Rd.below hv4 hN); (try replace r4 := Rd.below r4 hN); have r6 := Rd.of_own o6; clear o6)
      | (go_at_call 12; (with_reducible refine (sanity_any _).mono ?_); rintro e w' ⟨rfl, hN⟩; replace hb := hb.trans ((by exact hN : Below _ _ _).mono hb.size); (try replace hv4 := Rd.below hv4 hN); (try replace r4 := Rd.below r4 hN); (try replace r6 := Rd.below r6 hN))
      | (go_at_call 30; (with_reducible refine (sameints_any v6 v _ _ l l _ r6 hv4).mono ?_); rintro e w' ⟨rfl, nq, rfl⟩; replace hb := below_drewN hb nq; (try replace r4 := Rd.drewN r4 nq); rw [decide_eq_true (rfl : l = l)])
      | ((with_reducible refine' wpList_len_rd (.tmp 71) 28 rfl ?_ Try.underlying28 ?_ r4 ?_); exact rfl; exact rfl; simp only [Act.put, List.setIfInBounds_toArray, List.set_cons_succ, List.set_cons_zero]))
    go_ret
    exact ⟨rfl, hb⟩
  · go_enter Try.func10, Try.ntmps10
    go_wp2_with (first
      | ((with_reducible refine' wpList_len_rd (.tmp 14) 22 rfl ?_ Try.underlying22 ?_ hv ?_); exact rfl; exact rfl; simp only [Act.put, List.setIfInBounds_toArray, List.set_cons_succ, List.set_cons_zero])
      | (go_at_call 12; (with_reducible refine (sanity_any _).mono ?_); rintro e w' ⟨rfl, hN⟩; replace hb := hb.trans ((by exact hN : Below _ _ _).mono hb.size); (try replace hv := Rd.below hv hN)))
    go_ret
    exact ⟨rfl, hb⟩
end Go.Proofs.Ytomjniijnpnehaa.Wi
