/-
  The law WireOrder: what its check computes is true.
-/
import Derived.Test.YtomjniijnpnehaaOrp
import Derived.Deep.RegionWith
import Derived.Lib.QuietBelow
namespace Go.Proofs.Ytomjniijnpnehaa.Wi
open Go Go.RowKit Pu Lb

theorem str_run {w : World} {v : Value} {n : Nat} {l : List UInt8} (hv : Rd w 1 v n (bv l)) : (convert 28 9 v).run Try.prog w = .ok (.string ⟨l.toArray⟩) w := by
  obtain ⟨hl, ad, cap, rfl, g1, g2, g3, g4⟩ := hv
  rw [bv_length, Nat.mul_one] at hl
  subst hl
  cases ad with
  | none =>
    have : cap = 0 := g3 rfl
    have h0 : l = [] := List.eq_nil_of_length_eq_zero (by omega)
    subst h0
    rw [run_convert_bytes_nil w 28 5 Try.underlying28 Try.underlying5 _ _ 9 Try.underlying9]
    rfl
  | some ad =>
    refine run_convert_bytes_back w 28 9 5 ad cap l Try.underlying28 Try.underlying5 Try.underlying9 fun j hj => ?_
    obtain ⟨b, of, hab, hc⟩ := g4 j _ (bv_get l j hj)
    obtain rfl := Option.some.inj hab
    rw [Addr.add_lit]; exact hc

theorem str_list (l : List UInt8) : (ByteArray.mk l.toArray).toList = l := by
  rw [ByteArray.toList_eq]
theorem str_take (l : List UInt8) (k : Nat) : ((ByteArray.mk l.toArray).extract 0 k).toList = l.take k := by
  rw [ByteArray.toList_eq]
  simp

set_option maxRecDepth 100000 in
set_option maxHeartbeats 3200000 in
theorem order_any (m n : Int) (w : World) (m0 : -9223372036854775808 ≤ m) (m1 : m ≤ 9223372036854775807) (n0 : -9223372036854775808 ≤ n) (n1 : n ≤ 9223372036854775807) :
    Calls Try.prog 5 #[.int .i64 m, .int .i64 n] w fun e w' => e = .returned (.bool true) ∧ Below w.heap.size w w' := by
  have M0 := Lib.hid m0; have M1 := Lib.hid m1; have N0 := Lib.hid n0; have N1 := Lib.hid n1
  obtain ⟨A, hA⟩ : ∃ A : ByteArray, A = ⟨(enc m).toArray⟩ := ⟨_, rfl⟩
  obtain ⟨B, hB⟩ : ∃ B : ByteArray, B = ⟨(enc n).toArray⟩ := ⟨_, rfl⟩
  have HA := Lib.hid hA; have HB := Lib.hid hB
  clear m0 m1 n0 n1 hA hB
  go_enter Try.func5, Try.ntmps5
  go_upto_region 1 with fail
  go_cut [5, 6] (fun s t w' => s = .string A ∧ t = .string B ∧ Below w.heap.size w w')
  case first =>
    go_region_with (first
      | (go_at_call 14; (with_reducible refine (int_any m _ M0.out M1.out).mono ?_); rintro e w' ⟨v1, rfl, o1, hN1⟩; have r1 := Rd.of_own o1; have c1 := str_run r1; have c2 := str_run (r2.below hN1); have hb2 := hb1.trans (hN1.mono hb1.size); rw [← HA.out] at c1; rw [← HB.out] at c2)
      | (go_at_call 14; (with_reducible refine (int_any n _ N0.out N1.out).mono ?_); rintro e w' ⟨v2, rfl, o2, hN2⟩; have r2 := Rd.of_own o2; have c2 := str_run r2; have c1 := str_run (r1.below hN2); have hb2 := hb1.trans (hN2.mono hb1.size); rw [← HA.out] at c1; rw [← HB.out] at c2)
      | (go_at_call 14; (with_reducible refine (int_any m _ M0.out M1.out).mono ?_); rintro e w' ⟨v1, rfl, o1, hN1⟩; have r1 := Rd.of_own o1; have c1 := str_run r1; have hb1 := below_undrew hN1; rw [← HA.out] at c1)
      | (go_at_call 14; (with_reducible refine (int_any n _ N0.out N1.out).mono ?_); rintro e w' ⟨v2, rfl, o2, hN2⟩; have r2 := Rd.of_own o2; have c2 := str_run r2; have hb1 := below_undrew hN2; rw [← HB.out] at c2))
    all_goals (go_wp2_with fail; go_meet; exact ⟨rfl, rfl, hb2⟩)
  case rest =>
    obtain ⟨rfl, rfl, hb⟩ := hcut
    have hl : Op.bytesLess A.toList B.toList = decide (m < n) := by rw [HA.out, HB.out, str_list, str_list, enc_order M0.out M1.out N0.out N1.out]
    have he : (A.toList == B.toList) = (m == n) := by
      rw [HA.out, HB.out, str_list, str_list, Bool.eq_iff_iff, beq_iff_eq, beq_iff_eq]
      exact enc_inj M0.out M1.out N0.out N1.out
    have hp : ∀ k, (k = (enc m).length ∧ k ≤ (enc n).length ∨ k = (enc n).length ∧ k ≤ (enc m).length) → ((A.extract 0 k).toList == (B.extract 0 k).toList) = (m == n) := fun k hk => by
      rw [HA.out, HB.out, str_take, str_take, Bool.eq_iff_iff, beq_iff_eq, beq_iff_eq]
      exact enc_prefix M0.out M1.out N0.out N1.out hk
    obtain ⟨ka, hka⟩ : ∃ k, (enc m).length = k := ⟨_, rfl⟩
    obtain ⟨kb, hkb⟩ : ∃ k, (enc n).length = k := ⟨_, rfl⟩
    have hsa : A.size = ka := by rw [HA.out, size_str, hka]
    have hsb : B.size = kb := by rw [HB.out, size_str, hkb]
    rw [hka, hkb] at hp
    clear hka hkb
    have hba := (enc_len_bd M0.out M1.out).2
    by_cases hk : ka ≤ kb
    · have hpk := hp ka (.inl ⟨rfl, hk⟩)
      clear hp
      go_upto_region 3 with fail
      have cS : ∀ d os, Calls Try.prog 12 #[] (Sort.grow (redrawn wc d) os) fun e w'' => e = .returned (.bool true) ∧ ∃ p : Regrown, w'' = Sort.grow (redrawn wc p.d) p.os := fun d os => Calls.regrown_of (sanity_any _)
      refine wp_region_quiet_below (by kernel_rfl) (by kernel_rfl) ?_
      repeat (go_big_quiet_step (exact cS _ _))
      refine wpQuiet_nil ?_
      intro _ hw'
      obtain ⟨⟨dq, osq⟩, hw''⟩ := hw'
      subst hw''
      go_wp2
      go_ret
      exact ⟨rfl, hb.trans ((below_regrown wc dq osq).mono hb.size)⟩
    · have hpk := hp kb (.inr ⟨rfl, by omega⟩)
      clear hp
      go_upto_region 3 with fail
      have cS : ∀ d os, Calls Try.prog 12 #[] (Sort.grow (redrawn wc d) os) fun e w'' => e = .returned (.bool true) ∧ ∃ p : Regrown, w'' = Sort.grow (redrawn wc p.d) p.os := fun d os => Calls.regrown_of (sanity_any _)
      refine wp_region_quiet_below (by kernel_rfl) (by kernel_rfl) ?_
      repeat (go_big_quiet_step (exact cS _ _))
      refine wpQuiet_nil ?_
      intro _ hw'
      obtain ⟨⟨dq, osq⟩, hw''⟩ := hw'
      subst hw''
      go_wp2
      go_ret
      exact ⟨rfl, hb.trans ((below_regrown wc dq osq).mono hb.size)⟩
end Go.Proofs.Ytomjniijnpnehaa.Wi
