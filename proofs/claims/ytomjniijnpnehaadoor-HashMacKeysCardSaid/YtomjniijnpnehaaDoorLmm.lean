/-
  The laws HashMacMatchesSpec and HashMacKeys, walked. Conditions: the constants lie as the program's text lays them.
-/
import Derived.Test.YtomjniijnpnehaaDoorLsan
namespace Go.Proofs.YtomjniijnpnehaaDoor.Wi
open Go Go.RowKit Pu Lb
set_option linter.unusedSimpArgs false
set_option linter.unusedVariables false
theorem mac_len (k t : List UInt8) : (mac k t).length = 32 := by unfold mac; rw [sha_len]
/-- a key that is too long counts as its hash -/
theorem mac_sha (k t : List UInt8) (h : 64 < k.length) : mac (sha k) t = mac k t := by
  have e : ∀ c, padKey (sha k) c = padKey k c := fun c => by
    rw [padKey_eq, padKey_eq, if_pos h, if_neg (by rw [sha_len]; omega)]
  unfold mac
  rw [e, e]
/-- a zero behind a short key changes nothing -/
theorem mac_zero (k t : List UInt8) (h : k.length < 64) : mac (k ++ [0]) t = mac k t := by
  have e : ∀ c, padKey (k ++ [0]) c = padKey k c := fun c => by
    have e1 : ∀ x : List UInt8, ¬ 64 < x.length → (if 64 < x.length then sha x else x) = x := fun x h => if_neg h
    rw [padKey_eq, padKey_eq, e1 _ (by rw [List.length_append, List.length_singleton]; omega), e1 k (by omega)]
    congr 1
    unfold pad64
    rw [List.append_assoc]
    congr 1
    rw [List.length_append, List.length_singleton, show 64 - k.length = (64 - (k.length + 1)) + 1 by omega, List.replicate_succ]; rfl
  unfold mac
  rw [e, e]
attribute [local irreducible] comp sched comps sha outS mac digOf hexOf

set_option maxRecDepth 100000 in
theorem law_mac_any (s t : List UInt8) (w : World) (hR : TabR w) (hT : TabH w) (hs : s.length ≤ maxLen) (ht : t.length ≤ maxLen) :
    Calls Tryd.prog 5 #[.string ⟨s.toArray⟩, .string ⟨t.toArray⟩] w fun e w' => e = .returned (.bool true) ∧ Below w.heap.size w w' := by
  have hz1 := size_str s
  have hz2 := size_str t
  have hb := Below.refl w.heap.size w
  unfold maxLen at hs ht
  by_cases h1 : 400 < s.length
  · go_enter Tryd.func5, Tryd.ntmps5
    go_wp2_with ((go_at_call 10; (with_reducible refine (sanity_any _ hT).mono ?_); rintro e w' ⟨rfl, hN⟩); replace hb := hb.trans ((by exact hN : Below _ _ _).mono hb.size))
    go_ret
    exact ⟨rfl, hb⟩
  · by_cases h2 : 400 < t.length
    · go_enter Tryd.func5, Tryd.ntmps5
      go_wp2_with ((go_at_call 10; (with_reducible refine (sanity_any _ hT).mono ?_); rintro e w' ⟨rfl, hN⟩); replace hb := hb.trans ((by exact hN : Below _ _ _).mono hb.size))
      go_ret
      exact ⟨rfl, hb⟩
    · go_enter Tryd.func5, Tryd.ntmps5
      go_wp2_with (first
        | ((go_at_call 10; (with_reducible refine (sanity_any _ hT).mono ?_); rintro e w' ⟨rfl, hN⟩); replace hb := hb.trans ((by exact hN : Below _ _ _).mono hb.size); have hT2 := hT.below hb; have hR2 := hR.below hb)
        | ((go_at_call 18; (with_reducible refine (mac_any s t _ hT2 (by omega) (by omega)).mono ?_); rintro e w' ⟨rfl, hN⟩); replace hb := hb.trans ((by exact hN : Below _ _ _).mono hb.size); have hR3 := hR.below hb)
        | ((go_at_call 19; (with_reducible refine (refmac_any s t _ hR3 (by omega) (by omega)).mono ?_); rintro e w' ⟨rfl, hN⟩); replace hb := hb.trans ((by exact hN : Below _ _ _).mono hb.size))
        | (((with_reducible refine' wpList_str_eql (l := mac s t) (m := mac s t) (.tmp 20) (.tmp 23) 9 _ rfl ?_ ?_ ?_ ?_); exact rfl; exact rfl; exact rfl; simp only [Act.put, List.setIfInBounds_toArray, List.set_cons_succ, List.set_cons_zero]); try rw [dec_self]))
      go_ret
      exact ⟨rfl, hb⟩

set_option maxRecDepth 100000 in
theorem law_mackeys_any (s t : List UInt8) (w : World) (hT : TabH w) (hs : s.length ≤ maxLen) (ht : t.length ≤ maxLen) :
    Calls Tryd.prog 6 #[.string ⟨s.toArray⟩, .string ⟨t.toArray⟩] w fun e w' => e = .returned (.bool true) ∧ Below w.heap.size w w' := by
  have hz1 := size_str s
  have hz2 := size_str t
  have hb := Below.refl w.heap.size w
  unfold maxLen at hs ht
  by_cases h1 : 400 < s.length
  · go_enter Tryd.func6, Tryd.ntmps6
    go_wp2_with ((go_at_call 10; (with_reducible refine (sanity_any _ hT).mono ?_); rintro e w' ⟨rfl, hN⟩); replace hb := hb.trans ((by exact hN : Below _ _ _).mono hb.size))
    go_ret
    exact ⟨rfl, hb⟩
  · by_cases h2 : 400 < t.length
    · go_enter Tryd.func6, Tryd.ntmps6
      go_wp2_with ((go_at_call 10; (with_reducible refine (sanity_any _ hT).mono ?_); rintro e w' ⟨rfl, hN⟩); replace hb := hb.trans ((by exact hN : Below _ _ _).mono hb.size))
      go_ret
      exact ⟨rfl, hb⟩
    · obtain ⟨M, hM⟩ : ∃ M, Hid (mac s t = M) := ⟨_, Lib.hid rfl⟩
      have SL := Lib.hid (sha_len s)
      have h64s : ((⟨s.toArray⟩ : ByteArray) ++ ⟨#[0]⟩) = ⟨(s ++ [0]).toArray⟩ := by rw [ByteArray.mk_append_mk]
      have LM := Lib.hid (show M.length = 32 by rw [← hM.out, mac_len])
      have hz3 : (ByteArray.mk M.toArray).size = 32 := by rw [size_str, LM.out]
      by_cases h3 : 64 < s.length
      · have EQ := Lib.hid ((mac_sha s t h3).trans hM.out)
        go_enter Tryd.func6, Tryd.ntmps6
        go_wp2_with (first
          | ((go_at_call 10; (with_reducible refine (sanity_any _ hT).mono ?_); rintro e w' ⟨rfl, hN⟩); replace hb := hb.trans ((by exact hN : Below _ _ _).mono hb.size); have hT2 := hT.below hb)
          | ((go_at_call 18; (with_reducible refine (mac_any s t _ hT2 (by omega) (by omega)).mono ?_); rintro e w' ⟨rfl, hN⟩); rw [hM.out]; replace hb := hb.trans ((by exact hN : Below _ _ _).mono hb.size))
          | (((with_reducible refine' wpList_bytes_l (l := s) (.tmp 24) 9 22 rfl ?_ Tryd.underlying9 Tryd.underlying22 Tryd.underlying5 ?_ ((by unfold maxLen; omega)) ?_); exact rfl; exact rfl; intro v1 w1 r1 hN; simp only [Act.put, List.setIfInBounds_toArray, List.set_cons_succ, List.set_cons_zero]); replace hb := hb.trans ((by exact hN : Below _ _ _).mono hb.size); have hT3 := hT.below hb)
          | ((go_at_call 11; (with_reducible refine (sum_any v1 _ s _ hT3 r1 (by omega)).mono ?_); rintro e w' ⟨rfl, hN⟩); replace hb := hb.trans ((by exact hN : Below _ _ _).mono hb.size))
          | ((go_at_call 20; (with_reducible refine (bytes32_any (sha s) _ SL.out).mono ?_); rintro e w' ⟨rfl, hN⟩); replace hb := hb.trans ((by exact hN : Below _ _ _).mono hb.size); have hT4 := hT.below hb)
          | ((go_at_call 18; (with_reducible refine (mac_any (sha s) t _ hT4 (by rw [SL.out]; decide) (by omega)).mono ?_); rintro e w' ⟨rfl, hN⟩); rw [EQ.out]; replace hb := hb.trans ((by exact hN : Below _ _ _).mono hb.size))
          | (((with_reducible refine' wpList_str_eql (l := M) (m := M) (.tmp 30) (.tmp 33) 9 _ rfl ?_ ?_ ?_ ?_); exact rfl; exact rfl; exact rfl; simp only [Act.put, List.setIfInBounds_toArray, List.set_cons_succ, List.set_cons_zero]); try rw [dec_self]))
        go_ret
        exact ⟨rfl, hb⟩
      · by_cases h4 : s.length < 64
        · have EQ := Lib.hid ((mac_zero s t h4).trans hM.out)
          have PL := Lib.hid (show (s ++ [0]).length = s.length + 1 by simp)
          go_enter Tryd.func6, Tryd.ntmps6
          go_wp2_with (first
            | ((go_at_call 10; (with_reducible refine (sanity_any _ hT).mono ?_); rintro e w' ⟨rfl, hN⟩); replace hb := hb.trans ((by exact hN : Below _ _ _).mono hb.size); have hT2 := hT.below hb)
            | ((go_at_call 18; (with_reducible refine (mac_any s t _ hT2 (by omega) (by omega)).mono ?_); rintro e w' ⟨rfl, hN⟩); rw [hM.out]; replace hb := hb.trans ((by exact hN : Below _ _ _).mono hb.size); have hT3 := hT.below hb)
            | ((go_at_call 18; (with_reducible refine (mac_any (s ++ [0]) t _ hT3 (by rw [PL.out]; omega) (by omega)).mono ?_); rintro e w' ⟨rfl, hN⟩); rw [EQ.out]; replace hb := hb.trans ((by exact hN : Below _ _ _).mono hb.size))
            | (((with_reducible refine' wpList_str_eql (l := M) (m := M) (.tmp 41) (.tmp 45) 9 _ rfl ?_ ?_ ?_ ?_); exact rfl; exact rfl; exact rfl; simp only [Act.put, List.setIfInBounds_toArray, List.set_cons_succ, List.set_cons_zero]); try rw [dec_self]))
          go_ret
          exact ⟨rfl, hb⟩
        · go_enter Tryd.func6, Tryd.ntmps6
          go_wp2_with (first
            | ((go_at_call 10; (with_reducible refine (sanity_any _ hT).mono ?_); rintro e w' ⟨rfl, hN⟩); replace hb := hb.trans ((by exact hN : Below _ _ _).mono hb.size); have hT2 := hT.below hb)
            | ((go_at_call 18; (with_reducible refine (mac_any s t _ hT2 (by omega) (by omega)).mono ?_); rintro e w' ⟨rfl, hN⟩); rw [hM.out]; replace hb := hb.trans ((by exact hN : Below _ _ _).mono hb.size)))
          go_ret
          exact ⟨rfl, hb⟩
end Go.Proofs.YtomjniijnpnehaaDoor.Wi
