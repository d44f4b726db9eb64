/-
  The law HashEqualIsEquality, walked. Conditions: the constants lie as the program's text lays them.
-/
import Derived.Test.YtomjniijnpnehaaDoorLsan
namespace Go.Proofs.YtomjniijnpnehaaDoor.Wi
open Go Go.RowKit Pu Lb
set_option linter.unusedSimpArgs false
set_option linter.unusedVariables false
attribute [local irreducible] comp sched comps sha outS mac digOf hexOf

theorem dec_comm {α : Type} [DecidableEq α] (x y : α) : decide (y = x) = decide (x = y) := by
  by_cases h : x = y
  · subst h; rfl
  · simp [h, Ne.symm h]
set_option maxRecDepth 100000 in
theorem law_equal_any (s t : List UInt8) (w : World) (hT : TabH w) (hs : s.length ≤ maxLen) (ht : t.length ≤ maxLen) :
    Calls Tryd.prog 9 #[.string ⟨s.toArray⟩, .string ⟨t.toArray⟩] w fun e w' => e = .returned (.bool true) ∧ Below w.heap.size w w' := by
  have hz1 := size_str s
  have hz2 := size_str t
  have hb := Below.refl w.heap.size w
  unfold maxLen at hs ht
  by_cases h1 : 400 < s.length
  · go_enter Tryd.func9, Tryd.ntmps9
    go_wp2_with ((go_at_call 10; (with_reducible refine (sanity_any _ hT).mono ?_); rintro e w' ⟨rfl, hN⟩); replace hb := hb.trans ((by exact hN : Below _ _ _).mono hb.size))
    go_ret
    exact ⟨rfl, hb⟩
  · by_cases h2 : 400 < t.length
    · go_enter Tryd.func9, Tryd.ntmps9
      go_wp2_with ((go_at_call 10; (with_reducible refine (sanity_any _ hT).mono ?_); rintro e w' ⟨rfl, hN⟩); replace hb := hb.trans ((by exact hN : Below _ _ _).mono hb.size))
      go_ret
      exact ⟨rfl, hb⟩
    · obtain ⟨E, hE⟩ : ∃ E, Hid (decide (s = t) = E) := ⟨_, Lib.hid rfl⟩
      have C := Lib.hid (dec_comm s t)
      have hz3 : ((⟨s.toArray⟩ : ByteArray) ++ ⟨#[]⟩) = ⟨s.toArray⟩ := by rw [ByteArray.mk_append_mk]; simp
      go_enter Tryd.func9, Tryd.ntmps9
      go_upto_region 7 with (first
        | ((go_at_call 10; (with_reducible refine (sanity_any _ hT).mono ?_); rintro e w' ⟨rfl, hN⟩); replace hb := hb.trans ((by exact hN : Below _ _ _).mono hb.size))
        | ((go_at_call 24; (with_reducible refine (equal_any s t _ (by omega) (by omega)).mono ?_); rintro e w' ⟨rfl, hq⟩); rw [hE.out]; have hN := drew_below hq; clear hq; replace hb := hb.trans ((by exact hN : Below _ _ _).mono hb.size))
        | ((go_at_call 24; (with_reducible refine (equal_any t s _ (by omega) (by omega)).mono ?_); rintro e w' ⟨rfl, hq⟩); rw [C.out, hE.out]; have hN := drew_below hq; clear hq; replace hb := hb.trans ((by exact hN : Below _ _ _).mono hb.size))
        | ((go_at_call 24; (with_reducible refine (equal_any s s _ (by omega) (by omega)).mono ?_); rintro e w' ⟨rfl, hq⟩); try rw [dec_self]; have hN := drew_below hq; clear hq; replace hb := hb.trans ((by exact hN : Below _ _ _).mono hb.size)))
      go_wp2_with (first | (((with_reducible refine' wpList_str_eql (l := s) (m := t) (.tmp 32) (.tmp 33) 9 _ rfl ?_ ?_ ?_ ?_); exact rfl; exact rfl; exact rfl; simp only [Act.put, List.setIfInBounds_toArray, List.set_cons_succ, List.set_cons_zero]); rw [hE.out]))
      go_ret
      exact ⟨rfl, hb⟩
end Go.Proofs.YtomjniijnpnehaaDoor.Wi
