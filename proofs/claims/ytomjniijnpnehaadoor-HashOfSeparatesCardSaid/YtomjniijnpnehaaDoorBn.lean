/-
  An empty slice literal, as a law of the walk. Over whatever program. Conditions: none.
-/
import Derived.Test.YtomjniijnpnehaaDoorBlk
namespace Go.Proofs.YtomjniijnpnehaaDoor.Lb
open Go Go.RowKit Go.Lib
section
variable {P : Program} {ops : Array Oper} {Q : Exit → Act → World → Prop} {a : Act} {w : World} {rest : List Oper} {o : Oper}
/-- '[]T{}' -/
theorem wpList_build_nil {t : TypeId} (ho : o.op = .buildSlice t 0 #[]) (hw : Region.wanted o (yielded ops a.tmps) = true) {e : TypeId} (ht : P.underlying t = some (.slice e)) {s : Nat} (hsz : (P.info? e).map (·.size) = some s)
    (h : ∀ v' w', w'.ownsRow w.heap.size e s v' 0 [] → Below w.heap.size w w' → wpList P ops Q rest (a.put o.dst v') w') : wpList P ops Q (o :: rest) a w := by
  obtain ⟨ti, hti, rfl⟩ := Option.map_eq_some_iff.1 hsz
  refine wpList_of_run hw (v := .slice (some ⟨w.heap.size, 0, none⟩) 0 0) (w' := w.alloc (.cells #[] e)) ?_ (h _ _ (World.ownsRow_made w #[] 0 (Nat.le_refl _) (by unfold maxLen; omega) (by simp)) ((Below.refl _ _).alloc (Nat.le_refl _) _))
  unfold execOp
  simp only [ho, Instr.buildSlice, Sem.run_bind, run_underlying ht, Result.andThen_ok]
  simp [sizeOf, typeInfo, hti, newRow, Instr.fill]
  rw [show Array.range 0 = #[] from Array.eq_empty_of_size_eq_zero (by simp), Array.map_empty]
end
end Go.Proofs.YtomjniijnpnehaaDoor.Lb
