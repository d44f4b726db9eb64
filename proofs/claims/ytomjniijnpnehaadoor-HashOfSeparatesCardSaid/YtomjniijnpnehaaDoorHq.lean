/-
  A region that draws its order, whose last operations write: its head is walked once, its tail in the order of the text. Conditions: none.
-/
import Derived.Test.YtomjniijnpnehaaDoorBlk
import Derived.StillTail
namespace Go.Proofs.YtomjniijnpnehaaDoor.Lb
open Go Go.RowKit Go.Lib

theorem wpStill_of_quiet {P : Program} {ops : Array Oper} {W : World} {Q : Act → Prop} : ∀ (l : List Oper) (a : Act), wpQuiet P ops (fun w' => w' = W) Q l a → wpStill P ops W Q l a
  | [], a, h => h
  | o :: l, a, h => by
    unfold wpQuiet at h
    unfold wpStill
    split at h
    · rename_i hw
      rw [if_pos hw]
      obtain ⟨v, hv, hn⟩ := h
      have h1 := hv W rfl
      unfold Oper.quietAt at h1
      unfold Oper.still
      generalize (execOp a.eval o).run P W = r at h1 ⊢
      have hn' := wpStill_of_quiet l _ hn
      unfold Oper.quietUpon at h1
      unfold Oper.stillUpon
      split at h1
      · obtain ⟨rfl, rfl⟩ := h1
        exact ⟨rfl, hn'⟩
      · obtain ⟨rfl, rfl⟩ := h1
        exact ⟨rfl, hn'⟩
      · obtain ⟨rfl, hc⟩ := h1
        exact ⟨rfl, v, hc, hn'⟩
      · exact h1.elim
    · rename_i hw
      rw [if_neg hw]
      exact wpStill_of_quiet l _ h

theorem wp_region_tail {P : Program} {id : Nat} {Q : Exit → Act → World → Prop} {a : Act} {w : World} {l : List Oper} (n : Nat) (hm : P.follows .mixedOrders = true) (hB : Region.lexTailB .any l.toArray n = true)
    (h : wpQuiet P l.toArray (fun w' => w' = w.drew) (fun a' => wpList P l.toArray Q (l.drop n) a' w.drew) (l.take n) a) : (Code.region id l.toArray true).wp P Q a w :=
  wp_region_still_tail n hm hB (wpStill_of_quiet _ _ h)

theorem still_drew {w : World} : ∀ w', w' = w.drew → ∃ n, w' = w.drewN n := fun _ h => ⟨1, h⟩
theorem Blk.drew {w : World} {B : Nat} {t : TypeId} {cs : List Value} (h : Blk w B t cs) : Blk w.drew B t cs := h
theorem Rd.drew {w : World} {s : Nat} {v : Value} {n : Nat} {xs : List Value} (h : Rd w s v n xs) : Rd w.drew s v n xs := h
theorem below_drew {B : Nat} {a w : World} (h : Below B a w) : Below B a w.drew := ⟨h.os, h.tape, h.output, h.size, h.block⟩
end Go.Proofs.YtomjniijnpnehaaDoor.Lb
