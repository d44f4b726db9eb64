/-
  Lists of integers and of byte strings as cells. Conditions: none.
-/
import Derived.Test.YtomjniijnpnehaaDoorLib
namespace Go.Proofs.YtomjniijnpnehaaDoor.Wi
open Go Go.RowKit Lb
def iv (l : List Int) : List Value := l.map (Value.int .i64)
def sv (l : List (List UInt8)) : List Value := l.map fun s => .string ⟨s.toArray⟩
theorem iv_at {l : List Int} {k : Nat} {x : Int} (h : l[k]? = some x) : (iv l)[k]? = some (.int .i64 x) := by simp [iv, h]
theorem sv_at {l : List (List UInt8)} {k : Nat} {x : List UInt8} (h : l[k]? = some x) : (sv l)[k]? = some (.string ⟨x.toArray⟩) := by simp [sv, h]
theorem iv_length (l : List Int) : (iv l).length = l.length := by simp [iv]
theorem sv_length (l : List (List UInt8)) : (sv l).length = l.length := by simp [sv]
def IntsOk (l : List Int) : Prop := ∀ x ∈ l, -9223372036854775808 ≤ x ∧ x ≤ 9223372036854775807
theorem mem_of_get {α : Type} {l : List α} {k : Nat} {x : α} (h : l[k]? = some x) : x ∈ l := List.mem_of_getElem? h
end Go.Proofs.YtomjniijnpnehaaDoor.Wi
