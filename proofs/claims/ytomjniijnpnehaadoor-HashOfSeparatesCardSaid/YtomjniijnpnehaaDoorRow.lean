/-
  From the rows' tokens to readable slices. Conditions: none.
-/
import Derived.Test.YtomjniijnpnehaaDoorSv
import Derived.Test.YtomjniijnpnehaaDoorDec
import Derived.ProofKit
import Derived.OpenShut
import Derived.ShutString
import Derived.SliceStrings
import Derived.ArgAppend
import Derived.Deep.Upon
namespace Go.Proofs.YtomjniijnpnehaaDoor.Wi
open Go Go.RowKit Pu Lb

theorem get_of_take' {α : Type} {l : List α} {k j : Nat} {x : α} (h : (l.take k)[j]? = some x) : l[j]? = some x := by
  rw [List.getElem?_take] at h
  split at h
  · exact h
  · cases h
theorem spot_none {w : World} {x : Addr} {u : Value} (h : w.cell? x = some u) : ∃ b o, x = ⟨b, o, none⟩ := by
  obtain ⟨b, o, s⟩ := x
  unfold World.cell? at h
  cases s with
  | none => exact ⟨b, o, rfl⟩
  | some n => exfalso; simp at h; split at h <;> simp at h

theorem rd_cells {w : World} {s : Nat} {x : Addr} {len cap : Nat} {xs : List Value} (h1 : len ≤ cap) (h2 : cap ≤ maxLen) (h3 : len * s ≤ xs.length) (h4 : ∀ i u, xs[i]? = some u → w.cell? (x.add i) = some u) :
    Rd w s (.slice (some x) len cap) len (xs.take (len * s)) := by
  refine ⟨by rw [List.length_take]; omega, _, _, rfl, h1, h2, (fun h => by cases h), fun j u hu => ?_⟩
  have hu' : xs[j]? = some u := get_of_take' hu
  have hlt := (List.getElem?_eq_some_iff.1 hu').1
  obtain ⟨b, o, rfl⟩ : ∃ b o, x = ⟨b, o, none⟩ := by
    have h0 := h4 0 xs[0] (by simp)
    rw [show x.add 0 = x by simp [Addr.add]] at h0
    exact spot_none h0
  refine ⟨b, o, rfl, ?_⟩
  have := h4 j u hu'
  rwa [Addr.add_lit] at this

/-- what the row says of a slice of numbers -/
def Row (k : IntKind) (w : World) (a : Option Addr) (len cap : Nat) (zs : List Int) : Prop :=
  (a = none ∧ len = 0 ∧ cap = 0 ∧ zs = []) ∨
  ∃ x, a = some x ∧ len ≤ cap ∧ cap ≤ maxLen ∧ zs.length = cap ∧ (∀ i, i < zs.length → w.cell? (x.add i) = some (.int k (zs.getD i 0))) ∧ ∀ n ∈ zs, (Lit.int k n).wf = true

theorem row_rd {k : IntKind} {w : World} {a : Option Addr} {len cap : Nat} {zs : List Int} (h : Row k w a len cap zs) :
    Rd w 1 (.slice a len cap) len ((zs.take len).map (Value.int k)) ∧ (zs.take len).length = len ∧ ∀ n ∈ zs, (Lit.int k n).wf = true := by
  rcases h with ⟨rfl, rfl, rfl, rfl⟩ | ⟨x, rfl, h1, h2, h3, h4, h5⟩
  · exact ⟨rd_nil w 1, rfl, fun n hn => by cases hn⟩
  · have := rd_cells (w := w) (s := 1) (x := x) (xs := zs.map (Value.int k)) h1 h2 (by simp; omega) fun i u hu => by
      rw [List.getElem?_map, Option.map_eq_some_iff] at hu
      obtain ⟨z, hz, rfl⟩ := hu
      have hi := (List.getElem?_eq_some_iff.1 hz).1
      have := h4 i hi
      rwa [List.getD_eq_getElem?_getD, hz, Option.getD_some] at this
    rw [Nat.mul_one, ← List.map_take] at this
    exact ⟨this, by simp; omega, h5⟩

theorem wf_u8 {n : Int} (h : (Lit.int .u8 n).wf = true) : 0 ≤ n ∧ n ≤ 255 := by
  simpa [Lit.wf, IntKind.min, IntKind.max, IntKind.signed, IntKind.bits] using h
theorem wf_i64 {n : Int} (h : (Lit.int .i64 n).wf = true) : -9223372036854775808 ≤ n ∧ n ≤ 9223372036854775807 := by
  simpa [Lit.wf, IntKind.min, IntKind.max, IntKind.signed, IntKind.bits] using h

theorem row_bytes {w : World} {a : Option Addr} {len cap : Nat} {zs : List Int} (h : Row .u8 w a len cap zs) : ∃ l : List UInt8, l.length = len ∧ Rd w 1 (.slice a len cap) len (bv l) := by
  obtain ⟨h1, h2, h3⟩ := row_rd h
  refine ⟨(zs.take len).map bt, by simpa using h2, ?_⟩
  rwa [show bv ((zs.take len).map bt) = (zs.take len).map (Value.int .u8) by
    unfold bv
    rw [List.map_map]
    refine List.map_congr_left fun z hz => ?_
    have := wf_u8 (h3 z (List.mem_of_mem_take hz))
    show Value.int .u8 _ = _
    rw [bt_toNat]; congr 1; omega]

theorem row_ints {w : World} {a : Option Addr} {len cap : Nat} {zs : List Int} (h : Row .i64 w a len cap zs) : ∃ l : List Int, l.length = len ∧ IntsOk l ∧ Rd w 1 (.slice a len cap) len (iv l) := by
  obtain ⟨h1, h2, h3⟩ := row_rd h
  exact ⟨zs.take len, h2, fun z hz => wf_i64 (h3 z (List.mem_of_mem_take hz)), h1⟩

/-- what the row says of a slice of strings -/
def RowS (w : World) (a : Option Addr) (len cap : Nat) (ss : List ByteArray) : Prop :=
  (a = none ∧ len = 0 ∧ cap = 0 ∧ ss = []) ∨
  ∃ x, a = some x ∧ len ≤ cap ∧ cap ≤ maxLen ∧ ss.length = cap ∧ (∀ i, i < ss.length → w.cell? (x.add i) = some (.string (ss.getD i ByteArray.empty))) ∧ ∀ s ∈ ss, s.size ≤ maxLen

theorem row_strs {w : World} {a : Option Addr} {len cap : Nat} {ss : List ByteArray} (h : RowS w a len cap ss) : ∃ l : List (List UInt8), l = (ss.take len).map (·.data.toList) ∧ l.length = len ∧ (∀ s ∈ l, s.length ≤ maxLen) ∧ Rd w 1 (.slice a len cap) len (sv l) := by
  refine ⟨_, rfl, ?_⟩
  rcases h with ⟨rfl, rfl, rfl, rfl⟩ | ⟨x, rfl, h1, h2, h3, h4, h5⟩
  · exact ⟨rfl, (fun s hs => by cases hs), rd_nil w 1⟩
  · refine ⟨by simp; omega, fun s hs => ?_, ?_⟩
    · obtain ⟨t, ht, rfl⟩ := List.mem_map.1 hs
      show t.data.toList.length ≤ maxLen
      rw [Array.length_toList]
      exact h5 t (List.mem_of_mem_take ht)
    · have := rd_cells (w := w) (s := 1) (x := x) (xs := ss.map Value.string) h1 h2 (by simp; omega) fun i u hu => by
        rw [List.getElem?_map, Option.map_eq_some_iff] at hu
        obtain ⟨z, hz, rfl⟩ := hu
        have hi := (List.getElem?_eq_some_iff.1 hz).1
        have := h4 i hi
        rwa [List.getD_eq_getElem?_getD, hz, Option.getD_some] at this
      rw [Nat.mul_one, ← List.map_take] at this
      rwa [show sv ((ss.take len).map (·.data.toList)) = (ss.take len).map Value.string by
        unfold sv; rw [List.map_map]; exact List.map_congr_left fun z _ => by simp]
end Go.Proofs.YtomjniijnpnehaaDoor.Wi
