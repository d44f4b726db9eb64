/-
  The arguments of a row, opened: readable slices, and how many elements their readings hold. Conditions: none.
-/
import Derived.Test.YtomjniijnpnehaaDoorRow
import Derived.Test.YtomjniijnpnehaaDoorRows
import Derived.SizedLaws
import Derived.Deep.CondSized
namespace Go.Proofs.YtomjniijnpnehaaDoor.Wi
open Go Go.RowKit Go.ChangeShapes Pu Lb

/-- the reading of a slice of n elements -/
def Elems {H : Type} (d : DataW H) (n : Nat) : Prop := (d = .nil ∧ n = 0) ∨ ∃ es sp, d = .slice es sp ∧ es.length = n
/-- the reading of a slice of strings -/
def ElemsS {H : Type} (d : DataW H) (l : List (List UInt8)) : Prop := (d = .nil ∧ l = []) ∨ ∃ sp, d = .slice (l.map fun s => .lit (.string s)) sp
theorem ElemsS.len {H : Type} {d : DataW H} {l : List (List UInt8)} (h : ElemsS d l) : Elems d l.length := by
  rcases h with ⟨rfl, rfl⟩ | ⟨sp, rfl⟩
  · exact .inl ⟨rfl, rfl⟩
  · exact .inr ⟨_, _, rfl, by simp⟩

section
variable {H : Type} {enc : TypeId × Value → H} {P : Program} {w : World} {t e : TypeId} {v : Value} {d : DataW H} {ps : List MemPlace} {r : Reach} {b0 : Nat}

theorem op_int {k : IntKind} (ht : P.underlying t = some (.int k)) (hval : Value.okWide P w r b0 t v) (h : DataW.Trod enc P w 0 (fun _ => true) true t v d ps) : ∃ z, v = .int k z ∧ (Lit.int k z).wf = true := by
  obtain ⟨z, h1, _, _, h2⟩ := Go.ChangeShapes.open_int ht hval h
  exact ⟨z, h1, h2⟩

theorem op_str (ht : P.underlying t = some .string) (hval : Value.okWide P w r b0 t v) (h : DataW.Trod enc P w 0 (fun _ => true) true t v d ps) : ∃ s : List UInt8, v = .string ⟨s.toArray⟩ ∧ s.length ≤ maxLen ∧ d = .lit (.string s) := by
  obtain ⟨s, rfl, rfl, _, h2⟩ := Go.ChangeMaps.open_string ht hval h
  exact ⟨s.data.toList, by simp, by rw [Array.length_toList]; exact h2, rfl⟩

theorem row_of_ints {k : IntKind} (ht : P.underlying t = some (.slice e)) (he : P.underlying e = some (.int k)) (hc : P.cellsOf e = 1) (hval : Value.okWide P w r b0 t v) (h : DataW.Trod enc P w 0 (fun _ => true) true t v d ps) :
    ∃ a len cap zs, v = .slice a len cap ∧ Row k w a len cap zs ∧ Elems d len := by
  obtain ⟨a, len, cap, rfl⟩ := Go.WideShapes.okWide_slice ht hval
  obtain ⟨fuel, hf⟩ := h
  refine ⟨a, len, cap, ?_⟩
  rcases Go.ChangeShapes.open_ints ht he hc hf with ⟨hcs, hx⟩ | ⟨x, l, c, zs, hcs, _, hl, hm, hz, hx, hcell, hwz⟩
  · simp [Value.cells] at hcs
    obtain ⟨rfl, rfl, rfl⟩ := hcs
    exact ⟨[], rfl, .inl ⟨rfl, rfl, rfl, rfl⟩, .inl ⟨(Prod.mk.inj hx).1, rfl⟩⟩
  · simp [Value.cells] at hcs
    obtain ⟨rfl, rfl, rfl⟩ := hcs
    simp only [if_true] at hz
    exact ⟨zs, rfl, .inr ⟨_, rfl, hl, hm, hz, hcell, hwz⟩, .inr ⟨_, _, (Prod.mk.inj hx).1, by simp [lits]; omega⟩⟩

theorem op_bytes (ht : P.underlying t = some (.slice e)) (he : P.underlying e = some (.int .u8)) (hc : P.cellsOf e = 1) (hval : Value.okWide P w r b0 t v) (h : DataW.Trod enc P w 0 (fun _ => true) true t v d ps) :
    ∃ l : List UInt8, Rd w 1 v l.length (bv l) ∧ Elems d l.length := by
  obtain ⟨a, len, cap, zs, rfl, hr, hd⟩ := row_of_ints ht he hc hval h
  obtain ⟨l, rfl, hl⟩ := row_bytes hr
  exact ⟨l, hl, hd⟩

theorem op_ints (ht : P.underlying t = some (.slice e)) (he : P.underlying e = some (.int .i64)) (hc : P.cellsOf e = 1) (hval : Value.okWide P w r b0 t v) (h : DataW.Trod enc P w 0 (fun _ => true) true t v d ps) :
    ∃ l : List Int, IntsOk l ∧ Rd w 1 v l.length (iv l) ∧ Elems d l.length := by
  obtain ⟨a, len, cap, zs, rfl, hr, hd⟩ := row_of_ints ht he hc hval h
  obtain ⟨l, rfl, hok, hl⟩ := row_ints hr
  exact ⟨l, hok, hl, hd⟩

theorem op_strs (ht : P.underlying t = some (.slice e)) (he : P.underlying e = some .string) (hc : P.cellsOf e = 1) (hval : Value.okWide P w r b0 t v) (h : DataW.Trod enc P w 0 (fun _ => true) true t v d ps) :
    ∃ l : List (List UInt8), (∀ s ∈ l, s.length ≤ maxLen) ∧ Rd w 1 v l.length (sv l) ∧ ElemsS d l := by
  obtain ⟨a, len, cap, rfl⟩ := Go.WideShapes.okWide_slice ht hval
  obtain ⟨fuel, hf⟩ := h
  rcases Go.ChangeShapes.open_strings ht he hc hf with ⟨hcs, hx⟩ | ⟨x, l, c, ss, hcs, _, hl, hm, hz, hx, hcell, hwz⟩
  · simp [Value.cells] at hcs
    obtain ⟨rfl, rfl, rfl⟩ := hcs
    exact ⟨[], (fun s hs => by cases hs), rd_nil w 1, .inl ⟨(Prod.mk.inj hx).1, rfl⟩⟩
  · simp [Value.cells] at hcs
    obtain ⟨rfl, rfl, rfl⟩ := hcs
    simp only [if_true] at hz
    obtain ⟨L, hL, h1, h2, h3⟩ := row_strs (w := w) (a := some x) (len := len) (cap := cap) (ss := ss) (.inr ⟨_, rfl, hl, hm, hz, hcell, hwz⟩)
    refine ⟨L, h2, by rw [h1]; exact h3, .inr ⟨strs (ss.drop len), ?_⟩⟩
    rw [(Prod.mk.inj hx).1, hL, strs, List.map_map]
    rfl

end

/-! ### sizes -/
theorem sized_elems {H : Type} {P : Program} {ts : List TypeId} {ds : List (DataW H)} (h : (DataW.weightsEach P ts ds).all (· ≤ reachBytes) = true) {j : Nat} {t e : TypeId} {d : DataW H} {n : Nat} (ht : ts[j]? = some t) (hd : ds[j]? = some d) (hu : P.underlying t = some (.slice e)) (hE : Elems d n) {b : Nat} (hb : P.bytesOf e = b) : n * b ≤ 140737488351232 := by
  rcases hE with ⟨_, rfl⟩ | ⟨es, sp, rfl, rfl⟩
  · omega
  · have := sized_slice h ht hd hu
    rw [hb, Nat.add_mul] at this
    have e : reachBytes = 140737488351232 := by decide
    omega
theorem sized_str {H : Type} {P : Program} {ts : List TypeId} {ds : List (DataW H)} (h : (DataW.weightsEach P ts ds).all (· ≤ reachBytes) = true) {j : Nat} {t : TypeId} {s : List UInt8} (ht : ts[j]? = some t) (hd : ds[j]? = some (.lit (.string s))) : s.length ≤ 140737488351232 := by
  have := sized_string h ht hd
  have e : reachBytes = 140737488351232 := by decide
  omega
theorem weights_strs {H : Type} {P : Program} {e : TypeId} {s : List UInt8} : ∀ {l : List (List UInt8)}, s ∈ l → s.length ∈ DataW.weightsAll P e (l.map fun s => (DataW.lit (.string s) : DataW H))
  | x :: r, h => by
    simp only [List.map_cons, DataW.weightsAll, DataW.weights, List.mem_append, List.mem_singleton]
    rcases List.mem_cons.1 h with rfl | h
    · exact .inl rfl
    · exact .inr (weights_strs h)
theorem sized_strs {H : Type} {P : Program} {ts : List TypeId} {ds : List (DataW H)} (h : (DataW.weightsEach P ts ds).all (· ≤ reachBytes) = true) {j : Nat} {t e : TypeId} {d : DataW H} {l : List (List UInt8)} (ht : ts[j]? = some t) (hd : ds[j]? = some d) (hu : P.underlying t = some (.slice e)) (hE : ElemsS d l) :
    ∀ s ∈ l, s.length ≤ 140737488351232 := by
  intro s hs
  rcases hE with ⟨_, rfl⟩ | ⟨sp, rfl⟩
  · cases hs
  · have := List.all_eq_true.1 h _ (DataW.weights_mem_each ht hd s.length (by simp only [DataW.weights, hu, List.mem_cons, List.mem_append]; exact .inr (.inl (weights_strs hs))))
    have e : reachBytes = 140737488351232 := by decide
    simp only [decide_eq_true_eq] at this
    omega

theorem bulk_one {H : Type} (d : DataW H) : 1 ≤ Rows.uptoBulk d := by
  cases d with
  | lit l => cases l <;> simp [Rows.uptoBulk]
  | _ => simp [Rows.uptoBulk]
theorem bulk_mem {H : Type} {d : DataW H} : ∀ {l : List (DataW H)}, d ∈ l → Rows.uptoBulk d ≤ Rows.uptoBulkAll l
  | x :: r, h => by
    simp only [Rows.uptoBulkAll]
    rcases List.mem_cons.1 h with rfl | h
    · omega
    · have := bulk_mem h; omega
theorem bulk_len {H : Type} : ∀ (l : List (DataW H)), l.length ≤ Rows.uptoBulkAll l
  | [] => by simp [Rows.uptoBulkAll]
  | x :: r => by have := bulk_one x; have := bulk_len r; simp only [Rows.uptoBulkAll, List.length_cons]; omega
theorem bulk_strs {H : Type} : ∀ (l : List (List UInt8)), Rows.uptoBulkAll (l.map fun s => (DataW.lit (.string s) : DataW H)) = (l.map List.length).sum + l.length
  | [] => by simp [Rows.uptoBulkAll]
  | x :: r => by
    have := bulk_strs (H := H) r
    simp only [List.map_cons, Rows.uptoBulkAll, Rows.uptoBulk, List.sum_cons, List.length_cons]; omega
theorem bulk_elems {H : Type} {ds : List (DataW H)} (hk : Rows.uptoSmall H ds = true) {d : DataW H} {n : Nat} (hd : d ∈ ds) (hE : Elems d n) : n ≤ 1048576 := by
  have h0 : Rows.uptoBulkAll ds ≤ 1048576 := of_decide_eq_true hk
  have h1 := bulk_mem hd
  rcases hE with ⟨_, rfl⟩ | ⟨es, sp, rfl, rfl⟩
  · omega
  · have := bulk_len es
    simp only [Rows.uptoBulk] at h1
    omega
theorem bulk_str {H : Type} {ds : List (DataW H)} (hk : Rows.uptoSmall H ds = true) {s : List UInt8} (hd : DataW.lit (.string s) ∈ ds) : s.length ≤ 1048576 := by
  have h0 : Rows.uptoBulkAll ds ≤ 1048576 := of_decide_eq_true hk
  have h1 := bulk_mem hd
  simp only [Rows.uptoBulk] at h1
  omega
theorem bulk_elemsS {H : Type} {ds : List (DataW H)} (hk : Rows.uptoSmall H ds = true) {d : DataW H} {l : List (List UInt8)} (hd : d ∈ ds) (hE : ElemsS d l) : (l.map List.length).sum + l.length ≤ 1048576 := by
  have h0 : Rows.uptoBulkAll ds ≤ 1048576 := of_decide_eq_true hk
  have h1 := bulk_mem hd
  rcases hE with ⟨_, rfl⟩ | ⟨sp, rfl⟩
  · simp
  · simp only [Rows.uptoBulk, bulk_strs] at h1
    omega
end Go.Proofs.YtomjniijnpnehaaDoor.Wi
