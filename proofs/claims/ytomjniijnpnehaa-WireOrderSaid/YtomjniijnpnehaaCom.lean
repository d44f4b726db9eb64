/-
  From the rows' tokens to readable slices. Conditions: none.
-/
import Derived.Test.YtomjniijnpnehaaSan
import Derived.ProofKit
import Derived.OpenShut
import Derived.ShutString
import Derived.SliceStrings
import Derived.ArgAppend
import Derived.Deep.Upon
namespace Go.Proofs.Ytomjniijnpnehaa.Wi
open Go Go.RowKit Pu Lb

theorem spot_none {w : World} {x : Addr} {u : Value} (h : w.cell? x = some u) : ∃ b o, x = ⟨b, o, none⟩ := by
  obtain ⟨b, o, s⟩ := x
  unfold World.cell? at h
  cases s with
  | none => exact ⟨b, o, rfl⟩
  | some n => exfalso; simp at h; split at h <;> simp at h

theorem rd_cells {w : World} {s : Nat} {x : Addr} {len cap : Nat} {xs : List Value} (h1 : len ≤ cap) (h2 : cap ≤ maxLen) (h3 : len * s ≤ xs.length) (h4 : ∀ i u, xs[i]? = some u → w.cell? (x.add i) = some u) :
    Rd w s (.slice (some x) len cap) len (xs.take (len * s)) := by
  refine ⟨by rw [List.length_take]; omega, _, _, rfl, h1, h2, (fun h => by cases h), fun j u hu => ?_⟩
  have hu' : xs[j]? = some u := get_of_take hu
  have hlt := (List.getElem?_eq_some_iff.1 hu').1
  obtain ⟨b, o, rfl⟩ : ∃ b o, x = ⟨b, o, none⟩ := by
    have h0 := h4 0 xs[0] (by simp)
    rw [show x.add 0 = x by simp [Addr.add]] at h0
    exact spot_none h0
  refine ⟨b, o, rfl, ?_⟩
  have := h4 j u hu'
  rwa [Addr.add_lit] at this

/-- what the row says of a slice of numbers -/
def Row (k : IntKind) (w : World) (a : Option Addr) (len cap : Nat) (zs : List Int) : Prop :=
  (a = none ∧ len = 0 ∧ cap = 0 ∧ zs = []) ∨
  ∃ x, a = some x ∧ len ≤ cap ∧ cap ≤ maxLen ∧ zs.length = cap ∧ (∀ i, i < zs.length → w.cell? (x.add i) = some (.int k (zs.getD i 0))) ∧ ∀ n ∈ zs, (Lit.int k n).wf = true

theorem row_rd {k : IntKind} {w : World} {a : Option Addr} {len cap : Nat} {zs : List Int} (h : Row k w a len cap zs) :
    Rd w 1 (.slice a len cap) len ((zs.take len).map (Value.int k)) ∧ (zs.take len).length = len ∧ ∀ n ∈ zs, (Lit.int k n).wf = true := by
  rcases h with ⟨rfl, rfl, rfl, rfl⟩ | ⟨x, rfl, h1, h2, h3, h4, h5⟩
  · exact ⟨rd_nil w 1, rfl, fun n hn => by cases hn⟩
  · have := rd_cells (w := w) (s := 1) (x := x) (xs := zs.map (Value.int k)) h1 h2 (by simp; omega) fun i u hu => by
      rw [List.getElem?_map, Option.map_eq_some_iff] at hu
      obtain ⟨z, hz, rfl⟩ := hu
      have hi := (List.getElem?_eq_some_iff.1 hz).1
      have := h4 i hi
      rwa [List.getD_eq_getElem?_getD, hz, Option.getD_some] at this
    rw [Nat.mul_one, ← List.map_take] at this
    exact ⟨this, by simp; omega, h5⟩

theorem wf_u8 {n : Int} (h : (Lit.int .u8 n).wf = true) : 0 ≤ n ∧ n ≤ 255 := by
  simpa [Lit.wf, IntKind.min, IntKind.max, IntKind.signed, IntKind.bits] using h
theorem wf_i64 {n : Int} (h : (Lit.int .i64 n).wf = true) : -9223372036854775808 ≤ n ∧ n ≤ 9223372036854775807 := by
  simpa [Lit.wf, IntKind.min, IntKind.max, IntKind.signed, IntKind.bits] using h

theorem row_bytes {w : World} {a : Option Addr} {len cap : Nat} {zs : List Int} (h : Row .u8 w a len cap zs) : ∃ l : List UInt8, l.length = len ∧ Rd w 1 (.slice a len cap) len (bv l) := by
  obtain ⟨h1, h2, h3⟩ := row_rd h
  refine ⟨(zs.take len).map bt, by simpa using h2, ?_⟩
  rwa [show bv ((zs.take len).map bt) = (zs.take len).map (Value.int .u8) by
    unfold bv
    rw [List.map_map]
    refine List.map_congr_left fun z hz => ?_
    have := wf_u8 (h3 z (List.mem_of_mem_take hz))
    show Value.int .u8 _ = _
    rw [bt_toNat]; congr 1; omega]

theorem row_ints {w : World} {a : Option Addr} {len cap : Nat} {zs : List Int} (h : Row .i64 w a len cap zs) : ∃ l : List Int, l.length = len ∧ IntsOk l ∧ Rd w 1 (.slice a len cap) len (iv l) := by
  obtain ⟨h1, h2, h3⟩ := row_rd h
  exact ⟨zs.take len, h2, fun z hz => wf_i64 (h3 z (List.mem_of_mem_take hz)), h1⟩

/-- what the row says of a slice of strings -/
def RowS (w : World) (a : Option Addr) (len cap : Nat) (ss : List ByteArray) : Prop :=
  (a = none ∧ len = 0 ∧ cap = 0 ∧ ss = []) ∨
  ∃ x, a = some x ∧ len ≤ cap ∧ cap ≤ maxLen ∧ ss.length = cap ∧ (∀ i, i < ss.length → w.cell? (x.add i) = some (.string (ss.getD i ByteArray.empty))) ∧ ∀ s ∈ ss, s.size ≤ maxLen

theorem row_strs {w : World} {a : Option Addr} {len cap : Nat} {ss : List ByteArray} (h : RowS w a len cap ss) : ∃ l : List (List UInt8), l = (ss.take len).map (·.data.toList) ∧ l.length = len ∧ (∀ s ∈ l, s.length ≤ maxLen) ∧ Rd w 1 (.slice a len cap) len (sv l) := by
  refine ⟨_, rfl, ?_⟩
  rcases h with ⟨rfl, rfl, rfl, rfl⟩ | ⟨x, rfl, h1, h2, h3, h4, h5⟩
  · exact ⟨rfl, (fun s hs => by cases hs), rd_nil w 1⟩
  · refine ⟨by simp; omega, fun s hs => ?_, ?_⟩
    · obtain ⟨t, ht, rfl⟩ := List.mem_map.1 hs
      show t.data.toList.length ≤ maxLen
      rw [Array.length_toList]
      exact h5 t (List.mem_of_mem_take ht)
    · have := rd_cells (w := w) (s := 1) (x := x) (xs := ss.map Value.string) h1 h2 (by simp; omega) fun i u hu => by
        rw [List.getElem?_map, Option.map_eq_some_iff] at hu
        obtain ⟨z, hz, rfl⟩ := hu
        have hi := (List.getElem?_eq_some_iff.1 hz).1
        have := h4 i hi
        rwa [List.getD_eq_getElem?_getD, hz, Option.getD_some] at this
      rw [Nat.mul_one, ← List.map_take] at this
      rwa [show sv ((ss.take len).map (·.data.toList)) = (ss.take len).map Value.string by
        unfold sv; rw [List.map_map]; exact List.map_congr_left fun z _ => by simp]
/-! ### the full slice, and what is appended to it -/
section
variable {P : Program} {ops : Array Oper} {Q : Exit → Act → World → Prop} {a : Act} {w : World} {rest : List Oper} {o : Oper}
/-- 'b[:n:n]', n the length -/
theorem wpList_full_rd (x hi mx : Operand) (t : TypeId) (ho : o.op = .slice t x none (some hi) (some mx)) (hw : Region.wanted o (yielded ops a.tmps) = true)
    {e : TypeId} (ht : P.underlying t = some (.slice e)) {w0 : World} {s : Nat} (hsz : (P.info? e).map (·.size) = some s) {v : Value} {n : Nat} {xs : List Value} (hx : a.eval x = v) (hv : Rd w0 s v n xs) (hs : 0 < s)
    (hhi : IsI (a.eval hi) (n : Int)) (hmx : IsI (a.eval mx) (n : Int)) (hn : 0 < n)
    (h : ∀ v', Rd w0 s v' n xs → (∃ ad, v' = .slice (some ad) n n) → wpList P ops Q rest (a.put o.dst v') w) : wpList P ops Q (o :: rest) a w := by
  obtain ⟨ti, hti, rfl⟩ := Option.map_eq_some_iff.1 hsz
  obtain ⟨kh, hhi⟩ := isI hhi
  obtain ⟨km, hmx⟩ := isI hmx
  have hv' := hv
  obtain ⟨hl, ad, cap, rfl, g1, g2, g3, g4⟩ := hv
  obtain ⟨b, of, rfl, _⟩ := g4 0 (xs[0]'(by rw [hl]; exact Nat.mul_pos hn hs)) (by simp)
  have hc := rd_cut hv' (L := 0) (H := n) (Nat.zero_le n) (Nat.le_refl n) (m := n) g1 (Nat.le_refl n)
  rw [if_neg (by omega)] at hc
  simp only [Nat.zero_mul, List.drop_zero, Nat.sub_zero, Option.map_some] at hc
  rw [List.take_of_length_le (by omega)] at hc
  refine wpList_of_run hw (v := _) (w' := w) ?_ (h _ hc ⟨_, rfl⟩)
  have e0 : ¬ n = 0 := by omega
  unfold execOp
  simp [ho, Instr.sliceAt, hx, hhi, hmx, run_underlying ht, Instr.slice, Instr.sliceBounds, Instr.sliceBound, asIntOf, sizeOf, typeInfo, hti, g1, e0]

/-- 'append(x, y...)', x without room -/
theorem wpList_append_full (x y : Operand) (t : TypeId) (ho : o.op = .call { callee := .builtin .append, args := #[x, y], argTypes := #[t, t] }) (hw : Region.wanted o (yielded ops a.tmps) = true)
    {e : TypeId} {z : Value} {s bytes : Nat} (ht : P.underlying t = some (.slice e)) (hinfo : (P.info? e).map (fun i => (i.zero, i.size, i.bytes)) = some (some z, s, bytes)) (hzs : z.cells.size = s) (hs0 : 0 < s)
    {v : Value} {n : Nat} {xs : List Value} (hx : a.eval x = v) (hrd : Rd w s v n xs) (hful : ∃ ad, v = .slice (some ad) n n) {v2 : Value} {m : Nat} {ys : List Value} (hy : a.eval y = v2) (hv : Rd w s v2 m ys)
    (h63 : n + m ≤ maxLen) (hbytes : (n + m) * bytes ≤ 140737488355328)
    (h : ∀ v' w', Rd w' s v' (n + m) (xs ++ ys) → Below w.heap.size w w' → wpList P ops Q rest (a.put o.dst v') w') : wpList P ops Q (o :: rest) a w := by
  obtain ⟨i, hi, hz, hsz, hby⟩ := info_parts hinfo
  obtain ⟨ad, rfl⟩ := hful
  by_cases hm : m = 0
  · subst hm
    have hys : ys = [] := List.eq_nil_of_length_eq_zero (by simpa using hv.1)
    subst hys
    have hsrc : Src P i.size t v2 0 [] w := by
      obtain ⟨_, ad2, cap2, rfl, _⟩ := hv
      cases ad2 with
      | some ad2 => exact Src.ofSlice w ht ad2 0 cap2 [] (by simp) (fun j u hu => by simp at hu) (by simp)
      | none => exact ⟨.inl ⟨e, ht⟩, fun w' => by simp [Builtin.lenOf], by simp [run_firstCells_none], by simp [run_firstCells_none], by simp, by simp⟩
    have hrun := run_append_nothing (P := P) w t t o.type e i ht hi (some ad) n n (Nat.le_refl n) v2 hsrc
    refine wpList_of_run hw (v := .slice (some ad) n n) (w' := w) ?_ (h _ _ (by simpa using hrd) (Below.refl _ _))
    unfold execOp
    simp only [ho, resolve, invoke, builtin, Sem.run_bind, Sem.run_pure, Result.andThen_ok, List.map_toArray, List.map_cons, List.map_nil, hx, hy, hrun]
  · obtain ⟨hl, ad', cap, hveq, g1, g2, g3, g4⟩ := hrd
    simp only [Value.slice.injEq] at hveq
    obtain ⟨rfl, _, rfl⟩ := hveq
    obtain ⟨hl2, ad2, cap2, rfl, k1, k2, k3, k4⟩ := hv
    obtain ⟨b2, of2, rfl, _⟩ := k4 0 (ys[0]'(by rw [hl2]; exact Nat.mul_pos (by omega) hs0)) (by simp)
    obtain ⟨v', w', hrun, r1, r2⟩ := run_append_arg_grows (P := P) w t o.type e i z s bytes ht hi hz hsz hby hzs hs0 ad n n xs hl (fun j u hu => by
      obtain ⟨b, of, hab, hc⟩ := g4 j u hu
      obtain rfl := Option.some.inj hab
      rw [Addr.add_lit]; exact hc) ⟨b2, of2, none⟩ m cap2 ys hl2 (fun j u hu => by
      obtain ⟨b, of, hab, hc⟩ := k4 j u hu
      obtain ⟨rfl, rfl⟩ : b2 = b ∧ of2 = of := by simpa using hab
      rw [Addr.add_lit]; exact hc) (by omega) h63 hbytes
    refine wpList_of_run hw (v := v') (w' := w') ?_ (h v' w' (Rd.of_own r1) ((Below.refl w.heap.size w).grown r2 (Nat.le_refl _) fun k hk => by cases hk))
    unfold execOp
    simp only [ho, resolve, invoke, builtin, Sem.run_bind, Sem.run_pure, Result.andThen_ok, List.map_toArray, List.map_cons, List.map_nil, hx, hy, hrun]
/-- '[]T{}' -/
theorem wpList_build_nil {t : TypeId} (ho : o.op = .buildSlice t 0 #[]) (hw : Region.wanted o (yielded ops a.tmps) = true) {e : TypeId} (ht : P.underlying t = some (.slice e)) {s : Nat} (hsz : (P.info? e).map (·.size) = some s)
    (h : ∀ v' w', w'.ownsRow w.heap.size e s v' 0 [] → Below w.heap.size w w' → wpList P ops Q rest (a.put o.dst v') w') : wpList P ops Q (o :: rest) a w := by
  obtain ⟨ti, hti, rfl⟩ := Option.map_eq_some_iff.1 hsz
  refine wpList_of_run hw (v := .slice (some ⟨w.heap.size, 0, none⟩) 0 0) (w' := w.alloc (.cells #[] e)) ?_ (h _ _ (World.ownsRow_made w #[] 0 (Nat.le_refl _) (by unfold maxLen; omega) (by simp)) ((Below.refl _ _).alloc (Nat.le_refl _) _))
  unfold execOp
  simp only [ho, Instr.buildSlice, Sem.run_bind, run_underlying ht, Result.andThen_ok]
  simp [sizeOf, typeInfo, hti, newRow, Instr.fill]
  rw [show Array.range 0 = #[] from Array.eq_empty_of_size_eq_zero (by simp), Array.map_empty]
/-- a variable that a closure shares -/
theorem wpList_box (t : TypeId) (x : Operand) (ho : o.op = .box t x) (hw : Region.wanted o (yielded ops a.tmps) = true) {v : Value} (hx : a.eval x = v) (hc : v.cells = #[v])
    (h : ∀ w', Blk w' w.heap.size t [v] → Below w.heap.size w w' → w'.heap.size = w.heap.size + 1 → wpList P ops Q rest (a.put o.dst (.pointer (some ⟨w.heap.size, 0, none⟩))) w') : wpList P ops Q (o :: rest) a w := by
  refine wpList_of_run hw (v := .pointer (some ⟨w.heap.size, 0, none⟩)) (w' := w.alloc (.cells #[v] t)) ?_ (h _ (heap_alloc_new w _) ((Below.refl _ _).alloc (Nat.le_refl _) _) (by simp))
  unfold execOp
  simp [ho, hx, Instr.box, newVar, newRow, hc]
theorem rd_shape {w : World} {s : Nat} {v : Value} {n : Nat} {xs : List Value} (h : Rd w s v n xs) : v.cells = #[v] := by
  obtain ⟨_, ad, cap, rfl, _⟩ := h
  rfl
end
end Go.Proofs.Ytomjniijnpnehaa.Wi
