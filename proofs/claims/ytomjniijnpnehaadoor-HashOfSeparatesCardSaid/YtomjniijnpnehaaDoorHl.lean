/-
  Arrays that lie inside a variable (a field of a struct), slices over an array variable, copy out of a string, an element of an array by value: laws of the walk over whatever program. Conditions: those that each law names.
-/
import Derived.Test.YtomjniijnpnehaaDoorHq
import Derived.Laws.CopyRow
namespace Go.Proofs.YtomjniijnpnehaaDoor.Lb
open Go Go.RowKit Go.Lib

section
variable {P : Program} {ops : Array Oper} {Q : Exit → Act → World → Prop} {C : World → Prop} {R : Act → Prop} {a : Act} {w : World} {rest : List Oper} {o : Oper}

/-! ### slices over an array variable -/
theorem run_arr_from (x lo : Operand) (t : TypeId) (ho : o.op = .slice t x (some lo) none none) {e : TypeId} {n : Nat} (ht : P.underlying t = some (.array n e)) (hi : (P.info? e).map (·.size) = some 1)
    {B f : Nat} (hx : a.eval x = .pointer (some ⟨B, f, none⟩)) (L : Nat) (hlo : IsI (a.eval lo) (L : Int)) (hL : L < n) (w : World) :
    (execOp a.eval o).run P w = .ok (.value (.slice (some ⟨B, f + L, none⟩) (n - L) (n - L))) w := by
  obtain ⟨kl, hlo⟩ := isI hlo
  obtain ⟨ti, hti, hsz⟩ := Option.map_eq_some_iff.1 hi
  have h1 : L ≤ n := by omega
  have h2 : ¬ n = L := by omega
  unfold execOp
  simp [ho, Instr.sliceAt, hx, hlo, Instr.sureAddr, run_underlying ht, Instr.sliceBounds, Instr.sliceBound, asIntOf, sizeOf, typeInfo, hti, hsz, h1, h2, Addr.add_lit]
theorem run_arr_to (x hi : Operand) (t : TypeId) (ho : o.op = .slice t x none (some hi) none) {e : TypeId} {n : Nat} (ht : P.underlying t = some (.array n e)) (hsz : (P.info? e).map (·.size) = some 1)
    {B f : Nat} (hx : a.eval x = .pointer (some ⟨B, f, none⟩)) (H : Nat) (hhi : IsI (a.eval hi) (H : Int)) (hH : H ≤ n) (w : World) :
    (execOp a.eval o).run P w = .ok (.value (.slice (some ⟨B, f, none⟩) H n)) w := by
  obtain ⟨kl, hhi⟩ := isI hhi
  obtain ⟨ti, hti, _⟩ := Option.map_eq_some_iff.1 hsz
  unfold execOp
  simp [ho, Instr.sliceAt, hx, hhi, Instr.sureAddr, run_underlying ht, Instr.sliceBounds, Instr.sliceBound, asIntOf, sizeOf, typeInfo, hti, hH, Addr.add_lit]
theorem run_arr_all (x : Operand) (t : TypeId) (ho : o.op = .slice t x none none none) {e : TypeId} {n : Nat} (ht : P.underlying t = some (.array n e)) (hi : (P.info? e).map (·.size) = some 1)
    {B f : Nat} (hx : a.eval x = .pointer (some ⟨B, f, none⟩)) (w : World) :
    (execOp a.eval o).run P w = .ok (.value (.slice (some ⟨B, f, none⟩) n n)) w := by
  obtain ⟨ti, hti, hsz⟩ := Option.map_eq_some_iff.1 hi
  unfold execOp
  simp [ho, Instr.sliceAt, hx, Instr.sureAddr, run_underlying ht, Instr.sliceBounds, sizeOf, typeInfo, hti, Addr.add_lit]
theorem wpList_arr_from (x lo : Operand) (t : TypeId) (ho : o.op = .slice t x (some lo) none none) (hw : Region.wanted o (yielded ops a.tmps) = true) {e : TypeId} {n : Nat} (ht : P.underlying t = some (.array n e)) (hi : (P.info? e).map (·.size) = some 1)
    {B f : Nat} (hx : a.eval x = .pointer (some ⟨B, f, none⟩)) (L : Nat) (hlo : IsI (a.eval lo) (L : Int)) (hL : L < n)
    (h : wpList P ops Q rest (a.put o.dst (.slice (some ⟨B, f + L, none⟩) (n - L) (n - L))) w) : wpList P ops Q (o :: rest) a w := wpList_of_run hw (run_arr_from x lo t ho ht hi hx L hlo hL w) h
theorem wpQuiet_arr_from (x lo : Operand) (t : TypeId) (ho : o.op = .slice t x (some lo) none none) (hw : Region.wanted o (yielded ops a.tmps) = true) {e : TypeId} {n : Nat} (ht : P.underlying t = some (.array n e)) (hi : (P.info? e).map (·.size) = some 1)
    {B f : Nat} (hx : a.eval x = .pointer (some ⟨B, f, none⟩)) (L : Nat) (hlo : IsI (a.eval lo) (L : Int)) (hL : L < n)
    (h : wpQuiet P ops C R rest (a.put o.dst (.slice (some ⟨B, f + L, none⟩) (n - L) (n - L)))) : wpQuiet P ops C R (o :: rest) a := wpQuiet_of_run hw (fun w _ => run_arr_from x lo t ho ht hi hx L hlo hL w) h
theorem wpList_arr_to (x hi : Operand) (t : TypeId) (ho : o.op = .slice t x none (some hi) none) (hw : Region.wanted o (yielded ops a.tmps) = true) {e : TypeId} {n : Nat} (ht : P.underlying t = some (.array n e)) (hsz : (P.info? e).map (·.size) = some 1)
    {B f : Nat} (hx : a.eval x = .pointer (some ⟨B, f, none⟩)) (H : Nat) (hhi : IsI (a.eval hi) (H : Int)) (hH : H ≤ n)
    (h : wpList P ops Q rest (a.put o.dst (.slice (some ⟨B, f, none⟩) H n)) w) : wpList P ops Q (o :: rest) a w := wpList_of_run hw (run_arr_to x hi t ho ht hsz hx H hhi hH w) h
theorem wpQuiet_arr_to (x hi : Operand) (t : TypeId) (ho : o.op = .slice t x none (some hi) none) (hw : Region.wanted o (yielded ops a.tmps) = true) {e : TypeId} {n : Nat} (ht : P.underlying t = some (.array n e)) (hsz : (P.info? e).map (·.size) = some 1)
    {B f : Nat} (hx : a.eval x = .pointer (some ⟨B, f, none⟩)) (H : Nat) (hhi : IsI (a.eval hi) (H : Int)) (hH : H ≤ n)
    (h : wpQuiet P ops C R rest (a.put o.dst (.slice (some ⟨B, f, none⟩) H n))) : wpQuiet P ops C R (o :: rest) a := wpQuiet_of_run hw (fun w _ => run_arr_to x hi t ho ht hsz hx H hhi hH w) h
theorem wpList_arr_all (x : Operand) (t : TypeId) (ho : o.op = .slice t x none none none) (hw : Region.wanted o (yielded ops a.tmps) = true) {e : TypeId} {n : Nat} (ht : P.underlying t = some (.array n e)) (hi : (P.info? e).map (·.size) = some 1)
    {B f : Nat} (hx : a.eval x = .pointer (some ⟨B, f, none⟩))
    (h : wpList P ops Q rest (a.put o.dst (.slice (some ⟨B, f, none⟩) n n)) w) : wpList P ops Q (o :: rest) a w := wpList_of_run hw (run_arr_all x t ho ht hi hx w) h
theorem wpQuiet_arr_all (x : Operand) (t : TypeId) (ho : o.op = .slice t x none none none) (hw : Region.wanted o (yielded ops a.tmps) = true) {e : TypeId} {n : Nat} (ht : P.underlying t = some (.array n e)) (hi : (P.info? e).map (·.size) = some 1)
    {B f : Nat} (hx : a.eval x = .pointer (some ⟨B, f, none⟩))
    (h : wpQuiet P ops C R rest (a.put o.dst (.slice (some ⟨B, f, none⟩) n n))) : wpQuiet P ops C R (o :: rest) a := wpQuiet_of_run hw (fun w _ => run_arr_all x t ho ht hi hx w) h

/-- '(*[m]T)(b)', the slice known by its place -/
theorem run_arr_ptr (x : Operand) (t : TypeId) (ho : o.op = .sliceToArrayPointer t x) {e : TypeId} {m : Nat} (ht : P.underlying t = some (.array m e)) {ad : Addr} {n cap : Nat} (hx : a.eval x = .slice (some ad) n cap) (hm : m ≤ n) (w : World) :
    (execOp a.eval o).run P w = .ok (.value (.pointer (some ad))) w := by
  have : ¬ n < m := by omega
  unfold execOp
  simp [ho, Instr.arrayAt, hx, run_underlying ht, this]
theorem wpQuiet_arrptr (x : Operand) (t : TypeId) (ho : o.op = .sliceToArrayPointer t x) (hw : Region.wanted o (yielded ops a.tmps) = true) {e : TypeId} {m : Nat} (ht : P.underlying t = some (.array m e)) {ad : Addr} {n cap : Nat} (hx : a.eval x = .slice (some ad) n cap) (hm : m ≤ n)
    (h : wpQuiet P ops C R rest (a.put o.dst (.pointer (some ad)))) : wpQuiet P ops C R (o :: rest) a := wpQuiet_of_run hw (fun w _ => run_arr_ptr x t ho ht hx hm w) h

/-! ### a part of a block, whole -/
def isAggD (d : TypeDesc) : Bool := match d with | .struct _ | .array _ _ => true | _ => false
theorem run_load_part (p : Operand) (t : TypeId) (ho : o.op = .load t p) {d : TypeDesc} (hd : P.underlying t = some d) (ha : isAggD d = true) {s : Nat} (hsz : (P.info? t).map (·.size) = some s)
    {B f : Nat} {t' : TypeId} {cs : List Value} (hx : a.eval p = .pointer (some ⟨B, f, none⟩)) (hb : Blk w B t' cs) (hk : f + s ≤ cs.length) :
    (execOp a.eval o).run P w = .ok (.value (.agg ((cs.drop f).take s).toArray)) w := by
  obtain ⟨ti, hti, rfl⟩ := Option.map_eq_some_iff.1 hsz
  have hlen : ((cs.drop f).take ti.size).length = ti.size := by rw [List.length_take, List.length_drop]; omega
  have hl := run_loadCells_list (P := P) w (⟨B, f, none⟩ : Addr) ((cs.drop f).take ti.size) (fun j u hu => by
    rw [List.getElem?_take] at hu
    split at hu
    · rw [List.getElem?_drop] at hu
      rw [Addr.add_lit]
      exact hb.cell hu
    · cases hu)
  rw [hlen] at hl
  have hagg : (isAgg t).run P w = .ok true w := by
    unfold isAgg
    simp only [Sem.run_bind, run_underlying hd, Result.andThen]
    cases d <;> simp_all [isAggD]
  have hsize : (sizeOf t).run P w = .ok ti.size w := by simp [sizeOf, typeInfo, hti]
  unfold execOp
  simp [ho, Instr.loadAt, hx, Instr.sureAddr, loadVar, hagg, hsize, hl]
theorem wpList_load_part (p : Operand) (t : TypeId) (ho : o.op = .load t p) (hw : Region.wanted o (yielded ops a.tmps) = true) {d : TypeDesc} (hd : P.underlying t = some d) (ha : isAggD d = true) {s : Nat} (hsz : (P.info? t).map (·.size) = some s)
    {B f : Nat} {t' : TypeId} {cs : List Value} (hx : a.eval p = .pointer (some ⟨B, f, none⟩)) (hb : Blk w B t' cs) (hk : f + s ≤ cs.length) {cp : List Value} (hcs : (cs.drop f).take s = cp)
    (h : wpList P ops Q rest (a.put o.dst (.agg cp.toArray)) w) : wpList P ops Q (o :: rest) a w := by
  subst hcs; exact wpList_of_run hw (run_load_part p t ho hd ha hsz hx hb hk) h
theorem wpQuiet_load_part {w0 : World} (hC : ∀ w, C w → ∃ n, w = w0.drewN n) (p : Operand) (t : TypeId) (ho : o.op = .load t p) (hw : Region.wanted o (yielded ops a.tmps) = true) {d : TypeDesc} (hd : P.underlying t = some d) (ha : isAggD d = true) {s : Nat} (hsz : (P.info? t).map (·.size) = some s)
    {B f : Nat} {t' : TypeId} {cs : List Value} (hx : a.eval p = .pointer (some ⟨B, f, none⟩)) (hb : Blk w0 B t' cs) (hk : f + s ≤ cs.length) {cp : List Value} (hcs : (cs.drop f).take s = cp)
    (h : wpQuiet P ops C R rest (a.put o.dst (.agg cp.toArray))) : wpQuiet P ops C R (o :: rest) a := by
  subst hcs
  exact wpQuiet_of_run hw (fun w hc => by obtain ⟨m', rfl⟩ := hC w hc; exact run_load_part p t ho hd ha hsz hx (hb.drewN m') hk) h

/-- the cells with others put in -/
def put (cs : List Value) (f : Nat) (xs : List Value) : List Value := cs.take f ++ xs ++ cs.drop (f + xs.length)
theorem put_len {cs xs : List Value} {f : Nat} (h : f + xs.length ≤ cs.length) : (put cs f xs).length = cs.length := by
  unfold put
  rw [List.length_append, List.length_append, List.length_take, List.length_drop]; omega
theorem setRow_blk {B : Nat} {t : TypeId} {cs : List Value} (hb : Blk w B t cs) (cs' : List Value) : Blk (w.setRow B cs'.toArray) B t cs' := setRow_heap w B _ _ t _ hb

/-- a store of a whole array (or struct) into a part of a block -/
theorem wpList_store_part (ty : TypeId) (x y : Operand) (ho : o.op = .store ty x y) (hw : Region.wanted o (yielded ops a.tmps) = true) {B f : Nat} {t : TypeId} {old cs : List Value} (hx : a.eval x = .pointer (some ⟨B, f, none⟩)) (hy : a.eval y = .agg cs.toArray)
    (hb : Blk w B t old) {s : Nat} (hi : (P.info? ty).map (·.size) = some s) (hs : cs.length = s) (hl : f + s ≤ old.length) (h1 : ∀ u ∈ cs, u.oneCell' = true)
    (h : ∀ w', Blk w' B t (put old f cs) → Only B w w' → w'.heap.size = w.heap.size → wpList P ops Q rest (a.put o.dst undef) w') : wpList P ops Q (o :: rest) a w := by
  subst hs
  obtain ⟨ti, hti, hsz⟩ := Option.map_eq_some_iff.1 hi
  have hst := run_storeCells_at P B f t cs 0 old.toArray w hb (by simpa using hl) h1
  simp only [Nat.add_zero] at hst
  refine BigFrame.wpList_want hw fun K hK => ?_
  have hh := h (w.setRow B (put old f cs).toArray) (setRow_blk hb _) (setRow_only B _) (by simp [World.setRow])
  have hrun : (storeVar ty ⟨B, f, none⟩ (.agg cs.toArray)).run P w = .ok () (w.setRow B (put old f cs).toArray) := by
    unfold storeVar
    simp [sizeOf, typeInfo, hti, hsz, Value.cells, hst, put]
  unfold Oper.wp execOp
  simp only [ho, hx, hy, Instr.storeAt, Instr.sureAddr, Sem.run_bind, Sem.run_pure, Result.andThen_ok, hrun]
  exact hK _ _ hh

/-- 'copy(b, s)', b a slice over a part of a block: as much of s as fits -/
theorem wpList_copy_str (x y : Operand) (dT sT : TypeId) (ho : o.op = .call { callee := .builtin .copy, args := #[x, y], argTypes := #[dT, sT] }) (hw : Region.wanted o (yielded ops a.tmps) = true) {e : TypeId} (hu : P.underlying dT = some (.slice e)) (hi : (P.info? e).map (·.size) = some 1)
    {B f n cap : Nat} {t : TypeId} {old : List Value} {s : List UInt8} (hx : a.eval x = .slice (some ⟨B, f, none⟩) n cap) (hy : a.eval y = .string ⟨s.toArray⟩) (hb : Blk w B t old) (hl : f + n ≤ old.length) {k : Nat} (hmin : min s.length n = k)
    (h : ∀ w', Blk w' B t (put old f (bv (s.take n))) → Only B w w' → w'.heap.size = w.heap.size → wpList P ops Q rest (a.put o.dst (.int .i64 (k : Int))) w') : wpList P ops Q (o :: rest) a w := by
  subst hmin
  obtain ⟨ti, hti, hsz⟩ := Option.map_eq_some_iff.1 hi
  have hst := run_storeCells_at P B f t (bv (s.take n)) 0 old.toArray w hb (by rw [bv_length, List.length_take]; simp; omega) (bv_one _)
  simp only [Nat.add_zero] at hst
  have hh := h (w.setRow B (put old f (bv (s.take n))).toArray) (setRow_blk hb _) (setRow_only B _) (by simp [World.setRow])
  refine wpList_of_run hw (v := .int .i64 (min s.length n : Nat)) (w' := w.setRow B (put old f (bv (s.take n))).toArray) ?_ hh
  have hcells : List.take (if s.length ≤ n then s.length else n) (List.map (fun b : UInt8 => Value.int IntKind.u8 (b.toNat : Int)) s) = bv (s.take n) := by
    unfold bv
    rw [← List.map_take]
    congr 1
    split
    · rename_i h1
      rw [List.take_of_length_le (Nat.le_refl _), List.take_of_length_le h1]
    · rfl
  have hsize : (ByteArray.mk s.toArray).size = s.length := by simp [ByteArray.size]
  unfold execOp
  simp only [ho, resolve, invoke, builtin, Sem.run_bind, Sem.run_pure, Result.andThen_ok, List.map_toArray, List.map_cons, List.map_nil, hx, hy]
  unfold Builtin.copy_
  simp only [List.getElem?_toArray, List.getElem?_cons_zero, List.getElem?_cons_succ, Sem.run_bind, run_underlying hu, Result.andThen_ok, Builtin.lenOf, Sem.run_pure, hsize, Builtin.firstCells, sizeOf, typeInfo]
  simp only [Nat.min_def]
  simp [goInt, put, hti]
  rw [hcells, hst]
  simp [Result.andThen]

/-- 'x[i]', x an array by value -/
theorem wpList_index_agg (x i : Operand) (t : TypeId) (ho : o.op = .index t x i) (hw : Region.wanted o (yielded ops a.tmps) = true) {e : TypeId} {n : Nat} (ht : P.underlying t = some (.array n e)) {d : TypeDesc} (he : P.underlying e = some d) (hd : isAggD d = false) (hi : (P.info? e).map (·.size) = some 1)
    {cs : List Value} (hx : a.eval x = .agg cs.toArray) (k : Nat) (hix : IsI (a.eval i) (k : Int)) (hk : k < n) {u : Value} (hu : cs[k]? = some u)
    (h : wpList P ops Q rest (a.put o.dst u) w) : wpList P ops Q (o :: rest) a w := by
  obtain ⟨kd, hix⟩ := isI hix
  obtain ⟨ti, hti, hsz⟩ := Option.map_eq_some_iff.1 hi
  refine wpList_of_run hw (v := u) (w' := w) ?_ h
  have hagg : (isAgg e).run P w = .ok false w := by
    unfold isAgg
    simp only [Sem.run_bind, run_underlying he, Result.andThen]
    cases d <;> simp_all [isAggD]
  have hu' : cs.toArray[k]? = some u := by simpa using hu
  unfold execOp
  simp [ho, Instr.index, hx, hix, asIntOf, run_underlying ht, sizeOf, typeInfo, hti, hsz, hk, part, hagg, hu]

/-- an array (or struct) that is boxed -/
theorem wpList_boxa (t : TypeId) (x : Operand) (ho : o.op = .box t x) (hw : Region.wanted o (yielded ops a.tmps) = true) {cs : List Value} (hx : a.eval x = .agg cs.toArray)
    (h : ∀ w', Blk w' w.heap.size t cs → Below w.heap.size w w' → w'.heap.size = w.heap.size + 1 → wpList P ops Q rest (a.put o.dst (.pointer (some ⟨w.heap.size, 0, none⟩))) w') : wpList P ops Q (o :: rest) a w := by
  refine wpList_of_run hw (v := .pointer (some ⟨w.heap.size, 0, none⟩)) (w' := w.alloc (.cells cs.toArray t)) ?_ (h _ (heap_alloc_new w _) ((Below.refl _ _).alloc (Nat.le_refl _) _) (by simp))
  unfold execOp
  simp [ho, hx, Instr.box, newVar, newRow, Value.cells]

/-! ### a package-level array -/
/-- block g holds these cells -/
def Tb (w : World) (g : Nat) (cs : List Value) : Prop := ∀ (j : Nat) (u : Value), cs[j]? = some u → w.cell? ⟨g, j, none⟩ = some u
theorem Tb.below {w w' : World} {g : Nat} {cs : List Value} (h : Tb w g cs) (hb : Below w.heap.size w w') : Tb w' g cs := fun j u hu => by
  have hc := h j u hu
  exact (hb.cell (World.block_lt_of_cell? _ _ hc)).trans hc
theorem Tb.drewN {w : World} {g : Nat} {cs : List Value} (h : Tb w g cs) (n : Nat) : Tb (w.drewN n) g cs := h
theorem Tb.drew {w : World} {g : Nat} {cs : List Value} (h : Tb w g cs) : Tb w.drew g cs := h
theorem wpList_load_tab (p : Operand) (t : TypeId) (ho : o.op = .load t p) (hw : Region.wanted o (yielded ops a.tmps) = true) {d : TypeDesc} (hd : P.underlying t = some d) (ha : isAggD d = true) {cs : List Value} (hsz : (P.info? t).map (·.size) = some cs.length)
    {g : Nat} (hx : a.eval p = .pointer (some ⟨g, 0, none⟩)) (hb : Tb w g cs)
    (h : wpList P ops Q rest (a.put o.dst (.agg cs.toArray)) w) : wpList P ops Q (o :: rest) a w := by
  obtain ⟨ti, hti, hs⟩ := Option.map_eq_some_iff.1 hsz
  have hl := run_loadCells_list (P := P) w (⟨g, 0, none⟩ : Addr) cs (fun j u hu => by rw [Addr.add_lit, Nat.zero_add]; exact hb j u hu)
  have hagg : (isAgg t).run P w = .ok true w := by
    unfold isAgg
    simp only [Sem.run_bind, run_underlying hd, Result.andThen]
    cases d <;> simp_all [isAggD]
  refine wpList_of_run hw (v := .agg cs.toArray) (w' := w) ?_ h
  unfold execOp
  simp [ho, Instr.loadAt, hx, Instr.sureAddr, loadVar, hagg, sizeOf, typeInfo, hti, hs, hl]
theorem wpQuiet_load_tb {w0 : World} (hC : ∀ w, C w → ∃ n, w = w0.drewN n) (p : Operand) (t : TypeId) (ho : o.op = .load t p) (hw : Region.wanted o (yielded ops a.tmps) = true)
    (hload : ∀ (ad : Addr) (u : Value) (w : World), w.cell? ad = some u → (loadVar t ad).run P w = .ok u w) {g k : Nat} {cs : List Value} {u : Value} (hx : a.eval p = .pointer (some ⟨g, k, none⟩)) (hb : Tb w0 g cs) (hk : cs[k]? = some u)
    (h : wpQuiet P ops C R rest (a.put o.dst u)) : wpQuiet P ops C R (o :: rest) a := by
  refine wpQuiet_of_run hw (fun w hc => ?_) h
  obtain ⟨m, rfl⟩ := hC w hc
  have := hload ⟨g, k, none⟩ u (w0.drewN m) ((hb.drewN m) k u hk)
  unfold execOp
  simp [ho, Instr.loadAt, hx, Instr.sureAddr, this]
end
end Go.Proofs.YtomjniijnpnehaaDoor.Lb
