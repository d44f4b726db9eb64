/-
  Hl, Tr, Tl, Int, Tsz, Tcp, Tcf: my texts of these names, one behind the other. Conditions: those that each law names.
-/
import Derived.Test.YtdlhkhnoigbhjaaDoorMa
import Derived.Laws.CopyRow
import Derived.Test.YtdlhkhnoigbhjaaDoorProg
import Derived.Deep.DeepCutAuto
import Derived.Deep.CutBlock
import Derived.Lib.Hide
namespace Go.Proofs.YtdlhkhnoigbhjaaDoor.Lb
open Go Go.RowKit Go.Lib

section
variable {P : Program} {ops : Array Oper} {Q : Exit → Act → World → Prop} {C : World → Prop} {R : Act → Prop} {a : Act} {w : World} {rest : List Oper} {o : Oper}

/-! ### slices over an array variable -/
theorem run_arr_from (x lo : Operand) (t : TypeId) (ho : o.op = .slice t x (some lo) none none) {e : TypeId} {n : Nat} (ht : P.underlying t = some (.array n e)) (hi : (P.info? e).map (·.size) = some 1)
    {B f : Nat} (hx : a.eval x = .pointer (some ⟨B, f, none⟩)) (L : Nat) (hlo : IsI (a.eval lo) (L : Int)) (hL : L < n) (w : World) :
    (execOp a.eval o).run P w = .ok (.value (.slice (some ⟨B, f + L, none⟩) (n - L) (n - L))) w := by
  obtain ⟨kl, hlo⟩ := isI hlo
  obtain ⟨ti, hti, hsz⟩ := Option.map_eq_some_iff.1 hi
  have h1 : L ≤ n := by omega
  have h2 : ¬ n = L := by omega
  unfold execOp
  simp [ho, Instr.sliceAt, hx, hlo, Instr.sureAddr, run_underlying ht, Instr.sliceBounds, Instr.sliceBound, asIntOf, sizeOf, typeInfo, hti, hsz, h1, h2, Addr.add_lit]
theorem run_arr_to (x hi : Operand) (t : TypeId) (ho : o.op = .slice t x none (some hi) none) {e : TypeId} {n : Nat} (ht : P.underlying t = some (.array n e)) (hsz : (P.info? e).map (·.size) = some 1)
    {B f : Nat} (hx : a.eval x = .pointer (some ⟨B, f, none⟩)) (H : Nat) (hhi : IsI (a.eval hi) (H : Int)) (hH : H ≤ n) (w : World) :
    (execOp a.eval o).run P w = .ok (.value (.slice (some ⟨B, f, none⟩) H n)) w := by
  obtain ⟨kl, hhi⟩ := isI hhi
  obtain ⟨ti, hti, _⟩ := Option.map_eq_some_iff.1 hsz
  unfold execOp
  simp [ho, Instr.sliceAt, hx, hhi, Instr.sureAddr, run_underlying ht, Instr.sliceBounds, Instr.sliceBound, asIntOf, sizeOf, typeInfo, hti, hH, Addr.add_lit]
theorem run_arr_all (x : Operand) (t : TypeId) (ho : o.op = .slice t x none none none) {e : TypeId} {n : Nat} (ht : P.underlying t = some (.array n e)) (hi : (P.info? e).map (·.size) = some 1)
    {B f : Nat} (hx : a.eval x = .pointer (some ⟨B, f, none⟩)) (w : World) :
    (execOp a.eval o).run P w = .ok (.value (.slice (some ⟨B, f, none⟩) n n)) w := by
  obtain ⟨ti, hti, hsz⟩ := Option.map_eq_some_iff.1 hi
  unfold execOp
  simp [ho, Instr.sliceAt, hx, Instr.sureAddr, run_underlying ht, Instr.sliceBounds, sizeOf, typeInfo, hti, Addr.add_lit]
theorem wpList_arr_from (x lo : Operand) (t : TypeId) (ho : o.op = .slice t x (some lo) none none) (hw : Region.wanted o (yielded ops a.tmps) = true) {e : TypeId} {n : Nat} (ht : P.underlying t = some (.array n e)) (hi : (P.info? e).map (·.size) = some 1)
    {B f : Nat} (hx : a.eval x = .pointer (some ⟨B, f, none⟩)) (L : Nat) (hlo : IsI (a.eval lo) (L : Int)) (hL : L < n)
    (h : wpList P ops Q rest (a.put o.dst (.slice (some ⟨B, f + L, none⟩) (n - L) (n - L))) w) : wpList P ops Q (o :: rest) a w := wpList_of_run hw (run_arr_from x lo t ho ht hi hx L hlo hL w) h
theorem wpQuiet_arr_from (x lo : Operand) (t : TypeId) (ho : o.op = .slice t x (some lo) none none) (hw : Region.wanted o (yielded ops a.tmps) = true) {e : TypeId} {n : Nat} (ht : P.underlying t = some (.array n e)) (hi : (P.info? e).map (·.size) = some 1)
    {B f : Nat} (hx : a.eval x = .pointer (some ⟨B, f, none⟩)) (L : Nat) (hlo : IsI (a.eval lo) (L : Int)) (hL : L < n)
    (h : wpQuiet P ops C R rest (a.put o.dst (.slice (some ⟨B, f + L, none⟩) (n - L) (n - L)))) : wpQuiet P ops C R (o :: rest) a := wpQuiet_of_run hw (fun w _ => run_arr_from x lo t ho ht hi hx L hlo hL w) h
theorem wpList_arr_to (x hi : Operand) (t : TypeId) (ho : o.op = .slice t x none (some hi) none) (hw : Region.wanted o (yielded ops a.tmps) = true) {e : TypeId} {n : Nat} (ht : P.underlying t = some (.array n e)) (hsz : (P.info? e).map (·.size) = some 1)
    {B f : Nat} (hx : a.eval x = .pointer (some ⟨B, f, none⟩)) (H : Nat) (hhi : IsI (a.eval hi) (H : Int)) (hH : H ≤ n)
    (h : wpList P ops Q rest (a.put o.dst (.slice (some ⟨B, f, none⟩) H n)) w) : wpList P ops Q (o :: rest) a w := wpList_of_run hw (run_arr_to x hi t ho ht hsz hx H hhi hH w) h
theorem wpQuiet_arr_to (x hi : Operand) (t : TypeId) (ho : o.op = .slice t x none (some hi) none) (hw : Region.wanted o (yielded ops a.tmps) = true) {e : TypeId} {n : Nat} (ht : P.underlying t = some (.array n e)) (hsz : (P.info? e).map (·.size) = some 1)
    {B f : Nat} (hx : a.eval x = .pointer (some ⟨B, f, none⟩)) (H : Nat) (hhi : IsI (a.eval hi) (H : Int)) (hH : H ≤ n)
    (h : wpQuiet P ops C R rest (a.put o.dst (.slice (some ⟨B, f, none⟩) H n))) : wpQuiet P ops C R (o :: rest) a := wpQuiet_of_run hw (fun w _ => run_arr_to x hi t ho ht hsz hx H hhi hH w) h
theorem wpList_arr_all (x : Operand) (t : TypeId) (ho : o.op = .slice t x none none none) (hw : Region.wanted o (yielded ops a.tmps) = true) {e : TypeId} {n : Nat} (ht : P.underlying t = some (.array n e)) (hi : (P.info? e).map (·.size) = some 1)
    {B f : Nat} (hx : a.eval x = .pointer (some ⟨B, f, none⟩))
    (h : wpList P ops Q rest (a.put o.dst (.slice (some ⟨B, f, none⟩) n n)) w) : wpList P ops Q (o :: rest) a w := wpList_of_run hw (run_arr_all x t ho ht hi hx w) h
theorem wpQuiet_arr_all (x : Operand) (t : TypeId) (ho : o.op = .slice t x none none none) (hw : Region.wanted o (yielded ops a.tmps) = true) {e : TypeId} {n : Nat} (ht : P.underlying t = some (.array n e)) (hi : (P.info? e).map (·.size) = some 1)
    {B f : Nat} (hx : a.eval x = .pointer (some ⟨B, f, none⟩))
    (h : wpQuiet P ops C R rest (a.put o.dst (.slice (some ⟨B, f, none⟩) n n))) : wpQuiet P ops C R (o :: rest) a := wpQuiet_of_run hw (fun w _ => run_arr_all x t ho ht hi hx w) h

/-- '(*[m]T)(b)', the slice known by its place -/
theorem run_arr_ptr (x : Operand) (t : TypeId) (ho : o.op = .sliceToArrayPointer t x) {e : TypeId} {m : Nat} (ht : P.underlying t = some (.array m e)) {ad : Addr} {n cap : Nat} (hx : a.eval x = .slice (some ad) n cap) (hm : m ≤ n) (w : World) :
    (execOp a.eval o).run P w = .ok (.value (.pointer (some ad))) w := by
  have : ¬ n < m := by omega
  unfold execOp
  simp [ho, Instr.arrayAt, hx, run_underlying ht, this]
theorem wpQuiet_arrptr (x : Operand) (t : TypeId) (ho : o.op = .sliceToArrayPointer t x) (hw : Region.wanted o (yielded ops a.tmps) = true) {e : TypeId} {m : Nat} (ht : P.underlying t = some (.array m e)) {ad : Addr} {n cap : Nat} (hx : a.eval x = .slice (some ad) n cap) (hm : m ≤ n)
    (h : wpQuiet P ops C R rest (a.put o.dst (.pointer (some ad)))) : wpQuiet P ops C R (o :: rest) a := wpQuiet_of_run hw (fun w _ => run_arr_ptr x t ho ht hx hm w) h

/-! ### a part of a block, whole -/
def isAggD (d : TypeDesc) : Bool := match d with | .struct _ | .array _ _ => true | _ => false
theorem run_load_part (p : Operand) (t : TypeId) (ho : o.op = .load t p) {d : TypeDesc} (hd : P.underlying t = some d) (ha : isAggD d = true) {s : Nat} (hsz : (P.info? t).map (·.size) = some s)
    {B f : Nat} {t' : TypeId} {cs : List Value} (hx : a.eval p = .pointer (some ⟨B, f, none⟩)) (hb : Blk w B t' cs) (hk : f + s ≤ cs.length) :
    (execOp a.eval o).run P w = .ok (.value (.agg ((cs.drop f).take s).toArray)) w := by
  obtain ⟨ti, hti, rfl⟩ := Option.map_eq_some_iff.1 hsz
  have hlen : ((cs.drop f).take ti.size).length = ti.size := by rw [List.length_take, List.length_drop]; omega
  have hl := run_loadCells_list (P := P) w (⟨B, f, none⟩ : Addr) ((cs.drop f).take ti.size) (fun j u hu => by
    rw [List.getElem?_take] at hu
    split at hu
    · rw [List.getElem?_drop] at hu
      rw [Addr.add_lit]
      exact hb.cell hu
    · cases hu)
  rw [hlen] at hl
  have hagg : (isAgg t).run P w = .ok true w := by
    unfold isAgg
    simp only [Sem.run_bind, run_underlying hd, Result.andThen]
    cases d <;> simp_all [isAggD]
  have hsize : (sizeOf t).run P w = .ok ti.size w := by simp [sizeOf, typeInfo, hti]
  unfold execOp
  simp [ho, Instr.loadAt, hx, Instr.sureAddr, loadVar, hagg, hsize, hl]
theorem wpList_load_part (p : Operand) (t : TypeId) (ho : o.op = .load t p) (hw : Region.wanted o (yielded ops a.tmps) = true) {d : TypeDesc} (hd : P.underlying t = some d) (ha : isAggD d = true) {s : Nat} (hsz : (P.info? t).map (·.size) = some s)
    {B f : Nat} {t' : TypeId} {cs : List Value} (hx : a.eval p = .pointer (some ⟨B, f, none⟩)) (hb : Blk w B t' cs) (hk : f + s ≤ cs.length) {cp : List Value} (hcs : (cs.drop f).take s = cp)
    (h : wpList P ops Q rest (a.put o.dst (.agg cp.toArray)) w) : wpList P ops Q (o :: rest) a w := by
  subst hcs; exact wpList_of_run hw (run_load_part p t ho hd ha hsz hx hb hk) h
theorem wpQuiet_load_part {w0 : World} (hC : ∀ w, C w → ∃ n, w = w0.drewN n) (p : Operand) (t : TypeId) (ho : o.op = .load t p) (hw : Region.wanted o (yielded ops a.tmps) = true) {d : TypeDesc} (hd : P.underlying t = some d) (ha : isAggD d = true) {s : Nat} (hsz : (P.info? t).map (·.size) = some s)
    {B f : Nat} {t' : TypeId} {cs : List Value} (hx : a.eval p = .pointer (some ⟨B, f, none⟩)) (hb : Blk w0 B t' cs) (hk : f + s ≤ cs.length) {cp : List Value} (hcs : (cs.drop f).take s = cp)
    (h : wpQuiet P ops C R rest (a.put o.dst (.agg cp.toArray))) : wpQuiet P ops C R (o :: rest) a := by
  subst hcs
  exact wpQuiet_of_run hw (fun w hc => by obtain ⟨m', rfl⟩ := hC w hc; exact run_load_part p t ho hd ha hsz hx (hb.drewN m') hk) h

/-- the cells with others put in -/
def put (cs : List Value) (f : Nat) (xs : List Value) : List Value := cs.take f ++ xs ++ cs.drop (f + xs.length)
theorem put_len {cs xs : List Value} {f : Nat} (h : f + xs.length ≤ cs.length) : (put cs f xs).length = cs.length := by
  unfold put
  rw [List.length_append, List.length_append, List.length_take, List.length_drop]; omega
theorem setRow_blk {B : Nat} {t : TypeId} {cs : List Value} (hb : Blk w B t cs) (cs' : List Value) : Blk (w.setRow B cs'.toArray) B t cs' := setRow_heap w B _ _ t _ hb

/-- a store of a whole array (or struct) into a part of a block -/
theorem wpList_store_part (ty : TypeId) (x y : Operand) (ho : o.op = .store ty x y) (hw : Region.wanted o (yielded ops a.tmps) = true) {B f : Nat} {t : TypeId} {old cs : List Value} (hx : a.eval x = .pointer (some ⟨B, f, none⟩)) (hy : a.eval y = .agg cs.toArray)
    (hb : Blk w B t old) {s : Nat} (hi : (P.info? ty).map (·.size) = some s) (hs : cs.length = s) (hl : f + s ≤ old.length) (h1 : ∀ u ∈ cs, u.oneCell' = true)
    (h : ∀ w', Blk w' B t (put old f cs) → Only B w w' → w'.heap.size = w.heap.size → wpList P ops Q rest (a.put o.dst undef) w') : wpList P ops Q (o :: rest) a w := by
  subst hs
  obtain ⟨ti, hti, hsz⟩ := Option.map_eq_some_iff.1 hi
  have hst := run_storeCells_at P B f t cs 0 old.toArray w hb (by simpa using hl) h1
  simp only [Nat.add_zero] at hst
  refine BigFrame.wpList_want hw fun K hK => ?_
  have hh := h (w.setRow B (put old f cs).toArray) (setRow_blk hb _) (setRow_only B _) (by simp [World.setRow])
  have hrun : (storeVar ty ⟨B, f, none⟩ (.agg cs.toArray)).run P w = .ok () (w.setRow B (put old f cs).toArray) := by
    unfold storeVar
    simp [sizeOf, typeInfo, hti, hsz, Value.cells, hst, put]
  unfold Oper.wp execOp
  simp only [ho, hx, hy, Instr.storeAt, Instr.sureAddr, Sem.run_bind, Sem.run_pure, Result.andThen_ok, hrun]
  exact hK _ _ hh

/-- 'copy(b, s)', b a slice over a part of a block: as much of s as fits -/
theorem wpList_copy_str (x y : Operand) (dT sT : TypeId) (ho : o.op = .call { callee := .builtin .copy, args := #[x, y], argTypes := #[dT, sT] }) (hw : Region.wanted o (yielded ops a.tmps) = true) {e : TypeId} (hu : P.underlying dT = some (.slice e)) (hi : (P.info? e).map (·.size) = some 1)
    {B f n cap : Nat} {t : TypeId} {old : List Value} {s : List UInt8} (hx : a.eval x = .slice (some ⟨B, f, none⟩) n cap) (hy : a.eval y = .string ⟨s.toArray⟩) (hb : Blk w B t old) (hl : f + n ≤ old.length) {k : Nat} (hmin : min s.length n = k)
    (h : ∀ w', Blk w' B t (put old f (bv (s.take n))) → Only B w w' → w'.heap.size = w.heap.size → wpList P ops Q rest (a.put o.dst (.int .i64 (k : Int))) w') : wpList P ops Q (o :: rest) a w := by
  subst hmin
  obtain ⟨ti, hti, hsz⟩ := Option.map_eq_some_iff.1 hi
  have hst := run_storeCells_at P B f t (bv (s.take n)) 0 old.toArray w hb (by rw [bv_length, List.length_take]; simp; omega) (bv_one _)
  simp only [Nat.add_zero] at hst
  have hh := h (w.setRow B (put old f (bv (s.take n))).toArray) (setRow_blk hb _) (setRow_only B _) (by simp [World.setRow])
  refine wpList_of_run hw (v := .int .i64 (min s.length n : Nat)) (w' := w.setRow B (put old f (bv (s.take n))).toArray) ?_ hh
  have hcells : List.take (if s.length ≤ n then s.length else n) (List.map (fun b : UInt8 => Value.int IntKind.u8 (b.toNat : Int)) s) = bv (s.take n) := by
    unfold bv
    rw [← List.map_take]
    congr 1
    split
    · rename_i h1
      rw [List.take_of_length_le (Nat.le_refl _), List.take_of_length_le h1]
    · rfl
  have hsize : (ByteArray.mk s.toArray).size = s.length := by simp [ByteArray.size]
  unfold execOp
  simp only [ho, resolve, invoke, builtin, Sem.run_bind, Sem.run_pure, Result.andThen_ok, List.map_toArray, List.map_cons, List.map_nil, hx, hy]
  unfold Builtin.copy_
  simp only [List.getElem?_toArray, List.getElem?_cons_zero, List.getElem?_cons_succ, Sem.run_bind, run_underlying hu, Result.andThen_ok, Builtin.lenOf, Sem.run_pure, hsize, Builtin.firstCells, sizeOf, typeInfo]
  simp only [Nat.min_def]
  simp [goInt, put, hti]
  rw [hcells, hst]
  simp [Result.andThen]

/-- 'x[i]', x an array by value -/
theorem wpList_index_agg (x i : Operand) (t : TypeId) (ho : o.op = .index t x i) (hw : Region.wanted o (yielded ops a.tmps) = true) {e : TypeId} {n : Nat} (ht : P.underlying t = some (.array n e)) {d : TypeDesc} (he : P.underlying e = some d) (hd : isAggD d = false) (hi : (P.info? e).map (·.size) = some 1)
    {cs : List Value} (hx : a.eval x = .agg cs.toArray) (k : Nat) (hix : IsI (a.eval i) (k : Int)) (hk : k < n) {u : Value} (hu : cs[k]? = some u)
    (h : wpList P ops Q rest (a.put o.dst u) w) : wpList P ops Q (o :: rest) a w := by
  obtain ⟨kd, hix⟩ := isI hix
  obtain ⟨ti, hti, hsz⟩ := Option.map_eq_some_iff.1 hi
  refine wpList_of_run hw (v := u) (w' := w) ?_ h
  have hagg : (isAgg e).run P w = .ok false w := by
    unfold isAgg
    simp only [Sem.run_bind, run_underlying he, Result.andThen]
    cases d <;> simp_all [isAggD]
  have hu' : cs.toArray[k]? = some u := by simpa using hu
  unfold execOp
  simp [ho, Instr.index, hx, hix, asIntOf, run_underlying ht, sizeOf, typeInfo, hti, hsz, hk, part, hagg, hu]

/-- an array (or struct) that is boxed -/
theorem wpList_boxa (t : TypeId) (x : Operand) (ho : o.op = .box t x) (hw : Region.wanted o (yielded ops a.tmps) = true) {cs : List Value} (hx : a.eval x = .agg cs.toArray)
    (h : ∀ w', Blk w' w.heap.size t cs → Below w.heap.size w w' → w'.heap.size = w.heap.size + 1 → wpList P ops Q rest (a.put o.dst (.pointer (some ⟨w.heap.size, 0, none⟩))) w') : wpList P ops Q (o :: rest) a w := by
  refine wpList_of_run hw (v := .pointer (some ⟨w.heap.size, 0, none⟩)) (w' := w.alloc (.cells cs.toArray t)) ?_ (h _ (heap_alloc_new w _) ((Below.refl _ _).alloc (Nat.le_refl _) _) (by simp))
  unfold execOp
  simp [ho, hx, Instr.box, newVar, newRow, Value.cells]

/-! ### a package-level array -/
/-- block g holds these cells -/
def Tb (w : World) (g : Nat) (cs : List Value) : Prop := ∀ (j : Nat) (u : Value), cs[j]? = some u → w.cell? ⟨g, j, none⟩ = some u
theorem Tb.below {w w' : World} {g : Nat} {cs : List Value} (h : Tb w g cs) (hb : Below w.heap.size w w') : Tb w' g cs := fun j u hu => by
  have hc := h j u hu
  exact (hb.cell (World.block_lt_of_cell? _ _ hc)).trans hc
theorem Tb.drewN {w : World} {g : Nat} {cs : List Value} (h : Tb w g cs) (n : Nat) : Tb (w.drewN n) g cs := h
theorem Tb.drew {w : World} {g : Nat} {cs : List Value} (h : Tb w g cs) : Tb w.drew g cs := h
theorem wpList_load_tab (p : Operand) (t : TypeId) (ho : o.op = .load t p) (hw : Region.wanted o (yielded ops a.tmps) = true) {d : TypeDesc} (hd : P.underlying t = some d) (ha : isAggD d = true) {cs : List Value} (hsz : (P.info? t).map (·.size) = some cs.length)
    {g : Nat} (hx : a.eval p = .pointer (some ⟨g, 0, none⟩)) (hb : Tb w g cs)
    (h : wpList P ops Q rest (a.put o.dst (.agg cs.toArray)) w) : wpList P ops Q (o :: rest) a w := by
  obtain ⟨ti, hti, hs⟩ := Option.map_eq_some_iff.1 hsz
  have hl := run_loadCells_list (P := P) w (⟨g, 0, none⟩ : Addr) cs (fun j u hu => by rw [Addr.add_lit, Nat.zero_add]; exact hb j u hu)
  have hagg : (isAgg t).run P w = .ok true w := by
    unfold isAgg
    simp only [Sem.run_bind, run_underlying hd, Result.andThen]
    cases d <;> simp_all [isAggD]
  refine wpList_of_run hw (v := .agg cs.toArray) (w' := w) ?_ h
  unfold execOp
  simp [ho, Instr.loadAt, hx, Instr.sureAddr, loadVar, hagg, sizeOf, typeInfo, hti, hs, hl]
theorem wpQuiet_load_tb {w0 : World} (hC : ∀ w, C w → ∃ n, w = w0.drewN n) (p : Operand) (t : TypeId) (ho : o.op = .load t p) (hw : Region.wanted o (yielded ops a.tmps) = true)
    (hload : ∀ (ad : Addr) (u : Value) (w : World), w.cell? ad = some u → (loadVar t ad).run P w = .ok u w) {g k : Nat} {cs : List Value} {u : Value} (hx : a.eval p = .pointer (some ⟨g, k, none⟩)) (hb : Tb w0 g cs) (hk : cs[k]? = some u)
    (h : wpQuiet P ops C R rest (a.put o.dst u)) : wpQuiet P ops C R (o :: rest) a := by
  refine wpQuiet_of_run hw (fun w hc => ?_) h
  obtain ⟨m, rfl⟩ := hC w hc
  have := hload ⟨g, k, none⟩ u (w0.drewN m) ((hb.drewN m) k u hk)
  unfold execOp
  simp [ho, Instr.loadAt, hx, Instr.sureAddr, this]
end
end Go.Proofs.YtdlhkhnoigbhjaaDoor.Lb
namespace Go.Proofs.YtdlhkhnoigbhjaaDoor.Pu
inductive Tree where
  | mk (k n m : Int) (kids : List Tree)
def Tree.kind : Tree → Int | .mk k _ _ _ => k
def Tree.en : Tree → Int | .mk _ n _ _ => n
def Tree.em : Tree → Int | .mk _ _ m _ => m
def Tree.kids : Tree → List Tree | .mk _ _ _ ts => ts
theorem Tree.ind {P : Tree → Prop} (h : ∀ k n m ts, (∀ t ∈ ts, P t) → P (.mk k n m ts)) (t : Tree) : P t :=
  Tree.rec (motive_1 := P) (motive_2 := fun ts => ∀ t ∈ ts, P t) (fun k n m ts ih => h k n m ts ih) (by intro t ht; cases ht) (fun t ts iht ihts u hu => by
    rcases List.mem_cons.1 hu with rfl | hu
    · exact iht
    · exact ihts u hu) t
mutual
def tsize : Tree → Nat
  | .mk _ _ _ ts => 1 + tsizes ts
def tsizes : List Tree → Nat
  | [] => 0
  | t :: ts => tsize t + tsizes ts
end
mutual
def tdepth : Tree → Nat
  | .mk _ _ _ ts => tdepths ts + 1
def tdepths : List Tree → Nat
  | [] => 0
  | t :: ts => max (tdepth t) (tdepths ts)
end
theorem tsize_pos : ∀ t : Tree, 0 < tsize t
  | .mk _ _ _ _ => by rw [tsize]; omega
theorem tsizes_app : ∀ a b : List Tree, tsizes (a ++ b) = tsizes a + tsizes b
  | [], b => by rw [List.nil_append, tsizes]; omega
  | t :: a, b => by rw [List.cons_append, tsizes, tsizes, tsizes_app a b]; omega
theorem tdepths_app : ∀ a b : List Tree, tdepths (a ++ b) = max (tdepths a) (tdepths b)
  | [], b => by rw [List.nil_append, tdepths]; omega
  | t :: a, b => by rw [List.cons_append, tdepths, tdepths, tdepths_app a b]; omega
theorem tsizes_snoc (a : List Tree) (t : Tree) : tsizes (a ++ [t]) = tsizes a + tsize t := by
  rw [tsizes_app, tsizes, tsizes]; omega
theorem tdepths_snoc (a : List Tree) (t : Tree) : tdepths (a ++ [t]) = max (tdepths a) (tdepth t) := by
  rw [tdepths_app, tdepths, tdepths]; omega
theorem tsize_mem {t : Tree} : ∀ {ts : List Tree}, t ∈ ts → tsize t ≤ tsizes ts
  | _ :: ts, h => by
    rw [tsizes]
    rcases List.mem_cons.1 h with rfl | h
    · omega
    · have := tsize_mem h; omega
theorem tsizes_len : ∀ ts : List Tree, ts.length ≤ tsizes ts
  | [] => Nat.zero_le _
  | t :: ts => by
    have h1 := tsizes_len ts
    have h2 := tsize_pos t
    rw [tsizes, List.length_cons]; omega
end Go.Proofs.YtdlhkhnoigbhjaaDoor.Pu
namespace Go.Proofs.YtdlhkhnoigbhjaaDoor.Lb
open Go Go.RowKit Pu
/-! a tree's four cells; its kids lie behind a readable slice -/
mutual
def IsT (w : World) : Tree → List Value → Prop
  | .mk k n m ts, cs => ∃ v xs, cs = [.int .i64 k, .int .i64 n, .int .i64 m, v] ∧ Rd w 4 v ts.length xs ∧ IsTs w ts xs
def IsTs (w : World) : List Tree → List Value → Prop
  | [], xs => xs = []
  | t :: ts, xs => ∃ cs ys, xs = cs ++ ys ∧ cs.length = 4 ∧ IsT w t cs ∧ IsTs w ts ys
end
theorem IsT.len {w : World} {cs : List Value} : ∀ {t : Tree}, IsT w t cs → cs.length = 4
  | .mk _ _ _ _, h => by rw [IsT] at h; obtain ⟨v, xs, rfl, _⟩ := h; rfl
theorem IsTs.len {w : World} : ∀ {ts : List Tree} {xs : List Value}, IsTs w ts xs → xs.length = ts.length * 4
  | [], xs, h => by rw [IsTs] at h; subst h; rfl
  | t :: ts, xs, h => by
    rw [IsTs] at h
    obtain ⟨cs, ys, rfl, h4, _, h⟩ := h
    rw [List.length_append, h4, IsTs.len h, List.length_cons]; omega
theorem IsTs.get {w : World} : ∀ {ts : List Tree} {xs : List Value}, IsTs w ts xs → ∀ {i : Nat} {t : Tree}, ts[i]? = some t → IsT w t ((xs.drop (i * 4)).take 4)
  | [], _, _, i, t, hi => by simp at hi
  | u :: ts, xs, h, i, t, hi => by
    rw [IsTs] at h
    obtain ⟨cs, ys, rfl, h4, hu, h⟩ := h
    cases i with
    | zero =>
      simp only [List.getElem?_cons_zero, Option.some.injEq] at hi
      subst hi
      rw [Nat.zero_mul, List.drop_zero, ← h4, List.take_left]; exact hu
    | succ i =>
      rw [List.getElem?_cons_succ] at hi
      rw [show (i + 1) * 4 = cs.length + i * 4 by omega, ← List.drop_drop, List.drop_left]
      exact IsTs.get h hi
mutual
theorem IsT.below {w w' : World} (hb : Below w.heap.size w w') : ∀ {t : Tree} {cs : List Value}, IsT w t cs → IsT w' t cs
  | .mk _ _ _ _, _, h => by
    rw [IsT] at h ⊢
    obtain ⟨v, xs, e, hr, ht⟩ := h
    exact ⟨v, xs, e, hr.below hb, IsTs.below hb ht⟩
theorem IsTs.below {w w' : World} (hb : Below w.heap.size w w') : ∀ {ts : List Tree} {xs : List Value}, IsTs w ts xs → IsTs w' ts xs
  | [], _, h => by rw [IsTs] at h ⊢; exact h
  | _ :: _, _, h => by
    rw [IsTs] at h ⊢
    obtain ⟨cs, ys, e, h4, hu, h⟩ := h
    exact ⟨cs, ys, e, h4, IsT.below hb hu, IsTs.below hb h⟩
end
theorem IsT.drewN {w : World} {t : Tree} {cs : List Value} (h : IsT w t cs) (n : Nat) : IsT (w.drewN n) t cs := h.below (below_drewN (Below.refl _ _) n)
theorem IsTs.drewN {w : World} {t : List Tree} {cs : List Value} (h : IsTs w t cs) (n : Nat) : IsTs (w.drewN n) t cs := h.below (below_drewN (Below.refl _ _) n)
theorem IsTs.app {w : World} : ∀ {ts us : List Tree} {xs ys : List Value}, IsTs w ts xs → IsTs w us ys → IsTs w (ts ++ us) (xs ++ ys)
  | [], us, xs, ys, h, h2 => by rw [IsTs] at h; subst h; exact h2
  | t :: ts, us, xs, ys, h, h2 => by
    rw [IsTs] at h
    obtain ⟨cs, zs, rfl, h4, hu, h⟩ := h
    rw [List.cons_append, IsTs]
    exact ⟨cs, zs ++ ys, by rw [List.append_assoc], h4, hu, IsTs.app h h2⟩
theorem IsTs.one {w : World} {t : Tree} {cs : List Value} (h : IsT w t cs) : IsTs w [t] cs := by
  rw [IsTs]; exact ⟨cs, [], by simp, h.len, h, by rw [IsTs]⟩
theorem IsTs.snoc {w : World} {ts : List Tree} {xs : List Value} {t : Tree} {cs : List Value} (h : IsTs w ts xs) (ht : IsT w t cs) : IsTs w (ts ++ [t]) (xs ++ cs) := h.app (IsTs.one ht)
end Go.Proofs.YtdlhkhnoigbhjaaDoor.Lb
namespace Go.Proofs.YtdlhkhnoigbhjaaDoor.Lb
open Go Go.RowKit Pu
section
variable {P : Program} {ops : Array Oper} {Q : Exit → Act → World → Prop} {a : Act} {w : World} {rest : List Oper} {o : Oper}
/-- a struct loaded out of a readable slice -/
theorem run_load_st (p : Operand) (t : TypeId) (ho : o.op = .load t p) {d : TypeDesc} (hd : P.underlying t = some d) (ha : isAggD d = true) {s : Nat} (hsz : (P.info? t).map (·.size) = some s)
    {s' : Nat} {v : Value} {n : Nat} {xs : List Value} {k : Nat} (hx : a.eval p = ep v k) (hv : Rd w s' v n xs) (hk : k + s ≤ xs.length) (hs : 0 < s) :
    (execOp a.eval o).run P w = .ok (.value (.agg ((xs.drop k).take s).toArray)) w := by
  obtain ⟨ti, hti, rfl⟩ := Option.map_eq_some_iff.1 hsz
  obtain ⟨hl, ad, cap, rfl, h1, h2, h3, h4⟩ := hv
  obtain ⟨b, of, rfl, _⟩ := h4 0 xs[0] (by simp)
  have hlen : ((xs.drop k).take ti.size).length = ti.size := by rw [List.length_take, List.length_drop]; omega
  have hl := run_loadCells_list (P := P) w (⟨b, of + k, none⟩ : Addr) ((xs.drop k).take ti.size) (fun j u hu => by
    rw [List.getElem?_take] at hu
    split at hu
    · rw [List.getElem?_drop] at hu
      obtain ⟨b', o', hab, hc⟩ := h4 _ _ hu
      simp only [Option.some.injEq, Addr.mk.injEq] at hab
      obtain ⟨rfl, rfl, _⟩ := hab
      rw [Addr.add_lit, Nat.add_assoc]
      exact hc
    · cases hu)
  rw [hlen] at hl
  have hagg : (isAgg t).run P w = .ok true w := by
    unfold isAgg
    simp only [Sem.run_bind, run_underlying hd, Result.andThen]
    cases d <;> simp_all [isAggD]
  have hsize : (sizeOf t).run P w = .ok ti.size w := by simp [sizeOf, typeInfo, hti]
  unfold execOp
  simp [ho, Instr.loadAt, hx, ep, Instr.sureAddr, Addr.add_lit, loadVar, hagg, hsize, hl]
theorem wpList_load_st (p : Operand) (t : TypeId) (ho : o.op = .load t p) (hw : Region.wanted o (yielded ops a.tmps) = true) {d : TypeDesc} (hd : P.underlying t = some d) (ha : isAggD d = true) {s : Nat} (hsz : (P.info? t).map (·.size) = some s)
    {s' : Nat} {v : Value} {n : Nat} {xs : List Value} {k : Nat} (hx : a.eval p = ep v k) (hv : Rd w s' v n xs) (hk : k + s ≤ xs.length) (hs : 0 < s) {cp : List Value} (hcs : (xs.drop k).take s = cp)
    (h : wpList P ops Q rest (a.put o.dst (.agg cp.toArray)) w) : wpList P ops Q (o :: rest) a w := by
  subst hcs; exact wpList_of_run hw (run_load_st p t ho hd ha hsz hx hv hk hs) h
/-- where a field of some size lies -/
def fieldOf (P : Program) (t : TypeId) (i : Nat) : Option Nat :=
  match P.underlying t with
  | some (.struct fs) => match fs[i]? with
    | some f => match P.info? f.type with
      | some ti => if 0 < ti.size then some f.offset else none
      | none => none
    | none => none
  | _ => none
theorem run_field_ep (x : Operand) (t : TypeId) (i : Nat) (ho : o.op = .fieldAddr t x i) {off : Nat} (hf : fieldOf P t i = some off) {w0 : World} {s' n k : Nat} {v : Value} {xs : List Value} (hx : a.eval x = ep v k) (hv : Rd w0 s' v n xs) (hne : 0 < xs.length) :
    (execOp a.eval o).run P w = .ok (.value (ep v (k + off))) w := by
  unfold fieldOf at hf
  split at hf
  · rename_i fs hu
    split at hf
    · rename_i f hfs
      split at hf
      · rename_i ti hti
        split at hf
        · rename_i hs
          obtain rfl := Option.some.inj hf
          obtain ⟨hl, ad, cap, rfl, h1, h2, h3, h4⟩ := hv
          obtain ⟨b, of, rfl, _⟩ := h4 0 xs[0] (by simp)
          have hs' : ¬ ti.size = 0 := by omega
          unfold execOp
          simp [ho, Instr.fieldAt, hx, ep, run_underlying hu, hfs, Instr.sureAddr, fieldPlace, sizeOf, typeInfo, hti, hs', Addr.add_lit, Nat.add_assoc]
        · cases hf
      · cases hf
    · cases hf
  · cases hf
theorem wpList_field_ep (x : Operand) (t : TypeId) (i : Nat) (ho : o.op = .fieldAddr t x i) (hw : Region.wanted o (yielded ops a.tmps) = true) {off : Nat} (hf : fieldOf P t i = some off) {w0 : World} {s' n k : Nat} {v : Value} {xs : List Value} (hx : a.eval x = ep v k) (hv : Rd w0 s' v n xs) (hne : 0 < xs.length)
    (h : wpList P ops Q rest (a.put o.dst (ep v (k + off))) w) : wpList P ops Q (o :: rest) a w := wpList_of_run hw (run_field_ep x t i ho hf hx hv hne) h
/-- '&p.f', p a variable's place -/
theorem run_field_blk (x : Operand) (t : TypeId) (i : Nat) (ho : o.op = .fieldAddr t x i) {off : Nat} (hf : fieldOf P t i = some off) {B k : Nat} (hx : a.eval x = .pointer (some ⟨B, k, none⟩)) :
    (execOp a.eval o).run P w = .ok (.value (.pointer (some ⟨B, k + off, none⟩))) w := by
  unfold fieldOf at hf
  split at hf
  · rename_i fs hu
    split at hf
    · rename_i f hfs
      split at hf
      · rename_i ti hti
        split at hf
        · rename_i hs
          obtain rfl := Option.some.inj hf
          have hs' : ¬ ti.size = 0 := by omega
          unfold execOp
          simp [ho, Instr.fieldAt, hx, run_underlying hu, hfs, Instr.sureAddr, fieldPlace, sizeOf, typeInfo, hti, hs', Addr.add_lit]
        · cases hf
      · cases hf
    · cases hf
  · cases hf
theorem wpList_field_blk (x : Operand) (t : TypeId) (i : Nat) (ho : o.op = .fieldAddr t x i) (hw : Region.wanted o (yielded ops a.tmps) = true) {off : Nat} (hf : fieldOf P t i = some off) {B k j : Nat} (hx : a.eval x = .pointer (some ⟨B, k, none⟩)) (hj : k + off = j)
    (h : wpList P ops Q rest (a.put o.dst (.pointer (some ⟨B, j, none⟩))) w) : wpList P ops Q (o :: rest) a w := by
  subst hj; exact wpList_of_run hw (run_field_blk x t i ho hf hx) h
/-- a struct variable loaded whole -/
theorem wpList_loadst_blk (p : Operand) (t : TypeId) (ho : o.op = .load t p) (hw : Region.wanted o (yielded ops a.tmps) = true) {d : TypeDesc} (hd : P.underlying t = some d) (ha : isAggD d = true) {s : Nat} (hsz : (P.info? t).map (·.size) = some s)
    {B : Nat} {t' : TypeId} {cs : List Value} (hx : a.eval p = .pointer (some ⟨B, 0, none⟩)) (hb : Blk w B t' cs) (hs : cs.length = s) (hs0 : 0 < s)
    (h : wpList P ops Q rest (a.put o.dst (.agg cs.toArray)) w) : wpList P ops Q (o :: rest) a w := by
  have hr := hb.rd 0 1 1 s (by omega) (Nat.le_refl _) (by unfold maxLen; omega)
  have hrun := run_load_st (P := P) (a := a) (o := o) p t ho hd ha hsz (k := 0) (by rw [hx]; simp [ep, Addr.add]) hr (by rw [List.drop_zero, List.length_take]; omega) hs0
  rw [List.drop_zero, List.drop_zero, Nat.one_mul, List.take_of_length_le (by rw [List.length_take]; omega), List.take_of_length_le (by omega)] at hrun
  exact wpList_of_run hw hrun h
end
def nodz : List Value := [.int .i64 0, .int .i64 0, .int .i64 0, .slice none 0 0]
theorem sz_node : (Tryd.prog.info? 25).map (·.size) = some 4 := by kernel_rfl
theorem zr_node : (Tryd.prog.info? 25).map (·.zero) = some (some (.agg #[.int .i64 0, .int .i64 0, .int .i64 0, .slice none 0 0])) := by kernel_rfl
theorem nodz_cells : (Value.agg #[.int .i64 0, .int .i64 0, .int .i64 0, .slice none 0 0]).cells = nodz.toArray := rfl
theorem ld_nds (ad : Addr) (u : Value) (w : World) (h : w.cell? ad = some u) : (loadVar 23 ad).run Tryd.prog w = .ok u w := load_one _ _ Tryd.underlying23 rfl ad u w h
theorem fo_node_0 : fieldOf Tryd.prog 25 0 = some 0 := by kernel_rfl
theorem fo_node_1 : fieldOf Tryd.prog 25 1 = some 1 := by kernel_rfl
theorem fo_node_2 : fieldOf Tryd.prog 25 2 = some 2 := by kernel_rfl
theorem fo_node_3 : fieldOf Tryd.prog 25 3 = some 3 := by kernel_rfl
theorem IsT.ones {w : World} {cs : List Value} : ∀ {t : Tree}, IsT w t cs → ∀ u ∈ cs, u.oneCell' = true
  | .mk _ _ _ _, h => by
    rw [IsT] at h
    obtain ⟨v, xs, rfl, hr, _⟩ := h
    obtain ⟨_, a, cap, rfl, _⟩ := hr
    intro u hu
    simp only [List.mem_cons, List.not_mem_nil, or_false] at hu
    rcases hu with rfl | rfl | rfl | rfl <;> rfl
end Go.Proofs.YtdlhkhnoigbhjaaDoor.Lb
namespace Go.Proofs.YtdlhkhnoigbhjaaDoor.Wi
open Go Go.RowKit Pu Lb

theorem not_u64 (n : Int) (h0 : -9223372036854775808 ≤ n) (h : n < 0) : bits .xor .u64 IntKind.u64.max (IntKind.u64.wrap n) = (mag n : Int) := by
  have e : IntKind.u64.wrap n = 18446744073709551616 + n := by rw [IntKind.wrap_u64]; omega
  have e2 : IntKind.u64.max = 18446744073709551615 := by decide
  rw [e, e2, u64_xor _ _ (by omega) (by omega) (by omega) (by omega)]
  unfold mag
  rw [if_pos h]
  have e3 : (18446744073709551615 : Int).toNat = 2 ^ 64 - 1 := by decide
  have e4 : (18446744073709551616 + n).toNat < 2 ^ 64 := by omega
  rw [e3, Nat.xor_comm, xor_ones 64 _ e4]
  omega

theorem shr_eq (m j : Nat) : (m : Int) / 2 ^ (8 * j) = ((m / 256 ^ j : Nat) : Int) := by
  rw [← pow8]; norm_cast
theorem nonneg_div (m k : Nat) : 0 ≤ ((m / k : Nat) : Int) := Int.natCast_nonneg _
theorem shr_pos {m j : Nat} (h : (0 : Int) < (m : Int) / 2 ^ (8 * j)) : 0 < m / 256 ^ j := by
  rw [shr_eq] at h; exact Int.natCast_pos.1 h
theorem shr_zero {m j : Nat} (h : (m : Int) / 2 ^ (8 * j) ≤ 0) : m < 256 ^ j := by
  rw [shr_eq] at h
  have : m / 256 ^ j = 0 := Int.ofNat_eq_zero.1 (Int.le_antisymm h (Int.natCast_nonneg _))
  have h2 := Nat.div_eq_zero_iff.1 this
  have h3 : 0 < 256 ^ j := Nat.pow_pos (by omega)
  omega

/-- a byte of a number, turned round -/
theorem cell_eq (z : Int) (neg : Bool) : bits .xor .u8 (z % 256) (fb neg) = ((fl neg (bt z)).toNat : Int) := by
  have h := bt_toNat z
  have hz : 0 ≤ z % 256 ∧ z % 256 < 256 := ⟨Int.emod_nonneg _ (by omega), Int.emod_lt_of_pos _ (by omega)⟩
  have hb := fb_bd neg
  rw [u8_xor _ _ hz.1 hz.2 hb.1 (by omega), ← h]
  unfold fl
  rw [UInt8.toNat_xor]
  cases neg <;> simp [fb]
theorem head_eq (z : Int) (h0 : 0 ≤ z) (h1 : z ≤ 255) (neg : Bool) : bits .xor .u8 z (fb neg) = ((fl neg (bt z)).toNat : Int) := by
  rw [← cell_eq, Int.emod_eq_of_lt h0 (by omega)]

theorem step_eq (m j : Nat) (neg : Bool) (h0 : 0 < j) (h1 : j ≤ nd m) :
    bv ((bt (128 + nd m) :: be (m / 256 ^ j) (nd m - j)).map (fl neg)) ++ [.int .u8 (bits .xor .u8 ((m : Int) / 2 ^ (8 * (j - 1)) % 256) (fb neg))] =
      bv ((bt (128 + nd m) :: be (m / 256 ^ (j - 1)) (nd m - (j - 1))).map (fl neg)) := by
  rw [cell_eq, shr_eq, be_step m (nd m) j h0 h1]
  simp [bv]

set_option maxHeartbeats 800000 in
theorem int_any (n : Int) (w : World) (h0 : -9223372036854775808 ≤ n) (h1 : n ≤ 9223372036854775807) :
    Calls Tryd.prog 84 #[.int .i64 n] w fun e w' => ∃ v, e = .returned v ∧ w'.ownsRow w.heap.size 5 1 v (enc n).length (bv (enc n)) ∧ Below w.heap.size w w' := by
  obtain ⟨m, hm⟩ : ∃ m, m = mag n := ⟨_, rfl⟩
  obtain ⟨neg, hneg⟩ : ∃ neg : Bool, neg = decide (n < 0) := ⟨_, rfl⟩
  have hml : m ≤ 9223372036854775807 := by have := mag_lt h0 h1; omega
  have HM := Lib.hid hm; clear hm
  have HN := Lib.hid hneg; clear hneg
  have hfb := fb_bd neg
  go_enter Tryd.func84, Tryd.ntmps84
  go_wp2
  go_step3
  go_upto_if 11 with fail
  go_cut [3, 4] (fun s3 s4 w' => s3 = .int .u64 m ∧ s4 = .int .u8 (fb neg) ∧ w' = w)
  case first =>
    by_cases hng : n < 0
    · go_wp2
      go_meet
      case rel => exact ⟨by rw [not_u64 n h0 hng, HM.out], by rw [HN.out]; simp [hng, fb], rfl⟩
    · go_wp2
      go_meet
      case rel => exact ⟨by rw [HM.out]; unfold mag; rw [if_neg (by omega), IntWalk.u64_in n (by omega)]; congr 1; omega, by rw [HN.out]; unfold fb; simp; omega, rfl⟩
  case rest =>
    obtain ⟨rfl, rfl, rfl⟩ := hcut
    go_upto_region 4 with fail
    go_wp2
    go_step3
    go_upto_block 0 with fail
    go_cut [5] (fun k w' => k = .int .i64 (nd m) ∧ w' = wc)
    case first =>
      go_wp2_with fail
      go_loop [5] (fun k => ∃ j : Nat, j ≤ 8 ∧ k = .int .i64 j ∧ m < 256 ^ j) (fun k => (intOf k).toNat)
      case atStart => exact ⟨8, by omega, rfl, by omega⟩
      case round =>
        obtain ⟨j, hj, rfl, hmj⟩ := hrel
        have HJ := Lib.hid hmj; clear hmj
        by_cases hp : 0 < j
        · go_wp2_with fail
          · go_meet
            case rel =>
              refine ⟨?_, rfl⟩
              have hd : (0 : Int) < (m : Int) / 2 ^ (8 * (j - 1)) := by assumption
              rw [nd_eq HJ.out (.inr (shr_pos hd))]
          · go_round
            case rel =>
              have hd : (m : Int) / 2 ^ (8 * (j - 1)) ≤ 0 := by assumption
              exact ⟨j - 1, by omega, by congr 1; omega, shr_zero hd⟩
            case measure => simp [intOf]; omega
        · go_wp2_with fail
          go_meet
          case rel =>
            refine ⟨?_, rfl⟩
            rw [nd_eq HJ.out (.inl (by omega))]
    case rest =>
      obtain ⟨rfl, rfl⟩ := hcut
      have hn8 : nd m ≤ 8 := nd_le (by omega)
      go_upto_block 2 with fail
      have hown := own_lit wc 5 [.int .u8 (bits BinOp.xor IntKind.u8 (128 + ↑(nd m)) (fb neg))] (by unfold maxLen; simp)
      rw [head_eq _ (by omega) (by omega)] at hown
      have HO := Lib.hid hown; clear hown
      go_wp2_with fail
      go_loopw [6, 7] (fun v i wr => ∃ j : Nat, j ≤ nd m ∧ i = .int .i64 ((j : Int) - 1) ∧ wr.ownsRow wc.heap.size 5 1 v (nd m - j + 1) (bv ((bt (128 + nd m) :: be (m / 256 ^ j) (nd m - j)).map (fl neg))) ∧ Below wc.heap.size wc wr)
        (fun _ i _ => (intOf i + 1).toNat)
      case atStart =>
        refine ⟨nd m, Nat.le_refl _, rfl, ?_, (Below.refl _ _).alloc (Nat.le_refl _) _⟩
        rw [head_eq _ (by omega) (by omega), Nat.sub_self]
        exact HO.out
      case round =>
        obtain ⟨j, hj, rfl, hown, hbl⟩ := hrel
        have HO := Lib.hid hown; clear hown
        by_cases hp : 0 < j
        · go_wp2_with (((with_reducible refine' wpList_append_one (.tmp 36) (.tmp 44) 49 rfl ?_ Tryd.underlying49 inf_u8 ?_ ?_ HO.out ?_ ?_ ?_ ?_ hbl.size ?_); exact rfl; exact rfl; exact rfl; exact rfl; exact rfl; (first | omega | (unfold maxLen; omega)); omega; intro v' w' ho hb'; simp only [Act.put, List.setIfInBounds_toArray, List.set_cons_succ, List.set_cons_zero]))
          · have he := step_eq m j neg hp hj
            rw [he] at ho
            have HO' := Lib.hid ho; clear ho he HO
            go_wp2_with fail
            go_roundw
            case rel => exact ⟨j - 1, by omega, by congr 1; omega, by rw [show nd m - (j - 1) + 1 = nd m - j + 1 + 1 by omega]; exact HO'.out, hbl.trans hb'⟩
            case measure => simp [intOf]; omega
        · go_wp2_with fail
          rw [Exit.noGoto_ret]
          go_ret
          obtain rfl : j = 0 := by omega
          have ho := HO.out
          simp only [Nat.pow_zero, Nat.div_one, Nat.sub_zero] at ho
          refine ⟨_, rfl, ?_, hbl⟩
          rw [enc_length, enc, ← HM.out, ← HN.out]
          exact ho

/-! ### the specification's encoder -/
theorem step_eq' (m j : Nat) (neg : Bool) (h0 : 0 < j) (h1 : j ≤ nd m) :
    bv ((bt (128 + nd m) :: be (m / 256 ^ j) (nd m - j)).map (fl neg)) ++ [.int .u8 ((fl neg (bt ((m / 256 ^ (j - 1) : Nat) : Int))).toNat : Int)] =
      bv ((bt (128 + nd m) :: be (m / 256 ^ (j - 1)) (nd m - (j - 1))).map (fl neg)) := by
  rw [be_step m (nd m) j h0 h1]
  simp [bv]
theorem neg_head (z : Int) (h0 : 0 ≤ z) (h1 : z ≤ 255) : ([] : List Value) ++ [.int .u8 (255 - z)] = bv [fl true (bt z)] := by
  have := fl_true (bt z)
  have h2 := bt_toNat z
  rw [Int.emod_eq_of_lt h0 (by omega)] at h2
  simp only [bv, List.map_cons, List.map_nil, List.nil_append, this, h2]
theorem pos_head (z : Int) (h0 : 0 ≤ z) (h1 : z ≤ 255) : ([] : List Value) ++ [.int .u8 z] = bv [fl false (bt z)] := by
  have h2 := bt_toNat z
  rw [Int.emod_eq_of_lt h0 (by omega)] at h2
  simp only [bv, List.map_cons, List.map_nil, List.nil_append, fl_false, h2]
theorem nd_gt {m j : Nat} (h : 0 < m / 256 ^ j) : j < nd m := by
  by_cases hj : nd m ≤ j
  · exfalso
    have h3 := lt_pow_nd m
    have h4 : 256 ^ nd m ≤ 256 ^ j := Nat.pow_le_pow_right (by omega) hj
    have h5 : m / 256 ^ j = 0 := Nat.div_eq_of_lt (by omega)
    omega
  · omega
theorem bt_mod (z : Int) : z % 256 = ((bt z).toNat : Int) := (bt_toNat z).symm
theorem fl_cell (b : UInt8) (neg : Bool) : (fl neg b).toNat = if neg then 255 - b.toNat else b.toNat := by
  cases neg
  · simp [fl]
  · have := fl_true b; have := u8_lt b; simp only [if_true]; omega

set_option maxHeartbeats 800000 in
theorem refint_any (n : Int) (w : World) (h0 : -9223372036854775808 ≤ n) (h1 : n ≤ 9223372036854775807) :
    Calls Tryd.prog 83 #[.int .i64 n] w fun e w' => ∃ v, e = .returned v ∧ w'.ownsRow w.heap.size 5 1 v (enc n).length (bv (enc n)) ∧ Below w.heap.size w w' := by
  obtain ⟨m, hm⟩ : ∃ m, m = mag n := ⟨_, rfl⟩
  have hml : m ≤ 9223372036854775807 := by have := mag_lt h0 h1; omega
  have HM := Lib.hid hm; clear hm
  go_enter Tryd.func83, Tryd.ntmps83
  go_upto_if 11 with fail
  go_cut [3] (fun s3 w' => s3 = .int .i64 m ∧ w = w')
  case first =>
    by_cases hng : n < 0
    · go_wp2
      go_meet
      case rel => exact ⟨by rw [HM.out]; unfold mag; rw [if_pos hng]; congr 1; omega, rfl⟩
    · go_wp2
      go_meet
      case rel => exact ⟨by rw [HM.out]; unfold mag; rw [if_neg (by omega)]; congr 1; omega, rfl⟩
  case rest =>
    obtain ⟨rfl, rfl⟩ := hcut
    go_upto_block 0 with fail
    go_cut [4] (fun v w' => w'.ownsRow w.heap.size 5 1 v (nd m) (bv (le m (nd m))) ∧ Below w.heap.size w w')
    case first =>
      go_wp2_with fail
      go_loopw [3, 4] (fun x v wr => ∃ j : Nat, j ≤ nd m ∧ x = .int .i64 ((m / 256 ^ j : Nat) : Int) ∧ wr.ownsRow w.heap.size 5 1 v j (bv (le m j)) ∧ Below w.heap.size w wr) (fun x _ _ => (intOf x).toNat)
      case atStart => exact ⟨0, Nat.zero_le _, by simp, World.ownsRow_nil _ _ _ _, Below.refl _ _⟩
      case round =>
        obtain ⟨j, hj, rfl, hown, hbl⟩ := hrel
        have HO := Lib.hid hown; clear hown
        have hle : m / 256 ^ j ≤ m := Nat.div_le_self _ _
        obtain ⟨q, hq⟩ : ∃ q, q = m / 256 ^ j := ⟨_, rfl⟩
        rw [← hq] at hle ⊢
        have HQ := Lib.hid hq; clear hq
        have hn8 : nd m ≤ 8 := nd_le (by omega)
        by_cases hp : 0 < q
        · go_wp2_with (((with_reducible refine' wpList_append_one (.tmp 16) (.tmp 20) 49 rfl ?_ Tryd.underlying49 inf_u8 ?_ ?_ HO.out ?_ ?_ ?_ ?_ hbl.size ?_); exact rfl; exact rfl; exact rfl; exact rfl; exact rfl; (first | omega | (unfold maxLen; omega)); omega; intro v' w' ho hb'; simp only [Act.put, List.setIfInBounds_toArray, List.set_cons_succ, List.set_cons_zero]))
          have hjn : j < nd m := nd_gt (by rw [← HQ.out]; exact hp)
          have he : bv (le m j) ++ [.int .u8 ((q : Int) % 256)] = bv (le m (j + 1)) := by rw [le_snoc, ← HQ.out, bv_append, bt_mod]; rfl
          rw [he] at ho
          have HO' := Lib.hid ho; clear ho he HO
          go_roundw
          case rel => exact ⟨j + 1, by omega, by rw [Nat.pow_succ, ← Nat.div_div_eq_div_mul, ← HQ.out]; rfl, HO'.out, hbl.trans hb'⟩
          case measure => simp [intOf]; omega
        · go_wp2_with fail
          go_meet
          have hjn : nd m ≤ j := nd_le (by
            have h0 : m / 256 ^ j = 0 := by rw [← HQ.out]; omega
            have h2 := Nat.div_eq_zero_iff.1 h0
            have h3 : 0 < 256 ^ j := Nat.pow_pos (by omega)
            omega)
          obtain rfl : j = nd m := by omega
          case rel => exact ⟨HO.out, hbl⟩
    case rest =>
      obtain ⟨hown, hbl⟩ := hcut
      have HO := Lib.hid hown; clear hown
      have hn8 : nd m ≤ 8 := nd_le (by omega)
      have hrd := Rd.of_own HO.out
      obtain ⟨w1, rfl⟩ : ∃ x : World, x = wc := ⟨_, rfl⟩
      go_upto_if 27 with ((with_reducible refine' wpList_len_rd (.tmp 24) 49 rfl ?_ Tryd.underlying49 ?_ hrd ?_); exact rfl; exact rfl; simp only [Act.put, List.setIfInBounds_toArray, List.set_cons_succ, List.set_cons_zero])
      go_cut [6] (fun v w' => w'.ownsRow w1.heap.size 5 1 v 1 (bv [fl (decide (n < 0)) (bt (128 + nd m))]) ∧ Below w1.heap.size w1 w')
      case first =>
        have hz := World.ownsRow_nil w1 w1.heap.size 5 1
        by_cases hng : n < 0
        · go_wp2_with (first | ((with_reducible refine' wpList_append_one (.tmp 28) (.tmp 32) 49 rfl ?_ Tryd.underlying49 inf_u8 ?_ ?_ hz ?_ ?_ ?_ ?_ (Nat.le_refl _) ?_); exact rfl; exact rfl; exact rfl; exact rfl; exact rfl; (first | omega | (unfold maxLen; omega)); omega; intro v' w' ho hb'; simp only [Act.put, List.setIfInBounds_toArray, List.set_cons_succ, List.set_cons_zero]) | ((with_reducible refine' wpList_append_one (.tmp 34) (.tmp 38) 49 rfl ?_ Tryd.underlying49 inf_u8 ?_ ?_ hz ?_ ?_ ?_ ?_ (Nat.le_refl _) ?_); exact rfl; exact rfl; exact rfl; exact rfl; exact rfl; (first | omega | (unfold maxLen; omega)); omega; intro v' w' ho hb'; simp only [Act.put, List.setIfInBounds_toArray, List.set_cons_succ, List.set_cons_zero]))
          go_meet
          case rel =>
            rw [show (127 : Int) - nd m = 255 - (128 + nd m) by omega, neg_head _ (by omega) (by omega)] at ho
            rw [decide_eq_true (by omega)]
            exact ⟨ho, hb'⟩
        · go_wp2_with (first | ((with_reducible refine' wpList_append_one (.tmp 28) (.tmp 32) 49 rfl ?_ Tryd.underlying49 inf_u8 ?_ ?_ hz ?_ ?_ ?_ ?_ (Nat.le_refl _) ?_); exact rfl; exact rfl; exact rfl; exact rfl; exact rfl; (first | omega | (unfold maxLen; omega)); omega; intro v' w' ho hb'; simp only [Act.put, List.setIfInBounds_toArray, List.set_cons_succ, List.set_cons_zero]) | ((with_reducible refine' wpList_append_one (.tmp 34) (.tmp 38) 49 rfl ?_ Tryd.underlying49 inf_u8 ?_ ?_ hz ?_ ?_ ?_ ?_ (Nat.le_refl _) ?_); exact rfl; exact rfl; exact rfl; exact rfl; exact rfl; (first | omega | (unfold maxLen; omega)); omega; intro v' w' ho hb'; simp only [Act.put, List.setIfInBounds_toArray, List.set_cons_succ, List.set_cons_zero]))
          go_meet
          case rel =>
            rw [pos_head _ (by omega) (by omega)] at ho
            rw [decide_eq_false (by omega)]
            exact ⟨ho, hb'⟩
      case rest =>
        obtain ⟨ho, hb'⟩ := hcut
        have HO2 := Lib.hid ho; clear ho
        go_wp2_with fail
        go_loopw [6, 7] (fun v i wr => ∃ j : Nat, j ≤ nd m ∧ i = .int .i64 ((j : Int) - 1) ∧ wr.ownsRow w1.heap.size 5 1 v (nd m - j + 1) (bv ((bt (128 + nd m) :: be (m / 256 ^ j) (nd m - j)).map (fl (decide (n < 0))))) ∧ Below w1.heap.size w1 wr)
          (fun _ i _ => (intOf i + 1).toNat)
        case atStart => exact ⟨nd m, Nat.le_refl _, rfl, by rw [Nat.sub_self]; exact HO2.out, hb'⟩
        case round =>
          obtain ⟨j, hj, rfl, hown, hbl2⟩ := hrel
          have HO3 := Lib.hid hown; clear hown
          by_cases hp : 0 < j
          · have hg := hrd.below hbl2
            have c1 := bv_at (le_get m (k := nd m) (j := j - 1) (by omega))
            obtain ⟨b, hb⟩ : ∃ b, b = bt ((m / 256 ^ (j - 1) : Nat) : Int) := ⟨_, rfl⟩
            rw [← hb] at c1
            have C1 := Lib.hid c1; clear c1
            have HB := Lib.hid hb; clear hb
            have hb256 := u8_lt b
            by_cases hng : n < 0
            · go_wp2_with (first | ((with_reducible refine' wpList_at1_rd (.tmp 46) (.tmp 47) 49 rfl ?_ Tryd.underlying49 sz_u8 ?_ hg (j - 1) ?_ ?_ ?_); exact rfl; exact rfl; (show (_ : Int) = _; omega); omega; simp only [Act.put, List.setIfInBounds_toArray, List.set_cons_succ, List.set_cons_zero]) | ((with_reducible refine' wpList_load_rd (.tmp 48) 5 rfl ?_ ld_u8 ?_ hg (C1.out) ?_); exact rfl; exact rfl; simp only [Act.put, List.setIfInBounds_toArray, List.set_cons_succ, List.set_cons_zero]) | ((with_reducible refine' wpList_append_one (.tmp 54) (.tmp 56) 49 rfl ?_ Tryd.underlying49 inf_u8 ?_ ?_ HO3.out ?_ ?_ ?_ ?_ hbl2.size ?_); exact rfl; exact rfl; exact rfl; exact rfl; exact rfl; (first | omega | (unfold maxLen; omega)); omega; intro v' w' ho hb'; simp only [Act.put, List.setIfInBounds_toArray, List.set_cons_succ, List.set_cons_zero]))
              rw [← fl_true, HB.out] at ho
              have hd : decide (n < 0) = true := decide_eq_true hng
              rw [← hd, step_eq' m j _ hp hj] at ho
              have HO' := Lib.hid ho; clear ho
              go_roundw
              case rel => exact ⟨j - 1, by omega, by congr 1; omega, by rw [show nd m - (j - 1) + 1 = nd m - j + 1 + 1 by omega]; exact HO'.out, hbl2.trans hb'⟩
              case measure => simp [intOf]; omega
            · go_wp2_with (first | ((with_reducible refine' wpList_at1_rd (.tmp 46) (.tmp 47) 49 rfl ?_ Tryd.underlying49 sz_u8 ?_ hg (j - 1) ?_ ?_ ?_); exact rfl; exact rfl; (show (_ : Int) = _; omega); omega; simp only [Act.put, List.setIfInBounds_toArray, List.set_cons_succ, List.set_cons_zero]) | ((with_reducible refine' wpList_load_rd (.tmp 48) 5 rfl ?_ ld_u8 ?_ hg (C1.out) ?_); exact rfl; exact rfl; simp only [Act.put, List.setIfInBounds_toArray, List.set_cons_succ, List.set_cons_zero]) | ((with_reducible refine' wpList_append_one (.tmp 54) (.tmp 56) 49 rfl ?_ Tryd.underlying49 inf_u8 ?_ ?_ HO3.out ?_ ?_ ?_ ?_ hbl2.size ?_); exact rfl; exact rfl; exact rfl; exact rfl; exact rfl; (first | omega | (unfold maxLen; omega)); omega; intro v' w' ho hb'; simp only [Act.put, List.setIfInBounds_toArray, List.set_cons_succ, List.set_cons_zero]))
              rw [← fl_false b, HB.out] at ho
              have hd : decide (n < 0) = false := decide_eq_false (by omega)
              rw [← hd, step_eq' m j _ hp hj] at ho
              have HO' := Lib.hid ho; clear ho
              go_roundw
              case rel => exact ⟨j - 1, by omega, by congr 1; omega, by rw [show nd m - (j - 1) + 1 = nd m - j + 1 + 1 by omega]; exact HO'.out, hbl2.trans hb'⟩
              case measure => simp [intOf]; omega
          · go_wp2_with fail
            go_ret
            obtain rfl : j = 0 := by omega
            have ho := HO3.out
            simp only [Nat.pow_zero, Nat.div_one, Nat.sub_zero] at ho
            refine ⟨_, rfl, ?_, hbl.trans (hbl2.mono hbl.size)⟩
            rw [enc_length, enc, ← HM.out]
            exact own_mono ho hbl.size
end Go.Proofs.YtdlhkhnoigbhjaaDoor.Wi
namespace Go.Proofs.YtdlhkhnoigbhjaaDoor.Wi
open Go Go.RowKit Pu Lb
set_option linter.unusedSimpArgs false
set_option linter.unusedVariables false
theorem kid_at {ts : List Tree} {i : Nat} (h : i < ts.length) : ∃ t, ts[i]? = some t := ⟨_, List.getElem?_eq_getElem h⟩
theorem tsizes_take {ts : List Tree} {i : Nat} {t : Tree} (h : ts[i]? = some t) : tsizes (ts.take (i + 1)) = tsizes (ts.take i) + tsize t := by
  have hi := (List.getElem?_eq_some_iff.1 h).1
  have hx := (List.getElem?_eq_some_iff.1 h).2
  rw [List.take_succ_eq_append_getElem hi, hx, tsizes_snoc]
theorem tdepths_take {ts : List Tree} {i : Nat} {t : Tree} (h : ts[i]? = some t) : tdepths (ts.take (i + 1)) = max (tdepths (ts.take i)) (tdepth t) := by
  have hi := (List.getElem?_eq_some_iff.1 h).1
  have hx := (List.getElem?_eq_some_iff.1 h).2
  rw [List.take_succ_eq_append_getElem hi, hx, tdepths_snoc]
theorem tsizes_part (ts : List Tree) (i : Nat) : tsizes (ts.take i) ≤ tsizes ts := by
  conv => rhs; rw [← List.take_append_drop i ts, tsizes_app]
  omega
theorem tdepth_le : ∀ t : Tree, tdepth t ≤ tsize t := Tree.ind fun k n m ts ih => by
  rw [tdepth, tsize]
  have : ∀ l : List Tree, (∀ t ∈ l, tdepth t ≤ tsize t) → tdepths l ≤ tsizes l := by
    intro l
    induction l with
    | nil => intro _; rw [tdepths]; exact Nat.zero_le _
    | cons t l ih2 =>
      intro h
      have h1 := h t (by simp)
      have h2 := ih2 (fun u hu => h u (List.mem_cons_of_mem _ hu))
      rw [tdepths, tsizes]; omega
  have := this ts ih
  omega
theorem tdepths_le : ∀ l : List Tree, tdepths l ≤ tsizes l
  | [] => by rw [tdepths]; exact Nat.zero_le _
  | t :: l => by
    have h1 := tdepth_le t
    have h2 := tdepths_le l
    rw [tdepths, tsizes]; omega
theorem tdepths_part (ts : List Tree) (i : Nat) : tdepths (ts.take i) ≤ tdepths ts := by
  conv => rhs; rw [← List.take_append_drop i ts, tdepths_app]
  omega
set_option maxRecDepth 100000 in
theorem size_any : ∀ (t : Tree) (cs : List Value) (w : World), IsT w t cs → tsize t ≤ 1000000 →
    Calls Tryd.prog 15 #[.agg cs.toArray] w fun e w' => e = .returned (.int .i64 (tsize t : Int)) ∧ Below w.heap.size w w' := by
  refine Tree.ind fun k n m ts ih cs w h hs => ?_
  have C4 := Lib.hid h.len
  have C1 := Lib.hid h.ones
  rw [IsT] at h
  obtain ⟨v, xs, rfl, hr, hts⟩ := h
  have X3 := Lib.hid (show ([.int .i64 k, .int .i64 n, .int .i64 m, v] : List Value)[3]? = some v from rfl)
  have XL := Lib.hid hts.len
  have IH := Lib.hid ih
  rw [tsize] at hs
  skip
  have hlen := tsizes_len ts
  have HS := Lib.hid (show tsize (.mk k n m ts) = 1 + tsizes ts by rw [tsize])
  clear ih
  go_enter Tryd.func15, Tryd.ntmps15
  go_upto_region 3 with (first
    | ((with_reducible refine' wpList_boxa (cs := [.int .i64 k, .int .i64 n, .int .i64 m, v]) 25 (.tmp 0) rfl ?_ ?_ ?_); exact rfl; exact rfl; intro w1 hk1 hN1 hz1; simp only [Act.put, List.setIfInBounds_toArray, List.set_cons_succ, List.set_cons_zero])
    | ((with_reducible refine' wpList_field_blk (j := 3) (.tmp 1) 25 3 rfl ?_ fo_node_3 ?_ rfl ?_); exact rfl; exact rfl; simp only [Act.put, List.setIfInBounds_toArray, List.set_cons_succ, List.set_cons_zero]) | ((with_reducible refine' wpList_load_blk (.tmp 6) 23 rfl ?_ ld_nds ?_ hk1 (X3.out) ?_); exact rfl; exact rfl; simp only [Act.put, List.setIfInBounds_toArray, List.set_cons_succ, List.set_cons_zero])
    | ((with_reducible refine' wpList_len_rd (.tmp 7) 23 rfl ?_ Tryd.underlying23 ?_ hr ?_); exact rfl; exact rfl; simp only [Act.put, List.setIfInBounds_toArray, List.set_cons_succ, List.set_cons_zero]))
  clear hz1 hk1
  have hTs := Lib.hid (IsTs.below hN1 hts)
  have hr1 := hr.below hN1
  clear hr hts
  go_loopw [3, 9] (fun s i wr => ∃ j : Nat, j ≤ ts.length ∧ i = .int .i64 (j : Int) ∧ s = .int .i64 ((1 + tsizes (ts.take j) : Nat) : Int) ∧ Below w.heap.size w wr ∧ Below w1.heap.size w1 wr) (fun _ i _ => ts.length - (intOf i).toNat)
  case atStart => exact ⟨0, Nat.zero_le _, rfl, by rw [List.take_zero, tsizes]; rfl, hN1, Below.refl _ _⟩
  case round =>
    obtain ⟨j, hj, rfl, rfl, hb, hb1⟩ := hrel
    by_cases hlt : j < ts.length
    · obtain ⟨t, ht⟩ := kid_at hlt
      have hrj := hr1.below hb1
      have hT := IsT.below hb1 (IsTs.get hTs.out ht)
      obtain ⟨cs, hcs⟩ : ∃ cs, (xs.drop (j * 4)).take 4 = cs := ⟨_, rfl⟩
      rw [hcs] at hT
      have TK := Lib.hid (tsizes_take ht)
      have hp := tsizes_part ts (j + 1)
      rw [TK.out] at hp
      have hq5 := tsize_mem (List.mem_of_getElem? ht)
      have hmem := List.mem_of_getElem? ht
      have CL := Lib.hid hT.len
      have CO := Lib.hid hT.ones
      have HC := Lib.hid hcs
      have BD := Lib.hid (show j * 4 + 4 ≤ xs.length by rw [XL.out]; omega)
      have LE := Lib.hid (show tsize t ≤ 1000000 by omega)
      obtain ⟨q, hq⟩ : ∃ q, tsizes (ts.take j) = q := ⟨_, rfl⟩
      obtain ⟨z, hz⟩ : ∃ z, tsize t = z := ⟨_, rfl⟩
      rw [hq] at hp TK ⊢
      rw [hz] at hp TK
      have HZ := Lib.hid hz
      clear hcs hq hz ht
      obtain ⟨wo, rfl⟩ : ∃ wo : World, wo = wr := ⟨_, rfl⟩
      go_upto_region 5 with (first
        | ((with_reducible refine' wpList_at_rd (.tmp 7) (.tmp 9) 23 rfl ?_ Tryd.underlying23 sz_node ?_ hrj (by decide) (j) ?_ ?_ ?_); exact rfl; exact rfl; (show (_ : Int) = _; omega); omega; simp only [Act.put, List.setIfInBounds_toArray, List.set_cons_succ, List.set_cons_zero]) | ((with_reducible refine' wpList_load_st (cp := cs) (.tmp 11) 25 rfl ?_ Tryd.underlying25 ?_ sz_node ?_ hrj ?_ ?_ HC.out ?_); exact rfl; exact rfl; exact rfl; exact BD.out; decide; simp only [Act.put, List.setIfInBounds_toArray, List.set_cons_succ, List.set_cons_zero])
        | (((with_reducible refine' wpList_alloc_blk (cs := nodz) 25 rfl ?_ zr_node ?_ ?_); exact rfl; exact nodz_cells; intro w2 k5 hN2 hz2; simp only [Act.put, List.setIfInBounds_toArray, List.set_cons_succ, List.set_cons_zero]))
        | (((with_reducible refine' wpList_store_blk (cs := cs) 25 (.tmp 5) (.tmp 12) rfl ?_ ?_ ?_ k5 sz_node ?_ ?_ ?_ ?_); exact rfl; exact rfl; exact rfl; exact CL.out; exact rfl; exact CO.out; intro w3 k5b hO hz3; simp only [Act.put]); replace k5 := k5b; have hN3 := hN2.trans (hO.below (Nat.le_refl _) hN2.size)))
      have hT3 := IsT.below hN3 hT
      go_wp2_with (first
        | ((with_reducible refine' wpList_loadst_blk (.tmp 5) 25 rfl ?_ Tryd.underlying25 ?_ sz_node ?_ k5 ?_ ?_ ?_); exact rfl; exact rfl; exact rfl; exact CL.out; decide; simp only [Act.put, List.setIfInBounds_toArray, List.set_cons_succ, List.set_cons_zero])
        | ((go_at_call 15; (with_reducible refine (IH.out t hmem cs _ hT3 LE.out).mono ?_); rintro e w' ⟨rfl, hN4⟩); rw [HZ.out]))
      go_roundw
      case rel =>
        have hN := hN3.trans (hN4.mono hN3.size)
        exact ⟨j + 1, by omega, by go_num, by rw [TK.out]; go_num, hb.trans (hN.mono hb.size), hb1.trans (hN.mono hb1.size)⟩
      case measure => simp [intOf]; omega
    · obtain rfl : j = ts.length := by omega
      rw [List.take_length]
      go_wp2_with fail
      go_ret
      exact ⟨by rw [HS.out]; rfl, hb⟩
set_option maxRecDepth 100000 in
theorem depth_any : ∀ (t : Tree) (cs : List Value) (w : World), IsT w t cs → tsize t ≤ 1000000 →
    Calls Tryd.prog 17 #[.agg cs.toArray] w fun e w' => e = .returned (.int .i64 (tdepth t : Int)) ∧ Below w.heap.size w w' := by
  refine Tree.ind fun k n m ts ih cs w h hs => ?_
  have C4 := Lib.hid h.len
  have C1 := Lib.hid h.ones
  rw [IsT] at h
  obtain ⟨v, xs, rfl, hr, hts⟩ := h
  have X3 := Lib.hid (show ([.int .i64 k, .int .i64 n, .int .i64 m, v] : List Value)[3]? = some v from rfl)
  have XL := Lib.hid hts.len
  have IH := Lib.hid ih
  rw [tsize] at hs
  have hdl := tdepths_le ts
  have hlen := tsizes_len ts
  have HS := Lib.hid (show tdepth (.mk k n m ts) = tdepths ts + 1 by rw [tdepth])
  clear ih
  go_enter Tryd.func17, Tryd.ntmps17
  go_upto_region 3 with (first
    | ((with_reducible refine' wpList_boxa (cs := [.int .i64 k, .int .i64 n, .int .i64 m, v]) 25 (.tmp 0) rfl ?_ ?_ ?_); exact rfl; exact rfl; intro w1 hk1 hN1 hz1; simp only [Act.put, List.setIfInBounds_toArray, List.set_cons_succ, List.set_cons_zero])
    | ((with_reducible refine' wpList_field_blk (j := 3) (.tmp 1) 25 3 rfl ?_ fo_node_3 ?_ rfl ?_); exact rfl; exact rfl; simp only [Act.put, List.setIfInBounds_toArray, List.set_cons_succ, List.set_cons_zero]) | ((with_reducible refine' wpList_load_blk (.tmp 6) 23 rfl ?_ ld_nds ?_ hk1 (X3.out) ?_); exact rfl; exact rfl; simp only [Act.put, List.setIfInBounds_toArray, List.set_cons_succ, List.set_cons_zero])
    | ((with_reducible refine' wpList_len_rd (.tmp 7) 23 rfl ?_ Tryd.underlying23 ?_ hr ?_); exact rfl; exact rfl; simp only [Act.put, List.setIfInBounds_toArray, List.set_cons_succ, List.set_cons_zero]))
  clear hz1 hk1
  have hTs := Lib.hid (IsTs.below hN1 hts)
  have hr1 := hr.below hN1
  clear hr hts
  go_loopw [3, 9] (fun s i wr => ∃ j : Nat, j ≤ ts.length ∧ i = .int .i64 (j : Int) ∧ s = .int .i64 ((tdepths (ts.take j) : Nat) : Int) ∧ Below w.heap.size w wr ∧ Below w1.heap.size w1 wr) (fun _ i _ => ts.length - (intOf i).toNat)
  case atStart => exact ⟨0, Nat.zero_le _, rfl, by rw [List.take_zero, tdepths]; rfl, hN1, Below.refl _ _⟩
  case round =>
    obtain ⟨j, hj, rfl, rfl, hb, hb1⟩ := hrel
    by_cases hlt : j < ts.length
    · obtain ⟨t, ht⟩ := kid_at hlt
      have hrj := hr1.below hb1
      have hT := IsT.below hb1 (IsTs.get hTs.out ht)
      obtain ⟨cs, hcs⟩ : ∃ cs, (xs.drop (j * 4)).take 4 = cs := ⟨_, rfl⟩
      rw [hcs] at hT
      have TK := Lib.hid (tdepths_take ht)
      have hp := tdepths_part ts (j + 1)
      rw [TK.out] at hp
      have hq5 := tsize_mem (List.mem_of_getElem? ht)
      have hmem := List.mem_of_getElem? ht
      have CL := Lib.hid hT.len
      have CO := Lib.hid hT.ones
      have HC := Lib.hid hcs
      have BD := Lib.hid (show j * 4 + 4 ≤ xs.length by rw [XL.out]; omega)
      have LE := Lib.hid (show tsize t ≤ 1000000 by omega)
      obtain ⟨q, hq⟩ : ∃ q, tdepths (ts.take j) = q := ⟨_, rfl⟩
      obtain ⟨z, hz⟩ : ∃ z, tdepth t = z := ⟨_, rfl⟩
      rw [hq] at hp TK ⊢
      rw [hz] at hp TK
      have HZ := Lib.hid hz
      clear hcs hq hz ht
      obtain ⟨wo, rfl⟩ : ∃ wo : World, wo = wr := ⟨_, rfl⟩
      go_upto_region 5 with (first
        | ((with_reducible refine' wpList_at_rd (.tmp 7) (.tmp 9) 23 rfl ?_ Tryd.underlying23 sz_node ?_ hrj (by decide) (j) ?_ ?_ ?_); exact rfl; exact rfl; (show (_ : Int) = _; omega); omega; simp only [Act.put, List.setIfInBounds_toArray, List.set_cons_succ, List.set_cons_zero]) | ((with_reducible refine' wpList_load_st (cp := cs) (.tmp 11) 25 rfl ?_ Tryd.underlying25 ?_ sz_node ?_ hrj ?_ ?_ HC.out ?_); exact rfl; exact rfl; exact rfl; exact BD.out; decide; simp only [Act.put, List.setIfInBounds_toArray, List.set_cons_succ, List.set_cons_zero])
        | (((with_reducible refine' wpList_alloc_blk (cs := nodz) 25 rfl ?_ zr_node ?_ ?_); exact rfl; exact nodz_cells; intro w2 k5 hN2 hz2; simp only [Act.put, List.setIfInBounds_toArray, List.set_cons_succ, List.set_cons_zero]))
        | (((with_reducible refine' wpList_store_blk (cs := cs) 25 (.tmp 5) (.tmp 12) rfl ?_ ?_ ?_ k5 sz_node ?_ ?_ ?_ ?_); exact rfl; exact rfl; exact rfl; exact CL.out; exact rfl; exact CO.out; intro w3 k5b hO hz3; simp only [Act.put]); replace k5 := k5b; have hN3 := hN2.trans (hO.below (Nat.le_refl _) hN2.size)))
      have hT3 := IsT.below hN3 hT
      go_wp2_with (first
        | ((with_reducible refine' wpList_loadst_blk (.tmp 5) 25 rfl ?_ Tryd.underlying25 ?_ sz_node ?_ k5 ?_ ?_ ?_); exact rfl; exact rfl; exact rfl; exact CL.out; decide; simp only [Act.put, List.setIfInBounds_toArray, List.set_cons_succ, List.set_cons_zero])
        | ((go_at_call 17; (with_reducible refine (IH.out t hmem cs _ hT3 LE.out).mono ?_); rintro e w' ⟨rfl, hN4⟩); rw [HZ.out]))
      go_roundw
      case rel =>
        have hN := hN3.trans (hN4.mono hN3.size)
        exact ⟨j + 1, by omega, by go_num, by rw [TK.out]; go_num, hb.trans (hN.mono hb.size), hb1.trans (hN.mono hb1.size)⟩
      case measure => simp [intOf]; omega
    · obtain rfl : j = ts.length := by omega
      rw [List.take_length]
      go_wp2_with fail
      go_ret
      exact ⟨by rw [HS.out]; rfl, hb⟩
set_option maxRecDepth 100000 in
theorem refsize_any : ∀ (t : Tree) (cs : List Value) (w : World), IsT w t cs → tsize t ≤ 1000000 →
    Calls Tryd.prog 16 #[.agg cs.toArray] w fun e w' => e = .returned (.int .i64 (tsize t : Int)) ∧ Below w.heap.size w w' := by
  refine Tree.ind fun k n m ts ih cs w h hs => ?_
  rw [IsT] at h
  obtain ⟨v, xs, rfl, hr, hts⟩ := h
  have X3 := Lib.hid (show ([.int .i64 k, .int .i64 n, .int .i64 m, v] : List Value)[3]? = some v from rfl)
  have XL := Lib.hid hts.len
  have IH := Lib.hid ih
  rw [tsize] at hs
  have hlen := tsizes_len ts
  skip
  have HS := Lib.hid (show tsize (.mk k n m ts) = 1 + tsizes ts by rw [tsize])
  clear ih
  go_enter Tryd.func16, Tryd.ntmps16
  go_upto_region 3 with (((with_reducible refine' wpList_boxa (cs := [.int .i64 k, .int .i64 n, .int .i64 m, v]) 25 (.tmp 0) rfl ?_ ?_ ?_); exact rfl; exact rfl; intro w1 hk1 hN1 hz1; simp only [Act.put, List.setIfInBounds_toArray, List.set_cons_succ, List.set_cons_zero]))
  clear hz1
  have hTs := Lib.hid (IsTs.below hN1 hts)
  have hr1 := hr.below hN1
  have hl1 := hk1.lt
  clear hr hts
  go_loopw [3, 4] (fun s i wr => ∃ j : Nat, j ≤ ts.length ∧ i = .int .i64 (j : Int) ∧ s = .int .i64 ((1 + tsizes (ts.take j) : Nat) : Int) ∧ Below w.heap.size w wr ∧ Below w1.heap.size w1 wr) (fun _ i _ => ts.length - (intOf i).toNat)
  case atStart => exact ⟨0, Nat.zero_le _, rfl, by rw [List.take_zero, tsizes]; rfl, hN1, Below.refl _ _⟩
  case round =>
    obtain ⟨j, hj, rfl, rfl, hb, hb1⟩ := hrel
    have hrj := hr1.below hb1
    have hkj := hk1.below hb1 hl1
    by_cases hlt : j < ts.length
    · obtain ⟨t, ht⟩ := kid_at hlt
      have hT := IsT.below hb1 (IsTs.get hTs.out ht)
      obtain ⟨cs, hcs⟩ : ∃ cs, (xs.drop (j * 4)).take 4 = cs := ⟨_, rfl⟩
      rw [hcs] at hT
      have TK := Lib.hid (tsizes_take ht)
      have hp := tsizes_part ts (j + 1)
      rw [TK.out] at hp
      have hq5 := tsize_mem (List.mem_of_getElem? ht)
      have hmem := List.mem_of_getElem? ht
      have HC := Lib.hid hcs
      have BD := Lib.hid (show j * 4 + 4 ≤ xs.length by rw [XL.out]; omega)
      have LE := Lib.hid (show tsize t ≤ 1000000 by omega)
      obtain ⟨q, hq⟩ : ∃ q, tsizes (ts.take j) = q := ⟨_, rfl⟩
      obtain ⟨z, hz⟩ : ∃ z, tsize t = z := ⟨_, rfl⟩
      rw [hq] at hp TK ⊢
      rw [hz] at hp TK
      have HZ := Lib.hid hz
      clear hcs hq hz ht
      obtain ⟨wo, rfl⟩ : ∃ wo : World, wo = wr := ⟨_, rfl⟩
      go_wp2_with (first
        | ((with_reducible refine' wpList_field_blk (j := 3) (.tmp 1) 25 3 rfl ?_ fo_node_3 ?_ rfl ?_); exact rfl; exact rfl; simp only [Act.put, List.setIfInBounds_toArray, List.set_cons_succ, List.set_cons_zero]) | ((with_reducible refine' wpList_load_blk (.tmp 6) 23 rfl ?_ ld_nds ?_ hkj (X3.out) ?_); exact rfl; exact rfl; simp only [Act.put, List.setIfInBounds_toArray, List.set_cons_succ, List.set_cons_zero]) | ((with_reducible refine' wpList_load_blk (.tmp 13) 23 rfl ?_ ld_nds ?_ hkj (X3.out) ?_); exact rfl; exact rfl; simp only [Act.put, List.setIfInBounds_toArray, List.set_cons_succ, List.set_cons_zero]) | ((with_reducible refine' wpList_len_rd (.tmp 7) 23 rfl ?_ Tryd.underlying23 ?_ hrj ?_); exact rfl; exact rfl; simp only [Act.put, List.setIfInBounds_toArray, List.set_cons_succ, List.set_cons_zero])
        | ((with_reducible refine' wpList_at_rd (.tmp 14) (.tmp 15) 23 rfl ?_ Tryd.underlying23 sz_node ?_ hrj (by decide) (j) ?_ ?_ ?_); exact rfl; exact rfl; (show (_ : Int) = _; omega); omega; simp only [Act.put, List.setIfInBounds_toArray, List.set_cons_succ, List.set_cons_zero]) | ((with_reducible refine' wpList_load_st (cp := cs) (.tmp 16) 25 rfl ?_ Tryd.underlying25 ?_ sz_node ?_ hrj ?_ ?_ HC.out ?_); exact rfl; exact rfl; exact rfl; exact BD.out; decide; simp only [Act.put, List.setIfInBounds_toArray, List.set_cons_succ, List.set_cons_zero])
        | ((go_at_call 16; (with_reducible refine (IH.out t hmem cs _ hT LE.out).mono ?_); rintro e w' ⟨rfl, hN4⟩); rw [HZ.out]))
      go_roundw
      case rel => exact ⟨j + 1, by omega, by go_num, by rw [TK.out]; go_num, hb.trans (hN4.mono hb.size), hb1.trans (hN4.mono hb1.size)⟩
      case measure => simp [intOf]; omega
    · obtain rfl : j = ts.length := by omega
      rw [List.take_length]
      go_wp2_with (first | ((with_reducible refine' wpList_field_blk (j := 3) (.tmp 1) 25 3 rfl ?_ fo_node_3 ?_ rfl ?_); exact rfl; exact rfl; simp only [Act.put, List.setIfInBounds_toArray, List.set_cons_succ, List.set_cons_zero]) | ((with_reducible refine' wpList_load_blk (.tmp 6) 23 rfl ?_ ld_nds ?_ hkj (X3.out) ?_); exact rfl; exact rfl; simp only [Act.put, List.setIfInBounds_toArray, List.set_cons_succ, List.set_cons_zero]) | ((with_reducible refine' wpList_len_rd (.tmp 7) 23 rfl ?_ Tryd.underlying23 ?_ hrj ?_); exact rfl; exact rfl; simp only [Act.put, List.setIfInBounds_toArray, List.set_cons_succ, List.set_cons_zero]))
      go_ret
      exact ⟨by rw [HS.out]; rfl, hb⟩
set_option maxRecDepth 100000 in
theorem refdepth_any : ∀ (t : Tree) (cs : List Value) (w : World), IsT w t cs → tsize t ≤ 1000000 →
    Calls Tryd.prog 18 #[.agg cs.toArray] w fun e w' => e = .returned (.int .i64 (tdepth t : Int)) ∧ Below w.heap.size w w' := by
  refine Tree.ind fun k n m ts ih cs w h hs => ?_
  rw [IsT] at h
  obtain ⟨v, xs, rfl, hr, hts⟩ := h
  have X3 := Lib.hid (show ([.int .i64 k, .int .i64 n, .int .i64 m, v] : List Value)[3]? = some v from rfl)
  have XL := Lib.hid hts.len
  have IH := Lib.hid ih
  rw [tsize] at hs
  have hlen := tsizes_len ts
  have hdl := tdepths_le ts
  have HS := Lib.hid (show tdepth (.mk k n m ts) = tdepths ts + 1 by rw [tdepth])
  clear ih
  go_enter Tryd.func18, Tryd.ntmps18
  go_upto_region 3 with (((with_reducible refine' wpList_boxa (cs := [.int .i64 k, .int .i64 n, .int .i64 m, v]) 25 (.tmp 0) rfl ?_ ?_ ?_); exact rfl; exact rfl; intro w1 hk1 hN1 hz1; simp only [Act.put, List.setIfInBounds_toArray, List.set_cons_succ, List.set_cons_zero]))
  clear hz1
  have hTs := Lib.hid (IsTs.below hN1 hts)
  have hr1 := hr.below hN1
  have hl1 := hk1.lt
  clear hr hts
  go_loopw [3, 4] (fun s i wr => ∃ j : Nat, j ≤ ts.length ∧ i = .int .i64 (j : Int) ∧ s = .int .i64 ((tdepths (ts.take j) : Nat) : Int) ∧ Below w.heap.size w wr ∧ Below w1.heap.size w1 wr) (fun _ i _ => ts.length - (intOf i).toNat)
  case atStart => exact ⟨0, Nat.zero_le _, rfl, by rw [List.take_zero, tdepths]; rfl, hN1, Below.refl _ _⟩
  case round =>
    obtain ⟨j, hj, rfl, rfl, hb, hb1⟩ := hrel
    have hrj := hr1.below hb1
    have hkj := hk1.below hb1 hl1
    by_cases hlt : j < ts.length
    · obtain ⟨t, ht⟩ := kid_at hlt
      have hT := IsT.below hb1 (IsTs.get hTs.out ht)
      obtain ⟨cs, hcs⟩ : ∃ cs, (xs.drop (j * 4)).take 4 = cs := ⟨_, rfl⟩
      rw [hcs] at hT
      have TK := Lib.hid (tdepths_take ht)
      have hp := tdepths_part ts (j + 1)
      rw [TK.out] at hp
      have hq5 := tsize_mem (List.mem_of_getElem? ht)
      have hmem := List.mem_of_getElem? ht
      have HC := Lib.hid hcs
      have BD := Lib.hid (show j * 4 + 4 ≤ xs.length by rw [XL.out]; omega)
      have LE := Lib.hid (show tsize t ≤ 1000000 by omega)
      obtain ⟨q, hq⟩ : ∃ q, tdepths (ts.take j) = q := ⟨_, rfl⟩
      obtain ⟨z, hz⟩ : ∃ z, tdepth t = z := ⟨_, rfl⟩
      rw [hq] at hp TK ⊢
      rw [hz] at hp TK
      have HZ := Lib.hid hz
      clear hcs hq hz ht
      obtain ⟨wo, rfl⟩ : ∃ wo : World, wo = wr := ⟨_, rfl⟩
      go_wp2_with (first
        | ((with_reducible refine' wpList_field_blk (j := 3) (.tmp 1) 25 3 rfl ?_ fo_node_3 ?_ rfl ?_); exact rfl; exact rfl; simp only [Act.put, List.setIfInBounds_toArray, List.set_cons_succ, List.set_cons_zero]) | ((with_reducible refine' wpList_load_blk (.tmp 6) 23 rfl ?_ ld_nds ?_ hkj (X3.out) ?_); exact rfl; exact rfl; simp only [Act.put, List.setIfInBounds_toArray, List.set_cons_succ, List.set_cons_zero]) | ((with_reducible refine' wpList_load_blk (.tmp 13) 23 rfl ?_ ld_nds ?_ hkj (X3.out) ?_); exact rfl; exact rfl; simp only [Act.put, List.setIfInBounds_toArray, List.set_cons_succ, List.set_cons_zero]) | ((with_reducible refine' wpList_len_rd (.tmp 7) 23 rfl ?_ Tryd.underlying23 ?_ hrj ?_); exact rfl; exact rfl; simp only [Act.put, List.setIfInBounds_toArray, List.set_cons_succ, List.set_cons_zero])
        | ((with_reducible refine' wpList_at_rd (.tmp 14) (.tmp 15) 23 rfl ?_ Tryd.underlying23 sz_node ?_ hrj (by decide) (j) ?_ ?_ ?_); exact rfl; exact rfl; (show (_ : Int) = _; omega); omega; simp only [Act.put, List.setIfInBounds_toArray, List.set_cons_succ, List.set_cons_zero]) | ((with_reducible refine' wpList_load_st (cp := cs) (.tmp 16) 25 rfl ?_ Tryd.underlying25 ?_ sz_node ?_ hrj ?_ ?_ HC.out ?_); exact rfl; exact rfl; exact rfl; exact BD.out; decide; simp only [Act.put, List.setIfInBounds_toArray, List.set_cons_succ, List.set_cons_zero])
        | ((go_at_call 18; (with_reducible refine (IH.out t hmem cs _ hT LE.out).mono ?_); rintro e w' ⟨rfl, hN4⟩); rw [HZ.out]))
      go_roundw
      case rel => exact ⟨j + 1, by omega, by go_num, by rw [TK.out]; go_num, hb.trans (hN4.mono hb.size), hb1.trans (hN4.mono hb1.size)⟩
      case measure => simp [intOf]; omega
    · obtain rfl : j = ts.length := by omega
      rw [List.take_length]
      go_wp2_with (first | ((with_reducible refine' wpList_field_blk (j := 3) (.tmp 1) 25 3 rfl ?_ fo_node_3 ?_ rfl ?_); exact rfl; exact rfl; simp only [Act.put, List.setIfInBounds_toArray, List.set_cons_succ, List.set_cons_zero]) | ((with_reducible refine' wpList_load_blk (.tmp 6) 23 rfl ?_ ld_nds ?_ hkj (X3.out) ?_); exact rfl; exact rfl; simp only [Act.put, List.setIfInBounds_toArray, List.set_cons_succ, List.set_cons_zero]) | ((with_reducible refine' wpList_len_rd (.tmp 7) 23 rfl ?_ Tryd.underlying23 ?_ hrj ?_); exact rfl; exact rfl; simp only [Act.put, List.setIfInBounds_toArray, List.set_cons_succ, List.set_cons_zero]))
      go_ret
      exact ⟨by rw [HS.out]; rfl, hb⟩
end Go.Proofs.YtdlhkhnoigbhjaaDoor.Wi
namespace Go.Proofs.YtdlhkhnoigbhjaaDoor.Pu
def sgn (a b : Int) : Int := if a < b then -1 else if b < a then 1 else 0
def orI : List Int → Int
  | [] => 0
  | x :: l => if x ≠ 0 then x else orI l
mutual
def tcmp : Tree → Tree → Int
  | .mk k n m ts, .mk k' n' m' us => orI [sgn k k', sgn n n', sgn m m', tcmps ts us]
def tcmps : List Tree → List Tree → Int
  | [], [] => 0
  | [], _ :: _ => -1
  | _ :: _, [] => 1
  | t :: ts, u :: us => if tcmp t u ≠ 0 then tcmp t u else tcmps ts us
end
theorem orI_skip : ∀ {l : List Int} {j : Nat}, (∀ x ∈ l.take j, x = 0) → orI l = orI (l.drop j)
  | _, 0, _ => rfl
  | [], j + 1, _ => rfl
  | x :: l, j + 1, h => by
    have hx : x = 0 := h x (by simp)
    rw [orI, if_neg (by omega), List.drop_succ_cons]
    exact orI_skip fun y hy => h y (by simp [hy])
theorem tcmps_skip : ∀ {ts us : List Tree} {j : Nat}, j ≤ ts.length → j ≤ us.length → (∀ (i : Nat) (t u : Tree), i < j → ts[i]? = some t → us[i]? = some u → tcmp t u = 0) → tcmps ts us = tcmps (ts.drop j) (us.drop j)
  | _, _, 0, _, _, _ => rfl
  | [], _, j + 1, h, _, _ => by simp at h
  | _ :: _, [], j + 1, _, h, _ => by simp at h
  | t :: ts, u :: us, j + 1, h1, h2, h => by
    rw [tcmps, if_neg (by rw [h 0 t u (by omega) rfl rfl]; simp), List.drop_succ_cons, List.drop_succ_cons]
    exact tcmps_skip (by simpa using h1) (by simpa using h2) fun i a b hi ha hb => h (i + 1) a b (by omega) (by simpa using ha) (by simpa using hb)
end Go.Proofs.YtdlhkhnoigbhjaaDoor.Pu
namespace Go.Proofs.YtdlhkhnoigbhjaaDoor.Wi
open Go Go.RowKit Pu Lb
set_option linter.unusedSimpArgs false
set_option linter.unusedVariables false
set_option maxRecDepth 100000 in
theorem isnan_any (x : Int) (w : World) : Calls Tryd.prog 74 #[.int .i64 x] w fun e w' => e = .returned (.bool false) ∧ w = w' := by
  have HX := Lib.hid (show (x != x) = false by simp)
  go_enter Tryd.func74, Tryd.ntmps74
  go_wp2_with (rw [HX.out])
  go_ret
  exact ⟨rfl, rfl⟩
set_option maxRecDepth 100000 in
theorem cmpint_any (x y : Int) (w : World) : Calls Tryd.prog 50 #[.int .i64 x, .int .i64 y] w fun e w' => e = .returned (.int .i64 (sgn x y)) ∧ w = w' := by
  rcases Int.lt_trichotomy x y with h | h | h
  · have HS := Lib.hid (show sgn x y = -1 by unfold sgn; rw [if_pos h])
    go_enter Tryd.func50, Tryd.ntmps50
    go_wp2_with (first | (go_at_call 74; (with_reducible refine (isnan_any x _).mono ?_); rintro e w' ⟨rfl, rfl⟩) | (go_at_call 74; (with_reducible refine (isnan_any y _).mono ?_); rintro e w' ⟨rfl, rfl⟩))
    go_ret
    exact ⟨by rw [HS.out]; rfl, rfl⟩
  · have HS := Lib.hid (show sgn x y = 0 by unfold sgn; rw [if_neg (by omega), if_neg (by omega)])
    go_enter Tryd.func50, Tryd.ntmps50
    go_wp2_with (first | (go_at_call 74; (with_reducible refine (isnan_any x _).mono ?_); rintro e w' ⟨rfl, rfl⟩) | (go_at_call 74; (with_reducible refine (isnan_any y _).mono ?_); rintro e w' ⟨rfl, rfl⟩))
    go_ret
    exact ⟨by rw [HS.out]; rfl, rfl⟩
  · have HS := Lib.hid (show sgn x y = 1 by unfold sgn; rw [if_neg (by omega), if_pos h])
    go_enter Tryd.func50, Tryd.ntmps50
    go_wp2_with (first | (go_at_call 74; (with_reducible refine (isnan_any x _).mono ?_); rintro e w' ⟨rfl, rfl⟩) | (go_at_call 74; (with_reducible refine (isnan_any y _).mono ?_); rintro e w' ⟨rfl, rfl⟩))
    go_ret
    exact ⟨by rw [HS.out]; rfl, rfl⟩
theorem ivl_at {l : List Int} {k : Nat} {x : Int} (h : l[k]? = some x) : (iv l)[k]? = some (.int .i64 x) := by unfold iv; rw [List.getElem?_map, h]; rfl
theorem ivl_len (l : List Int) : (iv l).length = l.length := by unfold iv; rw [List.length_map]
set_option maxRecDepth 100000 in
theorem or_any (v : Value) (n : Nat) (l : List Int) (w : World) (h : Rd w 1 v n (iv l)) : Calls Tryd.prog 49 #[v] w fun e w' => e = .returned (.int .i64 (orI l)) ∧ w = w' := by
  have hn := h.1
  rw [ivl_len, Nat.mul_one] at hn
  have hmx := h.len
  unfold maxLen at hmx
  go_enter Tryd.func49, Tryd.ntmps49
  go_upto_region 3 with (first | ((with_reducible refine' wpList_len_rd (.tmp 6) 22 rfl ?_ Tryd.underlying22 ?_ h ?_); exact rfl; exact rfl; simp only [Act.put, List.setIfInBounds_toArray, List.set_cons_succ, List.set_cons_zero]))
  go_loopw [8] (fun i wr => ∃ j : Nat, j ≤ n ∧ i = .int .i64 (j : Int) ∧ Hid (∀ x ∈ l.take j, x = 0) ∧ w = wr) (fun i _ => n - (intOf i).toNat)
  case atStart => exact ⟨0, Nat.zero_le _, rfl, Lib.hid (by intro x hx; simp at hx), rfl⟩
  case round =>
    obtain ⟨j, hj, rfl, HZ, rfl⟩ := hrel
    by_cases hlt : j < n
    · obtain ⟨x, hx⟩ : ∃ x, l[j]? = some x := ⟨_, List.getElem?_eq_getElem (by omega)⟩
      have C := Lib.hid (ivl_at hx)
      by_cases h0 : x = 0
      · subst h0
        have NZ := Lib.hid (show ∀ x ∈ l.take (j + 1), x = 0 by
          intro y hy
          have hi := (List.getElem?_eq_some_iff.1 hx).1
          rw [List.take_succ_eq_append_getElem hi, (List.getElem?_eq_some_iff.1 hx).2, List.mem_append] at hy
          rcases hy with hy | hy
          · exact HZ.out y hy
          · simpa using hy)
        clear hx
        go_wp2_with (first | ((with_reducible refine' wpList_at1_rd (.tmp 6) (.tmp 8) 22 rfl ?_ Tryd.underlying22 sz_int ?_ h (j) ?_ ?_ ?_); exact rfl; exact rfl; (show (_ : Int) = _; omega); omega; simp only [Act.put, List.setIfInBounds_toArray, List.set_cons_succ, List.set_cons_zero]) | ((with_reducible refine' wpList_load_rd (.tmp 10) 3 rfl ?_ ld_int ?_ h (C.out) ?_); exact rfl; exact rfl; simp only [Act.put, List.setIfInBounds_toArray, List.set_cons_succ, List.set_cons_zero]))
        go_roundw
        case rel => exact ⟨j + 1, by omega, by go_num, NZ, by first | rfl | trivial⟩
        case measure => simp [intOf]; omega
      · have HS := Lib.hid (show orI l = x by
          rw [orI_skip HZ.out]
          have hi := (List.getElem?_eq_some_iff.1 hx).1
          rw [List.drop_eq_getElem_cons hi, (List.getElem?_eq_some_iff.1 hx).2, orI, if_pos h0])
        clear hx
        go_wp2_with (first | ((with_reducible refine' wpList_at1_rd (.tmp 6) (.tmp 8) 22 rfl ?_ Tryd.underlying22 sz_int ?_ h (j) ?_ ?_ ?_); exact rfl; exact rfl; (show (_ : Int) = _; omega); omega; simp only [Act.put, List.setIfInBounds_toArray, List.set_cons_succ, List.set_cons_zero]) | ((with_reducible refine' wpList_load_rd (.tmp 10) 3 rfl ?_ ld_int ?_ h (C.out) ?_); exact rfl; exact rfl; simp only [Act.put, List.setIfInBounds_toArray, List.set_cons_succ, List.set_cons_zero]))
        go_ret
        exact ⟨by rw [HS.out]; rfl, rfl⟩
    · obtain rfl : j = n := by omega
      have HS := Lib.hid (show orI l = 0 by
        have h2 := HZ.out
        rw [orI_skip h2, List.drop_of_length_le (by omega)]; rfl)
      go_wp2_with fail
      go_ret
      exact ⟨by rw [HS.out]; rfl, rfl⟩
end Go.Proofs.YtdlhkhnoigbhjaaDoor.Wi
namespace Go.Proofs.YtdlhkhnoigbhjaaDoor.Wi
open Go Go.RowKit Pu Lb
set_option linter.unusedSimpArgs false
set_option linter.unusedVariables false
abbrev cmpV : Value := .func (.func 19) #[] #[]
theorem drop_kid {ts : List Tree} {j : Nat} {t : Tree} (h : ts[j]? = some t) : ts.drop j = t :: ts.drop (j + 1) := by
  have hi := (List.getElem?_eq_some_iff.1 h).1
  rw [List.drop_eq_getElem_cons hi, (List.getElem?_eq_some_iff.1 h).2]
set_option maxRecDepth 100000 in
theorem cmpfunc_any (ts us : List Tree) (v1 v2 : Value) (xs ys : List Value) (w : World) (hr1 : Rd w 4 v1 ts.length xs) (ht1 : IsTs w ts xs) (hr2 : Rd w 4 v2 us.length ys) (ht2 : IsTs w us ys)
    (ih : ∀ t ∈ ts, ∀ (u : Tree) (cs ds : List Value) (w : World), IsT w t cs → IsT w u ds → Calls Tryd.prog 19 #[.agg cs.toArray, .agg ds.toArray] w fun e w' => e = .returned (.int .i64 (tcmp t u)) ∧ Below w.heap.size w w') :
    Calls Tryd.prog 51 #[v1, v2, cmpV] w fun e w' => e = .returned (.int .i64 (tcmps ts us)) ∧ Below w.heap.size w w' := by
  have hm1 := hr1.len
  have hm2 := hr2.len
  unfold maxLen at hm1 hm2
  have XL := Lib.hid ht1.len
  have YL := Lib.hid ht2.len
  have IH := Lib.hid ih
  have T1 := Lib.hid ht1
  have T2 := Lib.hid ht2
  clear ih ht1 ht2
  go_enter Tryd.func51, Tryd.ntmps51
  go_upto_region 2 with (((with_reducible refine' wpList_len_rd (.tmp 11) 23 rfl ?_ Tryd.underlying23 ?_ hr1 ?_); exact rfl; exact rfl; simp only [Act.put, List.setIfInBounds_toArray, List.set_cons_succ, List.set_cons_zero]))
  go_loopw [13] (fun i wr => ∃ j : Nat, j ≤ ts.length ∧ j ≤ us.length ∧ i = .int .i64 (j : Int) ∧ Hid (∀ (i : Nat) (t u : Tree), i < j → ts[i]? = some t → us[i]? = some u → tcmp t u = 0) ∧ Below w.heap.size w wr) (fun i _ => ts.length - (intOf i).toNat)
  case atStart => exact ⟨0, Nat.zero_le _, Nat.zero_le _, rfl, Lib.hid (fun i t u hi => by omega), Below.refl _ _⟩
  case round =>
    obtain ⟨j, hj1, hj2, rfl, HZ, hb⟩ := hrel
    have g1 := hr1.below hb
    have g2 := hr2.below hb
    by_cases hlt1 : j < ts.length
    · obtain ⟨t, ht⟩ := kid_at hlt1
      have hT := IsT.below hb (IsTs.get T1.out ht)
      obtain ⟨cs, hcs⟩ : ∃ cs, (xs.drop (j * 4)).take 4 = cs := ⟨_, rfl⟩
      rw [hcs] at hT
      have HC := Lib.hid hcs
      have BD := Lib.hid (show j * 4 + 4 ≤ xs.length by rw [XL.out]; omega)
      have CL := Lib.hid hT.len
      have CO := Lib.hid hT.ones
      obtain ⟨wo, rfl⟩ : ∃ wo : World, wo = wr := ⟨_, rfl⟩
      by_cases hlt2 : j < us.length
      · obtain ⟨u, hu⟩ := kid_at hlt2
        have hU := IsT.below hb (IsTs.get T2.out hu)
        obtain ⟨ds, hds⟩ : ∃ ds, (ys.drop (j * 4)).take 4 = ds := ⟨_, rfl⟩
        rw [hds] at hU
        have HD := Lib.hid hds
        have BE := Lib.hid (show j * 4 + 4 ≤ ys.length by rw [YL.out]; omega)
        have DL := Lib.hid hU.len
        have DO := Lib.hid hU.ones
        have hmem := List.mem_of_getElem? ht
        have HN := Lib.hid (fun (h : tcmp t u = 0) => (show ∀ (i : Nat) (t u : Tree), i < j + 1 → ts[i]? = some t → us[i]? = some u → tcmp t u = 0 by
          intro i a b hi ha hb
          rcases Nat.lt_or_ge i j with h2 | h2
          · exact HZ.out i a b h2 ha hb
          · obtain rfl : i = j := by omega
            rw [ht] at ha
            rw [hu] at hb
            cases ha; cases hb; exact h))
        have HS := Lib.hid (fun (h : tcmp t u ≠ 0) => (show tcmps ts us = tcmp t u by
          rw [tcmps_skip (by omega) (by omega) HZ.out, drop_kid ht, drop_kid hu, tcmps, if_pos h]))
        clear hcs hds ht hu
        obtain ⟨c, hc⟩ : ∃ c, tcmp t u = c := ⟨_, rfl⟩
        rw [hc] at HN HS
        have HCC := Lib.hid hc
        clear hc
        go_upto_region 6 with (first
          | ((with_reducible refine' wpList_at_rd (.tmp 11) (.tmp 13) 23 rfl ?_ Tryd.underlying23 sz_node ?_ g1 (by decide) (j) ?_ ?_ ?_); exact rfl; exact rfl; (show (_ : Int) = _; omega); omega; simp only [Act.put, List.setIfInBounds_toArray, List.set_cons_succ, List.set_cons_zero]) | ((with_reducible refine' wpList_load_st (cp := cs) (.tmp 16) 25 rfl ?_ Tryd.underlying25 ?_ sz_node ?_ g1 ?_ ?_ HC.out ?_); exact rfl; exact rfl; exact rfl; exact BD.out; decide; simp only [Act.put, List.setIfInBounds_toArray, List.set_cons_succ, List.set_cons_zero])
          | (((with_reducible refine' wpList_alloc_blk (cs := nodz) 25 rfl ?_ zr_node ?_ ?_); exact rfl; exact nodz_cells; intro w2 k8 hN2 hz2; simp only [Act.put, List.setIfInBounds_toArray, List.set_cons_succ, List.set_cons_zero]))
          | (((with_reducible refine' wpList_store_blk (cs := cs) 25 (.tmp 8) (.tmp 17) rfl ?_ ?_ ?_ k8 sz_node ?_ ?_ ?_ ?_); exact rfl; exact rfl; exact rfl; exact CL.out; exact rfl; exact CO.out; intro w3 k8b hO hz3; simp only [Act.put]); replace k8 := k8b; have hN3 := hN2.trans (hO.below (Nat.le_refl _) hN2.size))
          | ((with_reducible refine' wpList_len_rd (.tmp 19) 23 rfl ?_ Tryd.underlying23 ?_ hr2 ?_); exact rfl; exact rfl; simp only [Act.put, List.setIfInBounds_toArray, List.set_cons_succ, List.set_cons_zero]))
        have g2b := g2.below hN3
        have l8 := k8.lt
        clear k8b hO hN2
        obtain ⟨B8, hB8⟩ : ∃ B, wo.heap.size = B := ⟨_, rfl⟩
        rw [hB8] at k8 l8 ⊢
        go_upto_region 7 with (first
          | ((with_reducible refine' wpList_at_rd (.tmp 22) (.tmp 23) 23 rfl ?_ Tryd.underlying23 sz_node ?_ g2b (by decide) (j) ?_ ?_ ?_); exact rfl; exact rfl; (show (_ : Int) = _; omega); omega; simp only [Act.put, List.setIfInBounds_toArray, List.set_cons_succ, List.set_cons_zero]) | ((with_reducible refine' wpList_load_st (cp := ds) (.tmp 24) 25 rfl ?_ Tryd.underlying25 ?_ sz_node ?_ g2b ?_ ?_ HD.out ?_); exact rfl; exact rfl; exact rfl; exact BE.out; decide; simp only [Act.put, List.setIfInBounds_toArray, List.set_cons_succ, List.set_cons_zero])
          | (((with_reducible refine' wpList_alloc_blk (cs := nodz) 25 rfl ?_ zr_node ?_ ?_); exact rfl; exact nodz_cells; intro w4 k9 hN4 hz4; simp only [Act.put, List.setIfInBounds_toArray, List.set_cons_succ, List.set_cons_zero]))
          | (((with_reducible refine' wpList_store_blk (cs := ds) 25 (.tmp 9) (.tmp 25) rfl ?_ ?_ ?_ k9 sz_node ?_ ?_ ?_ ?_); exact rfl; exact rfl; exact rfl; exact DL.out; exact rfl; exact DO.out; intro w5 k9b hO hz5; simp only [Act.put]); replace k9 := k9b; have hN5 := hN4.trans (hO.below (Nat.le_refl _) hN4.size)))
        have k8c := k8.below hN5 l8
        have hN35 := hN3.trans (hN5.mono hN3.size)
        have hT5 := IsT.below hN35 hT
        have hU5 := IsT.below hN35 hU
        by_cases h0 : c = 0
        · subst h0
          go_wp2_with (first
            | ((with_reducible refine' wpList_loadst_blk (.tmp 8) 25 rfl ?_ Tryd.underlying25 ?_ sz_node ?_ k8c ?_ ?_ ?_); exact rfl; exact rfl; exact rfl; exact CL.out; decide; simp only [Act.put, List.setIfInBounds_toArray, List.set_cons_succ, List.set_cons_zero]) | ((with_reducible refine' wpList_loadst_blk (.tmp 9) 25 rfl ?_ Tryd.underlying25 ?_ sz_node ?_ k9 ?_ ?_ ?_); exact rfl; exact rfl; exact rfl; exact DL.out; decide; simp only [Act.put, List.setIfInBounds_toArray, List.set_cons_succ, List.set_cons_zero])
            | ((go_at_call 19; (with_reducible refine (IH.out t hmem u cs ds _ hT5 hU5).mono ?_); rintro e w' ⟨rfl, hN6⟩); rw [HCC.out]))
          go_roundw
          case rel =>
            have hN := hN35.trans (hN6.mono hN35.size)
            exact ⟨j + 1, by omega, by omega, by go_num, Lib.hid (HN.out (by first | rfl | trivial)), hb.trans (hN.mono hb.size)⟩
          case measure => simp [intOf]; omega
        · go_wp2_with (first
            | ((with_reducible refine' wpList_loadst_blk (.tmp 8) 25 rfl ?_ Tryd.underlying25 ?_ sz_node ?_ k8c ?_ ?_ ?_); exact rfl; exact rfl; exact rfl; exact CL.out; decide; simp only [Act.put, List.setIfInBounds_toArray, List.set_cons_succ, List.set_cons_zero]) | ((with_reducible refine' wpList_loadst_blk (.tmp 9) 25 rfl ?_ Tryd.underlying25 ?_ sz_node ?_ k9 ?_ ?_ ?_); exact rfl; exact rfl; exact rfl; exact DL.out; decide; simp only [Act.put, List.setIfInBounds_toArray, List.set_cons_succ, List.set_cons_zero])
            | ((go_at_call 19; (with_reducible refine (IH.out t hmem u cs ds _ hT5 hU5).mono ?_); rintro e w' ⟨rfl, hN6⟩); rw [HCC.out]))
          go_ret
          have hN := hN35.trans (hN6.mono hN35.size)
          exact ⟨by rw [HS.out h0]; rfl, hb.trans (hN.mono hb.size)⟩
      · obtain rfl : j = us.length := by omega
        have HS := Lib.hid (show tcmps ts us = 1 by
          rw [tcmps_skip (by omega) (Nat.le_refl _) HZ.out, drop_kid ht, List.drop_length, tcmps])
        clear hcs ht
        go_wp2_with (first
          | ((with_reducible refine' wpList_at_rd (.tmp 11) (.tmp 13) 23 rfl ?_ Tryd.underlying23 sz_node ?_ g1 (by decide) (us.length) ?_ ?_ ?_); exact rfl; exact rfl; (show (_ : Int) = _; omega); omega; simp only [Act.put, List.setIfInBounds_toArray, List.set_cons_succ, List.set_cons_zero]) | ((with_reducible refine' wpList_load_st (cp := cs) (.tmp 16) 25 rfl ?_ Tryd.underlying25 ?_ sz_node ?_ g1 ?_ ?_ HC.out ?_); exact rfl; exact rfl; exact rfl; exact BD.out; decide; simp only [Act.put, List.setIfInBounds_toArray, List.set_cons_succ, List.set_cons_zero])
          | (((with_reducible refine' wpList_alloc_blk (cs := nodz) 25 rfl ?_ zr_node ?_ ?_); exact rfl; exact nodz_cells; intro w2 k8 hN2 hz2; simp only [Act.put, List.setIfInBounds_toArray, List.set_cons_succ, List.set_cons_zero]))
          | (((with_reducible refine' wpList_store_blk (cs := cs) 25 (.tmp 8) (.tmp 17) rfl ?_ ?_ ?_ k8 sz_node ?_ ?_ ?_ ?_); exact rfl; exact rfl; exact rfl; exact CL.out; exact rfl; exact CO.out; intro w3 k8b hO hz3; simp only [Act.put]); have hN3 := hN2.trans (hO.below (Nat.le_refl _) hN2.size))
          | ((with_reducible refine' wpList_len_rd (.tmp 19) 23 rfl ?_ Tryd.underlying23 ?_ hr2 ?_); exact rfl; exact rfl; simp only [Act.put, List.setIfInBounds_toArray, List.set_cons_succ, List.set_cons_zero]))
        go_ret
        exact ⟨by rw [HS.out]; rfl, hb.trans (hN3.mono hb.size)⟩
    · obtain rfl : j = ts.length := by omega
      by_cases hlt2 : ts.length < us.length
      · obtain ⟨u, hu⟩ := kid_at hlt2
        have HS := Lib.hid (show tcmps ts us = -1 by
          rw [tcmps_skip (Nat.le_refl _) hj2 HZ.out, drop_kid hu, List.drop_length, tcmps])
        clear hu
        go_wp2_with (first | ((with_reducible refine' wpList_len_rd (.tmp 34) 23 rfl ?_ Tryd.underlying23 ?_ hr1 ?_); exact rfl; exact rfl; simp only [Act.put, List.setIfInBounds_toArray, List.set_cons_succ, List.set_cons_zero]) | ((with_reducible refine' wpList_len_rd (.tmp 36) 23 rfl ?_ Tryd.underlying23 ?_ hr2 ?_); exact rfl; exact rfl; simp only [Act.put, List.setIfInBounds_toArray, List.set_cons_succ, List.set_cons_zero]))
        go_ret
        exact ⟨by rw [HS.out]; rfl, hb⟩
      · have HS := Lib.hid (show tcmps ts us = 0 by
          rw [tcmps_skip (Nat.le_refl _) hj2 HZ.out, List.drop_length, List.drop_of_length_le (by omega), tcmps])
        go_wp2_with (first | ((with_reducible refine' wpList_len_rd (.tmp 34) 23 rfl ?_ Tryd.underlying23 ?_ hr1 ?_); exact rfl; exact rfl; simp only [Act.put, List.setIfInBounds_toArray, List.set_cons_succ, List.set_cons_zero]) | ((with_reducible refine' wpList_len_rd (.tmp 36) 23 rfl ?_ Tryd.underlying23 ?_ hr2 ?_); exact rfl; exact rfl; simp only [Act.put, List.setIfInBounds_toArray, List.set_cons_succ, List.set_cons_zero]))
        go_ret
        exact ⟨by rw [HS.out]; rfl, hb⟩
end Go.Proofs.YtdlhkhnoigbhjaaDoor.Wi
