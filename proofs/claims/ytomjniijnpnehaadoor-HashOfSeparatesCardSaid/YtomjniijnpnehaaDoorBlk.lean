/-
  Variables that lie in memory (arrays, boxed numbers), known whole: a block by its cells ('Blk'); the operations on it as laws of the walk. Over whatever program. Conditions: those that each law names.
-/
import Derived.Test.YtomjniijnpnehaaDoorArr
namespace Go.Proofs.YtomjniijnpnehaaDoor.Lb
open Go Go.RowKit Go.Lib

/-- block B holds the cells cs, and may be written -/
def Blk (w : World) (B : Nat) (t : TypeId) (cs : List Value) : Prop := w.heap[B]? = some (.cells cs.toArray t (0, 0))

theorem Blk.lt {w : World} {B : Nat} {t : TypeId} {cs : List Value} (h : Blk w B t cs) : B < w.heap.size := (Array.getElem?_eq_some_iff.1 h).1
theorem Blk.below {w w' : World} {B C : Nat} {t : TypeId} {cs : List Value} (h : Blk w B t cs) (hb : Below C w w') (hC : B < C) : Blk w' B t cs := by
  unfold Blk; rw [hb.block B hC]; exact h
theorem Blk.cell {w : World} {B : Nat} {t : TypeId} {cs : List Value} (h : Blk w B t cs) {j : Nat} {u : Value} (hu : cs[j]? = some u) : w.cell? ⟨B, j, none⟩ = some u := by
  rw [cell_of_row w B j _ t (0, 0) h]; simpa using hu
theorem Blk.free {w : World} {B : Nat} {t : TypeId} {cs : List Value} (h : Blk w B t cs) (j : Nat) : w.frozen? ⟨B, j, none⟩ = false := by
  unfold World.frozen?; rw [h]; simp
theorem Blk.drewN {w : World} {B : Nat} {t : TypeId} {cs : List Value} (h : Blk w B t cs) (n : Nat) : Blk (w.drewN n) B t cs := h
/-- a whole block reads as a slice over it -/
theorem Blk.rd {w : World} {B : Nat} {t : TypeId} {cs : List Value} (h : Blk w B t cs) (o n cap s : Nat) (h1 : o + n * s ≤ cs.length) (h2 : n ≤ cap) (h3 : cap ≤ maxLen) :
    Rd w s (.slice (some ⟨B, o, none⟩) n cap) n ((cs.drop o).take (n * s)) := by
  refine ⟨by rw [List.length_take, List.length_drop]; omega, _, _, rfl, h2, h3, (fun h => by cases h), fun j u hu => ⟨B, o, rfl, ?_⟩⟩
  rw [List.getElem?_take] at hu
  split at hu
  · rw [List.getElem?_drop] at hu; exact h.cell hu
  · cases hu

/-- only block B may have changed, and blocks may have come -/
def Only (B : Nat) (w w' : World) : Prop := w.grownBy w' (some B)
theorem Only.below {B C : Nat} {w w' : World} (h : Only B w w') (hC : C ≤ B) (hs : C ≤ w.heap.size) : Below C w w' := (Below.refl C w).grown h hs fun k hk => by simp at hk; omega
theorem Only.blk {B C : Nat} {t : TypeId} {cs : List Value} {w w' : World} (h : Only B w w') (hb : Blk w C t cs) (hne : C ≠ B) : Blk w' C t cs := by
  unfold Blk; rw [h.block C hb.lt (by simp; exact hne)]; exact hb
theorem Only.size {B : Nat} {w w' : World} (h : Only B w w') : w.heap.size ≤ w'.heap.size := World.grownBy.size h
theorem Only.refl (B : Nat) (w : World) : Only B w w := World.grownBy.refl _ _

theorem foldl_set (cs : List Value) : ∀ (k : Nat) (pre zs : List Value), pre.length = k → zs.length = cs.length →
    (cs.zipIdx k).foldl (fun (acc : Array Value) x => acc.setIfInBounds x.2 x.1) (pre ++ zs).toArray = (pre ++ cs).toArray := by
  induction cs with
  | nil => intro k pre zs _ h2; rw [List.eq_nil_of_length_eq_zero h2]; rfl
  | cons c cs ih =>
    intro k pre zs h1 h2
    cases zs with
    | nil => simp at h2
    | cons z zs =>
      rw [List.zipIdx_cons, List.foldl_cons]
      have e : (pre ++ z :: zs).toArray.setIfInBounds k c = ((pre ++ [c]) ++ zs).toArray := by
        rw [List.setIfInBounds_toArray, List.set_append_right _ _ (by omega), h1, Nat.sub_self, List.set_cons_zero]; simp
      rw [e, ih (k + 1) (pre ++ [c]) zs (by simp [h1]) (by simpa using h2)]
      simp

theorem fill_step {pre : List Value} {n q : Nat} (hq : pre.length = q) (h : q < n) (z u : Value) : (pre ++ List.replicate (n - q) z).set q u = (pre ++ [u]) ++ List.replicate (n - (q + 1)) z := by
  rw [List.set_append_right _ _ (by omega), hq, Nat.sub_self, show n - q = (n - (q + 1)) + 1 by omega, List.replicate_succ, List.set_cons_zero, List.append_assoc]; rfl

theorem fill_full (ps : List (Nat × Value)) : ∀ (k : Nat) (pre zs : List Value), pre.length = k → zs.length = ps.length → ps.map (·.1) = List.range' k ps.length → (∀ p ∈ ps, p.2.oneCell' = true) →
    Instr.fill (fun i => some (i * 1, 1)) (pre ++ zs).toArray ps = some (pre ++ ps.map (·.2)).toArray := by
  induction ps with
  | nil => intro k pre zs _ h2 _ _; rw [List.eq_nil_of_length_eq_zero h2]; rfl
  | cons p ps ih =>
    intro k pre zs h1 h2 h3 h4
    obtain ⟨i, v⟩ := p
    cases zs with
    | nil => simp at h2
    | cons z zs =>
      rw [List.map_cons, List.length_cons, List.range'_succ, List.cons.injEq] at h3
      obtain ⟨rfl, h3⟩ := h3
      have hv : v.cells = #[v] := by have := h4 (i, v) (by simp); cases v <;> simp_all [Value.cells, Value.oneCell']
      have e : (pre ++ z :: zs).toArray.setIfInBounds i v = ((pre ++ [v]) ++ zs).toArray := by
        rw [List.setIfInBounds_toArray, List.set_append_right _ _ (by omega), h1, Nat.sub_self, List.set_cons_zero]; simp
      have hsz : ¬ ((pre ++ z :: zs).length < i + 1) := by simp; omega
      have e2 : Instr.fill (fun i => some (i * 1, 1)) (pre ++ z :: zs).toArray ((i, v) :: ps) = Instr.fill (fun i => some (i * 1, 1)) ((pre ++ [v]) ++ zs).toArray ps := by
        rw [← e]
        simp [Instr.fill, hv]
        omega
      rw [e2, ih (i + 1) (pre ++ [v]) zs (by simp [h1]) (by simpa using h2) h3 (fun p hp => h4 p (by simp [hp]))]
      simp

section
variable {P : Program} {ops : Array Oper} {Q : Exit → Act → World → Prop} {a : Act} {w : World} {rest : List Oper} {o : Oper}

/-- 'new' of a variable's type: its zero value in a block of its own -/
theorem wpList_alloc_blk (t : TypeId) (ho : o.op = .alloc t) (hw : Region.wanted o (yielded ops a.tmps) = true) {z : Value} (hz : (P.info? t).map (·.zero) = some (some z)) {cs : List Value} (hcs : z.cells = cs.toArray)
    (h : ∀ w', Blk w' w.heap.size t cs → Below w.heap.size w w' → w'.heap.size = w.heap.size + 1 → wpList P ops Q rest (a.put o.dst (.pointer (some ⟨w.heap.size, 0, none⟩))) w') : wpList P ops Q (o :: rest) a w := by
  obtain ⟨ti, hti, hzz⟩ := Option.map_eq_some_iff.1 hz
  refine wpList_of_run hw (v := .pointer (some ⟨w.heap.size, 0, none⟩)) (w' := w.alloc (.cells cs.toArray t)) ?_ (h _ (heap_alloc_new w _) ((Below.refl _ _).alloc (Nat.le_refl _) _) (by simp))
  unfold execOp
  simp [ho, Instr.alloc, zeroValue, typeInfo, hti, hzz, newVar, newRow, hcs]

theorem setCell_blk {B : Nat} {t : TypeId} {cs : List Value} (hb : Blk w B t cs) (k : Nat) (u : Value) : Blk (w.setCell ⟨B, k, none⟩ u) B t (cs.set k u) := by
  have hlt : B < w.heap.size := hb.lt
  have hv : w.heap[B] = .cells cs.toArray t (0, 0) := (Array.getElem?_eq_some_iff.1 hb).2
  unfold Blk World.setCell
  rw [Array.getElem?_eq_getElem (by simpa using hlt), Array.getElem_modify]
  simp [hv]
theorem setCell_only (B k : Nat) (u : Value) : Only B w (w.setCell ⟨B, k, none⟩ u) :=
  ⟨rfl, rfl, rfl, by simp [World.setCell], fun j _ hj => Below.heap_setCell _ _ _ _ (by simp at hj; exact hj)⟩
theorem setRow_only (B : Nat) (cs : Array Value) : Only B w (w.setRow B cs) :=
  ⟨rfl, rfl, rfl, by simp [World.setRow], fun j _ hj => setRow_other w B j cs (by simp at hj; exact hj)⟩

/-- a store of a whole array -/
theorem wpList_store_blk (ty : TypeId) (x y : Operand) (ho : o.op = .store ty x y) (hw : Region.wanted o (yielded ops a.tmps) = true) {B : Nat} {t : TypeId} {old cs : List Value} (hx : a.eval x = .pointer (some ⟨B, 0, none⟩)) (hy : a.eval y = .agg cs.toArray)
    (hb : Blk w B t old) {s : Nat} (hi : (P.info? ty).map (·.size) = some s) (hs : cs.length = s) (hl : old.length = s) (h1 : ∀ u ∈ cs, u.oneCell' = true)
    (h : ∀ w', Blk w' B t cs → Only B w w' → w'.heap.size = w.heap.size → wpList P ops Q rest (a.put o.dst undef) w') : wpList P ops Q (o :: rest) a w := by
  subst hs
  have hrun := run_storeVar_row (P := P) w B t ty old.toArray cs.toArray hb (by simpa using hi) (by simpa using hl) (by rw [Array.all_eq_true_iff_forall_mem]; intro u hu; exact h1 u (by simpa using hu))
  refine BigFrame.wpList_want hw fun K hK => ?_
  have hh := h (w.setRow B cs.toArray) (setRow_heap w B _ _ t _ hb) (setRow_only B _) (by simp [World.setRow])
  unfold Oper.wp execOp
  simp only [ho, hx, hy, Instr.storeAt, Instr.sureAddr, Sem.run_bind, Sem.run_pure, Result.andThen_ok, hrun]
  exact hK _ _ hh

/-- '&x[i]', x an array variable -/
theorem wpList_at_blk (x i : Operand) (t : TypeId) (ho : o.op = .indexAddr t x i) (hw : Region.wanted o (yielded ops a.tmps) = true) {e : TypeId} {n : Nat} (ht : P.underlying t = some (.array n e)) (hi : (P.info? e).map (·.size) = some 1)
    {B : Nat} (hx : a.eval x = .pointer (some ⟨B, 0, none⟩)) (k : Nat) (hix : IsI (a.eval i) (k : Int)) (hk : k < n)
    (h : wpList P ops Q rest (a.put o.dst (.pointer (some ⟨B, k, none⟩))) w) : wpList P ops Q (o :: rest) a w := by
  obtain ⟨kd, hix⟩ := isI hix
  obtain ⟨ti, hti, hsz⟩ := Option.map_eq_some_iff.1 hi
  refine wpList_of_run hw (v := .pointer (some ⟨B, k, none⟩)) (w' := w) ?_ h
  unfold execOp
  simp [ho, Instr.indexAt, hx, hix, asIntOf, run_underlying ht, sizeOf, typeInfo, hti, hsz, Instr.sureAddr, hk, Addr.add_lit]

/-- '&p[i]', p the place of an array in a slice -/
theorem wpList_at_ep (x i : Operand) (t : TypeId) (ho : o.op = .indexAddr t x i) (hw : Region.wanted o (yielded ops a.tmps) = true) {e : TypeId} {n : Nat} (ht : P.underlying t = some (.array n e)) (hi : (P.info? e).map (·.size) = some 1)
    {w0 : World} {s m : Nat} {xs : List Value} {v : Value} {j : Nat} (hx : a.eval x = ep v j) (hv : Rd w0 s v m xs) (hne : 0 < xs.length) (k : Nat) (hix : IsI (a.eval i) (k : Int)) (hk : k < n)
    (h : wpList P ops Q rest (a.put o.dst (ep v (j + k))) w) : wpList P ops Q (o :: rest) a w := by
  obtain ⟨kd, hix⟩ := isI hix
  obtain ⟨ti, hti, hsz⟩ := Option.map_eq_some_iff.1 hi
  obtain ⟨hl, ad, cap, rfl, h1, h2, h3, h4⟩ := hv
  obtain ⟨b, of, rfl, _⟩ := h4 0 xs[0] (by simp)
  refine wpList_of_run hw (v := ep (.slice (some ⟨b, of, none⟩) m cap) (j + k)) (w' := w) ?_ h
  unfold execOp
  simp [ho, Instr.indexAt, hx, hix, asIntOf, run_underlying ht, sizeOf, typeInfo, hti, hsz, Instr.sureAddr, hk, Addr.add_lit, ep, Nat.add_assoc]

/-- a cell of a block -/
theorem wpList_load_blk (p : Operand) (t : TypeId) (ho : o.op = .load t p) (hw : Region.wanted o (yielded ops a.tmps) = true)
    (hload : ∀ (ad : Addr) (u : Value) (w : World), w.cell? ad = some u → (loadVar t ad).run P w = .ok u w) {B k : Nat} {t' : TypeId} {cs : List Value} {u : Value} (hx : a.eval p = .pointer (some ⟨B, k, none⟩)) (hb : Blk w B t' cs) (hk : cs[k]? = some u)
    (h : wpList P ops Q rest (a.put o.dst u) w) : wpList P ops Q (o :: rest) a w := by
  refine wpList_of_run hw (v := u) (w' := w) ?_ h
  have := hload ⟨B, k, none⟩ u w (hb.cell hk)
  unfold execOp
  simp [ho, Instr.loadAt, hx, Instr.sureAddr, this]

theorem wpQuiet_load_blk {C : World → Prop} {Q : Act → Prop} {w0 : World} (hC : ∀ w, C w → ∃ n, w = w0.drewN n) (p : Operand) (t : TypeId) (ho : o.op = .load t p) (hw : Region.wanted o (yielded ops a.tmps) = true)
    (hload : ∀ (ad : Addr) (u : Value) (w : World), w.cell? ad = some u → (loadVar t ad).run P w = .ok u w) {B k : Nat} {t' : TypeId} {cs : List Value} {u : Value} (hx : a.eval p = .pointer (some ⟨B, k, none⟩)) (hb : Blk w0 B t' cs) (hk : cs[k]? = some u)
    (h : wpQuiet P ops C Q rest (a.put o.dst u)) : wpQuiet P ops C Q (o :: rest) a := by
  refine wpQuiet_of_run hw (fun w hc => ?_) h
  obtain ⟨m, rfl⟩ := hC w hc
  have := hload ⟨B, k, none⟩ u (w0.drewN m) ((hb.drewN m).cell hk)
  unfold execOp
  simp [ho, Instr.loadAt, hx, Instr.sureAddr, this]

/-- a whole array out of its block -/
theorem wpList_loadall_blk (p : Operand) (t : TypeId) (ho : o.op = .load t p) (hw : Region.wanted o (yielded ops a.tmps) = true) {e : TypeId} {m : Nat} (ht : P.underlying t = some (.array m e)) {s : Nat} (hsz : (P.info? t).map (·.size) = some s)
    {B : Nat} {t' : TypeId} {cs : List Value} (hx : a.eval p = .pointer (some ⟨B, 0, none⟩)) (hb : Blk w B t' cs) (hs : cs.length = s) (hs0 : 0 < s)
    (h : wpList P ops Q rest (a.put o.dst (.agg cs.toArray)) w) : wpList P ops Q (o :: rest) a w := by
  have hr := hb.rd 0 1 1 s (by omega) (Nat.le_refl _) (by unfold maxLen; omega)
  have hrun := run_load_arr (P := P) (a := a) (o := o) p t ho ht hsz (k := 0) (by rw [hx]; simp [ep, Addr.add]) hr (by rw [List.drop_zero, List.length_take]; omega) hs0
  rw [List.drop_zero, List.drop_zero, Nat.one_mul, List.take_of_length_le (by rw [List.length_take]; omega), List.take_of_length_le (by omega)] at hrun
  exact wpList_of_run hw hrun h

theorem storeVar_one (ty : TypeId) (hi : (P.info? ty).map (·.size) = some 1) {B k : Nat} {t : TypeId} {cs : List Value} (hb : Blk w B t cs) (hk : k < cs.length) (u : Value) (h1 : u.oneCell' = true) :
    (storeVar ty ⟨B, k, none⟩ u).run P w = .ok () (w.setCell ⟨B, k, none⟩ u) := by
  obtain ⟨ti, hti, hsz⟩ := Option.map_eq_some_iff.1 hi
  have hc := hb.cell (j := k) (u := cs[k]) (by simp [hk])
  have hf := hb.free k
  have hcells : u.cells = #[u] := by cases u <;> simp_all [Value.cells, Value.oneCell']
  have hst : (store ⟨B, k, none⟩ u).run P w = .ok () (w.setCell ⟨B, k, none⟩ u) := by
    cases u <;> simp_all [store, Sem.run, Value.oneCell']
  unfold storeVar
  simp [hcells, sizeOf, typeInfo, hti, hsz, storeCells, hst, Addr.add]

/-- a store into a cell of a block -/
theorem wpList_set_blk (ty : TypeId) (x y : Operand) (ho : o.op = .store ty x y) (hw : Region.wanted o (yielded ops a.tmps) = true) (hi : (P.info? ty).map (·.size) = some 1) {B k : Nat} {t : TypeId} {cs : List Value} {u : Value} (hx : a.eval x = .pointer (some ⟨B, k, none⟩)) (hy : a.eval y = u)
    (hb : Blk w B t cs) (hk : k < cs.length) (h1 : u.oneCell' = true)
    (h : ∀ w', Blk w' B t (cs.set k u) → Only B w w' → w'.heap.size = w.heap.size → wpList P ops Q rest (a.put o.dst undef) w') : wpList P ops Q (o :: rest) a w := by
  have hrun := storeVar_one (P := P) (w := w) ty hi hb hk u h1
  refine BigFrame.wpList_want hw fun K hK => ?_
  have hh := h _ (setCell_blk hb k u) (setCell_only B k u) (by simp)
  unfold Oper.wp execOp
  simp only [ho, hx, hy, Instr.storeAt, Instr.sureAddr, Sem.run_bind, Sem.run_pure, Result.andThen_ok, hrun]
  exact hK _ _ hh

/-- 'x[:]', x an array variable -/
theorem wpList_all_blk (x : Operand) (t : TypeId) (ho : o.op = .slice t x none none none) (hw : Region.wanted o (yielded ops a.tmps) = true) {e : TypeId} {n : Nat} (ht : P.underlying t = some (.array n e)) (hi : (P.info? e).map (·.size) = some 1)
    {B : Nat} {t' : TypeId} {cs : List Value} (hx : a.eval x = .pointer (some ⟨B, 0, none⟩)) (hb : Blk w B t' cs) (hn : cs.length = n) (hm : n ≤ maxLen)
    (h : Rd w 1 (.slice (some ⟨B, 0, none⟩) n n) n cs → wpList P ops Q rest (a.put o.dst (.slice (some ⟨B, 0, none⟩) n n)) w) : wpList P ops Q (o :: rest) a w := by
  obtain ⟨ti, hti, hsz⟩ := Option.map_eq_some_iff.1 hi
  have hr := hb.rd 0 n n 1 (by omega) (Nat.le_refl _) hm
  rw [List.drop_zero, Nat.mul_one, List.take_of_length_le (by omega)] at hr
  refine wpList_of_run hw (v := .slice (some ⟨B, 0, none⟩) n n) (w' := w) ?_ (h hr)
  unfold execOp
  simp [ho, Instr.sliceAt, hx, Instr.sureAddr, run_underlying ht, Instr.sliceBounds, sizeOf, typeInfo, hti, Addr.add]

/-- '(*[n]T)(b)' -/
theorem wpList_arr_ptr (x : Operand) (t : TypeId) (ho : o.op = .sliceToArrayPointer t x) (hw : Region.wanted o (yielded ops a.tmps) = true) {e : TypeId} {m : Nat} (ht : P.underlying t = some (.array m e))
    {w0 : World} {s : Nat} {v : Value} {n : Nat} {xs : List Value} (hx : a.eval x = v) (hv : Rd w0 s v n xs) (hm : m ≤ n) (hne : 0 < xs.length)
    (h : wpList P ops Q rest (a.put o.dst (ep v 0)) w) : wpList P ops Q (o :: rest) a w := by
  obtain ⟨hl, ad, cap, rfl, h1, h2, h3, h4⟩ := hv
  obtain ⟨b, of, rfl, _⟩ := h4 0 xs[0] (by simp)
  refine wpList_of_run hw (v := ep (.slice (some ⟨b, of, none⟩) n cap) 0) (w' := w) ?_ h
  have : ¬ n < m := by omega
  unfold execOp
  simp [ho, Instr.arrayAt, hx, run_underlying ht, this, ep, Addr.add]

/-- '[]T{x, y, ..}', elements of one cell -/
theorem wpList_build_cs {t : TypeId} {n : Nat} {parts : Array (Nat × Operand)} (ho : o.op = .buildSlice t n parts) (hw : Region.wanted o (yielded ops a.tmps) = true) {e : TypeId} (ht : P.underlying t = some (.slice e)) {z : Value} {bytes : Nat} (hinfo : (P.info? e).map (fun i => (i.zero, i.size, i.bytes)) = some (some z, 1, bytes))
    (hidx : parts.toList.map (·.1) = List.range' 0 n) (hn0 : 0 < n) (hn1 : n ≤ 100000) {cs : List Value} (hcs : parts.toList.map (fun p => a.eval p.2) = cs) (h1 : ∀ u ∈ cs, u.oneCell' = true)
    (h : ∀ v' w', Rd w' 1 v' n cs → Below w.heap.size w w' → wpList P ops Q rest (a.put o.dst v') w') : wpList P ops Q (o :: rest) a w := by
  obtain ⟨i, hi, hz, hsz, hby⟩ := info_parts hinfo
  have hlen : parts.toList.length = n := by have := congrArg List.length hidx; simpa using this
  have hcl : cs.length = n := by rw [← hcs, List.length_map, hlen]
  have hf : Instr.fill (fun i => some (i * 1, 1)) ((Array.range (n * 1)).map (z.cells[· % z.cells.size]!)) (parts.map fun (i, x) => (i, a.eval x)).toList = some cs.toArray := by
    have hzz : ((Array.range (n * 1)).map (z.cells[· % z.cells.size]!)).size = n := by simp
    obtain ⟨zs, hzs'⟩ : ∃ zs : List Value, ((Array.range (n * 1)).map (z.cells[· % z.cells.size]!)) = zs.toArray := ⟨_, (Array.toArray_toList).symm⟩
    rw [hzs'] at hzz ⊢
    have hmap : (parts.map fun (i, x) => (i, a.eval x)).toList = parts.toList.map fun p => (p.1, a.eval p.2) := by simp
    have h2 : (parts.toList.map fun p => (p.1, a.eval p.2)).map (·.2) = cs := by rw [List.map_map]; exact hcs
    have := fill_full (parts.toList.map fun p => (p.1, a.eval p.2)) 0 [] zs rfl (by simp at hzz; rw [List.length_map, hlen]; omega) (by rw [List.map_map, List.length_map, hlen]; exact hidx) (by
      intro p hp
      refine h1 p.2 ?_
      rw [← h2]
      exact List.mem_map_of_mem hp)
    rw [hmap]
    simpa [h2] using this
  refine wpList_of_run hw (v := .slice (some ⟨w.heap.size, 0, none⟩) n n) (w' := w.alloc (.cells cs.toArray e)) ?_ (h _ _ ?_ ((Below.refl _ _).alloc (Nat.le_refl _) _))
  · have h0' : ¬ n = 0 := by omega
    have h24 : ¬ (16777216 < n) := by omega
    unfold execOp
    simp only [ho, Instr.buildSlice, Sem.run_bind, run_underlying ht, Result.andThen_ok]
    simp only [sizeOf, typeInfo]
    simp only [Nat.mul_one, Array.toList_map] at hf
    simp [hsz, h0', h24, zeroValue, typeInfo, hi, hz, newRow]
    simp [hf]
  · have hb : Blk (w.alloc (.cells cs.toArray e)) w.heap.size e cs := heap_alloc_new w _
    have hr := hb.rd 0 n n 1 (by omega) (Nat.le_refl _) (by unfold maxLen; omega)
    rwa [List.drop_zero, Nat.mul_one, List.take_of_length_le (by omega)] at hr

/-- '[]T{x}' -/
theorem wpList_build_one (x : Operand) (t : TypeId) (ho : o.op = .buildSlice t 1 #[(0, x)]) (hw : Region.wanted o (yielded ops a.tmps) = true) {e : TypeId} (ht : P.underlying t = some (.slice e)) {z : Value} {s bytes : Nat} (hinfo : (P.info? e).map (fun i => (i.zero, i.size, i.bytes)) = some (some z, s, bytes)) (_hzs : z.cells.size = s) (hs0 : 0 < s) (hs1 : s ≤ 16777216)
    {cs : List Value} (hcs : (a.eval x).cells = cs.toArray) (hl : cs.length = s)
    (h : ∀ v' w', Rd w' s v' 1 cs → Below w.heap.size w w' → w'.heap.size = w.heap.size + 1 → wpList P ops Q rest (a.put o.dst v') w') : wpList P ops Q (o :: rest) a w := by
  obtain ⟨i, hi, hz, hsz, hby⟩ := info_parts hinfo
  have hf : Instr.fill (fun i => some (i * s, s)) ((Array.range (1 * s)).map (z.cells[· % z.cells.size]!)) [(0, a.eval x)] = some cs.toArray := by
    have hzz : ((Array.range (1 * s)).map (z.cells[· % z.cells.size]!)).size = s := by simp
    obtain ⟨zs, hzs'⟩ : ∃ zs : List Value, ((Array.range (1 * s)).map (z.cells[· % z.cells.size]!)) = zs.toArray := ⟨_, (Array.toArray_toList).symm⟩
    rw [hzs'] at hzz ⊢
    have hzl : zs.length = cs.length := by simp at hzz; omega
    have := foldl_set cs 0 [] zs rfl hzl
    simp only [List.nil_append] at this
    simp [Instr.fill, hcs, hl, hzl, this]
  refine wpList_of_run hw (v := .slice (some ⟨w.heap.size, 0, none⟩) 1 1) (w' := w.alloc (.cells cs.toArray e)) ?_ (h _ _ ?_ ((Below.refl _ _).alloc (Nat.le_refl _) _) (by simp))
  · have h0' : ¬ s = 0 := by omega
    unfold execOp
    simp only [ho, Instr.buildSlice, List.map_toArray, List.map_cons, List.map_nil, Sem.run_bind, run_underlying ht, Result.andThen_ok]
    simp only [sizeOf, typeInfo]
    simp [hsz, h0', zeroValue, typeInfo, hi, hz]
    simp only [Nat.one_mul] at hf
    rw [hf]
    simp [newRow, hs1]
  · have hb : Blk (w.alloc (.cells cs.toArray e)) w.heap.size e cs := heap_alloc_new w _
    have hr := hb.rd 0 1 1 s (by omega) (Nat.le_refl _) (by unfold maxLen; omega)
    rwa [List.drop_zero, Nat.one_mul, List.take_of_length_le (by omega)] at hr
end
end Go.Proofs.YtomjniijnpnehaaDoor.Lb
