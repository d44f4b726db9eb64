/-
  What a region reads while memory is being made beside it: laws of the walk for a class of worlds in which every cell of an earlier world holds what it held; the calls in the middle of such a region. Over whatever program. Conditions: those that each law names.
-/
import Derived.Test.YtomjniijnpnehaaDoorHl
import Derived.Test.YtomjniijnpnehaaDoorMid
import Derived.Lib.QuietBelow
namespace Go.Proofs.YtomjniijnpnehaaDoor.Lb
open Go Go.RowKit Go.Lib

/-- every cell of w0 holds in each world of the class what it held -/
def Cov (C : World → Prop) (w0 : World) : Prop := ∀ w, C w → ∀ (a : Addr) (v : Value), w0.cell? a = some v → w.cell? a = some v
theorem cov_below (w0 : World) : Cov (Below w0.heap.size w0) w0 := fun _ h _ _ hv => (h.cell (World.block_lt_of_cell? _ _ hv)).trans hv
theorem cov_cls (w0 : World) : Cov (fun w' => ∃ p : Regrown, w' = Sort.grow (redrawn w0 p.d) p.os) w0 := by
  rintro w ⟨p, rfl⟩ a v hv
  exact cell_regrown hv p.d p.os
theorem cls_drew (w0 : World) : ∃ p : Regrown, w0.drew = Sort.grow (redrawn w0 p.d) p.os := regrown_of_below (Below.refl _ _).drew

section
variable {P : Program} {ops : Array Oper} {Q : Exit → Act → World → Prop} {C : World → Prop} {R : Act → Prop} {a : Act} {w w0 : World} {rest tl : List Oper} {o : Oper}

theorem wpQuietC_load_rd (hC : Cov C w0) (p : Operand) (t : TypeId) (ho : o.op = .load t p) (hw : Region.wanted o (yielded ops a.tmps) = true)
    (hload : ∀ (ad : Addr) (u : Value) (w : World), w.cell? ad = some u → (loadVar t ad).run P w = .ok u w) {s : Nat} {v : Value} {n : Nat} {xs : List Value} {k : Nat} {u : Value}
    (hx : a.eval p = ep v k) (hv : Rd w0 s v n xs) (hk : xs[k]? = some u)
    (h : wpQuiet P ops C R rest (a.put o.dst u)) : wpQuiet P ops C R (o :: rest) a := by
  obtain ⟨hl, ad, cap, rfl, h1, h2, h3, h4⟩ := hv
  obtain ⟨b, of, rfl, hc⟩ := h4 k u hk
  refine wpQuiet_of_run hw (fun w hCw => ?_) h
  have := hload ⟨b, of + k, none⟩ u w (hC w hCw _ _ hc)
  unfold execOp
  simp [ho, Instr.loadAt, hx, ep, Instr.sureAddr, Addr.add_lit, this]
theorem wpQuietC_load_blk (hC : Cov C w0) (p : Operand) (t : TypeId) (ho : o.op = .load t p) (hw : Region.wanted o (yielded ops a.tmps) = true)
    (hload : ∀ (ad : Addr) (u : Value) (w : World), w.cell? ad = some u → (loadVar t ad).run P w = .ok u w) {B k : Nat} {t' : TypeId} {cs : List Value} {u : Value} (hx : a.eval p = .pointer (some ⟨B, k, none⟩)) (hb : Blk w0 B t' cs) (hk : cs[k]? = some u)
    (h : wpQuiet P ops C R rest (a.put o.dst u)) : wpQuiet P ops C R (o :: rest) a := by
  refine wpQuiet_of_run hw (fun w hc => ?_) h
  have := hload ⟨B, k, none⟩ u w (hC w hc _ _ (hb.cell hk))
  unfold execOp
  simp [ho, Instr.loadAt, hx, Instr.sureAddr, this]
theorem run_load_cells (p : Operand) (t : TypeId) (ho : o.op = .load t p) {d : TypeDesc} (hd : P.underlying t = some d) (ha : isAggD d = true) {cs : List Value} (hsz : (P.info? t).map (·.size) = some cs.length)
    {B f : Nat} (hx : a.eval p = .pointer (some ⟨B, f, none⟩)) (hb : ∀ (j : Nat) (u : Value), cs[j]? = some u → w.cell? ⟨B, f + j, none⟩ = some u) :
    (execOp a.eval o).run P w = .ok (.value (.agg cs.toArray)) w := by
  obtain ⟨ti, hti, hs⟩ := Option.map_eq_some_iff.1 hsz
  have hl := run_loadCells_list (P := P) w (⟨B, f, none⟩ : Addr) cs (fun j u hu => by rw [Addr.add_lit]; exact hb j u hu)
  have hagg : (isAgg t).run P w = .ok true w := by
    unfold isAgg
    simp only [Sem.run_bind, run_underlying hd, Result.andThen]
    cases d <;> simp_all [isAggD]
  unfold execOp
  simp [ho, Instr.loadAt, hx, Instr.sureAddr, loadVar, hagg, sizeOf, typeInfo, hti, hs, hl]
theorem wpQuietC_load_part (hC : Cov C w0) (p : Operand) (t : TypeId) (ho : o.op = .load t p) (hw : Region.wanted o (yielded ops a.tmps) = true) {d : TypeDesc} (hd : P.underlying t = some d) (ha : isAggD d = true) {s : Nat} (hsz : (P.info? t).map (·.size) = some s)
    {B f : Nat} {t' : TypeId} {cs : List Value} (hx : a.eval p = .pointer (some ⟨B, f, none⟩)) (hb : Blk w0 B t' cs) (hk : f + s ≤ cs.length) {cp : List Value} (hcs : (cs.drop f).take s = cp)
    (h : wpQuiet P ops C R rest (a.put o.dst (.agg cp.toArray))) : wpQuiet P ops C R (o :: rest) a := by
  have hl : cp.length = s := by rw [← hcs, List.length_take, List.length_drop]; omega
  refine wpQuiet_of_run hw (fun w hc => run_load_cells p t ho hd ha (by rw [hl]; exact hsz) hx (fun j u hu => ?_)) h
  rw [← hcs, List.getElem?_take] at hu
  split at hu
  · rw [List.getElem?_drop] at hu
    exact hC w hc _ _ (hb.cell hu)
  · cases hu
/-- 'string(b)' -/
theorem wpQuietC_str (hC : Cov C w0) (x : Operand) (src dst : TypeId) (ho : o.op = .convert src dst x) (hw : Region.wanted o (yielded ops a.tmps) = true)
    {e : TypeId} (hs : P.underlying src = some (.slice e)) (he : P.underlying e = some (.int .u8)) (hd : P.underlying dst = some .string) {v : Value} {n : Nat} {l : List UInt8} (hx : a.eval x = v) (hv : Rd w0 1 v n (bv l))
    (h : wpQuiet P ops C R rest (a.put o.dst (.string ⟨l.toArray⟩))) : wpQuiet P ops C R (o :: rest) a := by
  obtain ⟨hl, ad, cap, rfl, g1, g2, g3, g4⟩ := hv
  rw [bv_length, Nat.mul_one] at hl
  subst hl
  refine wpQuiet_of_run hw (v := .string ⟨l.toArray⟩) (fun w hc => ?_) h
  have key : (convert src dst (.slice ad l.length cap)).run P w = .ok (.string ⟨l.toArray⟩) w := by
    cases ad with
    | none =>
      have : cap = 0 := g3 rfl
      have h0 : l = [] := List.eq_nil_of_length_eq_zero (by omega)
      subst h0
      rw [run_convert_bytes_nil w src e hs he _ _ dst hd]
      rfl
    | some ad =>
      refine run_convert_bytes_back w src dst e ad cap l hs he hd fun j hj => ?_
      obtain ⟨b, of, hab, hcell⟩ := g4 j _ (bv_get l j hj)
      obtain rfl := Option.some.inj hab
      rw [Addr.add_lit]; exact hC w hc _ _ hcell
  unfold execOp
  simp [ho, hx, key]

/-! ### the middle -/
theorem wpMid_nil (h : wpList P ops (onlyNormal Q) tl a w) : wpMid P ops C Q tl [] a w := h
theorem wpMid_of_run (hw : Region.wanted o (yielded ops a.tmps) = true) {v : Value} {w' : World} (hr : (execOp a.eval o).run P w = .ok (.value v) w') (hC : C w')
    (h : wpMid P ops C Q tl rest (a.put o.dst v) w') : wpMid P ops C Q tl (o :: rest) a w := by
  unfold wpMid
  rw [if_pos hw]
  unfold Oper.wp
  rw [hr]
  exact ⟨hC, h⟩
theorem wpMid_call {f : FuncId} {xs : List Operand} {ts : Array TypeId} (ho : o.op = .call { callee := .value (.func f), args := xs.toArray, argTypes := ts }) (hrun : ∀ args w, (callFunc f args).run P w = .ok (.enter f args) w) (hw : Region.wanted o (yielded ops a.tmps) = true)
    {args : List Value} (hargs : xs.map a.eval = args) {post : Ending → World → Prop} (hc : Calls P f args.toArray w post)
    (h : ∀ e w', post e w' → ∃ v, e = .returned v ∧ C w' ∧ wpMid P ops C Q tl rest (a.put o.dst v) w') : wpMid P ops C Q tl (o :: rest) a w := by
  subst hargs
  unfold wpMid
  rw [if_pos hw]
  have hr : (execOp a.eval o).run P w = .ok (.enter f (xs.map a.eval).toArray) w := by
    unfold execOp
    simp [ho, resolve, Deferred.ofValue, invoke, Act.eval, hrun]
  unfold Oper.wp
  rw [hr]
  refine hc.mono fun e w' hp => ?_
  obtain ⟨v, rfl, hC, hk⟩ := h e w' hp
  exact ⟨hC, hk⟩
theorem onlyNormal_mk (h : Q .normal a w) : onlyNormal Q .normal a w := ⟨rfl, h⟩
end
end Go.Proofs.YtomjniijnpnehaaDoor.Lb
