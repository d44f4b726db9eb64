/-
  Cls, Ha, Hz, Bn, Rw, Rs, Lay, Top: my texts of these names, one behind the other. Conditions: those that each law names.
-/
import Derived.Test.YtajglgkjpagcjaaDoorMb
import Derived.Lib.QuietBelow
import Derived.Test.YtajglgkjpagcjaaDoorMa
import Derived.Lib.LaidTab
import Derived.LaidMore
import Derived.ProofKit
import Derived.OpenShut
import Derived.Stop.Joined
import Derived.WideKeyArr2
import Derived.WideKeyPair
namespace Go.Proofs.YtajglgkjpagcjaaDoor.Lb
open Go Go.RowKit Go.Lib

/-- every cell of w0 holds in each world of the class what it held -/
def Cov (C : World → Prop) (w0 : World) : Prop := ∀ w, C w → ∀ (a : Addr) (v : Value), w0.cell? a = some v → w.cell? a = some v
theorem cov_below (w0 : World) : Cov (Below w0.heap.size w0) w0 := fun _ h _ _ hv => (h.cell (World.block_lt_of_cell? _ _ hv)).trans hv
theorem cov_cls (w0 : World) : Cov (fun w' => ∃ p : Regrown, w' = Sort.grow (redrawn w0 p.d) p.os) w0 := by
  rintro w ⟨p, rfl⟩ a v hv
  exact cell_regrown hv p.d p.os
theorem cls_drew (w0 : World) : ∃ p : Regrown, w0.drew = Sort.grow (redrawn w0 p.d) p.os := regrown_of_below (Below.refl _ _).drew

section
variable {P : Program} {ops : Array Oper} {Q : Exit → Act → World → Prop} {C : World → Prop} {R : Act → Prop} {a : Act} {w w0 : World} {rest tl : List Oper} {o : Oper}

theorem wpQuietC_load_rd (hC : Cov C w0) (p : Operand) (t : TypeId) (ho : o.op = .load t p) (hw : Region.wanted o (yielded ops a.tmps) = true)
    (hload : ∀ (ad : Addr) (u : Value) (w : World), w.cell? ad = some u → (loadVar t ad).run P w = .ok u w) {s : Nat} {v : Value} {n : Nat} {xs : List Value} {k : Nat} {u : Value}
    (hx : a.eval p = ep v k) (hv : Rd w0 s v n xs) (hk : xs[k]? = some u)
    (h : wpQuiet P ops C R rest (a.put o.dst u)) : wpQuiet P ops C R (o :: rest) a := by
  obtain ⟨hl, ad, cap, rfl, h1, h2, h3, h4⟩ := hv
  obtain ⟨b, of, rfl, hc⟩ := h4 k u hk
  refine wpQuiet_of_run hw (fun w hCw => ?_) h
  have := hload ⟨b, of + k, none⟩ u w (hC w hCw _ _ hc)
  unfold execOp
  simp [ho, Instr.loadAt, hx, ep, Instr.sureAddr, Addr.add_lit, this]
theorem wpQuietC_load_blk (hC : Cov C w0) (p : Operand) (t : TypeId) (ho : o.op = .load t p) (hw : Region.wanted o (yielded ops a.tmps) = true)
    (hload : ∀ (ad : Addr) (u : Value) (w : World), w.cell? ad = some u → (loadVar t ad).run P w = .ok u w) {B k : Nat} {t' : TypeId} {cs : List Value} {u : Value} (hx : a.eval p = .pointer (some ⟨B, k, none⟩)) (hb : Blk w0 B t' cs) (hk : cs[k]? = some u)
    (h : wpQuiet P ops C R rest (a.put o.dst u)) : wpQuiet P ops C R (o :: rest) a := by
  refine wpQuiet_of_run hw (fun w hc => ?_) h
  have := hload ⟨B, k, none⟩ u w (hC w hc _ _ (hb.cell hk))
  unfold execOp
  simp [ho, Instr.loadAt, hx, Instr.sureAddr, this]
theorem run_load_cells (p : Operand) (t : TypeId) (ho : o.op = .load t p) {d : TypeDesc} (hd : P.underlying t = some d) (ha : isAggD d = true) {cs : List Value} (hsz : (P.info? t).map (·.size) = some cs.length)
    {B f : Nat} (hx : a.eval p = .pointer (some ⟨B, f, none⟩)) (hb : ∀ (j : Nat) (u : Value), cs[j]? = some u → w.cell? ⟨B, f + j, none⟩ = some u) :
    (execOp a.eval o).run P w = .ok (.value (.agg cs.toArray)) w := by
  obtain ⟨ti, hti, hs⟩ := Option.map_eq_some_iff.1 hsz
  have hl := run_loadCells_list (P := P) w (⟨B, f, none⟩ : Addr) cs (fun j u hu => by rw [Addr.add_lit]; exact hb j u hu)
  have hagg : (isAgg t).run P w = .ok true w := by
    unfold isAgg
    simp only [Sem.run_bind, run_underlying hd, Result.andThen]
    cases d <;> simp_all [isAggD]
  unfold execOp
  simp [ho, Instr.loadAt, hx, Instr.sureAddr, loadVar, hagg, sizeOf, typeInfo, hti, hs, hl]
theorem wpQuietC_load_part (hC : Cov C w0) (p : Operand) (t : TypeId) (ho : o.op = .load t p) (hw : Region.wanted o (yielded ops a.tmps) = true) {d : TypeDesc} (hd : P.underlying t = some d) (ha : isAggD d = true) {s : Nat} (hsz : (P.info? t).map (·.size) = some s)
    {B f : Nat} {t' : TypeId} {cs : List Value} (hx : a.eval p = .pointer (some ⟨B, f, none⟩)) (hb : Blk w0 B t' cs) (hk : f + s ≤ cs.length) {cp : List Value} (hcs : (cs.drop f).take s = cp)
    (h : wpQuiet P ops C R rest (a.put o.dst (.agg cp.toArray))) : wpQuiet P ops C R (o :: rest) a := by
  have hl : cp.length = s := by rw [← hcs, List.length_take, List.length_drop]; omega
  refine wpQuiet_of_run hw (fun w hc => run_load_cells p t ho hd ha (by rw [hl]; exact hsz) hx (fun j u hu => ?_)) h
  rw [← hcs, List.getElem?_take] at hu
  split at hu
  · rw [List.getElem?_drop] at hu
    exact hC w hc _ _ (hb.cell hu)
  · cases hu
/-- 'string(b)' -/
theorem wpQuietC_str (hC : Cov C w0) (x : Operand) (src dst : TypeId) (ho : o.op = .convert src dst x) (hw : Region.wanted o (yielded ops a.tmps) = true)
    {e : TypeId} (hs : P.underlying src = some (.slice e)) (he : P.underlying e = some (.int .u8)) (hd : P.underlying dst = some .string) {v : Value} {n : Nat} {l : List UInt8} (hx : a.eval x = v) (hv : Rd w0 1 v n (bv l))
    (h : wpQuiet P ops C R rest (a.put o.dst (.string ⟨l.toArray⟩))) : wpQuiet P ops C R (o :: rest) a := by
  obtain ⟨hl, ad, cap, rfl, g1, g2, g3, g4⟩ := hv
  rw [bv_length, Nat.mul_one] at hl
  subst hl
  refine wpQuiet_of_run hw (v := .string ⟨l.toArray⟩) (fun w hc => ?_) h
  have key : (convert src dst (.slice ad l.length cap)).run P w = .ok (.string ⟨l.toArray⟩) w := by
    cases ad with
    | none =>
      have : cap = 0 := g3 rfl
      have h0 : l = [] := List.eq_nil_of_length_eq_zero (by omega)
      subst h0
      rw [run_convert_bytes_nil w src e hs he _ _ dst hd]
      rfl
    | some ad =>
      refine run_convert_bytes_back w src dst e ad cap l hs he hd fun j hj => ?_
      obtain ⟨b, of, hab, hcell⟩ := g4 j _ (bv_get l j hj)
      obtain rfl := Option.some.inj hab
      rw [Addr.add_lit]; exact hC w hc _ _ hcell
  unfold execOp
  simp [ho, hx, key]

/-! ### the middle -/
theorem wpMid_nil (h : wpList P ops (onlyNormal Q) tl a w) : wpMid P ops C Q tl [] a w := h
theorem wpMid_of_run (hw : Region.wanted o (yielded ops a.tmps) = true) {v : Value} {w' : World} (hr : (execOp a.eval o).run P w = .ok (.value v) w') (hC : C w')
    (h : wpMid P ops C Q tl rest (a.put o.dst v) w') : wpMid P ops C Q tl (o :: rest) a w := by
  unfold wpMid
  rw [if_pos hw]
  unfold Oper.wp
  rw [hr]
  exact ⟨hC, h⟩
theorem wpMid_call {f : FuncId} {xs : List Operand} {ts : Array TypeId} (ho : o.op = .call { callee := .value (.func f), args := xs.toArray, argTypes := ts }) (hrun : ∀ args w, (callFunc f args).run P w = .ok (.enter f args) w) (hw : Region.wanted o (yielded ops a.tmps) = true)
    {args : List Value} (hargs : xs.map a.eval = args) {post : Ending → World → Prop} (hc : Calls P f args.toArray w post)
    (h : ∀ e w', post e w' → ∃ v, e = .returned v ∧ C w' ∧ wpMid P ops C Q tl rest (a.put o.dst v) w') : wpMid P ops C Q tl (o :: rest) a w := by
  subst hargs
  unfold wpMid
  rw [if_pos hw]
  have hr : (execOp a.eval o).run P w = .ok (.enter f (xs.map a.eval).toArray) w := by
    unfold execOp
    simp [ho, resolve, Deferred.ofValue, invoke, Act.eval, hrun]
  unfold Oper.wp
  rw [hr]
  refine hc.mono fun e w' hp => ?_
  obtain ⟨v, rfl, hC, hk⟩ := h e w' hp
  exact ⟨hC, hk⟩
theorem onlyNormal_mk (h : Q .normal a w) : onlyNormal Q .normal a w := ⟨rfl, h⟩
end
end Go.Proofs.YtajglgkjpagcjaaDoor.Lb
namespace Go.Proofs.YtajglgkjpagcjaaDoor.Lb
open Go Go.RowKit Go.Lib
section
variable {P : Program} {ops : Array Oper} {Q : Exit → Act → World → Prop} {a : Act} {w : World} {rest : List Oper} {o : Oper}
/-- 's[lo:]' of a string -/
theorem wpList_str_from (x lo : Operand) (t : TypeId) (ho : o.op = .slice t x (some lo) none none) (hw : Region.wanted o (yielded ops a.tmps) = true) (ht : P.underlying t = some .string)
    {l : List UInt8} (hx : a.eval x = .string ⟨l.toArray⟩) (L : Nat) (hlo : IsI (a.eval lo) (L : Int)) (hL : L ≤ l.length)
    (h : wpList P ops Q rest (a.put o.dst (.string ⟨(l.drop L).toArray⟩)) w) : wpList P ops Q (o :: rest) a w := by
  obtain ⟨kl, hlo⟩ := isI hlo
  refine wpList_of_run hw (v := .string ⟨(l.drop L).toArray⟩) (w' := w) ?_ h
  have hs : (ByteArray.mk l.toArray).size = l.length := by simp [ByteArray.size]
  have he : (ByteArray.mk l.toArray).extract L l.length = ⟨(l.drop L).toArray⟩ := by
    rw [← hs]
    apply ByteArray.ext
    rw [ByteArray.data_extract]
    apply Array.toList_inj.1
    simp [hs]
    rw [List.take_of_length_le (by rw [List.length_drop]; exact Nat.le_refl _)]
  unfold execOp
  simp [ho, Instr.sliceAt, hx, hlo, run_underlying ht, Instr.slice, Instr.sliceBounds, Instr.sliceBound, asIntOf, hs, hL, he]
end
end Go.Proofs.YtajglgkjpagcjaaDoor.Lb
namespace Go.Proofs.YtajglgkjpagcjaaDoor.Wi
open Go Go.RowKit Pu Lb
set_option linter.unusedSimpArgs false

/-- a stream's cells -/
def stv (x : Strm) : List Value := uv (l8 x.s) ++ (bv x.b ++ [.int .u64 (x.n : Int)])
theorem stv_len {x : Strm} (h : x.b.length = 64) : (stv x).length = 73 := by
  unfold stv
  rw [List.length_append, List.length_append, uv_length, bv_length, h]; rfl
theorem stv_one (x : Strm) : ∀ u ∈ stv x, u.oneCell' = true := by
  intro u hu
  unfold stv at hu
  rcases List.mem_append.1 hu with h | h
  · exact uv_one _ u h
  · rcases List.mem_append.1 h with h | h
    · exact bv_one _ u h
    · simp at h; subst h; rfl
theorem l8_len (s : S8) : (uv (l8 s)).length = 8 := rfl
theorem stv_n {x : Strm} (h : x.b.length = 64) : (stv x)[72]? = some (.int .u64 (x.n : Int)) := by
  unfold stv
  rw [List.getElem?_append_right (by rw [l8_len]; decide), List.getElem?_append_right (by rw [l8_len, bv_length, h]; decide), l8_len, bv_length, h]
  rfl
theorem stv_state (x : Strm) : ((stv x).drop 0).take 8 = uv (l8 x.s) := by
  unfold stv
  rw [List.drop_zero, List.take_left' (l8_len _)]
theorem stv_setn {x : Strm} (h : x.b.length = 64) (n : Nat) : (stv x).set 72 (.int .u64 (n : Int)) = stv ⟨x.s, x.b, n⟩ := by
  unfold stv
  rw [List.set_append_right _ _ (by rw [l8_len]; decide), List.set_append_right _ _ (by rw [l8_len, bv_length, h]; decide), l8_len, bv_length, h]
  rfl
theorem stv_puts (x : Strm) (s : S8) : put (stv x) 0 (uv (l8 s)) = stv ⟨s, x.b, x.n⟩ := by
  unfold put stv
  rw [List.take_zero, List.nil_append, Nat.zero_add, l8_len, List.drop_left' (l8_len _)]
theorem stv_putb {x : Strm} (h : x.b.length = 64) {i : Nat} {t : List UInt8} (hi : i + t.length ≤ 64) : put (stv x) (8 + i) (bv t) = stv ⟨x.s, splice x.b i t, x.n⟩ := by
  have e1 : (stv x).take (8 + i) = uv (l8 x.s) ++ bv (x.b.take i) := by
    unfold stv
    rw [List.take_append, l8_len, List.take_of_length_le (by rw [l8_len]; omega), Nat.add_sub_cancel_left, List.take_append_of_le_length (by rw [bv_length]; omega), bv_take]
  have e2 : (stv x).drop (8 + i + t.length) = bv (x.b.drop (i + t.length)) ++ [.int .u64 (x.n : Int)] := by
    unfold stv
    rw [List.drop_append, l8_len, List.drop_of_length_le (by rw [l8_len]; omega), List.nil_append, show 8 + i + t.length - 8 = i + t.length by omega, List.drop_append_of_le_length (by rw [bv_length]; omega), bv_drop]
  unfold put
  rw [bv_length, e1, e2]
  unfold stv splice
  rw [bv_append, bv_append]
  simp only [List.append_assoc]
theorem stv_block {x : Strm} (h : x.b.length = 64) : ((stv x).drop 8).take 64 = bv x.b := by
  unfold stv
  rw [List.drop_left' (l8_len _), List.take_left' (by rw [bv_length, h])]
def stz : List Value := List.replicate 8 (.int .u32 0) ++ List.replicate 64 (.int .u8 0) ++ [.int .u64 0]
theorem stz_len : stz.length = 73 := by decide
theorem stv_zero : (Value.agg (Array.replicate 8 (Value.int .u32 0) ++ Array.replicate 64 (Value.int .u8 0) ++ #[Value.int .u64 0])).cells = stz.toArray := by
  simp [Value.cells, stz]
theorem isS_len {m : List UInt8} {x : Strm} (h : IsS m x) : x.b.length = 64 ∧ x.n = m.length := ⟨h.1, h.2.1⟩

def begin0 : Strm := ⟨h0, List.replicate 64 0, 0⟩
set_option maxRecDepth 100000 in
theorem begin_any (w : World) : Calls Tryd.prog 52 #[] w fun e w' => e = .returned (.agg (stv begin0).toArray) ∧ Below w.heap.size w w' := by
  go_enter Tryd.func52, Tryd.ntmps52
  go_upto_region 1 with (((with_reducible refine' wpList_alloc_blk (cs := stz) 85 rfl ?_ zr_stm ?_ ?_); exact rfl; exact stv_zero; intro w1 hk1 hN1 hz1; simp only [Act.put, List.setIfInBounds_toArray, List.set_cons_succ, List.set_cons_zero]))
  refine wp_region_lit ?_
  ((with_reducible refine' wpList_of_run (v := .agg (uv (l8 h0)).toArray) (w' := w1) ?_ ?_ ?_); exact rfl; kernel_rfl; simp only [Act.put, List.setIfInBounds_toArray, List.set_cons_succ, List.set_cons_zero])
  ((with_reducible refine' wpList_of_run (v := .agg (stv begin0).toArray) (w' := w1) ?_ ?_ ?_); exact rfl; kernel_rfl; simp only [Act.put, List.setIfInBounds_toArray, List.set_cons_succ, List.set_cons_zero])
  ((with_reducible refine' wpList_store_blk (cs := stv begin0) 85 (.tmp 0) (.tmp 2) rfl ?_ ?_ ?_ hk1 sz_stm ?_ ?_ ?_ ?_); exact rfl; exact rfl; exact rfl; rfl; rfl; exact stv_one _; intro w2 hk2 hO2 hz2; simp only [Act.put])
  go_wp2_with fail
  ((try simp only [Exit.inBlock, Exit.then]); refine bodyPost_ret (results_cell_row rfl _ _ _ _ _ _ _ rfl hk2 Tryd.underlying85 rfl (by rw [sz_stm]; rfl)) rfl ?_)
  exact ⟨rfl, hN1.trans (hO2.below (Nat.le_refl _) hN1.size)⟩

attribute [local irreducible] comp sched comps
set_option maxRecDepth 100000 in
set_option maxHeartbeats 1600000 in
theorem add_any (m t : List UInt8) (x : Strm) (w : World) (hT : TabH w) (hx : IsS m x) (hm : m.length + t.length < 1152921504606846976) :
    Calls Tryd.prog 53 #[.agg (stv x).toArray, .string ⟨t.toArray⟩] w fun e w' => ∃ y, e = .returned (.agg (stv y).toArray) ∧ IsS (m ++ t) y ∧ Below w.heap.size w w' := by
  go_enter Tryd.func53, Tryd.ntmps53
  go_upto_region 1 with (first | ((with_reducible refine' wpList_boxa (cs := stv x) 85 (.tmp 0) rfl ?_ ?_ ?_); exact rfl; exact rfl; intro w1 hkS hN1 hz1; simp only [Act.put, List.setIfInBounds_toArray, List.set_cons_succ, List.set_cons_zero]) | ((with_reducible refine' wpList_alloc_blk (cs := stz) 85 rfl ?_ zr_stm ?_ ?_); exact rfl; exact stv_zero; intro w2 hkR hN2 hz2; simp only [Act.put, List.setIfInBounds_toArray, List.set_cons_succ, List.set_cons_zero]))
  have hb := hN1.trans (hN2.mono hN1.size)
  replace hkS := hkS.below hN2 (by omega)
  have EZ1 := Lib.hid hz1
  have hX := Lib.hid hx
  clear hx hN1 hN2 hz1 hz2
  go_loopw [1] (fun v wr => ∃ (i : Nat) (y : Strm), i ≤ t.length ∧ v = .string ⟨(t.drop i).toArray⟩ ∧ Hid (IsS (m ++ t.take i) y) ∧ Blk wr w.heap.size 85 (stv y) ∧ Blk wr w1.heap.size 85 stz ∧ Below w.heap.size w wr) (fun v _ => match v with | .string s => s.size | _ => 0)
  case atStart => exact ⟨0, x, by omega, rfl, Lib.hid (by rw [List.take_zero, List.append_nil]; exact hX.out), hkS, hkR, hb⟩
  case round =>
    obtain ⟨i, y, hi, rfl, HY, hkS, hkR, hbl⟩ := hrel
    by_cases hlt : i < t.length
    · obtain ⟨wo, rfl⟩ : ∃ wo : World, wo = wr := ⟨_, rfl⟩
      have hte : (t.drop i).isEmpty = false := by rw [List.isEmpty_eq_false_iff]; intro h; have := congrArg List.length h; rw [List.length_drop] at this; simp at this; omega
      have hyl := HY.out.1
      have hyn : y.n = m.length + i := by have := HY.out.2.1; rw [List.length_append, List.length_take] at this; omega
      have hn60 : y.n < 1152921504606846976 := by omega
      have HYN := Lib.hid hyn
      have HYL := Lib.hid hyl
      have N0 := Lib.hid (stv_n hyl)
      have L0 := Lib.hid (stv_len hyl)
      obtain ⟨k, hk⟩ : ∃ k, min (t.drop i).length (64 - y.n % 64) = k := ⟨_, rfl⟩
      obtain ⟨tk, htk⟩ : ∃ tk, (t.drop i).take (64 - y.n % 64) = tk := ⟨_, rfl⟩
      have hk64 : k ≤ 64 := by omega
      have hkl : k ≤ (t.drop i).length := by omega
      have hk0 : 0 < k := by rw [List.length_drop] at hk; omega
      have hktl : tk.length = k := by rw [← htk, List.length_take, ← hk]; omega
      have hfit : y.n % 64 + tk.length ≤ 64 := by rw [hktl]; omega
      have hspl := splice_len (b := y.b) (i := y.n % 64) (t := tk) (by rw [hyl]; exact hfit)
      rw [hyl] at hspl
      have N1 := Lib.hid (stv_n (x := ⟨y.s, splice y.b (y.n % 64) tk, y.n⟩) hspl)
      have L1 := Lib.hid (stv_len (x := ⟨y.s, splice y.b (y.n % 64) tk, y.n⟩) hspl)
      have PB := Lib.hid (stv_putb hyl hfit)
      have sn : (stv ⟨y.s, splice y.b (y.n % 64) tk, y.n⟩).set 72 (.int .u64 ((y.n : Int) + (k : Int))) = stv ⟨y.s, splice y.b (y.n % 64) tk, y.n + k⟩ := by
        rw [← Int.natCast_add]; exact stv_setn hspl (y.n + k)
      have SN := Lib.hid sn
      have bl := stv_block (x := ⟨y.s, splice y.b (y.n % 64) tk, y.n + k⟩) hspl
      have BL := Lib.hid bl
      have L2 := Lib.hid (stv_len (x := ⟨y.s, splice y.b (y.n % 64) tk, y.n + k⟩) hspl)
      have ek : t.take (i + k) = t.take i ++ tk := by
        rw [List.take_add, ← htk, ← hk, List.take_eq_take_min (i := 64 - y.n % 64), Nat.min_comm]
      have EK := Lib.hid ek
      clear sn bl ek
      have HK := Lib.hid hk
      have HTK := Lib.hid htk
      have HKT := Lib.hid hktl
      have HSP := Lib.hid hspl
      simp only at N1
      clear hyl hyn hk htk hktl hfit hspl
      have ed : (t.drop i).drop k = t.drop (i + k) := by rw [List.drop_drop]
      have ED := Lib.hid ed
      clear ed
      by_cases hfull : y.n % 64 + k = 64
      · have hfb : ((y.n : Int) % 64 + (k : Int) == 64) = true := by simp; omega
        go_upto_region 7 with (first
          | ((with_reducible refine' wpList_load_blk (.tmp 9) 76 rfl ?_ ld_u64 ?_ hkS (N0.out) ?_); exact rfl; exact rfl; simp only [Act.put, List.setIfInBounds_toArray, List.set_cons_succ, List.set_cons_zero])
          | ((with_reducible refine' wpList_arr_from (B := w.heap.size) (f := 8) (.tmp 13) (.tmp 14) 83 rfl ?_ Tryd.underlying83 sz_u8 ?_ (y.n % 64) ?_ ?_ ?_); exact rfl; exact rfl; (show (_ : Int) = _; omega); omega; simp only [Act.put, List.setIfInBounds_toArray, List.set_cons_succ, List.set_cons_zero])
          | (((with_reducible refine' wpList_copy_str (s := (t.drop i)) (f := 8 + y.n % 64) (n := 64 - y.n % 64) (cap := 64 - y.n % 64) (.tmp 15) (.tmp 16) 52 9 rfl ?_ Tryd.underlying52 sz_u8 ?_ ?_ hkS ?_ HK.out ?_); exact rfl; exact rfl; exact rfl; rw [L0.out]; omega; intro wA hkA hOA hzA; simp only [Act.put, List.setIfInBounds_toArray, List.set_cons_succ, List.set_cons_zero]); rw [HTK.out, PB.out] at hkA)
          | (((with_reducible refine' wpList_str_from (.tmp 18) (.tmp 19) 9 rfl ?_ Tryd.underlying9 (l := (t.drop i)) ?_ (k) ?_ ?_ ?_); exact rfl; exact rfl; (show (_ : Int) = _; omega); exact hkl; simp only [Act.put, List.setIfInBounds_toArray, List.set_cons_succ, List.set_cons_zero]); rw [ED.out])
          | ((with_reducible refine' wpList_load_blk (.tmp 21) 76 rfl ?_ ld_u64 ?_ hkA (N1.out) ?_); exact rfl; exact rfl; simp only [Act.put, List.setIfInBounds_toArray, List.set_cons_succ, List.set_cons_zero])
          | ((with_reducible refine' wpList_set_blk (k := 72) (B := w.heap.size) (u := .int .u64 ((y.n : Int) + (k : Int))) 76 (.tmp 26) (.tmp 25) rfl ?_ sz_u64 ?_ ?_ hkA (by rw [L1.out]; decide) ?_ ?_); exact rfl; exact rfl; exact rfl; exact rfl; intro wB hkB hOB hzB; rw [SN.out] at hkB; simp only [Act.put]))
        have hE := EZ1.out
        have hs := hbl.size
        have hkR2 := hOB.blk (hOA.blk hkR (by omega)) (by omega)
        have hsA := hOA.size
        have hblB := (hbl.trans (hOA.below (Nat.le_refl _) hs)).trans (hOB.below (Nat.le_refl _) (by omega))
        have hTB := hT.below hblB
        have hrd := Blk.rd hkB 8 64 64 1 (by rw [L2.out]; decide) (Nat.le_refl _) (by unfold maxLen; omega)
        rw [Nat.mul_one, BL.out] at hrd
        clear hOA hOB hzA hzB hkA hE hs
        have hbc0 := below_drew hblB
        (refine wp_region_tail 4 (by kernel_rfl) (by kernel_rfl) ?_; simp only [List.take_succ_cons, List.take_zero, List.drop_succ_cons, List.drop_zero]; (repeat (first | ((with_reducible refine' wpQuiet_load_part (f := 0) (cp := uv (l8 y.s)) still_drew (.tmp 31) 82 rfl ?_ Tryd.underlying82 rfl sz_w8 ?_ hkB ?_ ?_ ?_); exact rfl; exact rfl; rw [L2.out]; decide; exact stv_state _; simp only [Act.put, List.setIfInBounds_toArray, List.set_cons_succ, List.set_cons_zero]) | ((with_reducible refine' wpQuiet_arr_all (B := w.heap.size) (f := 8) (.tmp 33) 83 rfl ?_ Tryd.underlying83 sz_u8 ?_ ?_); exact rfl; exact rfl; simp only [Act.put, List.setIfInBounds_toArray, List.set_cons_succ, List.set_cons_zero]) | go_big_quiet_step (fail))); refine wpQuiet_nil ?_; show wpList _ _ _ _ _ _)
        go_wp2_with (first
          | ((go_at_call 67; (with_reducible refine (compress_any (.slice (some ⟨w.heap.size, 8, none⟩) 64 64) y.s (splice y.b (y.n % 64) tk) wB.drew (Tb.drew hTB) (Rd.drew hrd)).mono ?_); rintro e w' ⟨rfl, hbc⟩); have hkB2 := Blk.below (Blk.drew hkB) hbc (Blk.lt hkB); have hkR3 := Blk.below (Blk.drew hkR2) hbc (Blk.lt hkR2); have hb3 := hbc0.trans (hbc.mono (by have := hblB.size; exact this)))
          | (((with_reducible refine' wpList_store_part (f := 0) (cs := uv (l8 (comp y.s (splice y.b (y.n % 64) tk)))) 82 (.tmp 36) (.tmp 35) rfl ?_ ?_ ?_ hkB2 sz_w8 ?_ ?_ ?_ ?_); exact rfl; exact rfl; exact rfl; rfl; rw [L2.out]; decide; exact uv_one _; intro wC hkC hOC hzC; simp only [Act.put, List.setIfInBounds_toArray, List.set_cons_succ, List.set_cons_zero]); rw [stv_puts] at hkC))
        go_roundw
        case rel =>
          refine ⟨i + k, ⟨comp y.s (splice y.b (y.n % 64) tk), splice y.b (y.n % 64) tk, y.n + k⟩, by rw [List.length_drop] at hkl; omega, rfl, Lib.hid ?_, hkC, hOC.blk hkR3 (by have := EZ1.out; omega), hb3.trans (hOC.below (Nat.le_refl _) hb3.size)⟩
          rw [EK.out, ← List.append_assoc]
          have h := isS_full (t := tk) HY.out (by rw [← HY.out.2.1, HKT.out]; omega)
          rw [← HY.out.2.1, HKT.out] at h
          exact h
        case measure =>
          show (ByteArray.mk (t.drop (i + k)).toArray).size < (ByteArray.mk (t.drop i).toArray).size
          rw [size_str, size_str, List.length_drop, List.length_drop]; omega
      · have hfb : ((y.n : Int) % 64 + (k : Int) == 64) = false := by simp; omega
        go_wp2_with (first
          | ((with_reducible refine' wpList_load_blk (.tmp 9) 76 rfl ?_ ld_u64 ?_ hkS (N0.out) ?_); exact rfl; exact rfl; simp only [Act.put, List.setIfInBounds_toArray, List.set_cons_succ, List.set_cons_zero])
          | ((with_reducible refine' wpList_arr_from (B := w.heap.size) (f := 8) (.tmp 13) (.tmp 14) 83 rfl ?_ Tryd.underlying83 sz_u8 ?_ (y.n % 64) ?_ ?_ ?_); exact rfl; exact rfl; (show (_ : Int) = _; omega); omega; simp only [Act.put, List.setIfInBounds_toArray, List.set_cons_succ, List.set_cons_zero])
          | (((with_reducible refine' wpList_copy_str (s := (t.drop i)) (f := 8 + y.n % 64) (n := 64 - y.n % 64) (cap := 64 - y.n % 64) (.tmp 15) (.tmp 16) 52 9 rfl ?_ Tryd.underlying52 sz_u8 ?_ ?_ hkS ?_ HK.out ?_); exact rfl; exact rfl; exact rfl; rw [L0.out]; omega; intro wA hkA hOA hzA; simp only [Act.put, List.setIfInBounds_toArray, List.set_cons_succ, List.set_cons_zero]); rw [HTK.out, PB.out] at hkA)
          | (((with_reducible refine' wpList_str_from (.tmp 18) (.tmp 19) 9 rfl ?_ Tryd.underlying9 (l := (t.drop i)) ?_ (k) ?_ ?_ ?_); exact rfl; exact rfl; (show (_ : Int) = _; omega); exact hkl; simp only [Act.put, List.setIfInBounds_toArray, List.set_cons_succ, List.set_cons_zero]); rw [ED.out])
          | ((with_reducible refine' wpList_load_blk (.tmp 21) 76 rfl ?_ ld_u64 ?_ hkA (N1.out) ?_); exact rfl; exact rfl; simp only [Act.put, List.setIfInBounds_toArray, List.set_cons_succ, List.set_cons_zero])
          | ((with_reducible refine' wpList_set_blk (k := 72) (B := w.heap.size) (u := .int .u64 ((y.n : Int) + (k : Int))) 76 (.tmp 26) (.tmp 25) rfl ?_ sz_u64 ?_ ?_ hkA (by rw [L1.out]; decide) ?_ ?_); exact rfl; exact rfl; exact rfl; exact rfl; intro wB hkB hOB hzB; rw [SN.out] at hkB; simp only [Act.put]))
        have hE := EZ1.out
        have hs := hbl.size
        have hsA := hOA.size
        go_roundw
        case rel =>
          refine ⟨i + k, ⟨y.s, splice y.b (y.n % 64) tk, y.n + k⟩, by rw [List.length_drop] at hkl; omega, rfl, Lib.hid ?_, hkB, hOB.blk (hOA.blk hkR (by omega)) (by omega), (hbl.trans (hOA.below (Nat.le_refl _) hs)).trans (hOB.below (Nat.le_refl _) (by omega))⟩
          rw [EK.out, ← List.append_assoc]
          have h := isS_part (t := tk) HY.out (by rw [← HY.out.2.1, HKT.out]; have := HK.out; omega)
          rw [← HY.out.2.1, HKT.out] at h
          exact h
        case measure =>
          show (ByteArray.mk (t.drop (i + k)).toArray).size < (ByteArray.mk (t.drop i).toArray).size
          rw [size_str, size_str, List.length_drop, List.length_drop]; omega
    · obtain rfl : i = t.length := by omega
      have hte : (t.drop t.length).isEmpty = true := by simp
      have L0 := Lib.hid (stv_len HY.out.1)
      go_wp2_with (first | ((with_reducible refine' wpList_load_part (f := 0) (cp := stv y) (.tmp 2) 85 rfl ?_ Tryd.underlying85 rfl sz_stm ?_ hkS ?_ ?_ ?_); exact rfl; exact rfl; rw [L0.out]; decide; rw [List.drop_zero, List.take_of_length_le (by rw [L0.out]; decide)]; simp only [Act.put, List.setIfInBounds_toArray, List.set_cons_succ, List.set_cons_zero]) | (((with_reducible refine' wpList_store_blk (cs := stv y) 85 (.tmp 4) (.tmp 37) rfl ?_ ?_ ?_ hkR sz_stm ?_ ?_ ?_ ?_); exact rfl; exact rfl; exact rfl; exact L0.out; exact stz_len; exact stv_one _; intro w3 hk3 hO3 hz3; simp only [Act.put])))
      ((try simp only [Exit.inBlock, Exit.then]); refine bodyPost_ret (results_cell_row rfl _ _ _ _ _ _ _ rfl hk3 Tryd.underlying85 rfl (by rw [sz_stm]; simp [L0.out])) rfl ?_)
      exact ⟨y, rfl, by have h := HY.out; rw [List.take_length] at h; exact h, hbl.trans (hO3.below (by have := EZ1.out; omega) hbl.size)⟩
end Go.Proofs.YtajglgkjpagcjaaDoor.Wi
namespace Go.Proofs.YtajglgkjpagcjaaDoor.Lb
open Go Go.RowKit Go.Lib
section
variable {P : Program} {ops : Array Oper} {Q : Exit → Act → World → Prop} {a : Act} {w : World} {rest : List Oper} {o : Oper}
/-- '[]T{x}', one cell, as a row of the call's own -/
theorem wpList_build_own (x : Operand) (t : TypeId) (ho : o.op = .buildSlice t 1 #[(0, x)]) (hw : Region.wanted o (yielded ops a.tmps) = true) {e : TypeId} (ht : P.underlying t = some (.slice e)) {z : Value} {bytes : Nat} (hinfo : (P.info? e).map (fun i => (i.zero, i.size, i.bytes)) = some (some z, 1, bytes))
    {u : Value} (hx : a.eval x = u) (h1 : u.oneCell' = true)
    (h : ∀ v' w', w'.ownsRow w.heap.size e 1 v' 1 [u] → Below w.heap.size w w' → w'.heap.size = w.heap.size + 1 → wpList P ops Q rest (a.put o.dst v') w') : wpList P ops Q (o :: rest) a w := by
  obtain ⟨i, hi, hz, hsz, hby⟩ := info_parts hinfo
  have hcells : u.cells = #[u] := by cases u <;> simp_all [Value.cells, Value.oneCell']
  have hf : Instr.fill (fun i => some (i * 1, 1)) ((Array.range (1 * 1)).map (z.cells[· % z.cells.size]!)) [(0, a.eval x)] = some #[u] := by
    have hzz : ((Array.range (1 * 1)).map (z.cells[· % z.cells.size]!)).size = 1 := by simp
    obtain ⟨zs, hzs'⟩ : ∃ zs : List Value, ((Array.range (1 * 1)).map (z.cells[· % z.cells.size]!)) = zs.toArray := ⟨_, (Array.toArray_toList).symm⟩
    rw [hzs'] at hzz ⊢
    have hzl : zs.length = 1 := by simpa using hzz
    obtain ⟨z0, rfl⟩ := List.length_eq_one_iff.1 hzl
    simp [Instr.fill, hx, hcells]
  refine wpList_of_run hw (v := .slice (some ⟨w.heap.size, 0, none⟩) 1 1) (w' := w.alloc (.cells #[u] e)) ?_ (h _ _ ?_ ((Below.refl _ _).alloc (Nat.le_refl _) _) (by simp))
  · unfold execOp
    simp only [ho, Instr.buildSlice, List.map_toArray, List.map_cons, List.map_nil, Sem.run_bind, run_underlying ht, Result.andThen_ok]
    simp only [sizeOf, typeInfo]
    simp [hsz, zeroValue, typeInfo, hi, hz]
    simp only [Nat.mul_one] at hf
    rw [hf]
    simp [newRow]
  · exact own_lit w e [u] (by unfold maxLen; simp)
end
def lenV : Value → Nat | .slice _ n _ => n | _ => 0
theorem lenV_own {w : World} {B : Nat} {e : TypeId} {s : Nat} {v : Value} {n : Nat} {xs : List Value} (h : w.ownsRow B e s v n xs) : lenV v = n := by
  rcases h.2 with ⟨rfl, rfl⟩ | ⟨g, cap, cur, rfl, _⟩ <;> rfl
end Go.Proofs.YtajglgkjpagcjaaDoor.Lb
namespace Go.Proofs.YtajglgkjpagcjaaDoor.Wi
open Go Go.RowKit Pu Lb
set_option linter.unusedSimpArgs false

theorem zeros_u8 (n : Nat) : (Value.agg (Array.replicate n (.int .u8 0))).cells = (List.replicate n (.int .u8 0)).toArray := by simp [Value.cells]
theorem rep_snoc (j : Nat) : bv ((128 : UInt8) :: List.replicate j 0) ++ [.int .u8 0] = bv ((128 : UInt8) :: List.replicate (j + 1) 0) := by
  rw [List.replicate_succ', ← List.cons_append, bv_append]; rfl

theorem be_cell (n t : Nat) (h : t < 8) : (8 * (n : Int)) / 2 ^ (56 - 8 * t) % 256 = ((bt ((8 * n / 256 ^ (7 - t) : Nat) : Int)).toNat : Int) := by
  have e : ((2 : Int) ^ (8 * (7 - t))) = ((256 ^ (7 - t) : Nat) : Int) := by rw [← pow8]; norm_cast
  rw [bt_toNat, show 56 - 8 * t = 8 * (7 - t) by omega, e]
  generalize 256 ^ (7 - t) = K
  rw [show 8 * (n : Int) = ((8 * n : Nat) : Int) by rw [Int.natCast_mul]; rfl, Int.natCast_ediv]
theorem be_snoc (l : List UInt8) (n t : Nat) (h : t < 8) : bv (l ++ (be64 (8 * n)).take t) ++ [.int .u8 ((8 * (n : Int)) / 2 ^ (56 - 8 * t) % 256)] = bv (l ++ (be64 (8 * n)).take (t + 1)) := by
  rw [be_cell n t h, be64_take _ h, ← List.append_assoc l, bv_append (l ++ _)]; rfl
theorem out_cell (s : S8) (i : Nat) : ((gw (l8 s) (i / 4)).toNat : Int) / 2 ^ (24 - 8 * (i % 4)) % 256 = ((bt (((gw (l8 s) (i / 4)) >>> UInt32.ofNat (24 - 8 * (i % 4))).toNat : Int)).toNat : Int) := by
  rw [bt_toNat, us _ _ (by omega)]
/-- the bytes that are there, and zeros -/
def ocells (s : S8) (i : Nat) : List Value := bv ((outS s).take i) ++ List.replicate (32 - i) (.int .u8 0)
theorem ocells_len (s : S8) {i : Nat} (h : i ≤ 32) : (ocells s i).length = 32 := by
  unfold ocells
  rw [List.length_append, bv_length, List.length_take, outS_len, List.length_replicate]; omega
theorem ocells_zero (s : S8) : ocells s 0 = List.replicate 32 (.int .u8 0) := by unfold ocells; rw [List.take_zero]; rfl
theorem ocells_all (s : S8) : ocells s 32 = bv (outS s) := by unfold ocells; rw [List.take_of_length_le (by rw [outS_len]; omega), Nat.sub_self]; simp
theorem ocells_set (s : S8) {i : Nat} (h : i < 32) : (ocells s i).set i (.int .u8 (((gw (l8 s) (i / 4)).toNat : Int) / 2 ^ (24 - 8 * (i % 4)) % 256)) = ocells s (i + 1) := by
  unfold ocells
  rw [fill_step (by rw [bv_length, List.length_take, outS_len]; omega) h, out_cell, outS_take s h, bv_append]; rfl
theorem stv_word (x : Strm) {k : Nat} (h : k < 8) : (stv x)[k]? = some (.int .u32 ((gw (l8 x.s) k).toNat : Int)) := by
  unfold stv
  rw [List.getElem?_append_left (by rw [l8_len]; exact h), uv_get (by exact h)]

attribute [local irreducible] comp sched comps sha outS
set_option maxRecDepth 100000 in
set_option maxHeartbeats 1600000 in
theorem strsum_any (m : List UInt8) (x : Strm) (w : World) (hT : TabH w) (hx : IsS m x) (hm : m.length < 576460752303423488) :
    Calls Tryd.prog 55 #[.agg (stv x).toArray] w fun e w' => e = .returned (.agg (bv (sha m)).toArray) ∧ Below w.heap.size w w' := by
  have hxn : x.n = m.length := hx.2.1
  have hx60 : x.n < 576460752303423488 := by omega
  have HXN := Lib.hid hxn
  have HX := Lib.hid hx
  have N0 := Lib.hid (stv_n hx.1)
  have L0 := Lib.hid (stv_len hx.1)
  clear hx hxn
  go_enter Tryd.func55, Tryd.ntmps55
  go_upto_region 3 with (first | ((with_reducible refine' wpList_boxa (cs := stv x) 85 (.tmp 0) rfl ?_ ?_ ?_); exact rfl; exact rfl; intro w1 hkS hN1 hz1; simp only [Act.put, List.setIfInBounds_toArray, List.set_cons_succ, List.set_cons_zero]) | (((with_reducible refine' wpList_alloc_blk (cs := List.replicate 32 (.int .u8 0)) 89 rfl ?_ zr_b32 ?_ ?_); exact rfl; exact zeros_u8 32; intro w2 hkR hN2 hz2; simp only [Act.put, List.setIfInBounds_toArray, List.set_cons_succ, List.set_cons_zero]); have hkS2 := hkS.below hN2 (by omega)) | ((with_reducible refine' wpList_load_blk (.tmp 8) 76 rfl ?_ ld_u64 ?_ hkS2 (N0.out) ?_); exact rfl; exact rfl; simp only [Act.put, List.setIfInBounds_toArray, List.set_cons_succ, List.set_cons_zero]) | ((with_reducible refine' wpList_build_own (u := .int .u8 128) (.const (.int .u8 128)) 52 rfl ?_ Tryd.underlying52 inf_u8 ?_ ?_ ?_); exact rfl; exact rfl; exact rfl; intro v3 w3 hown hN3 hz3; simp only [Act.put, List.setIfInBounds_toArray, List.set_cons_succ, List.set_cons_zero]))
  have hb := (hN1.trans (hN2.mono hN1.size)).trans (hN3.mono (by omega))
  have hkS3 := hkS2.below hN3 (by omega)
  have hkR3 := hkR.below hN3 (by omega)
  have Z1 := Lib.hid hz1; have Z2 := Lib.hid hz2
  have hw12 : w.heap.size < w2.heap.size ∧ w1.heap.size < w2.heap.size := by omega
  have hb23 := hN3.size
  have hN3' := hN3
  clear hN1 hN2 hN3 hz1 hz2 hz3 hkS hkS2 hkR
  go_loopw [4] (fun v wr => ∃ j : Nat, j ≤ zn x.n ∧ wr.ownsRow w2.heap.size 5 1 v (j + 1) (bv ((128 : UInt8) :: List.replicate j 0)) ∧ Blk wr w.heap.size 85 (stv x) ∧ Blk wr w1.heap.size 89 (List.replicate 32 (.int .u8 0)) ∧ Below w2.heap.size w2 wr ∧ Below w.heap.size w wr) (fun v _ => 64 - lenV v)
  case atStart => exact ⟨0, Nat.zero_le _, hown, hkS3, hkR3, hN3', hb⟩
  case round =>
    obtain ⟨j, hj, hown, hkS, hkR, hbl2, hbl⟩ := hrel
    have hzn : zn x.n < 64 := by unfold zn; omega
    have HO := Lib.hid hown
    have hrd := Rd.of_own hown
    clear hown
    by_cases hlt : j < zn x.n
    · obtain ⟨wo, rfl⟩ : ∃ wo : World, wo = wr := ⟨_, rfl⟩
      have hneq : (((x.n : Int) + ((j : Int) + 1)) % 64 != 56) = true := by have := zn_lt hlt; simp; omega
      go_wp2_with (first | ((with_reducible refine' wpList_load_blk (.tmp 12) 76 rfl ?_ ld_u64 ?_ hkS (N0.out) ?_); exact rfl; exact rfl; simp only [Act.put, List.setIfInBounds_toArray, List.set_cons_succ, List.set_cons_zero]) | ((with_reducible refine' wpList_len_rd (.tmp 15) 52 rfl ?_ Tryd.underlying52 ?_ hrd ?_); exact rfl; exact rfl; simp only [Act.put, List.setIfInBounds_toArray, List.set_cons_succ, List.set_cons_zero]) | ((with_reducible refine' wpList_append_one (.tmp 20) (.tmp 21) 52 rfl ?_ Tryd.underlying52 inf_u8 ?_ ?_ HO.out ?_ ?_ ?_ ?_ hbl2.size ?_); exact rfl; exact rfl; exact rfl; exact rfl; exact rfl; (first | omega | (unfold maxLen; omega)); omega; intro v4 w4 ho4 hb4; simp only [Act.put, List.setIfInBounds_toArray, List.set_cons_succ, List.set_cons_zero]))
      go_roundw
      case rel =>
        have hz := hbl.size
        have hz2 := hbl2.size
        rw [rep_snoc] at ho4
        exact ⟨j + 1, by omega, ho4, hkS.below hb4 (by omega), hkR.below hb4 (by omega), hbl2.trans hb4, hbl.trans (hb4.mono (by omega))⟩
      case measure => rw [lenV_own ho4, lenV_own HO.out]; omega
    · obtain rfl : j = zn x.n := by omega
      have hneq : (((x.n : Int) + ((zn x.n : Int) + 1)) % 64 != 56) = false := by have := zn_eq x.n; simp; omega
      go_upto_region 6 with (first | ((with_reducible refine' wpList_load_blk (.tmp 12) 76 rfl ?_ ld_u64 ?_ hkS (N0.out) ?_); exact rfl; exact rfl; simp only [Act.put, List.setIfInBounds_toArray, List.set_cons_succ, List.set_cons_zero]) | ((with_reducible refine' wpList_len_rd (.tmp 15) 52 rfl ?_ Tryd.underlying52 ?_ hrd ?_); exact rfl; exact rfl; simp only [Act.put, List.setIfInBounds_toArray, List.set_cons_succ, List.set_cons_zero]))
      clear hneq hrd
      go_loopw [23, 4] (fun i v wr => ∃ t : Nat, t ≤ 8 ∧ i = .int .i64 t ∧ wr.ownsRow w2.heap.size 5 1 v (zn x.n + 1 + t) (bv ((128 : UInt8) :: List.replicate (zn x.n) 0 ++ (be64 (8 * x.n)).take t)) ∧ Blk wr w.heap.size 85 (stv x) ∧ Blk wr w1.heap.size 89 (List.replicate 32 (.int .u8 0)) ∧ Below w2.heap.size w2 wr ∧ Below w.heap.size w wr) (fun i _ _ => 8 - (intOf i).toNat)
      case atStart => exact ⟨0, by omega, rfl, by rw [List.take_zero, List.append_nil]; exact HO.out, hkS, hkR, hbl2, hbl⟩
      case round =>
        obtain ⟨t, ht, rfl, hown, hkS, hkR, hbl2, hbl⟩ := hrel
        have HO := Lib.hid hown
        have hrd := Rd.of_own hown
        clear hown
        by_cases hlt : t < 8
        · obtain ⟨wo, rfl⟩ : ∃ wo : World, wo = wr := ⟨_, rfl⟩
          go_wp2_with (first | ((with_reducible refine' wpList_append_one (.tmp 26) (.tmp 33) 52 rfl ?_ Tryd.underlying52 inf_u8 ?_ ?_ HO.out ?_ ?_ ?_ ?_ hbl2.size ?_); exact rfl; exact rfl; exact rfl; exact rfl; exact rfl; (first | omega | (unfold maxLen; omega)); omega; intro v4 w4 ho4 hb4; simp only [Act.put, List.setIfInBounds_toArray, List.set_cons_succ, List.set_cons_zero]))
          go_roundw
          case rel =>
            have hz := hbl.size
            have hz2 := hbl2.size
            rw [be_snoc _ _ _ hlt] at ho4
            exact ⟨t + 1, by omega, by go_num, ho4, hkS.below hb4 (by omega), hkR.below hb4 (by omega), hbl2.trans hb4, hbl.trans (hb4.mono (by omega))⟩
          case measure => simp [intOf]; omega
        · obtain rfl : t = 8 := by omega
          rw [List.take_of_length_le (by rw [be64_len]; omega)] at hrd
          have hpt : ((128 : UInt8) :: List.replicate (zn x.n) 0 ++ be64 (8 * x.n)) = padTail x.n := rfl
          rw [hpt] at hrd
          have hpl := padTail_len x.n
          have PL := Lib.hid hpl
          clear hpt hpl
          have hTw := hT.below hbl
          go_upto_region 11 with (first
            | ((with_reducible refine' wpList_load_part (f := 0) (cp := stv x) (.tmp 1) 85 rfl ?_ Tryd.underlying85 rfl sz_stm ?_ hkS ?_ ?_ ?_); exact rfl; exact rfl; rw [L0.out]; decide; rw [List.drop_zero, List.take_of_length_le (by rw [L0.out]; decide)]; simp only [Act.put, List.setIfInBounds_toArray, List.set_cons_succ, List.set_cons_zero])
            | ((with_reducible refine' wpList_str_rd (.tmp 37) 52 9 rfl ?_ Tryd.underlying52 Tryd.underlying5 Tryd.underlying9 ?_ hrd ?_); exact rfl; exact rfl; simp only [Act.put, List.setIfInBounds_toArray, List.set_cons_succ, List.set_cons_zero])
            | ((go_at_call 53; (with_reducible refine (add_any m (padTail x.n) x _ hTw HX.out (by rw [PL.out]; unfold zn; omega)).mono ?_); rintro e w' ⟨y, rfl, hy, hbA⟩); have HY := Lib.hid hy; clear hy; have hkS5 := hkS.below hbA hkS.lt; have hkR5 := hkR.below hbA hkR.lt; have hb5 := hbl.trans (hbA.mono hbl.size); have LY := Lib.hid (stv_len HY.out.1))
            | (((with_reducible refine' wpList_store_blk (cs := stv y) 85 (.tmp 1) (.tmp 39) rfl ?_ ?_ ?_ hkS5 sz_stm ?_ ?_ ?_ ?_); exact rfl; exact rfl; exact rfl; exact LY.out; exact L0.out; exact stv_one _; intro w6 hkS6 hO6 hz6; simp only [Act.put]); have hkR6 := hO6.blk hkR5 (by have := Z1.out; omega); have hb6 := hb5.trans (hO6.below (Nat.le_refl _) hb5.size)))
          go_upto_region 13 with (((with_reducible refine' wpList_alloc_blk (cs := List.replicate 32 (.int .u8 0)) 89 rfl ?_ zr_b32 ?_ ?_); exact rfl; exact zeros_u8 32; intro w7 hkO hN7 hz7; simp only [Act.put, List.setIfInBounds_toArray, List.set_cons_succ, List.set_cons_zero]))
          have hkS7 := hkS6.below hN7 hkS6.lt
          have hkR7 := hkR6.below hN7 hkR6.lt
          have hb7 := hb6.trans (hN7.mono hb6.size)
          have hl1 := hkS6.lt
          have hl2 := hkR6.lt
          clear hkS5 hkR5 hb5 hkS6 hkR6 hb6 hN7 hkS hkR hbl hbl2 hrd hTw hz6 hO6
          obtain ⟨B6, hB6⟩ : ∃ B, w6.heap.size = B := ⟨_, rfl⟩
          rw [hB6] at hkO hl1 hl2 ⊢
          clear hB6
          go_loopw [40] (fun i wr => ∃ t : Nat, t ≤ 32 ∧ i = .int .i64 t ∧ Blk wr B6 89 (ocells y.s t) ∧ Blk wr w.heap.size 85 (stv y) ∧ Blk wr w1.heap.size 89 (List.replicate 32 (.int .u8 0)) ∧ Below w.heap.size w wr) (fun i _ => 32 - (intOf i).toNat)
          case atStart => exact ⟨0, by omega, rfl, by rw [ocells_zero]; exact hkO, hkS7, hkR7, hb7⟩
          case round =>
            obtain ⟨i, hi, rfl, hkO, hkS, hkR, hbl⟩ := hrel
            have OL := Lib.hid (ocells_len y.s hi)
            by_cases hlt : i < 32
            · obtain ⟨wo, rfl⟩ : ∃ wo : World, wo = wr := ⟨_, rfl⟩
              have W := Lib.hid (stv_word y (k := i / 4) (by omega))
              have SET := Lib.hid (ocells_set y.s hlt)
              obtain ⟨q, hq⟩ : ∃ q, gw (l8 y.s) (i / 4) = q := ⟨_, rfl⟩
              rw [hq] at W SET
              have hq32 := lt32 q
              clear hq
              go_wp2_with (first
                | ((with_reducible refine' wpList_at_blk (.tmp 46) (.tmp 45) 82 rfl ?_ Tryd.underlying82 sz_u32 ?_ (i / 4) ?_ ?_ ?_); exact rfl; exact rfl; (show (_ : Int) = _; omega); omega; simp only [Act.put, List.setIfInBounds_toArray, List.set_cons_succ, List.set_cons_zero]) | ((with_reducible refine' wpList_load_blk (.tmp 47) 81 rfl ?_ ld_u32 ?_ hkS (W.out) ?_); exact rfl; exact rfl; simp only [Act.put, List.setIfInBounds_toArray, List.set_cons_succ, List.set_cons_zero]) | ((with_reducible refine' wpList_at_blk (.tmp 6) (.tmp 43) 89 rfl ?_ Tryd.underlying89 sz_u8 ?_ (i) ?_ ?_ ?_); exact rfl; exact rfl; (show (_ : Int) = _; omega); omega; simp only [Act.put, List.setIfInBounds_toArray, List.set_cons_succ, List.set_cons_zero])
                | ((with_reducible refine' wpList_set_blk (k := i) (B := B6) (u := .int .u8 ((q.toNat : Int) / 2 ^ (24 - 8 * (i % 4)) % 256)) 5 (.tmp 55) (.tmp 54) rfl ?_ sz_u8 ?_ ?_ hkO (by rw [OL.out]; exact hlt) ?_ ?_); exact rfl; exact rfl; exact rfl; exact rfl; intro wB hkB hOB hzB; rw [SET.out] at hkB; simp only [Act.put]))
              go_roundw
              case rel => exact ⟨i + 1, by omega, by go_num, hkB, hOB.blk hkS (by omega), hOB.blk hkR (by omega), hbl.trans (hOB.below (by omega) hbl.size)⟩
              case measure => simp [intOf]; omega
            · obtain rfl : i = 32 := by omega
              rw [ocells_all] at hkO
              have OL2 := Lib.hid (show (bv (outS y.s)).length = 32 by rw [bv_length, outS_len])
              go_wp2_with (first | ((with_reducible refine' wpList_loadall_blk (.tmp 6) 89 rfl ?_ Tryd.underlying89 sz_b32 ?_ hkO ?_ ?_ ?_); exact rfl; exact rfl; exact OL2.out; omega; simp only [Act.put, List.setIfInBounds_toArray, List.set_cons_succ, List.set_cons_zero]) | ((with_reducible refine' wpList_store_blk (cs := bv (outS y.s)) 89 (.tmp 2) (.tmp 57) rfl ?_ ?_ ?_ hkR sz_b32 ?_ ?_ ?_ ?_); exact rfl; exact rfl; exact rfl; exact OL2.out; exact List.length_replicate; exact bv_one _; intro w8 hk8 hO8 hz8; simp only [Act.put]))
              ((try simp only [Exit.inBlock, Exit.then]); refine bodyPost_ret (results_cell_row rfl _ _ _ _ _ _ _ rfl hk8 Tryd.underlying89 rfl (by rw [sz_b32]; simp [OL2.out])) rfl ?_)
              have h := HY.out
              rw [HXN.out] at h
              have e : outS y.s = sha m := sha_of h
              exact ⟨by rw [e], hbl.trans (hO8.below (by have := Z1.out; omega) hbl.size)⟩
end Go.Proofs.YtajglgkjpagcjaaDoor.Wi
namespace Go.Proofs.YtajglgkjpagcjaaDoor.Lb
open Go Go.RowKit Go.Lib
section
variable {P : Program} {ops : Array Oper} {Q : Exit → Act → World → Prop} {a : Act} {w : World} {rest : List Oper} {o : Oper}
/-- '[]T{}' -/
theorem wpList_build_nil {t : TypeId} (ho : o.op = .buildSlice t 0 #[]) (hw : Region.wanted o (yielded ops a.tmps) = true) {e : TypeId} (ht : P.underlying t = some (.slice e)) {s : Nat} (hsz : (P.info? e).map (·.size) = some s)
    (h : ∀ v' w', w'.ownsRow w.heap.size e s v' 0 [] → Below w.heap.size w w' → wpList P ops Q rest (a.put o.dst v') w') : wpList P ops Q (o :: rest) a w := by
  obtain ⟨ti, hti, rfl⟩ := Option.map_eq_some_iff.1 hsz
  refine wpList_of_run hw (v := .slice (some ⟨w.heap.size, 0, none⟩) 0 0) (w' := w.alloc (.cells #[] e)) ?_ (h _ _ (World.ownsRow_made w #[] 0 (Nat.le_refl _) (by unfold maxLen; omega) (by simp)) ((Below.refl _ _).alloc (Nat.le_refl _) _))
  unfold execOp
  simp only [ho, Instr.buildSlice, Sem.run_bind, run_underlying ht, Result.andThen_ok]
  simp [sizeOf, typeInfo, hti, newRow, Instr.fill]
  rw [show Array.range 0 = #[] from Array.eq_empty_of_size_eq_zero (by simp), Array.map_empty]
end
end Go.Proofs.YtajglgkjpagcjaaDoor.Lb
namespace Go.Proofs.YtajglgkjpagcjaaDoor.Wi
open Go Go.RowKit Pu Lb
set_option linter.unusedSimpArgs false
set_option linter.unusedVariables false
attribute [local irreducible] comp sched comps sha outS

/-- the message, the mark, j zeros -/
def padz (m : List UInt8) (j : Nat) : List UInt8 := m ++ 128 :: List.replicate j 0
theorem padz_len (m : List UInt8) (j : Nat) : (padz m j).length = m.length + 1 + j := by simp [padz]; omega
theorem padz_snoc (m : List UInt8) (j : Nat) : bv (padz m j) ++ [.int .u8 0] = bv (padz m (j + 1)) := by
  unfold padz
  rw [List.replicate_succ', ← List.cons_append, ← List.append_assoc, bv_append (m ++ _)]; rfl
theorem padz_zero (m : List UInt8) : bv m ++ [.int .u8 128] = bv (padz m 0) := by rw [padz, bv_append]; rfl
theorem padz_all (m : List UInt8) : padz m (zn m.length) ++ be64 (8 * m.length) = padded m := by
  unfold padz padded padTail zn
  simp
theorem be_snoc2 (l : List UInt8) (n t : Nat) (h : t < 8) : bv (l ++ (be64 (8 * n)).take t) ++ [.int .u8 ((8 * (n : Int)) / 2 ^ (56 - 8 * t) % 256)] = bv (l ++ (be64 (8 * n)).take (t + 1)) := be_snoc l n t h

set_option maxRecDepth 100000 in
set_option maxHeartbeats 800000 in
theorem refpadded_any (x : Value) (n : Nat) (m : List UInt8) (w : World) (hx : Rd w 1 x n (bv m)) (hn : m.length ≤ 70368744177664) :
    Calls Tryd.prog 69 #[x] w fun e w' => ∃ v, e = .returned v ∧ w'.ownsRow w.heap.size 5 1 v (padded m).length (bv (padded m)) ∧ Below w.heap.size w w' := by
  have hl : m.length = n := by have := hx.1; rw [bv_length] at this; omega
  have h1m := bv_one m
  have h1o : ∀ u ∈ ([Value.int .u8 128] : List Value), u.oneCell' = true := by intro u hu; simp at hu; subst hu; rfl
  have hzn : zn m.length < 64 := by unfold zn; omega
  have HL := Lib.hid hl
  have hnn : n ≤ 70368744177664 := by omega
  clear hl
  go_enter Tryd.func69, Tryd.ntmps69
  go_upto_region 3 with (first
    | (((with_reducible refine' wpList_build_nil rfl ?_ Tryd.underlying52 sz_u8 ?_); exact rfl; intro v0 w0 o0 hN0; simp only [Act.put, List.setIfInBounds_toArray, List.set_cons_succ, List.set_cons_zero]); have hx0 := hx.below hN0)
    | (((with_reducible refine' wpList_append_rd (.tmp 6) (.tmp 7) 52 rfl ?_ Tryd.underlying52 inf_u8 ?_ ?_ ?_ o0 ?_ hx0 h1m ?_ ?_ hN0.size ?_); exact rfl; exact rfl; omega; exact rfl; exact rfl; (first | omega | (unfold maxLen; omega)); omega; intro v1 w1 o1 hN1; simp only [Act.put, List.setIfInBounds_toArray, List.set_cons_succ, List.set_cons_zero]); rw [Nat.zero_add, List.nil_append] at o1)
    | (((with_reducible refine' wpList_build_own (u := .int .u8 128) (.const (.int .u8 128)) 52 rfl ?_ Tryd.underlying52 inf_u8 ?_ ?_ ?_); exact rfl; exact rfl; exact rfl; intro v2 w2 o2 hN2 hz2; simp only [Act.put, List.setIfInBounds_toArray, List.set_cons_succ, List.set_cons_zero]); have o1b := own_below o1 hN2; have r2 := Rd.of_own o2)
    | (((with_reducible refine' wpList_append_rd (.tmp 9) (.tmp 10) 52 rfl ?_ Tryd.underlying52 inf_u8 ?_ ?_ ?_ o1b ?_ r2 h1o ?_ ?_ (Nat.le_trans (Nat.le_trans hN0.size hN1.size) hN2.size) ?_); exact rfl; exact rfl; omega; exact rfl; exact rfl; (first | omega | (unfold maxLen; omega)); omega; intro v3 w3 o3 hN3; simp only [Act.put, List.setIfInBounds_toArray, List.set_cons_succ, List.set_cons_zero])))
  have hb3 := ((hN0.trans (hN1)).trans (hN2.mono (by have := hN0.size; have := hN1.size; omega))).trans hN3
  rw [padz_zero, ← HL.out] at o3
  have O3 := Lib.hid o3
  clear o3 hN0 hN1 hN2 hN3 hz2 o0 o1 o2 o1b r2 hx0
  go_loopw [3] (fun v wr => ∃ j : Nat, j ≤ zn m.length ∧ wr.ownsRow w.heap.size 5 1 v (m.length + 1 + j) (bv (padz m j)) ∧ Below w.heap.size w wr) (fun v _ => m.length + 100 - lenV v)
  case atStart => exact ⟨0, Nat.zero_le _, O3.out, hb3⟩
  case round =>
    obtain ⟨j, hj, hown, hbl⟩ := hrel
    have HO := Lib.hid hown
    have hrd := Rd.of_own hown
    clear hown
    by_cases hlt : j < zn m.length
    · obtain ⟨wo, rfl⟩ : ∃ wo : World, wo = wr := ⟨_, rfl⟩
      have hneq : (((m.length : Int) + 1 + (j : Int)) % 64 != 56) = true := by have := zn_lt hlt; simp; omega
      go_wp2_with (first | ((with_reducible refine' wpList_len_rd (.tmp 12) 52 rfl ?_ Tryd.underlying52 ?_ hrd ?_); exact rfl; exact rfl; simp only [Act.put, List.setIfInBounds_toArray, List.set_cons_succ, List.set_cons_zero]) | ((with_reducible refine' wpList_append_one (.tmp 16) (.tmp 17) 52 rfl ?_ Tryd.underlying52 inf_u8 ?_ ?_ HO.out ?_ ?_ ?_ ?_ hbl.size ?_); exact rfl; exact rfl; exact rfl; exact rfl; exact rfl; (first | omega | (unfold maxLen; omega)); omega; intro v4 w4 ho4 hb4; simp only [Act.put, List.setIfInBounds_toArray, List.set_cons_succ, List.set_cons_zero]))
      go_roundw
      case rel =>
        rw [padz_snoc] at ho4
        exact ⟨j + 1, by omega, ho4, hbl.trans hb4⟩
      case measure => rw [lenV_own ho4, lenV_own HO.out]; omega
    · obtain rfl : j = zn m.length := by omega
      have hneq : (((m.length : Int) + 1 + (zn m.length : Int)) % 64 != 56) = false := by have := zn_eq m.length; simp; omega
      have hxw := hx.below hbl
      go_upto_region 7 with (first | ((with_reducible refine' wpList_len_rd (.tmp 12) 52 rfl ?_ Tryd.underlying52 ?_ hrd ?_); exact rfl; exact rfl; simp only [Act.put, List.setIfInBounds_toArray, List.set_cons_succ, List.set_cons_zero]) | ((with_reducible refine' wpList_len_rd (.tmp 19) 52 rfl ?_ Tryd.underlying52 ?_ hxw ?_); exact rfl; exact rfl; simp only [Act.put, List.setIfInBounds_toArray, List.set_cons_succ, List.set_cons_zero]))
      clear hneq hrd
      go_loopw [5, 3] (fun i v wr => ∃ t : Nat, t ≤ 8 ∧ i = .int .i64 t ∧ wr.ownsRow w.heap.size 5 1 v (m.length + 1 + zn m.length + t) (bv (padz m (zn m.length) ++ (be64 (8 * m.length)).take t)) ∧ Below w.heap.size w wr) (fun i _ _ => 8 - (intOf i).toNat)
      case atStart => exact ⟨0, by omega, rfl, by rw [List.take_zero, List.append_nil]; exact HO.out, hbl⟩
      case round =>
        obtain ⟨t, ht, rfl, hown, hbl⟩ := hrel
        have HO := Lib.hid hown
        clear hown
        by_cases hlt : t < 8
        · obtain ⟨wo, rfl⟩ : ∃ wo : World, wo = wr := ⟨_, rfl⟩
          go_wp2_with (first | ((with_reducible refine' wpList_append_one (.tmp 27) (.tmp 34) 52 rfl ?_ Tryd.underlying52 inf_u8 ?_ ?_ HO.out ?_ ?_ ?_ ?_ hbl.size ?_); exact rfl; exact rfl; exact rfl; exact rfl; exact rfl; (first | omega | (unfold maxLen; omega)); omega; intro v4 w4 ho4 hb4; simp only [Act.put, List.setIfInBounds_toArray, List.set_cons_succ, List.set_cons_zero]))
          go_roundw
          case rel =>
            rw [← HL.out, be_snoc _ _ _ hlt] at ho4
            exact ⟨t + 1, by omega, by go_num, ho4, hbl.trans hb4⟩
          case measure => simp [intOf]; omega
        · obtain rfl : t = 8 := by omega
          have ho := HO.out
          rw [List.take_of_length_le (by rw [be64_len]; omega), padz_all] at ho
          have hpl : (padded m).length = m.length + 1 + zn m.length + 8 := by unfold padded; rw [List.length_append, padTail_len]; omega
          rw [← hpl] at ho
          go_wp2_with fail
          go_ret
          exact ⟨_, rfl, ho, hbl⟩

/-! ### the words of a block -/
def s3 (x : UInt32) : UInt32 := x >>> 3
def s10 (x : UInt32) : UInt32 := x >>> 10
theorem s3_eq (x : UInt32) : (x.toNat : Int) / 8 = ((s3 x).toNat : Int) := us x 3 (by omega)
theorem s10_eq (x : UInt32) : (x.toNat : Int) / 1024 = ((s10 x).toNat : Int) := us x 10 (by omega)
theorem rotr_q (x : UInt32) (n : Nat) (z : Int) (hz : z = (n : Int)) (hn : 0 < n) (hn2 : n < 32) (w : World) (k : Nat) :
    Calls Tryd.prog 71 #[.int .u32 (x.toNat : Int), .int .i64 z] (w.drewN k) fun e w' => e = .returned (.int .u32 ((rr x n).toNat : Int)) ∧ ∃ q, w' = w.drewN q := by
  refine (rotr_any x n z hz hn hn2 (w.drewN k)).mono ?_
  rintro e w' ⟨rfl, q, rfl⟩
  exact ⟨rfl, k + q, by rw [World.drewN_drewN]⟩
theorem be_word (a b c d : UInt8) : bits .or .u32 (bits .or .u32 (bits .or .u32 ((a.toNat : Int) * 16777216 % 4294967296) ((b.toNat : Int) * 65536 % 4294967296)) ((c.toNat : Int) * 256 % 4294967296)) (d.toNat : Int) = ((be32 a b c d).toNat : Int) := by
  have e : ∀ x : UInt8, (x.toNat : Int) = ((x.toUInt32).toNat : Int) := fun x => by rw [UInt8.toNat_toUInt32]
  rw [e a, e b, e c, e d, show (16777216 : Int) = 2 ^ 24 from rfl, show (65536 : Int) = 2 ^ 16 from rfl, show (256 : Int) = 2 ^ 8 from rfl, ul _ 24 (by omega), ul _ 16 (by omega), ul _ 8 (by omega), uo, uo, uo]
  rfl
theorem be_word2 (a b c d : UInt8) : bits .or .u32 (bits .or .u32 (bits .or .u32 ((a.toNat : Int) * 16777216) ((b.toNat : Int) * 65536)) ((c.toNat : Int) * 256)) (d.toNat : Int) = ((be32 a b c d).toNat : Int) := by
  have ha := u8_lt a; have hb := u8_lt b; have hc := u8_lt c
  rw [← be_word, Int.emod_eq_of_lt (by omega) (by omega), Int.emod_eq_of_lt (by omega) (by omega), Int.emod_eq_of_lt (by omega) (by omega)]
theorem wcells_nil : wcells [] = List.replicate 64 (.int .u32 0) := rfl

set_option maxRecDepth 100000 in
set_option maxHeartbeats 1600000 in
theorem refwords_any (v : Value) (b : List UInt8) (w : World) (hv : Rd w 1 v 64 (bv b)) :
    Calls Tryd.prog 70 #[v] w fun e w' => e = .returned (.agg (uv (sched b 64)).toArray) ∧ Below w.heap.size w w' := by
  have hl : b.length = 64 := by have := hv.1; rw [bv_length] at this; omega
  have HL := Lib.hid hl; clear hl
  go_enter Tryd.func70, Tryd.ntmps70
  go_upto_region 1 with (((with_reducible refine' wpList_alloc_blk (cs := List.replicate 64 (.int .u32 0)) 103 rfl ?_ zr_w64 ?_ ?_); exact rfl; exact zeros_u32 64; intro w1 hkA hN1 hz1; simp only [Act.put, List.setIfInBounds_toArray, List.set_cons_succ, List.set_cons_zero]))
  go_upto_region 3 with (((with_reducible refine' wpList_alloc_blk (cs := List.replicate 64 (.int .u32 0)) 103 rfl ?_ zr_w64 ?_ ?_); exact rfl; exact zeros_u32 64; intro w2 hkB hN2 hz2; simp only [Act.put, List.setIfInBounds_toArray, List.set_cons_succ, List.set_cons_zero]))
  have hb := hN1.trans (hN2.mono hN1.size)
  replace hkA := hkA.below hN2 (by omega)
  have hlt1 : w.heap.size < w1.heap.size := by omega
  clear hz1 hz2 hN1 hN2
  go_loopw [4] (fun i wr => ∃ t : Nat, t ≤ 16 ∧ i = .int .i64 t ∧ Blk wr w1.heap.size 103 (wcells (sched b t)) ∧ Blk wr w.heap.size 103 (List.replicate 64 (.int .u32 0)) ∧ Below w.heap.size w wr) (fun i _ => 16 - (intOf i).toNat)
  case atStart => exact ⟨0, by omega, rfl, by rw [sched_zero, wcells_nil]; exact hkB, hkA, hb⟩
  case round =>
    obtain ⟨t, ht, rfl, hkW, hkR, hbl⟩ := hrel
    have hsl := sched_len b t
    have SL := Lib.hid hsl
    have WL := Lib.hid (wcells_len (l := sched b t) (by omega))
    by_cases hlt : t < 16
    · obtain ⟨wo, rfl⟩ : ∃ wo : World, wo = wr := ⟨_, rfl⟩
      have hset : ∀ x : UInt32, (wcells (sched b t)).set t (.int .u32 (x.toNat : Int)) = wcells (sched b t ++ [x]) := fun x => by
        have := wcells_set (l := sched b t) (x := x) (by omega)
        rwa [hsl] at this
      have HSET := Lib.hid hset
      have HK := Lib.hid hkW
      clear hset hsl hkW
      have r1 := hv.below hbl
      have g0 := get_lt (l := b) (k := 4 * t) (by rw [HL.out]; omega)
      have C0 := Lib.hid (part_get (b := b) (t := 0) (j := 4 * t) (n := 64) (by omega) (by rw [HL.out]; omega))
      have C1 := Lib.hid (part_get (b := b) (t := 0) (j := 4 * t + 1) (n := 64) (by omega) (by rw [HL.out]; omega))
      have C2 := Lib.hid (part_get (b := b) (t := 0) (j := 4 * t + 2) (n := 64) (by omega) (by rw [HL.out]; omega))
      have C3 := Lib.hid (part_get (b := b) (t := 0) (j := 4 * t + 3) (n := 64) (by omega) (by rw [HL.out]; omega))
      have e0 : (b.drop 0).take 64 = b := by rw [List.drop_zero, List.take_of_length_le (by rw [HL.out]; exact Nat.le_refl _)]
      rw [e0, Nat.zero_add] at C0 C1 C2 C3
      clear e0 g0
      obtain ⟨x0, hx0⟩ : ∃ x, gb b (4 * t) = x := ⟨_, rfl⟩
      obtain ⟨x1, hx1⟩ : ∃ x, gb b (4 * t + 1) = x := ⟨_, rfl⟩
      obtain ⟨x2, hx2⟩ : ∃ x, gb b (4 * t + 2) = x := ⟨_, rfl⟩
      obtain ⟨x3, hx3⟩ : ∃ x, gb b (4 * t + 3) = x := ⟨_, rfl⟩
      rw [hx0] at C0; rw [hx1] at C1; rw [hx2] at C2; rw [hx3] at C3
      have hbe : sched b (t + 1) = sched b t ++ [be32 x0 x1 x2 x3] := by rw [sched_low b hlt, hx0, hx1, hx2, hx3]
      have HBE := Lib.hid hbe
      clear hx0 hx1 hx2 hx3 hbe
      have b0 := u8_lt x0; have b1 := u8_lt x1; have b2 := u8_lt x2; have b3 := u8_lt x3
      have q0 : IntKind.i64.wrap (4 * (t : Int)) = 4 * (t : Int) := by rw [IntKind.wrap_i64]; omega
      have q1 : IntKind.i64.wrap (4 * (t : Int) + 1) = 4 * (t : Int) + 1 := by rw [IntKind.wrap_i64]; omega
      have q2 : IntKind.i64.wrap (4 * (t : Int) + 2) = 4 * (t : Int) + 2 := by rw [IntKind.wrap_i64]; omega
      have q3 : IntKind.i64.wrap (4 * (t : Int) + 3) = 4 * (t : Int) + 3 := by rw [IntKind.wrap_i64]; omega
      go_upto_region 5 with fail
      (refine wp_region_tail 35 (by kernel_rfl) (by kernel_rfl) ?_; simp only [List.take_succ_cons, List.take_zero, List.drop_succ_cons, List.drop_zero]; (repeat (first | ((with_reducible refine' wpQuiet_at1_rd (.tmp 13) (.tmp 15) 52 rfl ?_ Tryd.underlying52 sz_u8 ?_ r1 (4 * t) ?_ ?_ ?_); exact rfl; exact rfl; (show (_ : Int) = _; omega); omega; simp only [Act.put, List.setIfInBounds_toArray, List.set_cons_succ, List.set_cons_zero]) | ((with_reducible refine' wpQuiet_at1_rd (.tmp 20) (.tmp 23) 52 rfl ?_ Tryd.underlying52 sz_u8 ?_ r1 (4 * t + 1) ?_ ?_ ?_); exact rfl; exact rfl; (show (_ : Int) = _; omega); omega; simp only [Act.put, List.setIfInBounds_toArray, List.set_cons_succ, List.set_cons_zero]) | ((with_reducible refine' wpQuiet_at1_rd (.tmp 29) (.tmp 32) 52 rfl ?_ Tryd.underlying52 sz_u8 ?_ r1 (4 * t + 2) ?_ ?_ ?_); exact rfl; exact rfl; (show (_ : Int) = _; omega); omega; simp only [Act.put, List.setIfInBounds_toArray, List.set_cons_succ, List.set_cons_zero]) | ((with_reducible refine' wpQuiet_at1_rd (.tmp 38) (.tmp 41) 52 rfl ?_ Tryd.underlying52 sz_u8 ?_ r1 (4 * t + 3) ?_ ?_ ?_); exact rfl; exact rfl; (show (_ : Int) = _; omega); omega; simp only [Act.put, List.setIfInBounds_toArray, List.set_cons_succ, List.set_cons_zero]) | ((with_reducible refine' wpQuiet_load_rd still_drew (.tmp 16) 5 rfl ?_ ld_u8 ?_ r1 (C0.out) ?_); exact rfl; exact rfl; simp only [Act.put, List.setIfInBounds_toArray, List.set_cons_succ, List.set_cons_zero]) | ((with_reducible refine' wpQuiet_load_rd still_drew (.tmp 24) 5 rfl ?_ ld_u8 ?_ r1 (C1.out) ?_); exact rfl; exact rfl; simp only [Act.put, List.setIfInBounds_toArray, List.set_cons_succ, List.set_cons_zero]) | ((with_reducible refine' wpQuiet_load_rd still_drew (.tmp 33) 5 rfl ?_ ld_u8 ?_ r1 (C2.out) ?_); exact rfl; exact rfl; simp only [Act.put, List.setIfInBounds_toArray, List.set_cons_succ, List.set_cons_zero]) | ((with_reducible refine' wpQuiet_load_rd still_drew (.tmp 42) 5 rfl ?_ ld_u8 ?_ r1 (C3.out) ?_); exact rfl; exact rfl; simp only [Act.put, List.setIfInBounds_toArray, List.set_cons_succ, List.set_cons_zero]) | ((with_reducible refine' wpQuiet_at_blk (.tmp 3) (.tmp 12) 103 rfl ?_ Tryd.underlying103 sz_u32 ?_ (t) ?_ ?_ ?_); exact rfl; exact rfl; (show (_ : Int) = _; omega); omega; simp only [Act.put, List.setIfInBounds_toArray, List.set_cons_succ, List.set_cons_zero]) | go_big_quiet_step (fail))); refine wpQuiet_nil ?_; show wpList _ _ _ _ _ _)
      (with_reducible refine' wpList_set_blk (k := t) 81 (.tmp 46) (.tmp 45) rfl ?_ sz_u32 ?_ rfl (Blk.drew HK.out) (by rw [WL.out]; omega) ?_ ?_); exact rfl; exact rfl; exact rfl; intro w4 hk4 hq4 hz4; simp only [Act.put]
      simp [Act.eval] at hk4
      rw [be_word2, HSET.out, ← HBE.out] at hk4
      go_wp2_with fail
      go_roundw
      case rel => exact ⟨t + 1, by omega, by go_num, hk4, hq4.blk (Blk.drew hkR) (by omega), (below_drew hbl).trans (hq4.below (by omega) hbl.size)⟩
      case measure => simp [intOf]; omega
    · obtain rfl : t = 16 := by omega
      clear WL
      go_upto_region 7 with fail
      go_loopw [5] (fun i wr => ∃ t : Nat, 16 ≤ t ∧ t ≤ 64 ∧ i = .int .i64 t ∧ Blk wr w1.heap.size 103 (wcells (sched b t)) ∧ Blk wr w.heap.size 103 (List.replicate 64 (.int .u32 0)) ∧ Below w.heap.size w wr) (fun i _ => 64 - (intOf i).toNat)
      case atStart => exact ⟨16, by omega, by omega, rfl, hkW, hkR, hbl⟩
      case round =>
        obtain ⟨t, ht0, ht, rfl, hkW, hkR, hbl⟩ := hrel
        have hsl := sched_len b t
        have WL := Lib.hid (wcells_len (l := sched b t) (by omega))
        by_cases hlt : t < 64
        · obtain ⟨wo, rfl⟩ : ∃ wo : World, wo = wr := ⟨_, rfl⟩
          have hset : ∀ x : UInt32, (wcells (sched b t)).set t (.int .u32 (x.toNat : Int)) = wcells (sched b t ++ [x]) := fun x => by
            have := wcells_set (l := sched b t) (x := x) (by omega)
            rwa [hsl] at this
          have HSET := Lib.hid hset
          have W1 := Lib.hid (wcells_get (l := sched b t) (k := t - 15) (by omega))
          have W2 := Lib.hid (wcells_get (l := sched b t) (k := t - 2) (by omega))
          have W3 := Lib.hid (wcells_get (l := sched b t) (k := t - 16) (by omega))
          have W4 := Lib.hid (wcells_get (l := sched b t) (k := t - 7) (by omega))
          have hnw : nextw (sched b t) = gw (sched b t) (t - 16) + sg0 (gw (sched b t) (t - 15)) + gw (sched b t) (t - 7) + sg1 (gw (sched b t) (t - 2)) := by unfold nextw; rw [hsl]
          obtain ⟨x1, hx1⟩ : ∃ x, gw (sched b t) (t - 15) = x := ⟨_, rfl⟩
          obtain ⟨x2, hx2⟩ : ∃ x, gw (sched b t) (t - 2) = x := ⟨_, rfl⟩
          obtain ⟨x3, hx3⟩ : ∃ x, gw (sched b t) (t - 16) = x := ⟨_, rfl⟩
          obtain ⟨x4, hx4⟩ : ∃ x, gw (sched b t) (t - 7) = x := ⟨_, rfl⟩
          rw [hx1] at W1 hnw; rw [hx2] at W2 hnw; rw [hx3] at W3 hnw; rw [hx4] at W4 hnw
          have NW := Lib.hid hnw
          clear hx1 hx2 hx3 hx4 hset hsl hnw
          have hb1 := lt32 x1; have hb2 := lt32 x2; have hb3 := lt32 x3; have hb4 := lt32 x4
          have XR := xr_eq; have e3 := s3_eq x1; have e10 := s10_eq x2
          have q15 : IntKind.i64.wrap ((t : Int) - 15) = (t : Int) - 15 := by rw [IntKind.wrap_i64]; omega
          have q2 : IntKind.i64.wrap ((t : Int) - 2) = (t : Int) - 2 := by rw [IntKind.wrap_i64]; omega
          go_upto_region 9 with fail
          (refine wp_region_quiet_lit (by kernel_rfl) (by kernel_rfl) ?_; (repeat (first | ((with_reducible refine' wpQuiet_at_blk (.tmp 3) (.tmp 52) 103 rfl ?_ Tryd.underlying103 sz_u32 ?_ (t - 15) ?_ ?_ ?_); exact rfl; exact rfl; (show (_ : Int) = _; omega); omega; simp only [Act.put, List.setIfInBounds_toArray, List.set_cons_succ, List.set_cons_zero]) | ((with_reducible refine' wpQuiet_at_blk (.tmp 3) (.tmp 57) 103 rfl ?_ Tryd.underlying103 sz_u32 ?_ (t - 15) ?_ ?_ ?_); exact rfl; exact rfl; (show (_ : Int) = _; omega); omega; simp only [Act.put, List.setIfInBounds_toArray, List.set_cons_succ, List.set_cons_zero]) | ((with_reducible refine' wpQuiet_at_blk (.tmp 3) (.tmp 63) 103 rfl ?_ Tryd.underlying103 sz_u32 ?_ (t - 15) ?_ ?_ ?_); exact rfl; exact rfl; (show (_ : Int) = _; omega); omega; simp only [Act.put, List.setIfInBounds_toArray, List.set_cons_succ, List.set_cons_zero]) | ((with_reducible refine' wpQuiet_load_blk (fun _ h => h) (.tmp 53) 81 rfl ?_ ld_u32 ?_ hkW (W1.out) ?_); exact rfl; exact rfl; simp only [Act.put, List.setIfInBounds_toArray, List.set_cons_succ, List.set_cons_zero]) | ((with_reducible refine' wpQuiet_load_blk (fun _ h => h) (.tmp 58) 81 rfl ?_ ld_u32 ?_ hkW (W1.out) ?_); exact rfl; exact rfl; simp only [Act.put, List.setIfInBounds_toArray, List.set_cons_succ, List.set_cons_zero]) | ((with_reducible refine' wpQuiet_load_blk (fun _ h => h) (.tmp 64) 81 rfl ?_ ld_u32 ?_ hkW (W1.out) ?_); exact rfl; exact rfl; simp only [Act.put, List.setIfInBounds_toArray, List.set_cons_succ, List.set_cons_zero]) | go_big_quiet_step ((go_at_call 71; first | (with_reducible refine rotr_q x1 7 7 rfl (by omega) (by omega) _ _) | (with_reducible refine rotr_q x1 18 18 rfl (by omega) (by omega) _ _))) | go_big_quiet_step (fail))); refine wpQuiet_nil ?_; intro _ hw'; obtain ⟨nq, hw''⟩ := hw'; subst hw'')
          go_upto_region 10 with fail
          replace hkW := hkW.drewN nq; replace hkR := hkR.drewN nq; replace hbl := below_drewN hbl nq
          generalize wo.drewN nq = wq at hkW hkR hbl ⊢
          (refine wp_region_quiet_lit (by kernel_rfl) (by kernel_rfl) ?_; (repeat (first | ((with_reducible refine' wpQuiet_at_blk (.tmp 3) (.tmp 69) 103 rfl ?_ Tryd.underlying103 sz_u32 ?_ (t - 2) ?_ ?_ ?_); exact rfl; exact rfl; (show (_ : Int) = _; omega); omega; simp only [Act.put, List.setIfInBounds_toArray, List.set_cons_succ, List.set_cons_zero]) | ((with_reducible refine' wpQuiet_at_blk (.tmp 3) (.tmp 74) 103 rfl ?_ Tryd.underlying103 sz_u32 ?_ (t - 2) ?_ ?_ ?_); exact rfl; exact rfl; (show (_ : Int) = _; omega); omega; simp only [Act.put, List.setIfInBounds_toArray, List.set_cons_succ, List.set_cons_zero]) | ((with_reducible refine' wpQuiet_at_blk (.tmp 3) (.tmp 80) 103 rfl ?_ Tryd.underlying103 sz_u32 ?_ (t - 2) ?_ ?_ ?_); exact rfl; exact rfl; (show (_ : Int) = _; omega); omega; simp only [Act.put, List.setIfInBounds_toArray, List.set_cons_succ, List.set_cons_zero]) | ((with_reducible refine' wpQuiet_load_blk (fun _ h => h) (.tmp 70) 81 rfl ?_ ld_u32 ?_ hkW (W2.out) ?_); exact rfl; exact rfl; simp only [Act.put, List.setIfInBounds_toArray, List.set_cons_succ, List.set_cons_zero]) | ((with_reducible refine' wpQuiet_load_blk (fun _ h => h) (.tmp 75) 81 rfl ?_ ld_u32 ?_ hkW (W2.out) ?_); exact rfl; exact rfl; simp only [Act.put, List.setIfInBounds_toArray, List.set_cons_succ, List.set_cons_zero]) | ((with_reducible refine' wpQuiet_load_blk (fun _ h => h) (.tmp 81) 81 rfl ?_ ld_u32 ?_ hkW (W2.out) ?_); exact rfl; exact rfl; simp only [Act.put, List.setIfInBounds_toArray, List.set_cons_succ, List.set_cons_zero]) | go_big_quiet_step ((go_at_call 71; first | (with_reducible refine rotr_q x2 17 17 rfl (by omega) (by omega) _ _) | (with_reducible refine rotr_q x2 19 19 rfl (by omega) (by omega) _ _))) | go_big_quiet_step (fail))); refine wpQuiet_nil ?_; intro _ hw'; obtain ⟨nq, hw''⟩ := hw'; subst hw'')
          replace hkW := hkW.drewN nq; replace hkR := hkR.drewN nq; replace hbl := below_drewN hbl nq
          generalize wq.drewN nq = wp at hkW hkR hbl ⊢
          obtain ⟨g0, hg0⟩ : ∃ g, xr (xr (rr x1 7) (rr x1 18)) (s3 x1) = g := ⟨_, rfl⟩
          obtain ⟨g1, hg1⟩ : ∃ g, xr (xr (rr x2 17) (rr x2 19)) (s10 x2) = g := ⟨_, rfl⟩
          rw [hg0, hg1]
          have G0 := Lib.hid hg0; have G1 := Lib.hid hg1
          clear hg0 hg1 XR e3 e10 q15 q2
          have hb5 := lt32 g0; have hb6 := lt32 g1
          have PL := pl_eq; have PL' := pl_eq'
          have q16 : IntKind.i64.wrap ((t : Int) - 16) = (t : Int) - 16 := by rw [IntKind.wrap_i64]; omega
          have q7 : IntKind.i64.wrap ((t : Int) - 7) = (t : Int) - 7 := by rw [IntKind.wrap_i64]; omega
          go_upto_region 11 with fail
          (refine wp_region_tail 15 (by kernel_rfl) (by kernel_rfl) ?_; simp only [List.take_succ_cons, List.take_zero, List.drop_succ_cons, List.drop_zero]; (repeat (first | ((with_reducible refine' wpQuiet_at_blk (.tmp 3) (.tmp 87) 103 rfl ?_ Tryd.underlying103 sz_u32 ?_ (t - 16) ?_ ?_ ?_); exact rfl; exact rfl; (show (_ : Int) = _; omega); omega; simp only [Act.put, List.setIfInBounds_toArray, List.set_cons_succ, List.set_cons_zero]) | ((with_reducible refine' wpQuiet_at_blk (.tmp 3) (.tmp 93) 103 rfl ?_ Tryd.underlying103 sz_u32 ?_ (t - 7) ?_ ?_ ?_); exact rfl; exact rfl; (show (_ : Int) = _; omega); omega; simp only [Act.put, List.setIfInBounds_toArray, List.set_cons_succ, List.set_cons_zero]) | ((with_reducible refine' wpQuiet_at_blk (.tmp 3) (.tmp 85) 103 rfl ?_ Tryd.underlying103 sz_u32 ?_ (t) ?_ ?_ ?_); exact rfl; exact rfl; (show (_ : Int) = _; omega); omega; simp only [Act.put, List.setIfInBounds_toArray, List.set_cons_succ, List.set_cons_zero]) | ((with_reducible refine' wpQuiet_load_blk still_drew (.tmp 88) 81 rfl ?_ ld_u32 ?_ hkW (W3.out) ?_); exact rfl; exact rfl; simp only [Act.put, List.setIfInBounds_toArray, List.set_cons_succ, List.set_cons_zero]) | ((with_reducible refine' wpQuiet_load_blk still_drew (.tmp 94) 81 rfl ?_ ld_u32 ?_ hkW (W4.out) ?_); exact rfl; exact rfl; simp only [Act.put, List.setIfInBounds_toArray, List.set_cons_succ, List.set_cons_zero]) | go_big_quiet_step (fail))); refine wpQuiet_nil ?_; show wpList _ _ _ _ _ _)
          clear q16 q7
          (with_reducible refine' wpList_set_blk (k := t) 81 (.tmp 99) (.tmp 98) rfl ?_ sz_u32 ?_ rfl (Blk.drew hkW) (by rw [WL.out]; exact hlt) ?_ ?_); exact rfl; exact rfl; exact rfl; intro w4 hk4 hq4 hz4; simp only [Act.put]
          simp [Act.eval] at hk4
          rw [HSET.out] at hk4
          go_wp2_with fail
          go_roundw
          case rel =>
            refine ⟨t + 1, by omega, by omega, by go_num, ?_, hq4.blk (Blk.drew hkR) (by omega), (below_drew hbl).trans (hq4.below (by omega) hbl.size)⟩
            rw [← G0.out, ← G1.out] at hk4
            rw [sched_high b ht0, NW.out]
            exact hk4
          case measure => simp [intOf]; omega
        · obtain rfl : t = 64 := by omega
          go_wp2_with (first | ((with_reducible refine' wpList_loadall_blk (.tmp 3) 103 rfl ?_ Tryd.underlying103 sz_w64 ?_ hkW ?_ ?_ ?_); exact rfl; exact rfl; exact WL.out; omega; simp only [Act.put, List.setIfInBounds_toArray, List.set_cons_succ, List.set_cons_zero]) | ((with_reducible refine' wpList_store_blk (cs := (wcells (sched b 64))) 103 (.tmp 2) (.tmp 100) rfl ?_ ?_ ?_ hkR sz_w64 ?_ ?_ ?_ ?_); exact rfl; exact rfl; exact rfl; exact WL.out; simp; exact wcells_one _; intro w3 hk3 hO3 hz3; simp only [Act.put]))
          rw [wcells_full hsl] at hk3
          ((try simp only [Exit.inBlock, Exit.then]); refine bodyPost_ret (results_cell_row rfl _ _ _ _ _ _ _ rfl hk3 Tryd.underlying103 rfl (by rw [sz_w64]; simp [uv_length, hsl])) rfl ?_)
          exact ⟨rfl, hbl.trans (hO3.below (Nat.le_refl _) hbl.size)⟩
end Go.Proofs.YtajglgkjpagcjaaDoor.Wi
namespace Go.Proofs.YtajglgkjpagcjaaDoor.Wi
open Go Go.RowKit Pu Lb
set_option linter.unusedSimpArgs false
set_option linter.unusedVariables false

abbrev TabR (w : World) : Prop := Tb w 0 (uv kk)
theorem TabR.below {w w' : World} (h : TabR w) (hb : Below w.heap.size w w') : TabR w' := Tb.below h hb
theorem own_only {w w' : World} {base B : Nat} {e : TypeId} {s : Nat} {v : Value} {n : Nat} {xs : List Value} (h : w.ownsRow base e s v n xs) (ho : Only B w w') (hB : B < base) : w'.ownsRow base e s v n xs := by
  refine ⟨h.1, ?_⟩
  rcases h.2 with hn | ⟨g, cap, cur, rfl, hbg, hg, rest⟩
  · exact .inl hn
  · refine .inr ⟨g, cap, cur, rfl, hbg, ?_, rest⟩
    rw [ho.block g (Array.getElem?_eq_some_iff.1 hg).1 (by simp; omega)]
    exact hg
theorem nt_eq2 (x : UInt32) : bits .xor .u32 (x.toNat : Int) 4294967295 = ((nt x).toNat : Int) := by
  have h : (4294967295 : Int) = ((4294967295 : UInt32).toNat : Int) := by decide
  rw [h, ux, UInt32.xor_comm]
  congr 2
theorem comps_zero (s : S8) (m : List UInt8) : comps s m 0 = s := rfl
theorem comps_succ (s : S8) (m : List UInt8) (k : Nat) : comps s m (k + 1) = comp (comps s m k) ((m.drop (64 * k)).take 64) := rfl
attribute [local irreducible] comp sched comps sha outS rnds

set_option maxRecDepth 100000 in
set_option maxHeartbeats 3200000 in
theorem refsum_any (x : Value) (n : Nat) (m : List UInt8) (w : World) (hT : TabR w) (hx : Rd w 1 x n (bv m)) (hn : m.length ≤ 70368744177664) :
    Calls Tryd.prog 66 #[x] w fun e w' => e = .returned (.agg (bv (sha m)).toArray) ∧ Below w.heap.size w w' := by
  have hpm := padded_mod m
  have hpl : (padded m).length = m.length + (zn m.length + 9) := by unfold padded; rw [List.length_append, padTail_len]
  have hzn : zn m.length < 64 := by unfold zn; omega
  obtain ⟨pm, hpme⟩ : ∃ pm, padded m = pm := ⟨_, rfl⟩
  have SHA := Lib.hid (show sha m = outS (comps h0 pm (pm.length / 64)) by rw [← hpme]; unfold sha; rfl)
  rw [hpme] at hpm hpl
  have HPM := Lib.hid hpme
  obtain ⟨L, hLe⟩ : ∃ L, pm.length = L := ⟨_, rfl⟩
  rw [hLe] at hpm hpl
  have HLE := Lib.hid hLe
  have hL46 : L < 70368744177664 + 100 := by omega
  clear hpme hLe hpl hzn
  go_enter Tryd.func66, Tryd.ntmps66
  go_upto_region 1 with (((with_reducible refine' wpList_alloc_blk (cs := List.replicate 32 (.int .u8 0)) 89 rfl ?_ zr_b32 ?_ ?_); exact rfl; exact zeros_u8 32; intro w1 hkR hN1 hz1; simp only [Act.put, List.setIfInBounds_toArray, List.set_cons_succ, List.set_cons_zero]))
  refine wp_region_lit ?_
  ((with_reducible refine' wpList_of_run (v := .agg (uv (l8 h0)).toArray) (w' := w1) ?_ ?_ ?_); exact rfl; kernel_rfl; simp only [Act.put, List.setIfInBounds_toArray, List.set_cons_succ, List.set_cons_zero])
  ((with_reducible refine' wpList_alloc_blk (cs := List.replicate 8 (.int .u32 0)) 82 rfl ?_ zr_w8 ?_ ?_); exact rfl; exact zeros_u32 8; intro w2 hkS hN2 hz2; simp only [Act.put, List.setIfInBounds_toArray, List.set_cons_succ, List.set_cons_zero])
  ((with_reducible refine' wpList_store_blk (cs := uv (l8 h0)) 82 (.tmp 3) (.tmp 20) rfl ?_ ?_ ?_ hkS sz_w8 ?_ ?_ ?_ ?_); exact rfl; exact rfl; exact rfl; rfl; rfl; exact uv_one _; intro w3 hkS hO3 hz3; simp only [Act.put])
  replace hkR := hO3.blk (hkR.below hN2 (by omega)) (by omega)
  have hb3 := (hN1.trans (hN2.mono hN1.size)).trans (hO3.below (by have := hN1.size; omega) (by have := hN1.size; omega))
  have hx3 := hx.below hb3
  have hB2 : w.heap.size < w3.heap.size := by omega
  have hB3 : w1.heap.size < w3.heap.size := by omega
  have hB23 : w.heap.size < w1.heap.size := by omega
  clear hz1 hz2 hz3 hN1 hN2 hO3
  go_upto_region 4 with ((go_at_call 69; (with_reducible refine (refpadded_any x n m _ hx3 hn).mono ?_); rintro e w' ⟨vp, rfl, hop, hN4⟩))
  rw [HPM.out, HLE.out] at hop
  replace hkR := hkR.below hN4 hB2
  replace hkS := hkS.below hN4 hB3
  have hb4 := hb3.trans (hN4.mono hb3.size)
  have HOP := Lib.hid hop
  clear hop hN4 hx3
  go_loopw [5] (fun i wr => ∃ k : Nat, 64 * k ≤ L ∧ i = .int .i64 ((64 * k : Nat) : Int) ∧ Hid (wr.ownsRow w3.heap.size 5 1 vp L (bv pm)) ∧ Blk wr w1.heap.size 82 (uv (l8 (comps h0 pm k))) ∧ Blk wr w.heap.size 89 (List.replicate 32 (.int .u8 0)) ∧ Below w.heap.size w wr) (fun i _ => L - (intOf i).toNat)
  case atStart => exact ⟨0, by omega, rfl, HOP, by rw [comps_zero]; exact hkS, hkR, hb4⟩
  case round =>
    obtain ⟨k, hk, rfl, HO, hkS, hkR, hbl⟩ := hrel
    by_cases hlt : 64 * k < L
    · obtain ⟨wo, rfl⟩ : ∃ wo : World, wo = wr := ⟨_, rfl⟩
      have hk64 : 64 * k + 64 ≤ L := by omega
      have hrd := Rd.of_own HO.out
      have hCS := Lib.hid (comps_succ h0 pm k)
      obtain ⟨s, hs⟩ : ∃ s, comps h0 pm k = s := ⟨_, rfl⟩
      rw [hs] at hkS hCS
      obtain ⟨blk, hblk⟩ : ∃ bl, (pm.drop (64 * k)).take 64 = bl := ⟨_, rfl⟩
      rw [hblk] at hCS
      have HBK := Lib.hid hblk
      have BL := Lib.hid (show blk.length = 64 by rw [← hblk, List.length_take, List.length_drop, HLE.out]; omega)
      have SL := Lib.hid (sched_len blk 64)
      clear hs hblk
      go_upto_region 7 with (first
        | ((with_reducible refine' wpList_len_rd (.tmp 24) 52 rfl ?_ Tryd.underlying52 ?_ hrd ?_); exact rfl; exact rfl; simp only [Act.put, List.setIfInBounds_toArray, List.set_cons_succ, List.set_cons_zero])
        | (((with_reducible refine' wpList_cut_b (.tmp 29) (.tmp 30) (.tmp 32) 52 rfl ?_ Tryd.underlying52 sz_u8 ?_ hrd (64 * k) (64 * k + 64) ?_ ?_ ?_ ?_ ?_); exact rfl; exact rfl; (show (_ : Int) = _; omega); (show (_ : Int) = _; omega); omega; omega; intro v1 r1; simp only [Act.put, List.setIfInBounds_toArray, List.set_cons_succ, List.set_cons_zero]); rw [show 64 * k + 64 - 64 * k = 64 by omega, HBK.out] at r1)
        | ((go_at_call 70; (with_reducible refine (refwords_any _ blk _ r1).mono ?_); rintro e w' ⟨rfl, hN5⟩); have hkS5 := hkS.below hN5 hkS.lt; have hkR5 := hkR.below hN5 hkR.lt; have HO5 := Lib.hid (own_below HO.out hN5); have hb5 := hbl.trans (hN5.mono hbl.size); have hls := hkS.lt; have hz5 := hN5.size)
        | (((with_reducible refine' wpList_alloc_blk (cs := List.replicate 64 (.int .u32 0)) 103 rfl ?_ zr_w64 ?_ ?_); exact rfl; exact zeros_u32 64; intro w6 hkW hN6 hz6; simp only [Act.put, List.setIfInBounds_toArray, List.set_cons_succ, List.set_cons_zero]); have hkS6 := hkS5.below hN6 hkS5.lt; have hkR6 := hkR5.below hN6 hkR5.lt; have HO6 := Lib.hid (own_below HO5.out hN6); have hb6 := hb5.trans (hN6.mono hb5.size))
        | (((with_reducible refine' wpList_store_blk (cs := (uv (sched blk 64))) 103 (.tmp 6) (.tmp 34) rfl ?_ ?_ ?_ hkW sz_w64 ?_ ?_ ?_ ?_); exact rfl; exact rfl; exact rfl; rw [uv_length]; exact SL.out; simp; exact uv_one _; intro w7 hkW7 hO7 hz7; simp only [Act.put])))
      have hkS7 := hO7.blk hkS6 (by omega)
      have hkR7 := hO7.blk hkR6 (by omega)
      have hb7 := hb6.trans (hO7.below (by have := hbl.size; omega) hb6.size)
      have HO7 : Hid (w7.ownsRow w3.heap.size 5 1 vp L (bv pm)) := Lib.hid (by
        have h1 := hN6.size
        rcases HO6.out.2 with hn | ⟨g, cap, cur, rfl, hbg, hg, rest⟩
        · exact ⟨HO6.out.1, .inl hn⟩
        · refine ⟨HO6.out.1, .inr ⟨g, cap, cur, rfl, hbg, ?_, rest⟩⟩
          have hg5 : g < w'.heap.size := by
            rcases HO5.out.2 with ⟨hn, _⟩ | ⟨g2, cap2, cur2, he, _, hg2, _⟩
            · cases hn
            · simp only [Value.slice.injEq, Option.some.injEq, Addr.mk.injEq] at he
              obtain ⟨⟨rfl, _⟩, _⟩ := he
              exact (Array.getElem?_eq_some_iff.1 hg2).1
          rw [hO7.block g (Array.getElem?_eq_some_iff.1 hg).1 (by simp; omega)]
          exact hg)
      have hl6 := hkW7.lt
      have hz0 := hbl.size
      have hwl : w.heap.size < w'.heap.size ∧ w1.heap.size < w'.heap.size := by have := hkR.lt; omega
      obtain ⟨B6, hB6⟩ : ∃ B, w'.heap.size = B := ⟨_, rfl⟩
      rw [hB6] at hkW7 hwl ⊢
      clear hkS5 hkS6 hkR5 hkR6 hkS hkR hb5 hb6 HO5 HO6 HO hN5 hN6 hO7 hkW hz6 hz7 hz5 hls hB6 hrd r1 hl6
      have S0 := Lib.hid (show (uv (l8 s))[0]? = some (.int .u32 (s.a.toNat : Int)) from rfl)
      have S1 := Lib.hid (show (uv (l8 s))[1]? = some (.int .u32 (s.b.toNat : Int)) from rfl)
      have S2 := Lib.hid (show (uv (l8 s))[2]? = some (.int .u32 (s.c.toNat : Int)) from rfl)
      have S3 := Lib.hid (show (uv (l8 s))[3]? = some (.int .u32 (s.d.toNat : Int)) from rfl)
      have S4 := Lib.hid (show (uv (l8 s))[4]? = some (.int .u32 (s.e.toNat : Int)) from rfl)
      have S5 := Lib.hid (show (uv (l8 s))[5]? = some (.int .u32 (s.f.toNat : Int)) from rfl)
      have S6 := Lib.hid (show (uv (l8 s))[6]? = some (.int .u32 (s.g.toNat : Int)) from rfl)
      have S7 := Lib.hid (show (uv (l8 s))[7]? = some (.int .u32 (s.h.toNat : Int)) from rfl)
      (refine wp_region_quiet_lit (by kernel_rfl) (by kernel_rfl) ?_; (repeat (first | ((with_reducible refine' wpQuiet_at_blk (.tmp 3) (.const (.int .i64 0)) 82 rfl ?_ Tryd.underlying82 sz_u32 ?_ (0) ?_ ?_ ?_); exact rfl; exact rfl; (show (_ : Int) = _; omega); omega; simp only [Act.put, List.setIfInBounds_toArray, List.set_cons_succ, List.set_cons_zero]) | ((with_reducible refine' wpQuiet_at_blk (.tmp 3) (.const (.int .i64 1)) 82 rfl ?_ Tryd.underlying82 sz_u32 ?_ (1) ?_ ?_ ?_); exact rfl; exact rfl; (show (_ : Int) = _; omega); omega; simp only [Act.put, List.setIfInBounds_toArray, List.set_cons_succ, List.set_cons_zero]) | ((with_reducible refine' wpQuiet_at_blk (.tmp 3) (.const (.int .i64 2)) 82 rfl ?_ Tryd.underlying82 sz_u32 ?_ (2) ?_ ?_ ?_); exact rfl; exact rfl; (show (_ : Int) = _; omega); omega; simp only [Act.put, List.setIfInBounds_toArray, List.set_cons_succ, List.set_cons_zero]) | ((with_reducible refine' wpQuiet_at_blk (.tmp 3) (.const (.int .i64 3)) 82 rfl ?_ Tryd.underlying82 sz_u32 ?_ (3) ?_ ?_ ?_); exact rfl; exact rfl; (show (_ : Int) = _; omega); omega; simp only [Act.put, List.setIfInBounds_toArray, List.set_cons_succ, List.set_cons_zero]) | ((with_reducible refine' wpQuiet_at_blk (.tmp 3) (.const (.int .i64 4)) 82 rfl ?_ Tryd.underlying82 sz_u32 ?_ (4) ?_ ?_ ?_); exact rfl; exact rfl; (show (_ : Int) = _; omega); omega; simp only [Act.put, List.setIfInBounds_toArray, List.set_cons_succ, List.set_cons_zero]) | ((with_reducible refine' wpQuiet_at_blk (.tmp 3) (.const (.int .i64 5)) 82 rfl ?_ Tryd.underlying82 sz_u32 ?_ (5) ?_ ?_ ?_); exact rfl; exact rfl; (show (_ : Int) = _; omega); omega; simp only [Act.put, List.setIfInBounds_toArray, List.set_cons_succ, List.set_cons_zero]) | ((with_reducible refine' wpQuiet_at_blk (.tmp 3) (.const (.int .i64 6)) 82 rfl ?_ Tryd.underlying82 sz_u32 ?_ (6) ?_ ?_ ?_); exact rfl; exact rfl; (show (_ : Int) = _; omega); omega; simp only [Act.put, List.setIfInBounds_toArray, List.set_cons_succ, List.set_cons_zero]) | ((with_reducible refine' wpQuiet_at_blk (.tmp 3) (.const (.int .i64 7)) 82 rfl ?_ Tryd.underlying82 sz_u32 ?_ (7) ?_ ?_ ?_); exact rfl; exact rfl; (show (_ : Int) = _; omega); omega; simp only [Act.put, List.setIfInBounds_toArray, List.set_cons_succ, List.set_cons_zero]) | ((with_reducible refine' wpQuiet_load_blk (fun _ h => h) (.tmp 35) 81 rfl ?_ ld_u32 ?_ hkS7 (S0.out) ?_); exact rfl; exact rfl; simp only [Act.put, List.setIfInBounds_toArray, List.set_cons_succ, List.set_cons_zero]) | ((with_reducible refine' wpQuiet_load_blk (fun _ h => h) (.tmp 37) 81 rfl ?_ ld_u32 ?_ hkS7 (S1.out) ?_); exact rfl; exact rfl; simp only [Act.put, List.setIfInBounds_toArray, List.set_cons_succ, List.set_cons_zero]) | ((with_reducible refine' wpQuiet_load_blk (fun _ h => h) (.tmp 39) 81 rfl ?_ ld_u32 ?_ hkS7 (S2.out) ?_); exact rfl; exact rfl; simp only [Act.put, List.setIfInBounds_toArray, List.set_cons_succ, List.set_cons_zero]) | ((with_reducible refine' wpQuiet_load_blk (fun _ h => h) (.tmp 41) 81 rfl ?_ ld_u32 ?_ hkS7 (S3.out) ?_); exact rfl; exact rfl; simp only [Act.put, List.setIfInBounds_toArray, List.set_cons_succ, List.set_cons_zero]) | ((with_reducible refine' wpQuiet_load_blk (fun _ h => h) (.tmp 43) 81 rfl ?_ ld_u32 ?_ hkS7 (S4.out) ?_); exact rfl; exact rfl; simp only [Act.put, List.setIfInBounds_toArray, List.set_cons_succ, List.set_cons_zero]) | ((with_reducible refine' wpQuiet_load_blk (fun _ h => h) (.tmp 45) 81 rfl ?_ ld_u32 ?_ hkS7 (S5.out) ?_); exact rfl; exact rfl; simp only [Act.put, List.setIfInBounds_toArray, List.set_cons_succ, List.set_cons_zero]) | ((with_reducible refine' wpQuiet_load_blk (fun _ h => h) (.tmp 47) 81 rfl ?_ ld_u32 ?_ hkS7 (S6.out) ?_); exact rfl; exact rfl; simp only [Act.put, List.setIfInBounds_toArray, List.set_cons_succ, List.set_cons_zero]) | ((with_reducible refine' wpQuiet_load_blk (fun _ h => h) (.tmp 49) 81 rfl ?_ ld_u32 ?_ hkS7 (S7.out) ?_); exact rfl; exact rfl; simp only [Act.put, List.setIfInBounds_toArray, List.set_cons_succ, List.set_cons_zero]) | go_big_quiet_step (fail))); refine wpQuiet_nil ?_; intro _ hw'; obtain ⟨nq, hw''⟩ := hw'; subst hw'')
      replace hkS7 := hkS7.drewN nq; replace hkR7 := hkR7.drewN nq; replace hkW7 := hkW7.drewN nq; replace hb7 := below_drewN hb7 nq
      have HO8 : Hid ((w7.drewN nq).ownsRow w3.heap.size 5 1 vp L (bv pm)) := Lib.hid HO7.out
      generalize w7.drewN nq = w8 at hkS7 hkR7 hkW7 hb7 HO8 ⊢
      clear HO7
      go_upto_region 9 with fail
      go_loopw [15, 7, 8, 9, 10, 11, 12, 13, 14] (fun i va vb vc vd ve vf vg vh wr => ∃ t : Nat, t ≤ 64 ∧ i = .int .i64 t ∧ va = .int .u32 ((rnds s (sched blk 64) t).a.toNat : Int) ∧ vb = .int .u32 ((rnds s (sched blk 64) t).b.toNat : Int) ∧ vc = .int .u32 ((rnds s (sched blk 64) t).c.toNat : Int) ∧ vd = .int .u32 ((rnds s (sched blk 64) t).d.toNat : Int) ∧ ve = .int .u32 ((rnds s (sched blk 64) t).e.toNat : Int) ∧ vf = .int .u32 ((rnds s (sched blk 64) t).f.toNat : Int) ∧ vg = .int .u32 ((rnds s (sched blk 64) t).g.toNat : Int) ∧ vh = .int .u32 ((rnds s (sched blk 64) t).h.toNat : Int) ∧
        Hid (wr.ownsRow w3.heap.size 5 1 vp L (bv pm)) ∧ Blk wr B6 103 (uv (sched blk 64)) ∧ Blk wr w1.heap.size 82 (uv (l8 s)) ∧ Blk wr w.heap.size 89 (List.replicate 32 (.int .u8 0)) ∧ Below w.heap.size w wr) (fun i _ _ _ _ _ _ _ _ _ => 64 - (intOf i).toNat)
      case atStart => exact ⟨0, by omega, rfl, by rw [rnds_zero], by rw [rnds_zero], by rw [rnds_zero], by rw [rnds_zero], by rw [rnds_zero], by rw [rnds_zero], by rw [rnds_zero], by rw [rnds_zero], HO8, hkW7, hkS7, hkR7, hb7⟩
      case round =>
        obtain ⟨t, ht, rfl, rfl, rfl, rfl, rfl, rfl, rfl, rfl, rfl, HO, hkW, hkS, hkR, hbl⟩ := hrel
        obtain ⟨r, hr⟩ : ∃ r, rnds s (sched blk 64) t = r := ⟨_, rfl⟩
        rw [hr]
        obtain ⟨ra, rb, rc, rd, re, rf, rg, rh⟩ := r
        simp only
        have HR := Lib.hid hr
        clear hr
        have b1 := lt32 re; have b2 := lt32 rf; have b3 := lt32 rg; have b4 := lt32 rh
        have c1 := lt32 ra; have c2 := lt32 rb; have c3 := lt32 rc; have c4 := lt32 rd
        have PL := pl_eq; have PL' := pl_eq'
        by_cases hlt2 : t < 64
        · obtain ⟨wo2, rfl⟩ : ∃ wo : World, wo = wr := ⟨_, rfl⟩
          have WT := Lib.hid (uv_get (l := sched blk 64) (k := t) (by rw [SL.out]; exact hlt2))
          have KT := Lib.hid (uv_get (l := kk) (k := t) hlt2)
          obtain ⟨xk, hxk⟩ : ∃ x, gw kk t = x := ⟨_, rfl⟩
          obtain ⟨xw, hxw⟩ : ∃ x, gw (sched blk 64) t = x := ⟨_, rfl⟩
          rw [hxk] at KT; rw [hxw] at WT
          have XK := Lib.hid hxk; have XW := Lib.hid hxw
          clear hxk hxw
          have hTr := hT.below hbl
          have hk1 := lt32 xk; have hk2 := lt32 xw
          have XR := xr_eq; have AN := an_eq; have NT := nt_eq2
          go_upto_region 11 with fail
          (refine wp_region_quiet_lit (by kernel_rfl) (by kernel_rfl) ?_; (repeat (first | ((with_reducible refine' wpQuiet_at_blk (.global 0) (.tmp 74) 103 rfl ?_ Tryd.underlying103 sz_u32 ?_ (t) ?_ ?_ ?_); exact rfl; exact rfl; (show (_ : Int) = _; omega); omega; simp only [Act.put, List.setIfInBounds_toArray, List.set_cons_succ, List.set_cons_zero]) | ((with_reducible refine' wpQuiet_load_tb (fun _ h => h) (.tmp 75) 81 rfl ?_ ld_u32 ?_ hTr (KT.out) ?_); exact rfl; exact rfl; simp only [Act.put, List.setIfInBounds_toArray, List.set_cons_succ, List.set_cons_zero]) | ((with_reducible refine' wpQuiet_at_blk (.tmp 6) (.tmp 78) 103 rfl ?_ Tryd.underlying103 sz_u32 ?_ (t) ?_ ?_ ?_); exact rfl; exact rfl; (show (_ : Int) = _; omega); omega; simp only [Act.put, List.setIfInBounds_toArray, List.set_cons_succ, List.set_cons_zero]) | ((with_reducible refine' wpQuiet_load_blk (fun _ h => h) (.tmp 79) 81 rfl ?_ ld_u32 ?_ hkW (WT.out) ?_); exact rfl; exact rfl; simp only [Act.put, List.setIfInBounds_toArray, List.set_cons_succ, List.set_cons_zero]) | go_big_quiet_step ((go_at_call 71; first | (with_reducible refine rotr_q re 6 6 rfl (by omega) (by omega) _ _) | (with_reducible refine rotr_q re 11 11 rfl (by omega) (by omega) _ _) | (with_reducible refine rotr_q re 25 25 rfl (by omega) (by omega) _ _))) | go_big_quiet_step (fail))); refine wpQuiet_nil ?_; intro _ hw'; obtain ⟨nq, hw''⟩ := hw'; subst hw'')
          obtain ⟨X, hX⟩ : ∃ X, pl (pl (pl (pl rh (xr (xr (rr re 6) (rr re 11)) (rr re 25))) (xr (an re rf) (an (nt re) rg))) xk) xw = X := ⟨_, rfl⟩
          rw [hX]
          have HX := Lib.hid hX
          have d1 := lt32 X
          clear hX
          have YY : Hid (pl (xr (xr (rr ra 2) (rr ra 13)) (rr ra 22)) (xr (xr (an ra rb) (an ra rc)) (an rb rc)) = pl (xr (xr (rr ra 2) (rr ra 13)) (rr ra 22)) (xr (xr (an ra rb) (an ra rc)) (an rb rc))) := Lib.hid rfl
          have hE : rnds s (sched blk 64) (t + 1) = ⟨pl X (pl (xr (xr (rr ra 2) (rr ra 13)) (rr ra 22)) (xr (xr (an ra rb) (an ra rc)) (an rb rc))), ra, rb, rc, pl rd X, re, rf, rg⟩ := by
            rw [rnds_succ, HR.out, XK.out, XW.out, ← HX.out]; rfl
          have HE := Lib.hid hE
          clear hE
          go_wp2_with (first
            | (go_at_call 71; (with_reducible refine (rotr_any ra 2 2 rfl (by omega) (by omega) _).mono ?_); rintro e w' ⟨rfl, q1, rfl⟩)
            | (go_at_call 71; (with_reducible refine (rotr_any ra 13 13 rfl (by omega) (by omega) _).mono ?_); rintro e w' ⟨rfl, q2, rfl⟩)
            | (go_at_call 71; (with_reducible refine (rotr_any ra 22 22 rfl (by omega) (by omega) _).mono ?_); rintro e w' ⟨rfl, q3, rfl⟩))
          go_roundw
          case rel => exact ⟨t + 1, by omega, by go_num, by rw [HE.out], by rw [HE.out], by rw [HE.out], by rw [HE.out], by rw [HE.out], by rw [HE.out], by rw [HE.out], by rw [HE.out], Lib.hid HO.out, hkW, hkS, hkR, below_drewN hbl _⟩
          case measure => simp [intOf]; omega
        · obtain rfl : t = 64 := by omega
          go_wp2_with (first | ((with_reducible refine' wpList_at_blk (.tmp 3) (.const (.int .i64 0)) 82 rfl ?_ Tryd.underlying82 sz_u32 ?_ (0) ?_ ?_ ?_); exact rfl; exact rfl; (show (_ : Int) = _; omega); omega; simp only [Act.put, List.setIfInBounds_toArray, List.set_cons_succ, List.set_cons_zero]) | ((with_reducible refine' wpList_at_blk (.tmp 3) (.const (.int .i64 1)) 82 rfl ?_ Tryd.underlying82 sz_u32 ?_ (1) ?_ ?_ ?_); exact rfl; exact rfl; (show (_ : Int) = _; omega); omega; simp only [Act.put, List.setIfInBounds_toArray, List.set_cons_succ, List.set_cons_zero]) | ((with_reducible refine' wpList_at_blk (.tmp 3) (.const (.int .i64 2)) 82 rfl ?_ Tryd.underlying82 sz_u32 ?_ (2) ?_ ?_ ?_); exact rfl; exact rfl; (show (_ : Int) = _; omega); omega; simp only [Act.put, List.setIfInBounds_toArray, List.set_cons_succ, List.set_cons_zero]) | ((with_reducible refine' wpList_at_blk (.tmp 3) (.const (.int .i64 3)) 82 rfl ?_ Tryd.underlying82 sz_u32 ?_ (3) ?_ ?_ ?_); exact rfl; exact rfl; (show (_ : Int) = _; omega); omega; simp only [Act.put, List.setIfInBounds_toArray, List.set_cons_succ, List.set_cons_zero]) | ((with_reducible refine' wpList_at_blk (.tmp 3) (.const (.int .i64 4)) 82 rfl ?_ Tryd.underlying82 sz_u32 ?_ (4) ?_ ?_ ?_); exact rfl; exact rfl; (show (_ : Int) = _; omega); omega; simp only [Act.put, List.setIfInBounds_toArray, List.set_cons_succ, List.set_cons_zero]) | ((with_reducible refine' wpList_at_blk (.tmp 3) (.const (.int .i64 5)) 82 rfl ?_ Tryd.underlying82 sz_u32 ?_ (5) ?_ ?_ ?_); exact rfl; exact rfl; (show (_ : Int) = _; omega); omega; simp only [Act.put, List.setIfInBounds_toArray, List.set_cons_succ, List.set_cons_zero]) | ((with_reducible refine' wpList_at_blk (.tmp 3) (.const (.int .i64 6)) 82 rfl ?_ Tryd.underlying82 sz_u32 ?_ (6) ?_ ?_ ?_); exact rfl; exact rfl; (show (_ : Int) = _; omega); omega; simp only [Act.put, List.setIfInBounds_toArray, List.set_cons_succ, List.set_cons_zero]) | ((with_reducible refine' wpList_at_blk (.tmp 3) (.const (.int .i64 7)) 82 rfl ?_ Tryd.underlying82 sz_u32 ?_ (7) ?_ ?_ ?_); exact rfl; exact rfl; (show (_ : Int) = _; omega); omega; simp only [Act.put, List.setIfInBounds_toArray, List.set_cons_succ, List.set_cons_zero]) | ((with_reducible refine' wpList_load_blk (.tmp 114) 81 rfl ?_ ld_u32 ?_ hkS (S0.out) ?_); exact rfl; exact rfl; simp only [Act.put, List.setIfInBounds_toArray, List.set_cons_succ, List.set_cons_zero]) | ((with_reducible refine' wpList_load_blk (.tmp 118) 81 rfl ?_ ld_u32 ?_ hkS (S1.out) ?_); exact rfl; exact rfl; simp only [Act.put, List.setIfInBounds_toArray, List.set_cons_succ, List.set_cons_zero]) | ((with_reducible refine' wpList_load_blk (.tmp 122) 81 rfl ?_ ld_u32 ?_ hkS (S2.out) ?_); exact rfl; exact rfl; simp only [Act.put, List.setIfInBounds_toArray, List.set_cons_succ, List.set_cons_zero]) | ((with_reducible refine' wpList_load_blk (.tmp 126) 81 rfl ?_ ld_u32 ?_ hkS (S3.out) ?_); exact rfl; exact rfl; simp only [Act.put, List.setIfInBounds_toArray, List.set_cons_succ, List.set_cons_zero]) | ((with_reducible refine' wpList_load_blk (.tmp 130) 81 rfl ?_ ld_u32 ?_ hkS (S4.out) ?_); exact rfl; exact rfl; simp only [Act.put, List.setIfInBounds_toArray, List.set_cons_succ, List.set_cons_zero]) | ((with_reducible refine' wpList_load_blk (.tmp 134) 81 rfl ?_ ld_u32 ?_ hkS (S5.out) ?_); exact rfl; exact rfl; simp only [Act.put, List.setIfInBounds_toArray, List.set_cons_succ, List.set_cons_zero]) | ((with_reducible refine' wpList_load_blk (.tmp 138) 81 rfl ?_ ld_u32 ?_ hkS (S6.out) ?_); exact rfl; exact rfl; simp only [Act.put, List.setIfInBounds_toArray, List.set_cons_succ, List.set_cons_zero]) | ((with_reducible refine' wpList_load_blk (.tmp 142) 81 rfl ?_ ld_u32 ?_ hkS (S7.out) ?_); exact rfl; exact rfl; simp only [Act.put, List.setIfInBounds_toArray, List.set_cons_succ, List.set_cons_zero]) | (((with_reducible refine' wpList_store_blk (cs := uv [pl s.a ra, pl s.b rb, pl s.c rc, pl s.d rd, pl s.e re, pl s.f rf, pl s.g rg, pl s.h rh]) 82 (.tmp 3) (.tmp 146) rfl ?_ ?_ ?_ hkS sz_w8 ?_ ?_ ?_ ?_); exact rfl; exact rfl; exact rfl; rfl; rfl; exact uv_one _; intro w9 hkS9 hO9 hz9; simp only [Act.put])))
          go_roundw
          case rel =>
            refine ⟨k + 1, by omega, by congr 1, Lib.hid (own_only HO.out hO9 hB3), ?_, hO9.blk hkR (by omega), hbl.trans (hO9.below (by omega) hbl.size)⟩
            rw [hCS.out, comp_eq, HR.out]
            exact hkS9
          case measure => simp [intOf]; omega
    · have hkL : 64 * k = L := by omega
      have hS : sha m = outS (comps h0 pm k) := by rw [SHA.out, HLE.out]; congr 2; omega
      have HS := Lib.hid hS
      obtain ⟨S, hSe⟩ : ∃ S, comps h0 pm k = S := ⟨_, rfl⟩
      rw [hSe] at hkS
      have HSE := Lib.hid hSe
      have hll := hkS.lt
      have hrd := Rd.of_own HO.out
      have hlr := hkR.lt
      clear hS hSe
      go_upto_region 24 with (first | ((with_reducible refine' wpList_len_rd (.tmp 24) 52 rfl ?_ Tryd.underlying52 ?_ hrd ?_); exact rfl; exact rfl; simp only [Act.put, List.setIfInBounds_toArray, List.set_cons_succ, List.set_cons_zero]) | (((with_reducible refine' wpList_alloc_blk (cs := List.replicate 32 (.int .u8 0)) 89 rfl ?_ zr_b32 ?_ ?_); exact rfl; exact zeros_u8 32; intro w7 hkO hN7 hz7; simp only [Act.put, List.setIfInBounds_toArray, List.set_cons_succ, List.set_cons_zero]); have hkS7 := hkS.below hN7 hll; have hkR7 := hkR.below hN7 hlr; have hb7 := hbl.trans (hN7.mono hbl.size)))
      clear hkS hkR hbl hN7 hz7 hrd
      obtain ⟨B7, hB7⟩ : ∃ B, wr.heap.size = B := ⟨_, rfl⟩
      rw [hB7] at hkO hll hlr ⊢
      clear hB7
      go_loopw [19] (fun i wr => ∃ t : Nat, t ≤ 32 ∧ i = .int .i64 t ∧ Blk wr B7 89 (ocells S t) ∧ Blk wr w1.heap.size 82 (uv (l8 S)) ∧ Blk wr w.heap.size 89 (List.replicate 32 (.int .u8 0)) ∧ Below w.heap.size w wr) (fun i _ => 32 - (intOf i).toNat)
      case atStart => exact ⟨0, by omega, rfl, by rw [ocells_zero]; exact hkO, hkS7, hkR7, hb7⟩
      case round =>
        obtain ⟨i, hi, rfl, hkO, hkS, hkR, hbl⟩ := hrel
        have OL := Lib.hid (ocells_len S hi)
        by_cases hlt : i < 32
        · obtain ⟨wo, rfl⟩ : ∃ wo : World, wo = wr := ⟨_, rfl⟩
          have W := Lib.hid (uv_get (l := l8 S) (k := i / 4) (by show i / 4 < 8; omega))
          have SET := Lib.hid (ocells_set S hlt)
          obtain ⟨q, hq⟩ : ∃ q, gw (l8 S) (i / 4) = q := ⟨_, rfl⟩
          rw [hq] at W SET
          have hq32 := lt32 q
          clear hq
          go_wp2_with (first
            | ((with_reducible refine' wpList_at_blk (.tmp 3) (.tmp 153) 82 rfl ?_ Tryd.underlying82 sz_u32 ?_ (i / 4) ?_ ?_ ?_); exact rfl; exact rfl; (show (_ : Int) = _; omega); omega; simp only [Act.put, List.setIfInBounds_toArray, List.set_cons_succ, List.set_cons_zero]) | ((with_reducible refine' wpList_load_blk (.tmp 154) 81 rfl ?_ ld_u32 ?_ hkS (W.out) ?_); exact rfl; exact rfl; simp only [Act.put, List.setIfInBounds_toArray, List.set_cons_succ, List.set_cons_zero]) | ((with_reducible refine' wpList_at_blk (.tmp 18) (.tmp 151) 89 rfl ?_ Tryd.underlying89 sz_u8 ?_ (i) ?_ ?_ ?_); exact rfl; exact rfl; (show (_ : Int) = _; omega); omega; simp only [Act.put, List.setIfInBounds_toArray, List.set_cons_succ, List.set_cons_zero])
            | ((with_reducible refine' wpList_set_blk (k := i) (B := B7) (u := .int .u8 ((q.toNat : Int) / 2 ^ (24 - 8 * (i % 4)) % 256)) 5 (.tmp 162) (.tmp 161) rfl ?_ sz_u8 ?_ ?_ hkO (by rw [OL.out]; exact hlt) ?_ ?_); exact rfl; exact rfl; exact rfl; exact rfl; intro wB hkB hOB hzB; rw [SET.out] at hkB; simp only [Act.put]))
          go_roundw
          case rel => exact ⟨i + 1, by omega, by go_num, hkB, hOB.blk hkS (by omega), hOB.blk hkR (by omega), hbl.trans (hOB.below (by omega) hbl.size)⟩
          case measure => simp [intOf]; omega
        · obtain rfl : i = 32 := by omega
          rw [ocells_all] at hkO
          have OL2 := Lib.hid (show (bv (outS S)).length = 32 by rw [bv_length, outS_len])
          go_wp2_with (first | ((with_reducible refine' wpList_loadall_blk (.tmp 18) 89 rfl ?_ Tryd.underlying89 sz_b32 ?_ hkO ?_ ?_ ?_); exact rfl; exact rfl; exact OL2.out; omega; simp only [Act.put, List.setIfInBounds_toArray, List.set_cons_succ, List.set_cons_zero]) | ((with_reducible refine' wpList_store_blk (cs := bv (outS S)) 89 (.tmp 2) (.tmp 163) rfl ?_ ?_ ?_ hkR sz_b32 ?_ ?_ ?_ ?_); exact rfl; exact rfl; exact rfl; exact OL2.out; exact List.length_replicate; exact bv_one _; intro w8 hk8 hO8 hz8; simp only [Act.put]))
          ((try simp only [Exit.inBlock, Exit.then]); refine bodyPost_ret (results_cell_row rfl _ _ _ _ _ _ _ rfl hk8 Tryd.underlying89 rfl (by rw [sz_b32]; simp [OL2.out])) rfl ?_)
          exact ⟨by rw [HS.out, HSE.out], hbl.trans (hO8.below (Nat.le_refl _) hbl.size)⟩
end Go.Proofs.YtajglgkjpagcjaaDoor.Wi
namespace Go.Proofs.YtajglgkjpagcjaaDoor.Wi
open Go Go.RowKit Pu Lb

theorem gH : Tryd.prog.globalNamed "scoria/hash.constants" = some 1 := by kernel_rfl
theorem gR : Tryd.prog.globalNamed "scoria/scoriaref02.constants" = some 0 := by kernel_rfl
theorem gtH : (Tryd.prog.globals[1]?).map (·.type) = some 103 := by kernel_rfl
theorem gtR : (Tryd.prog.globals[0]?).map (·.type) = some 103 := by kernel_rfl
abbrev lH : List (String × DataW Unit) := [("scoria/hash.constants", Rows.laid_scoria_hash_constants)]
abbrev lRH : List (String × DataW Unit) := [("scoria/scoriaref02.constants", Rows.laid_scoria_scoriaref02_constants), ("scoria/hash.constants", Rows.laid_scoria_hash_constants)]
def kz : List Int := kk.map fun x => (x.toNat : Int)
theorem dH : (Rows.laid_scoria_hash_constants : DataW Unit) = Lib.tabData .u32 kz := by kernel_rfl
theorem dR : (Rows.laid_scoria_scoriaref02_constants : DataW Unit) = Lib.tabData .u32 kz := by kernel_rfl
theorem tb_of {W : World} {name : String} {g : Nat} (h : Lib.TabIs Tryd.prog W name .u32 kz) (hg : Tryd.prog.globalNamed name = some g) : Tb W g (uv kk) := by
  intro j u hj
  rw [World.var?_cell hg h j]
  simp only [kz, List.map_map] at *
  simpa [uv] using hj
theorem tabH_of {W : World} (h : laidMetH Tryd.prog lH W) : TabH W := by
  rw [MakeChecks.laidMetH_plain _ _ _ (by kernel_rfl)] at h
  unfold lH at h
  rw [dH] at h
  exact tb_of (Lib.tabIs_of_head gH gtH Tryd.underlying103 Tryd.underlying81 (by kernel_rfl) (by kernel_rfl) h) gH
theorem laid_tail {P : Program} {W : World} {n : String} {d : DataW Unit} {rest : List (String × DataW Unit)} (h : laidMet P ((n, d) :: rest) W) : laidMet P rest W := by
  obtain ⟨ps, ⟨g, t, cs, f, p, q, h1, h2, h3, h4, h5, rfl⟩, hnd, hc⟩ := h
  exact ⟨q, h5, (List.nodup_append.1 hnd).2.1, fun b off hm => hc b off (List.mem_append_right _ hm)⟩
theorem tabs_of {W : World} (h : laidMetH Tryd.prog lRH W) : TabR W ∧ TabH W := by
  rw [MakeChecks.laidMetH_plain _ _ _ (by kernel_rfl)] at h
  unfold lRH at h
  rw [dH, dR] at h
  exact ⟨tb_of (Lib.tabIs_of_head gR gtR Tryd.underlying103 Tryd.underlying81 (by kernel_rfl) (by kernel_rfl) h) gR,
    tb_of (Lib.tabIs_of_head gH gtH Tryd.underlying103 Tryd.underlying81 (by kernel_rfl) (by kernel_rfl) (laid_tail h)) gH⟩
theorem doorH (os : Os) (args : Array Value) : laidMetH Tryd.prog lH ((World.doorLaid Tryd.prog 19 os).forCall (fun _ _ => 0) ⟨#[], args, []⟩).memory :=
  laidMetH_of_parts3 (fuel := 8) (laidMet_of_run' 8 (by kernel_rfl) (by kernel_rfl)) (by kernel_rfl) (by kernel_rfl)
theorem doorRH (os : Os) (args : Array Value) : laidMetH Tryd.prog lRH ((World.doorLaid Tryd.prog 19 os).forCall (fun _ _ => 0) ⟨#[], args, []⟩).memory :=
  laidMetH_of_parts3 (fuel := 8) (laidMet_of_run' 8 (by kernel_rfl) (by kernel_rfl)) (by kernel_rfl) (by kernel_rfl)
end Go.Proofs.YtajglgkjpagcjaaDoor.Wi
namespace Go.Proofs.YtajglgkjpagcjaaDoor.Wi
open Go Go.RowKit Go.ChangeShapes Go.WideMaps Pu Lb
section
variable {H : Type} {enc : TypeId × Value → H} {P : Program} {w : World} {t e : TypeId} {v : Value} {d : DataW H} {ps : List MemPlace} {r : Reach} {b0 : Nat} {q : IntKind} {n : Nat}
theorem mapM_ints (he : P.underlying e = some (.int q)) {m c : Nat} {cs : List Value} : ∀ (L : List Nat) (ys : List (DataW H × List MemPlace)),
    L.mapM (fun i => DataW.trod enc P w 0 (fun _ => true) true m e ((cs.drop (i * c)).take c)) = some ys → ∀ i ∈ L, ∃ a, (cs.drop (i * c)).take c = [.int q a] ∧ (Lit.int q a).wf = true
  | [], _, _, _, h => by cases h
  | i :: L, ys, h, j, hj => by
    rw [List.mapM_cons] at h
    simp only [bind, Option.bind_eq_some_iff, pure, Option.some.injEq] at h
    obtain ⟨y, hy, zs, hzs, rfl⟩ := h
    rcases List.mem_cons.1 hj with rfl | hj
    · obtain ⟨a, ea, rfl, wa⟩ := DataW.trod_int he hy
      exact ⟨a, ea, wa⟩
    · exact mapM_ints he L _ hzs j hj
theorem op_arr (A : ArrKey P t e n) (he : P.underlying e = some (.int q)) (hval : Value.okWide P w r b0 t v) (hd : DataW.Trod enc P w 0 (fun _ => true) true t v d ps) :
    ∃ xs : List Value, v = .agg xs.toArray ∧ xs.length = n ∧ ∀ x ∈ xs, ∃ a, x = .int q a ∧ (Lit.int q a).wf = true := by
  obtain ⟨xs, rfl, hn⟩ := okWide_arr A hval
  obtain ⟨xs⟩ := xs
  simp only [List.size_toArray] at hn
  refine ⟨xs, rfl, hn, ?_⟩
  obtain ⟨fuel, hf⟩ := hd
  cases fuel with
  | zero => simp [DataW.trod] at hf
  | succ m =>
    rw [DataW.trod_step] at hf
    unfold DataW.trodStep at hf
    simp only [A.hu, Value.cells] at hf
    rw [if_pos (by rw [A.size]; simpa using hn)] at hf
    simp only [Option.map_eq_some_iff] at hf
    obtain ⟨ys, hy, _⟩ := hf
    have hc := A.one
    have key := mapM_ints he _ ys hy
    intro x hx
    obtain ⟨i, hi, rfl⟩ := List.getElem_of_mem hx
    obtain ⟨a, ea, wa⟩ := key i (List.mem_range.2 (by omega))
    rw [hc, Nat.mul_one] at ea
    rw [List.drop_eq_getElem_cons hi, List.take_succ_cons, List.take_zero] at ea
    exact ⟨a, by simpa using ea, wa⟩
theorem cells_u8 : ∀ {xs : List Value}, (∀ x ∈ xs, ∃ a, x = .int .u8 a ∧ (Lit.int .u8 a).wf = true) → ∃ l : List UInt8, xs = bv l ∧ l.length = xs.length
  | [], _ => ⟨[], rfl, rfl⟩
  | x :: xs, h => by
    obtain ⟨a, rfl, wa⟩ := h x (by simp)
    obtain ⟨l, rfl, hl⟩ := cells_u8 (fun y hy => h y (List.mem_cons_of_mem _ hy))
    have hw := wf_u8 wa
    have e : a = ((bt a).toNat : Int) := by rw [bt_toNat]; omega
    refine ⟨bt a :: l, ?_, by simp [hl]⟩
    simp only [bv, List.map_cons]
    rw [← e]
theorem op_dig (A : ArrKey P t e 16) (he : P.underlying e = some (.int .u8)) (hval : Value.okWide P w r b0 t v) (hd : DataW.Trod enc P w 0 (fun _ => true) true t v d ps) :
    ∃ l : List UInt8, v = .agg (bv l).toArray ∧ l.length = 16 := by
  obtain ⟨xs, rfl, hn, h⟩ := op_arr A he hval hd
  obtain ⟨l, rfl, hl⟩ := cells_u8 h
  exact ⟨l, rfl, by omega⟩
end
end Go.Proofs.YtajglgkjpagcjaaDoor.Wi
