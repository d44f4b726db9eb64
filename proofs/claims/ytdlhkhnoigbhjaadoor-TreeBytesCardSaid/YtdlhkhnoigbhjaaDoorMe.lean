/-
  Cls, Tm, Tgt, Ts, Tpl, Ta, Tt: my texts of these names, one behind the other. Conditions: those that each law names.
-/
import Derived.Test.YtdlhkhnoigbhjaaDoorMb
import Derived.Test.YtdlhkhnoigbhjaaDoorMc
import Derived.Lib.QuietBelow
import Derived.Test.YtdlhkhnoigbhjaaDoorMd
namespace Go.Proofs.YtdlhkhnoigbhjaaDoor.Lb
open Go Go.RowKit Go.Lib

/-- every cell of w0 holds in each world of the class what it held -/
def Cov (C : World → Prop) (w0 : World) : Prop := ∀ w, C w → ∀ (a : Addr) (v : Value), w0.cell? a = some v → w.cell? a = some v
theorem cov_below (w0 : World) : Cov (Below w0.heap.size w0) w0 := fun _ h _ _ hv => (h.cell (World.block_lt_of_cell? _ _ hv)).trans hv
theorem cov_cls (w0 : World) : Cov (fun w' => ∃ p : Regrown, w' = Sort.grow (redrawn w0 p.d) p.os) w0 := by
  rintro w ⟨p, rfl⟩ a v hv
  exact cell_regrown hv p.d p.os
theorem cls_drew (w0 : World) : ∃ p : Regrown, w0.drew = Sort.grow (redrawn w0 p.d) p.os := regrown_of_below (Below.refl _ _).drew

section
variable {P : Program} {ops : Array Oper} {Q : Exit → Act → World → Prop} {C : World → Prop} {R : Act → Prop} {a : Act} {w w0 : World} {rest tl : List Oper} {o : Oper}

theorem wpQuietC_load_rd (hC : Cov C w0) (p : Operand) (t : TypeId) (ho : o.op = .load t p) (hw : Region.wanted o (yielded ops a.tmps) = true)
    (hload : ∀ (ad : Addr) (u : Value) (w : World), w.cell? ad = some u → (loadVar t ad).run P w = .ok u w) {s : Nat} {v : Value} {n : Nat} {xs : List Value} {k : Nat} {u : Value}
    (hx : a.eval p = ep v k) (hv : Rd w0 s v n xs) (hk : xs[k]? = some u)
    (h : wpQuiet P ops C R rest (a.put o.dst u)) : wpQuiet P ops C R (o :: rest) a := by
  obtain ⟨hl, ad, cap, rfl, h1, h2, h3, h4⟩ := hv
  obtain ⟨b, of, rfl, hc⟩ := h4 k u hk
  refine wpQuiet_of_run hw (fun w hCw => ?_) h
  have := hload ⟨b, of + k, none⟩ u w (hC w hCw _ _ hc)
  unfold execOp
  simp [ho, Instr.loadAt, hx, ep, Instr.sureAddr, Addr.add_lit, this]
theorem wpQuietC_load_blk (hC : Cov C w0) (p : Operand) (t : TypeId) (ho : o.op = .load t p) (hw : Region.wanted o (yielded ops a.tmps) = true)
    (hload : ∀ (ad : Addr) (u : Value) (w : World), w.cell? ad = some u → (loadVar t ad).run P w = .ok u w) {B k : Nat} {t' : TypeId} {cs : List Value} {u : Value} (hx : a.eval p = .pointer (some ⟨B, k, none⟩)) (hb : Blk w0 B t' cs) (hk : cs[k]? = some u)
    (h : wpQuiet P ops C R rest (a.put o.dst u)) : wpQuiet P ops C R (o :: rest) a := by
  refine wpQuiet_of_run hw (fun w hc => ?_) h
  have := hload ⟨B, k, none⟩ u w (hC w hc _ _ (hb.cell hk))
  unfold execOp
  simp [ho, Instr.loadAt, hx, Instr.sureAddr, this]
theorem run_load_cells (p : Operand) (t : TypeId) (ho : o.op = .load t p) {d : TypeDesc} (hd : P.underlying t = some d) (ha : isAggD d = true) {cs : List Value} (hsz : (P.info? t).map (·.size) = some cs.length)
    {B f : Nat} (hx : a.eval p = .pointer (some ⟨B, f, none⟩)) (hb : ∀ (j : Nat) (u : Value), cs[j]? = some u → w.cell? ⟨B, f + j, none⟩ = some u) :
    (execOp a.eval o).run P w = .ok (.value (.agg cs.toArray)) w := by
  obtain ⟨ti, hti, hs⟩ := Option.map_eq_some_iff.1 hsz
  have hl := run_loadCells_list (P := P) w (⟨B, f, none⟩ : Addr) cs (fun j u hu => by rw [Addr.add_lit]; exact hb j u hu)
  have hagg : (isAgg t).run P w = .ok true w := by
    unfold isAgg
    simp only [Sem.run_bind, run_underlying hd, Result.andThen]
    cases d <;> simp_all [isAggD]
  unfold execOp
  simp [ho, Instr.loadAt, hx, Instr.sureAddr, loadVar, hagg, sizeOf, typeInfo, hti, hs, hl]
theorem wpQuietC_load_part (hC : Cov C w0) (p : Operand) (t : TypeId) (ho : o.op = .load t p) (hw : Region.wanted o (yielded ops a.tmps) = true) {d : TypeDesc} (hd : P.underlying t = some d) (ha : isAggD d = true) {s : Nat} (hsz : (P.info? t).map (·.size) = some s)
    {B f : Nat} {t' : TypeId} {cs : List Value} (hx : a.eval p = .pointer (some ⟨B, f, none⟩)) (hb : Blk w0 B t' cs) (hk : f + s ≤ cs.length) {cp : List Value} (hcs : (cs.drop f).take s = cp)
    (h : wpQuiet P ops C R rest (a.put o.dst (.agg cp.toArray))) : wpQuiet P ops C R (o :: rest) a := by
  have hl : cp.length = s := by rw [← hcs, List.length_take, List.length_drop]; omega
  refine wpQuiet_of_run hw (fun w hc => run_load_cells p t ho hd ha (by rw [hl]; exact hsz) hx (fun j u hu => ?_)) h
  rw [← hcs, List.getElem?_take] at hu
  split at hu
  · rw [List.getElem?_drop] at hu
    exact hC w hc _ _ (hb.cell hu)
  · cases hu
/-- 'string(b)' -/
theorem wpQuietC_str (hC : Cov C w0) (x : Operand) (src dst : TypeId) (ho : o.op = .convert src dst x) (hw : Region.wanted o (yielded ops a.tmps) = true)
    {e : TypeId} (hs : P.underlying src = some (.slice e)) (he : P.underlying e = some (.int .u8)) (hd : P.underlying dst = some .string) {v : Value} {n : Nat} {l : List UInt8} (hx : a.eval x = v) (hv : Rd w0 1 v n (bv l))
    (h : wpQuiet P ops C R rest (a.put o.dst (.string ⟨l.toArray⟩))) : wpQuiet P ops C R (o :: rest) a := by
  obtain ⟨hl, ad, cap, rfl, g1, g2, g3, g4⟩ := hv
  rw [bv_length, Nat.mul_one] at hl
  subst hl
  refine wpQuiet_of_run hw (v := .string ⟨l.toArray⟩) (fun w hc => ?_) h
  have key : (convert src dst (.slice ad l.length cap)).run P w = .ok (.string ⟨l.toArray⟩) w := by
    cases ad with
    | none =>
      have : cap = 0 := g3 rfl
      have h0 : l = [] := List.eq_nil_of_length_eq_zero (by omega)
      subst h0
      rw [run_convert_bytes_nil w src e hs he _ _ dst hd]
      rfl
    | some ad =>
      refine run_convert_bytes_back w src dst e ad cap l hs he hd fun j hj => ?_
      obtain ⟨b, of, hab, hcell⟩ := g4 j _ (bv_get l j hj)
      obtain rfl := Option.some.inj hab
      rw [Addr.add_lit]; exact hC w hc _ _ hcell
  unfold execOp
  simp [ho, hx, key]

/-! ### the middle -/
theorem wpMid_nil (h : wpList P ops (onlyNormal Q) tl a w) : wpMid P ops C Q tl [] a w := h
theorem wpMid_of_run (hw : Region.wanted o (yielded ops a.tmps) = true) {v : Value} {w' : World} (hr : (execOp a.eval o).run P w = .ok (.value v) w') (hC : C w')
    (h : wpMid P ops C Q tl rest (a.put o.dst v) w') : wpMid P ops C Q tl (o :: rest) a w := by
  unfold wpMid
  rw [if_pos hw]
  unfold Oper.wp
  rw [hr]
  exact ⟨hC, h⟩
theorem wpMid_call {f : FuncId} {xs : List Operand} {ts : Array TypeId} (ho : o.op = .call { callee := .value (.func f), args := xs.toArray, argTypes := ts }) (hrun : ∀ args w, (callFunc f args).run P w = .ok (.enter f args) w) (hw : Region.wanted o (yielded ops a.tmps) = true)
    {args : List Value} (hargs : xs.map a.eval = args) {post : Ending → World → Prop} (hc : Calls P f args.toArray w post)
    (h : ∀ e w', post e w' → ∃ v, e = .returned v ∧ C w' ∧ wpMid P ops C Q tl rest (a.put o.dst v) w') : wpMid P ops C Q tl (o :: rest) a w := by
  subst hargs
  unfold wpMid
  rw [if_pos hw]
  have hr : (execOp a.eval o).run P w = .ok (.enter f (xs.map a.eval).toArray) w := by
    unfold execOp
    simp [ho, resolve, Deferred.ofValue, invoke, Act.eval, hrun]
  unfold Oper.wp
  rw [hr]
  refine hc.mono fun e w' hp => ?_
  obtain ⟨v, rfl, hC, hk⟩ := h e w' hp
  exact ⟨hC, hk⟩
theorem onlyNormal_mk (h : Q .normal a w) : onlyNormal Q .normal a w := ⟨rfl, h⟩
end
end Go.Proofs.YtdlhkhnoigbhjaaDoor.Lb
namespace Go.Proofs.YtdlhkhnoigbhjaaDoor.Lb
open Go Go.RowKit Go.Lib Pu
section
variable {P : Program} {ops : Array Oper} {Q : Exit → Act → World → Prop} {C : World → Prop} {R : Act → Prop} {a : Act} {w w0 : World} {rest tl : List Oper} {o : Oper}
theorem wpMid_of_list (h : wpList P ops (nextTo fun a' w' => C w' ∧ wpMid P ops C Q tl rest a' w') [o] a w) : wpMid P ops C Q tl (o :: rest) a w := by
  unfold wpMid
  unfold wpList at h
  have hK : ∀ (a : Act) (w : World), wpList P ops (nextTo fun a' w' => C w' ∧ wpMid P ops C Q tl rest a' w') [] a w → C w ∧ wpMid P ops C Q tl rest a w := fun a w h => by unfold wpList at h; exact h.2
  split
  · rename_i hw
    rw [if_pos hw] at h
    have h := h.resolve_right (by rintro ⟨_, _, _, hh⟩; exact absurd hh.1 (by simp))
    unfold Oper.wp at *
    generalize (execOp a.eval o).run P w = r at *
    cases r with
    | ok n w' =>
      cases n <;> simp only [Oper.upon] at h ⊢
      case value u => exact hK _ _ h
      case skip => exact hK _ _ h
      case defer d => exact hK _ _ h
      case enter f args =>
        refine Calls.mono h fun e w'' he => ?_
        cases e with
        | returned u => exact hK _ _ he
        | panicked c => exact absurd he.1 (by simp)
        | outgrown => obtain ⟨_, _, hh⟩ := he; exact absurd hh.1 (by simp)
      case row row args => exact Rows.mono h fun u w'' he => hK _ _ he
    | halt x w' =>
      cases x <;> simp only [Oper.upon] at h ⊢
      case panic u => exact absurd h.1 (by simp)
  · rename_i hw; rw [if_neg hw] at h; exact hK _ _ h
theorem nextTo_nil {K : Act → World → Prop} (h : K a w) : wpList P ops (nextTo K) [] a w := by unfold wpList; exact ⟨rfl, h⟩
/-- a load under the class of worlds in which a block lies as it lay -/
theorem wpQuietB_load_blk (p : Operand) (t : TypeId) (ho : o.op = .load t p) (hw : Region.wanted o (yielded ops a.tmps) = true)
    (hload : ∀ (ad : Addr) (u : Value) (w : World), w.cell? ad = some u → (loadVar t ad).run P w = .ok u w) {B k : Nat} {t' : TypeId} {cs : List Value} {u : Value} (hx : a.eval p = .pointer (some ⟨B, k, none⟩)) (hk : cs[k]? = some u)
    (h : wpQuiet P ops (fun w => Blk w B t' cs) R rest (a.put o.dst u)) : wpQuiet P ops (fun w => Blk w B t' cs) R (o :: rest) a := by
  refine wpQuiet_of_run hw (fun w hc => ?_) h
  have := hload ⟨B, k, none⟩ u w (Blk.cell hc hk)
  unfold execOp
  simp [ho, Instr.loadAt, hx, Instr.sureAddr, this]
theorem wpQuietM_field {C : World → Prop} (x : Operand) (t : TypeId) (i : Nat) (ho : o.op = .fieldAddr t x i) (hw : Region.wanted o (yielded ops a.tmps) = true) {off : Nat} (hf : fieldOf P t i = some off) {B k j : Nat} (hx : a.eval x = .pointer (some ⟨B, k, none⟩)) (hj : k + off = j)
    (h : wpQuiet P ops C R rest (a.put o.dst (.pointer (some ⟨B, j, none⟩)))) : wpQuiet P ops C R (o :: rest) a := by
  subst hj; exact wpQuiet_of_run hw (fun w _ => run_field_blk x t i ho hf hx) h
end
theorem Only.past {B : Nat} {w w1 w2 : World} {r : Option Nat} (h : Only B w w1) (h2 : w1.grownBy w2 r) (hr : ∀ b, r = some b → w.heap.size ≤ b ∨ b = B) : Only B w w2 :=
  ⟨h2.os.trans h.os, h2.tape.trans h.tape, h2.output.trans h.output, Nat.le_trans h.size h2.size, fun k hk hne => by
    rw [h2.block k (Nat.lt_of_lt_of_le hk h.size) (fun e => (hr k e.symm).elim (fun h => by omega) (fun h => hne (by rw [h]))), h.block k hk hne]⟩
theorem Only.belows {B : Nat} {w w1 w2 : World} (h : Only B w w1) (h2 : Below w1.heap.size w1 w2) : Only B w w2 := h.past (r := none) (gb_below h2) (by intro b hb; cases hb)
theorem Only.trans' {B : Nat} {w w1 w2 : World} (h : Only B w w1) (h2 : Only B w1 w2) : Only B w w2 := h.past h2 (by intro b hb; cases hb; exact .inr rfl)
theorem Only.far {B C : Nat} {w w1 w2 : World} (h : Only B w w1) (h2 : Only C w1 w2) (hC : w.heap.size ≤ C) : Only B w w2 := h.past h2 (by intro b hb; cases hb; exact .inl hC)
theorem own_only {w w' : World} {base : Nat} {e : TypeId} {s : Nat} {v : Value} {n : Nat} {xs : List Value} {B : Nat} (h : w.ownsRow base e s v n xs) (hO : Only B w w') (hne : v.ownBlock ≠ some B) : w'.ownsRow base e s v n xs := by
  refine ⟨h.1, ?_⟩
  rcases h.2 with hn | ⟨g, cap, cur, rfl, hbg, hg, rest⟩
  · exact .inl hn
  · refine .inr ⟨g, cap, cur, rfl, hbg, ?_, rest⟩
    rw [hO.block g (Array.getElem?_eq_some_iff.1 hg).1 (by intro e; exact hne (by simpa [Value.ownBlock] using e))]; exact hg
theorem own_grown {w w' : World} {base : Nat} {e : TypeId} {s : Nat} {v : Value} {n : Nat} {xs : List Value} {r : Option Nat} (h : w.ownsRow base e s v n xs) (hO : w.grownBy w' r) (hne : ∀ b, v.ownBlock = some b → some b ≠ r) : w'.ownsRow base e s v n xs := by
  refine ⟨h.1, ?_⟩
  rcases h.2 with hn | ⟨g, cap, cur, rfl, hbg, hg, rest⟩
  · exact .inl hn
  · refine .inr ⟨g, cap, cur, rfl, hbg, ?_, rest⟩
    rw [hO.block g (Array.getElem?_eq_some_iff.1 hg).1 (hne g (by simp [Value.ownBlock]))]; exact hg
theorem own_ne {w : World} {base : Nat} {e : TypeId} {s : Nat} {v : Value} {n : Nat} {xs : List Value} {B : Nat} (h : w.ownsRow base e s v n xs) (hB : B < base) : v.ownBlock ≠ some B := fun hv => by have := (h.lt B hv).1; omega
theorem own_one {w : World} {base : Nat} {e : TypeId} {s : Nat} {v : Value} {n : Nat} {xs : List Value} (h : w.ownsRow base e s v n xs) : v.oneCell' = true := by
  rcases h.2 with ⟨rfl, _⟩ | ⟨g, cap, cur, rfl, _⟩ <;> rfl
/-- one more kid: it was made behind wd, then appended to the row of the others -/
theorem kids_next {wd w10 w11 w12 : World} {X : Nat → Prop} {B base : Nat} {e : TypeId} {v v' : Value} {j : Nat} {ts : List Tree} {xs : List Value} {t1 : Tree} {cs1 : List Value} (hown : wd.ownsRow base e 4 v j xs) (HT : IsTsX (fun b => X b ∧ v.ownBlock ≠ some b) wd ts xs)
    (hO1 : Only B wd w10) (hT1 : IsTX (fun b => wd.heap.size ≤ b) w10 t1 cs1) (hN11 : Below w10.heap.size w10 w11) (hg : w11.grownBy w12 v.ownBlock) (hst : Stayed w11 v v') (hX : ∀ b, X b → b ≠ B) (hXn : ∀ b, wd.heap.size ≤ b → X b) :
    IsTsX (fun b => X b ∧ v'.ownBlock ≠ some b) w12 (ts ++ [t1]) (xs ++ cs1) := by
  have h1 : IsTsX (fun b => (X b ∧ v.ownBlock ≠ some b) ∧ b < w11.heap.size) w11 ts xs := ((HT.only hO1 (fun b h => hX b h.1)).below hN11).lt
  have h2 : IsTX (fun b => (X b ∧ v.ownBlock ≠ some b) ∧ b < w11.heap.size) w11 t1 cs1 := ((hT1.below hN11).lt).mono fun b h => ⟨⟨hXn b h.1, fun hv => by have := (hown.lt b hv).2; omega⟩, h.2⟩
  have h3 := h1.snoc h2
  exact (h3.keep (Keep.grown hg fun b h => fun e => h.1.2 e.symm)).mono fun b h => ⟨h.1.1, fun e => hst.ne (fun e2 => h.1.2 e2.symm) h.2 e.symm⟩
theorem node_ones {a b c : Int} {v : Value} (h : v.oneCell' = true) : ∀ u ∈ ([.int .i64 a, .int .i64 b, .int .i64 c, v] : List Value), u.oneCell' = true := by
  intro u hu
  simp only [List.mem_cons, List.not_mem_nil, or_false] at hu
  rcases hu with rfl | rfl | rfl | rfl
  · rfl
  · rfl
  · rfl
  · exact h
theorem sz_nds : (Tryd.prog.info? 23).map (·.size) = some 1 := by kernel_rfl
end Go.Proofs.YtdlhkhnoigbhjaaDoor.Lb
namespace Go.Proofs.YtdlhkhnoigbhjaaDoor.Pu
/-- where a maker stands, and how many nodes are left -/
abbrev GS := Nat × Int
def gkids (g : GS → Tree × GS) : Nat → GS → List Tree × GS
  | 0, s => ([], s)
  | k + 1, s => if 0 < s.2 then ((g s).1 :: (gkids g k (g s).2).1, (gkids g k (g s).2).2) else ([], s)
def gtree (l : List Int) (d : Nat) (s : GS) : Tree × GS :=
  let r := match d with
    | 0 => ([], (s.1 + 1 + 1 + 1 + 1, s.2 - 1))
    | d + 1 => gkids (gtree l d) (atV l ((s.1 + 1 + 1 + 1 : Nat) : Int) 4).toNat (s.1 + 1 + 1 + 1 + 1, s.2 - 1)
  (.mk (atV l ((s.1 : Nat) : Int) 32 - 1) (atV l ((s.1 + 1 : Nat) : Int) 19 - 9) (atV l ((s.1 + 1 + 1 : Nat) : Int) 5 - 1) r.1, r.2)
def gsub (l : List Int) : Nat → Nat → GS → List Tree × GS
  | 0, _, s => ([], s)
  | d + 1, k, s => gkids (gtree l d) k s
theorem gtree_eq (l : List Int) (d : Nat) (s : GS) : gtree l d s = (.mk (atV l ((s.1 : Nat) : Int) 32 - 1) (atV l ((s.1 + 1 : Nat) : Int) 19 - 9) (atV l ((s.1 + 1 + 1 : Nat) : Int) 5 - 1) (gsub l d (atV l ((s.1 + 1 + 1 + 1 : Nat) : Int) 4).toNat (s.1 + 1 + 1 + 1 + 1, s.2 - 1)).1,
      (gsub l d (atV l ((s.1 + 1 + 1 + 1 : Nat) : Int) 4).toNat (s.1 + 1 + 1 + 1 + 1, s.2 - 1)).2) := by
  cases d <;> rfl
def addK (ts : List Tree) (r : List Tree × GS) : List Tree × GS := (ts ++ r.1, r.2)
theorem addK_nil (r : List Tree × GS) : addK [] r = r := rfl
theorem gk_step (g : GS → Tree × GS) (k : Nat) (s : GS) (ts : List Tree) (h : 0 < s.2) : addK ts (gkids g (k + 1) s) = addK (ts ++ [(g s).1]) (gkids g k (g s).2) := by
  rw [gkids, if_pos h]; simp [addK]
theorem gk_stop (g : GS → Tree × GS) (k : Nat) (s : GS) (ts : List Tree) (h : k = 0 ∨ ¬ 0 < s.2) : addK ts (gkids g k s) = (ts, s) := by
  cases k with
  | zero => rw [gkids]; simp [addK]
  | succ k => rw [gkids, if_neg (h.resolve_left (by omega))]; simp [addK]
theorem gsub_step (l : List Int) (d k : Nat) (s : GS) (ts : List Tree) (h : 0 < s.2) : addK ts (gsub l (d + 1) (k + 1) s) = addK (ts ++ [(gtree l d s).1]) (gsub l (d + 1) k (gtree l d s).2) := gk_step _ k s ts h
theorem gsub_stop (l : List Int) (d k : Nat) (s : GS) (ts : List Tree) (h : d = 0 ∨ k = 0 ∨ ¬ 0 < s.2) : addK ts (gsub l d k s) = (ts, s) := by
  cases d with
  | zero => simp [gsub, addK]
  | succ d => exact gk_stop _ k s ts (h.resolve_left (by omega))
/-- how far a maker gets -/
def Near (s s' : GS) (c : Nat) : Prop := s.1 ≤ s'.1 ∧ s'.1 ≤ s.1 + 4 * c ∧ s'.2 ≤ s.2 ∧ s.2 - c ≤ s'.2
theorem gkids_near {g : GS → Tree × GS} {c : Nat} (hg : ∀ s, Near s (g s).2 c) : ∀ (k : Nat) (s : GS), Near s (gkids g k s).2 (k * c)
  | 0, s => by rw [gkids]; unfold Near; simp
  | k + 1, s => by
    rw [gkids]
    split
    · have h1 := hg s
      have h2 := gkids_near hg k (g s).2
      unfold Near at *
      rw [Nat.add_mul]
      simp only at *
      omega
    · unfold Near; simp only; omega
theorem gkids_len (g : GS → Tree × GS) : ∀ (k : Nat) (s : GS), (gkids g k s).1.length ≤ k
  | 0, s => by rw [gkids]; exact Nat.le_refl _
  | k + 1, s => by
    rw [gkids]
    split
    · have := gkids_len g k (g s).2
      simp only [List.length_cons]; omega
    · simp
def gcost : Nat → Nat
  | 0 => 1
  | d + 1 => 1 + 3 * gcost d
theorem gtree_near (l : List Int) : ∀ (d : Nat) (s : GS), Near s (gtree l d s).2 (gcost d)
  | 0, s => by rw [gtree_eq, gsub, gcost]; unfold Near; simp only; omega
  | d + 1, s => by
    rw [gtree_eq, gsub, gcost]
    have hb := atV_bd l ((s.1 + 1 + 1 + 1 : Nat) : Int) (most := 4) (by omega)
    have hn : (atV l ((s.1 + 1 + 1 + 1 : Nat) : Int) 4).toNat ≤ 3 := by omega
    have := gkids_near (gtree_near l d) (atV l ((s.1 + 1 + 1 + 1 : Nat) : Int) 4).toNat (s.1 + 1 + 1 + 1 + 1, s.2 - 1)
    have hm : (atV l ((s.1 + 1 + 1 + 1 : Nat) : Int) 4).toNat * gcost d ≤ 3 * gcost d := Nat.mul_le_mul_right _ hn
    unfold Near at *
    simp only at *
    omega
end Go.Proofs.YtdlhkhnoigbhjaaDoor.Pu
namespace Go.Proofs.YtdlhkhnoigbhjaaDoor.Wi
open Go Go.RowKit Pu Lb
set_option linter.unusedSimpArgs false
set_option linter.unusedVariables false
theorem Mk.grown {w0 w w' : World} {B : Nat} {l : List Int} {a : Nat} {left : Int} {r : Option Nat} (h : Mk w0 w B l a left) (hO : w.grownBy w' r) (hne : some B ≠ r) (hC : ∀ b, r = some b → w0.heap.size ≤ b) : Mk w0 w' B l a left := by
  obtain ⟨lv, h1, h2, h3, h4⟩ := h
  exact ⟨lv, h1.grown hO hne, h2, h3, h4.grown hO h4.size hC⟩
theorem Mk.only {w0 w w' : World} {B : Nat} {l : List Int} {a : Nat} {left : Int} {C : Nat} (h : Mk w0 w B l a left) (hO : Only C w w') (hne : B ≠ C) (hC : w0.heap.size ≤ C) : Mk w0 w' B l a left := by
  obtain ⟨lv, h1, h2, h3, h4⟩ := h
  exact ⟨lv, hO.blk h1 hne, h2, h3, h4.trans (hO.below hC h4.size)⟩
set_option maxRecDepth 100000 in
set_option maxHeartbeats 1000000 in
theorem tree_any (l : List Int) (hl : ∀ x ∈ l, I64 x) (w0 : World) (B : Nat) : ∀ (d : Nat) (s : GS) (w : World) (D : Int), D = (d : Int) + 1 → d ≤ 8 → s.1 + 4 * gcost d ≤ 100000 → -100000 + (gcost d : Int) ≤ s.2 → s.2 ≤ 100000 → Mk w0 w B l s.1 s.2 →
    Calls Tryd.prog 46 #[.pointer (some ⟨B, 0, none⟩), .int .i64 D] w fun e w' => ∃ cs, e = .returned (.agg cs.toArray) ∧ IsTX (fun b => w.heap.size ≤ b) w' (gtree l d s).1 cs ∧ Mk w0 w' B l (gtree l d s).2.1 (gtree l d s).2.2 ∧ Only B w w' := by
  intro d
  induction d using Nat.strongRecOn with
  | _ d ih =>
  rintro ⟨a, left⟩ w D rfl hd ha hl1 hl2 hM
  simp only at ha hl1 hl2 hM ⊢
  have HL := Lib.hid hl
  have IH := Lib.hid ih
  clear ih hl
  obtain ⟨x1, hx1⟩ : ∃ x, atV l ((a : Nat) : Int) 32 = x := ⟨_, rfl⟩
  obtain ⟨x2, hx2⟩ : ∃ x, atV l ((a + 1 : Nat) : Int) 19 = x := ⟨_, rfl⟩
  obtain ⟨x3, hx3⟩ : ∃ x, atV l ((a + 1 + 1 : Nat) : Int) 5 = x := ⟨_, rfl⟩
  obtain ⟨x4, hx4⟩ : ∃ x, atV l ((a + 1 + 1 + 1 : Nat) : Int) 4 = x := ⟨_, rfl⟩
  have b1 := atV_bd l ((a : Nat) : Int) (most := 32) (by omega)
  have b2 := atV_bd l ((a + 1 : Nat) : Int) (most := 19) (by omega)
  have b3 := atV_bd l ((a + 1 + 1 : Nat) : Int) (most := 5) (by omega)
  have b4 := atV_bd l ((a + 1 + 1 + 1 : Nat) : Int) (most := 4) (by omega)
  rw [hx1] at b1; rw [hx2] at b2; rw [hx3] at b3; rw [hx4] at b4
  have HX1 := Lib.hid hx1; have HX2 := Lib.hid hx2; have HX3 := Lib.hid hx3; have HX4 := Lib.hid hx4
  have GT := Lib.hid (show gtree l d (a, left) = (.mk (x1 - 1) (x2 - 9) (x3 - 1) (gsub l d x4.toNat (a + 1 + 1 + 1 + 1, left - 1)).1, (gsub l d x4.toNat (a + 1 + 1 + 1 + 1, left - 1)).2) by rw [gtree_eq, hx1, hx2, hx3, hx4])
  clear hx1 hx2 hx3 hx4
  obtain ⟨c, hc⟩ : ∃ c, gcost (d - 1) = c := ⟨_, rfl⟩
  have hc3 : 0 < d → gcost d = 1 + 3 * c := fun h => by
    obtain ⟨d', rfl⟩ : ∃ d', d = d' + 1 := ⟨d - 1, by omega⟩
    rw [gcost, ← hc]; rfl
  have hc1 : 1 ≤ gcost d := by cases d <;> (rw [gcost]; omega)
  have HC := Lib.hid hc
  have HC3 := Lib.hid hc3
  clear hc hc3
  obtain ⟨lv, hB, hr, hB0, hb0⟩ := hM
  have X1 := Lib.hid (show ([lv, .int .i64 (a : Int), .int .i64 left] : List Value)[2]? = some (.int .i64 left) from rfl)
  have LN := Lib.hid (show 2 < ([lv, .int .i64 (a : Int), .int .i64 left] : List Value).length by simp)
  have lB := hB.lt
  go_enter Tryd.func46, Tryd.ntmps46
  go_upto_region 1 with (((with_reducible refine' wpList_alloc_blk (cs := nodz) 25 rfl ?_ zr_node ?_ ?_); exact rfl; exact nodz_cells; intro w1 kR hN1 hz1; simp only [Act.put, List.setIfInBounds_toArray, List.set_cons_succ, List.set_cons_zero]))
  obtain ⟨R, hR⟩ : ∃ R, w.heap.size = R := ⟨_, rfl⟩
  rw [hR] at kR ⊢
  have HR := Lib.hid hR
  have lR := kR.lt
  replace hB := hB.below hN1 lB
  have hb1 := hb0.trans (hN1.mono hb0.size)
  have hRB : R ≠ B := by omega
  clear hR
  go_upto_region 2 with (first
    | (((with_reducible refine' wpList_field_blk (j := 2) (.tmp 9) 66 2 rfl ?_ fo_mk_2 ?_ rfl ?_); exact rfl; exact rfl; simp only [Act.put, List.setIfInBounds_toArray, List.set_cons_succ, List.set_cons_zero])) | (((with_reducible refine' wpList_field_blk (j := 2) (.tmp 13) 66 2 rfl ?_ fo_mk_2 ?_ rfl ?_); exact rfl; exact rfl; simp only [Act.put, List.setIfInBounds_toArray, List.set_cons_succ, List.set_cons_zero])) | ((with_reducible refine' wpList_load_blk (.tmp 10) 3 rfl ?_ ld_int ?_ hB (X1.out) ?_); exact rfl; exact rfl; simp only [Act.put, List.setIfInBounds_toArray, List.set_cons_succ, List.set_cons_zero])
    | (((with_reducible refine' wpList_set_blk (u := .int .i64 (left - 1)) 3 (.tmp 14) (.tmp 12) rfl ?_ sz_int ?_ ?_ hB (LN.out) ?_ ?_); exact rfl; exact rfl; exact rfl; exact rfl; intro w2 k2 hO2 hz2; simp only [Act.put])))
  have hM : Mk w0 w2 B l a (left - 1) := ⟨lv, k2, hr, hB0, hb1.trans (hO2.below hB0 hb1.size)⟩
  have kR2 := hO2.blk kR hRB
  have hOw : Only B w w2 := (Only.refl B w).belows hN1 |>.trans' hO2
  clear hr k2 hB hO2 hN1 kR hb1 hb0 X1 LN
  have lR2 := kR2.lt
  go_upto_region 3 with (first
    | ((go_at_call 47; (with_reducible refine (num_any w0 B l a _ 32 _ hM HL.out (by omega) (by omega) (by unfold I64; omega)).mono ?_); rintro e w' ⟨rfl, hM1, hO3⟩); clear hM; rw [HX1.out])
    | ((go_at_call 47; (with_reducible refine (num_any w0 B l (a + 1) _ 19 _ hM1 HL.out (by omega) (by omega) (by unfold I64; omega)).mono ?_); rintro e w' ⟨rfl, hM2, hO4⟩); clear hM1; rw [HX2.out])
    | ((go_at_call 47; (with_reducible refine (num_any w0 B l (a + 1 + 1) _ 5 _ hM2 HL.out (by omega) (by omega) (by unfold I64; omega)).mono ?_); rintro e w' ⟨rfl, hM3, hO5⟩); clear hM2; rw [HX3.out])
    | ((with_reducible refine' wpList_of_run (o := ⟨_, .build _ _, _, _, _, _⟩) (v := .agg #[.int .i64 (x1 - 1), .int .i64 (x2 - 9), .int .i64 (x3 - 1), .slice none 0 0]) (w' := _) ?_ ?_ ?_); exact rfl; kernel_rfl; simp only [Act.put, List.setIfInBounds_toArray, List.set_cons_succ, List.set_cons_zero])
    | (((with_reducible refine' wpList_alloc_blk (cs := nodz) 25 rfl ?_ zr_node ?_ ?_); exact rfl; exact nodz_cells; intro w3 kN hN3 hz3; simp only [Act.put, List.setIfInBounds_toArray, List.set_cons_succ, List.set_cons_zero]))
    | ((with_reducible refine' wpList_store_blk (cs := [.int .i64 (x1 - 1), .int .i64 (x2 - 9), .int .i64 (x3 - 1), .slice none 0 0]) 25 (.tmp 5) (.tmp 24) rfl ?_ ?_ ?_ kN sz_node ?_ ?_ ?_ ?_); exact rfl; exact rfl; exact rfl; exact rfl; exact rfl; exact node_ones rfl; intro w4 kN4 hO6 hz4; simp only [Act.put]))
  rename_i w5 w6 _
  obtain ⟨w7, rfl⟩ : ∃ w7, w7 = w' := ⟨_, rfl⟩
  obtain ⟨N, hN⟩ : ∃ N, w7.heap.size = N := ⟨_, rfl⟩
  rw [hN] at kN4 hO6 ⊢
  have hRN : R < N := by have := hO3.size; have := hO4.size; have := hO5.size; omega
  have hBN : B < N := by have := hO3.size; have := hO4.size; have := hO5.size; omega
  have HN := Lib.hid hN
  have hOw4 : Only B w w4 := (((hOw.trans' hO3).trans' hO4).trans' hO5 |>.belows hN3).far hO6 (by have := HR.out; omega)
  have hM4 : Mk w0 w4 B l (a + 1 + 1 + 1) (left - 1) := (hM3.below hN3).only hO6 (by omega) (by omega)
  have kR4 : Blk w4 R 25 nodz := hO6.blk ((hO5.blk (hO4.blk (hO3.blk kR2 hRB) hRB) hRB).below hN3 (by rw [hN]; exact hRN)) (by omega)
  clear hM3 hO3 hO4 hO5 hN3 hO6 kR2 hOw kN hz3 hz4 hN hz1 hz2 lR lR2
  go_upto_region 5 with (first
    | ((go_at_call 47; (with_reducible refine (num_any w0 B l (a + 1 + 1 + 1) _ 4 _ hM4 HL.out (by omega) (by omega) (by unfold I64; omega)).mono ?_); rintro e w' ⟨rfl, hM8, hO8⟩); clear hM4; rw [HX4.out]))
  obtain ⟨w8, rfl⟩ : ∃ w8, w8 = w' := ⟨_, rfl⟩
  have kR8 := hO8.blk kR4 hRB
  have kN8 := hO8.blk kN4 (by omega)
  have hOw8 := hOw4.trans' hO8
  have hwB := hOw8.size
  obtain ⟨K, hK⟩ : ∃ K : Nat, x4 = (K : Int) := ⟨x4.toNat, by omega⟩
  subst hK
  rw [Int.toNat_natCast] at GT
  clear kR4 kN4 hOw4 hO8 HX4
  have lN8 := kN8.lt
  go_loopw [7] (fun i wr => ∃ (j : Nat) (ts : List Tree) (s : GS) (v : Value) (xs : List Value), i = .int .i64 (j : Int) ∧ ts.length = j ∧ j ≤ K ∧ wr.ownsRow (N + 1) 25 4 v j xs ∧ Hid (IsTsX (fun b => (w.heap.size ≤ b ∧ b ≠ N ∧ b ≠ R) ∧ v.ownBlock ≠ some b) wr ts xs) ∧
    Blk wr N 25 [.int .i64 (x1 - 1), .int .i64 (x2 - 9), .int .i64 (x3 - 1), v] ∧ Blk wr R 25 nodz ∧ Mk w0 wr B l s.1 s.2 ∧ Only B w wr ∧ Hid (addK ts (gsub l d (K - j) s) = gsub l d K (a + 1 + 1 + 1 + 1, left - 1)) ∧ s.1 ≤ a + 4 + 4 * (j * c) ∧ s.2 ≤ left - 1 ∧ left - 1 - ((j * c : Nat) : Int) ≤ s.2) (fun i _ => K - (intOf i).toNat)
  case atStart => exact ⟨0, [], (a + 1 + 1 + 1 + 1, left - 1), .slice none 0 0, [], rfl, rfl, Nat.zero_le _, World.ownsRow_nil _ _ _ _, Lib.hid IsTsX.nil, kN8, kR8, hM8, hOw8, Lib.hid (addK_nil _), by simp, by simp, by simp⟩
  case round =>
    obtain ⟨j, ts, ⟨sa, sl⟩, v, xs, rfl, hts, hj, hown, HT, qN, qR, hM, hO, HS, hs1, hs2, hs3⟩ := hrel
    obtain ⟨wo, rfl⟩ : ∃ wo : World, wo = wr := ⟨_, rfl⟩
    simp only at hM hs1 hs2 hs3
    obtain ⟨lv2, hB, hr, hB0, hb0⟩ := hM
    have X2 := Lib.hid (show ([lv2, .int .i64 (sa : Int), .int .i64 sl] : List Value)[2]? = some (.int .i64 sl) from rfl)
    by_cases h1 : j < K
    · by_cases h2 : 0 < d
      · by_cases h3 : 0 < sl
        · go_upto_region 7 with (first | (((with_reducible refine' wpList_field_blk (j := 2) (.tmp 36) 66 2 rfl ?_ fo_mk_2 ?_ rfl ?_); exact rfl; exact rfl; simp only [Act.put, List.setIfInBounds_toArray, List.set_cons_succ, List.set_cons_zero])) | ((with_reducible refine' wpList_load_blk (.tmp 37) 3 rfl ?_ ld_int ?_ hB (X2.out) ?_); exact rfl; exact rfl; simp only [Act.put, List.setIfInBounds_toArray, List.set_cons_succ, List.set_cons_zero]))
          have hMo : Mk w0 wo B l (sa, sl).1 (sa, sl).2 := ⟨lv2, hB, hr, hB0, hb0⟩
          obtain ⟨d', rfl⟩ : ∃ d', d = d' + 1 := ⟨d - 1, by omega⟩
          have hc' := HC.out
          simp only [Nat.add_sub_cancel] at hc'
          have hc4 := HC3.out h2
          have hjc : (j + 1) * c ≤ 3 * c := Nat.mul_le_mul_right _ (by omega)
          rw [Nat.add_mul, Nat.one_mul] at hjc
          have BA := Lib.hid (show (sa, sl).1 + 4 * gcost d' ≤ 100000 by rw [hc']; simp only; omega)
          have BB := Lib.hid (show -100000 + (gcost d' : Int) ≤ (sa, sl).2 by rw [hc']; simp only; omega)
          have BC := Lib.hid (show (sa, sl).2 ≤ 100000 by simp only; omega)
          have NR := gtree_near l d' (sa, sl)
          rw [hc'] at NR
          obtain ⟨⟨t1, ⟨sa1, sl1⟩⟩, hg⟩ : ∃ r, gtree l d' (sa, sl) = r := ⟨_, rfl⟩
          rw [hg] at NR
          unfold Near at NR
          simp only at NR
          have HG := Lib.hid hg
          have HS2 := Lib.hid (show addK (ts ++ [t1]) (gsub l (d' + 1) (K - (j + 1)) (sa1, sl1)) = gsub l (d' + 1) K (a + 1 + 1 + 1 + 1, left - 1) by
            rw [← HS.out, show K - j = (K - (j + 1)) + 1 by omega, gsub_step l d' _ (sa, sl) ts h3, hg])
          have X3 := Lib.hid (show ([.int .i64 (x1 - 1), .int .i64 (x2 - 9), .int .i64 (x3 - 1), v] : List Value)[3]? = some v from rfl)
          have IHd := Lib.hid (IH.out d' (by omega))
          have vN : v.ownBlock ≠ some N := own_ne hown (by omega)
          have vR : v.ownBlock ≠ some R := own_ne hown (by omega)
          have vB : v.ownBlock ≠ some B := own_ne hown (by omega)
          clear hc' hc4 hg hB hr HS IH HC HC3 h2
          have hbd : Below wo.heap.size wo wo.drew := (Below.refl _ _).drew
          (refine wp_region_mid (fun w2 => Blk w2 N 25 [.int .i64 (x1 - 1), .int .i64 (x2 - 9), .int .i64 (x3 - 1), v]) [.h, .h, .h, .h, .h, .m, .m, .m, .t, .t] (by kernel_rfl) (by kernel_rfl) (qN) ?_; simp only [pickH, pickM, pickT]; (repeat (first | (((with_reducible refine' wpQuietM_field (k := 0) (j := 3) (.tmp 5) 25 3 rfl ?_ fo_node_3 ?_ rfl ?_); exact rfl; rotate_left; exact rfl; simp only [Act.put, List.setIfInBounds_toArray, List.set_cons_succ, List.set_cons_zero])) | (((with_reducible refine' wpQuietB_load_blk (.tmp 43) 23 rfl ?_ ld_nds ?_ X3.out ?_); exact rfl; exact rfl; simp only [Act.put, List.setIfInBounds_toArray, List.set_cons_succ, List.set_cons_zero])) | go_big_quiet_step (fail) | (go_big_quiet_want; go_big_quiet_op; refine ⟨_, fun _ _ => rfl, ?_⟩; go_big_quiet_on))); refine wpQuiet_nil ?_)
          obtain ⟨wd, hwd⟩ : ∃ wd, wo.drew = wd := ⟨_, rfl⟩
          rw [hwd] at hbd ⊢
          clear hwd
          have lN := qN.lt
          have lR := qR.lt
          replace hown := own_below hown hbd
          have HTd := Lib.hid (HT.out.below hbd)
          replace qN := qN.below hbd lN
          replace qR := qR.below hbd lR
          replace hMo := hMo.below hbd
          replace hO := hO.belows hbd
          have sO := hO.size
          clear HT hbd lN lR
          have lN := qN.lt
          have lR := qR.lt
          refine wpMid_of_list ?_
          go_wp2_with ((go_at_call 46; (with_reducible refine (IHd.out (sa, sl) _ _ (by omega) (by omega) BA.out BB.out BC.out hMo).mono ?_); rintro e w' ⟨cs1, rfl, hT1, hM1, hO1⟩); rw [HG.out] at hT1 hM1)
          obtain ⟨w10, rfl⟩ : ∃ x, x = w' := ⟨_, rfl⟩
          replace qN := hO1.blk qN (by omega)
          replace qR := hO1.blk qR (by omega)
          have CL := Lib.hid hT1.len
          have CO := Lib.hid hT1.isT.ones
          have o10 := own_only hown hO1 vB
          refine ⟨rfl, qN, ?_⟩
          clear hMo BA BB BC HG IHd
          have lN1 := qN.lt
          have lR1 := qR.lt
          refine wpMid_of_list ?_
          go_wp2_with (((with_reducible refine' wpList_build_sts (css := [cs1]) rfl ?_ Tryd.underlying23 inf_node ?_ ?_ ?_ ?_ ?_ ?_); exact rfl; exact rfl; (first | omega | decide); (first | omega | decide); exact rfl; (intro c hc; simp at hc; subst hc; exact CL.out); intro w11 k11 hN11 hz11; simp only [Act.put, List.setIfInBounds_toArray, List.set_cons_succ, List.set_cons_zero]))
          rw [show [cs1].flatten = cs1 by simp] at k11
          replace qN := qN.below hN11 lN1
          replace qR := qR.below hN11 lR1
          refine ⟨rfl, qN, ?_⟩
          have o11 := own_below o10 hN11
          have r11 := k11.rdall 1 4 CL.out (by unfold maxLen; omega)
          have sz11 := hO1.size
          have sz12 := hN11.size
          refine wpMid_of_list ?_
          go_wp2_with (((with_reducible refine' wpList_append_at (.tmp 44) (.tmp 49) 23 rfl ?_ Tryd.underlying23 inf_node ?_ ?_ ?_ o11 ?_ r11 CO.out ?_ ?_ (by omega) ?_); exact rfl; exact rfl; omega; exact rfl; exact rfl; (first | omega | (unfold maxLen; omega)); omega; intro v' w12 o12 hg12 hst; simp only [Act.put, List.setIfInBounds_toArray, List.set_cons_succ, List.set_cons_zero]))
          have HT12 := Lib.hid (kids_next hown HTd.out hO1 hT1 hN11 hg12 hst (fun b h => by have := h.1; omega) (fun b h => ⟨by omega, by omega, by omega⟩))
          replace qN := qN.grown hg12 (fun e => vN e.symm)
          replace qR := qR.grown hg12 (fun e => vR e.symm)
          have hM12 := (hM1.below hN11).grown hg12 (fun e => vB e.symm) (fun b hb => by have := (hown.lt b hb).1; omega)
          have hO12 := (hO.trans' hO1 |>.belows hN11).past hg12 (fun b hb => by have := (hown.lt b hb).1; have := HR.out; omega)
          refine ⟨rfl, qN, ?_⟩
          clear hown HTd hT1 hN11 hg12 hst hO1 o10 o11 r11 k11 hM1 hO vN vR vB
          refine wpMid_nil ?_
          have l3 := Lib.hid (show 3 < ([.int .i64 (x1 - 1), .int .i64 (x2 - 9), .int .i64 (x3 - 1), v] : List Value).length by simp)
          go_wp2_with (first | ((with_reducible refine' wpList_field_blk (j := 3) (.tmp 5) 25 3 rfl ?_ fo_node_3 ?_ rfl ?_); exact rfl; exact rfl; simp only [Act.put, List.setIfInBounds_toArray, List.set_cons_succ, List.set_cons_zero]) | ((with_reducible refine' wpList_set_blk (u := v') 23 (.tmp 51) (.tmp 50) rfl ?_ sz_nds ?_ ?_ qN (l3.out) ?_ ?_); exact rfl; exact rfl; exact rfl; exact (own_one o12); intro w13 k13 hO13 hz13; simp only [Act.put, List.setIfInBounds_toArray, List.set_cons_succ, List.set_cons_zero]))
          refine onlyN ?_
          have HT13 := Lib.hid (HT12.out.only hO13 (fun b h => h.1.2.1))
          have o13 := own_only o12 hO13 (own_ne o12 (by omega))
          have qR13 := hO13.blk qR (by omega)
          have hM13 := hM12.only hO13 (by omega) (by omega)
          have hO14 := hO12.far hO13 (by have := HR.out; omega)
          clear HT12 o12 qR qN hM12 hO12 hO13 X2 X3 hb0
          go_wp2_with fail
          go_roundw
          case rel => (first | exact ⟨j + 1, ts ++ [t1], (sa1, sl1), v', xs ++ cs1, by go_num, by simp [hts], by omega, o13, HT13, k13, qR13, hM13, hO14, HS2, by rw [Nat.add_mul]; simp only; omega, by simp only; omega, by rw [Nat.add_mul]; simp only; omega⟩ | ((repeat apply Exists.intro); exact ⟨⟨j + 1, ts ++ [t1], (sa1, sl1), v', xs ++ cs1, by go_num, by simp [hts], by omega, o13, HT13, k13, qR13, hM13, hO14, HS2, by rw [Nat.add_mul]; simp only; omega, by simp only; omega, by rw [Nat.add_mul]; simp only; omega⟩, rfl⟩))
          case measure => simp [intOf]; omega
        · have HT2 := Lib.hid (show gsub l d K (a + 1 + 1 + 1 + 1, left - 1) = (ts, (sa, sl)) by rw [← HS.out, gsub_stop l d _ (sa, sl) ts (.inr (.inr h3))])
          have hMo : Mk w0 wo B l sa sl := ⟨lv2, hB, hr, hB0, hb0⟩
          have RO := Lib.hid (Rd.of_own hown)
          go_wp2_with (first | (((with_reducible refine' wpList_field_blk (j := 2) (.tmp 36) 66 2 rfl ?_ fo_mk_2 ?_ rfl ?_); exact rfl; exact rfl; simp only [Act.put, List.setIfInBounds_toArray, List.set_cons_succ, List.set_cons_zero])) | ((with_reducible refine' wpList_load_blk (.tmp 37) 3 rfl ?_ ld_int ?_ hB (X2.out) ?_); exact rfl; exact rfl; simp only [Act.put, List.setIfInBounds_toArray, List.set_cons_succ, List.set_cons_zero]) | ((with_reducible refine' wpList_loadst_blk (.tmp 5) 25 rfl ?_ Tryd.underlying25 ?_ sz_node ?_ qN ?_ ?_ ?_); exact rfl; exact rfl; exact rfl; exact rfl; decide; simp only [Act.put, List.setIfInBounds_toArray, List.set_cons_succ, List.set_cons_zero]) | ((with_reducible refine' wpList_store_blk (cs := [.int .i64 (x1 - 1), .int .i64 (x2 - 9), .int .i64 (x3 - 1), v]) 25 (.tmp 4) (.tmp 52) rfl ?_ ?_ ?_ qR sz_node ?_ ?_ ?_ ?_); exact rfl; exact rfl; exact rfl; exact rfl; exact rfl; exact node_ones (own_one hown); intro w13 k13 hO13 hz13; simp only [Act.put]))
          have HT13 := HT.out.only hO13 (fun b h => h.1.2.2)
          have r13 := Rd.of_own (own_only hown hO13 (own_ne hown (by omega)))
          have hM13 := hMo.only hO13 (by omega) (by have := HR.out; omega)
          have hO14 := hO.far hO13 (by have := HR.out; omega)
          ((try simp only [Exit.inBlock, Exit.then]); refine bodyPost_ret (results_cell_row rfl _ _ _ _ _ _ _ rfl k13 Tryd.underlying25 rfl (by rw [sz_node]; simp)) rfl ?_)
          rw [GT.out, HT2.out]
          subst hts
          exact ⟨_, rfl, IsTX.node r13 (fun b hb _ => by have := (hown.lt b hb).1; have := HR.out; omega) (HT13.mono fun b h => h.1.1), hM13, hO14⟩
      · have HT2 := Lib.hid (show gsub l d K (a + 1 + 1 + 1 + 1, left - 1) = (ts, (sa, sl)) by rw [← HS.out, gsub_stop l d _ (sa, sl) ts (.inl (by omega))])
        have hMo : Mk w0 wo B l sa sl := ⟨lv2, hB, hr, hB0, hb0⟩
        have RO := Lib.hid (Rd.of_own hown)
        go_wp2_with (first | (((with_reducible refine' wpList_field_blk (j := 2) (.tmp 36) 66 2 rfl ?_ fo_mk_2 ?_ rfl ?_); exact rfl; exact rfl; simp only [Act.put, List.setIfInBounds_toArray, List.set_cons_succ, List.set_cons_zero])) | ((with_reducible refine' wpList_load_blk (.tmp 37) 3 rfl ?_ ld_int ?_ hB (X2.out) ?_); exact rfl; exact rfl; simp only [Act.put, List.setIfInBounds_toArray, List.set_cons_succ, List.set_cons_zero]) | ((with_reducible refine' wpList_loadst_blk (.tmp 5) 25 rfl ?_ Tryd.underlying25 ?_ sz_node ?_ qN ?_ ?_ ?_); exact rfl; exact rfl; exact rfl; exact rfl; decide; simp only [Act.put, List.setIfInBounds_toArray, List.set_cons_succ, List.set_cons_zero]) | ((with_reducible refine' wpList_store_blk (cs := [.int .i64 (x1 - 1), .int .i64 (x2 - 9), .int .i64 (x3 - 1), v]) 25 (.tmp 4) (.tmp 52) rfl ?_ ?_ ?_ qR sz_node ?_ ?_ ?_ ?_); exact rfl; exact rfl; exact rfl; exact rfl; exact rfl; exact node_ones (own_one hown); intro w13 k13 hO13 hz13; simp only [Act.put]))
        have HT13 := HT.out.only hO13 (fun b h => h.1.2.2)
        have r13 := Rd.of_own (own_only hown hO13 (own_ne hown (by omega)))
        have hM13 := hMo.only hO13 (by omega) (by have := HR.out; omega)
        have hO14 := hO.far hO13 (by have := HR.out; omega)
        ((try simp only [Exit.inBlock, Exit.then]); refine bodyPost_ret (results_cell_row rfl _ _ _ _ _ _ _ rfl k13 Tryd.underlying25 rfl (by rw [sz_node]; simp)) rfl ?_)
        rw [GT.out, HT2.out]
        subst hts
        exact ⟨_, rfl, IsTX.node r13 (fun b hb _ => by have := (hown.lt b hb).1; have := HR.out; omega) (HT13.mono fun b h => h.1.1), hM13, hO14⟩
    · have HT2 := Lib.hid (show gsub l d K (a + 1 + 1 + 1 + 1, left - 1) = (ts, (sa, sl)) by rw [← HS.out, gsub_stop l d _ (sa, sl) ts (.inr (.inl (by omega)))])
      have hMo : Mk w0 wo B l sa sl := ⟨lv2, hB, hr, hB0, hb0⟩
      have RO := Lib.hid (Rd.of_own hown)
      go_wp2_with (first | (((with_reducible refine' wpList_field_blk (j := 2) (.tmp 36) 66 2 rfl ?_ fo_mk_2 ?_ rfl ?_); exact rfl; exact rfl; simp only [Act.put, List.setIfInBounds_toArray, List.set_cons_succ, List.set_cons_zero])) | ((with_reducible refine' wpList_load_blk (.tmp 37) 3 rfl ?_ ld_int ?_ hB (X2.out) ?_); exact rfl; exact rfl; simp only [Act.put, List.setIfInBounds_toArray, List.set_cons_succ, List.set_cons_zero]) | ((with_reducible refine' wpList_loadst_blk (.tmp 5) 25 rfl ?_ Tryd.underlying25 ?_ sz_node ?_ qN ?_ ?_ ?_); exact rfl; exact rfl; exact rfl; exact rfl; decide; simp only [Act.put, List.setIfInBounds_toArray, List.set_cons_succ, List.set_cons_zero]) | ((with_reducible refine' wpList_store_blk (cs := [.int .i64 (x1 - 1), .int .i64 (x2 - 9), .int .i64 (x3 - 1), v]) 25 (.tmp 4) (.tmp 52) rfl ?_ ?_ ?_ qR sz_node ?_ ?_ ?_ ?_); exact rfl; exact rfl; exact rfl; exact rfl; exact rfl; exact node_ones (own_one hown); intro w13 k13 hO13 hz13; simp only [Act.put]))
      have HT13 := HT.out.only hO13 (fun b h => h.1.2.2)
      have r13 := Rd.of_own (own_only hown hO13 (own_ne hown (by omega)))
      have hM13 := hMo.only hO13 (by omega) (by have := HR.out; omega)
      have hO14 := hO.far hO13 (by have := HR.out; omega)
      ((try simp only [Exit.inBlock, Exit.then]); refine bodyPost_ret (results_cell_row rfl _ _ _ _ _ _ _ rfl k13 Tryd.underlying25 rfl (by rw [sz_node]; simp)) rfl ?_)
      rw [GT.out, HT2.out]
      subst hts
      exact ⟨_, rfl, IsTX.node r13 (fun b hb _ => by have := (hown.lt b hb).1; have := HR.out; omega) (HT13.mono fun b h => h.1.1), hM13, hO14⟩
end Go.Proofs.YtdlhkhnoigbhjaaDoor.Wi
namespace Go.Proofs.YtdlhkhnoigbhjaaDoor.Lb
open Go Go.RowKit Go.Lib Pu
section
variable {P : Program} {ops : Array Oper} {Q : Exit → Act → World → Prop} {C : World → Prop} {T : Nat → Bool} {a : Act} {w : World} {md : Region.Mode}
def readsB2 (o : Oper) : Bool := readsB o || (match o.op with | .extract _ _ => true | .pick _ _ _ => true | _ => false)
theorem pick_only {s : Sem Bool} {a b : Value} {w w' : World} {n : Next} (h : (do pure (Next.value (if (← s) = true then a else b)) : Sem Next).run P w = .ok n w') : ∃ u, n = .value u := by
  rw [Sem.run_bind] at h
  cases hs : s.run P w with
  | ok v w2 => rw [hs, Result.andThen_ok, Sem.run_pure] at h; injection h with h1 h2; exact ⟨_, h1.symm⟩
  | halt x w2 => rw [hs] at h; cases h
theorem reads_only2 {o : Oper} (h : readsB2 o = true) {ρ : Operand → Value} {w w' : World} {n : Next} (hr : (execOp ρ o).run P w = .ok n w') : ∃ u, n = .value u := by
  unfold readsB2 at h
  rw [Bool.or_eq_true] at h
  rcases h with h | h
  · exact reads_only h hr
  · split at h <;> try (cases h; done)
    all_goals (rename_i ho; unfold execOp at hr; simp only [ho] at hr)
    all_goals first
      | exact val_only hr
      | exact pick_only hr
      | skip
theorem yieldsC_of_quiet2 {o : Oper} {K : Act → Prop} (hr : readsB2 o = true) (h : if Region.wanted o (yielded ops a.tmps) then o.quiet P a C K else K (a.put o.dst undef)) : ∃ v, YieldsC P ops C o v a ∧ K (a.put o.dst v) := by
  by_cases hw : Region.wanted o (yielded ops a.tmps) = true
  · simp only [hw, if_true] at h
    obtain ⟨v, h1, h2⟩ := h
    refine ⟨v, .inl ⟨hw, fun w hC => ?_⟩, h2⟩
    have h3 := h1 w hC
    unfold Oper.quietAt at h3
    cases hres : (execOp a.eval o).run P w with
    | ok n w' =>
      obtain ⟨u, rfl⟩ := reads_only2 hr hres
      rw [hres] at h3
      obtain ⟨rfl, rfl⟩ := h3
      rfl
    | halt x w' =>
      rw [hres] at h3
      exact h3.elim
  · simp only [hw] at h
    exact ⟨undef, .inr ⟨by simpa using hw, rfl⟩, h⟩
/-- the steps; the tail is walked as a list -/
def wpSteps (P : Program) (ops : Array Oper) (C : World → Prop) (Q : Exit → Act → World → Prop) (tl : List Oper) : List (Bool × Oper) → Act → World → Prop
  | [], a, w => wpList P ops (onlyNormal Q) tl a w
  | (true, o) :: l, a, w => wpQuiet P ops C (fun a' => wpSteps P ops C Q tl l a' w) [o] a
  | (false, o) :: l, a, w => wpList P ops (nextTo fun a' w' => C w' ∧ wpSteps P ops C Q tl l a' w') [o] a w
theorem wpSteps_nil {tl : List Oper} (h : wpList P ops (onlyNormal Q) tl a w) : wpSteps P ops C Q tl [] a w := h
theorem wpSteps_f {tl : List Oper} {o : Oper} {l : List (Bool × Oper)} (h : wpQuiet P ops C (fun a' => wpSteps P ops C Q tl l a' w) [o] a) : wpSteps P ops C Q tl ((true, o) :: l) a w := h
theorem wpSteps_o {tl : List Oper} {o : Oper} {l : List (Bool × Oper)} (h : wpList P ops (nextTo fun a' w' => C w' ∧ wpSteps P ops C Q tl l a' w') [o] a w) : wpSteps P ops C Q tl ((false, o) :: l) a w := h
def stepIx (md : Region.Mode) (ops : Array Oper) (ts : List Nat) : List (Bool × Nat) → Array Bool → Bool
  | [], listed => seqIx md ops ts listed
  | (true, k) :: ks, listed => (Region.ready md ops listed).contains k && Region.free md ops listed k && stepIx md ops ts ks (listed.setIfInBounds k true)
  | (false, k) :: ks, listed => decide (Region.ready md ops listed = [k]) && stepIx md ops ts ks (listed.setIfInBounds k true)
theorem wpAnyC_steps {ts : List Nat} {tl : List Oper} (hsel : Region.noSelect ops = true) (hts : ∀ t, t ∈ ts → T t = true) (htm : ts.map (ops[·]?) = tl.map some) :
    ∀ (ks : List (Bool × Nat)) (mo : List (Bool × Oper)) (listed : Array Bool) (a : Act) (w : World), C w → ks.map (fun k => (k.1, ops[k.2]?)) = mo.map (fun o => (o.1, some o.2)) → stepIx md ops ts ks listed = true →
      (∀ o ∈ mo, o.1 = true → readsB2 o.2 = true) → (∀ i ∈ ks, i.1 = true → ∀ j oj, T j = true → ops[j]? = some oj → ∃ e ∈ oj.after, Region.binds md e = true ∧ e.on = i.2) →
      wpSteps P ops C Q tl mo a w → wpAnyC P md ops C T Q (ks.length + ts.length) listed a w
  | [], [], listed, a, w, _, _, hB, _, _, h => by
    rw [List.length_nil, Nat.zero_add]
    exact wpAnyC_tail hts ts tl listed a w (fun _ h => h) htm hB h
  | [], o :: mo, _, _, _, _, hm, _, _, _, _ => by simp at hm
  | k :: ks, [], _, _, _, _, hm, _, _, _, _ => by simp at hm
  | (true, k) :: ks, (b, o) :: mo, listed, a, w, hC, hm, hB, hr, hT, h => by
    simp only [List.map_cons, List.cons.injEq, Prod.mk.injEq] at hm
    obtain ⟨⟨hb, hk⟩, hm⟩ := hm
    subst hb
    simp only [stepIx, Bool.and_eq_true] at hB
    obtain ⟨⟨hr1, hf⟩, hB'⟩ := hB
    rw [List.length_cons, show ks.length + 1 + ts.length = (ks.length + ts.length) + 1 by omega]
    unfold wpSteps at h
    unfold wpQuiet at h
    obtain ⟨v, hy, hK⟩ := yieldsC_of_quiet2 (ops := ops) (K := fun a' => wpQuiet P ops C (fun a' => wpSteps P ops C Q tl mo a' w) [] a') (hr (true, o) (by simp) rfl) h
    unfold wpQuiet at hK
    exact wpAnyC_first hk (Region.noSelect_spec hsel) (hT (true, k) (by simp) rfl) _ listed a w hC (Region.free_spec hk hf) (by simpa using hr1) hy
      (wpAnyC_steps hsel hts htm ks mo _ _ w hC hm hB' (fun o' h' => hr o' (by simp [h'])) (fun i hi => hT i (by simp [hi])) hK)
  | (false, k) :: ks, (b, o) :: mo, listed, a, w, hC, hm, hB, hr, hT, h => by
    simp only [List.map_cons, List.cons.injEq, Prod.mk.injEq] at hm
    obtain ⟨⟨hb, hk⟩, hm⟩ := hm
    subst hb
    simp only [stepIx, Bool.and_eq_true, decide_eq_true_eq] at hB
    rw [List.length_cons, show ks.length + 1 + ts.length = (ks.length + ts.length) + 1 by omega]
    refine ⟨fun h1 => (by rw [hB.1] at h1; cases h1), fun i hi => ?_⟩
    rw [hB.1] at hi
    obtain rfl : i = k := by simpa using hi
    unfold wpSteps at h
    exact wpOp_mono (fun a' w' h' => ⟨fun _ => h'.1, wpAnyC_steps hsel hts htm ks mo _ a' w' h'.1 hm hB.2 (fun o' h' => hr o' (by simp [h'])) (fun i hi => hT i (by simp [hi])) h'.2⟩) (wpOp_of_list hk h)
/-- kinds by order of the list: the rest is the tail -/
def stepsB (md : Region.Mode) (l : List Oper) (ks : List Bool) : Bool :=
  decide (ks.length ≤ l.length) && Region.noSelect l.toArray && ((List.range' ks.length (l.length - ks.length)).all fun t => (ks.zipIdx).all fun i => !i.1 || waits md l.toArray t i.2) &&
  ((ks.zip l).all fun o => !o.1 || readsB2 o.2) && stepIx md l.toArray (List.range' ks.length (l.length - ks.length)) ks.zipIdx (Array.replicate l.length false)
theorem zip_map : ∀ (ks : List Bool) (l pre : List Oper), ks.length ≤ l.length → (ks.zipIdx pre.length).map (fun k => (k.1, (pre ++ l)[k.2]?)) = (ks.zip l).map (fun o => (o.1, some o.2))
  | [], _, _, _ => rfl
  | _ :: _, [], _, h => by simp at h
  | k :: ks, o :: l, pre, h => by
    have ih := zip_map ks l (pre ++ [o]) (by simpa using h)
    simp only [List.length_append, List.length_singleton, List.append_assoc, List.singleton_append] at ih
    rw [List.zipIdx_cons, List.zip_cons_cons, List.map_cons, List.map_cons, ih]
    simp
theorem range_map (l : List Oper) (n : Nat) (_h : n ≤ l.length) : (List.range' n (l.length - n)).map (l[·]?) = (l.drop n).map some := by
  apply List.ext_getElem (by simp)
  intro i h1 h2
  simp at h1
  simp
/-- a region that draws its order, walked in one order -/
theorem wp_region_steps {id : Nat} {l : List Oper} (C : World → Prop) (ks : List Bool) (hm : P.follows .mixedOrders = true) (hB : stepsB .any l ks = true) (hC : C w.drew)
    (h : wpSteps P l.toArray C Q (l.drop ks.length) (ks.zip l) a w.drew) : (Code.region id l.toArray true).wp P Q a w := by
  simp only [stepsB, Bool.and_eq_true, decide_eq_true_eq] at hB
  obtain ⟨⟨⟨⟨hlen, hsel⟩, hw⟩, hr⟩, hx⟩ := hB
  have e1 := zip_map ks l [] hlen
  simp only [List.length_nil, List.nil_append] at e1
  refine wp_region_any hm (wpAny_of_C (C := C) (T := fun i => decide (i ∈ List.range' ks.length (l.length - ks.length))) _ _ _ _ ?_)
  have := wpAnyC_steps (P := P) (md := .any) (ops := l.toArray) (C := C) (T := fun i => decide (i ∈ List.range' ks.length (l.length - ks.length))) (Q := Q) (ts := List.range' ks.length (l.length - ks.length)) (tl := l.drop ks.length) hsel (fun t ht => by simpa using ht) (by simpa using range_map l ks.length hlen)
    ks.zipIdx (ks.zip l) (Array.replicate l.length false) a w.drew hC (by simpa using e1) hx (fun o ho hb => by have := List.all_eq_true.1 hr o ho; simpa [hb] using this)
    (fun i hi hb j oj hT hj => by
      have h1 := List.all_eq_true.1 hw j (by simpa using hT)
      have h2 := List.all_eq_true.1 h1 i hi
      rw [hb, Bool.not_true, Bool.false_or] at h2
      unfold waits at h2
      rw [hj] at h2
      obtain ⟨e, he, hb⟩ := Array.any_eq_true'.1 h2
      simp only [Bool.and_eq_true, beq_iff_eq] at hb
      exact ⟨e, he, hb.1, hb.2⟩) h
  rw [List.length_zipIdx, List.length_range', show ks.length + (l.length - ks.length) = l.length by omega] at this
  simpa using this
end
end Go.Proofs.YtdlhkhnoigbhjaaDoor.Lb
namespace Go.Proofs.YtdlhkhnoigbhjaaDoor.Pu
/-! ### the order -/
def lexI (x y : Int) : Int := if x ≠ 0 then x else y
theorem orI_cons (x : Int) (l : List Int) : orI (x :: l) = lexI x (orI l) := rfl
def Good (x y z : Int) : Prop := x ≤ 0 → y ≤ 0 → z ≤ 0 ∧ (z = 0 → x = 0 ∧ y = 0)
theorem lex_ne {x y : Int} (h : x ≠ 0) : lexI x y = x := if_pos h
theorem lex_eq {x y : Int} (h : x = 0) : lexI x y = y := if_neg (by omega)
theorem lex_le {x y : Int} (h : lexI x y ≤ 0) : x ≤ 0 := by
  by_cases hx : x = 0
  · omega
  · rwa [lex_ne hx] at h
theorem good_lex {x y z x' y' z' : Int} (h : Good x y z) (h' : Good x' y' z') : Good (lexI x x') (lexI y y') (lexI z z') := by
  intro h1 h2
  have a := h (lex_le h1) (lex_le h2)
  by_cases hz : z = 0
  · obtain ⟨hx, hy⟩ := a.2 hz
    rw [lex_eq hx] at h1 ⊢
    rw [lex_eq hy] at h2 ⊢
    rw [lex_eq hz]
    exact h' h1 h2
  · rw [lex_ne hz]
    exact ⟨a.1, fun e => absurd e hz⟩
theorem good_sgn (a b c : Int) : Good (sgn a b) (sgn b c) (sgn a c) := by
  unfold Good sgn
  intro h1 h2
  split at h1 <;> split at h2 <;> split <;> (try split at h1) <;> (try split at h2) <;> (try split) <;> (first | omega | (constructor <;> omega) | skip)
  all_goals (constructor; · omega; · intro h; constructor <;> (first | omega | (split <;> omega)))
theorem good_zero : Good 0 0 0 := by unfold Good; omega
theorem neg_lex {x y x' y' : Int} (h : x = -x') (h2 : y = -y') : lexI x y = -lexI x' y' := by
  unfold lexI; subst h; subst h2
  by_cases hx : x' = 0
  · subst hx; simp
  · rw [if_pos (by omega), if_pos hx]
theorem neg_sgn (a b : Int) : sgn a b = -sgn b a := by unfold sgn; split <;> split <;> (try split) <;> omega
theorem sgn_bd (a b : Int) : -1 ≤ sgn a b ∧ sgn a b ≤ 1 := by unfold sgn; split <;> (try split) <;> omega
theorem sgn_zero {a b : Int} : sgn a b = 0 ↔ a = b := by unfold sgn; constructor <;> intro h <;> (try split at h) <;> (try split at h) <;> (try split) <;> (try split) <;> omega
theorem lex_bd {x y : Int} (h : -1 ≤ x ∧ x ≤ 1) (h2 : -1 ≤ y ∧ y ≤ 1) : -1 ≤ lexI x y ∧ lexI x y ≤ 1 := by unfold lexI; split <;> assumption
theorem lex_zero {x y : Int} : lexI x y = 0 ↔ x = 0 ∧ y = 0 := by unfold lexI; split <;> omega
theorem tcmp_lex (k n m k' n' m' : Int) (ts us : List Tree) : tcmp (.mk k n m ts) (.mk k' n' m' us) = lexI (sgn k k') (lexI (sgn n n') (lexI (sgn m m') (lexI (tcmps ts us) 0))) := by rw [tcmp]; rfl
theorem tcmps_lex (t u : Tree) (ts us : List Tree) : tcmps (t :: ts) (u :: us) = lexI (tcmp t u) (tcmps ts us) := by rw [tcmps]; rfl
mutual
theorem good_tcmp : ∀ a b c : Tree, Good (tcmp a b) (tcmp b c) (tcmp a c)
  | .mk _ _ _ ts, .mk _ _ _ us, .mk _ _ _ vs => by
    rw [tcmp_lex, tcmp_lex, tcmp_lex]
    exact good_lex (good_sgn _ _ _) (good_lex (good_sgn _ _ _) (good_lex (good_sgn _ _ _) (good_lex (good_tcmps ts us vs) good_zero)))
theorem good_tcmps : ∀ a b c : List Tree, Good (tcmps a b) (tcmps b c) (tcmps a c)
  | [], [], [] => by simp only [tcmps]; exact good_zero
  | [], [], _ :: _ => by unfold Good; simp only [tcmps]; omega
  | [], _ :: _, [] => by unfold Good; simp only [tcmps]; omega
  | [], _ :: _, _ :: _ => by unfold Good; simp only [tcmps]; omega
  | _ :: _, [], [] => by unfold Good; simp only [tcmps]; omega
  | _ :: _, [], _ :: _ => by unfold Good; rw [show ∀ (a : Tree) (l : List Tree), tcmps (a :: l) [] = 1 from fun _ _ => by rw [tcmps]]; intro h1 h2; omega
  | _ :: _, b :: bs, [] => by unfold Good; rw [show ∀ (a : Tree) (l : List Tree), tcmps (a :: l) [] = 1 from fun _ _ => by rw [tcmps]]; intro h1 h2; omega
  | t :: ts, u :: us, v :: vs => by
    rw [tcmps_lex, tcmps_lex, tcmps_lex]
    exact good_lex (good_tcmp t u v) (good_tcmps ts us vs)
end
mutual
theorem neg_tcmp : ∀ a b : Tree, tcmp a b = -tcmp b a
  | .mk _ _ _ ts, .mk _ _ _ us => by
    rw [tcmp_lex, tcmp_lex]
    exact neg_lex (neg_sgn _ _) (neg_lex (neg_sgn _ _) (neg_lex (neg_sgn _ _) (neg_lex (neg_tcmps ts us) (by omega))))
theorem neg_tcmps : ∀ a b : List Tree, tcmps a b = -tcmps b a
  | [], [] => by rw [tcmps]; omega
  | [], _ :: _ => by rw [tcmps, tcmps]
  | _ :: _, [] => by rw [tcmps, tcmps]; omega
  | t :: ts, u :: us => by
    rw [tcmps_lex, tcmps_lex]
    exact neg_lex (neg_tcmp t u) (neg_tcmps ts us)
end
mutual
theorem tcmp_bd : ∀ a b : Tree, -1 ≤ tcmp a b ∧ tcmp a b ≤ 1
  | .mk _ _ _ ts, .mk _ _ _ us => by
    rw [tcmp_lex]
    exact lex_bd (sgn_bd _ _) (lex_bd (sgn_bd _ _) (lex_bd (sgn_bd _ _) (lex_bd (tcmps_bd ts us) (by omega))))
theorem tcmps_bd : ∀ a b : List Tree, -1 ≤ tcmps a b ∧ tcmps a b ≤ 1
  | [], [] => by rw [tcmps]; omega
  | [], _ :: _ => by rw [tcmps]; omega
  | _ :: _, [] => by rw [tcmps]; omega
  | t :: ts, u :: us => by
    rw [tcmps_lex]
    exact lex_bd (tcmp_bd t u) (tcmps_bd ts us)
end
mutual
theorem tcmp_zero : ∀ a b : Tree, tcmp a b = 0 ↔ a = b
  | .mk k n m ts, .mk k' n' m' us => by
    rw [tcmp_lex, lex_zero, lex_zero, lex_zero, lex_zero, sgn_zero, sgn_zero, sgn_zero, tcmps_zero ts us, Tree.mk.injEq]
    constructor
    · rintro ⟨h1, h2, h3, h4, _⟩; exact ⟨h1, h2, h3, h4⟩
    · rintro ⟨h1, h2, h3, h4⟩; exact ⟨h1, h2, h3, h4, rfl⟩
theorem tcmps_zero : ∀ a b : List Tree, tcmps a b = 0 ↔ a = b
  | [], [] => by rw [tcmps]; simp
  | [], _ :: _ => by rw [tcmps]; simp
  | _ :: _, [] => by rw [tcmps]; simp
  | t :: ts, u :: us => by rw [tcmps_lex, lex_zero, tcmp_zero t u, tcmps_zero ts us, List.cons.injEq]
end
theorem tcmp_self (a : Tree) : tcmp a a = 0 := (tcmp_zero a a).2 rfl
theorem tcmps_self (a : List Tree) : tcmps a a = 0 := (tcmps_zero a a).2 rfl
theorem tcmp_trans {a b c : Tree} (h1 : tcmp a b ≤ 0) (h2 : tcmp b c ≤ 0) : tcmp a c ≤ 0 := (good_tcmp a b c h1 h2).1
theorem tcmps_set (ts : List Tree) (t u : Tree) : ∀ (i : Nat), i < ts.length → tcmps (ts.set i t) (ts.set i u) = tcmp t u := by
  induction ts with
  | nil => intro i h; simp at h
  | cons a ts ih =>
    intro i h
    cases i with
    | zero => rw [List.set_cons_zero, List.set_cons_zero, tcmps_lex, tcmps_self]; unfold lexI; split <;> omega
    | succ i => rw [List.set_cons_succ, List.set_cons_succ, tcmps_lex, tcmp_self, ih i (by simpa using h)]; rfl
/-! ### places -/
def tat : List Int → Tree → Option Tree
  | [], t => some t
  | i :: p, .mk _ _ _ ts => if 0 ≤ i then (ts[i.toNat]?).bind fun u => tat p u else none
def tset : List Int → Tree → Tree → Option Tree
  | [], _, x => some x
  | i :: p, .mk k n m ts, x => if 0 ≤ i then (ts[i.toNat]?).bind fun u => (tset p u x).map fun v => .mk k n m (ts.set i.toNat v) else none
def tindex : List Int → Tree → Option Nat
  | [], _ => some 0
  | i :: p, .mk _ _ _ ts => if 0 ≤ i then (ts[i.toNat]?).bind fun u => (tindex p u).map fun b => 1 + b + tsizes (ts.take i.toNat) else none
mutual
def tpaths : Tree → List (List Int)
  | .mk _ _ _ ts => [] :: tpathsF 0 ts
def tpathsF : Nat → List Tree → List (List Int)
  | _, [] => []
  | i, t :: ts => (tpaths t).map (((i : Nat) : Int) :: ·) ++ tpathsF (i + 1) ts
end
theorem tat_succ {p : List Int} {t u : Tree} {i : Nat} {k n m : Int} {ts : List Tree} (ht : t = .mk k n m ts) (h : ts[i]? = some u) : tat ((i : Int) :: p) t = tat p u := by
  subst ht; rw [tat, if_pos (by omega), Int.toNat_natCast, h]; rfl
mutual
theorem tpaths_len : ∀ t : Tree, (tpaths t).length = tsize t
  | .mk _ _ _ ts => by rw [tpaths, tsize, List.length_cons, tpathsF_len 0 ts]; omega
theorem tpathsF_len : ∀ (i : Nat) (ts : List Tree), (tpathsF i ts).length = tsizes ts
  | _, [] => by rw [tpathsF, tsizes]; rfl
  | i, t :: ts => by rw [tpathsF, tsizes, List.length_append, List.length_map, tpaths_len t, tpathsF_len (i + 1) ts]
end
/-- which places there are -/
theorem tset_isSome (x : Tree) : ∀ (p : List Int) (t : Tree), (tset p t x).isSome = (tat p t).isSome
  | [], _ => rfl
  | i :: p, .mk k n m ts => by
    rw [tset, tat]
    split
    · cases h : ts[i.toNat]? with
      | none => rfl
      | some u => simp only [Option.bind_some, Option.isSome_map]; exact tset_isSome x p u
    · rfl
theorem tindex_isSome : ∀ (p : List Int) (t : Tree), (tindex p t).isSome = (tat p t).isSome
  | [], _ => rfl
  | i :: p, .mk k n m ts => by
    rw [tindex, tat]
    split
    · cases h : ts[i.toNat]? with
      | none => rfl
      | some u => simp only [Option.bind_some, Option.isSome_map]; exact tindex_isSome p u
    · rfl
theorem tcmp_tset (a b : Tree) : ∀ (p : List Int) (t c d : Tree), tset p t a = some c → tset p t b = some d → tcmp c d = tcmp a b
  | [], _, c, d, h1, h2 => by
    rw [tset, Option.some.injEq] at h1 h2; subst h1; subst h2; rfl
  | i :: p, .mk k n m ts, c, d, h1, h2 => by
    rw [tset] at h1 h2
    split at h1
    · rename_i hi
      rw [if_pos hi] at h2
      cases h : ts[i.toNat]? with
      | none => rw [h] at h1; cases h1
      | some u =>
        rw [h] at h1 h2
        simp only [Option.bind_some, Option.map_eq_some_iff] at h1 h2
        obtain ⟨v, hv, rfl⟩ := h1
        obtain ⟨w, hw, rfl⟩ := h2
        have hlt := (List.getElem?_eq_some_iff.1 h).1
        rw [tcmp_lex, sgn_zero.2 rfl, sgn_zero.2 rfl, sgn_zero.2 rfl, tcmps_set _ _ _ _ hlt, tcmp_tset a b p u v w hv hw]
        unfold lexI; simp only [ne_eq, not_true_eq_false, if_false, ite_not]
        split <;> omega
    · cases h1
/-! the i-th place -/
mutual
theorem tindex_path : ∀ (t : Tree) (j : Nat) (p : List Int), (tpaths t)[j]? = some p → tindex p t = some j
  | .mk k n m ts, j, p, h => by
    rw [tpaths] at h
    cases j with
    | zero => simp only [List.getElem?_cons_zero, Option.some.injEq] at h; subst h; rfl
    | succ j =>
      rw [List.getElem?_cons_succ] at h
      obtain ⟨i, q, b, u, rfl, h1, h2, h3⟩ := tindex_pathF 0 ts j p h
      rw [Nat.zero_add, tindex, if_pos (by omega), Int.toNat_natCast, h1, Option.bind_some, h2, Option.map_some, h3]
      congr 1; omega
theorem tindex_pathF : ∀ (o : Nat) (ts : List Tree) (j : Nat) (p : List Int), (tpathsF o ts)[j]? = some p → ∃ (i : Nat) (q : List Int) (b : Nat) (u : Tree), p = ((o + i : Nat) : Int) :: q ∧ ts[i]? = some u ∧ tindex q u = some b ∧ j = b + tsizes (ts.take i)
  | _, [], j, p, h => by rw [tpathsF] at h; simp at h
  | o, t :: ts, j, p, h => by
    rw [tpathsF] at h
    by_cases hj : j < ((tpaths t).map (((o : Nat) : Int) :: ·)).length
    · rw [List.getElem?_append_left hj, List.getElem?_map, Option.map_eq_some_iff] at h
      obtain ⟨q, hq, rfl⟩ := h
      exact ⟨0, q, j, t, rfl, rfl, tindex_path t j q hq, by rw [List.take_zero, tsizes]; omega⟩
    · rw [List.getElem?_append_right (by omega)] at h
      obtain ⟨i, q, b, u, rfl, h1, h2, h3⟩ := tindex_pathF (o + 1) ts _ p h
      rw [List.length_map, tpaths_len] at h3 hj
      exact ⟨i + 1, q, b, u, by congr 2; omega, by simpa using h1, h2, by rw [List.take_succ_cons, tsizes]; omega⟩
end
theorem tindex_lt : ∀ (p : List Int) (t : Tree) (j : Nat), tindex p t = some j → j < tsize t
  | [], t, j, h => by rw [tindex, Option.some.injEq] at h; subst h; exact tsize_pos t
  | i :: p, .mk k n m ts, j, h => by
    rw [tindex] at h
    split at h
    · cases hu : ts[i.toNat]? with
      | none => rw [hu] at h; cases h
      | some u =>
        rw [hu] at h
        simp only [Option.bind_some, Option.map_eq_some_iff] at h
        obtain ⟨b, hb, rfl⟩ := h
        have h1 := tindex_lt p u b hb
        have hlt := (List.getElem?_eq_some_iff.1 hu).1
        have h2 : tsizes ts = tsizes (ts.take i.toNat) + tsizes (ts.drop i.toNat) := by rw [← tsizes_app, List.take_append_drop]
        rw [List.drop_eq_getElem_cons hlt, tsizes, (List.getElem?_eq_some_iff.1 hu).2] at h2
        rw [tsize]; omega
    · cases h
/-! ### replacing -/
theorem tat_tset (x : Tree) : ∀ (p : List Int) (t z : Tree), tset p t x = some z → tat p z = some x
  | [], _, z, h => by rw [tset, Option.some.injEq] at h; subst h; rfl
  | i :: p, .mk k n m ts, z, h => by
    rw [tset] at h
    split at h
    · rename_i hi
      cases hu : ts[i.toNat]? with
      | none => rw [hu] at h; cases h
      | some u =>
        rw [hu] at h
        simp only [Option.bind_some, Option.map_eq_some_iff] at h
        obtain ⟨v, hv, rfl⟩ := h
        have hlt := (List.getElem?_eq_some_iff.1 hu).1
        rw [tat, if_pos hi, List.getElem?_set_self hlt]
        exact tat_tset x p u v hv
    · cases h
theorem tset_back (x : Tree) : ∀ (p : List Int) (t z o : Tree), tat p t = some o → tset p t x = some z → tset p z o = some t
  | [], _, z, o, h, h2 => by rw [tat] at h; rw [tset]; exact h.symm
  | i :: p, .mk k n m ts, z, o, h, h2 => by
    rw [tset] at h2
    rw [tat] at h
    split at h2
    · rename_i hi
      rw [if_pos hi] at h
      cases hu : ts[i.toNat]? with
      | none => rw [hu] at h; cases h
      | some u =>
        rw [hu] at h h2
        simp only [Option.bind_some, Option.map_eq_some_iff] at h h2
        obtain ⟨v, hv, rfl⟩ := h2
        have hlt := (List.getElem?_eq_some_iff.1 hu).1
        rw [tset, if_pos hi, List.getElem?_set_self hlt]
        simp only [Option.bind_some]
        rw [tset_back x p u v o h hv, Option.map_some, List.set_set, ← (List.getElem?_eq_some_iff.1 hu).2, List.set_getElem_self]
    · cases h2
/-- neither of two places is above the other one -/
theorem tat_apart (x : Tree) : ∀ (p q : List Int) (t z : Tree), tset p t x = some z → ¬ p <+: q → ¬ q <+: p → tat q z = tat q t
  | [], q, _, _, _, h, _ => absurd (List.nil_prefix) h
  | _ :: _, [], _, _, _, _, h => absurd (List.nil_prefix) h
  | i :: p, j :: q, .mk k n m ts, z, h, h1, h2 => by
    rw [tset] at h
    split at h
    · rename_i hi
      cases hu : ts[i.toNat]? with
      | none => rw [hu] at h; cases h
      | some u =>
        rw [hu] at h
        simp only [Option.bind_some, Option.map_eq_some_iff] at h
        obtain ⟨v, hv, rfl⟩ := h
        have hlt := (List.getElem?_eq_some_iff.1 hu).1
        rw [tat, tat]
        split
        · rename_i hj
          by_cases hij : i = j
          · subst hij
            rw [List.getElem?_set_self hlt, hu]
            exact tat_apart x p q u v hv (fun hp => h1 (List.cons_prefix_cons.2 ⟨rfl, hp⟩)) (fun hp => h2 (List.cons_prefix_cons.2 ⟨rfl, hp⟩))
          · rw [List.getElem?_set_ne (by omega)]
        · rfl
    · cases h
end Go.Proofs.YtdlhkhnoigbhjaaDoor.Pu
namespace Go.Proofs.YtdlhkhnoigbhjaaDoor.Pu
theorem tat_size : ∀ (p : List Int) (t u : Tree), tat p t = some u → tsize u ≤ tsize t
  | [], t, u, h => by rw [tat, Option.some.injEq] at h; subst h; exact Nat.le_refl _
  | i :: p, .mk k n m ts, u, h => by
    rw [tat] at h
    split at h
    · cases hx : ts[i.toNat]? with
      | none => rw [hx] at h; cases h
      | some x =>
        rw [hx] at h
        have h1 := tat_size p x u h
        have h2 := tsize_mem (List.mem_of_getElem? hx)
        rw [tsize]; omega
    · cases h
theorem tsizes_set {z u : Tree} : ∀ {ts : List Tree} {i : Nat}, ts[i]? = some u → tsizes (ts.set i z) + tsize u = tsizes ts + tsize z
  | [], i, h => by simp at h
  | a :: ts, 0, h => by
    simp only [List.getElem?_cons_zero, Option.some.injEq] at h
    subst h
    rw [List.set_cons_zero, tsizes, tsizes]; omega
  | a :: ts, i + 1, h => by
    rw [List.getElem?_cons_succ] at h
    have := tsizes_set (z := z) h
    rw [List.set_cons_succ, tsizes, tsizes]; omega
theorem tset_size (x : Tree) : ∀ (p : List Int) (t z : Tree), tset p t x = some z → tsize z ≤ tsize t + tsize x
  | [], t, z, h => by rw [tset, Option.some.injEq] at h; subst h; omega
  | i :: p, .mk k n m ts, z, h => by
    rw [tset] at h
    split at h
    · cases hx : ts[i.toNat]? with
      | none => rw [hx] at h; cases h
      | some u =>
        rw [hx] at h
        simp only [Option.bind_some, Option.map_eq_some_iff] at h
        obtain ⟨v, hv, rfl⟩ := h
        have h1 := tset_size x p u v hv
        have h2 := tsizes_set (z := v) hx
        rw [tsize, tsize]; omega
    · cases h
theorem tsizes_take_le (ts : List Tree) (i : Nat) : tsizes (ts.take i) + tsizes (ts.drop i) = tsizes ts := by rw [← tsizes_app, List.take_append_drop]
theorem tsizes_drop_le (ts : List Tree) (i : Nat) : tsizes (ts.drop (i + 1)) ≤ tsizes (ts.drop i) := by
  rw [show ts.drop (i + 1) = (ts.drop i).drop 1 by rw [List.drop_drop], ]
  cases ts.drop i with
  | nil => simp
  | cons a l => rw [List.drop_succ_cons, List.drop_zero, tsizes]; omega
end Go.Proofs.YtdlhkhnoigbhjaaDoor.Pu
namespace Go.Proofs.YtdlhkhnoigbhjaaDoor.Lb
open Go Go.RowKit Go.Lib Pu
theorem results_cell_row_tmp {P : Program} {fn : Func} {p q : Tmp} {ty : TypeId} (h : fn.results = #[.cell p ty, .tmp q]) (tmps : Array Value) (w : World) (g : Nat) (t : TypeId) (cs : Array Value) (fr : Nat × Nat) (d : TypeDesc)
    (hp : tmps.getD p undef = .pointer (some ⟨g, 0, none⟩)) (hg : w.heap[g]? = some (.cells cs t fr))
    (hu : P.underlying ty = some d) (hd : (match d with | .struct _ | .array _ _ => true | _ => false) = true) (hi : (P.info? ty).map (·.size) = some cs.size) :
    (results fn tmps).run P w = .ok (.tuple #[.agg cs, tmps.getD q undef]) w := by
  have hp' : tmps[p]?.getD undef = .pointer (some ⟨g, 0, none⟩) := by simpa using hp
  simp [results, h, hp', asAddr, run_loadVar_row w g t ty cs fr d hg hu hd hi]
theorem Rd.cov {C : World → Prop} {w0 w : World} (hC : Cov C w0) (hw : C w) {s : Nat} {v : Value} {n : Nat} {xs : List Value} (h : Rd w0 s v n xs) : Rd w s v n xs := by
  obtain ⟨hl, ad, cap, rfl, h1, h2, h3, h4⟩ := h
  refine ⟨hl, ad, cap, rfl, h1, h2, h3, fun j u hu => ?_⟩
  obtain ⟨b, o, rfl, hc⟩ := h4 j u hu
  exact ⟨b, o, rfl, hC w hw _ _ hc⟩
section
variable {P : Program} {ops : Array Oper} {C : World → Prop} {R : Act → Prop} {a : Act} {w0 : World} {rest : List Oper} {o : Oper}
theorem wpQuietC_load_st (hC : Cov C w0) (p : Operand) (t : TypeId) (ho : o.op = .load t p) (hw : Region.wanted o (yielded ops a.tmps) = true) {d : TypeDesc} (hd : P.underlying t = some d) (ha : isAggD d = true) {s : Nat} (hsz : (P.info? t).map (·.size) = some s)
    {s' : Nat} {v : Value} {n : Nat} {xs : List Value} {k : Nat} (hx : a.eval p = ep v k) (hv : Rd w0 s' v n xs) (hk : k + s ≤ xs.length) (hs : 0 < s) {cp : List Value} (hcs : (xs.drop k).take s = cp)
    (h : wpQuiet P ops C R rest (a.put o.dst (.agg cp.toArray))) : wpQuiet P ops C R (o :: rest) a := by
  subst hcs; exact wpQuiet_of_run hw (fun w hw => run_load_st p t ho hd ha hsz hx (hv.cov hC hw) hk hs) h
theorem wpQuietC_from_rd (x lo : Operand) (t : TypeId) (ho : o.op = .slice t x (some lo) none none) (hw : Region.wanted o (yielded ops a.tmps) = true)
    {e : TypeId} (ht : P.underlying t = some (.slice e)) {s : Nat} (hsz : (P.info? e).map (·.size) = some s) {v : Value} {n : Nat} {xs : List Value} (hv : Rd w0 s v n xs)
    (L : Nat) (hx : a.eval x = v) (hlo : IsI (a.eval lo) (L : Int)) (h1 : L ≤ n)
    (h : ∀ v', Rd w0 s v' (n - L) (xs.drop (L * s)) → wpQuiet P ops C R rest (a.put o.dst v')) : wpQuiet P ops C R (o :: rest) a := by
  obtain ⟨ti, hti, rfl⟩ := Option.map_eq_some_iff.1 hsz
  obtain ⟨kl, hlo⟩ := isI hlo
  have hv' := hv
  obtain ⟨hl, ad, cap, rfl, g1, g2, g3, g4⟩ := hv
  have hc := rd_cut hv' h1 (Nat.le_refl n) (Nat.le_refl cap) (by omega)
  rw [List.take_of_length_le (by rw [List.length_drop, hl, ← Nat.sub_mul]; exact Nat.le_refl _)] at hc
  refine wpQuiet_of_run hw (v := _) (fun w _ => ?_) (h _ hc)
  unfold execOp
  simp [ho, Instr.sliceAt, hx, hlo, run_underlying ht, Instr.slice, Instr.sliceBounds, Instr.sliceBound, asIntOf, sizeOf, typeInfo, hti, h1]
end
end Go.Proofs.YtdlhkhnoigbhjaaDoor.Lb
namespace Go.Proofs.YtdlhkhnoigbhjaaDoor.Pu
def gTree (l : List Int) : Tree := (gtree l 5 (0, 29)).1
end Go.Proofs.YtdlhkhnoigbhjaaDoor.Pu
namespace Go.Proofs.YtdlhkhnoigbhjaaDoor.Wi
open Go Go.RowKit Pu Lb
set_option linter.unusedSimpArgs false
set_option linter.unusedVariables false
set_option maxRecDepth 100000 in
theorem gtree0_any (l : List Int) (hl : ∀ x ∈ l, I64 x) (v : Value) (w : World) (hr : Rd w 1 v l.length (iv l)) :
    Calls Tryd.prog 10 #[v] w fun e w' => ∃ cs, e = .returned (.agg cs.toArray) ∧ IsTX (fun b => w.heap.size ≤ b) w' (gTree l) cs ∧ Below w.heap.size w w' := by
  have HL := Lib.hid hl
  obtain ⟨ad, cap, rfl⟩ : ∃ ad cap, v = .slice ad l.length cap := by obtain ⟨_, ad, cap, h, _⟩ := hr; exact ⟨ad, cap, h⟩
  go_enter Tryd.func10, Tryd.ntmps10
  go_upto_region 1 with (((with_reducible refine' wpList_alloc_blk (cs := nodz) 25 rfl ?_ zr_node ?_ ?_); exact rfl; exact nodz_cells; intro w1 kR hN1 hz1; simp only [Act.put, List.setIfInBounds_toArray, List.set_cons_succ, List.set_cons_zero]))
  have lR := kR.lt
  clear hz1
  go_upto_region 2 with (first
    | ((with_reducible refine' wpList_of_run (o := ⟨_, .build _ _, _, _, _, _⟩) (v := .agg #[.slice ad l.length cap, .int .i64 0, .int .i64 29]) (w' := w1) ?_ ?_ ?_); exact rfl; kernel_rfl; simp only [Act.put, List.setIfInBounds_toArray, List.set_cons_succ, List.set_cons_zero])
    | (((with_reducible refine' wpList_boxa (cs := [.slice ad l.length cap, .int .i64 0, .int .i64 29]) 66 (.tmp 5) rfl ?_ ?_ ?_); exact rfl; exact rfl; intro w2 kB hN2 hz2; simp only [Act.put, List.setIfInBounds_toArray, List.set_cons_succ, List.set_cons_zero])))
  have hb2 := hN1.trans (hN2.mono hN1.size)
  have hM : Mk w w2 w1.heap.size l (0, (29 : Int)).1 (0, (29 : Int)).2 := ⟨_, kB, hr, hN1.size, hb2⟩
  replace kR := kR.below hN2 lR
  have G5 : gcost 5 = 364 := by decide
  have BA := Lib.hid (show ((0, (29 : Int)) : GS).1 + 4 * gcost 5 ≤ 100000 by rw [G5]; decide)
  have BB := Lib.hid (show -100000 + (gcost 5 : Int) ≤ ((0, (29 : Int)) : GS).2 by rw [G5]; decide)
  have BC := Lib.hid (show ((0, (29 : Int)) : GS).2 ≤ 100000 by decide)
  clear G5 hz2
  go_wp2_with (first
    | ((go_at_call 46; (with_reducible refine (tree_any l HL.out w w1.heap.size 5 (0, 29) _ _ (by omega) (by omega) BA.out BB.out BC.out hM).mono ?_); rintro e w' ⟨cs, rfl, hT, hM2, hO⟩); have CL := Lib.hid hT.len; have CO := Lib.hid hT.isT.ones; replace kR := hO.blk kR (by omega))
    | ((with_reducible refine' wpList_store_blk (cs := cs) 25 (.tmp 2) (.tmp 8) rfl ?_ ?_ ?_ kR sz_node ?_ ?_ ?_ ?_); exact rfl; exact rfl; exact rfl; exact CL.out; exact rfl; exact CO.out; intro w4 k4 hO4 hz4; simp only [Act.put]))
  have s1 := hN1.size
  have s2 := hN2.size
  have hT4 := hT.only hO4 (fun b h => by omega)
  ((try simp only [Exit.inBlock, Exit.then]); refine bodyPost_ret (results_cell_row rfl _ _ _ _ _ _ _ rfl k4 Tryd.underlying25 rfl (by rw [sz_node]; simp [CL.out])) rfl ?_)
  exact ⟨cs, rfl, hT4.mono fun b h => by omega, (hb2.trans (hO.below s1 (by omega))).trans (hO4.below (Nat.le_refl _) (by have := hO.size; omega))⟩
end Go.Proofs.YtdlhkhnoigbhjaaDoor.Wi
namespace Go.Proofs.YtdlhkhnoigbhjaaDoor.Wi
open Go Go.RowKit Pu Lb
set_option linter.unusedSimpArgs false
set_option linter.unusedVariables false
/-- what At hands back -/
def AtR (X : Nat → Prop) (w' : World) (ds : List Value) (b : Bool) : Option Tree → Prop
  | some u => b = true ∧ IsTX X w' u ds
  | none => b = false ∧ ds = nodz
theorem AtR.len {X : Nat → Prop} {w' : World} {ds : List Value} {b : Bool} : ∀ {o : Option Tree}, AtR X w' ds b o → ds.length = 4
  | some _, h => h.2.len
  | none, h => by rw [h.2]; rfl
theorem AtR.ones {X : Nat → Prop} {w' : World} {ds : List Value} {b : Bool} : ∀ {o : Option Tree}, AtR X w' ds b o → ∀ u ∈ ds, u.oneCell' = true
  | some _, h => h.2.isT.ones
  | none, h => by rw [h.2]; exact node_ones rfl
theorem AtR.keep {X : Nat → Prop} {w w' : World} {ds : List Value} {b : Bool} (hk : Keep X w w') : ∀ {o : Option Tree}, AtR X w ds b o → AtR X w' ds b o
  | some _, h => ⟨h.1, h.2.keep hk⟩
  | none, h => h
theorem AtR.mono {X Y : Nat → Prop} {w : World} {ds : List Value} {b : Bool} (hk : ∀ b, X b → Y b) : ∀ {o : Option Tree}, AtR X w ds b o → AtR Y w ds b o
  | some _, h => ⟨h.1, h.2.mono hk⟩
  | none, h => h
theorem iv_cons (i : Int) (p : List Int) : iv (i :: p) = .int .i64 i :: iv p := rfl
set_option maxRecDepth 100000 in
theorem refat_any : ∀ (p : List Int) (X : Nat → Prop) (t : Tree) (cs : List Value) (v : Value) (w : World), IsTX X w t cs → Rd w 1 v p.length (iv p) →
    Calls Tryd.prog 29 #[.agg cs.toArray, v] w fun e w' => ∃ (ds : List Value) (b : Bool), e = .returned (.tuple #[.agg ds.toArray, .bool b]) ∧ AtR X w' ds b (tat p t) ∧ Below w.heap.size w w' := by
  intro p
  induction p with
  | nil =>
    intro X t cs v w hT hr
    have CL := Lib.hid hT.len
    have CO := Lib.hid hT.isT.ones
    rw [List.length_nil] at hr
    rw [tat]
    go_enter Tryd.func29, Tryd.ntmps29
    go_upto_region 1 with (first
      | (((with_reducible refine' wpList_boxa (cs := cs) 25 (.tmp 0) rfl ?_ ?_ ?_); exact rfl; exact rfl; intro w1 kA hN1 hz1; simp only [Act.put, List.setIfInBounds_toArray, List.set_cons_succ, List.set_cons_zero]))
      | (((with_reducible refine' wpList_alloc_blk (cs := nodz) 25 rfl ?_ zr_node ?_ ?_); exact rfl; exact nodz_cells; intro w2 kR hN2 hz2; simp only [Act.put, List.setIfInBounds_toArray, List.set_cons_succ, List.set_cons_zero])))
    have lA := kA.lt
    have lR := kR.lt
    replace kA := kA.below hN2 lA
    have hr2 := (hr.below hN1).below hN2
    have hT2 := (hT.below hN1).below hN2
    have hb2 := hN1.trans (hN2.mono hN1.size)
    have hs := hN1.size
    obtain ⟨R, hR⟩ : ∃ R, w1.heap.size = R := ⟨_, rfl⟩
    rw [hR] at kR ⊢
    have HR := Lib.hid hR
    clear hR hz1 hz2
    go_wp2_with (first | ((with_reducible refine' wpList_len_rd (.tmp 6) 22 rfl ?_ Tryd.underlying22 ?_ hr2 ?_); exact rfl; exact rfl; simp only [Act.put, List.setIfInBounds_toArray, List.set_cons_succ, List.set_cons_zero]) | ((with_reducible refine' wpList_loadst_blk (.tmp 2) 25 rfl ?_ Tryd.underlying25 ?_ sz_node ?_ kA ?_ ?_ ?_); exact rfl; exact rfl; exact rfl; exact CL.out; decide; simp only [Act.put, List.setIfInBounds_toArray, List.set_cons_succ, List.set_cons_zero]) | ((with_reducible refine' wpList_store_blk (cs := cs) 25 (.tmp 4) (.tmp 9) rfl ?_ ?_ ?_ kR sz_node ?_ ?_ ?_ ?_); exact rfl; exact rfl; exact rfl; exact CL.out; exact rfl; exact CO.out; intro w4 k4 hO4 hz4; simp only [Act.put]))
    have hb4 := hb2.trans (hO4.below (by have := HR.out; omega) (by have := hN2.size; omega))
    ((try simp only [Exit.inBlock, Exit.then]); refine bodyPost_ret (results_cell_row_tmp rfl _ _ _ _ _ _ _ rfl k4 Tryd.underlying25 rfl (by rw [sz_node]; simp [CL.out])) rfl ?_)
    have hT4 := ((hT.lt.below hN1).below hN2).only hO4 (fun b h => by have := h.2; have := HR.out; omega)
    exact ⟨cs, true, rfl, ⟨rfl, hT4.mono fun b h => h.1⟩, hb4⟩
  | cons i p ih =>
    intro X t cs v w hT hr
    obtain ⟨k, n, m, ts⟩ := t
    have CL := Lib.hid hT.len
    have CO := Lib.hid hT.isT.ones
    obtain ⟨vk, xs, rfl, hrk, hts⟩ := hT.lt.open_
    rw [List.length_cons, iv_cons] at hr
    have C0 := Lib.hid (show ((.int .i64 i :: iv p) : List Value)[0]? = some (.int .i64 i) from rfl)
    have X3 := Lib.hid (show ([.int .i64 k, .int .i64 n, .int .i64 m, vk] : List Value)[3]? = some vk from rfl)
    have hmx := hr.len
    unfold maxLen at hmx
    have IH := Lib.hid ih
    clear ih hT CL CO
    go_enter Tryd.func29, Tryd.ntmps29
    go_upto_region 1 with (first
      | (((with_reducible refine' wpList_boxa (cs := [.int .i64 k, .int .i64 n, .int .i64 m, vk]) 25 (.tmp 0) rfl ?_ ?_ ?_); exact rfl; exact rfl; intro w1 kA hN1 hz1; simp only [Act.put, List.setIfInBounds_toArray, List.set_cons_succ, List.set_cons_zero]))
      | (((with_reducible refine' wpList_alloc_blk (cs := nodz) 25 rfl ?_ zr_node ?_ ?_); exact rfl; exact nodz_cells; intro w2 kR hN2 hz2; simp only [Act.put, List.setIfInBounds_toArray, List.set_cons_succ, List.set_cons_zero])))
    have lA := kA.lt
    have lR := kR.lt
    replace kA := kA.below hN2 lA
    have hr2 := (hr.below hN1).below hN2
    have hrk2 := (hrk.keep (Keep.below hN1)).keep (Keep.below hN2)
    have hrd2 : Rd w2 4 vk ts.length xs := hrk2.1
    have hts2 := (hts.below hN1).below hN2
    have hb2 := hN1.trans (hN2.mono hN1.size)
    have hs := hN1.size
    obtain ⟨R, hR⟩ : ∃ R, w1.heap.size = R := ⟨_, rfl⟩
    rw [hR] at kR ⊢
    have HR := Lib.hid hR
    have hRw : w.heap.size ≤ R := by omega
    clear hR hz1 hz2 hr hrk hts hN1 hN2
    by_cases h1 : i < 0
    · have HS := Lib.hid (show tat (i :: p) (.mk k n m ts) = none by rw [tat, if_neg (by omega)])
      have L1 : decide (i < 0) = true := decide_eq_true h1
      clear h1
      go_wp2_with (first | ((with_reducible refine' wpList_len_rd (.tmp 6) 22 rfl ?_ Tryd.underlying22 ?_ hr2 ?_); exact rfl; exact rfl; simp only [Act.put, List.setIfInBounds_toArray, List.set_cons_succ, List.set_cons_zero]) | (refine wp_region_quiet_lit (by kernel_rfl) (by kernel_rfl) ?_; (repeat (first | ((with_reducible refine' wpQuiet_at1_rd (.tmp 10) (.const (.int .i64 0)) 22 rfl ?_ Tryd.underlying22 sz_int ?_ hr2 (0) ?_ ?_ ?_); exact rfl; exact rfl; (show (_ : Int) = _; omega); omega; simp only [Act.put, List.setIfInBounds_toArray, List.set_cons_succ, List.set_cons_zero]) | ((with_reducible refine' wpQuiet_load_rd (fun _ h => h) (.tmp 11) 3 rfl ?_ ld_int ?_ hr2 (C0.out) ?_); exact rfl; exact rfl; simp only [Act.put, List.setIfInBounds_toArray, List.set_cons_succ, List.set_cons_zero]) | ((with_reducible refine' wpQuiet_at1_rd (.tmp 15) (.const (.int .i64 0)) 22 rfl ?_ Tryd.underlying22 sz_int ?_ hr2 (0) ?_ ?_ ?_); exact rfl; exact rfl; (show (_ : Int) = _; omega); omega; simp only [Act.put, List.setIfInBounds_toArray, List.set_cons_succ, List.set_cons_zero]) | ((with_reducible refine' wpQuiet_load_rd (fun _ h => h) (.tmp 16) 3 rfl ?_ ld_int ?_ hr2 (C0.out) ?_); exact rfl; exact rfl; simp only [Act.put, List.setIfInBounds_toArray, List.set_cons_succ, List.set_cons_zero]) | ((with_reducible refine' wpQuietM_field (k := 0) (j := 3) (.tmp 2) 25 3 rfl ?_ fo_node_3 ?_ rfl ?_); exact rfl; rotate_left; exact rfl; simp only [Act.put, List.setIfInBounds_toArray, List.set_cons_succ, List.set_cons_zero]) | ((with_reducible refine' wpQuiet_load_blk (fun _ h => h) (.tmp 18) 23 rfl ?_ ld_nds ?_ kA (X3.out) ?_); exact rfl; exact rfl; simp only [Act.put, List.setIfInBounds_toArray, List.set_cons_succ, List.set_cons_zero]) | ((with_reducible refine' wpQuiet_len_rd (.tmp 19) 23 rfl ?_ Tryd.underlying23 ?_ hrd2 ?_); exact rfl; exact rfl; simp only [Act.put, List.setIfInBounds_toArray, List.set_cons_succ, List.set_cons_zero]) | go_big_quiet_step (fail))); refine wpQuiet_nil ?_; intro _ hw'; obtain ⟨nq, hw''⟩ := hw'; subst hw'') | ((with_reducible refine' wpList_store_blk (cs := nodz) 25 (.tmp 4) (.tmp 23) rfl ?_ ?_ ?_ (kR.drewN _) sz_node ?_ ?_ ?_ ?_); exact rfl; exact rfl; exact rfl; exact rfl; exact rfl; exact node_ones rfl; intro w4 k4 hO4 hz4; simp only [Act.put]))
      ((try simp only [Exit.inBlock, Exit.then]); refine bodyPost_ret (results_cell_row_tmp rfl _ _ _ _ _ _ _ rfl k4 Tryd.underlying25 rfl (by rw [sz_node]; rfl)) rfl ?_)
      rw [HS.out]
      exact ⟨nodz, false, rfl, ⟨rfl, rfl⟩, (below_drewN hb2 _).trans (hO4.below hRw (Nat.le_trans hb2.size (Nat.le_refl _)))⟩
    obtain ⟨j, rfl⟩ : ∃ j : Nat, i = (j : Int) := ⟨i.toNat, by omega⟩
    have L1 : decide ((j : Int) < 0) = false := decide_eq_false h1
    by_cases h2 : ts.length ≤ j
    · have HS := Lib.hid (show tat ((j : Int) :: p) (.mk k n m ts) = none by rw [tat, if_pos (by omega), Int.toNat_natCast, List.getElem?_eq_none h2]; rfl)
      have L2 : decide (ts.length ≤ j) = true := decide_eq_true h2
      clear h1 h2
      go_wp2_with (first | ((with_reducible refine' wpList_len_rd (.tmp 6) 22 rfl ?_ Tryd.underlying22 ?_ hr2 ?_); exact rfl; exact rfl; simp only [Act.put, List.setIfInBounds_toArray, List.set_cons_succ, List.set_cons_zero]) | (refine wp_region_quiet_lit (by kernel_rfl) (by kernel_rfl) ?_; (repeat (first | ((with_reducible refine' wpQuiet_at1_rd (.tmp 10) (.const (.int .i64 0)) 22 rfl ?_ Tryd.underlying22 sz_int ?_ hr2 (0) ?_ ?_ ?_); exact rfl; exact rfl; (show (_ : Int) = _; omega); omega; simp only [Act.put, List.setIfInBounds_toArray, List.set_cons_succ, List.set_cons_zero]) | ((with_reducible refine' wpQuiet_load_rd (fun _ h => h) (.tmp 11) 3 rfl ?_ ld_int ?_ hr2 (C0.out) ?_); exact rfl; exact rfl; simp only [Act.put, List.setIfInBounds_toArray, List.set_cons_succ, List.set_cons_zero]) | ((with_reducible refine' wpQuiet_at1_rd (.tmp 15) (.const (.int .i64 0)) 22 rfl ?_ Tryd.underlying22 sz_int ?_ hr2 (0) ?_ ?_ ?_); exact rfl; exact rfl; (show (_ : Int) = _; omega); omega; simp only [Act.put, List.setIfInBounds_toArray, List.set_cons_succ, List.set_cons_zero]) | ((with_reducible refine' wpQuiet_load_rd (fun _ h => h) (.tmp 16) 3 rfl ?_ ld_int ?_ hr2 (C0.out) ?_); exact rfl; exact rfl; simp only [Act.put, List.setIfInBounds_toArray, List.set_cons_succ, List.set_cons_zero]) | ((with_reducible refine' wpQuietM_field (k := 0) (j := 3) (.tmp 2) 25 3 rfl ?_ fo_node_3 ?_ rfl ?_); exact rfl; rotate_left; exact rfl; simp only [Act.put, List.setIfInBounds_toArray, List.set_cons_succ, List.set_cons_zero]) | ((with_reducible refine' wpQuiet_load_blk (fun _ h => h) (.tmp 18) 23 rfl ?_ ld_nds ?_ kA (X3.out) ?_); exact rfl; exact rfl; simp only [Act.put, List.setIfInBounds_toArray, List.set_cons_succ, List.set_cons_zero]) | ((with_reducible refine' wpQuiet_len_rd (.tmp 19) 23 rfl ?_ Tryd.underlying23 ?_ hrd2 ?_); exact rfl; exact rfl; simp only [Act.put, List.setIfInBounds_toArray, List.set_cons_succ, List.set_cons_zero]) | go_big_quiet_step (fail))); refine wpQuiet_nil ?_; intro _ hw'; obtain ⟨nq, hw''⟩ := hw'; subst hw'') | ((with_reducible refine' wpList_store_blk (cs := nodz) 25 (.tmp 4) (.tmp 23) rfl ?_ ?_ ?_ (kR.drewN _) sz_node ?_ ?_ ?_ ?_); exact rfl; exact rfl; exact rfl; exact rfl; exact rfl; exact node_ones rfl; intro w4 k4 hO4 hz4; simp only [Act.put]))
      ((try simp only [Exit.inBlock, Exit.then]); refine bodyPost_ret (results_cell_row_tmp rfl _ _ _ _ _ _ _ rfl k4 Tryd.underlying25 rfl (by rw [sz_node]; rfl)) rfl ?_)
      rw [HS.out]
      exact ⟨nodz, false, rfl, ⟨rfl, rfl⟩, (below_drewN hb2 _).trans (hO4.below hRw (Nat.le_trans hb2.size (Nat.le_refl _)))⟩
    · have hj : j < ts.length := by omega
      obtain ⟨u, hu⟩ := kid_at hj
      have HS := Lib.hid (tat_succ (p := p) (rfl : (Tree.mk k n m ts) = .mk k n m ts) hu)
      have L2 : decide (ts.length ≤ j) = false := decide_eq_false h2
      have hT := IsTsX.get hts2 hu
      obtain ⟨cs, hcs⟩ : ∃ cs, (xs.drop (j * 4)).take 4 = cs := ⟨_, rfl⟩
      rw [hcs] at hT
      have HC := Lib.hid hcs
      have BD := Lib.hid (show j * 4 + 4 ≤ xs.length by rw [hts2.len]; omega)
      clear h1 h2 hu hcs
      go_upto_region 5 with (first | ((with_reducible refine' wpList_len_rd (.tmp 6) 22 rfl ?_ Tryd.underlying22 ?_ hr2 ?_); exact rfl; exact rfl; simp only [Act.put, List.setIfInBounds_toArray, List.set_cons_succ, List.set_cons_zero]) | (refine wp_region_quiet_lit (by kernel_rfl) (by kernel_rfl) ?_; (repeat (first | ((with_reducible refine' wpQuiet_at1_rd (.tmp 10) (.const (.int .i64 0)) 22 rfl ?_ Tryd.underlying22 sz_int ?_ hr2 (0) ?_ ?_ ?_); exact rfl; exact rfl; (show (_ : Int) = _; omega); omega; simp only [Act.put, List.setIfInBounds_toArray, List.set_cons_succ, List.set_cons_zero]) | ((with_reducible refine' wpQuiet_load_rd (fun _ h => h) (.tmp 11) 3 rfl ?_ ld_int ?_ hr2 (C0.out) ?_); exact rfl; exact rfl; simp only [Act.put, List.setIfInBounds_toArray, List.set_cons_succ, List.set_cons_zero]) | ((with_reducible refine' wpQuiet_at1_rd (.tmp 15) (.const (.int .i64 0)) 22 rfl ?_ Tryd.underlying22 sz_int ?_ hr2 (0) ?_ ?_ ?_); exact rfl; exact rfl; (show (_ : Int) = _; omega); omega; simp only [Act.put, List.setIfInBounds_toArray, List.set_cons_succ, List.set_cons_zero]) | ((with_reducible refine' wpQuiet_load_rd (fun _ h => h) (.tmp 16) 3 rfl ?_ ld_int ?_ hr2 (C0.out) ?_); exact rfl; exact rfl; simp only [Act.put, List.setIfInBounds_toArray, List.set_cons_succ, List.set_cons_zero]) | ((with_reducible refine' wpQuietM_field (k := 0) (j := 3) (.tmp 2) 25 3 rfl ?_ fo_node_3 ?_ rfl ?_); exact rfl; rotate_left; exact rfl; simp only [Act.put, List.setIfInBounds_toArray, List.set_cons_succ, List.set_cons_zero]) | ((with_reducible refine' wpQuiet_load_blk (fun _ h => h) (.tmp 18) 23 rfl ?_ ld_nds ?_ kA (X3.out) ?_); exact rfl; exact rfl; simp only [Act.put, List.setIfInBounds_toArray, List.set_cons_succ, List.set_cons_zero]) | ((with_reducible refine' wpQuiet_len_rd (.tmp 19) 23 rfl ?_ Tryd.underlying23 ?_ hrd2 ?_); exact rfl; exact rfl; simp only [Act.put, List.setIfInBounds_toArray, List.set_cons_succ, List.set_cons_zero]) | go_big_quiet_step (fail))); refine wpQuiet_nil ?_; intro _ hw'; obtain ⟨nq, hw''⟩ := hw'; subst hw''))
      obtain ⟨w3, hw3⟩ : ∃ w3, w2.drewN nq = w3 := ⟨_, rfl⟩
      have hb23 : Below w2.heap.size w2 w3 := by rw [← hw3]; exact below_drewN (Below.refl _ _) nq
      rw [hw3]
      clear hw3
      have kA3 := kA.below hb23 kA.lt
      have kR3 := kR.below hb23 kR.lt
      have hr3 := hr2.below hb23
      have hrd3 := hrd2.below hb23
      have hT3 := hT.below hb23
      have hb3 := hb2.trans (hb23.mono hb2.size)
      clear kA kR hr2 hrd2 hrk2 hT hts2 hb2 hb23
      have h13 := hT3.below (Below.refl _ w3).drew
      (refine wp_region_steps (fun w' => Below w3.heap.size w3 w') [true, true, true, true, true, true, true, true, true, false, true, true] (by kernel_rfl) (by kernel_rfl) ((Below.refl _ _).drew) ?_; simp only [List.zip_cons_cons, List.zip_nil_left, List.zip_nil_right, List.length_cons, List.length_nil, Nat.reduceAdd, List.drop_succ_cons, List.drop_zero])
      (repeat (refine wpSteps_f ?_; (first | ((with_reducible refine' wpQuietM_field (k := 0) (j := 3) (.tmp 2) 25 3 rfl ?_ fo_node_3 ?_ rfl ?_); exact rfl; rotate_left; exact rfl; simp only [Act.put, List.setIfInBounds_toArray, List.set_cons_succ, List.set_cons_zero]) | ((with_reducible refine' wpQuietC_load_blk (cov_below _) (.tmp 24) 23 rfl ?_ ld_nds ?_ kA3 (X3.out) ?_); exact rfl; exact rfl; simp only [Act.put, List.setIfInBounds_toArray, List.set_cons_succ, List.set_cons_zero]) | ((with_reducible refine' wpQuiet_at1_rd (.tmp 26) (.const (.int .i64 0)) 22 rfl ?_ Tryd.underlying22 sz_int ?_ hr3 (0) ?_ ?_ ?_); exact rfl; exact rfl; (show (_ : Int) = _; omega); omega; simp only [Act.put, List.setIfInBounds_toArray, List.set_cons_succ, List.set_cons_zero]) | ((with_reducible refine' wpQuietC_load_rd (cov_below _) (.tmp 27) 3 rfl ?_ ld_int ?_ hr3 (C0.out) ?_); exact rfl; exact rfl; simp only [Act.put, List.setIfInBounds_toArray, List.set_cons_succ, List.set_cons_zero]) | ((with_reducible refine' wpQuiet_at_rd (.tmp 25) (.tmp 28) 23 rfl ?_ Tryd.underlying23 sz_node ?_ hrd3 (by decide) (j) ?_ ?_ ?_); exact rfl; exact rfl; (show (_ : Int) = _; omega); omega; simp only [Act.put, List.setIfInBounds_toArray, List.set_cons_succ, List.set_cons_zero]) | ((with_reducible refine' wpQuietC_load_st (cov_below _) (cp := cs) (.tmp 29) 25 rfl ?_ Tryd.underlying25 ?_ sz_node ?_ hrd3 ?_ ?_ HC.out ?_); exact rfl; exact rfl; exact rfl; exact BD.out; decide; simp only [Act.put, List.setIfInBounds_toArray, List.set_cons_succ, List.set_cons_zero]) | ((with_reducible refine' wpQuietC_from_rd (.tmp 31) (.const (.int .i64 1)) 22 rfl ?_ Tryd.underlying22 sz_int hr3 (1) ?_ ?_ ?_ ?_); exact rfl; exact rfl; (show (_ : Int) = _; omega); omega; intro v' hr5; simp only [Act.put, List.setIfInBounds_toArray, List.set_cons_succ, List.set_cons_zero]) | go_big_quiet_step (fail) | (go_big_quiet_want; go_big_quiet_op; refine ⟨_, fun _ _ => rfl, ?_⟩; go_big_quiet_on)); refine wpQuiet_nil ?_))
      have r5 : Rd w3.drew 1 v' p.length (iv p) := by
        rw [Nat.add_sub_cancel] at hr5
        simpa using hr5.below (Below.refl _ w3).drew
      refine wpSteps_o ?_
      go_wp2_with ((go_at_call 29; (with_reducible refine (IH.out _ u cs v' _ h13 r5).mono ?_); rintro e w' ⟨ds, b, rfl, hA, hN5⟩))
      have hN5' : Below w3.heap.size w3 w' := (Below.refl _ w3).drew.trans hN5
      have AL := Lib.hid hA.len
      have AO := Lib.hid hA.ones
      refine ⟨rfl, hN5', ?_⟩
      (repeat (refine wpSteps_f ?_; (first | fail | go_big_quiet_step (fail) | (go_big_quiet_want; go_big_quiet_op; refine ⟨_, fun _ _ => rfl, ?_⟩; go_big_quiet_on)); refine wpQuiet_nil ?_))
      refine wpSteps_nil ?_
      have hs3 := hb3.size
      go_wp2_with (((with_reducible refine' wpList_store_blk (cs := ds) 25 (.tmp 4) (.tmp 34) rfl ?_ ?_ ?_ (kR3.below hN5' kR3.lt) sz_node ?_ ?_ ?_ ?_); exact rfl; exact rfl; exact rfl; exact AL.out; exact rfl; exact AO.out; intro w8 k8 hO8 hz8; simp only [Act.put]))
      refine onlyN ?_
      go_wp2_with fail
      ((try simp only [Exit.inBlock, Exit.then]); refine bodyPost_ret (results_cell_row_tmp rfl _ _ _ _ _ _ _ rfl k8 Tryd.underlying25 rfl (by rw [sz_node]; simp [AL.out])) rfl ?_)
      rw [HS.out]
      exact ⟨ds, b, rfl, (hA.keep (Keep.only hO8 fun b h => by have := h.2; omega)).mono fun b h => h.1, (hb3.trans (hN5'.mono hs3)).trans (hO8.below hRw (by have := hN5'.size; omega))⟩
end Go.Proofs.YtdlhkhnoigbhjaaDoor.Wi
