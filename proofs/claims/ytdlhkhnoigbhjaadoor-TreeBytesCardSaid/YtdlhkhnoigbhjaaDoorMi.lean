/-
  Rg, Vc, Vd, Vi, Vp, Vq, Tli, Tdw, Tgz: my texts of these names, one behind the other. Conditions: those that each law names.
-/
import Derived.Test.YtdlhkhnoigbhjaaDoorMf
import Derived.RangeFuncLeaves
import Derived.RangeFuncSeq
import Derived.RangeFuncIn
import Derived.RangeFuncOwn
import Derived.RangeFuncCalls
import Derived.OrdersIn
import Derived.TacticsIn
import Derived.WalkLawsBesides
import Derived.Test.YtdlhkhnoigbhjaaDoorMg
import Derived.Laws.EntriesVeiled
import Derived.Test.YtdlhkhnoigbhjaaDoorMh
import Derived.Test.YtdlhkhnoigbhjaaDoorMc
import Derived.Test.YtdlhkhnoigbhjaaDoorMd
import Derived.Test.YtdlhkhnoigbhjaaDoorMe
namespace Go.Proofs.YtdlhkhnoigbhjaaDoor.Wi
open Go Go.RowKit Pu Lb
section
variable {P : Program} {ops : Array Oper} {Q : Exit → Act → World → Prop} {a : Act} {w : World} {o : Oper} {n : Nat}
/-! ### from the plain walk into a round's frame -/
theorem op_inRound (l : Nat) {K : Act → World → Prop} (hd : ∀ c, o.op ≠ .defer c) (h : o.wp P a w K Q) : o.wpIn (Fence.wide.inRound l) n P a w K Q := by
  refine ⟨fun _ _ => trivial, ?_⟩
  rw [Fence.inRound_round, Oper.semAt_some l _ _ hd]
  unfold Oper.wp at h
  generalize (execOp a.eval o).run P w = r at *
  cases r with
  | ok x w' =>
    cases x <;> simp only [Oper.upon] at h <;> simp only [Oper.uponIn]
    case value v => exact h
    case skip => exact h
    case defer d => exact h
    case enter f args =>
      refine ⟨fun hx => by simp [Fence.inRound, Fence.wide] at hx, CallsIn.mono (CallsIn.inRound l (callsIn_wide.2 h)) fun e w'' he => ?_⟩
      cases e <;> exact he
    case row row args =>
      refine ⟨fun hx => by simp [Fence.inRound, Fence.wide] at hx, fun c cs _ => ?_⟩
      obtain ⟨v, w'', h1, h2⟩ := h c cs
      exact ⟨v, w'', h1, (StepsIn.of_steps h2).mono fun m _ => fenced_wide P m⟩
  | halt x w' => cases x <;> simp only [Oper.upon] at h <;> simp only [Oper.uponIn] <;> exact h
theorem list_inRound (l : Nat) (hQ : ¬ LetsOut Q) : ∀ (rest : List Oper) (a : Act) (w : World), (∀ o ∈ rest, ∀ c, o.op ≠ .defer c) → wpList P ops Q rest a w → wpListIn (Fence.wide.inRound l) n P ops Q rest a w
  | [], a, w, _, h => by unfold wpList at h; unfold wpListIn; exact h
  | o :: rest, a, w, hd, h => by
    unfold wpList at h
    unfold wpListIn
    split
    · rename_i hw
      rw [if_pos hw] at h
      have h := h.resolve_right fun h => hQ h.2
      exact Oper.wpIn_mono (fun a w hh => list_inRound l hQ rest a w (fun o' h' => hd o' (by simp [h'])) hh) (op_inRound l (hd o (by simp)) h)
    · rename_i hw
      rw [if_neg hw] at h
      exact ⟨fun _ _ => trivial, list_inRound l hQ rest _ w (fun o' h' => hd o' (by simp [h'])) h⟩
def noDefer (o : Oper) : Bool := match o.op with | .defer _ => false | _ => true
theorem region_inRound (l : Nat) {id : Nat} {ls : List Oper} (hQ : ¬ LetsOut Q) (hd : ls.all noDefer = true) (h : wpList P ls.toArray Q ls a w) : (Code.region id ls.toArray false).wpIn (Fence.wide.inRound l) n P Q a w :=
  wpIn_region_lit (list_inRound l hQ ls a w (fun o ho c hc => by have := List.all_eq_true.1 hd o ho; simp [noDefer, hc] at this) h)
/-! ### what iterators and rounds promise each other -/
/-- the blocks that a round has after it, of those that it had (M), the place's (u) and new ones -/
def Sub (M M' : Nat → Prop) (u : Value) (n : Nat) (W W' : World) : Prop := ∀ b, M' b → M b ∨ (u.ownBlock = some b ∧ 0 < n) ∨ (W.heap.size ≤ b ∧ b < W'.heap.size)
/-- what is not in M lies as it lay -/
def Kept (M : Nat → Prop) (W W' : World) : Prop := W.heap.size ≤ W'.heap.size ∧ ∀ b, ¬ M b → b < W.heap.size → W'.heap[b]? = W.heap[b]?
theorem Kept.refl (M : Nat → Prop) (W : World) : Kept M W W := ⟨Nat.le_refl _, fun _ _ _ => rfl⟩
abbrev Inv := List (List Int) → (Nat → Prop) → World → Prop
/-- the caller's invariant abides steps that leave its blocks alone -/
def Firm (J : Inv) : Prop := ∀ pre M W W' r, J pre M W → W.grownBy W' r → (∀ b, r = some b → ¬ M b) → J pre M W'
/-- what a round promises, that was handed the place p in u -/
def RoundOk (J Jx : Inv) (pre : List (List Int)) (M : Nat → Prop) (p : List Int) (u : Value) (W : World) (e : Ending) (W' : World) : Prop :=
  ∃ M', Sub M M' u p.length W W' ∧ Kept M W W' ∧ ((e = .returned (.bool true) ∧ J (pre ++ [p]) M' W') ∨ (e = .returned (.bool false) ∧ Jx (pre ++ [p]) M' W'))
def Rounds (P : Program) (l : Nat) (J Jx : Inv) (N lo : Nat) : Prop :=
  ∀ pre M p u W, J pre M W → u.oneCell' = true → RdX (fun b => ¬ M b ∧ lo ≤ b) W 1 u p.length (iv p) → p.length ≤ 1000000 → pre.length < N → YieldAt Fence.wide 0 P l #[u] W (RoundOk J Jx pre M p u W)
/-- an iterator over places that reads the blocks D -/
def Iter (P : Program) (g : FuncId) (lb : Array Value) (ps : List (List Int)) (D : Nat → Prop) (W0 : World) : Prop :=
  ∀ (l : Nat) (J Jx : Inv) (M : Nat → Prop) (W : World), Keep D W0 W → W0.heap.size ≤ W.heap.size → (∀ b, M b → b < W.heap.size ∧ ¬ D b) → Firm J → Rounds P l J Jx ps.length W.heap.size → J [] M W →
    Calls P g (#[.func (.yield l) #[] #[]] ++ lb) W fun e W' => (∃ v, e = .returned v) ∧ Kept M W W' ∧ ((∃ M', J ps M' W') ∨ (∃ M' pre, pre <+: ps ∧ Jx pre M' W'))
/-! ### the statement -/
/-- how the body of a round may be left -/
def roundQ (I : Inv) (Ix : Code → Inv) (pre : List (List Int)) (M : Nat → Prop) (p : List Int) (u : Value) (W : World) : Exit → Act → World → Prop
  | .normal, _, W' => ∃ M', Sub M M' u p.length W W' ∧ Kept M W W' ∧ I (pre ++ [p]) M' W'
  | .ret, _, W' => ∃ M', Sub M M' u p.length W W' ∧ Kept M W W' ∧ Ix .ret (pre ++ [p]) M' W'
  | _, _, _ => False
theorem roundQ_out {I : Inv} {Ix : Code → Inv} {pre : List (List Int)} {M : Nat → Prop} {p : List Int} {u : Value} {W : World} : ¬ LetsOut (roundQ I Ix pre M p u W) := fun ⟨_, _, h⟩ => h
theorem putObj_grown (W : World) (l : Nat) (o : Obj) : W.grownBy (W.putObj l o) (some l) := grownBy_putObj' W l o
theorem wp_range {g : Operand} {pt : Tmp} {assign body : Code} {gf : FuncId} {lb : Array Value} (hg : a.eval g = .func (.func gf) #[] lb) (eg : ∀ args w, (callFunc gf args).run P w = .ok (.enter gf args) w)
    {ps : List (List Int)} {D : Nat → Prop} {W0 : World} (hit : Iter P gf lb ps D W0) (hD : ∀ b, D b → b < W0.heap.size) (hk0 : Keep D W0 w) (hs0 : W0.heap.size ≤ w.heap.size)
    (I : Inv) (Ix : Code → Inv) (M0 : Nat → Prop) (hM0 : ∀ b, M0 b → b < w.heap.size ∧ ¬ D b) (hI : Firm I) (hIx : ∀ c, Firm (Ix c)) (h0 : I [] M0 w) (a₁ : Value → Act)
    (hassign : ∀ (l : Nat) (u : Value) (W : World) (K : Act → World → Prop), K (a₁ u) W → assign.wpIn (Fence.wide.inRound l) 0 P (Exit.then K (fun _ _ _ => False)) { tmps := a.tmps.setIfInBounds pt u, defers := [] } W)
    (hbody : ∀ (l : Nat) pre M p u W, I pre M W → u.oneCell' = true → RdX (fun b => ¬ M b ∧ w.heap.size ≤ b) W 1 u p.length (iv p) → p.length ≤ 1000000 → (∀ b, M b → b < W.heap.size) → pre.length < ps.length → body.wpIn (Fence.wide.inRound l) 0 P (roundQ I Ix pre M p u W) (a₁ u) W)
    (hdone : ∀ M W, I ps M W → Kept M0 w W → ¬ M w.heap.size → W.heap[w.heap.size]? = some (.deferred (some [])) → Q .normal { a with defers := { target := .collected w.heap.size, args := #[] } :: a.defers } W)
    (hstop : ∀ c pre M W, pre <+: ps → Ix c pre M W → Kept M0 w W → ¬ M w.heap.size → W.heap[w.heap.size]? = some (.deferred (some [])) → c.wp P Q { a with defers := { target := .collected w.heap.size, args := #[] } :: a.defers } W) :
    (Code.rangeFunc g #[pt] assign body).wp P Q a w := by
  refine (wpIn_wide (n := 0)).1 (wpIn_rangeFunc ?_)
  intro fn _
  rw [Fence.wide_round]
  obtain ⟨rec, hrec⟩ : ∃ rec : LoopState → Option Code → Loop, rec = fun st pe => { state := st, pending := pe, fn, tmps := a.tmps, params := #[pt], assign, body, defers := w.heap.size } := ⟨_, rfl⟩
  obtain ⟨W1, hW1⟩ : ∃ W1, (w.alloc (.deferred (some []))).alloc (.loop (rec .ready none)) = W1 := ⟨_, rfl⟩
  have hL1 : W1.heap[w.heap.size + 1]? = some (.loop (rec .ready none)) := by
    rw [← hW1]; have := World.alloc_heap_new (w.alloc (.deferred (some []))) (.loop (rec .ready none)); rwa [World.size_alloc] at this
  have hK1 : W1.heap[w.heap.size]? = some (.deferred (some [])) := by
    rw [← hW1]; exact (Below.heap_alloc _ _ _ (by simp)).trans (World.alloc_heap_new w _)
  have hb1 : Below w.heap.size w W1 := by
    rw [← hW1]; exact ((Below.refl _ w).alloc (Nat.le_refl _) _).alloc (by simp) _
  have hsz : W1.heap.size = w.heap.size + 2 := by rw [← hW1]; simp
  obtain ⟨J, hJ⟩ : ∃ J : Inv, J = fun pre M W => ∃ MI, (∀ b, M b ↔ MI b ∨ b = w.heap.size ∨ b = w.heap.size + 1) ∧ ¬ MI w.heap.size ∧ ¬ MI (w.heap.size + 1) ∧ (∀ b, MI b → b < W.heap.size) ∧ I pre MI W ∧ W.heap[w.heap.size + 1]? = some (.loop (rec .ready none)) ∧ W.heap[w.heap.size]? = some (.deferred (some [])) := ⟨_, rfl⟩
  obtain ⟨Jx, hJx⟩ : ∃ J : Inv, J = fun pre M W => ∃ c MI, ¬ MI w.heap.size ∧ ¬ MI (w.heap.size + 1) ∧ Ix c pre MI W ∧ W.heap[w.heap.size + 1]? = some (.loop (rec .done (some c))) ∧ W.heap[w.heap.size]? = some (.deferred (some [])) := ⟨_, rfl⟩
  refine ⟨w.heap.size + 1, [{ target := .collected w.heap.size, args := #[] }], W1, { target := .fn (.func gf) lb, args := #[.func (.yield (w.heap.size + 1)) #[] #[]] }, W1, gf,
    #[.func (.yield (w.heap.size + 1)) #[] #[]] ++ lb, W1, ?_, ?_, ?_, ?_, fun hx => by simp [Fence.wide] at hx, ?_⟩
  · rw [← hW1, hrec]; exact run_enterLoop_outer _ _ _ _ _
  · simp only [resolve, hg]
    simp [go_sem]
  · intro f' _; trivial
  · simp [invoke, go_sem, eg]
  · refine callsIn_wide.2 ((hit (w.heap.size + 1) J Jx (fun b => M0 b ∨ b = w.heap.size ∨ b = w.heap.size + 1) W1 (fun b hb hl => (hb1.block b (by have := hD b hb; omega)).trans (hk0 b hb hl)) (by omega) ?_ ?_ ?_ ?_).mono ?_)
    · rintro b (h | h | h)
      · exact ⟨by have := (hM0 b h).1; omega, (hM0 b h).2⟩
      · exact ⟨by omega, fun hd => by have := hD b hd; omega⟩
      · exact ⟨by omega, fun hd => by have := hD b hd; omega⟩
    · subst hJ
      rintro pre M W W' r ⟨MI, h1, h2, h3, h4, h5, h6, h7⟩ hgr hr
      have hlt := (Array.getElem?_eq_some_iff.1 h6).1
      refine ⟨MI, h1, h2, h3, fun b hb => Nat.lt_of_lt_of_le (h4 b hb) hgr.size, hI _ _ _ _ _ h5 hgr fun b e hM => hr b e ((h1 b).2 (.inl hM)), ?_, ?_⟩
      · exact (hgr.block _ hlt fun e => hr _ e.symm ((h1 _).2 (.inr (.inr rfl)))).trans h6
      · exact (hgr.block _ (by omega) fun e => hr _ e.symm ((h1 _).2 (.inr (.inl rfl)))).trans h7
    · -- one round
      intro pre M p u W hj hu hr hp hpre
      subst hJ
      subst hJx
      obtain ⟨MI, h1, h2, h3, h4, h5, hl, hk⟩ := hj
      have hlt : w.heap.size + 1 < W.heap.size := (Array.getElem?_eq_some_iff.1 hl).1
      have hy := run_yield (P := P) (args := #[u]) hl (by rw [hrec]; rfl)
      rw [hrec] at hy
      refine ⟨fn, _, assign, body, hy, roundIn_of_wpIn trivial ?_⟩
      have has := hassign (w.heap.size + 1) u W
      simp only
      refine (Eq.mpr (congrArg (fun t => assign.wpIn (Fence.wide.inRound (w.heap.size + 1)) 0 P _ { tmps := t, defers := [] } W) (by simp)) (has _ ⟨_, run_beginRound hl (by rw [hrec]), ?_⟩))
      have hl2 : (W.putObj (w.heap.size + 1) (.loop { rec .ready none with state := .busy })).heap[w.heap.size + 1]? = some (.loop { rec .ready none with state := .busy }) := World.putObj_heap_same hlt
      have hk2 : (W.putObj (w.heap.size + 1) (.loop { rec .ready none with state := .busy })).heap[w.heap.size]? = some (.deferred (some [])) := (World.putObj_heap_other (by omega)).trans hk
      have hg2 := putObj_grown W (w.heap.size + 1) (.loop { rec .ready none with state := .busy })
      have hI2 := hI _ _ _ _ _ h5 hg2 fun b e hM => by cases e; exact h3 hM
      have hr2 : RdX (fun b => ¬ MI b ∧ w.heap.size ≤ b) (W.putObj (w.heap.size + 1) (.loop { rec .ready none with state := .busy })) 1 u p.length (iv p) :=
        (hr.keep (Keep.grown hg2 fun b hb e => by cases e; exact hb.1 ((h1 _).2 (.inr (.inr rfl))))).mono fun b hb => ⟨fun hM => hb.1 ((h1 b).2 (.inl hM)), by have := hb.2; omega⟩
      have hne : ∀ b, u.ownBlock = some b → 0 < p.length → b ≠ w.heap.size ∧ b ≠ w.heap.size + 1 := fun b hb hn => ⟨fun e => (hr.2 b hb hn).1 ((h1 b).2 (.inr (.inl e))), fun e => (hr.2 b hb hn).1 ((h1 b).2 (.inr (.inr e)))⟩
      refine wpIn_mono (hbody _ pre MI p u _ hI2 hu hr2 hp (fun b hb => by have := h4 b hb; simpa using this) hpre) ?_
      have hsz2 : (W.putObj (w.heap.size + 1) (.loop { rec .ready none with state := .busy })).heap.size = W.heap.size := by simp
      -- what holds behind the body
      have fin : ∀ (jump : Option Code) (M' : Nat → Prop) (W3 : World), Sub MI M' u p.length (W.putObj (w.heap.size + 1) (.loop { rec .ready none with state := .busy })) W3 → Kept MI (W.putObj (w.heap.size + 1) (.loop { rec .ready none with state := .busy })) W3 →
          (Instr.endRound (w.heap.size + 1) jump).run P W3 = .ok (.bool jump.isNone) (W3.putObj (w.heap.size + 1) (.loop (rec (if jump.isNone then .ready else .done) jump))) ∧
          ¬ M' w.heap.size ∧ ¬ M' (w.heap.size + 1) ∧
          (W3.putObj (w.heap.size + 1) (.loop (rec (if jump.isNone then .ready else .done) jump))).heap[w.heap.size + 1]? = some (.loop (rec (if jump.isNone then .ready else .done) jump)) ∧
          (W3.putObj (w.heap.size + 1) (.loop (rec (if jump.isNone then .ready else .done) jump))).heap[w.heap.size]? = some (.deferred (some [])) ∧
          Kept M W (W3.putObj (w.heap.size + 1) (.loop (rec (if jump.isNone then .ready else .done) jump))) := fun jump M' W3 hsub hkp => by
        have hl3 := (hkp.2 _ h3 (by rw [hsz2]; exact hlt)).trans hl2
        have hk3 := (hkp.2 _ h2 (by rw [hsz2]; omega)).trans hk2
        have hrun := run_endRound (P := P) jump hl3
        rw [hrec] at hrun ⊢
        refine ⟨hrun, fun h => ?_, fun h => ?_, World.putObj_heap_same (Array.getElem?_eq_some_iff.1 hl3).1, (World.putObj_heap_other (by omega)).trans hk3, ⟨?_, fun b hb hlb => ?_⟩⟩
        · rcases hsub _ h with h | ⟨h, hn⟩ | ⟨h, _⟩
          · exact h2 h
          · exact (hne _ h hn).1 rfl
          · rw [hsz2] at h; omega
        · rcases hsub _ h with h | ⟨h, hn⟩ | ⟨h, _⟩
          · exact h3 h
          · exact (hne _ h hn).2 rfl
          · rw [hsz2] at h; omega
        · have := hkp.1; simp only [hsz2] at this; simpa using this
        · have hbn : b ≠ w.heap.size + 1 := fun e => hb ((h1 b).2 (.inr (.inr e)))
          rw [World.putObj_heap_other hbn, hkp.2 b (fun h => hb ((h1 b).2 (.inl h))) (by rw [hsz2]; exact hlb), World.putObj_heap_other hbn]
      have big : ∀ (M' : Nat → Prop) (W3 : World) (ob : Obj), Sub MI M' u p.length (W.putObj (w.heap.size + 1) (.loop { rec .ready none with state := .busy })) W3 →
          Sub M (fun b => M' b ∨ b = w.heap.size ∨ b = w.heap.size + 1) u p.length W (W3.putObj (w.heap.size + 1) ob) := fun M' W3 ob hsub b hb => by
        rcases hb with h | h | h
        · rcases hsub b h with h | h | ⟨h, h'⟩
          · exact .inl ((h1 b).2 (.inl h))
          · exact .inr (.inl h)
          · exact .inr (.inr ⟨by rw [hsz2] at h; exact h, by simpa using h'⟩)
        · exact .inl ((h1 b).2 (.inr (.inl h)))
        · exact .inl ((h1 b).2 (.inr (.inr h)))
      have lt' : ∀ (M' : Nat → Prop) (W3 : World), Kept MI (W.putObj (w.heap.size + 1) (.loop { rec .ready none with state := .busy })) W3 → Sub MI M' u p.length (W.putObj (w.heap.size + 1) (.loop { rec .ready none with state := .busy })) W3 → ∀ b, M' b → b < W3.heap.size := fun M' W3 hkp hsub b hb => by
        have hsz3 := hkp.1
        rw [hsz2] at hsz3
        rcases hsub b hb with h | ⟨h, hn⟩ | ⟨_, h⟩
        · have := h4 b h; omega
        · obtain ⟨⟨hl, ad, cap, rfl, g1, g2, g3, g4⟩, _⟩ := hr
          obtain ⟨b', o', rfl, hc⟩ := g4 0 (iv p)[0] (List.getElem?_eq_getElem (by rw [hl]; omega))
          have hbb : b' = b := by simpa [Value.ownBlock] using h
          have hl5 : b' < W.heap.size := World.block_lt_of_cell? _ _ hc
          omega
        · exact h
      rintro e a3 W3 hp3
      cases e with
      | normal =>
        obtain ⟨M', hsub, hkp, hi3⟩ := hp3
        obtain ⟨hrun, n1, n2, hl4, hk4, hkp4⟩ := fin none M' W3 hsub hkp
        refine ⟨_, _, hrun, _, big M' W3 _ hsub, hkp4, .inl ⟨rfl, M', fun b => Iff.rfl, n1, n2, fun b hb => by simpa using lt' M' W3 hkp hsub b hb, hI _ _ _ _ _ hi3 (putObj_grown _ _ _) fun b e hM => by cases e; exact n2 hM, hl4, hk4⟩⟩
      | ret =>
        obtain ⟨M', hsub, hkp, hi3⟩ := hp3
        obtain ⟨hrun, n1, n2, hl4, hk4, hkp4⟩ := fin (some .ret) M' W3 hsub hkp
        exact ⟨_, _, hrun, _, big M' W3 _ hsub, hkp4, .inr ⟨rfl, .ret, M', n1, n2, hIx _ _ _ _ _ _ hi3 (putObj_grown _ _ _) fun b e hM => by cases e; exact n2 hM, hl4, hk4⟩⟩
      | exit id => exact hp3.elim
      | goto t => exact hp3.elim
      | panic ch => exact hp3.elim
      | outgrown => exact hp3.elim
    · subst hJ
      exact ⟨M0, fun b => Iff.rfl, fun h => by have := (hM0 _ h).1; omega, fun h => by have := (hM0 _ h).1; omega, fun b h => by have := (hM0 _ h).1; omega, hI _ _ _ _ none h0 (gb_below hb1) (fun b e => by cases e), hL1, hK1⟩
    · subst hJ
      subst hJx
      rintro e W2 ⟨⟨v, rfl⟩, hkp9, hres9⟩
      have hK9 : ∀ ob, Kept M0 w (W2.putObj (w.heap.size + 1) ob) := fun ob => ⟨by have := hkp9.1; simp; omega, fun b hb hl => (World.putObj_heap_other (by omega)).trans ((hkp9.2 b (fun h => h.elim hb (by omega)) (by omega)).trans (hb1.block b hl))⟩
      rcases hres9 with (⟨M', MI, h1, h2, h3, h4, h5, hl, hk⟩ | ⟨M', pre, hpre, c, MI, h2, h3, h5, hl, hk⟩)
      · refine ⟨none, _, by have := run_endLoop (P := P) hl (by rw [hrec]; simp); rw [hrec] at this; exact this, ?_⟩
        exact hdone MI _ (hI _ _ _ _ _ h5 (putObj_grown _ _ _) fun b e hM => by cases e; exact h3 hM) (hK9 _) h2 ((World.putObj_heap_other (by omega)).trans hk)
      · refine ⟨some c, _, by have := run_endLoop (P := P) hl (by rw [hrec]; simp); rw [hrec] at this; exact this, ?_⟩
        exact wpIn_wide.2 (hstop c pre MI _ hpre (hIx _ _ _ _ _ _ h5 (putObj_grown _ _ _) fun b e hM => by cases e; exact h3 hM) (hK9 _) h2 ((World.putObj_heap_other (by omega)).trans hk))
end
end Go.Proofs.YtdlhkhnoigbhjaaDoor.Wi
namespace Go.Proofs.YtdlhkhnoigbhjaaDoor.Wi
open Go Go.RowKit Pu Lb
set_option linter.unusedSimpArgs false
set_option linter.unusedVariables false
set_option maxRecDepth 100000 in
theorem clone_any (v : Value) (p : List Int) (w : World) (hr : Rd w 1 v p.length (iv p)) (hp : p.length ≤ 1000000) :
    Calls Tryd.prog 82 #[v] w fun e w' => ∃ u, e = .returned u ∧ u.oneCell' = true ∧ RdX (fun b => w.heap.size ≤ b) w' 1 u p.length (iv p) ∧ Below w.heap.size w w' := by
  obtain ⟨ad, cap, rfl⟩ : ∃ ad cap, v = .slice ad p.length cap := by obtain ⟨_, ad, cap, h, _⟩ := hr; exact ⟨ad, cap, h⟩
  cases ad with
  | none =>
    have hn : p.length = 0 := by
      obtain ⟨hl, ad, c, he, h1, h2, h3, _⟩ := hr
      cases he
      have := h3 rfl
      omega
    have HN := Lib.hid hn
    clear hn
    have he : ∀ w : World, (binOp .eql 22 (.slice none p.length cap) (.slice none 0 0)).run Tryd.prog w = .ok (.bool true) w := fun _ => rfl
    go_enter Tryd.func82, Tryd.ntmps82
    go_wp2_with fail
    go_ret
    have hp0 : p = [] := List.eq_nil_of_length_eq_zero HN.out
    subst hp0
    exact ⟨_, rfl, rfl, rdx_nil, Below.refl _ _⟩
  | some ad =>
    have he : ∀ w : World, (binOp .eql 22 (.slice (some ad) p.length cap) (.slice none 0 0)).run Tryd.prog w = .ok (.bool false) w := fun _ => rfl
    go_enter Tryd.func82, Tryd.ntmps82
    go_wp2_with (first | (((with_reducible refine' wpList_build_nil rfl ?_ Tryd.underlying22 sz_int ?_); exact rfl; intro v0 w7 o7 hN7; simp only [Act.put, List.setIfInBounds_toArray, List.set_cons_succ, List.set_cons_zero]); have hr7 := hr.below hN7; have s7 := hN7.size) | ((with_reducible refine' wpList_append_rd (.tmp 5) (.tmp 6) 22 rfl ?_ Tryd.underlying22 inf_int ?_ ?_ ?_ o7 ?_ hr7 (iv_ones _) ?_ ?_ s7 ?_); exact rfl; exact rfl; omega; exact rfl; exact rfl; (first | omega | (unfold maxLen; omega)); omega; intro v8 w8 o8 hb8; simp only [Act.put, List.setIfInBounds_toArray, List.set_cons_succ, List.set_cons_zero]))
    go_ret
    rw [Nat.zero_add, List.nil_append] at o8
    exact ⟨_, rfl, own_one o8, own_rdx o8, hN7.trans hb8⟩
/-! ### a call of yield -/
section
variable {P : Program} {ops : Array Oper} {Q : Exit → Act → World → Prop} {a : Act} {w w' : World} {o : Oper} {K : Act → World → Prop} {i : Nat}
theorem opIn_val {v : Value} (hi : ops[i]? = some o) (hg : o.guard = none) (hr : (execOp a.eval o).run P w = .ok (.value v) w') (h : K (a.put o.dst v) w') : wpOpIn Fence.wide 0 P ops Q i K a w := by
  unfold wpOpIn
  rw [hi]
  simp only [Region.wanted, hg, if_true]
  refine ⟨fun _ _ => trivial, ?_⟩
  rw [Fence.wide_round, Oper.semAt_none, hr]
  exact h
theorem opIn_call {f : FuncId} {args : Array Value} (hi : ops[i]? = some o) (hg : o.guard = none) (hr : (execOp a.eval o).run P w = .ok (.enter f args) w) (h : Calls P f args w fun e w' => ∃ v, e = .returned v ∧ K (a.put o.dst v) w') : wpOpIn Fence.wide 0 P ops Q i K a w := by
  unfold wpOpIn
  rw [hi]
  simp only [Region.wanted, hg, if_true]
  refine ⟨fun _ _ => trivial, ?_⟩
  rw [Fence.wide_round, Oper.semAt_none, hr]
  refine ⟨fun hx => by simp [Fence.wide] at hx, CallsIn.mono (callsIn_wide.2 h) fun e w'' he => ?_⟩
  obtain ⟨v, rfl, hk⟩ := he
  exact hk
theorem opIn_yield {l : Nat} {args : Array Value} {R : Ending → World → Prop} (hi : ops[i]? = some o) (hg : o.guard = none) (hy : YieldAt Fence.wide 0 P l args w R)
    (hr : ∀ fn tmps assign body, (Instr.yield l args).run P w = .ok (.round l fn tmps assign body) w → (execOp a.eval o).run P w = .ok (.round l fn tmps assign body) w) (h : ∀ e w', R e w' → ∃ v, e = .returned v ∧ K (a.put o.dst v) w') : wpOpIn Fence.wide 0 P ops Q i K a w := by
  obtain ⟨fn, tmps, assign, body, h1, h2⟩ := hy
  unfold wpOpIn
  rw [hi]
  simp only [Region.wanted, hg, if_true]
  refine ⟨fun _ _ => trivial, ?_⟩
  rw [Fence.wide_round, Oper.semAt_none, hr _ _ _ _ h1]
  refine ⟨fun hx => by simp [Fence.wide] at hx, RoundIn.mono h2 fun e w'' he => ?_⟩
  obtain ⟨v, rfl, hk⟩ := h e w'' he
  exact hk
theorem anyIn_step {md : Region.Mode} {fuel : Nat} {listed : Array Bool} {rs : List Nat} (hr : Region.ready md ops listed = rs) (hne : rs ≠ []) (h : ∀ i ∈ rs, wpOpIn Fence.wide 0 P ops Q i (wpAnyIn Fence.wide 0 P md ops Q fuel (listed.setIfInBounds i true)) a w) : wpAnyIn Fence.wide 0 P md ops Q (fuel + 1) listed a w := by
  refine ⟨fun h0 => absurd (hr.symm.trans h0) hne, fun i hi => h i (by rw [← hr]; exact hi)⟩
theorem anyIn_done {md : Region.Mode} {listed : Array Bool} (hr : Region.ready md ops listed = []) (h : Q .normal a w) : wpAnyIn Fence.wide 0 P md ops Q 0 listed a w := ⟨hr, h⟩
/-- the region 'if !yield(slices.Clone(path))': the load of yield, the copy, in whatever order; then the round -/
def yieldB (l : List Oper) : Bool :=
  decide (l.length = 5) && l.all (fun o => o.guard.isNone) &&
  decide (Region.ready .any l.toArray #[false, false, false, false, false] = [0, 1]) && decide (Region.ready .any l.toArray #[true, false, false, false, false] = [1]) && decide (Region.ready .any l.toArray #[false, true, false, false, false] = [0, 2]) &&
  decide (Region.ready .any l.toArray #[true, true, false, false, false] = [2]) && decide (Region.ready .any l.toArray #[false, true, true, false, false] = [0]) && decide (Region.ready .any l.toArray #[true, true, true, false, false] = [3]) &&
  decide (Region.ready .any l.toArray #[true, true, true, true, false] = [4]) && decide (Region.ready .any l.toArray #[true, true, true, true, true] = [])
theorem wp_region_yield {id : Nat} {o0 o1 o2 o3 o4 : Oper} {d0 d1 d2 d3 d4 : Tmp} (hm : P.follows .mixedOrders = true) (hB : yieldB [o0, o1, o2, o3, o4] = true)
    (e0 : o0.dst = some d0) (e1 : o1.dst = some d1) (e2 : o2.dst = some d2) (e3 : o3.dst = some d3) (e4 : o4.dst = some d4) (hne : d0 ≠ d1 ∧ d0 ≠ d2)
    (C : World → Prop) (hC : C w.drew) {v0 v1 : Value} {f : FuncId} {args : Array Value}
    (h0 : ∀ W x y, C W → (execOp a.eval o0).run P W = .ok (.value v0) W ∧ (execOp (a.put (some d1) x).eval o0).run P W = .ok (.value v0) W ∧ (execOp ((a.put (some d1) x).put (some d2) y).eval o0).run P W = .ok (.value v0) W)
    (h1 : ∀ W x, (execOp a.eval o1).run P W = .ok (.value v1) W ∧ (execOp (a.put (some d0) x).eval o1).run P W = .ok (.value v1) W)
    (h2 : ∀ W, (execOp (a.put (some d1) v1).eval o2).run P W = .ok (.enter f args) W ∧ (execOp ((a.put (some d1) v1).put (some d0) v0).eval o2).run P W = .ok (.enter f args) W)
    {S : Value → World → Prop} (hc : ∀ W, C W → Calls P f args W fun e W' => ∃ u, e = .returned u ∧ C W' ∧ S u W')
    {l : Nat} {R : Value → World → Ending → World → Prop} (hy : ∀ u W, S u W → YieldAt Fence.wide 0 P l #[u] W (R u W))
    (h3 : ∀ W u fn tmps assign body, (Instr.yield l #[u]).run P W = .ok (.round l fn tmps assign body) W → (execOp (((a.put (some d1) v1).put (some d2) u).put (some d0) v0).eval o3).run P W = .ok (.round l fn tmps assign body) W)
    (hb : ∀ u W e W', S u W → R u W e W' → ∃ b, e = .returned (.bool b))
    (h4 : ∀ W u b, (execOp ((((a.put (some d1) v1).put (some d2) u).put (some d0) v0).put (some d3) (.bool b)).eval o4).run P W = .ok (.value (.bool (!b))) W)
    (fin : ∀ u W b W', S u W → R u W (.returned (.bool b)) W' → Q .normal (((((a.put (some d1) v1).put (some d2) u).put (some d0) v0).put (some d3) (.bool b)).put (some d4) (.bool (!b))) W') :
    (Code.region id [o0, o1, o2, o3, o4].toArray true).wp P Q a w := by
  simp only [yieldB, Bool.and_eq_true, decide_eq_true_eq, List.all_cons, List.all_nil, Option.isNone_iff_eq_none] at hB
  obtain ⟨⟨⟨⟨⟨⟨⟨⟨⟨_, g0, g1, g2, g3, g4, _⟩, r0⟩, rA⟩, rB⟩, rC⟩, rD⟩, rE⟩, rF⟩, rG⟩ := hB
  have i0 : ([o0, o1, o2, o3, o4].toArray : Array Oper)[0]? = some o0 := rfl
  have i1 : ([o0, o1, o2, o3, o4].toArray : Array Oper)[1]? = some o1 := rfl
  have i2 : ([o0, o1, o2, o3, o4].toArray : Array Oper)[2]? = some o2 := rfl
  have i3 : ([o0, o1, o2, o3, o4].toArray : Array Oper)[3]? = some o3 := rfl
  have i4 : ([o0, o1, o2, o3, o4].toArray : Array Oper)[4]? = some o4 := rfl
  refine (wpIn_wide (n := 0)).1 (wpIn_region_any hm ?_)
  -- the three are done
  have tail : ∀ u W, S u W → wpAnyIn Fence.wide 0 P .any [o0, o1, o2, o3, o4].toArray Q 2 #[true, true, true, false, false] (((a.put (some d1) v1).put (some d2) u).put (some d0) v0) W := by
    intro u W hS
    refine anyIn_step rE (by simp) fun i hi => ?_
    obtain rfl : i = 3 := by simpa using hi
    refine opIn_yield i3 g3 (hy u W hS) (fun fn tmps assign body hh => h3 W u fn tmps assign body hh) fun e W' hR => ?_
    obtain ⟨b, rfl⟩ := hb u W e W' hS hR
    refine ⟨_, rfl, ?_⟩
    rw [e3]
    refine anyIn_step rF (by simp) fun i hi => ?_
    obtain rfl : i = 4 := by simpa using hi
    refine opIn_val i4 g4 (h4 W' u b) ?_
    rw [e4]
    exact anyIn_done rG (fin u W b W' hS hR)
  have c1 : ∀ x y, (a.put (some d0) x).put (some d1) y = (a.put (some d1) y).put (some d0) x := fun x y => (Act.put_comm a y x (by simpa using hne.1)).symm
  have c2 : ∀ x y z, ((a.put (some d1) y).put (some d0) x).put (some d2) z = ((a.put (some d1) y).put (some d2) z).put (some d0) x := fun x y z => (Act.put_comm _ z x (by simpa using hne.2)).symm
  -- the copy behind both
  have both : ∀ W, C W → wpAnyIn Fence.wide 0 P .any [o0, o1, o2, o3, o4].toArray Q 3 #[true, true, false, false, false] ((a.put (some d1) v1).put (some d0) v0) W := by
    intro W hCW
    refine anyIn_step rC (by simp) fun i hi => ?_
    obtain rfl : i = 2 := by simpa using hi
    refine opIn_call i2 g2 (h2 W).2 ((hc W hCW).mono fun e W' he => ?_)
    obtain ⟨u, rfl, _, hS⟩ := he
    refine ⟨u, rfl, ?_⟩
    rw [e2, c2]
    exact tail u W' hS
  refine anyIn_step (rs := [0, 1]) r0 (by simp) fun i hi => ?_
  have hi : i = 0 ∨ i = 1 := by simpa using hi
  rcases hi with rfl | rfl
  · refine opIn_val i0 g0 (h0 _ v0 v0 hC).1 ?_
    rw [e0]
    refine anyIn_step rA (by simp) fun i hi => ?_
    obtain rfl : i = 1 := by simpa using hi
    refine opIn_val i1 g1 (h1 _ v0).2 ?_
    rw [e1, c1]
    exact both _ hC
  · refine opIn_val i1 g1 (h1 _ v0).1 ?_
    rw [e1]
    refine anyIn_step (rs := [0, 2]) rB (by simp) fun i hi => ?_
    have hi : i = 0 ∨ i = 2 := by simpa using hi
    rcases hi with rfl | rfl
    · refine opIn_val i0 g0 (h0 _ v1 v0 hC).2.1 ?_
      rw [e0]
      exact both _ hC
    · refine opIn_call i2 g2 (h2 _).1 ((hc _ hC).mono fun e W' he => ?_)
      obtain ⟨u, rfl, hCW, hS⟩ := he
      refine ⟨u, rfl, ?_⟩
      rw [e2]
      refine anyIn_step rD (by simp) fun i hi => ?_
      obtain rfl : i = 0 := by simpa using hi
      refine opIn_val i0 g0 (h0 W' v1 u hCW).2.2 ?_
      rw [e0]
      exact tail u W' hS
end
end Go.Proofs.YtdlhkhnoigbhjaaDoor.Wi
namespace Go.Proofs.YtdlhkhnoigbhjaaDoor.Lb
open Go Go.RowKit Go.Lib Pu
/-- in its place, with its room; or elsewhere -/
def StayedC (w : World) (v v' : Value) (k : Nat) : Prop := (∃ g n cap, v = .slice (some ⟨g, 0, none⟩) n cap ∧ v' = .slice (some ⟨g, 0, none⟩) k cap) ∨ (v' = v ∧ v.ownBlock = none) ∨ v'.ownBlock = some w.heap.size
theorem StayedC.to {w : World} {v v' : Value} {k : Nat} (h : StayedC w v v' k) : Stayed w v v' := by
  rcases h with ⟨g, n, cap, rfl, rfl⟩ | ⟨rfl, h⟩ | h
  · exact .inl rfl
  · exact .inl rfl
  · exact .inr ⟨_, h, Nat.le_refl _⟩
theorem run_append_cap {P : Program} {w : World} (base : Nat) (t ty e : TypeId) (z : Value) (s bytes : Nat) (ht : P.underlying t = some (.slice e)) (hinfo : (P.info? e).map (fun i => (i.zero, i.size, i.bytes)) = some (some z, s, bytes)) (hzs : z.cells.size = s) (hs0 : 0 < s)
    {v : Value} {n : Nat} {xs : List Value} (hown : w.ownsRow base e s v n xs) {v2 : Value} {m : Nat} {ys : List Value} (hv : Rd w s v2 m ys) (h1 : ∀ u ∈ ys, u.oneCell' = true)
    (h63 : n + m ≤ maxLen) (hbytes : (n + m) * bytes ≤ 140737488355328) (hbase : base ≤ w.heap.size) :
    ∃ v' w', (Builtin.append_ #[t, t] ty #[v, v2]).run P w = .ok v' w' ∧ w'.ownsRow base e s v' (n + m) (xs ++ ys) ∧ w.grownBy w' v.ownBlock ∧ StayedC w v v' (n + m) ∧ (v'.ownBlock ≠ v.ownBlock → w.grownBy w' none) := by
  obtain ⟨i, hi, hz, hsz, hby⟩ := info_parts hinfo
  obtain ⟨hl, ad, cap2, rfl, g1, g2, g3, g4⟩ := hv
  cases ad with
  | some ad =>
    have hnews : ∀ j u, ys[j]? = some u → w.cell? (ad.add j) = some u := fun j u hu => by
      obtain ⟨b, of, hab, hc⟩ := g4 j u hu
      obtain rfl := Option.some.inj hab
      rw [Addr.add_lit]; exact hc
    obtain ⟨v', w', h2, h3, h4, h5, h6⟩ := run_append_own_at (P := P) w base t ty e i z s bytes ht hi hz hsz hby hzs hs0 v n xs hown ad m cap2 ys hl hnews h1 h63 hbytes hbase
    have hany : v.ownBlock = none → w.grownBy w' none := fun h => h ▸ h4
    refine ⟨v', w', h2, h3, h4, ?_⟩
    have hsmall : n + m ≤ 9223372036854775807 := by simp only [maxLen] at h63; omega
    subst hsz
    subst hby
    rcases hown.2 with ⟨rfl, rfl⟩ | ⟨g, cap, cur, rfl, hbg, hg, hnc, hcm, hcs, htake⟩
    · rcases h6 with h6 | h6
      · refine ⟨.inr (.inl ⟨?_, rfl⟩), fun _ => hany rfl⟩
        rcases h3.2 with ⟨h, _⟩ | ⟨g', cap', cur', rfl, _⟩
        · exact h
        · simp [Value.ownBlock] at h6
      · exact ⟨.inr (.inr h6), fun _ => hany rfl⟩
    · by_cases hroom : n + m ≤ cap
      · have hfit : n * i.size + ys.length ≤ cur.size := by rw [hl, hcs, ← Nat.add_mul]; exact Nat.mul_le_mul_right _ hroom
        have hr := run_append_room (P := P) w t ty e i ht hi g n cap cur hg ad m cap2 ys hl hnews h1 hroom hfit
        rw [h2] at hr
        injection hr with hr1 hr2
        exact ⟨.inl ⟨g, n, cap, rfl, hr1⟩, fun h => absurd (by rw [hr1]; rfl) h⟩
      · have holds : ∀ j u, xs[j]? = some u → w.cell? ((⟨g, 0, none⟩ : Addr).add j) = some u := hown.cells (g := g) rfl
        have hr := run_append_grow (P := P) w t ty e i z ht hi hz ⟨g, 0, none⟩ n cap xs hown.1 holds ad m cap2 ys hl hnews (by omega) (by omega) (growslice_fits (by omega) hbytes)
        rw [h2] at hr
        injection hr with hr1 hr2
        refine ⟨.inr (.inr (by rw [hr1]; rfl)), fun _ => ?_⟩
        rw [hr2]
        exact gb_below (((Below.refl _ w).drew).alloc (Nat.le_refl _) _)
  | none =>
    have hc0 : cap2 = 0 := g3 rfl
    subst hc0
    have hm : m = 0 := by omega
    subst hm
    have hy : ys = [] := List.eq_nil_of_length_eq_zero (by simpa using hl)
    subst hy
    have hrun := run_append_owned_none (P := P) w base t ty e i s ht hi v n xs hown
    refine ⟨v, w, hrun, by simpa using hown, World.grownBy.refl _ _, ?_, fun _ => World.grownBy.refl _ _⟩
    rcases hown.2 with ⟨rfl, rfl⟩ | ⟨g, cap, cur, rfl, _⟩
    · exact .inr (.inl ⟨rfl, rfl⟩)
    · exact .inl ⟨g, n, cap, rfl, rfl⟩
section
variable {P : Program} {ops : Array Oper} {Q : Exit → Act → World → Prop} {a : Act} {w : World} {rest : List Oper} {o : Oper}
theorem wpList_append_cap (x y : Operand) (t : TypeId) (ho : o.op = .call { callee := .builtin .append, args := #[x, y], argTypes := #[t, t] }) (hw : Region.wanted o (yielded ops a.tmps) = true)
    {e : TypeId} {z : Value} {s bytes : Nat} (ht : P.underlying t = some (.slice e)) (hinfo : (P.info? e).map (fun i => (i.zero, i.size, i.bytes)) = some (some z, s, bytes)) (hzs : z.cells.size = s) (hs0 : 0 < s)
    {v : Value} {n : Nat} {xs : List Value} {base : Nat} (hx : a.eval x = v) (hown : w.ownsRow base e s v n xs) {v2 : Value} {m : Nat} {ys : List Value} (hy : a.eval y = v2) (hv : Rd w s v2 m ys) (h1 : ∀ u ∈ ys, u.oneCell' = true)
    (h63 : n + m ≤ maxLen) (hbytes : (n + m) * bytes ≤ 140737488355328) (hbase : base ≤ w.heap.size)
    (h : ∀ v' w', w'.ownsRow base e s v' (n + m) (xs ++ ys) → w.grownBy w' v.ownBlock → StayedC w v v' (n + m) ∧ (v'.ownBlock ≠ v.ownBlock → w.grownBy w' none) → wpList P ops Q rest (a.put o.dst v') w') : wpList P ops Q (o :: rest) a w := by
  obtain ⟨v', w', hr, ho', hg, hst⟩ := run_append_cap (P := P) base t o.type e z s bytes ht hinfo hzs hs0 hown hv h1 h63 hbytes hbase
  refine wpList_of_run hw (v := v') (w' := w') ?_ (h v' w' ho' hg hst)
  unfold execOp
  simp only [ho, resolve, invoke, builtin, Sem.run_bind, Sem.run_pure, Result.andThen_ok, List.map_toArray, List.map_cons, List.map_nil, hx, hy, hr]
end
/-- the row is still there, whatever its longer part has become -/
theorem own_back {w w7 : World} {base : Nat} {e : TypeId} {s : Nat} {v v6 : Value} {n k : Nat} {xs ys : List Value} (hown : w.ownsRow base e s v n xs) (hst : StayedC w v v6 k) (h6 : w7.ownsRow base e s v6 k (xs ++ ys)) (hk : n ≤ k)
    (hkeep : ∀ g, v.ownBlock = some g → v6.ownBlock ≠ some g → w7.heap[g]? = w.heap[g]?) : w7.ownsRow base e s v n xs := by
  refine ⟨hown.1, ?_⟩
  rcases hown.2 with hn | ⟨g, cap, cur, rfl, hbg, hg, hnc, hcm, hcs, htake⟩
  · exact .inl hn
  · rcases hst with ⟨g', n', cap', hv, rfl⟩ | ⟨_, h⟩ | h
    · cases hv
      rcases h6.2 with ⟨h, _⟩ | ⟨g2, cap2, cur2, hv2, _, hg2, hnc2, _, hcs2, htake2⟩
      · cases h
      · cases hv2
        refine .inr ⟨g, cap, cur2, rfl, hbg, hg2, hnc, hcm, hcs2, ?_⟩
        have := congrArg (List.take (n * s)) htake2
        rw [List.take_take, Nat.min_eq_left (Nat.mul_le_mul_right _ hk)] at this
        rw [this, List.take_append_of_le_length (by rw [hown.1]; exact Nat.le_refl _), List.take_of_length_le (by rw [hown.1]; exact Nat.le_refl _)]
    · cases h
    · refine .inr ⟨g, cap, cur, rfl, hbg, ?_, hnc, hcm, hcs, htake⟩
      rw [hkeep g rfl (by rw [h]; intro e; cases e; have := (Array.getElem?_eq_some_iff.1 hg).1; omega)]; exact hg
end Go.Proofs.YtdlhkhnoigbhjaaDoor.Lb
namespace Go.Proofs.YtdlhkhnoigbhjaaDoor.Wi
open Go Go.RowKit Pu Lb
set_option linter.unusedSimpArgs false
set_option linter.unusedVariables false
def yieldV (l : Nat) : Value := .func (.yield l) #[] #[]
def visitV (Y V : Nat) : Value := .func (.func 81) #[] #[.pointer (some ⟨Y, 0, none⟩), .pointer (some ⟨V, 0, none⟩)]
/-- what does not lie in M, nor in v's block, lies as it lay -/
def KeptV (M : Nat → Prop) (v : Value) (W W' : World) : Prop := W.heap.size ≤ W'.heap.size ∧ ∀ b, b < W.heap.size → ¬ M b → v.ownBlock ≠ some b → W'.heap[b]? = W.heap[b]?
def MNew (M M' : Nat → Prop) (W W' : World) : Prop := ∀ b, M' b → (M b ∨ W.heap.size ≤ b) ∧ b < W'.heap.size
def VisR (J Jx : Inv) (pre : List (List Int)) (all : List (List Int)) (M : Nat → Prop) (base : Nat) (v : Value) (p : List Int) (W : World) (b : Bool) (W' : World) : Prop :=
  KeptV M v W W' ∧ W'.ownsRow base 3 1 v p.length (iv p) ∧ ((b = true ∧ ∃ M', J (pre ++ all) M' W' ∧ MNew M M' W W') ∨ (b = false ∧ ∃ M' q, q <+: pre ++ all ∧ Jx q M' W'))
def VisE (J Jx : Inv) (pre : List (List Int)) (all : List (List Int)) (M : Nat → Prop) (base : Nat) (v : Value) (p : List Int) (W : World) (e : Ending) (W' : World) : Prop := ∃ b, e = .returned (.bool b) ∧ VisR J Jx pre all M base v p W b W'
theorem ld_yf (ad : Addr) (u : Value) (w : World) (h : w.cell? ad = some u) : (loadVar 108 ad).run Tryd.prog w = .ok u w := load_one _ _ Tryd.underlying108 rfl ad u w h
theorem ld_vf (ad : Addr) (u : Value) (w : World) (h : w.cell? ad = some u) : (loadVar 109 ad).run Tryd.prog w = .ok u w := load_one _ _ Tryd.underlying109 rfl ad u w h
theorem KeptV.refl (M : Nat → Prop) (v : Value) (W : World) : KeptV M v W W := ⟨Nat.le_refl _, fun _ _ _ _ => rfl⟩
theorem KeptV.below {M : Nat → Prop} {v : Value} {W W' : World} (h : Below W.heap.size W W') : KeptV M v W W' := ⟨h.size, fun b hb _ _ => h.block b hb⟩
theorem KeptV.trans {M : Nat → Prop} {v : Value} {A B C : World} (h : KeptV M v A B) (k : KeptV M v B C) : KeptV M v A C := ⟨Nat.le_trans h.1 k.1, fun b hb hM hv => (k.2 b (Nat.lt_of_lt_of_le hb h.1) hM hv).trans (h.2 b hb hM hv)⟩
theorem KeptV.of_kept {M : Nat → Prop} {v : Value} {W W' : World} (h : Kept M W W') : KeptV M v W W' := ⟨h.1, fun b hb hM _ => h.2 b hM hb⟩
/-- with more blocks that may turn, all of them new -/
theorem KeptV.wider {M M2 : Nat → Prop} {v v2 : Value} {W A B : World} (hA : W.heap.size ≤ A.heap.size) (h : KeptV M2 v2 A B) (hM : ∀ b, M2 b → M b ∨ W.heap.size ≤ b) (hv : ∀ b, v2.ownBlock = some b → v.ownBlock = some b ∨ W.heap.size ≤ b) (hk : KeptV M v W A) : KeptV M v W B :=
  ⟨Nat.le_trans hA h.1, fun b hb hMb hvb => (h.2 b (Nat.lt_of_lt_of_le hb hA) (fun h2 => (hM b h2).elim hMb (fun h3 => by omega)) (fun h2 => (hv b h2).elim hvb (fun h3 => by omega))).trans (hk.2 b hb hMb hvb)⟩
theorem KeptV.keep {M E : Nat → Prop} {v : Value} {W W' : World} (h : KeptV M v W W') (hE : ∀ b, E b → ¬ M b ∧ v.ownBlock ≠ some b) : Keep E W W' := fun b hb hl => h.2 b hl (hE b hb).1 (hE b hb).2
theorem KeptV.own {M : Nat → Prop} {v : Value} {W W' : World} {base : Nat} {e : TypeId} {s : Nat} {u : Value} {n : Nat} {xs : List Value} (hown : W.ownsRow base e s u n xs) (h : KeptV M v W W') (hu : ∀ g, u.ownBlock = some g → ¬ M g ∧ v.ownBlock ≠ some g) : W'.ownsRow base e s u n xs := by
  refine ⟨hown.1, ?_⟩
  rcases hown.2 with hn | ⟨g, cap, cur, rfl, hb, hg, rest⟩
  · exact .inl hn
  · exact .inr ⟨g, cap, cur, rfl, hb, by rw [h.2 g (Array.getElem?_eq_some_iff.1 hg).1 (hu g rfl).1 (hu g rfl).2]; exact hg, rest⟩
theorem run_load_blk {P : Program} {ρ : Operand → Value} {o : Oper} {w : World} (p : Operand) (t : TypeId) (ho : o.op = .load t p) (hload : ∀ (ad : Addr) (u : Value) (w : World), w.cell? ad = some u → (loadVar t ad).run P w = .ok u w) {B k : Nat} {t' : TypeId} {cs : List Value} {u : Value} (hx : ρ p = .pointer (some ⟨B, k, none⟩)) (hb : Blk w B t' cs) (hk : cs[k]? = some u) :
    (execOp ρ o).run P w = .ok (.value u) w := by
  have := hload ⟨B, k, none⟩ u w (hb.cell hk)
  unfold execOp
  simp [ho, Instr.loadAt, hx, Instr.sureAddr, this]
theorem own_kept {M : Nat → Prop} {W W' : World} {base : Nat} {e : TypeId} {s : Nat} {u : Value} {n : Nat} {xs : List Value} (hown : W.ownsRow base e s u n xs) (h : Kept M W W') (hu : ∀ g, u.ownBlock = some g → ¬ M g) : W'.ownsRow base e s u n xs := by
  refine ⟨hown.1, ?_⟩
  rcases hown.2 with hn | ⟨g, cap, cur, rfl, hb, hg, rest⟩
  · exact .inl hn
  · exact .inr ⟨g, cap, cur, rfl, hb, by rw [h.2 g (hu g rfl) (Array.getElem?_eq_some_iff.1 hg).1]; exact hg, rest⟩
set_option maxRecDepth 100000 in
set_option maxHeartbeats 1600000 in
theorem visit_any {l Y V : Nat} {J Jx : Inv} {N lo : Nat} (hY : Rounds Tryd.prog l J Jx N lo) (hJ : Firm J) (E : Nat → Prop) (base : Nat) (hlo : lo ≤ base) (hE : ∀ b, E b → b < base) (hEY : E Y) (hEV : E V) :
    ∀ (t : Tree) (p : List Int) (pre : List (List Int)) (M : Nat → Prop) (cs : List Value) (v : Value) (W : World), IsTX E W t cs → p.length + tsize t ≤ 1000000 → W.ownsRow base 3 1 v p.length (iv p) → (∀ g, v.ownBlock = some g → ¬ M g) →
      Blk W Y 108 [yieldV l] → Blk W V 109 [visitV Y V] → (∀ b, M b → b < W.heap.size ∧ ¬ E b) → base ≤ W.heap.size → J pre M W → pre.length + tsize t ≤ N →
      Calls Tryd.prog 81 #[.agg cs.toArray, v, .pointer (some ⟨Y, 0, none⟩), .pointer (some ⟨V, 0, none⟩)] W fun e W' => VisE J Jx pre ((tpaths t).map (p ++ ·)) M base v p W e W' := by
  refine Tree.ind fun k n m ts ih => ?_
  intro p pre M cs v W hT hsz hown hvM kY kV hM hbase hj hN
  obtain ⟨vk, xs, rfl, hrk, hts⟩ := hT.open_
  have IH := Lib.hid ih
  clear ih hT
  rw [tsize] at hsz hN
  have hlen := tsizes_len ts
  have X3 := Lib.hid (show ([.int .i64 k, .int .i64 n, .int .i64 m, vk] : List Value)[3]? = some vk from rfl)
  have Y0 := Lib.hid (show ([yieldV l] : List Value)[0]? = some (.func (.yield l) #[] #[]) from rfl)
  have V0 := Lib.hid (show ([visitV Y V] : List Value)[0]? = some (.func (.func 81) #[] #[.pointer (some ⟨Y, 0, none⟩), .pointer (some ⟨V, 0, none⟩)]) from rfl)
  have hvE : ∀ b, E b → ¬ M b ∧ v.ownBlock ≠ some b := fun b hb => ⟨fun h => (hM b h).2 hb, fun h => by have := (hown.lt b h).1; have := hE b hb; omega⟩
  go_enter Tryd.func81, Tryd.ntmps81
  go_upto_region 1 with (((with_reducible refine' wpList_boxa (cs := [.int .i64 k, .int .i64 n, .int .i64 m, vk]) 25 (.tmp 0) rfl ?_ ?_ ?_); exact rfl; exact rfl; intro w1 kB hN1 hz1; simp only [Act.put, List.setIfInBounds_toArray, List.set_cons_succ, List.set_cons_zero]))
  have kY1 := kY.below hN1 kY.lt
  have lY1 := kY1.lt
  have hr1 := (Rd.of_own hown).below hN1
  have hpl : p.length ≤ 1000000 := by omega
  have hj1 : J pre M w1 := hJ _ _ _ _ none hj (gb_below hN1) (fun b e => by cases e)
  refine wp_region_yield (d0 := 9) (d1 := 10) (d2 := 11) (d3 := 12) (d4 := 13) (by kernel_rfl) (by kernel_rfl) rfl rfl rfl rfl rfl ⟨by decide, by decide⟩ (fun W' => Below w1.heap.size w1 W') ((Below.refl _ _).drew) (v0 := .func (.yield l) #[] #[]) (v1 := v) (f := 82) (args := #[v])
    (S := fun u W' => Below w1.heap.size w1 W' ∧ u.oneCell' = true ∧ RdX (fun b => w1.heap.size ≤ b) W' 1 u p.length (iv p)) (l := l) (R := fun u Wy e W' => RoundOk J Jx pre M p u Wy e W') ?h0 ?h1 ?h2 ?hc ?hy ?h3 ?hb ?h4 ?fin
  case h0 =>
    intro W' x y hC
    have kY2 := kY1.below hC lY1
    exact ⟨run_load_blk (.tmp 2) _ rfl ld_yf rfl kY2 Y0.out, run_load_blk (.tmp 2) _ rfl ld_yf rfl kY2 Y0.out, run_load_blk (.tmp 2) _ rfl ld_yf rfl kY2 Y0.out⟩
  case h1 => exact fun W' x => ⟨rfl, rfl⟩
  case h2 => exact fun W' => ⟨by simp [execOp, resolve, Deferred.ofValue, invoke, Act.eval, Act.put, go_sem], by simp [execOp, resolve, Deferred.ofValue, invoke, Act.eval, Act.put, go_sem]⟩
  case hc =>
    intro W' hC
    refine (clone_any v p W' (hr1.below hC) hpl).mono ?_
    rintro e W2 ⟨u, rfl, h1, h2, h3⟩
    have hb2 : Below w1.heap.size w1 W2 := hC.trans (h3.mono hC.size)
    exact ⟨u, rfl, hb2, hb2, h1, h2.mono fun b h => by have := hC.size; have h4 : W'.heap.size ≤ b := h; omega⟩
  case hy =>
    rintro u W' ⟨hb2, h1, h2⟩
    refine hY pre M p u W' (hJ _ _ _ _ none hj1 (gb_below hb2) (fun b e => by cases e)) h1 (h2.mono fun b h => ⟨fun hMb => ?_, ?_⟩) hpl (by omega)
    · have := (hM b hMb).1
      have := hN1.size
      have h4 : w1.heap.size ≤ b := h
      omega
    · have := hN1.size
      have h4 : w1.heap.size ≤ b := h
      omega
  case h3 =>
    intro W' u fn tmps assign body hh
    simp [execOp, resolve, Deferred.ofValue, invoke, Act.eval, Act.put, hh, go_sem]
  case hb =>
    rintro u W' e W2 _ ⟨M', _, _, h | h⟩
    · exact ⟨_, h.1⟩
    · exact ⟨_, h.1⟩
  case h4 => intro W' u b; cases b <;> rfl
  case fin =>
    rintro u Wy b W2 ⟨hby, hu1, hu2⟩ ⟨M', hsub, hkept, hres⟩
    simp only [Act.put, List.setIfInBounds_toArray, List.set_cons_succ, List.set_cons_zero]
    have hkv : Kept M w1 W2 := ⟨Nat.le_trans hby.size hkept.1, fun b hb hl => (hkept.2 b hb (Nat.lt_of_lt_of_le hl hby.size)).trans (hby.block b hl)⟩
    have hown2 : W2.ownsRow base 3 1 v p.length (iv p) := own_kept (own_below hown hN1) hkv hvM
    have hn2 : MNew M M' w1 W2 := fun b hb => by
      rcases hsub b hb with h | ⟨h, hn⟩ | h
      · exact ⟨.inl h, by have := (hM b h).1; have := hN1.size; have := hkv.1; omega⟩
      · exact ⟨.inr (hu2.2 b h hn), by have := (hu2.lt (by decide)).2 b h hn; have := hkept.1; omega⟩
      · exact ⟨.inr (Nat.le_trans hby.size h.1), h.2⟩
    have hM1 : ∀ b, M b → b < w1.heap.size := fun b h => by have := (hM b h).1; have := hN1.size; omega
    have hs1 := hN1.size
    have hgo : ∀ {W3 : World}, KeptV M v w1 W3 → KeptV M v W W3 := fun h => (KeptV.below hN1).trans (h.wider (Nat.le_refl _) (fun b h => .inl h) (fun b h => .inl h) (KeptV.refl M v w1))
    have hmo : ∀ {M3 : Nat → Prop} {W3 : World}, MNew M M3 w1 W3 → MNew M M3 W W3 := fun h b hb => ⟨(h b hb).1.imp id (fun h => by omega), (h b hb).2⟩
    cases b with
    | false =>
      rcases hres with ⟨h, _⟩ | ⟨_, hJx⟩
      · cases h
      go_wp2_with fail
      go_ret
      refine ⟨false, rfl, hgo (.of_kept hkv), hown2, .inr ⟨rfl, M', _, ?_, hJx⟩⟩
      rw [tpaths, List.map_cons, List.append_nil]
      exact ⟨_, by rw [List.append_assoc]; rfl⟩
    | true =>
      have hJ2 : J (pre ++ [p]) M' W2 := by
        rcases hres with ⟨_, h⟩ | ⟨h, _⟩
        · exact h
        · cases h
      have kB2 : Blk W2 W.heap.size 25 [.int .i64 k, .int .i64 n, .int .i64 m, vk] := by
        have h := hkv.2 W.heap.size (fun h => by have := (hM _ h).1; omega) (by omega)
        exact h.trans kB
      have hKE : Keep E w1 W2 := fun b hb hl => hkv.2 b (hvE b hb).1 hl
      have hr2 : Rd W2 4 vk ts.length xs := ((hrk.keep (Keep.below hN1)).keep hKE).1
      have hts2 := Lib.hid ((hts.below hN1).keep hKE)
      have kY2 : Blk W2 Y 108 [yieldV l] := (hkv.2 Y (hvE Y hEY).1 lY1).trans kY1
      have kV1 := kV.below hN1 kV.lt
      have kV2 : Blk W2 V 109 [visitV Y V] := (hkv.2 V (hvE V hEV).1 kV1.lt).trans kV1
      have XL := Lib.hid hts.len
      have hvL := hown.lt
      have HR1 := Lib.hid (hrk.keep (Keep.below hN1))
      have HT1 := Lib.hid (hts.below hN1)
      have KV1 := Lib.hid kV1
      have LV := Lib.hid kV1.lt
      clear hN1 hz1 hby hu1 hu2 hkept hsub hKE kB hj hj1 hown kY kV
      go_upto_region 4 with (first | ((with_reducible refine' wpList_field_blk (j := 3) (.tmp 4) 25 3 rfl ?_ fo_node_3 ?_ rfl ?_); exact rfl; exact rfl; simp only [Act.put, List.setIfInBounds_toArray, List.set_cons_succ, List.set_cons_zero]) | ((with_reducible refine' wpList_load_blk (.tmp 14) 23 rfl ?_ ld_nds ?_ kB2 (X3.out) ?_); exact rfl; exact rfl; simp only [Act.put, List.setIfInBounds_toArray, List.set_cons_succ, List.set_cons_zero]) | ((with_reducible refine' wpList_len_rd (.tmp 15) 23 rfl ?_ Tryd.underlying23 ?_ hr2 ?_); exact rfl; exact rfl; simp only [Act.put, List.setIfInBounds_toArray, List.set_cons_succ, List.set_cons_zero]))
      go_loopw [17] (fun i wr => ∃ (q : Nat) (M2 : Nat → Prop), q ≤ ts.length ∧ i = .int .i64 (q : Int) ∧ J (pre ++ ([p] ++ (tpathsF 0 (ts.take q)).map (p ++ ·))) M2 wr ∧ Hid (MNew M M2 w1 wr) ∧ Hid (KeptV M v w1 wr) ∧ wr.ownsRow base 3 1 v p.length (iv p)) (fun i _ => ts.length - (intOf i).toNat)
      case atStart => exact ⟨0, M', Nat.zero_le _, rfl, by rw [List.take_zero, tpathsF]; exact hJ2, Lib.hid hn2, Lib.hid (.of_kept hkv), hown2⟩
      case round =>
        obtain ⟨q, M2, hq, rfl, hj2, HMN, HKV, hownr⟩ := hrel
        obtain ⟨wo, rfl⟩ : ∃ wo : World, wo = wr := ⟨_, rfl⟩
        have hwo := HKV.out.1
        clear hkv hown2 hn2 hJ2 kY2 kV2 hr2 hts2 kB2 hres
        by_cases hlt : q < ts.length
        · obtain ⟨t, ht⟩ := kid_at hlt
          have hKo := HKV.out.keep hvE
          have hrq : Rd wo 4 vk ts.length xs := (HR1.out.keep hKo).1
          have hTq := (HT1.out.keep hKo).get ht
          obtain ⟨cs, hcs⟩ : ∃ cs, (xs.drop (q * 4)).take 4 = cs := ⟨_, rfl⟩
          rw [hcs] at hTq
          have HC := Lib.hid hcs
          have BD := Lib.hid (show q * 4 + 4 ≤ xs.length by rw [XL.out]; omega)
          have CL := Lib.hid hTq.len
          have CO := Lib.hid hTq.isT.ones
          clear hcs
          have kYo : Blk wo Y 108 [yieldV l] := (HKV.out.2 Y lY1 (hvE Y hEY).1 (hvE Y hEY).2).trans kY1
          have kVo : Blk wo V 109 [visitV Y V] := (HKV.out.2 V LV.out (hvE V hEV).1 (hvE V hEV).2).trans KV1.out
          go_upto_region 6 with (first
            | ((with_reducible refine' wpList_at_rd (.tmp 15) (.tmp 17) 23 rfl ?_ Tryd.underlying23 sz_node ?_ hrq (by decide) (q) ?_ ?_ ?_); exact rfl; exact rfl; (show (_ : Int) = _; omega); omega; simp only [Act.put, List.setIfInBounds_toArray, List.set_cons_succ, List.set_cons_zero]) | ((with_reducible refine' wpList_load_st (cp := cs) (.tmp 20) 25 rfl ?_ Tryd.underlying25 ?_ sz_node ?_ hrq ?_ ?_ HC.out ?_); exact rfl; exact rfl; exact rfl; exact BD.out; decide; simp only [Act.put, List.setIfInBounds_toArray, List.set_cons_succ, List.set_cons_zero])
            | (((with_reducible refine' wpList_alloc_blk (cs := nodz) 25 rfl ?_ zr_node ?_ ?_); exact rfl; exact nodz_cells; intro w3 k3 hN3 hz3; simp only [Act.put, List.setIfInBounds_toArray, List.set_cons_succ, List.set_cons_zero]))
            | (((with_reducible refine' wpList_store_blk (cs := cs) 25 (.tmp 8) (.tmp 21) rfl ?_ ?_ ?_ k3 sz_node ?_ ?_ ?_ ?_); exact rfl; exact rfl; exact rfl; exact CL.out; exact rfl; exact CO.out; intro w4 k4 hO4 hz4; simp only [Act.put])))
          obtain ⟨B8, hB8⟩ : ∃ B8, wo.heap.size = B8 := ⟨_, rfl⟩
          have hb4 : Below wo.heap.size wo w4 := hN3.trans (hO4.below (Nat.le_refl _) (Nat.le_of_lt k3.lt))
          rw [hB8] at k4
          simp only [hB8]
          have HB8 := Lib.hid hB8
          have l4 := k4.lt
          have hd4 : Below w4.heap.size w4 w4.drew := (Below.refl _ w4).drew
          have hb4d := hb4.trans (hd4.mono hb4.size)
          have kY4 : Blk w4.drew Y 108 [yieldV l] := kYo.below hb4d kYo.lt
          have kV4 : Blk w4.drew V 109 [visitV Y V] := kVo.below hb4d kVo.lt
          have k4d : Blk w4.drew B8 25 cs := k4
          have own4 := own_below hownr hb4d
          have hj4 := hJ _ _ _ _ none hj2 (gb_below hb4d) (fun b e => by cases e)
          have hT4 := hTq.below hb4d
          have hs4 : wo.heap.size < w4.drew.heap.size := by rw [hB8]; exact l4
          clear hz3 hz4 k3 hN3 hO4 hb4 hd4 hB8 hTq hrq kYo kVo hownr hj2 hKo k4 l4
          (refine wp_region_plan (fun w' => Blk w' V 109 [visitV Y V] ∧ Blk w' B8 25 cs) (.f 0 (.f 1 (.f 2 (.f 3 (.o 4 (.o 5 (.o 6 (.f 7 .tail)))))))) 8 (by kernel_rfl) (by kernel_rfl) (⟨kV4, k4d⟩) ?_)
          (repeat (refine wpPlan_f rfl ?_; (first | ((with_reducible refine' wpQuietH_load_blk (.tmp 3) 109 rfl ?_ ld_vf ?_ ((fun w' h => h.1)) (V0.out) ?_); exact rfl; exact rfl; simp only [Act.put, List.setIfInBounds_toArray, List.set_cons_succ, List.set_cons_zero]) | ((with_reducible refine' wpQuietH_loadst_blk (.tmp 8) 25 rfl ?_ Tryd.underlying25 ?_ sz_node ?_ ((fun w' h => h.2)) ?_ ?_ ?_); exact rfl; exact rfl; exact rfl; exact CL.out; decide; simp only [Act.put, List.setIfInBounds_toArray, List.set_cons_succ, List.set_cons_zero]) | go_big_quiet_step (fail) | (go_big_quiet_want; go_big_quiet_op; refine ⟨_, fun _ _ => rfl, ?_⟩; go_big_quiet_on)); refine wpQuiet_nil ?_))
          refine wpPlan_o rfl ?_
          go_wp2_with (((with_reducible refine' wpList_build_own (u := .int .i64 (q : Int)) (.tmp 25) 22 rfl ?_ Tryd.underlying22 inf_int ?_ ?_ ?_); exact rfl; exact rfl; exact rfl; intro v5 w5 o5 hN5 hz5; simp only [Act.put, List.setIfInBounds_toArray, List.set_cons_succ, List.set_cons_zero]))
          have kV5 := kV4.below hN5 kV4.lt
          have kB5 := k4d.below hN5 k4d.lt
          have kY5 := kY4.below hN5 kY4.lt
          have own5 := own_below own4 hN5
          have r5 := Rd.of_own o5
          have O5 : ∀ u ∈ ([.int .i64 (q : Int)] : List Value), u.oneCell' = true := iv_ones [(q : Int)]
          have hj5 := hJ _ _ _ _ none hj4 (gb_below hN5) (fun b e => by cases e)
          have hT5 := hT4.below hN5
          have hs5 := hN5.size
          have S5 : base ≤ w5.heap.size := by omega
          refine ⟨rfl, ⟨kV5, kB5⟩, ?_⟩
          refine wpPlan_o rfl ?_
          go_wp2_with (((with_reducible refine' wpList_append_cap (.tmp 24) (.tmp 26) 22 rfl ?_ Tryd.underlying22 inf_int ?_ ?_ ?_ own5 ?_ r5 O5 ?_ ?_ S5 ?_); exact rfl; exact rfl; omega; exact rfl; exact rfl; (first | omega | (unfold maxLen; omega)); omega; intro v6 w6 o6 hg6 hst6; simp only [Act.put, List.setIfInBounds_toArray, List.set_cons_succ, List.set_cons_zero]))
          have hMN := HMN.out
          have vM2 : ∀ g, v.ownBlock = some g → ¬ M2 g := fun g hg h => (hMN g h).1.elim (hvM g hg) (fun h => by have := (hvL g hg).2; omega)
          have v6c : ∀ g, v6.ownBlock = some g → v.ownBlock = some g ∨ w5.heap.size ≤ g := fun g hg => by
            rcases hst6.1 with ⟨g', n', cap', e1, e2⟩ | ⟨e1, _⟩ | e1
            · left; rw [e1]; rw [e2] at hg; exact hg
            · left; rw [← e1]; exact hg
            · right; rw [e1] at hg; cases hg; exact Nat.le_refl _
          have hs6 := hg6.size
          have hwo5 : wo.heap.size ≤ w5.heap.size := by omega
          have v6M : ∀ g, v6.ownBlock = some g → ¬ M2 g := fun g hg h => (v6c g hg).elim (fun hg => vM2 g hg h) (fun h5 => by have := (hMN g h).2; omega)
          have hM6 : ∀ b, M2 b → b < w6.heap.size ∧ ¬ E b := fun b hb => ⟨by have := (hMN b hb).2; omega, fun h => (hMN b hb).1.elim (fun h2 => (hM b h2).2 h) (fun h2 => by have := hE b h; omega)⟩
          have hj6 := hJ _ _ _ _ v.ownBlock hj5 hg6 vM2
          have kV6 : Blk w6 V 109 [visitV Y V] := kV5.grown hg6 (fun e => (hvE V hEV).2 e.symm)
          have kY6 : Blk w6 Y 108 [yieldV l] := kY5.grown hg6 (fun e => (hvE Y hEY).2 e.symm)
          have kB6 : Blk w6 B8 25 cs := kB5.grown hg6 (fun e => by have := (hvL B8 e.symm).2; have := HB8.out; omega)
          have hT6 := hT5.keep (Keep.grown hg6 fun b hb e => (hvE b hb).2 e.symm)
          have o6' : w6.ownsRow base 3 1 v6 (p ++ [(q : Int)]).length (iv (p ++ [(q : Int)])) := by simpa [iv] using o6
          have hmem := List.mem_of_getElem? ht
          have TK := tsizes_take ht
          have TP := tsizes_part ts (q + 1)
          have TF := tpathsF_take ht
          have hl2 : (pre ++ ([p] ++ (tpathsF 0 (ts.take q)).map (p ++ ·))).length = pre.length + (1 + tsizes (ts.take q)) := by simp [tpathsF_len]; omega
          have IHt := Lib.hid (IH.out t hmem (p ++ [(q : Int)]) _ M2 cs v6 w6 hT6 (by have := tsize_mem hmem; rw [List.length_append]; simp only [List.length_cons, List.length_nil]; omega) o6' v6M kY6 kV6 hM6 (by omega) hj6 (by rw [hl2]; omega))
          refine ⟨rfl, ⟨kV6, kB6⟩, ?_⟩
          refine wpPlan_o rfl ?_
          go_wp2_with ((go_at_call 81; (with_reducible refine (IHt.out).mono ?_); rintro e w' ⟨bb, rfl, hkv7, hown7, hres7⟩))
          have sv6 : KeptV M2 v6 w5 w6 := ⟨hs6, fun b hb _ hv => by
            by_cases hc : v6.ownBlock = v.ownBlock
            · exact hg6.block b hb (by rw [← hc]; exact fun e => hv e.symm)
            · exact (hst6.2 hc).block b hb (by simp)⟩
          have kv7 : KeptV M v w1 w' := KeptV.wider hwo (M2 := M2) (v2 := v6) ((KeptV.below (hb4d.trans (hN5.mono (by omega)))).trans (sv6.trans hkv7)) (fun b h => (hMN b h).1) (fun b h => (v6c b h).imp id (fun h => by omega)) HKV.out
          have hg5 : ∀ g, v.ownBlock = some g → g < w5.heap.size := fun g hg => by have := (hvL g hg).2; omega
          have own7 : w'.ownsRow base 3 1 v p.length (iv p) := own_back own5 hst6.1 (ys := [.int .i64 (q : Int)]) (by simpa [iv] using hown7) (by omega) (fun g hg hn => (hkv7.2 g (by have := hg5 g hg; omega) (vM2 g hg) hn).trans ((hst6.2 (fun h => hn (h.trans hg))).block g (hg5 g hg) (by simp)))
          have v6E : ∀ b, E b → v6.ownBlock ≠ some b := fun b hb h => (v6c b h).elim (hvE b hb).2 (fun h => by have := hE b hb; omega)
          have kV7 : Blk w' V 109 [visitV Y V] := (hkv7.2 V kV6.lt (fun h => (hM6 V h).2 hEV) (v6E V hEV)).trans kV6
          have kB7 : Blk w' B8 25 cs := (hkv7.2 B8 kB6.lt (fun h => by have := (hMN B8 h).2; have := HB8.out; omega) (fun h => (v6c B8 h).elim (fun h => by have := (hvL B8 h).2; have := HB8.out; omega) (fun h => by have := kB5.lt; omega))).trans kB6
          have PE : pre ++ ([p] ++ (tpathsF 0 (ts.take q)).map (p ++ ·)) ++ (tpaths t).map (p ++ [(q : Int)] ++ ·) = pre ++ ([p] ++ (tpathsF 0 (ts.take (q + 1))).map (p ++ ·)) := by
            rw [TF]; simp [List.append_assoc, Function.comp_def]
          have PX : pre ++ ([p] ++ (tpathsF 0 (ts.take (q + 1))).map (p ++ ·)) <+: pre ++ (tpaths (.mk k n m ts)).map (p ++ ·) := by
            have : tpathsF 0 ts = tpathsF 0 (ts.take (q + 1)) ++ tpathsF (0 + (ts.take (q + 1)).length) (ts.drop (q + 1)) := by rw [← tpathsF_app, List.take_append_drop]
            rw [tpaths, this]
            exact ⟨(tpathsF (0 + (ts.take (q + 1)).length) (ts.drop (q + 1))).map (p ++ ·), by simp⟩
          rw [PE] at hres7
          refine ⟨rfl, ⟨kV7, kB7⟩, ?_⟩
          refine wpPlan_f rfl ?_
          refine wpQuiet_of_run (v := .bool (!bb)) rfl (fun _ _ => rfl) ?_
          refine wpQuiet_nil ?_
          simp only [Act.put, List.setIfInBounds_toArray, List.set_cons_succ, List.set_cons_zero]
          refine wpPlan_tail ?_
          go_wp2_with fail
          refine onlyN ?_
          clear hkv7 sv6 hown7 o6 o6' hg6 hst6 o5 hN5 own5 r5 O5 hj5 hj6 hT5 hT6 kV6 kY6 kB6 kV5 kY5 kB5 v6c v6M hM6 v6E IHt PE hb4d kY4 kV4 k4d own4 hj4 hT4 hl2 kV7 kB7
          cases bb with
          | false =>
            rcases hres7 with ⟨h, _⟩ | ⟨_, M3, qs, hqs, hJx⟩
            · cases h
            go_wp2_with fail
            go_ret
            exact ⟨false, rfl, hgo kv7, own7, .inr ⟨rfl, M3, qs, hqs.trans PX, hJx⟩⟩
          | true =>
            rcases hres7 with ⟨_, M3, hJ3, hM3⟩ | ⟨h, _⟩
            · go_wp2_with fail
              go_roundw
              case rel => (first | exact ⟨q + 1, M3, by omega, by go_num, hJ3, Lib.hid (fun b hb => ⟨(hM3 b hb).1.elim (fun h => (hMN b h).1) (fun h => .inr (by omega)), (hM3 b hb).2⟩), Lib.hid kv7, own7⟩ | ((repeat apply Exists.intro); exact ⟨⟨q + 1, M3, by omega, by go_num, hJ3, Lib.hid (fun b hb => ⟨(hM3 b hb).1.elim (fun h => (hMN b h).1) (fun h => .inr (by omega)), (hM3 b hb).2⟩), Lib.hid kv7, own7⟩, rfl⟩))
              case measure => simp [intOf]; omega
            · cases h
        · obtain rfl : q = ts.length := by omega
          rw [List.take_length] at hj2
          go_wp2_with fail
          go_ret
          exact ⟨true, rfl, hgo HKV.out, hownr, .inl ⟨rfl, M2, by rw [tpaths]; simpa using hj2, hmo HMN.out⟩⟩
end Go.Proofs.YtdlhkhnoigbhjaaDoor.Wi
namespace Go.Proofs.YtdlhkhnoigbhjaaDoor.Wi
open Go Go.RowKit Pu Lb
set_option linter.unusedSimpArgs false
set_option linter.unusedVariables false
set_option maxRecDepth 100000 in
theorem iter_any (t : Tree) (cs : List Value) (T : Nat) (X : Nat → Prop) (W0 : World) (kT : Blk W0 T 25 cs) (hT : IsTX X W0 t cs) (hs : tsize t ≤ 1000000) :
    Iter Tryd.prog 80 #[.pointer (some ⟨T, 0, none⟩)] (tpaths t) (fun b => b = T ∨ X b) W0 := by
  intro l J Jx M W hK hsz hM hJ hR hj
  have CL := Lib.hid hT.len
  have CO := Lib.hid hT.isT.ones
  have hT0 := hT.lt
  have kT1 : Blk W T 25 cs := (hK T (.inl rfl) kT.lt).trans kT
  have hTW := hT0.keep (w' := W) (fun b hb hl => hK b (.inr hb.1) hl)
  show Calls _ _ #[.func (.yield l) #[] #[], .pointer (some ⟨T, 0, none⟩)] W _
  go_enter Tryd.func80, Tryd.ntmps80
  go_upto_region 3 with fail
  obtain ⟨w2, hw2⟩ : ∃ w2, w2 = ((W.alloc (.cells #[.func (.yield l) #[] #[]] 108)).alloc (.cells #[visitV W.heap.size (W.heap.size + 1)] 109)) := ⟨_, rfl⟩
  have hb2 : Below W.heap.size W w2 := by rw [hw2]; exact ((Below.refl _ W).alloc (Nat.le_refl _) _).alloc (by simp) _
  have kY : Blk w2 W.heap.size 108 [yieldV l] := by rw [hw2]; exact (Below.heap_alloc _ _ _ (by simp)).trans (World.alloc_heap_new W _)
  have kV : Blk w2 (W.heap.size + 1) 109 [visitV W.heap.size (W.heap.size + 1)] := by
    rw [hw2]; have := World.alloc_heap_new (W.alloc (.cells #[.func (.yield l) #[] #[]] 108)) (.cells #[visitV W.heap.size (W.heap.size + 1)] 109); rwa [World.size_alloc] at this
  have hz2 : w2.heap.size = W.heap.size + 2 := by rw [hw2]; simp
  have kT2 := kT1.below hb2 kT1.lt
  have lT := kT1.lt
  have hT2 := (hTW.below hb2).mono (Y := fun b => (X b ∧ b < W0.heap.size) ∨ b = W.heap.size ∨ b = W.heap.size + 1) fun b h => .inl h
  have hj2 := hJ _ _ _ _ none hj (gb_below hb2) (fun b e => by cases e)
  have V0 := Lib.hid (show ([visitV W.heap.size (W.heap.size + 1)] : List Value)[0]? = some (.func (.func 81) #[] #[.pointer (some ⟨W.heap.size, 0, none⟩), .pointer (some ⟨W.heap.size + 1, 0, none⟩)]) from rfl)
  have VIS := visit_any hR hJ (fun b => (X b ∧ b < W0.heap.size) ∨ b = W.heap.size ∨ b = W.heap.size + 1) w2.heap.size hb2.size (fun b h => by omega) (.inr (.inl rfl)) (.inr (.inr rfl)) t [] [] M cs (.slice none 0 0) w2 hT2 (by simpa using hs) ⟨by simp [iv], .inl ⟨rfl, rfl⟩⟩ (fun g h => by simp [Value.ownBlock] at h) kY kV
    (fun b hb => ⟨by have := (hM b hb).1; omega, fun h => h.elim (fun h => (hM b hb).2 (.inr h.1)) (fun h => by have := (hM b hb).1; omega)⟩) (Nat.le_refl _) hj2 (by rw [tpaths_len]; simp)
  change Code.wp _ _ _ _ ((W.alloc (.cells #[.func (.yield l) #[] #[]] 108)).alloc (.cells #[visitV W.heap.size (W.heap.size + 1)] 109))
  rw [← hw2]
  clear hw2 hz2 kY hT2 hj2
  go_wp2_with (first
    | ((with_reducible refine' wpList_load_blk (.tmp 3) 109 rfl ?_ ld_vf ?_ kV (V0.out) ?_); exact rfl; exact rfl; simp only [Act.put, List.setIfInBounds_toArray, List.set_cons_succ, List.set_cons_zero]) | ((with_reducible refine' wpList_loadst_blk (.tmp 1) 25 rfl ?_ Tryd.underlying25 ?_ sz_node ?_ kT2 ?_ ?_ ?_); exact rfl; exact rfl; exact rfl; exact CL.out; decide; simp only [Act.put, List.setIfInBounds_toArray, List.set_cons_succ, List.set_cons_zero])
    | ((go_at_call 81; (with_reducible refine (VIS).mono ?_); rintro e w' ⟨bb, rfl, hkv7, hown7, hres7⟩)))
  refine bodyPost_end (results_none rfl _ _ _) rfl ?_
  refine ⟨⟨_, rfl⟩, ⟨Nat.le_trans hb2.size hkv7.1, fun b hb hl => (hkv7.2 b (Nat.lt_of_lt_of_le hl hb2.size) hb (fun h => by simp [Value.ownBlock] at h)).trans (hb2.block b hl)⟩, ?_⟩
  have hmap : (tpaths t).map (([] : List Int) ++ ·) = tpaths t := by simp
  rw [hmap, List.nil_append] at hres7
  rcases hres7 with ⟨_, M', h, _⟩ | ⟨_, M', q, hq, h⟩
  · exact .inl ⟨M', h⟩
  · exact .inr ⟨M', q, hq, h⟩
set_option maxRecDepth 100000 in
/-- places answers the iterator -/
theorem places_any (t : Tree) (cs : List Value) (w : World) (hT : IsT w t cs) (hs : tsize t ≤ 1000000) :
    Calls Tryd.prog 58 #[.agg cs.toArray] w fun e w' => ∃ T, e = .returned (.func (.func 80) #[] #[.pointer (some ⟨T, 0, none⟩)]) ∧ T = w.heap.size ∧
      Iter Tryd.prog 80 #[.pointer (some ⟨T, 0, none⟩)] (tpaths t) (fun b => b = T ∨ True ∧ b < w.heap.size) w' ∧ Below w.heap.size w w' ∧ T < w'.heap.size := by
  go_enter Tryd.func58, Tryd.ntmps58
  go_wp2_with (((with_reducible refine' wpList_boxa (cs := cs) 25 (.tmp 0) rfl ?_ ?_ ?_); exact rfl; exact rfl; intro w1 kA hN1 hz1; simp only [Act.put, List.setIfInBounds_toArray, List.set_cons_succ, List.set_cons_zero]))
  go_ret
  exact ⟨_, rfl, rfl, iter_any t cs _ _ w1 kA (hT.isTX.lt.below hN1) hs, hN1, kA.lt⟩
end Go.Proofs.YtdlhkhnoigbhjaaDoor.Wi
namespace Go.Proofs.YtdlhkhnoigbhjaaDoor.Wi
open Go Go.RowKit Pu Lb
set_option linter.unusedSimpArgs false
set_option linter.unusedVariables false
theorem calls_of_marks {P : Program} {f : FuncId} {fn : Func} {c : Code} {args : Array Value} {w : World} {R : Ending → World → Prop} (hf : P.funcs[f]? = some fn) (hb : fn.body = some c)
    (h : c.wp P (bodyPostM Fence.wide 0 P fn R) { tmps := args ++ Array.replicate (fn.ntmps - args.size) undef, defers := [] } w) : Calls P f args w R := callsIn_wide.1 (callsIn_of_wp_marks hf hb trivial (wpIn_wide.2 h))
/-- the end behind a range over a function: its mark holds nothing -/
theorem bodyPostM_mark {P : Program} {fn : Func} {R : Ending → World → Prop} {a : Act} {w : World} {b : Nat} {v : Value} {tmps : Array Value} {e : Exit} (he : e = .ret ∨ e = .normal) (ht : a.tmps = tmps) (hd : a.defers = [{ target := .collected b, args := #[] }]) (hk : w.heap[b]? = some (.deferred (some [])))
    (hr : (results fn tmps).run P (w.putObj b (.deferred none)) = .ok v (w.putObj b (.deferred none))) (hR : R (.returned v) (w.putObj b (.deferred none))) : bodyPostM Fence.wide 0 P fn R e a w := by
  subst ht
  have h : LeavesInM Fence.wide 0 P fn a.tmps R a.defers .returning w := by rw [hd]; exact ⟨by simp, .inl ⟨_, _, rfl, run_takeDeferred hk, _, hr, hR⟩⟩
  rcases he with rfl | rfl <;> exact h
theorem bodyPostM_ret {P : Program} {fn : Func} {R : Ending → World → Prop} {a : Act} {w : World} {v : Value} {tmps : Array Value} (ht : a.tmps = tmps) (hd : a.defers = []) (hr : (results fn tmps).run P w = .ok v w) (hR : R (.returned v) w) : bodyPostM Fence.wide 0 P fn R .ret a w := by
  subst ht
  show LeavesInM Fence.wide 0 P fn a.tmps R a.defers .returning w
  rw [hd]; exact ⟨_, hr, hR⟩
theorem sz_ps : (Tryd.prog.info? 36).map (·.size) = some 1 := by kernel_rfl
theorem ld_ps (ad : Addr) (u : Value) (w : World) (h : w.cell? ad = some u) : (loadVar 36 ad).run Tryd.prog w = .ok u w := load_one _ _ Tryd.underlying36 rfl ad u w h
theorem ps_add {W w3 w4 w5 : World} {Bx : Nat} {M M' : Nat → Prop} {v v' u : Value} {pre : List (List Int)} {vs : List Value} {p : List Int} (HP : IsPs (fun b => (M b ∧ Bx ≤ b) ∧ v.ownBlock ≠ some b ∧ b ≠ Bx) W pre vs) (hN : Below W.heap.size W w3) (hg : w3.grownBy w4 v.ownBlock) (hst : Stayed w3 v v') (hO : Only Bx w4 w5)
    (hu1 : u.oneCell' = true) (hu : RdX (fun b => ¬ M b ∧ Bx ≤ b) W 1 u p.length (iv p)) (hB : M Bx) (hv : ∀ g, v.ownBlock = some g → M g) (hM' : ∀ b, M b ∨ (u.ownBlock = some b ∧ 0 < p.length) → M' b) :
    IsPs (fun b => (M' b ∧ Bx ≤ b) ∧ v'.ownBlock ≠ some b ∧ b ≠ Bx) w5 (pre ++ [p]) (vs ++ [u]) := by
  have hu' : RdX (fun b => (u.ownBlock = some b ∧ 0 < p.length ∧ ¬ M b) ∧ Bx ≤ b) W 1 u p.length (iv p) := ⟨hu.1, fun b hb hn => ⟨⟨hb, hn, (hu.2 b hb hn).1⟩, (hu.2 b hb hn).2⟩⟩
  have h1 : IsPs (fun b => ((M' b ∧ Bx ≤ b) ∧ v.ownBlock ≠ some b ∧ b ≠ Bx) ∧ b < W.heap.size) W pre vs := HP.lt.mono fun b h => ⟨⟨⟨hM' b (.inl h.1.1.1), h.1.1.2⟩, h.1.2⟩, h.2⟩
  have h2 : IsPs (fun b => ((M' b ∧ Bx ≤ b) ∧ v.ownBlock ≠ some b ∧ b ≠ Bx) ∧ b < W.heap.size) W [p] [u] := (IsPs.one hu1 hu').lt.mono fun b h => ⟨⟨⟨hM' b (.inr ⟨h.1.1.1, h.1.1.2.1⟩), h.1.2⟩, fun hv' => h.1.1.2.2 (hv b hv'), fun e => h.1.1.2.2 (e ▸ hB)⟩, h.2⟩
  have h3 := (((h1.app h2).below hN).keep (Keep.grown hg fun b h e => h.1.2.1 e.symm)).keep (Keep.only hO fun b h => h.1.2.2)
  exact h3.mono fun b h => ⟨h.1.1, fun e => hst.ne (fun e2 => h.1.2.1 e2.symm) (by have := hN.size; omega) e.symm, h.1.2.2⟩
/-- what AppendSeq's rounds keep -/
def SeqI (Bx : Nat) (w1 : World) : Inv := fun pre M W => ∃ v vs, Blk W Bx 36 [v] ∧ W.ownsRow (Bx + 1) 22 1 v pre.length vs ∧ IsPs (fun b => (M b ∧ Bx ≤ b) ∧ v.ownBlock ≠ some b ∧ b ≠ Bx) W pre vs ∧ M Bx ∧ (∀ g, v.ownBlock = some g → M g) ∧ (W.os = w1.os ∧ W.tape = w1.tape ∧ W.output = w1.output) ∧ w1.heap.size ≤ W.heap.size
theorem SeqI.firm (Bx : Nat) (w1 : World) : Firm (SeqI Bx w1) := by
  rintro pre M W W' r ⟨v, vs, h1, h2, h3, h4, h5, ⟨h6, h7, h8⟩, h9⟩ hg hr
  refine ⟨v, vs, h1.grown hg (fun e => hr Bx e.symm h4), own_grown h2 hg (fun b hb e => hr b e.symm (h5 b hb)), h3.keep (Keep.grown hg fun b h e => hr b e.symm h.1.1), h4, h5, ⟨hg.os.trans h6, hg.tape.trans h7, hg.output.trans h8⟩, Nat.le_trans h9 hg.size⟩
set_option maxRecDepth 100000 in
theorem appendSeq_any (gf : FuncId) (lb : Array Value) (ps : List (List Int)) (D : Nat → Prop) (W0 w : World) (eg : ∀ args w, (callFunc gf args).run Tryd.prog w = .ok (.enter gf args) w) (hit : Iter Tryd.prog gf lb ps D W0) (hD : ∀ b, D b → b < W0.heap.size) (hk0 : Keep D W0 w) (hs0 : W0.heap.size ≤ w.heap.size) (hlen : ps.length ≤ 1000000) :
    Calls Tryd.prog 79 #[.slice none 0 0, .func (.func gf) #[] lb] w fun e w' => ∃ v vs, e = .returned v ∧ w'.ownsRow w.heap.size 22 1 v ps.length vs ∧ IsPs (fun b => w.heap.size ≤ b ∧ v.ownBlock ≠ some b) w' ps vs ∧ Below w.heap.size w w' := by
  refine calls_of_marks Tryd.func79 rfl ?_
  simp only [Tryd.ntmps79, List.size_toArray, List.length_cons, List.length_nil, Nat.reduceAdd, Nat.reduceSub, Array.replicate_succ, Array.replicate_zero, List.push_toArray, List.append_toArray, List.nil_append, List.cons_append]
  go_upto_region 2 with fail
  obtain ⟨w1, hw1⟩ : ∃ w1, w1 = w.alloc (.cells #[.slice none 0 0] 36) := ⟨_, rfl⟩
  have hb1 : Below w.heap.size w w1 := by rw [hw1]; exact (Below.refl _ w).alloc (Nat.le_refl _) _
  have kB : Blk w1 w.heap.size 36 [.slice none 0 0] := by rw [hw1]; exact World.alloc_heap_new w _
  have hz1 : w1.heap.size = w.heap.size + 1 := by rw [hw1]; simp
  rw [← hw1]
  clear hw1
  obtain ⟨Bx, hBx⟩ : ∃ Bx, w.heap.size = Bx := ⟨_, rfl⟩
  rw [hBx] at kB hz1 hb1
  simp only [hBx]
  refine wp_range (w := w1) rfl eg hit hD (fun b hb hl => by rw [hb1.block b (by have := hD b hb; omega)]; exact hk0 b hb hl) (by omega) (SeqI Bx w1) (fun _ _ _ _ => False) (fun b => b = Bx) (fun b h => ⟨by omega, fun h2 => by have := hD b h2; omega⟩) (SeqI.firm Bx w1) (fun _ _ _ _ _ _ h _ _ => h)
    ⟨_, [], kB, ⟨rfl, .inl ⟨rfl, rfl⟩⟩, IsPs.nil, rfl, (fun g h => by cases h), ⟨rfl, rfl, rfl⟩, Nat.le_refl _⟩
    (fun u => { tmps := #[.slice none 0 0, .func (.func gf) #[] lb, .pointer (some ⟨Bx, 0, none⟩), undef, .slice none 0 0, u, .func (.func gf) #[] lb, u, undef, undef, undef, undef, undef], defers := [] }) ?asg ?body ?done ?stop
  case asg =>
    intro l u W K hK
    refine region_inRound l (fun ⟨_, _, h⟩ => h) rfl ?_
    go_wp2_with fail
    exact hK
  case stop => exact fun c pre M W _ h => h.elim
  case body =>
    rintro l pre M p u W ⟨v, vs, kv, ov, HP, hB, hv, ⟨e1, e2, e3⟩, e4⟩ hu1 hur hpl hMlt hpre
    refine wpIn_block (region_inRound l (fun ⟨_, _, h⟩ => h) rfl ?_)
    have X0 := Lib.hid (show ([v] : List Value)[0]? = some v from rfl)
    have HU := Lib.hid hur
    have hur2 : RdX (fun b => ¬ M b ∧ Bx ≤ b) W 1 u p.length (iv p) := hur.mono fun b h => ⟨h.1, by have := h.2; omega⟩
    have lv := kv.lt
    have sz1 := Lib.hid hz1
    have SB : Bx + 1 ≤ W.heap.size := by omega
    clear hit hD hk0 hs0 eg hz1 kB hur
    have e5 := Lib.hid e4
    clear e4
    go_wp2_with (first
      | ((with_reducible refine' wpList_load_blk (.tmp 2) 36 rfl ?_ ld_ps ?_ kv (X0.out) ?_); exact rfl; exact rfl; simp only [Act.put, List.setIfInBounds_toArray, List.set_cons_succ, List.set_cons_zero])
      | (((with_reducible refine' wpList_build_own (u := u) (.tmp 9) 36 rfl ?_ Tryd.underlying36 inf_ints ?_ ?_ ?_); exact rfl; exact rfl; exact hu1; intro v3 w3 o3 hN3 hz3; simp only [Act.put, List.setIfInBounds_toArray, List.set_cons_succ, List.set_cons_zero]); have kv3 := kv.below hN3 lv; have ov3 := own_below ov hN3; have r3 := Rd.of_own o3; have O3 := one_ones hu1; have S3 : Bx + 1 ≤ w3.heap.size := Nat.le_trans SB hN3.size)
      | (((with_reducible refine' wpList_append_at (.tmp 8) (.tmp 10) 36 rfl ?_ Tryd.underlying36 inf_ints ?_ ?_ ?_ ov3 ?_ r3 O3 ?_ ?_ S3 ?_); exact rfl; exact rfl; omega; exact rfl; exact rfl; (first | omega | (unfold maxLen; omega)); omega; intro v4 w4 o4 hg4 hst4; simp only [Act.put, List.setIfInBounds_toArray, List.set_cons_succ, List.set_cons_zero]); have kv4 := kv3.grown hg4 (fun e => own_ne ov3 (Nat.lt_succ_self Bx) e.symm))
      | ((with_reducible refine' wpList_set_blk (u := v4) 36 (.tmp 2) (.tmp 11) rfl ?_ sz_ps ?_ ?_ kv4 ((Nat.lt_succ_self 0)) ?_ ?_); exact rfl; exact rfl; exact rfl; exact (own_one o4); intro w5 k5 hO5 hz5; simp only [Act.put, List.setIfInBounds_toArray, List.set_cons_succ, List.set_cons_zero]))
    have hw3 := hN3.size
    have hw4 := hg4.size
    have hw5 := hO5.size
    refine ⟨fun b => M b ∨ (u.ownBlock = some b ∧ 0 < p.length) ∨ (W.heap.size ≤ b ∧ b < w5.heap.size), fun b h => h, ⟨by omega, fun b hb hl => ?_⟩, v4, vs ++ [u], k5, ?_,
      ps_add HP hN3 hg4 hst4 hO5 hu1 hur2 hB hv (fun b h => h.imp id .inl), .inl hB, fun g hg => ?_, ⟨hO5.os.trans (hg4.os.trans (hN3.os.trans e1)), hO5.tape.trans (hg4.tape.trans (hN3.tape.trans e2)), hO5.output.trans (hg4.output.trans (hN3.output.trans e3))⟩, by have := e5.out; omega⟩
    · rw [hO5.block b (by omega) (fun e => by cases e; exact hb hB), hg4.block b (by omega) (fun e => hb (hv b e.symm)), hN3.block b hl]
    · rw [List.length_append]; exact own_only o4 hO5 (own_ne o4 (Nat.lt_succ_self _))
    · rcases hst4 with h | ⟨B, h1, h2⟩
      · exact .inl (hv g (h ▸ hg))
      · rw [h1] at hg; cases hg
        have := (o4.lt g h1).2
        exact .inr (.inr ⟨by omega, by omega⟩)
  case done =>
    rintro M W ⟨v, vs, kv, ov, HP, hB, hv, ⟨e1, e2, e3⟩, e4⟩ hK hM hk
    have X0 := Lib.hid (show ([v] : List Value)[0]? = some v from rfl)
    go_wp2_with ((with_reducible refine' wpList_load_blk (.tmp 2) 36 rfl ?_ ld_ps ?_ kv (X0.out) ?_); exact rfl; exact rfl; simp only [Act.put, List.setIfInBounds_toArray, List.set_cons_succ, List.set_cons_zero])
    have hpo := putObj_grown W w1.heap.size (.deferred none)
    refine bodyPostM_mark (.inl rfl) rfl rfl hk (results_tmp rfl _ _ _) ⟨v, vs, rfl, own_mono (own_grown ov hpo (fun b hb e => by cases e; exact hM (hv _ hb))) (by omega), (HP.keep (Keep.grown hpo fun b h e => by cases e; exact hM h.1.1)).mono fun b h => ⟨by omega, h.2.1⟩, ?_⟩
    rw [hBx]
    refine ⟨hpo.os.trans (e1.trans hb1.os), hpo.tape.trans (e2.trans hb1.tape), hpo.output.trans (e3.trans hb1.output), by have := hpo.size; omega, fun b hb => ?_⟩
    rw [hpo.block b (by omega) (fun e => by cases e; omega), hK.2 b (by omega) (by omega), hb1.block b hb]
set_option maxRecDepth 100000 in
theorem collect_any (gf : FuncId) (lb : Array Value) (ps : List (List Int)) (D : Nat → Prop) (W0 w : World) (eg : ∀ args w, (callFunc gf args).run Tryd.prog w = .ok (.enter gf args) w) (hit : Iter Tryd.prog gf lb ps D W0) (hD : ∀ b, D b → b < W0.heap.size) (hk0 : Keep D W0 w) (hs0 : W0.heap.size ≤ w.heap.size) (hlen : ps.length ≤ 1000000) :
    Calls Tryd.prog 57 #[.func (.func gf) #[] lb] w fun e w' => ∃ v vs, e = .returned v ∧ w'.ownsRow w.heap.size 22 1 v ps.length vs ∧ IsPs (fun b => w.heap.size ≤ b ∧ v.ownBlock ≠ some b) w' ps vs ∧ Below w.heap.size w w' := by
  have CA := Lib.hid (appendSeq_any gf lb ps D W0 w eg hit hD hk0 hs0 hlen)
  clear eg hit hD hk0 hs0
  go_enter Tryd.func57, Tryd.ntmps57
  go_wp2_with ((go_at_call 79; (with_reducible refine (CA.out).mono ?_); rintro e w' ⟨v, vs, rfl, o1, h1, hb1⟩))
  go_ret
  exact ⟨v, vs, rfl, o1, h1, hb1⟩
set_option maxRecDepth 100000 in
theorem paths_any (t : Tree) (cs : List Value) (w : World) (hT : IsT w t cs) (hs : tsize t ≤ 1000000) :
    Calls Tryd.prog 27 #[.agg cs.toArray] w fun e w' => ∃ v vs, e = .returned v ∧ w'.ownsRow w.heap.size 22 1 v (tsize t) vs ∧ IsPs (fun b => w.heap.size ≤ b ∧ v.ownBlock ≠ some b) w' (tpaths t) vs ∧ Below w.heap.size w w' := by
  have CL := Lib.hid hT.len
  have CO := Lib.hid hT.ones
  go_enter Tryd.func27, Tryd.ntmps27
  go_upto_region 1 with (((with_reducible refine' wpList_boxa (cs := cs) 25 (.tmp 0) rfl ?_ ?_ ?_); exact rfl; exact rfl; intro w1 kA hN1 hz1; simp only [Act.put, List.setIfInBounds_toArray, List.set_cons_succ, List.set_cons_zero]))
  have hT1 := hT.below hN1
  clear hz1
  go_wp2_with (first
    | ((with_reducible refine' wpList_loadst_blk (.tmp 1) 25 rfl ?_ Tryd.underlying25 ?_ sz_node ?_ kA ?_ ?_ ?_); exact rfl; exact rfl; exact rfl; exact CL.out; decide; simp only [Act.put, List.setIfInBounds_toArray, List.set_cons_succ, List.set_cons_zero])
    | ((go_at_call 58; (with_reducible refine (places_any t cs _ hT1 hs).mono ?_); rintro e w' ⟨T, rfl, hT2, hit, hb2, lT⟩); have CA := Lib.hid (collect_any 80 _ (tpaths t) _ _ w' (fun _ _ => rfl) hit (fun b h => by have := hb2.size; omega) (fun b _ _ => rfl) (Nat.le_refl _) (by rw [tpaths_len]; exact hs)); clear hit hT2)
    | ((go_at_call 57; (with_reducible refine (CA.out).mono ?_); rintro e w' ⟨v, vs, rfl, o1, h1, hb3⟩)))
  go_ret
  rw [tpaths_len] at o1
  have h12 := hN1.trans (hb2.mono hN1.size)
  exact ⟨v, vs, rfl, own_mono o1 h12.size, h1.mono fun b h => ⟨by have := h12.size; omega, h.2⟩, h12.trans (hb3.mono h12.size)⟩
end Go.Proofs.YtdlhkhnoigbhjaaDoor.Wi
namespace Go.Proofs.YtdlhkhnoigbhjaaDoor.Wi
open Go Go.RowKit Pu Lb
set_option linter.unusedSimpArgs false
set_option linter.unusedVariables false
set_option maxRecDepth 100000 in
theorem valid_sum (n : Int) (cs : List Value) (w : World) (hT : IsT w (sumT n) cs) (hS : ShT w) :
    Calls Tryd.prog 22 #[.agg cs.toArray] w fun e w' => e = .returned (.bool false) ∧ Below w.heap.size w w' := by
  have hTx := hT.isTX
  obtain ⟨v, xs, rfl, hrk, hts⟩ := hTx.open_
  have hz : tsize (sumT n) = 3 := rfl
  have hd : tdepth (sumT n) = 2 := rfl
  have hv : v.oneCell' = true := hT.ones v (by simp)
  have X3 := Lib.hid (show ([.int .i64 9, .int .i64 0, .int .i64 0, v] : List Value).length = 4 from rfl)
  go_enter Tryd.func22, Tryd.ntmps22
  go_upto_region 1 with (((with_reducible refine' wpList_boxa (cs := [.int .i64 9, .int .i64 0, .int .i64 0, v]) 25 (.tmp 0) rfl ?_ ?_ ?_); exact rfl; exact rfl; intro w1 kA hN1 hz1; simp only [Act.put, List.setIfInBounds_toArray, List.set_cons_succ, List.set_cons_zero]))
  have hT1 := hT.below hN1
  have hS1 := hS.below hN1
  clear hz1
  go_wp2_with (first
    | ((with_reducible refine' wpList_loadst_blk (.tmp 1) 25 rfl ?_ Tryd.underlying25 ?_ sz_node ?_ kA ?_ ?_ ?_); exact rfl; exact rfl; exact rfl; exact X3.out; decide; simp only [Act.put, List.setIfInBounds_toArray, List.set_cons_succ, List.set_cons_zero])
    | ((go_at_call 15; (with_reducible refine (size_any (sumT n) _ _ hT1 (by rw [hz]; omega)).mono ?_); rintro e w' ⟨rfl, hN2⟩); rw [hz]; have hT2 := hT1.below hN2; have hS2 := hS1.below hN2; have kA2 := kA.below hN2 kA.lt; have hb2 := hN1.trans (hN2.mono hN1.size))
    | ((with_reducible refine' wpList_loadst_blk (.tmp 1) 25 rfl ?_ Tryd.underlying25 ?_ sz_node ?_ kA2 ?_ ?_ ?_); exact rfl; exact rfl; exact rfl; exact X3.out; decide; simp only [Act.put, List.setIfInBounds_toArray, List.set_cons_succ, List.set_cons_zero])
    | ((go_at_call 17; (with_reducible refine (depth_any (sumT n) _ _ hT2 (by rw [hz]; omega)).mono ?_); rintro e w' ⟨rfl, hN3⟩); rw [hd]; have hS3 := hS2.below hN3; have kA3 := kA2.below hN3 kA2.lt; have hb3 := hb2.trans (hN3.mono hb2.size))
    | ((with_reducible refine' wpList_loadst_blk (.tmp 1) 25 rfl ?_ Tryd.underlying25 ?_ sz_node ?_ kA3 ?_ ?_ ?_); exact rfl; exact rfl; exact rfl; exact X3.out; decide; simp only [Act.put, List.setIfInBounds_toArray, List.set_cons_succ, List.set_cons_zero])
    | ((go_at_call 54; (with_reducible refine (fits9 0 0 v hv _ hS3).mono ?_); rintro e w' ⟨rfl, hN4⟩)))
  go_ret
  exact ⟨rfl, hb3.trans (hN4.mono hb3.size)⟩
theorem cmp_12 : tcmp (sumT 1) (sumT 2) = -1 := by decide +kernel
theorem cmp_21 : tcmp (sumT 2) (sumT 1) = 1 := by decide +kernel
theorem cmp_22 : (tcmp (sumT 2) (sumT 2) == 0) = true := by decide +kernel
theorem SZ1 : (tsize (sumT 1) : Int) = 3 := by decide +kernel
theorem DZ1 : (tdepth (sumT 1) : Int) = 2 := by decide +kernel
theorem set_1 : tset [1] (sumT 1) (.mk 4 2 0 []) = some (sumT 2) := by rfl
theorem set_2 : tset [2] (sumT 1) (sumT 1) = none := by rfl
theorem EN23 : (tenc (sumT 1)).length = 23 := by decide +kernel
theorem SP1 : decide (tpaths (sumT 1) = tpaths (sumT 1)) = true := decide_eq_true rfl
theorem rd_paths {w : World} {base : Nat} {e : TypeId} {v : Value} {t : Tree} {vs : List Value} (h : w.ownsRow base e 1 v (tsize t) vs) : Rd w 1 v (tpaths t).length vs := by rw [tpaths_len]; exact Rd.of_own h
theorem rd_three {w : World} {v : Value} {vs : List Value} (h : Rd w 1 v 3 vs) : Rd w 1 v (tpaths (sumT 1)).length vs := by rw [tpaths_len]; exact h
theorem own_form {w : World} {base : Nat} {e : TypeId} {s : Nat} {v : Value} {xs : List Value} (h : w.ownsRow base e s v 1 xs) : ∃ g cap, v = .slice (some ⟨g, 0, none⟩) 1 cap := by
  rcases h.2 with ⟨_, h⟩ | ⟨g, cap, _, h, _⟩
  · omega
  · exact ⟨g, cap, h⟩
theorem ones3 (g1 c1 g2 c2 : Nat) : ∀ u ∈ ([.slice none 0 0, .slice (some ⟨g1, 0, none⟩) 1 c1, .slice (some ⟨g2, 0, none⟩) 1 c2] : List Value), u.oneCell' = true := by
  intro u hu
  simp only [List.mem_cons, List.not_mem_nil, or_false] at hu
  rcases hu with rfl | rfl | rfl <;> rfl
theorem ps_of (u1 u2 : Value) (W : World) (h1 : u1.oneCell' = true) (h2 : u2.oneCell' = true) (r1 : Rd W 1 u1 1 [.int .i64 0]) (r2 : Rd W 1 u2 1 [.int .i64 1]) : IsPs (fun _ => True) W (tpaths (sumT 1)) [.slice none 0 0, u1, u2] :=
  ((IsPs.one (p := []) rfl rdx_nil).app (IsPs.one (p := [0]) h1 ⟨r1, fun _ _ _ => trivial⟩)).app (IsPs.one (p := [1]) h2 ⟨r2, fun _ _ _ => trivial⟩)
set_option maxRecDepth 100000 in
set_option maxHeartbeats 1600000 in
theorem lives_any (w : World) (hS : ShT w) :
    Calls Tryd.prog 21 #[] w fun e w' => e = .returned (.bool true) ∧ Below w.heap.size w w' := by
  have HZ1 : tsize (sumT 1) ≤ 1000000 := by decide +kernel
  have HZ4 : tsize (.mk 4 2 0 []) ≤ 1000000 := by decide +kernel
  have L4 : ∀ w : World, IsT w (.mk 4 2 0 []) [.int .i64 4, .int .i64 2, .int .i64 0, .slice none 0 0] := fun w => (IsTX.leaf (X := fun _ => True)).isT
  go_enter Tryd.func21, Tryd.ntmps21
  go_upto_region 2 with (first
    | ((go_at_call 53; (with_reducible refine (sum_any 1 _).mono ?_); rintro e w' ⟨es, rfl, hE, hN1⟩); have EL := Lib.hid hE.len; have EO := Lib.hid hE.isT.ones)
    | (((with_reducible refine' wpList_alloc_blk (cs := nodz) 25 rfl ?_ zr_node ?_ ?_); exact rfl; exact nodz_cells; intro w2 k2 hN2 hz2; simp only [Act.put, List.setIfInBounds_toArray, List.set_cons_succ, List.set_cons_zero]))
    | (((with_reducible refine' wpList_store_blk (cs := es) 25 (.tmp 1) (.tmp 6) rfl ?_ ?_ ?_ k2 sz_node ?_ ?_ ?_ ?_); exact rfl; exact rfl; exact rfl; exact EL.out; exact rfl; exact EO.out; intro w3 k3 hO3 hz3; simp only [Act.put])))
  obtain ⟨A, hA⟩ : ∃ A, w'.heap.size = A := ⟨_, rfl⟩
  have hT3 : IsT w3 (sumT 1) es := ((hE.lt.below hN2).only hO3 (fun b h => by have := h.2; omega)).isT
  have hs1 := hN1.size
  have l2 := k2.lt
  have hb3 : Below w.heap.size w w3 := (hN1.trans (hN2.mono hs1)).trans (hO3.below hs1 (by omega))
  have s3 := k3.lt
  rw [hA] at k3 s3
  simp only [hA]
  clear hz2 hz3 hO3 hN2 hN1 hE k2 l2
  go_upto_region 3 with (first
    | ((with_reducible refine' wpList_loadst_blk (.tmp 1) 25 rfl ?_ Tryd.underlying25 ?_ sz_node ?_ k3 ?_ ?_ ?_); exact rfl; exact rfl; exact rfl; exact EL.out; decide; simp only [Act.put, List.setIfInBounds_toArray, List.set_cons_succ, List.set_cons_zero])
    | (((with_reducible refine' wpList_build_own (u := .int .i64 1) (.const (.int .i64 1)) 22 rfl ?_ Tryd.underlying22 inf_int ?_ ?_ ?_); exact rfl; exact rfl; exact rfl; intro v4 w4 o4 hN4 hz4; simp only [Act.put, List.setIfInBounds_toArray, List.set_cons_succ, List.set_cons_zero]); have hT4 := hT3.below hN4; have r4 : Rd w4 1 v4 ([1] : List Int).length (iv [1]) := Rd.of_own o4; have L4' := L4 w4)
    | ((go_at_call 30; (with_reducible refine (treeset_any [1] (sumT 1) (.mk 4 2 0 []) es [.int .i64 4, .int .i64 2, .int .i64 0, .slice none 0 0] _ _ hT4 L4' r4 HZ1 HZ4).mono ?_); rintro e w' ⟨fs, c, rfl, hF, hN5⟩); rw [set_1] at hF; obtain ⟨rfl, hF⟩ := hF; have FL := Lib.hid hF.len; have FO := Lib.hid hF.isT.ones)
    | (((with_reducible refine' wpList_alloc_blk (cs := nodz) 25 rfl ?_ zr_node ?_ ?_); exact rfl; exact nodz_cells; intro w6 k6 hN6 hz6; simp only [Act.put, List.setIfInBounds_toArray, List.set_cons_succ, List.set_cons_zero]))
    | (((with_reducible refine' wpList_store_blk (cs := fs) 25 (.tmp 2) (.tmp 12) rfl ?_ ?_ ?_ k6 sz_node ?_ ?_ ?_ ?_); exact rfl; exact rfl; exact rfl; exact FL.out; exact rfl; exact FO.out; intro w7 k7 hO7 hz7; simp only [Act.put])))
  obtain ⟨D, hD⟩ : ∃ D, w'.heap.size = D := ⟨_, rfl⟩
  have hb47 : Below w3.heap.size w3 w7 := ((hN4.trans (hN5.mono hN4.size)).trans (hN6.mono (hN4.trans (hN5.mono hN4.size)).size)).trans (hO7.below (hN4.trans (hN5.mono hN4.size)).size (Nat.le_trans (hN4.trans (hN5.mono hN4.size)).size hN6.size))
  have hF7 : IsT w7 (sumT 2) fs := ((hF.lt.below hN6).only hO7 (fun b h => by have := h.2; omega)).isT
  have s7 := k7.lt
  have kA7 := k3.below hb47 s3
  have hT7 := hT3.below hb47
  have hb7 := hb3.trans (hb47.mono hb3.size)
  rw [hD] at k7 s7
  simp only [hD]
  clear hz4 hz6 hz7 hO7 hN6 hN5 hN4 hF k6 hb47 o4 r4 L4' L4 hT4 k3 hT3 hA hD HZ4
  go_upto_region 4 with (first
    | ((with_reducible refine' wpList_loadst_blk (.tmp 1) 25 rfl ?_ Tryd.underlying25 ?_ sz_node ?_ kA7 ?_ ?_ ?_); exact rfl; exact rfl; exact rfl; exact EL.out; decide; simp only [Act.put, List.setIfInBounds_toArray, List.set_cons_succ, List.set_cons_zero])
    | (((with_reducible refine' wpList_build_own (u := .int .i64 2) (.const (.int .i64 2)) 22 rfl ?_ Tryd.underlying22 inf_int ?_ ?_ ?_); exact rfl; exact rfl; exact rfl; intro v8 w8 o8 hN8 hz8; simp only [Act.put, List.setIfInBounds_toArray, List.set_cons_succ, List.set_cons_zero]); have hT8 := hT7.below hN8; have r8 : Rd w8 1 v8 ([2] : List Int).length (iv [2]) := Rd.of_own o8; have kA8 := kA7.below hN8 kA7.lt)
    | ((with_reducible refine' wpList_loadst_blk (.tmp 1) 25 rfl ?_ Tryd.underlying25 ?_ sz_node ?_ kA8 ?_ ?_ ?_); exact rfl; exact rfl; exact rfl; exact EL.out; decide; simp only [Act.put, List.setIfInBounds_toArray, List.set_cons_succ, List.set_cons_zero])
    | ((go_at_call 30; (with_reducible refine (treeset_any [2] (sumT 1) (sumT 1) es es _ _ hT8 hT8 r8 HZ1 HZ1).mono ?_); rintro e w' ⟨gs, c, rfl, hG, hN9⟩); rw [set_2] at hG; obtain ⟨rfl, rfl⟩ := hG)
    | (((with_reducible refine' wpList_alloc_blk (cs := nodz) 25 rfl ?_ zr_node ?_ ?_); exact rfl; exact nodz_cells; intro w10 k10 hN10 hz10; simp only [Act.put, List.setIfInBounds_toArray, List.set_cons_succ, List.set_cons_zero]))
    | (((with_reducible refine' wpList_store_blk (cs := nodz) 25 (.tmp 4) (.tmp 19) rfl ?_ ?_ ?_ k10 sz_node ?_ ?_ ?_ ?_); exact rfl; exact rfl; exact rfl; exact rfl; exact rfl; exact node_ones rfl; intro w11 k11 hO11 hz11; simp only [Act.put])))
  have hb711 : Below w7.heap.size w7 w11 := ((hN8.trans (hN9.mono hN8.size)).trans (hN10.mono (hN8.trans (hN9.mono hN8.size)).size)).trans (hO11.below (hN8.trans (hN9.mono hN8.size)).size (Nat.le_trans (hN8.trans (hN9.mono hN8.size)).size hN10.size))
  have hb11 := hb7.trans (hb711.mono hb7.size)
  have kA11 := kA7.below hb711 kA7.lt
  have kD11 := k7.below hb711 k7.lt
  have hT11 := hT7.below hb711
  have hF11 := hF7.below hb711
  have hS11 := hS.below hb11
  clear hz8 hz10 hz11 hO11 hN10 hN9 hN8 k10 k11 hb711 o8 r8 hT8 kA8 kA7 k7 hT7 hF7 hb7
  have CA : ∀ w', Below w11.heap.size w11 w' → Blk w' A 25 es := fun w' h => kA11.below h kA11.lt
  have CD : ∀ w', Below w11.heap.size w11 w' → Blk w' D 25 fs := fun w' h => kD11.below h kD11.lt
  (refine wp_region_plan (fun w' => Below w11.heap.size w11 w') (.f 0 (.f 1 (.f 2 (.f 3 (.f 4 (.f 5 (.f 6 (.f 7 (.o 8 (.o 9 (.f 10 (.f 11 (.f 12 (.f 13 (.f 14 (.o 15 (.f 16 (.f 17 (.f 18 (.f 19 (.f 20 (.o 21 (.f 22 (.f 23 .tail)))))))))))))))))))))))) 24 (by kernel_rfl) (by kernel_rfl) (((Below.refl _ _).drew)) ?_)
  (repeat (refine wpPlan_f rfl ?_; (first | ((with_reducible refine' wpQuietH_loadst_blk (.tmp 2) 25 rfl ?_ Tryd.underlying25 ?_ sz_node ?_ (CD) ?_ ?_ ?_); exact rfl; exact rfl; exact rfl; exact FL.out; decide; simp only [Act.put, List.setIfInBounds_toArray, List.set_cons_succ, List.set_cons_zero]) | go_big_quiet_step (fail) | (go_big_quiet_want; go_big_quiet_op; refine ⟨_, fun _ _ => rfl, ?_⟩; go_big_quiet_on)); refine wpQuiet_nil ?_))
  have hd : Below w11.heap.size w11 w11.drew := (Below.refl _ _).drew
  refine wpPlan_o rfl ?_
  go_wp2_with ((go_at_call 53; (with_reducible refine (sum_any 2 _).mono ?_); rintro e w' ⟨gs, rfl, hG, hN12⟩))
  have hc12 := hd.trans hN12
  have hF12 := hF11.below hc12
  have hG12 := hG.isT
  refine ⟨rfl, hc12, ?_⟩
  refine wpPlan_o rfl ?_
  go_wp2_with ((go_at_call 31; (with_reducible refine (refsame_any (sumT 2) (sumT 2) fs gs _ hF12 hG12).mono ?_); rintro e w' ⟨rfl, hN13⟩); rw [cmp_22])
  have hc13 := hc12.trans (hN13.mono hc12.size)
  have hF13 := hF11.below hc13
  have hT13 := hT11.below hc13
  refine ⟨rfl, hc13, ?_⟩
  (repeat (refine wpPlan_f rfl ?_; (first | ((with_reducible refine' wpQuietH_loadst_blk (.tmp 1) 25 rfl ?_ Tryd.underlying25 ?_ sz_node ?_ (CA) ?_ ?_ ?_); exact rfl; exact rfl; exact rfl; exact EL.out; decide; simp only [Act.put, List.setIfInBounds_toArray, List.set_cons_succ, List.set_cons_zero]) | ((with_reducible refine' wpQuietH_loadst_blk (.tmp 2) 25 rfl ?_ Tryd.underlying25 ?_ sz_node ?_ (CD) ?_ ?_ ?_); exact rfl; exact rfl; exact rfl; exact FL.out; decide; simp only [Act.put, List.setIfInBounds_toArray, List.set_cons_succ, List.set_cons_zero]) | go_big_quiet_step (fail) | (go_big_quiet_want; go_big_quiet_op; refine ⟨_, fun _ _ => rfl, ?_⟩; go_big_quiet_on)); refine wpQuiet_nil ?_))
  refine wpPlan_o rfl ?_
  go_wp2_with ((go_at_call 19; (with_reducible refine (compare_any (sumT 1) (sumT 2) es fs _ hT13 hF13).mono ?_); rintro e w' ⟨rfl, hN14⟩); rw [cmp_12])
  have hc14 := hc13.trans (hN14.mono hc13.size)
  have hF14 := hF11.below hc14
  have hT14 := hT11.below hc14
  refine ⟨rfl, hc14, ?_⟩
  (repeat (refine wpPlan_f rfl ?_; (first | ((with_reducible refine' wpQuietH_loadst_blk (.tmp 1) 25 rfl ?_ Tryd.underlying25 ?_ sz_node ?_ (CA) ?_ ?_ ?_); exact rfl; exact rfl; exact rfl; exact EL.out; decide; simp only [Act.put, List.setIfInBounds_toArray, List.set_cons_succ, List.set_cons_zero]) | ((with_reducible refine' wpQuietH_loadst_blk (.tmp 2) 25 rfl ?_ Tryd.underlying25 ?_ sz_node ?_ (CD) ?_ ?_ ?_); exact rfl; exact rfl; exact rfl; exact FL.out; decide; simp only [Act.put, List.setIfInBounds_toArray, List.set_cons_succ, List.set_cons_zero]) | go_big_quiet_step (fail) | (go_big_quiet_want; go_big_quiet_op; refine ⟨_, fun _ _ => rfl, ?_⟩; go_big_quiet_on)); refine wpQuiet_nil ?_))
  refine wpPlan_o rfl ?_
  go_wp2_with ((go_at_call 19; (with_reducible refine (compare_any (sumT 2) (sumT 1) fs es _ hF14 hT14).mono ?_); rintro e w' ⟨rfl, hN15⟩); rw [cmp_21])
  have hc15 := hc14.trans (hN15.mono hc14.size)
  refine ⟨rfl, hc15, ?_⟩
  (repeat (refine wpPlan_f rfl ?_; (first | fail | go_big_quiet_step (fail) | (go_big_quiet_want; go_big_quiet_op; refine ⟨_, fun _ _ => rfl, ?_⟩; go_big_quiet_on)); refine wpQuiet_nil ?_))
  refine wpPlan_tail ?_
  go_wp2_with fail
  refine onlyN ?_
  obtain ⟨w15, rfl⟩ : ∃ x, x = w' := ⟨_, rfl⟩
  have hT15 := hT11.below hc15
  have kA15 := CA _ hc15
  have hS15 := hS11.below hc15
  have hb15 := hb11.trans (hc15.mono hb11.size)
  clear hN12 hN13 hN14 hN15 hc12 hc13 hc14 hc15 hF12 hG12 hG hF13 hT13 hF14 hT14 CA CD kA11 kD11 hT11 hF11 hS11 hb11 hd
  go_upto_region 6 with fail
  have TI := Lib.hid (show tInts (sumT 1) by simp only [sumT, tInts, tsInts, I64]; decide)
  clear hS EO FO hs1 hb3 s3 s7
  go_wp2_with (first
    | ((with_reducible refine' wpList_loadst_blk (.tmp 1) 25 rfl ?_ Tryd.underlying25 ?_ sz_node ?_ kA15 ?_ ?_ ?_); exact rfl; exact rfl; exact rfl; exact EL.out; decide; simp only [Act.put, List.setIfInBounds_toArray, List.set_cons_succ, List.set_cons_zero])
    | ((go_at_call 15; (with_reducible refine (size_any (sumT 1) es _ hT15 HZ1).mono ?_); rintro e w' ⟨rfl, hN16⟩); rw [SZ1]; have hT16 := hT15.below hN16; have kA16 := kA15.below hN16 kA15.lt; have hS16 := hS15.below hN16; have hb16 := hb15.trans (hN16.mono hb15.size))
    | ((with_reducible refine' wpList_loadst_blk (.tmp 1) 25 rfl ?_ Tryd.underlying25 ?_ sz_node ?_ kA16 ?_ ?_ ?_); exact rfl; exact rfl; exact rfl; exact EL.out; decide; simp only [Act.put, List.setIfInBounds_toArray, List.set_cons_succ, List.set_cons_zero])
    | ((go_at_call 17; (with_reducible refine (depth_any (sumT 1) es _ hT16 HZ1).mono ?_); rintro e w' ⟨rfl, hN17⟩); rw [DZ1]; have hT17 := hT16.below hN17; have kA17 := kA16.below hN17 kA16.lt; have hS17 := hS16.below hN17; have hb17 := hb16.trans (hN17.mono hb16.size))
    | ((with_reducible refine' wpList_loadst_blk (.tmp 1) 25 rfl ?_ Tryd.underlying25 ?_ sz_node ?_ kA17 ?_ ?_ ?_); exact rfl; exact rfl; exact rfl; exact EL.out; decide; simp only [Act.put, List.setIfInBounds_toArray, List.set_cons_succ, List.set_cons_zero])
    | ((go_at_call 27; (with_reducible refine (paths_any (sumT 1) es _ hT17 HZ1).mono ?_); rintro e w' ⟨vp, vs, rfl, op, HP, hN18⟩); have rp18 := rd_paths op; have hT18 := hT17.below hN18; have kA18 := kA17.below hN18 kA17.lt; have hS18 := hS17.below hN18; have hb18 := hb17.trans (hN18.mono hb17.size))
    | (((with_reducible refine' wpList_build_own (u := .int .i64 0) (.const (.int .i64 0)) 22 rfl ?_ Tryd.underlying22 inf_int ?_ ?_ ?_); exact rfl; exact rfl; exact rfl; intro u1 w19 o19 hN19 hz19; simp only [Act.put, List.setIfInBounds_toArray, List.set_cons_succ, List.set_cons_zero]); have rp19 := rp18.below hN19; have HP19 := HP.below hN19; have hT19 := hT18.below hN19; have kA19 := kA18.below hN19 kA18.lt; have hS19 := hS18.below hN19; have hb19 := hb18.trans (hN19.mono hb18.size))
    | (((with_reducible refine' wpList_build_own (u := .int .i64 1) (.const (.int .i64 1)) 22 rfl ?_ Tryd.underlying22 inf_int ?_ ?_ ?_); exact rfl; exact rfl; exact rfl; intro u2 w20 o20 hN20 hz20; simp only [Act.put, List.setIfInBounds_toArray, List.set_cons_succ, List.set_cons_zero]); have rp20 := rp19.below hN20; have HP20 := HP19.below hN20; have hT20 := hT19.below hN20; have kA20 := kA19.below hN20 kA19.lt; have hS20 := hS19.below hN20; have hb20 := hb19.trans (hN20.mono hb19.size); have o19' := own_below o19 hN20; have i1 := own_one o19; have i2 := own_one o20; have q1 := Rd.of_own o19'; have q2 := Rd.of_own o20; obtain ⟨g1, c1, rfl⟩ := own_form o19; obtain ⟨g2, c2, rfl⟩ := own_form o20; have on3 := ones3 g1 c1 g2 c2)
    | (((with_reducible refine' wpList_build_cs (cs := [.slice none 0 0, .slice (some ⟨g1, 0, none⟩) 1 c1, .slice (some ⟨g2, 0, none⟩) 1 c2]) rfl ?_ Tryd.underlying36 inf_ints ?_ ?_ ?_ ?_ ?_ ?_); exact rfl; exact rfl; omega; omega; exact rfl; exact on3; intro v3 w21 r21 hN21; simp only [Act.put, List.setIfInBounds_toArray, List.set_cons_succ, List.set_cons_zero]); have rp21 := rp20.below hN21; have HP21 := HP20.below hN21; have hT21 := hT20.below hN21; have kA21 := kA20.below hN21 kA20.lt; have hS21 := hS20.below hN21; have hb21 := hb20.trans (hN21.mono hb20.size); have r21' := rd_three r21; have PS := ps_of _ _ w21 i1 i2 (q1.below hN21) (q2.below hN21))
    | ((go_at_call 26; (with_reducible refine (samepaths_any (tpaths (sumT 1)) (tpaths (sumT 1)) _ _ vp v3 vs _ _ rp21 r21' HP21 PS).mono ?_); rintro e w' ⟨rfl, hN22⟩); rw [SP1]; have hT22 := hT21.below hN22; have kA22 := kA21.below hN22 kA21.lt; have hS22 := hS21.below hN22; have hb22 := hb21.trans (hN22.mono hb21.size))
    | ((with_reducible refine' wpList_loadst_blk (.tmp 1) 25 rfl ?_ Tryd.underlying25 ?_ sz_node ?_ kA22 ?_ ?_ ?_); exact rfl; exact rfl; exact rfl; exact EL.out; decide; simp only [Act.put, List.setIfInBounds_toArray, List.set_cons_succ, List.set_cons_zero])
    | ((go_at_call 37; (with_reducible refine (treeenc_any (sumT 1) es _ hT22 TI.out HZ1).mono ?_); rintro e w' ⟨v23, rfl, o23, hN23⟩); rw [EN23] at o23; have r23 := Rd.of_own o23; have hT23 := hT22.below hN23; have kA23 := kA22.below hN23 kA22.lt; have hS23 := hS22.below hN23; have hb23 := hb22.trans (hN23.mono hb22.size))
    | ((with_reducible refine' wpList_len_rd (.tmp 63) 49 rfl ?_ Tryd.underlying49 ?_ r23 ?_); exact rfl; exact rfl; simp only [Act.put, List.setIfInBounds_toArray, List.set_cons_succ, List.set_cons_zero])
    | ((with_reducible refine' wpList_loadst_blk (.tmp 1) 25 rfl ?_ Tryd.underlying25 ?_ sz_node ?_ kA23 ?_ ?_ ?_); exact rfl; exact rfl; exact rfl; exact EL.out; decide; simp only [Act.put, List.setIfInBounds_toArray, List.set_cons_succ, List.set_cons_zero])
    | ((go_at_call 22; (with_reducible refine (valid_sum 1 es _ hT23 hS23).mono ?_); rintro e w' ⟨rfl, hN24⟩); have hb24 := hb23.trans (hN24.mono hb23.size)))
  go_ret
  exact ⟨rfl, hb24⟩
end Go.Proofs.YtdlhkhnoigbhjaaDoor.Wi
namespace Go.Proofs.YtdlhkhnoigbhjaaDoor.Wi
open Go Go.RowKit Pu Lb
set_option linter.unusedSimpArgs false
set_option linter.unusedVariables false
theorem own_eq {B b o n c : Nat} (h : (Value.slice (some ⟨B, o, none⟩) n c).ownBlock = some b) : B = b := by simpa [Value.ownBlock] using h
theorem deep_zeroX {X : Nat → Prop} (w : World) : IsTX X w (deepT 0) [.int .i64 25, .int .i64 0, .int .i64 0, .slice none 0 0] := by rw [deepT]; exact IsTX.leaf
set_option maxRecDepth 100000 in
theorem deep_any (n : Nat) (w : World) (hn : n ≤ 1000) :
    Calls Tryd.prog 13 #[.int .i64 (n : Int)] w fun e w' => ∃ cs, e = .returned (.agg cs.toArray) ∧ IsTX (fun b => w.heap.size ≤ b) w' (deepT (n - 1)) cs ∧ Below w.heap.size w w' := by
  go_enter Tryd.func13, Tryd.ntmps13
  go_upto_region 1 with (((with_reducible refine' wpList_alloc_blk (cs := nodz) 25 rfl ?_ zr_node ?_ ?_); exact rfl; exact nodz_cells; intro w1 k2 hN1 hz1; simp only [Act.put, List.setIfInBounds_toArray, List.set_cons_succ, List.set_cons_zero]))
  obtain ⟨B2, hB2⟩ : ∃ B, w.heap.size = B := ⟨_, rfl⟩
  rw [hB2] at k2 ⊢
  have HB2 := Lib.hid hB2
  have l2 := k2.lt
  go_upto_region 3 with (first
    | ((with_reducible refine' wpList_of_run (o := ⟨_, .build _ _, _, _, _, _⟩) (v := .agg #[.int .i64 25, .int .i64 0, .int .i64 0, .slice none 0 0]) (w' := w1) ?_ ?_ ?_); exact rfl; kernel_rfl; simp only [Act.put, List.setIfInBounds_toArray, List.set_cons_succ, List.set_cons_zero])
    | (((with_reducible refine' wpList_alloc_blk (cs := nodz) 25 rfl ?_ zr_node ?_ ?_); exact rfl; exact nodz_cells; intro w2 k3 hN2 hz2; simp only [Act.put, List.setIfInBounds_toArray, List.set_cons_succ, List.set_cons_zero]))
    | (((with_reducible refine' wpList_store_blk (cs := [.int .i64 25, .int .i64 0, .int .i64 0, .slice none 0 0]) 25 (.tmp 3) (.tmp 5) rfl ?_ ?_ ?_ k3 sz_node ?_ ?_ ?_ ?_); exact rfl; exact rfl; exact rfl; exact rfl; exact rfl; exact (deep_zero w).ones; intro w3 k3b hO hz3; simp only [Act.put]); replace k3 := k3b))
  obtain ⟨B3, hB3⟩ : ∃ B, w1.heap.size = B := ⟨_, rfl⟩
  rw [hB3] at k3 ⊢
  have HB3 := Lib.hid hB3
  have hb3 : Below w.heap.size w w3 := (hN1.trans (hN2.mono hN1.size)).trans (hO.below hN1.size (by have := hN1.size; have := hN2.size; omega))
  have k2c : Blk w3 B2 25 nodz := hO.blk (k2.below hN2 l2) (by omega)
  have l3 := k3.lt
  have hB23 : B2 < B3 := by omega
  have hB0 : w.heap.size ≤ B2 := by omega
  clear hB3 hB2
  go_loopw [4] (fun i wr => ∃ (j : Nat) (cs : List Value), 1 ≤ j ∧ (j ≤ n ∨ j = 1) ∧ i = .int .i64 (j : Int) ∧ Hid (IsTX (fun b => w.heap.size ≤ b ∧ b ≠ B3 ∧ b ≠ B2) wr (deepT (j - 1)) cs) ∧ Blk wr B3 25 cs ∧ Blk wr B2 25 nodz ∧ Below w.heap.size w wr) (fun i _ => n - (intOf i).toNat)
  case atStart => exact ⟨1, _, by omega, .inr rfl, rfl, Lib.hid (deep_zeroX _), k3, k2c, hb3⟩
  case round =>
    obtain ⟨j, cs, hj, hjn, rfl, HT, q3, q2, hb⟩ := hrel
    have CL := Lib.hid HT.out.len
    have CO := Lib.hid HT.out.isT.ones
    have o3 := q3.lt
    have o2 := q2.lt
    obtain ⟨wo, rfl⟩ : ∃ wo : World, wo = wr := ⟨_, rfl⟩
    by_cases hlt : j < n
    · go_upto_region 4 with (first
        | ((with_reducible refine' wpList_loadst_blk (.tmp 3) 25 rfl ?_ Tryd.underlying25 ?_ sz_node ?_ q3 ?_ ?_ ?_); exact rfl; exact rfl; exact rfl; exact CL.out; decide; simp only [Act.put, List.setIfInBounds_toArray, List.set_cons_succ, List.set_cons_zero])
        | (((with_reducible refine' wpList_build_sts (css := [cs]) rfl ?_ Tryd.underlying23 inf_node ?_ ?_ ?_ ?_ ?_ ?_); exact rfl; exact rfl; (first | omega | decide); (first | omega | decide); exact rfl; (intro c hc; simp at hc; subst hc; exact CL.out); intro w5 k5 hN5 hz5; simp only [Act.put, List.setIfInBounds_toArray, List.set_cons_succ, List.set_cons_zero]))
        | ((with_reducible refine' wpList_of_run (o := ⟨_, .build _ _, _, _, _, _⟩) (v := .agg #[.int .i64 13, .int .i64 0, .int .i64 0, .slice (some ⟨wo.heap.size, 0, none⟩) 1 1]) (w' := w5) ?_ ?_ ?_); exact rfl; kernel_rfl; simp only [Act.put, List.setIfInBounds_toArray, List.set_cons_succ, List.set_cons_zero])
        | ((with_reducible refine' wpList_store_blk (cs := [.int .i64 13, .int .i64 0, .int .i64 0, .slice (some ⟨wo.heap.size, 0, none⟩) 1 1]) 25 (.tmp 3) (.tmp 13) rfl ?_ ?_ ?_ (q3.below hN5 o3) sz_node ?_ ?_ ?_ ?_); exact rfl; exact rfl; exact rfl; exact rfl; exact CL.out; (intro u hu; simp at hu; rcases hu with rfl | rfl | rfl | rfl <;> rfl); intro w6 k6 hO6 hz6; simp only [Act.put]))
      have hs := hb.size
      have hs5 := hN5.size
      have hb6 : Below w.heap.size wo w6 := (hN5.mono hs).trans (hO6.below (by omega) (by omega))
      have HK : Hid (IsTX (fun b => w.heap.size ≤ b ∧ b ≠ B3 ∧ b ≠ B2) w6 (deepT (j + 1 - 1)) [.int .i64 13, .int .i64 0, .int .i64 0, .slice (some ⟨wo.heap.size, 0, none⟩) 1 1]) := Lib.hid (by
        rw [show j + 1 - 1 = (j - 1) + 1 by omega, deepT]
        have k6' : Blk w6 wo.heap.size 25 cs := by have := hO6.blk k5 (by omega); simpa using this
        exact IsTX.node (xs := cs) (k6'.rdall 1 4 CL.out (by unfold maxLen; omega)) (fun b hb _ => by obtain rfl := own_eq hb; exact ⟨hs, by omega, by omega⟩) (IsTsX.one ((HT.out.below hN5).only hO6 (fun b h => h.2.1))))
      have q2' := hO6.blk (q2.below hN5 o2) (by omega)
      clear HT k5 q3 q2
      go_wp2_with fail
      go_roundw
      case rel => exact ⟨j + 1, _, by omega, by omega, by go_num, HK, k6, q2', hb.trans hb6⟩
      case measure => simp [intOf]; omega
    · go_wp2_with (first | ((with_reducible refine' wpList_loadst_blk (.tmp 3) 25 rfl ?_ Tryd.underlying25 ?_ sz_node ?_ q3 ?_ ?_ ?_); exact rfl; exact rfl; exact rfl; exact CL.out; decide; simp only [Act.put, List.setIfInBounds_toArray, List.set_cons_succ, List.set_cons_zero]) | ((with_reducible refine' wpList_store_blk (cs := cs) 25 (.tmp 2) (.tmp 14) rfl ?_ ?_ ?_ q2 sz_node ?_ ?_ ?_ ?_); exact rfl; exact rfl; exact rfl; exact CL.out; exact rfl; exact CO.out; intro w6 k6 hO6 hz6; simp only [Act.put]))
      have hs := hb.size
      have hb6 : Below w.heap.size w w6 := hb.trans (hO6.below (by omega) (by omega))
      have HK := HT.out.only hO6 (fun b h => h.2.2)
      rw [show j - 1 = n - 1 by omega] at HK
      ((try simp only [Exit.inBlock, Exit.then]); refine bodyPost_ret (results_cell_row rfl _ _ _ _ _ _ _ rfl k6 Tryd.underlying25 rfl (by rw [sz_node]; simp [CL.out])) rfl ?_)
      exact ⟨cs, rfl, HK.mono (fun b h => h.1), hb6⟩
end Go.Proofs.YtdlhkhnoigbhjaaDoor.Wi
namespace Go.Proofs.YtdlhkhnoigbhjaaDoor.Pu
theorem gkids_size (g : GS → Tree × GS) (c : Nat) (hg : ∀ s, tsize (g s).1 ≤ c) : ∀ (k : Nat) (s : GS), tsizes (gkids g k s).1 ≤ k * c
  | 0, s => by rw [gkids, tsizes]; omega
  | k + 1, s => by
    rw [gkids]
    split
    · have h1 := hg s
      have h2 := gkids_size g c hg k (g s).2
      simp only [tsizes]
      rw [Nat.add_mul]; omega
    · simp only [tsizes]; omega
theorem gtree_size (l : List Int) : ∀ (d : Nat) (s : GS), tsize (gtree l d s).1 ≤ 4 ^ d
  | 0, s => by rw [gtree_eq, gsub, tsize, tsizes]; decide
  | d + 1, s => by
    rw [gtree_eq, gsub, tsize]
    have h1 := gkids_size (gtree l d) (4 ^ d) (gtree_size l d) (atV l ((s.1 + 1 + 1 + 1 : Nat) : Int) 4).toNat (s.1 + 1 + 1 + 1 + 1, s.2 - 1)
    have h2 : (atV l ((s.1 + 1 + 1 + 1 : Nat) : Int) 4).toNat ≤ 3 := by have := atV_bd l ((s.1 + 1 + 1 + 1 : Nat) : Int) (most := 4) (by omega); omega
    have h3 := Nat.mul_le_mul_right (4 ^ d) h2
    have h4 : 0 < 4 ^ d := Nat.pow_pos (by omega)
    rw [Nat.pow_succ]; omega
theorem gTree_size (l : List Int) : tsize (gTree l) ≤ 1024 := gtree_size l 5 (0, 29)
theorem deepT_size : ∀ n, tsize (deepT n) = n + 1
  | 0 => by rw [deepT, tsize, tsizes]
  | n + 1 => by rw [deepT, tsize, tsizes, tsizes, deepT_size n]; omega
end Go.Proofs.YtdlhkhnoigbhjaaDoor.Pu
namespace Go.Proofs.YtdlhkhnoigbhjaaDoor.Wi
open Go Go.RowKit Pu Lb
theorem tdiv6 (h : Int) : I64 (wrap64 (h.tdiv 6)) := by unfold I64 wrap64; omega
end Go.Proofs.YtdlhkhnoigbhjaaDoor.Wi
