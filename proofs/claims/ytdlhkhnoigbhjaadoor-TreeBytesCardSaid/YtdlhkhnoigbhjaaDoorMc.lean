/-
  Mid, Mon, Tcm: my texts of these names, one behind the other. Conditions: those that each law names.
-/
import Derived.Test.YtdlhkhnoigbhjaaDoorMa
import Derived.Deep.Quiet
import Derived.StillTail
import Derived.Test.YtdlhkhnoigbhjaaDoorMb
namespace Go.Proofs.YtdlhkhnoigbhjaaDoor.Lb
open Go Go.RowKit

section
variable {P : Program} {ops : Array Oper} {md : Region.Mode} {C : World → Prop} {T : Nat → Bool} {Q : Exit → Act → World → Prop}

/-- the only way on is the normal one -/
def onlyNormal (Q : Exit → Act → World → Prop) : Exit → Act → World → Prop := fun e a w => e = .normal ∧ Q .normal a w
theorem not_letsOut : ¬ LetsOut (onlyNormal Q) := by rintro ⟨_, _, h, _⟩; cases h
theorem wpOp_onlyNormal {i : Nat} {K K' : Act → World → Prop} {a : Act} {w : World} (hk : ∀ a w, K a w → K' a w) (h : wpOp P ops (onlyNormal Q) i K a w) : wpOp P ops Q i K' a w := by
  unfold wpOp at *
  split
  · rename_i ho; simp only [ho] at h; exact hk _ _ h
  · rename_i o ho
    simp only [ho] at h
    split
    · rename_i hw
      simp only [hw, if_true] at h
      rcases h with h | ⟨_, h⟩
      · refine .inl ?_
        unfold Oper.wp at *
        generalize (execOp a.eval o).run P w = r at *
        cases r with
        | ok n w' =>
          cases n <;> simp only [Oper.upon] at h ⊢
          case value u => exact hk _ _ h
          case skip => exact hk _ _ h
          case defer d => exact hk _ _ h
          case enter f args =>
            refine Calls.mono h fun e w'' he => ?_
            cases e with
            | returned u => exact hk _ _ he
            | panicked c => exact absurd he.1 (by simp)
            | outgrown => exact (not_letsOut he).elim
          case row row args => exact Rows.mono h fun u w'' he => hk _ _ he
        | halt x w' =>
          cases x <;> simp only [Oper.upon] at h ⊢
          case panic u => exact absurd h.1 (by simp)
      · exact (not_letsOut h).elim
    · rename_i hw; simp only [hw] at h; exact hk _ _ h

/-- whatever order is picked from here on; behind every operation but the tail's the world is one of the class -/
def wpAnyC (P : Program) (md : Region.Mode) (ops : Array Oper) (C : World → Prop) (T : Nat → Bool) (Q : Exit → Act → World → Prop) : Nat → Array Bool → Act → World → Prop
  | 0, listed, a, w => Region.ready md ops listed = [] ∧ Q .normal a w
  | fuel + 1, listed, a, w =>
    (Region.ready md ops listed = [] → Q .normal a w) ∧
    ∀ i ∈ Region.ready md ops listed, wpOp P ops (onlyNormal Q) i (fun a' w' => (T i = false → C w') ∧ wpAnyC P md ops C T Q fuel (listed.setIfInBounds i true) a' w') a w
theorem wpAny_of_C : ∀ (fuel : Nat) (listed : Array Bool) (a : Act) (w : World), wpAnyC P md ops C T Q fuel listed a w → wpAny P md ops Q fuel listed a w
  | 0, _, _, _, h => h
  | fuel + 1, _, _, _, h => ⟨h.1, fun i hi => wpOp_onlyNormal (fun a' w' h' => wpAny_of_C fuel _ a' w' h'.2) (h.2 i hi)⟩

/-- in state a, in every world of the class, operation o yields v and leaves the world alone -/
def YieldsC (P : Program) (ops : Array Oper) (C : World → Prop) (o : Oper) (v : Value) (a : Act) : Prop :=
  (Region.wanted o (yielded ops a.tmps) = true ∧ ∀ w, C w → (execOp a.eval o).run P w = .ok (.value v) w) ∨
  (Region.wanted o (yielded ops a.tmps) = false ∧ v = undef)
theorem YieldsC.wpOp {i : Nat} {o : Oper} {v : Value} {a : Act} (hi : ops[i]? = some o) (hy : YieldsC P ops C o v a)
    {K : Act → World → Prop} {w : World} (hw : C w) (h : K (a.put o.dst v) w) : wpOp P ops Q i K a w := by
  unfold Go.wpOp
  simp only [hi]
  rcases hy with ⟨hw', hv⟩ | ⟨hw', rfl⟩
  · simp only [hw', if_true, Oper.wp, hv w hw, Oper.upon]; exact .inl h
  · simp only [hw', Bool.false_eq_true, if_false]; exact h
theorem YieldsC.of_same {o : Oper} {v : Value} {a a' : Act} (hy : YieldsC P ops C o v a) (he : execOp a'.eval o = execOp a.eval o)
    (hw : Region.wanted o (yielded ops a'.tmps) = Region.wanted o (yielded ops a.tmps)) : YieldsC P ops C o v a' := by
  unfold YieldsC at *
  rw [he, hw]
  exact hy
theorem wpOp_putC {j : Nat} {oi oj : Oper} {v : Value} (hj : ops[j]? = some oj) (hap : oi.apart ops oj = true)
    (hsi : ∀ cs b, oi.op ≠ .select cs b) (hsj : ∀ cs b, oj.op ≠ .select cs b) {K : Act → World → Prop} {a : Act} {w : World}
    (hy : YieldsC P ops C oi v a) (h : wpOp P ops (onlyNormal Q) j K (a.put oi.dst v) w) :
    wpOp P ops (onlyNormal Q) j (fun a' w' => YieldsC P ops C oi v a' ∧ K (a'.put oi.dst v) w') a w := by
  obtain ⟨h1, h2, h3⟩ := Oper.apart_spec hap
  have keep : ∀ (a : Act), YieldsC P ops C oi v a → ∀ u, YieldsC P ops C oi v (a.put oj.dst u) := fun a hy u =>
    hy.of_same (execOp_put oi hsi a oj.dst u h3) (wanted_put oi a oj.dst u h3)
  have keepD : ∀ d, YieldsC P ops C oi v { a with defers := d :: a.defers } := fun d => hy.of_same rfl rfl
  unfold wpOp at *
  simp only [hj] at *
  rw [wanted_put oj a oi.dst v h1] at h
  split
  · rename_i hw
    simp only [hw, if_true] at h
    rcases h with h | ⟨_, h⟩
    case inr => exact (not_letsOut h).elim
    refine .inl ?_
    unfold Oper.wp at *
    rw [execOp_put oj hsj a oi.dst v h1] at h
    generalize (execOp a.eval oj).run P w = r at *
    cases r with
    | ok n w' =>
      cases n <;> simp only [Oper.upon] at h ⊢
      case value u => exact ⟨keep a hy u, by rw [← Act.put_comm a v u h2]; exact h⟩
      case skip => exact ⟨keep a hy _, by rw [← Act.put_comm a v undef h2]; exact h⟩
      case defer d =>
        refine ⟨keep _ (keepD d) _, ?_⟩
        rw [← Act.put_comm _ v undef h2, ← Act.put_defers]
        exact h
      case enter f args =>
        refine Calls.mono h fun e w'' he => ?_
        cases e with
        | returned u => exact ⟨keep a hy u, by rw [← Act.put_comm a v u h2]; exact he⟩
        | panicked c => exact absurd he.1 (by simp)
        | outgrown => exact he
      case row row args => exact Rows.mono h fun u w'' he => ⟨keep a hy u, by rw [← Act.put_comm a v u h2]; exact he⟩
    | halt x w' =>
      cases x <;> simp only [Oper.upon] at h ⊢
      case panic u => exact absurd h.1 (by simp)
  · rename_i hw
    simp only [hw] at h
    exact ⟨keep a hy _, by rw [← Act.put_comm a v undef h2]; exact h⟩

theorem getD_false_of {listed : Array Bool} {i : Nat} (h : listed.getD i true = false) : listed.getD i false = false := by
  rcases Nat.lt_or_ge i listed.size with h' | h'
  · simp [h'] at h ⊢; exact h
  · simp [Array.getElem?_eq_none h'] at h

/-- an operation that reads may be taken first -/
theorem wpAnyC_first {i : Nat} {oi : Oper} {v : Value} (hi : ops[i]? = some oi) (hsel : ∀ (j : Nat) (o : Oper) cs b, ops[j]? = some o → o.op ≠ .select cs b)
    (hT : ∀ j oj, T j = true → ops[j]? = some oj → ∃ e ∈ oj.after, Region.binds md e = true ∧ e.on = i) :
    ∀ (fuel : Nat) (listed : Array Bool) (a : Act) (w : World), C w →
      (∀ j oj, ops[j]? = some oj → j ≠ i → listed.getD j true = false → (∀ e ∈ oj.after, Region.binds md e = true → e.on ≠ i) → oi.apart ops oj = true) →
      i ∈ Region.ready md ops listed → YieldsC P ops C oi v a →
      wpAnyC P md ops C T Q fuel (listed.setIfInBounds i true) (a.put oi.dst v) w → wpAnyC P md ops C T Q (fuel + 1) listed a w := by
  intro fuel
  induction fuel with
  | zero =>
    intro listed a w hC _ hr hy H
    refine ⟨fun h => (by rw [h] at hr; cases hr), fun j hj => ?_⟩
    by_cases hji : j = i
    · subst hji; exact hy.wpOp hi hC ⟨fun _ => hC, H⟩
    · have := ready_mono hj hji
      rw [H.1] at this
      cases this
  | succ fuel ih =>
    intro listed a w hC hfree hr hy H
    refine ⟨fun h => (by rw [h] at hr; cases hr), fun j hj => ?_⟩
    by_cases hji : j = i
    · subst hji; exact hy.wpOp hi hC ⟨fun _ => hC, H⟩
    · have h1 := H.2 j (ready_mono hj hji)
      obtain ⟨hjun, oj, hoj, hall⟩ := mem_ready.1 hj
      have hnot : ∀ e ∈ oj.after, Region.binds md e = true → e.on ≠ i := fun e he hb heq => by
        have h1 := hall e he hb
        rw [heq, getD_false_of (mem_ready.1 hr).1] at h1
        cases h1
      have hTj : T j = false := by
        cases hb : T j with
        | false => rfl
        | true => obtain ⟨e, he, hbd, hon⟩ := hT j oj hb hoj; exact absurd hon (hnot e he hbd)
      have h2 := wpOp_putC hoj (hfree j oj hoj hji hjun hnot) (fun cs b => hsel i oi cs b hi) (fun cs b => hsel j oj cs b hoj) hy h1
      have hfree' : ∀ k ok, ops[k]? = some ok → k ≠ i → (listed.setIfInBounds j true).getD k true = false →
          (∀ e ∈ ok.after, Region.binds md e = true → e.on ≠ i) → oi.apart ops ok = true := fun k ok hk hki hun hno => by
        refine hfree k ok hk hki ?_ hno
        by_cases hjk : j = k
        · subst hjk; exact hjun
        · rw [getD_set_ne true hjk] at hun; exact hun
      refine wpOp_mono (fun a' w' h3 => ⟨fun _ => h3.2.1 hTj, ih (listed.setIfInBounds j true) a' w' (h3.2.1 hTj) hfree' (ready_mono hr (Ne.symm hji)) h3.1 ?_⟩) h2
      rw [Array.setIfInBounds_comm _ _ hji]
      exact h3.2.2

/-! ### the order that is walked -/
/-- the operations in the middle; behind each the world is one of the class -/
def wpMid (P : Program) (ops : Array Oper) (C : World → Prop) (Q : Exit → Act → World → Prop) (tl : List Oper) : List Oper → Act → World → Prop
  | [], a, w => wpList P ops (onlyNormal Q) tl a w
  | o :: l, a, w => if Region.wanted o (yielded ops a.tmps) then o.wp P a w (fun a' w' => C w' ∧ wpMid P ops C Q tl l a' w') (onlyNormal Q) else C w ∧ wpMid P ops C Q tl l (a.put o.dst undef) w
/-- one after the other, each the only one that may come up -/
def seqIx (md : Region.Mode) (ops : Array Oper) : List Nat → Array Bool → Bool
  | [], listed => (Region.ready md ops listed).isEmpty
  | k :: ks, listed => decide (Region.ready md ops listed = [k]) && seqIx md ops ks (listed.setIfInBounds k true)
def headIx (md : Region.Mode) (ops : Array Oper) (sq : List Nat) : List Nat → Array Bool → Bool
  | [], listed => seqIx md ops sq listed
  | k :: ks, listed => (Region.ready md ops listed).contains k && Region.free md ops listed k && headIx md ops sq ks (listed.setIfInBounds k true)
def waits (md : Region.Mode) (ops : Array Oper) (t i : Nat) : Bool :=
  match ops[t]? with
  | some o => o.after.any fun e => Region.binds md e && e.on == i
  | none => true
/-- what only computes or reads -/
def readsB (o : Oper) : Bool := match o.op with
  | .move _ | .assign _ | .load _ _ | .binOp _ _ _ _ _ | .unOp _ _ _ | .convert _ _ _ | .sliceToArrayPointer _ _ | .slice _ _ _ _ _ | .fieldAddr _ _ _ | .field _ _ _ | .indexAddr _ _ _ | .index _ _ _ | .build _ _ => true
  | .call c => match c.callee with | .builtin .len => true | _ => false
  | _ => false
def midB (md : Region.Mode) (ops : Array Oper) (hs ms ts : List Nat) : Bool :=
  Region.noSelect ops && decide (hs.length + (ms.length + ts.length) = ops.size) && ts.all (fun t => hs.all fun i => waits md ops t i) && hs.all (fun i => ((ops[i]?).map readsB).getD false) && headIx md ops (ms ++ ts) hs (Array.replicate ops.size false)

theorem val_only {s : Sem Value} {w w' : World} {n : Next} (h : (do pure (Next.value (← s)) : Sem Next).run P w = .ok n w') : ∃ u, n = .value u := by
  rw [Sem.run_bind] at h
  cases hs : s.run P w with
  | ok v w2 =>
    rw [hs, Result.andThen_ok, Sem.run_pure] at h
    injection h with h1 h2
    exact ⟨v, h1.symm⟩
  | halt x w2 =>
    rw [hs] at h
    cases h
theorem reads_only {o : Oper} (h : readsB o = true) {ρ : Operand → Value} {w w' : World} {n : Next} (hr : (execOp ρ o).run P w = .ok n w') : ∃ u, n = .value u := by
  unfold readsB at h
  split at h <;> try (cases h; done)
  all_goals (rename_i ho; unfold execOp at hr; simp only [ho] at hr)
  all_goals first
    | exact val_only hr
    | (simp only [Sem.run_pure] at hr; injection hr with h1 h2; exact ⟨_, h1.symm⟩)
    | skip
  split at h
  · rename_i hc
    simp only [resolve, hc, Sem.run_bind, Sem.run_pure, Result.andThen_ok, invoke, builtin] at hr
    cases hs : Sem.run P (Builtin.len_ _ o.type (Array.map ρ _)) w with
    | ok v w2 =>
      rw [hs, Result.andThen_ok] at hr
      injection hr with h1 h2
      exact ⟨v, h1.symm⟩
    | halt x w2 =>
      rw [hs] at hr
      cases hr
  · cases h

theorem yieldsC_of_quiet {o : Oper} {a : Act} {K : Act → Prop} (hr : readsB o = true) (h : if Region.wanted o (yielded ops a.tmps) then o.quiet P a C K else K (a.put o.dst undef)) : ∃ v, YieldsC P ops C o v a ∧ K (a.put o.dst v) := by
  by_cases hw : Region.wanted o (yielded ops a.tmps) = true
  · simp only [hw, if_true] at h
    obtain ⟨v, h1, h2⟩ := h
    refine ⟨v, .inl ⟨hw, fun w hC => ?_⟩, h2⟩
    have h3 := h1 w hC
    unfold Oper.quietAt at h3
    cases hres : (execOp a.eval o).run P w with
    | ok n w' =>
      obtain ⟨u, rfl⟩ := reads_only hr hres
      rw [hres] at h3
      obtain ⟨rfl, rfl⟩ := h3
      rfl
    | halt x w' =>
      rw [hres] at h3
      exact h3.elim
  · simp only [hw] at h
    exact ⟨undef, .inr ⟨by simpa using hw, rfl⟩, h⟩

theorem wpAnyC_tail {ts : List Nat} (hts : ∀ t, t ∈ ts → T t = true) : ∀ (ks : List Nat) (tl9 : List Oper) (listed : Array Bool) (a : Act) (w : World), (∀ t, t ∈ ks → t ∈ ts) → ks.map (ops[·]?) = tl9.map some → seqIx md ops ks listed = true →
    wpList P ops (onlyNormal Q) tl9 a w → wpAnyC P md ops C T Q ks.length listed a w
  | [], [], listed, a, w, _, _, hB, h => by
    unfold wpList at h
    exact ⟨by simpa [seqIx] using hB, h.2⟩
  | [], o :: tl9, _, _, _, _, hm, _, _ => by simp at hm
  | k :: ks, [], _, _, _, _, hm, _, _ => by simp at hm
  | k :: ks, o :: tl9, listed, a, w, hin, hm, hB, h => by
    simp only [List.map_cons, List.cons.injEq] at hm
    simp only [seqIx, Bool.and_eq_true, decide_eq_true_eq] at hB
    refine ⟨fun h1 => (by rw [hB.1] at h1; cases h1), fun i hi => ?_⟩
    rw [hB.1] at hi
    obtain rfl : i = k := by simpa using hi
    have hw : wpOp P ops (onlyNormal Q) i (wpList P ops (onlyNormal Q) tl9) a w := by unfold wpOp; simp only [hm.1]; exact h
    exact wpOp_mono (fun a' w' h' => ⟨fun hT => absurd (hts i (hin i (by simp))) (by simp [hT]), wpAnyC_tail hts ks tl9 _ a' w' (fun t ht => hin t (by simp [ht])) hm.2 hB.2 h'⟩) hw
theorem wpAnyC_mid {ts : List Nat} {tl9 : List Oper} (hts : ∀ t, t ∈ ts → T t = true) (htm : ts.map (ops[·]?) = tl9.map some) : ∀ (ms : List Nat) (mo : List Oper) (listed : Array Bool) (a : Act) (w : World), ms.map (ops[·]?) = mo.map some → seqIx md ops (ms ++ ts) listed = true →
    wpMid P ops C Q tl9 mo a w → wpAnyC P md ops C T Q (ms.length + ts.length) listed a w
  | [], [], listed, a, w, _, hB, h => by
    rw [List.length_nil, Nat.zero_add]
    exact wpAnyC_tail hts ts tl9 listed a w (fun _ h => h) htm hB h
  | [], o :: mo, _, _, _, hm, _, _ => by simp at hm
  | k :: ks, [], _, _, _, hm, _, _ => by simp at hm
  | k :: ks, o :: mo, listed, a, w, hm, hB, h => by
    simp only [List.map_cons, List.cons.injEq] at hm
    simp only [List.cons_append, seqIx, Bool.and_eq_true, decide_eq_true_eq] at hB
    rw [List.length_cons, show ks.length + 1 + ts.length = (ks.length + ts.length) + 1 by omega]
    refine ⟨fun h1 => (by rw [hB.1] at h1; cases h1), fun i hi => ?_⟩
    rw [hB.1] at hi
    obtain rfl : i = k := by simpa using hi
    have hw : wpOp P ops (onlyNormal Q) i (fun a' w' => C w' ∧ wpMid P ops C Q tl9 mo a' w') a w := by
      unfold wpOp
      simp only [hm.1]
      unfold wpMid at h
      split
      · rename_i hw; rw [if_pos hw] at h; exact .inl h
      · rename_i hw; rw [if_neg hw] at h; exact h
    exact wpOp_mono (fun a' w' h' => ⟨fun _ => h'.1, wpAnyC_mid hts htm ks mo _ a' w' hm.2 hB.2 h'.2⟩) hw
theorem wpAnyC_head {sq : List Nat} {L : Act → World → Prop} (hsel : Region.noSelect ops = true) (hL : ∀ listed a w, seqIx md ops sq listed = true → L a w → wpAnyC P md ops C T Q sq.length listed a w) :
    ∀ (hs : List Nat) (ho : List Oper) (listed : Array Bool) (a : Act) (w : World), C w → hs.map (ops[·]?) = ho.map some → headIx md ops sq hs listed = true → (∀ o ∈ ho, readsB o = true) →
      (∀ i ∈ hs, ∀ j oj, T j = true → ops[j]? = some oj → ∃ e ∈ oj.after, Region.binds md e = true ∧ e.on = i) → wpQuiet P ops C (fun a' => L a' w) ho a → wpAnyC P md ops C T Q (hs.length + sq.length) listed a w
  | [], [], listed, a, w, _, _, hB, _, _, h => by
    rw [List.length_nil, Nat.zero_add]
    exact hL listed a w hB h
  | [], o :: ho, _, _, _, _, hm, _, _, _, _ => by simp at hm
  | k :: ks, [], _, _, _, _, hm, _, _, _, _ => by simp at hm
  | k :: ks, o :: ho, listed, a, w, hC, hm, hB, hr, hT, h => by
    simp only [List.map_cons, List.cons.injEq] at hm
    simp only [headIx, Bool.and_eq_true] at hB
    obtain ⟨⟨hr1, hf⟩, hB'⟩ := hB
    rw [List.length_cons, show ks.length + 1 + sq.length = (ks.length + sq.length) + 1 by omega]
    obtain ⟨v, hy, hK⟩ := yieldsC_of_quiet (ops := ops) (hr o (by simp)) h
    exact wpAnyC_first hm.1 (Region.noSelect_spec hsel) (hT k (by simp)) _ listed a w hC (Region.free_spec hm.1 hf) (by simpa using hr1) hy
      (wpAnyC_head hsel hL ks ho _ _ w hC hm.2 hB' (fun o' h' => hr o' (by simp [h'])) (fun i hi => hT i (by simp [hi])) hK)

/-! ### the operations by kinds -/
inductive Kd | h | m | t
def pickH : List Kd → List Oper → List Oper
  | .h :: ks, o :: l => o :: pickH ks l
  | .m :: ks, _ :: l => pickH ks l
  | .t :: ks, _ :: l => pickH ks l
  | _, _ => []
def pickM : List Kd → List Oper → List Oper
  | .h :: ks, _ :: l => pickM ks l
  | .m :: ks, o :: l => o :: pickM ks l
  | .t :: ks, _ :: l => pickM ks l
  | _, _ => []
def pickT : List Kd → List Oper → List Oper
  | .h :: ks, _ :: l => pickT ks l
  | .m :: ks, _ :: l => pickT ks l
  | .t :: ks, o :: l => o :: pickT ks l
  | _, _ => []
def ixH : List Kd → Nat → List Nat
  | [], _ => []
  | .h :: ks, n => n :: ixH ks (n + 1)
  | .m :: ks, n => ixH ks (n + 1)
  | .t :: ks, n => ixH ks (n + 1)
def ixM : List Kd → Nat → List Nat
  | [], _ => []
  | .h :: ks, n => ixM ks (n + 1)
  | .m :: ks, n => n :: ixM ks (n + 1)
  | .t :: ks, n => ixM ks (n + 1)
def ixT : List Kd → Nat → List Nat
  | [], _ => []
  | .h :: ks, n => ixT ks (n + 1)
  | .m :: ks, n => ixT ks (n + 1)
  | .t :: ks, n => n :: ixT ks (n + 1)
theorem ixH_map : ∀ (ks : List Kd) (l pre : List Oper), ks.length = l.length → (ixH ks pre.length).map ((pre ++ l)[·]?) = (pickH ks l).map some
  | [], [], _, _ => rfl
  | [], _ :: _, _, h => by simp at h
  | _ :: _, [], _, h => by simp at h
  | k :: ks, o :: l, pre, h => by
    have ih := ixH_map ks l (pre ++ [o]) (by simpa using h)
    simp only [List.length_append, List.length_singleton, List.append_assoc, List.singleton_append] at ih
    cases k <;> simp only [ixH, pickH, List.map_cons, ih] <;> simp
theorem ixM_map : ∀ (ks : List Kd) (l pre : List Oper), ks.length = l.length → (ixM ks pre.length).map ((pre ++ l)[·]?) = (pickM ks l).map some
  | [], [], _, _ => rfl
  | [], _ :: _, _, h => by simp at h
  | _ :: _, [], _, h => by simp at h
  | k :: ks, o :: l, pre, h => by
    have ih := ixM_map ks l (pre ++ [o]) (by simpa using h)
    simp only [List.length_append, List.length_singleton, List.append_assoc, List.singleton_append] at ih
    cases k <;> simp only [ixM, pickM, List.map_cons, ih] <;> simp
theorem ixT_map : ∀ (ks : List Kd) (l pre : List Oper), ks.length = l.length → (ixT ks pre.length).map ((pre ++ l)[·]?) = (pickT ks l).map some
  | [], [], _, _ => rfl
  | [], _ :: _, _, h => by simp at h
  | _ :: _, [], _, h => by simp at h
  | k :: ks, o :: l, pre, h => by
    have ih := ixT_map ks l (pre ++ [o]) (by simpa using h)
    simp only [List.length_append, List.length_singleton, List.append_assoc, List.singleton_append] at ih
    cases k <;> simp only [ixT, pickT, List.map_cons, ih] <;> simp

def kdB (md : Region.Mode) (l : List Oper) (ks : List Kd) : Bool :=
  decide (ks.length = l.length) && midB md l.toArray (ixH ks 0) (ixM ks 0) (ixT ks 0) && (pickH ks l).all readsB
/-- a region that draws its order, walked in one order -/
theorem wp_region_mid {id : Nat} {a : Act} {w : World} {l : List Oper} (C : World → Prop) (ks : List Kd) (hm : P.follows .mixedOrders = true) (hB : kdB .any l ks = true) (hC : C w.drew)
    (h : wpQuiet P l.toArray C (fun a' => wpMid P l.toArray C Q (pickT ks l) (pickM ks l) a' w.drew) (pickH ks l) a) : (Code.region id l.toArray true).wp P Q a w := by
  simp only [kdB, midB, Bool.and_eq_true, decide_eq_true_eq] at hB
  obtain ⟨⟨hlen, ⟨⟨⟨⟨hsel, hsz⟩, hw⟩, _⟩, hx⟩⟩, hr⟩ := hB
  have e1 := ixH_map ks l [] hlen
  have e2 := ixM_map ks l [] hlen
  have e3 := ixT_map ks l [] hlen
  simp only [List.length_nil, List.nil_append] at e1 e2 e3
  refine wp_region_any hm (wpAny_of_C (C := C) (T := fun i => decide (i ∈ ixT ks 0)) _ _ _ _ ?_)
  have := wpAnyC_head (P := P) (md := .any) (ops := l.toArray) (C := C) (T := fun i => decide (i ∈ ixT ks 0)) (Q := Q) (sq := ixM ks 0 ++ ixT ks 0) (L := wpMid P l.toArray C Q (pickT ks l) (pickM ks l)) hsel
    (fun listed a w hs hL => by
      rw [List.length_append]
      exact wpAnyC_mid (fun t ht => by simpa using ht) (by simpa using e3) (ixM ks 0) (pickM ks l) listed a w (by simpa using e2) hs hL)
    (ixH ks 0) (pickH ks l) (Array.replicate l.toArray.size false) a w.drew hC (by simpa using e1) hx (fun o ho => List.all_eq_true.1 hr o ho)
    (fun i hi j oj hT hj => by
      have h1 := List.all_eq_true.1 hw j (by simpa using hT)
      have h2 := List.all_eq_true.1 h1 i hi
      unfold waits at h2
      rw [hj] at h2
      obtain ⟨e, he, hb⟩ := Array.any_eq_true'.1 h2
      simp only [Bool.and_eq_true, beq_iff_eq] at hb
      exact ⟨e, he, hb.1, hb.2⟩) h
  rw [List.length_append, hsz] at this
  exact this
end
end Go.Proofs.YtdlhkhnoigbhjaaDoor.Lb
namespace Go.Proofs.YtdlhkhnoigbhjaaDoor.Lb
open Go Go.RowKit

section
variable {P : Program} {Q : Exit → Act → World → Prop}

/-- a frame with some temporaries filled -/
def puts (a : Act) : List (Option Tmp) → List Value → Act
  | d :: ds, v :: vs => puts (a.put d v) ds vs
  | _, _ => a
theorem put_twice (a : Act) (d : Option Tmp) (u v : Value) : (a.put d u).put d v = a.put d v := by
  cases d <;> simp [Act.put]
theorem puts_comm {d : Option Tmp} {v : Value} : ∀ (ds : List (Option Tmp)) (us : List Value) (a : Act), (∀ x ∈ ds, ∀ t, d = some t → x ≠ some t) → (puts a ds us).put d v = puts (a.put d v) ds us
  | [], _, _, _ => rfl
  | _ :: _, [], _, _ => rfl
  | x :: ds, u :: us, a, h => by
    simp only [puts]
    rw [puts_comm ds us (a.put x u) (fun y hy => h y (by simp [hy])), Act.put_comm a v u (h x (by simp))]
/-- no temporary twice -/
def apartDs : List (Option Tmp) → Bool
  | [] => true
  | d :: ds => ds.all (fun x => match d with | some t => x != some t | none => true) && apartDs ds
theorem puts_set {v : Value} : ∀ (ds : List (Option Tmp)) (us : List Value) (a : Act) (i : Nat) (d : Option Tmp), apartDs ds = true → us.length = ds.length → ds[i]? = some d → (puts a ds us).put d v = puts a ds (us.set i v)
  | [], _, _, _, _, _, _, hi => by simp at hi
  | _ :: _, [], _, _, _, _, hl, _ => by simp at hl
  | x :: ds, u :: us, a, 0, d, ha, hl, hi => by
    simp only [List.getElem?_cons_zero, Option.some.injEq] at hi
    subst hi
    simp only [apartDs, Bool.and_eq_true, List.all_eq_true] at ha
    simp only [puts, List.set_cons_zero]
    rw [puts_comm ds us _ (fun y hy t ht => by have := ha.1 y hy; subst ht; simpa using this), put_twice]
  | x :: ds, u :: us, a, i + 1, d, ha, hl, hi => by
    simp only [apartDs, Bool.and_eq_true] at ha
    simp only [puts, List.set_cons_succ]
    exact puts_set ds us _ i d ha.2 (by simpa using hl) (by simpa using hi)

/-- what follows one operation -/
def nextTo (K : Act → World → Prop) : Exit → Act → World → Prop := fun e a w => e = .normal ∧ K a w
theorem wpOp_of_list {ops : Array Oper} {i : Nat} {o : Oper} {K : Act → World → Prop} {a : Act} {w : World} (hi : ops[i]? = some o) (h : wpList P ops (nextTo K) [o] a w) : wpOp P ops (onlyNormal Q) i K a w := by
  unfold wpOp
  simp only [hi]
  unfold wpList at h
  have hK : ∀ (a : Act) (w : World), wpList P ops (nextTo K) [] a w → K a w := fun a w h => by unfold wpList at h; exact h.2
  split
  · rename_i hw
    rw [if_pos hw] at h
    have h := h.resolve_right (by rintro ⟨_, _, _, hh⟩; exact absurd hh.1 (by simp))
    refine .inl ?_
    unfold Oper.wp at *
    generalize (execOp a.eval o).run P w = r at *
    cases r with
    | ok n w' =>
      cases n <;> simp only [Oper.upon] at h ⊢
      case value u => exact hK _ _ h
      case skip => exact hK _ _ h
      case defer d => exact hK _ _ h
      case enter f args =>
        refine Calls.mono h fun e w'' he => ?_
        cases e with
        | returned u => exact hK _ _ he
        | panicked c => exact absurd he.1 (by simp)
        | outgrown => obtain ⟨_, _, hh⟩ := he; exact absurd hh.1 (by simp)
      case row row args => exact Rows.mono h fun u w'' he => hK _ _ he
    | halt x w' =>
      cases x <;> simp only [Oper.upon] at h ⊢
      case panic u => exact absurd h.1 (by simp)
  · rename_i hw; rw [if_neg hw] at h; exact hK _ _ h

/-- the operations ahead of the tail are done -/
def doneUpto (n m : Nat) : Array Bool := ((List.range m).map fun i => decide (i < n)).toArray
def deps (md : Region.Mode) (o : Oper) : List Nat := (o.after.toList.filter (Region.binds md ·)).map (·.on)
/-- for each operation those that stand ahead of it in every order -/
def ancs (md : Region.Mode) (l : List Oper) : List (List Nat) :=
  l.foldl (fun acc o => acc ++ [((deps md o).flatMap fun j => j :: acc.getD j []).foldr (fun j r => if r.contains j then r else j :: r) []]) []
def ancOk (md : Region.Mode) (l : List Oper) (A : List (List Nat)) : Bool :=
  (List.range l.length).all fun t => match l[t]? with
    | some o => (A.getD t []).all fun i => (deps md o).any fun j => decide (j < t) && (i == j || (A.getD j []).contains i)
    | none => false
theorem mem_deps {md : Region.Mode} {o : Oper} {j : Nat} : j ∈ deps md o ↔ ∃ e ∈ o.after, Region.binds md e = true ∧ e.on = j := by
  unfold deps
  simp only [List.mem_map, List.mem_filter, Array.mem_toList_iff]
  exact ⟨fun ⟨e, ⟨h1, h2⟩, h3⟩ => ⟨e, h1, h2, h3⟩, fun ⟨e, h1, h2, h3⟩ => ⟨e, ⟨h1, h2⟩, h3⟩⟩
theorem anc_listed {md : Region.Mode} {l : List Oper} {A : List (List Nat)} (h : ancOk md l A = true) {listed : Array Bool} (hc : ∀ t o, l[t]? = some o → listed.getD t false = true → ∀ j ∈ deps md o, listed.getD j false = true) :
    ∀ t o, l[t]? = some o → (∀ j ∈ deps md o, listed.getD j false = true) → ∀ i ∈ A.getD t [], listed.getD i false = true := by
  intro t
  induction t using Nat.strongRecOn with
  | _ t ih =>
    intro o ho hd i hi
    have htl : t < l.length := (List.getElem?_eq_some_iff.1 ho).1
    have h1 := List.all_eq_true.1 h t (List.mem_range.2 htl)
    rw [ho] at h1
    simp only [List.all_eq_true, List.any_eq_true, Bool.and_eq_true, decide_eq_true_eq, Bool.or_eq_true, beq_iff_eq, List.contains_iff_mem] at h1
    obtain ⟨j, hj, hlt, hij⟩ := h1 i hi
    rcases hij with rfl | hij
    · exact hd _ hj
    · have hoj : l[j]? = some l[j] := by simp [show j < l.length by omega]
      exact ih j hlt _ hoj (hc j _ hoj (hd j hj)) i hij
def monB (md : Region.Mode) (l : List Oper) (n : Nat) : Bool :=
  decide (n ≤ l.length) && apartDs ((l.take n).map (·.dst)) &&
  ancOk md l (ancs md l) && (List.range l.length).all (fun t => (decide (t < n) || (List.range n).all fun i => ((ancs md l).getD t []).contains i) && match l[t]? with | some o => o.after.all fun e => !Region.binds md e || decide (e.on < t) | none => false) &&
  Region.seqB md l.toArray (l.length - n) n (doneUpto n l.length)

theorem monAny {l : List Oper} {n : Nat} {a0 : Act} {w0 : World} (S : Nat → Value → World → Prop) (hB : monB .any l n = true)
    (hmono : ∀ i v w w', S i v w → Below w.heap.size w w' → S i v w')
    (step : ∀ i o, i < n → l[i]? = some o → ∀ us w, us.length = n → Below w0.heap.size w0 w → (∀ j, waits .any l.toArray i j = true → S j (us.getD j undef) w) →
      wpList P l.toArray (nextTo fun a' w' => ∃ v, a' = (puts a0 ((l.take n).map (·.dst)) us).put o.dst v ∧ Below w.heap.size w w' ∧ S i v w') [o] (puts a0 ((l.take n).map (·.dst)) us) w)
    (fin : ∀ us w, us.length = n → Below w0.heap.size w0 w → (∀ i, i < n → S i (us.getD i undef) w) → wpList P l.toArray (onlyNormal Q) (l.drop n) (puts a0 ((l.take n).map (·.dst)) us) w) :
    ∀ (k : Nat) (listed : Array Bool) (us : List Value) (w : World), (∀ t o, l[t]? = some o → listed.getD t false = true → ∀ j ∈ deps .any o, listed.getD j false = true) → listed.size = l.length → ((List.range n).filter fun i => !listed.getD i true).length = k → (∀ t, n ≤ t → t < l.length → listed.getD t true = false) →
      us.length = n → Below w0.heap.size w0 w → (∀ i, i < n → listed.getD i false = true → S i (us.getD i undef) w) →
      wpAny P .any l.toArray (onlyNormal Q) (k + (l.length - n)) listed (puts a0 ((l.take n).map (·.dst)) us) w := by
  simp only [monB, Bool.and_eq_true, decide_eq_true_eq] at hB
  obtain ⟨⟨⟨⟨hn, hap⟩, hanc⟩, hall⟩, hseq⟩ := hB
  have hback : ∀ t o, l[t]? = some o → ∀ e ∈ o.after, Region.binds .any e = true → e.on < t := fun t o ho e he hb => by
    have htl : t < l.length := (List.getElem?_eq_some_iff.1 ho).1
    have h1 := List.all_eq_true.1 hall t (List.mem_range.2 htl)
    rw [ho] at h1
    simp only [Bool.and_eq_true, Array.all_eq_true_iff_forall_mem] at h1
    have h2 := h1.2 e he
    simpa [hb] using h2
  have htail : ∀ t o, n ≤ t → l[t]? = some o → ∀ listed : Array Bool, (∀ t o, l[t]? = some o → listed.getD t false = true → ∀ j ∈ deps .any o, listed.getD j false = true) → (∀ e ∈ o.after, Region.binds .any e = true → listed.getD e.on false = true) → ∀ i, i < n → listed.getD i false = true := fun t o ht ho listed hc hr i hi => by
    have htl : t < l.length := (List.getElem?_eq_some_iff.1 ho).1
    have h1 := List.all_eq_true.1 hall t (List.mem_range.2 htl)
    simp only [Bool.and_eq_true, Bool.or_eq_true, decide_eq_true_eq] at h1
    have h2 := h1.1.resolve_left (by omega)
    have h3 := List.all_eq_true.1 h2 i (List.mem_range.2 hi)
    rw [List.contains_iff_mem] at h3
    exact anc_listed hanc hc t o ho (fun j hj => by obtain ⟨e, h4, h5, rfl⟩ := mem_deps.1 hj; exact hr e h4 h5) i h3
  intro k
  induction k with
  | zero =>
    intro listed us w hcl hsz hk ht hl hw hS
    have hdone : ∀ i, i < n → listed.getD i true = true := fun i hi => by
      have h0 := List.eq_nil_of_length_eq_zero hk
      cases hb : listed.getD i true with
      | true => rfl
      | false =>
        have : i ∈ (List.range n).filter fun i => !listed.getD i true := List.mem_filter.2 ⟨List.mem_range.2 hi, by simp [hb]⟩
        rw [h0] at this; cases this
    have hd2 : ∀ i, i < n → listed.getD i false = true := fun i hi => by
      have h1 := hdone i hi
      have hlt : i < listed.size := by omega
      simp [hlt] at h1 ⊢; exact h1
    have heq : listed = doneUpto n l.length := by
      apply Array.ext (by simp [doneUpto, hsz])
      intro i h1 h2
      by_cases hi : i < n
      · have h3 := hdone i hi
        simp [h1] at h3
        simp [doneUpto, h3, hi]
      · have h3 := ht i (by omega) (by omega)
        simp [h1] at h3
        simp [doneUpto, h3, hi]
    rw [Nat.zero_add, heq]
    have := wpAny_of_seq (P := P) (md := .any) (ops := l.toArray) (Q' := onlyNormal Q) (l.drop n) n (doneUpto n l.length) _ w (fun j => by simp [List.getElem?_drop]) (by rw [List.length_drop]; exact hseq) (fin us w hl hw (fun i hi => hS i hi (hd2 i hi)))
    rw [List.length_drop] at this
    exact this
  | succ k ih =>
    intro listed us w hcl hsz hk ht hl hw hS
    rw [show k + 1 + (l.length - n) = (k + (l.length - n)) + 1 by omega]
    -- some operation ahead of the tail is not done
    have hex : ∃ i, i < n ∧ listed.getD i true = false := by
      obtain ⟨i, hi⟩ := List.exists_mem_of_length_pos (l := (List.range n).filter fun i => !listed.getD i true) (by omega)
      rw [List.mem_filter] at hi
      exact ⟨i, List.mem_range.1 hi.1, by simpa using hi.2⟩
    have hready : ∃ i, i ∈ Region.ready .any l.toArray listed := by
      obtain ⟨i, hi, hun⟩ := hex
      induction i using Nat.strongRecOn with
      | _ i ihi =>
        have hil : i < l.length := by omega
        have ho : l[i]? = some l[i] := by simp [hil]
        by_cases hall2 : ∀ e ∈ (l[i]).after, Region.binds .any e = true → listed.getD e.on false = true
        · exact ⟨i, mem_ready.2 ⟨hun, l[i], by simp [hil], hall2⟩⟩
        · simp only [Classical.not_forall] at hall2
          obtain ⟨e, he, hb, hne⟩ := hall2
          have hlt := hback i _ ho e he hb
          have hun2 : listed.getD e.on true = false := by
            have hes : e.on < listed.size := by omega
            simp [hes] at hne ⊢; exact hne
          exact ihi e.on hlt (by omega) hun2
    refine ⟨fun h => ?_, fun i hi => ?_⟩
    · obtain ⟨i, hi⟩ := hready; rw [h] at hi; cases hi
    · obtain ⟨hun, o, ho, hwt⟩ := mem_ready.1 hi
      rw [List.getElem?_toArray] at ho
      have hin : i < n := by
        rcases Nat.lt_or_ge i n with h | h
        · exact h
        · obtain ⟨j, hj, hjun⟩ := hex
          have := htail i o h ho listed hcl hwt j hj
          rw [getD_false_of hjun] at this
          cases this
      have hst := step i o hin ho us w hl hw (fun j hj => by
        unfold waits at hj
        rw [List.getElem?_toArray, ho] at hj
        obtain ⟨e, he, hb⟩ := Array.any_eq_true'.1 hj
        simp only [Bool.and_eq_true, beq_iff_eq] at hb
        have h1 := hwt e he hb.1
        have h2 := hback i o ho e he hb.1
        rw [hb.2] at h1 h2
        exact hS j (by omega) h1)
      refine wpOp_mono ?_ (wpOp_of_list (by rw [List.getElem?_toArray]; exact ho) hst)
      rintro a' w' ⟨v, rfl, hb', hSi⟩
      have hds : ((l.take n).map (·.dst))[i]? = some o.dst := by
        rw [List.getElem?_map, List.getElem?_take, if_pos hin, ho]; rfl
      have hus : us.length = ((l.take n).map (·.dst)).length := by rw [List.length_map, List.length_take, hl]; omega
      rw [puts_set _ us a0 i o.dst hap hus hds]
      refine ih (listed.setIfInBounds i true) (us.set i v) w' (fun t o' ho' htd j hj => ?_) (by simpa using hsz) ?_ (fun t h1 h2 => by rw [getD_set_ne true (by omega)]; exact ht t h1 h2) (by simpa using hl) (hw.trans (hb'.mono hw.size)) (fun j hj hjl => ?_)
      · have hsj : listed.getD j false = true := by
          by_cases hti : t = i
          · subst hti
            rw [ho] at ho'
            cases ho'
            obtain ⟨e, h4, h5, rfl⟩ := mem_deps.1 hj
            exact hwt e h4 h5
          · rw [getD_set_ne false (Ne.symm hti)] at htd
            exact hcl t o' ho' htd j hj
        by_cases hji : j = i
        · subst hji
          simp [show j < listed.size by omega]
        · rw [getD_set_ne false (Ne.symm hji)]; exact hsj
      · -- one fewer
        have hsub : (List.range n).filter (fun x => !(listed.setIfInBounds i true).getD x true) = ((List.range n).filter fun x => !listed.getD x true).erase i := by
          rw [List.Nodup.erase_eq_filter (List.Pairwise.filter _ List.nodup_range), List.filter_filter]
          apply List.filter_congr
          intro x hx
          by_cases hxi : x = i
          · subst hxi
            have hxs : x < listed.size := by omega
            simp [hxs]
          · rw [getD_set_ne true (Ne.symm hxi)]; simp [hxi]
        rw [hsub, List.length_erase_of_mem (List.mem_filter.2 ⟨List.mem_range.2 hin, by simp [hun]⟩), hk]; omega
      · by_cases hji : j = i
        · subst hji
          have : (us.set j v).getD j undef = v := by simp [List.getD_eq_getElem?_getD, hl, hin]
          rw [this]; exact hSi
        · rw [getD_set_ne false (Ne.symm hji)] at hjl
          have : (us.set i v).getD j undef = us.getD j undef := by simp [List.getD_eq_getElem?_getD, List.getElem?_set_ne (Ne.symm hji)]
          rw [this]; exact hmono _ _ _ _ (hS j hj hjl) hb'

theorem wpAny_of_N {md : Region.Mode} {ops : Array Oper} : ∀ (fuel : Nat) (listed : Array Bool) (a : Act) (w : World), wpAny P md ops (onlyNormal Q) fuel listed a w → wpAny P md ops Q fuel listed a w
  | 0, _, _, _, h => ⟨h.1, h.2.2⟩
  | fuel + 1, _, _, _, h => ⟨fun h0 => (h.1 h0).2, fun i hi => wpOp_onlyNormal (fun a' w' h' => wpAny_of_N fuel _ a' w' h') (h.2 i hi)⟩
/-- what the temporaries hold now -/
def cur (a : Act) : Option Tmp → Value
  | some d => a.tmps.getD d undef
  | none => undef
theorem put_cur (a : Act) (d : Option Tmp) : a.put d (cur a d) = a := by
  cases d with
  | none => rfl
  | some d =>
    obtain ⟨ts, ds⟩ := a
    simp only [Act.put, cur, Act.mk.injEq, and_true]
    apply Array.ext (by simp)
    intro i h1 h2
    rw [Array.getElem_setIfInBounds]
    split
    · rename_i h; subst h; simp [h2]
    · rfl
theorem puts_cur (a : Act) : ∀ ds : List (Option Tmp), puts a ds (ds.map (cur a)) = a
  | [] => rfl
  | d :: ds => by simp only [List.map_cons, puts, put_cur]; exact puts_cur a ds

/-- the region's law -/
theorem wp_region_mono {id : Nat} {a : Act} {w : World} {l : List Oper} (n : Nat) (S : Nat → Value → World → Prop) (hm : P.follows .mixedOrders = true) (hB : monB .any l n = true)
    (hmono : ∀ i v w w', S i v w → Below w.heap.size w w' → S i v w')
    (step : ∀ i o, i < n → l[i]? = some o → ∀ us w', us.length = n → Below w.heap.size w w' → (∀ j, waits .any l.toArray i j = true → S j (us.getD j undef) w') →
      wpList P l.toArray (nextTo fun a' w'' => ∃ v, a' = (puts a ((l.take n).map (·.dst)) us).put o.dst v ∧ Below w'.heap.size w' w'' ∧ S i v w'') [o] (puts a ((l.take n).map (·.dst)) us) w')
    (fin : ∀ us w', us.length = n → Below w.heap.size w w' → (∀ i, i < n → S i (us.getD i undef) w') → wpList P l.toArray (onlyNormal Q) (l.drop n) (puts a ((l.take n).map (·.dst)) us) w') :
    (Code.region id l.toArray true).wp P Q a w := by
  have hB' := hB
  simp only [monB, Bool.and_eq_true, decide_eq_true_eq] at hB'
  have hn := hB'.1.1.1.1
  have hsz : ∀ i, (Array.replicate l.length false).getD i false = false := getD_replicate_false _
  refine wp_region_any hm (wpAny_of_N _ _ _ _ ?_)
  have h0 : Below w.heap.size w w.drew := (Below.refl _ _).drew
  have hus : (((l.take n).map (·.dst)).map (cur a)).length = n := by simp; omega
  have := monAny (Q := Q) S hB hmono (fun i o hi ho us w' hl hw hd => step i o hi ho us w' hl hw hd) (fun us w' hl hw hS => fin us w' hl hw hS)
    n (Array.replicate l.length false) (((l.take n).map (·.dst)).map (cur a)) w.drew (fun t _ _ h => by rw [hsz] at h; cases h) (by simp) (by
      rw [List.filter_eq_self.2 (fun i hi => by
        have : i < l.length := by have := List.mem_range.1 hi; omega
        simp [this])]
      simp) (fun t _ h2 => by simp [h2]) hus h0 (fun i _ hl => by rw [hsz] at hl; cases hl)
  rw [puts_cur, show n + (l.length - n) = l.length by omega] at this
  simpa using this
end
/-! ### lists of a known length -/
theorem len1 {us : List Value} (h : us.length = 1) : ∃ u0, us = [u0] := by
  obtain ⟨u0, rfl⟩ := List.length_eq_one_iff.1 h
  exact ⟨u0, rfl⟩
theorem len2 {us : List Value} (h : us.length = 2) : ∃ u0 u1, us = [u0, u1] := by
  obtain ⟨u0, t, rfl⟩ := List.exists_cons_of_length_eq_add_one h
  obtain ⟨u1, rfl⟩ := len1 (by simpa using h)
  exact ⟨u0, u1, rfl⟩
theorem len3 {us : List Value} (h : us.length = 3) : ∃ u0 u1 u2, us = [u0, u1, u2] := by
  obtain ⟨u0, t, rfl⟩ := List.exists_cons_of_length_eq_add_one h
  obtain ⟨u1, u2, rfl⟩ := len2 (by simpa using h)
  exact ⟨u0, u1, u2, rfl⟩
theorem len4 {us : List Value} (h : us.length = 4) : ∃ u0 u1 u2 u3, us = [u0, u1, u2, u3] := by
  obtain ⟨u0, t, rfl⟩ := List.exists_cons_of_length_eq_add_one h
  obtain ⟨u1, u2, u3, rfl⟩ := len3 (by simpa using h)
  exact ⟨u0, u1, u2, u3, rfl⟩
theorem len5 {us : List Value} (h : us.length = 5) : ∃ u0 u1 u2 u3 u4, us = [u0, u1, u2, u3, u4] := by
  obtain ⟨u0, t, rfl⟩ := List.exists_cons_of_length_eq_add_one h
  obtain ⟨u1, u2, u3, u4, rfl⟩ := len4 (by simpa using h)
  exact ⟨u0, u1, u2, u3, u4, rfl⟩
theorem len6 {us : List Value} (h : us.length = 6) : ∃ u0 u1 u2 u3 u4 u5, us = [u0, u1, u2, u3, u4, u5] := by
  obtain ⟨u0, t, rfl⟩ := List.exists_cons_of_length_eq_add_one h
  obtain ⟨u1, u2, u3, u4, u5, rfl⟩ := len5 (by simpa using h)
  exact ⟨u0, u1, u2, u3, u4, u5, rfl⟩
theorem len7 {us : List Value} (h : us.length = 7) : ∃ u0 u1 u2 u3 u4 u5 u6, us = [u0, u1, u2, u3, u4, u5, u6] := by
  obtain ⟨u0, t, rfl⟩ := List.exists_cons_of_length_eq_add_one h
  obtain ⟨u1, u2, u3, u4, u5, u6, rfl⟩ := len6 (by simpa using h)
  exact ⟨u0, u1, u2, u3, u4, u5, u6, rfl⟩
theorem len8 {us : List Value} (h : us.length = 8) : ∃ u0 u1 u2 u3 u4 u5 u6 u7, us = [u0, u1, u2, u3, u4, u5, u6, u7] := by
  obtain ⟨u0, t, rfl⟩ := List.exists_cons_of_length_eq_add_one h
  obtain ⟨u1, u2, u3, u4, u5, u6, u7, rfl⟩ := len7 (by simpa using h)
  exact ⟨u0, u1, u2, u3, u4, u5, u6, u7, rfl⟩
theorem len9 {us : List Value} (h : us.length = 9) : ∃ u0 u1 u2 u3 u4 u5 u6 u7 u8, us = [u0, u1, u2, u3, u4, u5, u6, u7, u8] := by
  obtain ⟨u0, t, rfl⟩ := List.exists_cons_of_length_eq_add_one h
  obtain ⟨u1, u2, u3, u4, u5, u6, u7, u8, rfl⟩ := len8 (by simpa using h)
  exact ⟨u0, u1, u2, u3, u4, u5, u6, u7, u8, rfl⟩
theorem len10 {us : List Value} (h : us.length = 10) : ∃ u0 u1 u2 u3 u4 u5 u6 u7 u8 u9, us = [u0, u1, u2, u3, u4, u5, u6, u7, u8, u9] := by
  obtain ⟨u0, t, rfl⟩ := List.exists_cons_of_length_eq_add_one h
  obtain ⟨u1, u2, u3, u4, u5, u6, u7, u8, u9, rfl⟩ := len9 (by simpa using h)
  exact ⟨u0, u1, u2, u3, u4, u5, u6, u7, u8, u9, rfl⟩
theorem len11 {us : List Value} (h : us.length = 11) : ∃ u0 u1 u2 u3 u4 u5 u6 u7 u8 u9 u10, us = [u0, u1, u2, u3, u4, u5, u6, u7, u8, u9, u10] := by
  obtain ⟨u0, t, rfl⟩ := List.exists_cons_of_length_eq_add_one h
  obtain ⟨u1, u2, u3, u4, u5, u6, u7, u8, u9, u10, rfl⟩ := len10 (by simpa using h)
  exact ⟨u0, u1, u2, u3, u4, u5, u6, u7, u8, u9, u10, rfl⟩
theorem len12 {us : List Value} (h : us.length = 12) : ∃ u0 u1 u2 u3 u4 u5 u6 u7 u8 u9 u10 u11, us = [u0, u1, u2, u3, u4, u5, u6, u7, u8, u9, u10, u11] := by
  obtain ⟨u0, t, rfl⟩ := List.exists_cons_of_length_eq_add_one h
  obtain ⟨u1, u2, u3, u4, u5, u6, u7, u8, u9, u10, u11, rfl⟩ := len11 (by simpa using h)
  exact ⟨u0, u1, u2, u3, u4, u5, u6, u7, u8, u9, u10, u11, rfl⟩
theorem len13 {us : List Value} (h : us.length = 13) : ∃ u0 u1 u2 u3 u4 u5 u6 u7 u8 u9 u10 u11 u12, us = [u0, u1, u2, u3, u4, u5, u6, u7, u8, u9, u10, u11, u12] := by
  obtain ⟨u0, t, rfl⟩ := List.exists_cons_of_length_eq_add_one h
  obtain ⟨u1, u2, u3, u4, u5, u6, u7, u8, u9, u10, u11, u12, rfl⟩ := len12 (by simpa using h)
  exact ⟨u0, u1, u2, u3, u4, u5, u6, u7, u8, u9, u10, u11, u12, rfl⟩
theorem len14 {us : List Value} (h : us.length = 14) : ∃ u0 u1 u2 u3 u4 u5 u6 u7 u8 u9 u10 u11 u12 u13, us = [u0, u1, u2, u3, u4, u5, u6, u7, u8, u9, u10, u11, u12, u13] := by
  obtain ⟨u0, t, rfl⟩ := List.exists_cons_of_length_eq_add_one h
  obtain ⟨u1, u2, u3, u4, u5, u6, u7, u8, u9, u10, u11, u12, u13, rfl⟩ := len13 (by simpa using h)
  exact ⟨u0, u1, u2, u3, u4, u5, u6, u7, u8, u9, u10, u11, u12, u13, rfl⟩
theorem len15 {us : List Value} (h : us.length = 15) : ∃ u0 u1 u2 u3 u4 u5 u6 u7 u8 u9 u10 u11 u12 u13 u14, us = [u0, u1, u2, u3, u4, u5, u6, u7, u8, u9, u10, u11, u12, u13, u14] := by
  obtain ⟨u0, t, rfl⟩ := List.exists_cons_of_length_eq_add_one h
  obtain ⟨u1, u2, u3, u4, u5, u6, u7, u8, u9, u10, u11, u12, u13, u14, rfl⟩ := len14 (by simpa using h)
  exact ⟨u0, u1, u2, u3, u4, u5, u6, u7, u8, u9, u10, u11, u12, u13, u14, rfl⟩
theorem len16 {us : List Value} (h : us.length = 16) : ∃ u0 u1 u2 u3 u4 u5 u6 u7 u8 u9 u10 u11 u12 u13 u14 u15, us = [u0, u1, u2, u3, u4, u5, u6, u7, u8, u9, u10, u11, u12, u13, u14, u15] := by
  obtain ⟨u0, t, rfl⟩ := List.exists_cons_of_length_eq_add_one h
  obtain ⟨u1, u2, u3, u4, u5, u6, u7, u8, u9, u10, u11, u12, u13, u14, u15, rfl⟩ := len15 (by simpa using h)
  exact ⟨u0, u1, u2, u3, u4, u5, u6, u7, u8, u9, u10, u11, u12, u13, u14, u15, rfl⟩
theorem len17 {us : List Value} (h : us.length = 17) : ∃ u0 u1 u2 u3 u4 u5 u6 u7 u8 u9 u10 u11 u12 u13 u14 u15 u16, us = [u0, u1, u2, u3, u4, u5, u6, u7, u8, u9, u10, u11, u12, u13, u14, u15, u16] := by
  obtain ⟨u0, t, rfl⟩ := List.exists_cons_of_length_eq_add_one h
  obtain ⟨u1, u2, u3, u4, u5, u6, u7, u8, u9, u10, u11, u12, u13, u14, u15, u16, rfl⟩ := len16 (by simpa using h)
  exact ⟨u0, u1, u2, u3, u4, u5, u6, u7, u8, u9, u10, u11, u12, u13, u14, u15, u16, rfl⟩
theorem len18 {us : List Value} (h : us.length = 18) : ∃ u0 u1 u2 u3 u4 u5 u6 u7 u8 u9 u10 u11 u12 u13 u14 u15 u16 u17, us = [u0, u1, u2, u3, u4, u5, u6, u7, u8, u9, u10, u11, u12, u13, u14, u15, u16, u17] := by
  obtain ⟨u0, t, rfl⟩ := List.exists_cons_of_length_eq_add_one h
  obtain ⟨u1, u2, u3, u4, u5, u6, u7, u8, u9, u10, u11, u12, u13, u14, u15, u16, u17, rfl⟩ := len17 (by simpa using h)
  exact ⟨u0, u1, u2, u3, u4, u5, u6, u7, u8, u9, u10, u11, u12, u13, u14, u15, u16, u17, rfl⟩
theorem onlyN {Q : Exit → Act → World → Prop} {a : Act} {w : World} (h : Q .normal a w) : onlyNormal Q .normal a w := ⟨rfl, h⟩
end Go.Proofs.YtdlhkhnoigbhjaaDoor.Lb
namespace Go.Proofs.YtdlhkhnoigbhjaaDoor.Lb
open Go
theorem len19 {us : List Value} (h : us.length = 19) : ∃ u0 u1 u2 u3 u4 u5 u6 u7 u8 u9 u10 u11 u12 u13 u14 u15 u16 u17 u18, us = [u0, u1, u2, u3, u4, u5, u6, u7, u8, u9, u10, u11, u12, u13, u14, u15, u16, u17, u18] := by
  obtain ⟨u0, t, rfl⟩ := List.exists_cons_of_length_eq_add_one h
  obtain ⟨u1, u2, u3, u4, u5, u6, u7, u8, u9, u10, u11, u12, u13, u14, u15, u16, u17, u18, rfl⟩ := len18 (by simpa using h)
  exact ⟨u0, u1, u2, u3, u4, u5, u6, u7, u8, u9, u10, u11, u12, u13, u14, u15, u16, u17, u18, rfl⟩
theorem len20 {us : List Value} (h : us.length = 20) : ∃ u0 u1 u2 u3 u4 u5 u6 u7 u8 u9 u10 u11 u12 u13 u14 u15 u16 u17 u18 u19, us = [u0, u1, u2, u3, u4, u5, u6, u7, u8, u9, u10, u11, u12, u13, u14, u15, u16, u17, u18, u19] := by
  obtain ⟨u0, t, rfl⟩ := List.exists_cons_of_length_eq_add_one h
  obtain ⟨u1, u2, u3, u4, u5, u6, u7, u8, u9, u10, u11, u12, u13, u14, u15, u16, u17, u18, u19, rfl⟩ := len19 (by simpa using h)
  exact ⟨u0, u1, u2, u3, u4, u5, u6, u7, u8, u9, u10, u11, u12, u13, u14, u15, u16, u17, u18, u19, rfl⟩
theorem len21 {us : List Value} (h : us.length = 21) : ∃ u0 u1 u2 u3 u4 u5 u6 u7 u8 u9 u10 u11 u12 u13 u14 u15 u16 u17 u18 u19 u20, us = [u0, u1, u2, u3, u4, u5, u6, u7, u8, u9, u10, u11, u12, u13, u14, u15, u16, u17, u18, u19, u20] := by
  obtain ⟨u0, t, rfl⟩ := List.exists_cons_of_length_eq_add_one h
  obtain ⟨u1, u2, u3, u4, u5, u6, u7, u8, u9, u10, u11, u12, u13, u14, u15, u16, u17, u18, u19, u20, rfl⟩ := len20 (by simpa using h)
  exact ⟨u0, u1, u2, u3, u4, u5, u6, u7, u8, u9, u10, u11, u12, u13, u14, u15, u16, u17, u18, u19, u20, rfl⟩
theorem len22 {us : List Value} (h : us.length = 22) : ∃ u0 u1 u2 u3 u4 u5 u6 u7 u8 u9 u10 u11 u12 u13 u14 u15 u16 u17 u18 u19 u20 u21, us = [u0, u1, u2, u3, u4, u5, u6, u7, u8, u9, u10, u11, u12, u13, u14, u15, u16, u17, u18, u19, u20, u21] := by
  obtain ⟨u0, t, rfl⟩ := List.exists_cons_of_length_eq_add_one h
  obtain ⟨u1, u2, u3, u4, u5, u6, u7, u8, u9, u10, u11, u12, u13, u14, u15, u16, u17, u18, u19, u20, u21, rfl⟩ := len21 (by simpa using h)
  exact ⟨u0, u1, u2, u3, u4, u5, u6, u7, u8, u9, u10, u11, u12, u13, u14, u15, u16, u17, u18, u19, u20, u21, rfl⟩
theorem len23 {us : List Value} (h : us.length = 23) : ∃ u0 u1 u2 u3 u4 u5 u6 u7 u8 u9 u10 u11 u12 u13 u14 u15 u16 u17 u18 u19 u20 u21 u22, us = [u0, u1, u2, u3, u4, u5, u6, u7, u8, u9, u10, u11, u12, u13, u14, u15, u16, u17, u18, u19, u20, u21, u22] := by
  obtain ⟨u0, t, rfl⟩ := List.exists_cons_of_length_eq_add_one h
  obtain ⟨u1, u2, u3, u4, u5, u6, u7, u8, u9, u10, u11, u12, u13, u14, u15, u16, u17, u18, u19, u20, u21, u22, rfl⟩ := len22 (by simpa using h)
  exact ⟨u0, u1, u2, u3, u4, u5, u6, u7, u8, u9, u10, u11, u12, u13, u14, u15, u16, u17, u18, u19, u20, u21, u22, rfl⟩
end Go.Proofs.YtdlhkhnoigbhjaaDoor.Lb
namespace Go.Proofs.YtdlhkhnoigbhjaaDoor.Wi
open Go Go.RowKit Pu Lb
set_option linter.unusedSimpArgs false
set_option linter.unusedVariables false
theorem iv_ones (l : List Int) : ∀ u ∈ iv l, u.oneCell' = true := by
  intro u hu
  simp only [iv, List.mem_map] at hu
  obtain ⟨x, _, rfl⟩ := hu
  rfl
set_option maxRecDepth 100000 in
set_option maxHeartbeats 1600000 in
theorem compare_any : ∀ (t u : Tree) (cs ds : List Value) (w : World), IsT w t cs → IsT w u ds →
    Calls Tryd.prog 19 #[.agg cs.toArray, .agg ds.toArray] w fun e w' => e = .returned (.int .i64 (tcmp t u)) ∧ Below w.heap.size w w' := by
  refine Tree.ind fun k n m ts ih u cs ds w h1 h2 => ?_
  obtain ⟨k', n', m', us⟩ := u
  rw [IsT] at h1 h2
  obtain ⟨v, xs, rfl, hr, hts⟩ := h1
  obtain ⟨v', ys, rfl, hr', hts'⟩ := h2
  have A0 := Lib.hid (show ([.int .i64 k, .int .i64 n, .int .i64 m, v] : List Value)[0]? = some (.int .i64 k) from rfl)
  have A1 := Lib.hid (show ([.int .i64 k, .int .i64 n, .int .i64 m, v] : List Value)[1]? = some (.int .i64 n) from rfl)
  have A2 := Lib.hid (show ([.int .i64 k, .int .i64 n, .int .i64 m, v] : List Value)[2]? = some (.int .i64 m) from rfl)
  have A3 := Lib.hid (show ([.int .i64 k, .int .i64 n, .int .i64 m, v] : List Value)[3]? = some v from rfl)
  have C0 := Lib.hid (show ([.int .i64 k', .int .i64 n', .int .i64 m', v'] : List Value)[0]? = some (.int .i64 k') from rfl)
  have C1 := Lib.hid (show ([.int .i64 k', .int .i64 n', .int .i64 m', v'] : List Value)[1]? = some (.int .i64 n') from rfl)
  have C2 := Lib.hid (show ([.int .i64 k', .int .i64 n', .int .i64 m', v'] : List Value)[2]? = some (.int .i64 m') from rfl)
  have C3 := Lib.hid (show ([.int .i64 k', .int .i64 n', .int .i64 m', v'] : List Value)[3]? = some v' from rfl)
  have IH := Lib.hid ih
  have HR := Lib.hid (show tcmp (.mk k n m ts) (.mk k' n' m' us) = orI [sgn k k', sgn n n', sgn m m', tcmps ts us] by rw [tcmp])
  clear ih
  go_enter Tryd.func19, Tryd.ntmps19
  have hb := Below.refl w.heap.size w
  go_upto_region 1 with (first
    | (((with_reducible refine' wpList_boxa (cs := [.int .i64 k, .int .i64 n, .int .i64 m, v]) 25 (.tmp 0) rfl ?_ ?_ ?_); exact rfl; exact rfl; intro w1 kA hN hz1; simp only [Act.put, List.setIfInBounds_toArray, List.set_cons_succ, List.set_cons_zero]); replace hb := hb.trans ((by exact hN : Below _ _ _).mono hb.size); have y1 := hb.size; have lA := kA.lt)
    | (((with_reducible refine' wpList_boxa (cs := [.int .i64 k', .int .i64 n', .int .i64 m', v']) 25 (.tmp 1) rfl ?_ ?_ ?_); exact rfl; exact rfl; intro w2 kB hN hz2; simp only [Act.put, List.setIfInBounds_toArray, List.set_cons_succ, List.set_cons_zero]); replace kA := kA.below hN lA; replace hb := hb.trans ((by exact hN : Below _ _ _).mono hb.size)))
  obtain ⟨BA, hBA⟩ : ∃ B, w.heap.size = B := ⟨_, rfl⟩
  obtain ⟨BB, hBB⟩ : ∃ B, w1.heap.size = B := ⟨_, rfl⟩
  rw [hBB] at kB ⊢
  have hbb := hb
  rw [hBA] at kA ⊢
  have lA := kA.lt
  have lB := kB.lt
  have r1 := hr.below hbb
  have r2 := hr'.below hbb
  have s1 := Lib.hid (IsTs.below hbb hts)
  have s2 := Lib.hid (IsTs.below hbb hts')
  have HBA := Lib.hid hBA
  clear hr hr' hts hts' hBA hBB hz1 hz2 hN hbb
  obtain ⟨c, hc⟩ : ∃ c, tcmps ts us = c := ⟨_, rfl⟩
  have HC := Lib.hid hc
  rw [hc] at HR
  obtain ⟨a1, ha1⟩ : ∃ c, sgn k k' = c := ⟨_, rfl⟩
  obtain ⟨a2, ha2⟩ : ∃ c, sgn n n' = c := ⟨_, rfl⟩
  obtain ⟨a3, ha3⟩ : ∃ c, sgn m m' = c := ⟨_, rfl⟩
  rw [ha1, ha2, ha3] at HR
  have H1 := Lib.hid ha1
  have H2 := Lib.hid ha2
  have H3 := Lib.hid ha3
  clear hc ha1 ha2 ha3
  obtain ⟨ws, rfl⟩ : ∃ ws : World, ws = w2 := ⟨_, rfl⟩
  refine wp_region_mono (w := ws) 22 (fun i => match i with | 0 => fun (vv : Value) (ww : World) => vv = .pointer (some ⟨BA, 0, none⟩) | 1 => fun (vv : Value) (ww : World) => vv = .int .i64 k | 2 => fun (vv : Value) (ww : World) => vv = .pointer (some ⟨BB, 0, none⟩) | 3 => fun (vv : Value) (ww : World) => vv = .int .i64 k' | 4 => fun (vv : Value) (ww : World) => vv = .int .i64 a1 | 5 => fun (vv : Value) (ww : World) => vv = .pointer (some ⟨BA, 1, none⟩) | 6 => fun (vv : Value) (ww : World) => vv = .int .i64 n | 7 => fun (vv : Value) (ww : World) => vv = .pointer (some ⟨BB, 1, none⟩) | 8 => fun (vv : Value) (ww : World) => vv = .int .i64 n' | 9 => fun (vv : Value) (ww : World) => vv = .int .i64 a2 | 10 => fun (vv : Value) (ww : World) => vv = .pointer (some ⟨BA, 2, none⟩) | 11 => fun (vv : Value) (ww : World) => vv = .int .i64 m | 12 => fun (vv : Value) (ww : World) => vv = .pointer (some ⟨BB, 2, none⟩) | 13 => fun (vv : Value) (ww : World) => vv = .int .i64 m' | 14 => fun (vv : Value) (ww : World) => vv = .int .i64 a3 | 15 => fun (vv : Value) (ww : World) => vv = .pointer (some ⟨BA, 3, none⟩) | 16 => fun (vv : Value) (ww : World) => vv = v | 17 => fun (vv : Value) (ww : World) => vv = .pointer (some ⟨BB, 3, none⟩) | 18 => fun (vv : Value) (ww : World) => vv = v' | 19 => fun (vv : Value) (ww : World) => vv = .int .i64 c | 20 => fun (vv : Value) (ww : World) => Rd ww 1 vv 4 (iv [a1, a2, a3, c]) | 21 => fun (vv : Value) (ww : World) => vv = .int .i64 (orI [a1, a2, a3, c]) | _ => fun _ _ => True) (by kernel_rfl) (by kernel_rfl) ?_ ?_ ?_
  · intro i vv w1 w2 h hb
    rcases i with _ | _ | _ | _ | _ | _ | _ | _ | _ | _ | _ | _ | _ | _ | _ | _ | _ | _ | _ | _ | _ | _ | i
    all_goals first | exact h | exact Rd.below h hb | exact own_below h hb | (obtain ⟨B, h1, h2, h3⟩ := h; exact ⟨B, h1, h2, Blk.below h3 hb (Blk.lt h3)⟩) | trivial
  · intro i o hi ho us wz hl hbz hd
    obtain ⟨u0, u1, u2, u3, u4, u5, u6, u7, u8, u9, u10, u11, u12, u13, u14, u15, u16, u17, u18, u19, u20, u21, rfl⟩ := len22 hl
    rcases i with _ | _ | _ | _ | _ | _ | _ | _ | _ | _ | _ | _ | _ | _ | _ | _ | _ | _ | _ | _ | _ | _ | i
    · simp only [List.getElem?_cons_succ, List.getElem?_cons_zero, Option.some.injEq] at ho; subst ho; clear hi hl
      clear hd
      simp only [List.take_succ_cons, List.take_zero, List.drop_succ_cons, List.drop_zero, List.map_cons, List.map_nil, puts, Act.put, List.setIfInBounds_toArray, List.set_cons_succ, List.set_cons_zero]
      go_wp2_with (((with_reducible refine' wpList_field_blk (j := 0) (.tmp 2) 25 0 rfl ?_ fo_node_0 ?_ rfl ?_); exact rfl; exact rfl; simp only [Act.put, List.setIfInBounds_toArray, List.set_cons_succ, List.set_cons_zero]))
      exact ⟨rfl, _, rfl, Below.refl _ _, rfl⟩
    · simp only [List.getElem?_cons_succ, List.getElem?_cons_zero, Option.some.injEq] at ho; subst ho; clear hi hl
      have s0 : (fun (vv : Value) (ww : World) => vv = .pointer (some ⟨BA, 0, none⟩)) u0 wz := hd 0 (by kernel_rfl)
      simp only at s0
      obtain rfl := s0
      clear hd
      simp only [List.take_succ_cons, List.take_zero, List.drop_succ_cons, List.drop_zero, List.map_cons, List.map_nil, puts, Act.put, List.setIfInBounds_toArray, List.set_cons_succ, List.set_cons_zero]
      go_wp2_with (((with_reducible refine' wpList_load_blk (.tmp 5) 3 rfl ?_ ld_int ?_ (kA.below hbz lA) (A0.out) ?_); exact rfl; exact rfl; simp only [Act.put, List.setIfInBounds_toArray, List.set_cons_succ, List.set_cons_zero]))
      exact ⟨rfl, _, rfl, Below.refl _ _, rfl⟩
    · simp only [List.getElem?_cons_succ, List.getElem?_cons_zero, Option.some.injEq] at ho; subst ho; clear hi hl
      clear hd
      simp only [List.take_succ_cons, List.take_zero, List.drop_succ_cons, List.drop_zero, List.map_cons, List.map_nil, puts, Act.put, List.setIfInBounds_toArray, List.set_cons_succ, List.set_cons_zero]
      go_wp2_with (((with_reducible refine' wpList_field_blk (j := 0) (.tmp 3) 25 0 rfl ?_ fo_node_0 ?_ rfl ?_); exact rfl; exact rfl; simp only [Act.put, List.setIfInBounds_toArray, List.set_cons_succ, List.set_cons_zero]))
      exact ⟨rfl, _, rfl, Below.refl _ _, rfl⟩
    · simp only [List.getElem?_cons_succ, List.getElem?_cons_zero, Option.some.injEq] at ho; subst ho; clear hi hl
      have s2 : (fun (vv : Value) (ww : World) => vv = .pointer (some ⟨BB, 0, none⟩)) u2 wz := hd 2 (by kernel_rfl)
      simp only at s2
      obtain rfl := s2
      clear hd
      simp only [List.take_succ_cons, List.take_zero, List.drop_succ_cons, List.drop_zero, List.map_cons, List.map_nil, puts, Act.put, List.setIfInBounds_toArray, List.set_cons_succ, List.set_cons_zero]
      go_wp2_with (((with_reducible refine' wpList_load_blk (.tmp 7) 3 rfl ?_ ld_int ?_ (kB.below hbz lB) (C0.out) ?_); exact rfl; exact rfl; simp only [Act.put, List.setIfInBounds_toArray, List.set_cons_succ, List.set_cons_zero]))
      exact ⟨rfl, _, rfl, Below.refl _ _, rfl⟩
    · simp only [List.getElem?_cons_succ, List.getElem?_cons_zero, Option.some.injEq] at ho; subst ho; clear hi hl
      have s1 : (fun (vv : Value) (ww : World) => vv = .int .i64 k) u1 wz := hd 1 (by kernel_rfl)
      simp only at s1
      obtain rfl := s1
      have s3 : (fun (vv : Value) (ww : World) => vv = .int .i64 k') u3 wz := hd 3 (by kernel_rfl)
      simp only at s3
      obtain rfl := s3
      clear hd
      simp only [List.take_succ_cons, List.take_zero, List.drop_succ_cons, List.drop_zero, List.map_cons, List.map_nil, puts, Act.put, List.setIfInBounds_toArray, List.set_cons_succ, List.set_cons_zero]
      go_wp2_with (((go_at_call 50; (with_reducible refine (cmpint_any k k' _).mono ?_); rintro e w' ⟨rfl, rfl⟩); rw [H1.out]))
      exact ⟨rfl, _, rfl, Below.refl _ _, rfl⟩
    · simp only [List.getElem?_cons_succ, List.getElem?_cons_zero, Option.some.injEq] at ho; subst ho; clear hi hl
      clear hd
      simp only [List.take_succ_cons, List.take_zero, List.drop_succ_cons, List.drop_zero, List.map_cons, List.map_nil, puts, Act.put, List.setIfInBounds_toArray, List.set_cons_succ, List.set_cons_zero]
      go_wp2_with (((with_reducible refine' wpList_field_blk (j := 1) (.tmp 2) 25 1 rfl ?_ fo_node_1 ?_ rfl ?_); exact rfl; exact rfl; simp only [Act.put, List.setIfInBounds_toArray, List.set_cons_succ, List.set_cons_zero]))
      exact ⟨rfl, _, rfl, Below.refl _ _, rfl⟩
    · simp only [List.getElem?_cons_succ, List.getElem?_cons_zero, Option.some.injEq] at ho; subst ho; clear hi hl
      have s5 : (fun (vv : Value) (ww : World) => vv = .pointer (some ⟨BA, 1, none⟩)) u5 wz := hd 5 (by kernel_rfl)
      simp only at s5
      obtain rfl := s5
      clear hd
      simp only [List.take_succ_cons, List.take_zero, List.drop_succ_cons, List.drop_zero, List.map_cons, List.map_nil, puts, Act.put, List.setIfInBounds_toArray, List.set_cons_succ, List.set_cons_zero]
      go_wp2_with (((with_reducible refine' wpList_load_blk (.tmp 10) 3 rfl ?_ ld_int ?_ (kA.below hbz lA) (A1.out) ?_); exact rfl; exact rfl; simp only [Act.put, List.setIfInBounds_toArray, List.set_cons_succ, List.set_cons_zero]))
      exact ⟨rfl, _, rfl, Below.refl _ _, rfl⟩
    · simp only [List.getElem?_cons_succ, List.getElem?_cons_zero, Option.some.injEq] at ho; subst ho; clear hi hl
      clear hd
      simp only [List.take_succ_cons, List.take_zero, List.drop_succ_cons, List.drop_zero, List.map_cons, List.map_nil, puts, Act.put, List.setIfInBounds_toArray, List.set_cons_succ, List.set_cons_zero]
      go_wp2_with (((with_reducible refine' wpList_field_blk (j := 1) (.tmp 3) 25 1 rfl ?_ fo_node_1 ?_ rfl ?_); exact rfl; exact rfl; simp only [Act.put, List.setIfInBounds_toArray, List.set_cons_succ, List.set_cons_zero]))
      exact ⟨rfl, _, rfl, Below.refl _ _, rfl⟩
    · simp only [List.getElem?_cons_succ, List.getElem?_cons_zero, Option.some.injEq] at ho; subst ho; clear hi hl
      have s7 : (fun (vv : Value) (ww : World) => vv = .pointer (some ⟨BB, 1, none⟩)) u7 wz := hd 7 (by kernel_rfl)
      simp only at s7
      obtain rfl := s7
      clear hd
      simp only [List.take_succ_cons, List.take_zero, List.drop_succ_cons, List.drop_zero, List.map_cons, List.map_nil, puts, Act.put, List.setIfInBounds_toArray, List.set_cons_succ, List.set_cons_zero]
      go_wp2_with (((with_reducible refine' wpList_load_blk (.tmp 12) 3 rfl ?_ ld_int ?_ (kB.below hbz lB) (C1.out) ?_); exact rfl; exact rfl; simp only [Act.put, List.setIfInBounds_toArray, List.set_cons_succ, List.set_cons_zero]))
      exact ⟨rfl, _, rfl, Below.refl _ _, rfl⟩
    · simp only [List.getElem?_cons_succ, List.getElem?_cons_zero, Option.some.injEq] at ho; subst ho; clear hi hl
      have s6 : (fun (vv : Value) (ww : World) => vv = .int .i64 n) u6 wz := hd 6 (by kernel_rfl)
      simp only at s6
      obtain rfl := s6
      have s8 : (fun (vv : Value) (ww : World) => vv = .int .i64 n') u8 wz := hd 8 (by kernel_rfl)
      simp only at s8
      obtain rfl := s8
      clear hd
      simp only [List.take_succ_cons, List.take_zero, List.drop_succ_cons, List.drop_zero, List.map_cons, List.map_nil, puts, Act.put, List.setIfInBounds_toArray, List.set_cons_succ, List.set_cons_zero]
      go_wp2_with (((go_at_call 50; (with_reducible refine (cmpint_any n n' _).mono ?_); rintro e w' ⟨rfl, rfl⟩); rw [H2.out]))
      exact ⟨rfl, _, rfl, Below.refl _ _, rfl⟩
    · simp only [List.getElem?_cons_succ, List.getElem?_cons_zero, Option.some.injEq] at ho; subst ho; clear hi hl
      clear hd
      simp only [List.take_succ_cons, List.take_zero, List.drop_succ_cons, List.drop_zero, List.map_cons, List.map_nil, puts, Act.put, List.setIfInBounds_toArray, List.set_cons_succ, List.set_cons_zero]
      go_wp2_with (((with_reducible refine' wpList_field_blk (j := 2) (.tmp 2) 25 2 rfl ?_ fo_node_2 ?_ rfl ?_); exact rfl; exact rfl; simp only [Act.put, List.setIfInBounds_toArray, List.set_cons_succ, List.set_cons_zero]))
      exact ⟨rfl, _, rfl, Below.refl _ _, rfl⟩
    · simp only [List.getElem?_cons_succ, List.getElem?_cons_zero, Option.some.injEq] at ho; subst ho; clear hi hl
      have s10 : (fun (vv : Value) (ww : World) => vv = .pointer (some ⟨BA, 2, none⟩)) u10 wz := hd 10 (by kernel_rfl)
      simp only at s10
      obtain rfl := s10
      clear hd
      simp only [List.take_succ_cons, List.take_zero, List.drop_succ_cons, List.drop_zero, List.map_cons, List.map_nil, puts, Act.put, List.setIfInBounds_toArray, List.set_cons_succ, List.set_cons_zero]
      go_wp2_with (((with_reducible refine' wpList_load_blk (.tmp 15) 3 rfl ?_ ld_int ?_ (kA.below hbz lA) (A2.out) ?_); exact rfl; exact rfl; simp only [Act.put, List.setIfInBounds_toArray, List.set_cons_succ, List.set_cons_zero]))
      exact ⟨rfl, _, rfl, Below.refl _ _, rfl⟩
    · simp only [List.getElem?_cons_succ, List.getElem?_cons_zero, Option.some.injEq] at ho; subst ho; clear hi hl
      clear hd
      simp only [List.take_succ_cons, List.take_zero, List.drop_succ_cons, List.drop_zero, List.map_cons, List.map_nil, puts, Act.put, List.setIfInBounds_toArray, List.set_cons_succ, List.set_cons_zero]
      go_wp2_with (((with_reducible refine' wpList_field_blk (j := 2) (.tmp 3) 25 2 rfl ?_ fo_node_2 ?_ rfl ?_); exact rfl; exact rfl; simp only [Act.put, List.setIfInBounds_toArray, List.set_cons_succ, List.set_cons_zero]))
      exact ⟨rfl, _, rfl, Below.refl _ _, rfl⟩
    · simp only [List.getElem?_cons_succ, List.getElem?_cons_zero, Option.some.injEq] at ho; subst ho; clear hi hl
      have s12 : (fun (vv : Value) (ww : World) => vv = .pointer (some ⟨BB, 2, none⟩)) u12 wz := hd 12 (by kernel_rfl)
      simp only at s12
      obtain rfl := s12
      clear hd
      simp only [List.take_succ_cons, List.take_zero, List.drop_succ_cons, List.drop_zero, List.map_cons, List.map_nil, puts, Act.put, List.setIfInBounds_toArray, List.set_cons_succ, List.set_cons_zero]
      go_wp2_with (((with_reducible refine' wpList_load_blk (.tmp 17) 3 rfl ?_ ld_int ?_ (kB.below hbz lB) (C2.out) ?_); exact rfl; exact rfl; simp only [Act.put, List.setIfInBounds_toArray, List.set_cons_succ, List.set_cons_zero]))
      exact ⟨rfl, _, rfl, Below.refl _ _, rfl⟩
    · simp only [List.getElem?_cons_succ, List.getElem?_cons_zero, Option.some.injEq] at ho; subst ho; clear hi hl
      have s11 : (fun (vv : Value) (ww : World) => vv = .int .i64 m) u11 wz := hd 11 (by kernel_rfl)
      simp only at s11
      obtain rfl := s11
      have s13 : (fun (vv : Value) (ww : World) => vv = .int .i64 m') u13 wz := hd 13 (by kernel_rfl)
      simp only at s13
      obtain rfl := s13
      clear hd
      simp only [List.take_succ_cons, List.take_zero, List.drop_succ_cons, List.drop_zero, List.map_cons, List.map_nil, puts, Act.put, List.setIfInBounds_toArray, List.set_cons_succ, List.set_cons_zero]
      go_wp2_with (((go_at_call 50; (with_reducible refine (cmpint_any m m' _).mono ?_); rintro e w' ⟨rfl, rfl⟩); rw [H3.out]))
      exact ⟨rfl, _, rfl, Below.refl _ _, rfl⟩
    · simp only [List.getElem?_cons_succ, List.getElem?_cons_zero, Option.some.injEq] at ho; subst ho; clear hi hl
      clear hd
      simp only [List.take_succ_cons, List.take_zero, List.drop_succ_cons, List.drop_zero, List.map_cons, List.map_nil, puts, Act.put, List.setIfInBounds_toArray, List.set_cons_succ, List.set_cons_zero]
      go_wp2_with (((with_reducible refine' wpList_field_blk (j := 3) (.tmp 2) 25 3 rfl ?_ fo_node_3 ?_ rfl ?_); exact rfl; exact rfl; simp only [Act.put, List.setIfInBounds_toArray, List.set_cons_succ, List.set_cons_zero]))
      exact ⟨rfl, _, rfl, Below.refl _ _, rfl⟩
    · simp only [List.getElem?_cons_succ, List.getElem?_cons_zero, Option.some.injEq] at ho; subst ho; clear hi hl
      have s15 : (fun (vv : Value) (ww : World) => vv = .pointer (some ⟨BA, 3, none⟩)) u15 wz := hd 15 (by kernel_rfl)
      simp only at s15
      obtain rfl := s15
      clear hd
      simp only [List.take_succ_cons, List.take_zero, List.drop_succ_cons, List.drop_zero, List.map_cons, List.map_nil, puts, Act.put, List.setIfInBounds_toArray, List.set_cons_succ, List.set_cons_zero]
      go_wp2_with (((with_reducible refine' wpList_load_blk (.tmp 20) 23 rfl ?_ ld_nds ?_ (kA.below hbz lA) (A3.out) ?_); exact rfl; exact rfl; simp only [Act.put, List.setIfInBounds_toArray, List.set_cons_succ, List.set_cons_zero]))
      exact ⟨rfl, _, rfl, Below.refl _ _, rfl⟩
    · simp only [List.getElem?_cons_succ, List.getElem?_cons_zero, Option.some.injEq] at ho; subst ho; clear hi hl
      clear hd
      simp only [List.take_succ_cons, List.take_zero, List.drop_succ_cons, List.drop_zero, List.map_cons, List.map_nil, puts, Act.put, List.setIfInBounds_toArray, List.set_cons_succ, List.set_cons_zero]
      go_wp2_with (((with_reducible refine' wpList_field_blk (j := 3) (.tmp 3) 25 3 rfl ?_ fo_node_3 ?_ rfl ?_); exact rfl; exact rfl; simp only [Act.put, List.setIfInBounds_toArray, List.set_cons_succ, List.set_cons_zero]))
      exact ⟨rfl, _, rfl, Below.refl _ _, rfl⟩
    · simp only [List.getElem?_cons_succ, List.getElem?_cons_zero, Option.some.injEq] at ho; subst ho; clear hi hl
      have s17 : (fun (vv : Value) (ww : World) => vv = .pointer (some ⟨BB, 3, none⟩)) u17 wz := hd 17 (by kernel_rfl)
      simp only at s17
      obtain rfl := s17
      clear hd
      simp only [List.take_succ_cons, List.take_zero, List.drop_succ_cons, List.drop_zero, List.map_cons, List.map_nil, puts, Act.put, List.setIfInBounds_toArray, List.set_cons_succ, List.set_cons_zero]
      go_wp2_with (((with_reducible refine' wpList_load_blk (.tmp 22) 23 rfl ?_ ld_nds ?_ (kB.below hbz lB) (C3.out) ?_); exact rfl; exact rfl; simp only [Act.put, List.setIfInBounds_toArray, List.set_cons_succ, List.set_cons_zero]))
      exact ⟨rfl, _, rfl, Below.refl _ _, rfl⟩
    · simp only [List.getElem?_cons_succ, List.getElem?_cons_zero, Option.some.injEq] at ho; subst ho; clear hi hl
      have s16 : (fun (vv : Value) (ww : World) => vv = v) u16 wz := hd 16 (by kernel_rfl)
      simp only at s16
      obtain rfl := s16
      have s18 : (fun (vv : Value) (ww : World) => vv = v') u18 wz := hd 18 (by kernel_rfl)
      simp only at s18
      obtain rfl := s18
      clear hd
      simp only [List.take_succ_cons, List.take_zero, List.drop_succ_cons, List.drop_zero, List.map_cons, List.map_nil, puts, Act.put, List.setIfInBounds_toArray, List.set_cons_succ, List.set_cons_zero]
      go_wp2_with (((go_at_call 51; (with_reducible refine (cmpfunc_any ts us _ _ xs ys _ (r1.below hbz) (IsTs.below hbz s1.out) (r2.below hbz) (IsTs.below hbz s2.out) IH.out).mono ?_); rintro e w' ⟨rfl, hq⟩); rw [HC.out]))
      exact ⟨rfl, _, rfl, hq, rfl⟩
    · simp only [List.getElem?_cons_succ, List.getElem?_cons_zero, Option.some.injEq] at ho; subst ho; clear hi hl
      have s4 : (fun (vv : Value) (ww : World) => vv = .int .i64 a1) u4 wz := hd 4 (by kernel_rfl)
      simp only at s4
      obtain rfl := s4
      have s9 : (fun (vv : Value) (ww : World) => vv = .int .i64 a2) u9 wz := hd 9 (by kernel_rfl)
      simp only at s9
      obtain rfl := s9
      have s14 : (fun (vv : Value) (ww : World) => vv = .int .i64 a3) u14 wz := hd 14 (by kernel_rfl)
      simp only at s14
      obtain rfl := s14
      have s19 : (fun (vv : Value) (ww : World) => vv = .int .i64 c) u19 wz := hd 19 (by kernel_rfl)
      simp only at s19
      obtain rfl := s19
      clear hd
      simp only [List.take_succ_cons, List.take_zero, List.drop_succ_cons, List.drop_zero, List.map_cons, List.map_nil, puts, Act.put, List.setIfInBounds_toArray, List.set_cons_succ, List.set_cons_zero]
      go_wp2_with (((with_reducible refine' wpList_build_cs (cs := iv [a1, a2, a3, c]) rfl ?_ Tryd.underlying22 inf_int ?_ ?_ ?_ ?_ ?_ ?_); exact rfl; exact rfl; omega; omega; exact rfl; exact iv_ones _; intro vl wl rl hq; simp only [Act.put, List.setIfInBounds_toArray, List.set_cons_succ, List.set_cons_zero]))
      exact ⟨rfl, _, rfl, hq, rl⟩
    · simp only [List.getElem?_cons_succ, List.getElem?_cons_zero, Option.some.injEq] at ho; subst ho; clear hi hl
      have s20 : (fun (vv : Value) (ww : World) => Rd ww 1 vv 4 (iv [a1, a2, a3, c])) u20 wz := hd 20 (by kernel_rfl)
      simp only at s20
      clear hd
      simp only [List.take_succ_cons, List.take_zero, List.drop_succ_cons, List.drop_zero, List.map_cons, List.map_nil, puts, Act.put, List.setIfInBounds_toArray, List.set_cons_succ, List.set_cons_zero]
      go_wp2_with (((go_at_call 49; (with_reducible refine (or_any u20 4 [a1, a2, a3, c] _ s20).mono ?_); rintro e w' ⟨rfl, rfl⟩)))
      exact ⟨rfl, _, rfl, Below.refl _ _, rfl⟩
    · omega
  intro us wz hl hbz hS
  obtain ⟨u0, u1, u2, u3, u4, u5, u6, u7, u8, u9, u10, u11, u12, u13, u14, u15, u16, u17, u18, u19, u20, u21, rfl⟩ := len22 hl
  have s21 : (fun (vv : Value) (ww : World) => vv = .int .i64 (orI [a1, a2, a3, c])) u21 wz := hS 21 (by omega)
  simp only at s21
  obtain rfl := s21
  clear hS hl
  simp only [List.take_succ_cons, List.take_zero, List.drop_succ_cons, List.drop_zero, List.map_cons, List.map_nil, puts, Act.put, List.setIfInBounds_toArray, List.set_cons_succ, List.set_cons_zero]
  go_wp2_with fail
  refine onlyN ?_
  go_wp2_with fail
  go_ret
  exact ⟨by rw [HR.out]; rfl, hb.trans (hbz.mono hb.size)⟩
end Go.Proofs.YtdlhkhnoigbhjaaDoor.Wi
