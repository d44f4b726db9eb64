/-
  A region that draws its order: operations that only compute or read (in every world of a class they yield one value), beside operations that make memory in an order that is forced, and a tail that waits for all of them. One walk serves every order: first those that read, then the others. Over whatever program. Conditions: those that each law names.
-/
import Derived.Test.YtomjniijnpnehaaDoorBlk
import Derived.Deep.Quiet
namespace Go.Proofs.YtomjniijnpnehaaDoor.Lb
open Go Go.RowKit

section
variable {P : Program} {ops : Array Oper} {md : Region.Mode} {C : World → Prop} {T : Nat → Bool} {Q : Exit → Act → World → Prop}

/-- the only way on is the normal one -/
def onlyNormal (Q : Exit → Act → World → Prop) : Exit → Act → World → Prop := fun e a w => e = .normal ∧ Q .normal a w
theorem not_letsOut : ¬ LetsOut (onlyNormal Q) := by rintro ⟨_, _, h, _⟩; cases h
theorem wpOp_onlyNormal {i : Nat} {K K' : Act → World → Prop} {a : Act} {w : World} (hk : ∀ a w, K a w → K' a w) (h : wpOp P ops (onlyNormal Q) i K a w) : wpOp P ops Q i K' a w := by
  unfold wpOp at *
  split
  · rename_i ho; simp only [ho] at h; exact hk _ _ h
  · rename_i o ho
    simp only [ho] at h
    split
    · rename_i hw
      simp only [hw, if_true] at h
      rcases h with h | ⟨_, h⟩
      · refine .inl ?_
        unfold Oper.wp at *
        generalize (execOp a.eval o).run P w = r at *
        cases r with
        | ok n w' =>
          cases n <;> simp only [Oper.upon] at h ⊢
          case value u => exact hk _ _ h
          case skip => exact hk _ _ h
          case defer d => exact hk _ _ h
          case enter f args =>
            refine Calls.mono h fun e w'' he => ?_
            cases e with
            | returned u => exact hk _ _ he
            | panicked c => exact absurd he.1 (by simp)
            | outgrown => exact (not_letsOut he).elim
          case row row args => exact Rows.mono h fun u w'' he => hk _ _ he
        | halt x w' =>
          cases x <;> simp only [Oper.upon] at h ⊢
          case panic u => exact absurd h.1 (by simp)
      · exact (not_letsOut h).elim
    · rename_i hw; simp only [hw] at h; exact hk _ _ h

/-- whatever order is picked from here on; behind every operation but the tail's the world is one of the class -/
def wpAnyC (P : Program) (md : Region.Mode) (ops : Array Oper) (C : World → Prop) (T : Nat → Bool) (Q : Exit → Act → World → Prop) : Nat → Array Bool → Act → World → Prop
  | 0, listed, a, w => Region.ready md ops listed = [] ∧ Q .normal a w
  | fuel + 1, listed, a, w =>
    (Region.ready md ops listed = [] → Q .normal a w) ∧
    ∀ i ∈ Region.ready md ops listed, wpOp P ops (onlyNormal Q) i (fun a' w' => (T i = false → C w') ∧ wpAnyC P md ops C T Q fuel (listed.setIfInBounds i true) a' w') a w
theorem wpAny_of_C : ∀ (fuel : Nat) (listed : Array Bool) (a : Act) (w : World), wpAnyC P md ops C T Q fuel listed a w → wpAny P md ops Q fuel listed a w
  | 0, _, _, _, h => h
  | fuel + 1, _, _, _, h => ⟨h.1, fun i hi => wpOp_onlyNormal (fun a' w' h' => wpAny_of_C fuel _ a' w' h'.2) (h.2 i hi)⟩

/-- in state a, in every world of the class, operation o yields v and leaves the world alone -/
def YieldsC (P : Program) (ops : Array Oper) (C : World → Prop) (o : Oper) (v : Value) (a : Act) : Prop :=
  (Region.wanted o (yielded ops a.tmps) = true ∧ ∀ w, C w → (execOp a.eval o).run P w = .ok (.value v) w) ∨
  (Region.wanted o (yielded ops a.tmps) = false ∧ v = undef)
theorem YieldsC.wpOp {i : Nat} {o : Oper} {v : Value} {a : Act} (hi : ops[i]? = some o) (hy : YieldsC P ops C o v a)
    {K : Act → World → Prop} {w : World} (hw : C w) (h : K (a.put o.dst v) w) : wpOp P ops Q i K a w := by
  unfold Go.wpOp
  simp only [hi]
  rcases hy with ⟨hw', hv⟩ | ⟨hw', rfl⟩
  · simp only [hw', if_true, Oper.wp, hv w hw, Oper.upon]; exact .inl h
  · simp only [hw', Bool.false_eq_true, if_false]; exact h
theorem YieldsC.of_same {o : Oper} {v : Value} {a a' : Act} (hy : YieldsC P ops C o v a) (he : execOp a'.eval o = execOp a.eval o)
    (hw : Region.wanted o (yielded ops a'.tmps) = Region.wanted o (yielded ops a.tmps)) : YieldsC P ops C o v a' := by
  unfold YieldsC at *
  rw [he, hw]
  exact hy
theorem wpOp_putC {j : Nat} {oi oj : Oper} {v : Value} (hj : ops[j]? = some oj) (hap : oi.apart ops oj = true)
    (hsi : ∀ cs b, oi.op ≠ .select cs b) (hsj : ∀ cs b, oj.op ≠ .select cs b) {K : Act → World → Prop} {a : Act} {w : World}
    (hy : YieldsC P ops C oi v a) (h : wpOp P ops (onlyNormal Q) j K (a.put oi.dst v) w) :
    wpOp P ops (onlyNormal Q) j (fun a' w' => YieldsC P ops C oi v a' ∧ K (a'.put oi.dst v) w') a w := by
  obtain ⟨h1, h2, h3⟩ := Oper.apart_spec hap
  have keep : ∀ (a : Act), YieldsC P ops C oi v a → ∀ u, YieldsC P ops C oi v (a.put oj.dst u) := fun a hy u =>
    hy.of_same (execOp_put oi hsi a oj.dst u h3) (wanted_put oi a oj.dst u h3)
  have keepD : ∀ d, YieldsC P ops C oi v { a with defers := d :: a.defers } := fun d => hy.of_same rfl rfl
  unfold wpOp at *
  simp only [hj] at *
  rw [wanted_put oj a oi.dst v h1] at h
  split
  · rename_i hw
    simp only [hw, if_true] at h
    rcases h with h | ⟨_, h⟩
    case inr => exact (not_letsOut h).elim
    refine .inl ?_
    unfold Oper.wp at *
    rw [execOp_put oj hsj a oi.dst v h1] at h
    generalize (execOp a.eval oj).run P w = r at *
    cases r with
    | ok n w' =>
      cases n <;> simp only [Oper.upon] at h ⊢
      case value u => exact ⟨keep a hy u, by rw [← Act.put_comm a v u h2]; exact h⟩
      case skip => exact ⟨keep a hy _, by rw [← Act.put_comm a v undef h2]; exact h⟩
      case defer d =>
        refine ⟨keep _ (keepD d) _, ?_⟩
        rw [← Act.put_comm _ v undef h2, ← Act.put_defers]
        exact h
      case enter f args =>
        refine Calls.mono h fun e w'' he => ?_
        cases e with
        | returned u => exact ⟨keep a hy u, by rw [← Act.put_comm a v u h2]; exact he⟩
        | panicked c => exact absurd he.1 (by simp)
        | outgrown => exact he
      case row row args => exact Rows.mono h fun u w'' he => ⟨keep a hy u, by rw [← Act.put_comm a v u h2]; exact he⟩
    | halt x w' =>
      cases x <;> simp only [Oper.upon] at h ⊢
      case panic u => exact absurd h.1 (by simp)
  · rename_i hw
    simp only [hw] at h
    exact ⟨keep a hy _, by rw [← Act.put_comm a v undef h2]; exact h⟩

theorem getD_false_of {listed : Array Bool} {i : Nat} (h : listed.getD i true = false) : listed.getD i false = false := by
  rcases Nat.lt_or_ge i listed.size with h' | h'
  · simp [h'] at h ⊢; exact h
  · simp [Array.getElem?_eq_none h'] at h

/-- an operation that reads may be taken first -/
theorem wpAnyC_first {i : Nat} {oi : Oper} {v : Value} (hi : ops[i]? = some oi) (hsel : ∀ (j : Nat) (o : Oper) cs b, ops[j]? = some o → o.op ≠ .select cs b)
    (hT : ∀ j oj, T j = true → ops[j]? = some oj → ∃ e ∈ oj.after, Region.binds md e = true ∧ e.on = i) :
    ∀ (fuel : Nat) (listed : Array Bool) (a : Act) (w : World), C w →
      (∀ j oj, ops[j]? = some oj → j ≠ i → listed.getD j true = false → (∀ e ∈ oj.after, Region.binds md e = true → e.on ≠ i) → oi.apart ops oj = true) →
      i ∈ Region.ready md ops listed → YieldsC P ops C oi v a →
      wpAnyC P md ops C T Q fuel (listed.setIfInBounds i true) (a.put oi.dst v) w → wpAnyC P md ops C T Q (fuel + 1) listed a w := by
  intro fuel
  induction fuel with
  | zero =>
    intro listed a w hC _ hr hy H
    refine ⟨fun h => (by rw [h] at hr; cases hr), fun j hj => ?_⟩
    by_cases hji : j = i
    · subst hji; exact hy.wpOp hi hC ⟨fun _ => hC, H⟩
    · have := ready_mono hj hji
      rw [H.1] at this
      cases this
  | succ fuel ih =>
    intro listed a w hC hfree hr hy H
    refine ⟨fun h => (by rw [h] at hr; cases hr), fun j hj => ?_⟩
    by_cases hji : j = i
    · subst hji; exact hy.wpOp hi hC ⟨fun _ => hC, H⟩
    · have h1 := H.2 j (ready_mono hj hji)
      obtain ⟨hjun, oj, hoj, hall⟩ := mem_ready.1 hj
      have hnot : ∀ e ∈ oj.after, Region.binds md e = true → e.on ≠ i := fun e he hb heq => by
        have h1 := hall e he hb
        rw [heq, getD_false_of (mem_ready.1 hr).1] at h1
        cases h1
      have hTj : T j = false := by
        cases hb : T j with
        | false => rfl
        | true => obtain ⟨e, he, hbd, hon⟩ := hT j oj hb hoj; exact absurd hon (hnot e he hbd)
      have h2 := wpOp_putC hoj (hfree j oj hoj hji hjun hnot) (fun cs b => hsel i oi cs b hi) (fun cs b => hsel j oj cs b hoj) hy h1
      have hfree' : ∀ k ok, ops[k]? = some ok → k ≠ i → (listed.setIfInBounds j true).getD k true = false →
          (∀ e ∈ ok.after, Region.binds md e = true → e.on ≠ i) → oi.apart ops ok = true := fun k ok hk hki hun hno => by
        refine hfree k ok hk hki ?_ hno
        by_cases hjk : j = k
        · subst hjk; exact hjun
        · rw [getD_set_ne true hjk] at hun; exact hun
      refine wpOp_mono (fun a' w' h3 => ⟨fun _ => h3.2.1 hTj, ih (listed.setIfInBounds j true) a' w' (h3.2.1 hTj) hfree' (ready_mono hr (Ne.symm hji)) h3.1 ?_⟩) h2
      rw [Array.setIfInBounds_comm _ _ hji]
      exact h3.2.2

/-! ### the order that is walked -/
/-- the operations in the middle; behind each the world is one of the class -/
def wpMid (P : Program) (ops : Array Oper) (C : World → Prop) (Q : Exit → Act → World → Prop) (tl : List Oper) : List Oper → Act → World → Prop
  | [], a, w => wpList P ops (onlyNormal Q) tl a w
  | o :: l, a, w => if Region.wanted o (yielded ops a.tmps) then o.wp P a w (fun a' w' => C w' ∧ wpMid P ops C Q tl l a' w') (onlyNormal Q) else C w ∧ wpMid P ops C Q tl l (a.put o.dst undef) w
/-- one after the other, each the only one that may come up -/
def seqIx (md : Region.Mode) (ops : Array Oper) : List Nat → Array Bool → Bool
  | [], listed => (Region.ready md ops listed).isEmpty
  | k :: ks, listed => decide (Region.ready md ops listed = [k]) && seqIx md ops ks (listed.setIfInBounds k true)
def headIx (md : Region.Mode) (ops : Array Oper) (sq : List Nat) : List Nat → Array Bool → Bool
  | [], listed => seqIx md ops sq listed
  | k :: ks, listed => (Region.ready md ops listed).contains k && Region.free md ops listed k && headIx md ops sq ks (listed.setIfInBounds k true)
def waits (md : Region.Mode) (ops : Array Oper) (t i : Nat) : Bool :=
  match ops[t]? with
  | some o => o.after.any fun e => Region.binds md e && e.on == i
  | none => true
/-- what only computes or reads -/
def readsB (o : Oper) : Bool := match o.op with
  | .move _ | .assign _ | .load _ _ | .binOp _ _ _ _ _ | .unOp _ _ _ | .convert _ _ _ | .sliceToArrayPointer _ _ | .slice _ _ _ _ _ | .fieldAddr _ _ _ | .field _ _ _ | .indexAddr _ _ _ | .index _ _ _ | .build _ _ => true
  | .call c => match c.callee with | .builtin .len => true | _ => false
  | _ => false
def midB (md : Region.Mode) (ops : Array Oper) (hs ms ts : List Nat) : Bool :=
  Region.noSelect ops && decide (hs.length + (ms.length + ts.length) = ops.size) && ts.all (fun t => hs.all fun i => waits md ops t i) && hs.all (fun i => ((ops[i]?).map readsB).getD false) && headIx md ops (ms ++ ts) hs (Array.replicate ops.size false)

theorem val_only {s : Sem Value} {w w' : World} {n : Next} (h : (do pure (Next.value (← s)) : Sem Next).run P w = .ok n w') : ∃ u, n = .value u := by
  rw [Sem.run_bind] at h
  cases hs : s.run P w with
  | ok v w2 =>
    rw [hs, Result.andThen_ok, Sem.run_pure] at h
    injection h with h1 h2
    exact ⟨v, h1.symm⟩
  | halt x w2 =>
    rw [hs] at h
    cases h
theorem reads_only {o : Oper} (h : readsB o = true) {ρ : Operand → Value} {w w' : World} {n : Next} (hr : (execOp ρ o).run P w = .ok n w') : ∃ u, n = .value u := by
  unfold readsB at h
  split at h <;> try (cases h; done)
  all_goals (rename_i ho; unfold execOp at hr; simp only [ho] at hr)
  all_goals first
    | exact val_only hr
    | (simp only [Sem.run_pure] at hr; injection hr with h1 h2; exact ⟨_, h1.symm⟩)
    | skip
  split at h
  · rename_i hc
    simp only [resolve, hc, Sem.run_bind, Sem.run_pure, Result.andThen_ok, invoke, builtin] at hr
    cases hs : Sem.run P (Builtin.len_ _ o.type (Array.map ρ _)) w with
    | ok v w2 =>
      rw [hs, Result.andThen_ok] at hr
      injection hr with h1 h2
      exact ⟨v, h1.symm⟩
    | halt x w2 =>
      rw [hs] at hr
      cases hr
  · cases h

theorem yieldsC_of_quiet {o : Oper} {a : Act} {K : Act → Prop} (hr : readsB o = true) (h : if Region.wanted o (yielded ops a.tmps) then o.quiet P a C K else K (a.put o.dst undef)) : ∃ v, YieldsC P ops C o v a ∧ K (a.put o.dst v) := by
  by_cases hw : Region.wanted o (yielded ops a.tmps) = true
  · simp only [hw, if_true] at h
    obtain ⟨v, h1, h2⟩ := h
    refine ⟨v, .inl ⟨hw, fun w hC => ?_⟩, h2⟩
    have h3 := h1 w hC
    unfold Oper.quietAt at h3
    cases hres : (execOp a.eval o).run P w with
    | ok n w' =>
      obtain ⟨u, rfl⟩ := reads_only hr hres
      rw [hres] at h3
      obtain ⟨rfl, rfl⟩ := h3
      rfl
    | halt x w' =>
      rw [hres] at h3
      exact h3.elim
  · simp only [hw] at h
    exact ⟨undef, .inr ⟨by simpa using hw, rfl⟩, h⟩

theorem wpAnyC_tail {ts : List Nat} (hts : ∀ t, t ∈ ts → T t = true) : ∀ (ks : List Nat) (to : List Oper) (listed : Array Bool) (a : Act) (w : World), (∀ t, t ∈ ks → t ∈ ts) → ks.map (ops[·]?) = to.map some → seqIx md ops ks listed = true →
    wpList P ops (onlyNormal Q) to a w → wpAnyC P md ops C T Q ks.length listed a w
  | [], [], listed, a, w, _, _, hB, h => by
    unfold wpList at h
    exact ⟨by simpa [seqIx] using hB, h.2⟩
  | [], o :: to, _, _, _, _, hm, _, _ => by simp at hm
  | k :: ks, [], _, _, _, _, hm, _, _ => by simp at hm
  | k :: ks, o :: to, listed, a, w, hin, hm, hB, h => by
    simp only [List.map_cons, List.cons.injEq] at hm
    simp only [seqIx, Bool.and_eq_true, decide_eq_true_eq] at hB
    refine ⟨fun h1 => (by rw [hB.1] at h1; cases h1), fun i hi => ?_⟩
    rw [hB.1] at hi
    obtain rfl : i = k := by simpa using hi
    have hw : wpOp P ops (onlyNormal Q) i (wpList P ops (onlyNormal Q) to) a w := by unfold wpOp; simp only [hm.1]; exact h
    exact wpOp_mono (fun a' w' h' => ⟨fun hT => absurd (hts i (hin i (by simp))) (by simp [hT]), wpAnyC_tail hts ks to _ a' w' (fun t ht => hin t (by simp [ht])) hm.2 hB.2 h'⟩) hw
theorem wpAnyC_mid {ts : List Nat} {to : List Oper} (hts : ∀ t, t ∈ ts → T t = true) (htm : ts.map (ops[·]?) = to.map some) : ∀ (ms : List Nat) (mo : List Oper) (listed : Array Bool) (a : Act) (w : World), ms.map (ops[·]?) = mo.map some → seqIx md ops (ms ++ ts) listed = true →
    wpMid P ops C Q to mo a w → wpAnyC P md ops C T Q (ms.length + ts.length) listed a w
  | [], [], listed, a, w, _, hB, h => by
    rw [List.length_nil, Nat.zero_add]
    exact wpAnyC_tail hts ts to listed a w (fun _ h => h) htm hB h
  | [], o :: mo, _, _, _, hm, _, _ => by simp at hm
  | k :: ks, [], _, _, _, hm, _, _ => by simp at hm
  | k :: ks, o :: mo, listed, a, w, hm, hB, h => by
    simp only [List.map_cons, List.cons.injEq] at hm
    simp only [List.cons_append, seqIx, Bool.and_eq_true, decide_eq_true_eq] at hB
    rw [List.length_cons, show ks.length + 1 + ts.length = (ks.length + ts.length) + 1 by omega]
    refine ⟨fun h1 => (by rw [hB.1] at h1; cases h1), fun i hi => ?_⟩
    rw [hB.1] at hi
    obtain rfl : i = k := by simpa using hi
    have hw : wpOp P ops (onlyNormal Q) i (fun a' w' => C w' ∧ wpMid P ops C Q to mo a' w') a w := by
      unfold wpOp
      simp only [hm.1]
      unfold wpMid at h
      split
      · rename_i hw; rw [if_pos hw] at h; exact .inl h
      · rename_i hw; rw [if_neg hw] at h; exact h
    exact wpOp_mono (fun a' w' h' => ⟨fun _ => h'.1, wpAnyC_mid hts htm ks mo _ a' w' hm.2 hB.2 h'.2⟩) hw
theorem wpAnyC_head {sq : List Nat} {L : Act → World → Prop} (hsel : Region.noSelect ops = true) (hL : ∀ listed a w, seqIx md ops sq listed = true → L a w → wpAnyC P md ops C T Q sq.length listed a w) :
    ∀ (hs : List Nat) (ho : List Oper) (listed : Array Bool) (a : Act) (w : World), C w → hs.map (ops[·]?) = ho.map some → headIx md ops sq hs listed = true → (∀ o ∈ ho, readsB o = true) →
      (∀ i ∈ hs, ∀ j oj, T j = true → ops[j]? = some oj → ∃ e ∈ oj.after, Region.binds md e = true ∧ e.on = i) → wpQuiet P ops C (fun a' => L a' w) ho a → wpAnyC P md ops C T Q (hs.length + sq.length) listed a w
  | [], [], listed, a, w, _, _, hB, _, _, h => by
    rw [List.length_nil, Nat.zero_add]
    exact hL listed a w hB h
  | [], o :: ho, _, _, _, _, hm, _, _, _, _ => by simp at hm
  | k :: ks, [], _, _, _, _, hm, _, _, _, _ => by simp at hm
  | k :: ks, o :: ho, listed, a, w, hC, hm, hB, hr, hT, h => by
    simp only [List.map_cons, List.cons.injEq] at hm
    simp only [headIx, Bool.and_eq_true] at hB
    obtain ⟨⟨hr1, hf⟩, hB'⟩ := hB
    rw [List.length_cons, show ks.length + 1 + sq.length = (ks.length + sq.length) + 1 by omega]
    obtain ⟨v, hy, hK⟩ := yieldsC_of_quiet (ops := ops) (hr o (by simp)) h
    exact wpAnyC_first hm.1 (Region.noSelect_spec hsel) (hT k (by simp)) _ listed a w hC (Region.free_spec hm.1 hf) (by simpa using hr1) hy
      (wpAnyC_head hsel hL ks ho _ _ w hC hm.2 hB' (fun o' h' => hr o' (by simp [h'])) (fun i hi => hT i (by simp [hi])) hK)

/-! ### the operations by kinds -/
inductive Kd | h | m | t
def pickH : List Kd → List Oper → List Oper
  | .h :: ks, o :: l => o :: pickH ks l
  | .m :: ks, _ :: l => pickH ks l
  | .t :: ks, _ :: l => pickH ks l
  | _, _ => []
def pickM : List Kd → List Oper → List Oper
  | .h :: ks, _ :: l => pickM ks l
  | .m :: ks, o :: l => o :: pickM ks l
  | .t :: ks, _ :: l => pickM ks l
  | _, _ => []
def pickT : List Kd → List Oper → List Oper
  | .h :: ks, _ :: l => pickT ks l
  | .m :: ks, _ :: l => pickT ks l
  | .t :: ks, o :: l => o :: pickT ks l
  | _, _ => []
def ixH : List Kd → Nat → List Nat
  | [], _ => []
  | .h :: ks, n => n :: ixH ks (n + 1)
  | .m :: ks, n => ixH ks (n + 1)
  | .t :: ks, n => ixH ks (n + 1)
def ixM : List Kd → Nat → List Nat
  | [], _ => []
  | .h :: ks, n => ixM ks (n + 1)
  | .m :: ks, n => n :: ixM ks (n + 1)
  | .t :: ks, n => ixM ks (n + 1)
def ixT : List Kd → Nat → List Nat
  | [], _ => []
  | .h :: ks, n => ixT ks (n + 1)
  | .m :: ks, n => ixT ks (n + 1)
  | .t :: ks, n => n :: ixT ks (n + 1)
theorem ixH_map : ∀ (ks : List Kd) (l pre : List Oper), ks.length = l.length → (ixH ks pre.length).map ((pre ++ l)[·]?) = (pickH ks l).map some
  | [], [], _, _ => rfl
  | [], _ :: _, _, h => by simp at h
  | _ :: _, [], _, h => by simp at h
  | k :: ks, o :: l, pre, h => by
    have ih := ixH_map ks l (pre ++ [o]) (by simpa using h)
    simp only [List.length_append, List.length_singleton, List.append_assoc, List.singleton_append] at ih
    cases k <;> simp only [ixH, pickH, List.map_cons, ih] <;> simp
theorem ixM_map : ∀ (ks : List Kd) (l pre : List Oper), ks.length = l.length → (ixM ks pre.length).map ((pre ++ l)[·]?) = (pickM ks l).map some
  | [], [], _, _ => rfl
  | [], _ :: _, _, h => by simp at h
  | _ :: _, [], _, h => by simp at h
  | k :: ks, o :: l, pre, h => by
    have ih := ixM_map ks l (pre ++ [o]) (by simpa using h)
    simp only [List.length_append, List.length_singleton, List.append_assoc, List.singleton_append] at ih
    cases k <;> simp only [ixM, pickM, List.map_cons, ih] <;> simp
theorem ixT_map : ∀ (ks : List Kd) (l pre : List Oper), ks.length = l.length → (ixT ks pre.length).map ((pre ++ l)[·]?) = (pickT ks l).map some
  | [], [], _, _ => rfl
  | [], _ :: _, _, h => by simp at h
  | _ :: _, [], _, h => by simp at h
  | k :: ks, o :: l, pre, h => by
    have ih := ixT_map ks l (pre ++ [o]) (by simpa using h)
    simp only [List.length_append, List.length_singleton, List.append_assoc, List.singleton_append] at ih
    cases k <;> simp only [ixT, pickT, List.map_cons, ih] <;> simp

def kdB (md : Region.Mode) (l : List Oper) (ks : List Kd) : Bool :=
  decide (ks.length = l.length) && midB md l.toArray (ixH ks 0) (ixM ks 0) (ixT ks 0) && (pickH ks l).all readsB
/-- a region that draws its order, walked in one order -/
theorem wp_region_mid {id : Nat} {a : Act} {w : World} {l : List Oper} (C : World → Prop) (ks : List Kd) (hm : P.follows .mixedOrders = true) (hB : kdB .any l ks = true) (hC : C w.drew)
    (h : wpQuiet P l.toArray C (fun a' => wpMid P l.toArray C Q (pickT ks l) (pickM ks l) a' w.drew) (pickH ks l) a) : (Code.region id l.toArray true).wp P Q a w := by
  simp only [kdB, midB, Bool.and_eq_true, decide_eq_true_eq] at hB
  obtain ⟨⟨hlen, ⟨⟨⟨⟨hsel, hsz⟩, hw⟩, _⟩, hx⟩⟩, hr⟩ := hB
  have e1 := ixH_map ks l [] hlen
  have e2 := ixM_map ks l [] hlen
  have e3 := ixT_map ks l [] hlen
  simp only [List.length_nil, List.nil_append] at e1 e2 e3
  refine wp_region_any hm (wpAny_of_C (C := C) (T := fun i => decide (i ∈ ixT ks 0)) _ _ _ _ ?_)
  have := wpAnyC_head (P := P) (md := .any) (ops := l.toArray) (C := C) (T := fun i => decide (i ∈ ixT ks 0)) (Q := Q) (sq := ixM ks 0 ++ ixT ks 0) (L := wpMid P l.toArray C Q (pickT ks l) (pickM ks l)) hsel
    (fun listed a w hs hL => by
      rw [List.length_append]
      exact wpAnyC_mid (fun t ht => by simpa using ht) (by simpa using e3) (ixM ks 0) (pickM ks l) listed a w (by simpa using e2) hs hL)
    (ixH ks 0) (pickH ks l) (Array.replicate l.toArray.size false) a w.drew hC (by simpa using e1) hx (fun o ho => List.all_eq_true.1 hr o ho)
    (fun i hi j oj hT hj => by
      have h1 := List.all_eq_true.1 hw j (by simpa using hT)
      have h2 := List.all_eq_true.1 h1 i hi
      unfold waits at h2
      rw [hj] at h2
      obtain ⟨e, he, hb⟩ := Array.any_eq_true'.1 h2
      simp only [Bool.and_eq_true, beq_iff_eq] at hb
      exact ⟨e, he, hb.1, hb.2⟩) h
  rw [List.length_append, hsz] at this
  exact this
end
end Go.Proofs.YtomjniijnpnehaaDoor.Lb
