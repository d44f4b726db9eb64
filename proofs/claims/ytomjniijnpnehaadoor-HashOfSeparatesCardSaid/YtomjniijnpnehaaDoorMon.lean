/-
  A region that draws its order, whose operations but the last ones compute, read, or make memory: each one's value has a property that no new memory takes away; so whatever the order, behind them all the properties hold. Over whatever program. Conditions: those that each law names.
-/
import Derived.Test.YtomjniijnpnehaaDoorMid
import Derived.StillTail
namespace Go.Proofs.YtomjniijnpnehaaDoor.Lb
open Go Go.RowKit

section
variable {P : Program} {Q : Exit → Act → World → Prop}

/-- a frame with some temporaries filled -/
def puts (a : Act) : List (Option Tmp) → List Value → Act
  | d :: ds, v :: vs => puts (a.put d v) ds vs
  | _, _ => a
theorem put_twice (a : Act) (d : Option Tmp) (u v : Value) : (a.put d u).put d v = a.put d v := by
  cases d <;> simp [Act.put]
theorem puts_comm {d : Option Tmp} {v : Value} : ∀ (ds : List (Option Tmp)) (us : List Value) (a : Act), (∀ x ∈ ds, ∀ t, d = some t → x ≠ some t) → (puts a ds us).put d v = puts (a.put d v) ds us
  | [], _, _, _ => rfl
  | _ :: _, [], _, _ => rfl
  | x :: ds, u :: us, a, h => by
    simp only [puts]
    rw [puts_comm ds us (a.put x u) (fun y hy => h y (by simp [hy])), Act.put_comm a v u (h x (by simp))]
/-- no temporary twice -/
def apartDs : List (Option Tmp) → Bool
  | [] => true
  | d :: ds => ds.all (fun x => match d with | some t => x != some t | none => true) && apartDs ds
theorem puts_set {v : Value} : ∀ (ds : List (Option Tmp)) (us : List Value) (a : Act) (i : Nat) (d : Option Tmp), apartDs ds = true → us.length = ds.length → ds[i]? = some d → (puts a ds us).put d v = puts a ds (us.set i v)
  | [], _, _, _, _, _, _, hi => by simp at hi
  | _ :: _, [], _, _, _, _, hl, _ => by simp at hl
  | x :: ds, u :: us, a, 0, d, ha, hl, hi => by
    simp only [List.getElem?_cons_zero, Option.some.injEq] at hi
    subst hi
    simp only [apartDs, Bool.and_eq_true, List.all_eq_true] at ha
    simp only [puts, List.set_cons_zero]
    rw [puts_comm ds us _ (fun y hy t ht => by have := ha.1 y hy; subst ht; simpa using this), put_twice]
  | x :: ds, u :: us, a, i + 1, d, ha, hl, hi => by
    simp only [apartDs, Bool.and_eq_true] at ha
    simp only [puts, List.set_cons_succ]
    exact puts_set ds us _ i d ha.2 (by simpa using hl) (by simpa using hi)

/-- what follows one operation -/
def nextTo (K : Act → World → Prop) : Exit → Act → World → Prop := fun e a w => e = .normal ∧ K a w
theorem wpOp_of_list {ops : Array Oper} {i : Nat} {o : Oper} {K : Act → World → Prop} {a : Act} {w : World} (hi : ops[i]? = some o) (h : wpList P ops (nextTo K) [o] a w) : wpOp P ops (onlyNormal Q) i K a w := by
  unfold wpOp
  simp only [hi]
  unfold wpList at h
  have hK : ∀ (a : Act) (w : World), wpList P ops (nextTo K) [] a w → K a w := fun a w h => by unfold wpList at h; exact h.2
  split
  · rename_i hw
    rw [if_pos hw] at h
    have h := h.resolve_right (by rintro ⟨_, _, _, hh⟩; exact absurd hh.1 (by simp))
    refine .inl ?_
    unfold Oper.wp at *
    generalize (execOp a.eval o).run P w = r at *
    cases r with
    | ok n w' =>
      cases n <;> simp only [Oper.upon] at h ⊢
      case value u => exact hK _ _ h
      case skip => exact hK _ _ h
      case defer d => exact hK _ _ h
      case enter f args =>
        refine Calls.mono h fun e w'' he => ?_
        cases e with
        | returned u => exact hK _ _ he
        | panicked c => exact absurd he.1 (by simp)
        | outgrown => obtain ⟨_, _, hh⟩ := he; exact absurd hh.1 (by simp)
      case row row args => exact Rows.mono h fun u w'' he => hK _ _ he
    | halt x w' =>
      cases x <;> simp only [Oper.upon] at h ⊢
      case panic u => exact absurd h.1 (by simp)
  · rename_i hw; rw [if_neg hw] at h; exact hK _ _ h

/-- the operations ahead of the tail are done -/
def doneUpto (n m : Nat) : Array Bool := ((List.range m).map fun i => decide (i < n)).toArray
def deps (md : Region.Mode) (o : Oper) : List Nat := (o.after.toList.filter (Region.binds md ·)).map (·.on)
/-- for each operation those that stand ahead of it in every order -/
def ancs (md : Region.Mode) (l : List Oper) : List (List Nat) :=
  l.foldl (fun acc o => acc ++ [((deps md o).flatMap fun j => j :: acc.getD j []).foldr (fun j r => if r.contains j then r else j :: r) []]) []
def ancOk (md : Region.Mode) (l : List Oper) (A : List (List Nat)) : Bool :=
  (List.range l.length).all fun t => match l[t]? with
    | some o => (A.getD t []).all fun i => (deps md o).any fun j => decide (j < t) && (i == j || (A.getD j []).contains i)
    | none => false
theorem mem_deps {md : Region.Mode} {o : Oper} {j : Nat} : j ∈ deps md o ↔ ∃ e ∈ o.after, Region.binds md e = true ∧ e.on = j := by
  unfold deps
  simp only [List.mem_map, List.mem_filter, Array.mem_toList_iff]
  exact ⟨fun ⟨e, ⟨h1, h2⟩, h3⟩ => ⟨e, h1, h2, h3⟩, fun ⟨e, h1, h2, h3⟩ => ⟨e, ⟨h1, h2⟩, h3⟩⟩
theorem anc_listed {md : Region.Mode} {l : List Oper} {A : List (List Nat)} (h : ancOk md l A = true) {listed : Array Bool} (hc : ∀ t o, l[t]? = some o → listed.getD t false = true → ∀ j ∈ deps md o, listed.getD j false = true) :
    ∀ t o, l[t]? = some o → (∀ j ∈ deps md o, listed.getD j false = true) → ∀ i ∈ A.getD t [], listed.getD i false = true := by
  intro t
  induction t using Nat.strongRecOn with
  | _ t ih =>
    intro o ho hd i hi
    have htl : t < l.length := (List.getElem?_eq_some_iff.1 ho).1
    have h1 := List.all_eq_true.1 h t (List.mem_range.2 htl)
    rw [ho] at h1
    simp only [List.all_eq_true, List.any_eq_true, Bool.and_eq_true, decide_eq_true_eq, Bool.or_eq_true, beq_iff_eq, List.contains_iff_mem] at h1
    obtain ⟨j, hj, hlt, hij⟩ := h1 i hi
    rcases hij with rfl | hij
    · exact hd _ hj
    · have hoj : l[j]? = some l[j] := by simp [show j < l.length by omega]
      exact ih j hlt _ hoj (hc j _ hoj (hd j hj)) i hij
def monB (md : Region.Mode) (l : List Oper) (n : Nat) : Bool :=
  decide (n ≤ l.length) && apartDs ((l.take n).map (·.dst)) &&
  ancOk md l (ancs md l) && (List.range l.length).all (fun t => (decide (t < n) || (List.range n).all fun i => ((ancs md l).getD t []).contains i) && match l[t]? with | some o => o.after.all fun e => !Region.binds md e || decide (e.on < t) | none => false) &&
  Region.seqB md l.toArray (l.length - n) n (doneUpto n l.length)

theorem monAny {l : List Oper} {n : Nat} {a0 : Act} {w0 : World} (S : Nat → Value → World → Prop) (hB : monB .any l n = true)
    (hmono : ∀ i v w w', S i v w → Below w.heap.size w w' → S i v w')
    (step : ∀ i o, i < n → l[i]? = some o → ∀ us w, us.length = n → Below w0.heap.size w0 w → (∀ j, waits .any l.toArray i j = true → S j (us.getD j undef) w) →
      wpList P l.toArray (nextTo fun a' w' => ∃ v, a' = (puts a0 ((l.take n).map (·.dst)) us).put o.dst v ∧ Below w.heap.size w w' ∧ S i v w') [o] (puts a0 ((l.take n).map (·.dst)) us) w)
    (fin : ∀ us w, us.length = n → Below w0.heap.size w0 w → (∀ i, i < n → S i (us.getD i undef) w) → wpList P l.toArray (onlyNormal Q) (l.drop n) (puts a0 ((l.take n).map (·.dst)) us) w) :
    ∀ (k : Nat) (listed : Array Bool) (us : List Value) (w : World), (∀ t o, l[t]? = some o → listed.getD t false = true → ∀ j ∈ deps .any o, listed.getD j false = true) → listed.size = l.length → ((List.range n).filter fun i => !listed.getD i true).length = k → (∀ t, n ≤ t → t < l.length → listed.getD t true = false) →
      us.length = n → Below w0.heap.size w0 w → (∀ i, i < n → listed.getD i false = true → S i (us.getD i undef) w) →
      wpAny P .any l.toArray (onlyNormal Q) (k + (l.length - n)) listed (puts a0 ((l.take n).map (·.dst)) us) w := by
  simp only [monB, Bool.and_eq_true, decide_eq_true_eq] at hB
  obtain ⟨⟨⟨⟨hn, hap⟩, hanc⟩, hall⟩, hseq⟩ := hB
  have hback : ∀ t o, l[t]? = some o → ∀ e ∈ o.after, Region.binds .any e = true → e.on < t := fun t o ho e he hb => by
    have htl : t < l.length := (List.getElem?_eq_some_iff.1 ho).1
    have h1 := List.all_eq_true.1 hall t (List.mem_range.2 htl)
    rw [ho] at h1
    simp only [Bool.and_eq_true, Array.all_eq_true_iff_forall_mem] at h1
    have h2 := h1.2 e he
    simpa [hb] using h2
  have htail : ∀ t o, n ≤ t → l[t]? = some o → ∀ listed : Array Bool, (∀ t o, l[t]? = some o → listed.getD t false = true → ∀ j ∈ deps .any o, listed.getD j false = true) → (∀ e ∈ o.after, Region.binds .any e = true → listed.getD e.on false = true) → ∀ i, i < n → listed.getD i false = true := fun t o ht ho listed hc hr i hi => by
    have htl : t < l.length := (List.getElem?_eq_some_iff.1 ho).1
    have h1 := List.all_eq_true.1 hall t (List.mem_range.2 htl)
    simp only [Bool.and_eq_true, Bool.or_eq_true, decide_eq_true_eq] at h1
    have h2 := h1.1.resolve_left (by omega)
    have h3 := List.all_eq_true.1 h2 i (List.mem_range.2 hi)
    rw [List.contains_iff_mem] at h3
    exact anc_listed hanc hc t o ho (fun j hj => by obtain ⟨e, h4, h5, rfl⟩ := mem_deps.1 hj; exact hr e h4 h5) i h3
  intro k
  induction k with
  | zero =>
    intro listed us w hcl hsz hk ht hl hw hS
    have hdone : ∀ i, i < n → listed.getD i true = true := fun i hi => by
      have h0 := List.eq_nil_of_length_eq_zero hk
      cases hb : listed.getD i true with
      | true => rfl
      | false =>
        have : i ∈ (List.range n).filter fun i => !listed.getD i true := List.mem_filter.2 ⟨List.mem_range.2 hi, by simp [hb]⟩
        rw [h0] at this; cases this
    have hd2 : ∀ i, i < n → listed.getD i false = true := fun i hi => by
      have h1 := hdone i hi
      have hlt : i < listed.size := by omega
      simp [hlt] at h1 ⊢; exact h1
    have heq : listed = doneUpto n l.length := by
      apply Array.ext (by simp [doneUpto, hsz])
      intro i h1 h2
      by_cases hi : i < n
      · have h3 := hdone i hi
        simp [h1] at h3
        simp [doneUpto, h3, hi]
      · have h3 := ht i (by omega) (by omega)
        simp [h1] at h3
        simp [doneUpto, h3, hi]
    rw [Nat.zero_add, heq]
    have := wpAny_of_seq (P := P) (md := .any) (ops := l.toArray) (Q' := onlyNormal Q) (l.drop n) n (doneUpto n l.length) _ w (fun j => by simp [List.getElem?_drop]) (by rw [List.length_drop]; exact hseq) (fin us w hl hw (fun i hi => hS i hi (hd2 i hi)))
    rw [List.length_drop] at this
    exact this
  | succ k ih =>
    intro listed us w hcl hsz hk ht hl hw hS
    rw [show k + 1 + (l.length - n) = (k + (l.length - n)) + 1 by omega]
    -- some operation ahead of the tail is not done
    have hex : ∃ i, i < n ∧ listed.getD i true = false := by
      obtain ⟨i, hi⟩ := List.exists_mem_of_length_pos (l := (List.range n).filter fun i => !listed.getD i true) (by omega)
      rw [List.mem_filter] at hi
      exact ⟨i, List.mem_range.1 hi.1, by simpa using hi.2⟩
    have hready : ∃ i, i ∈ Region.ready .any l.toArray listed := by
      obtain ⟨i, hi, hun⟩ := hex
      induction i using Nat.strongRecOn with
      | _ i ihi =>
        have hil : i < l.length := by omega
        have ho : l[i]? = some l[i] := by simp [hil]
        by_cases hall2 : ∀ e ∈ (l[i]).after, Region.binds .any e = true → listed.getD e.on false = true
        · exact ⟨i, mem_ready.2 ⟨hun, l[i], by simp [hil], hall2⟩⟩
        · simp only [Classical.not_forall] at hall2
          obtain ⟨e, he, hb, hne⟩ := hall2
          have hlt := hback i _ ho e he hb
          have hun2 : listed.getD e.on true = false := by
            have hes : e.on < listed.size := by omega
            simp [hes] at hne ⊢; exact hne
          exact ihi e.on hlt (by omega) hun2
    refine ⟨fun h => ?_, fun i hi => ?_⟩
    · obtain ⟨i, hi⟩ := hready; rw [h] at hi; cases hi
    · obtain ⟨hun, o, ho, hwt⟩ := mem_ready.1 hi
      rw [List.getElem?_toArray] at ho
      have hin : i < n := by
        rcases Nat.lt_or_ge i n with h | h
        · exact h
        · obtain ⟨j, hj, hjun⟩ := hex
          have := htail i o h ho listed hcl hwt j hj
          rw [getD_false_of hjun] at this
          cases this
      have hst := step i o hin ho us w hl hw (fun j hj => by
        unfold waits at hj
        rw [List.getElem?_toArray, ho] at hj
        obtain ⟨e, he, hb⟩ := Array.any_eq_true'.1 hj
        simp only [Bool.and_eq_true, beq_iff_eq] at hb
        have h1 := hwt e he hb.1
        have h2 := hback i o ho e he hb.1
        rw [hb.2] at h1 h2
        exact hS j (by omega) h1)
      refine wpOp_mono ?_ (wpOp_of_list (by rw [List.getElem?_toArray]; exact ho) hst)
      rintro a' w' ⟨v, rfl, hb', hSi⟩
      have hds : ((l.take n).map (·.dst))[i]? = some o.dst := by
        rw [List.getElem?_map, List.getElem?_take, if_pos hin, ho]; rfl
      have hus : us.length = ((l.take n).map (·.dst)).length := by rw [List.length_map, List.length_take, hl]; omega
      rw [puts_set _ us a0 i o.dst hap hus hds]
      refine ih (listed.setIfInBounds i true) (us.set i v) w' (fun t o' ho' htd j hj => ?_) (by simpa using hsz) ?_ (fun t h1 h2 => by rw [getD_set_ne true (by omega)]; exact ht t h1 h2) (by simpa using hl) (hw.trans (hb'.mono hw.size)) (fun j hj hjl => ?_)
      · have hsj : listed.getD j false = true := by
          by_cases hti : t = i
          · subst hti
            rw [ho] at ho'
            cases ho'
            obtain ⟨e, h4, h5, rfl⟩ := mem_deps.1 hj
            exact hwt e h4 h5
          · rw [getD_set_ne false (Ne.symm hti)] at htd
            exact hcl t o' ho' htd j hj
        by_cases hji : j = i
        · subst hji
          simp [show j < listed.size by omega]
        · rw [getD_set_ne false (Ne.symm hji)]; exact hsj
      · -- one fewer
        have hsub : (List.range n).filter (fun x => !(listed.setIfInBounds i true).getD x true) = ((List.range n).filter fun x => !listed.getD x true).erase i := by
          rw [List.Nodup.erase_eq_filter (List.Pairwise.filter _ List.nodup_range), List.filter_filter]
          apply List.filter_congr
          intro x hx
          by_cases hxi : x = i
          · subst hxi
            have hxs : x < listed.size := by omega
            simp [hxs]
          · rw [getD_set_ne true (Ne.symm hxi)]; simp [hxi]
        rw [hsub, List.length_erase_of_mem (List.mem_filter.2 ⟨List.mem_range.2 hin, by simp [hun]⟩), hk]; omega
      · by_cases hji : j = i
        · subst hji
          have : (us.set j v).getD j undef = v := by simp [List.getD_eq_getElem?_getD, hl, hin]
          rw [this]; exact hSi
        · rw [getD_set_ne false (Ne.symm hji)] at hjl
          have : (us.set i v).getD j undef = us.getD j undef := by simp [List.getD_eq_getElem?_getD, List.getElem?_set_ne (Ne.symm hji)]
          rw [this]; exact hmono _ _ _ _ (hS j hj hjl) hb'

theorem wpAny_of_N {md : Region.Mode} {ops : Array Oper} : ∀ (fuel : Nat) (listed : Array Bool) (a : Act) (w : World), wpAny P md ops (onlyNormal Q) fuel listed a w → wpAny P md ops Q fuel listed a w
  | 0, _, _, _, h => ⟨h.1, h.2.2⟩
  | fuel + 1, _, _, _, h => ⟨fun h0 => (h.1 h0).2, fun i hi => wpOp_onlyNormal (fun a' w' h' => wpAny_of_N fuel _ a' w' h') (h.2 i hi)⟩
/-- what the temporaries hold now -/
def cur (a : Act) : Option Tmp → Value
  | some d => a.tmps.getD d undef
  | none => undef
theorem put_cur (a : Act) (d : Option Tmp) : a.put d (cur a d) = a := by
  cases d with
  | none => rfl
  | some d =>
    obtain ⟨ts, ds⟩ := a
    simp only [Act.put, cur, Act.mk.injEq, and_true]
    apply Array.ext (by simp)
    intro i h1 h2
    rw [Array.getElem_setIfInBounds]
    split
    · rename_i h; subst h; simp [h2]
    · rfl
theorem puts_cur (a : Act) : ∀ ds : List (Option Tmp), puts a ds (ds.map (cur a)) = a
  | [] => rfl
  | d :: ds => by simp only [List.map_cons, puts, put_cur]; exact puts_cur a ds

/-- the region's law -/
theorem wp_region_mono {id : Nat} {a : Act} {w : World} {l : List Oper} (n : Nat) (S : Nat → Value → World → Prop) (hm : P.follows .mixedOrders = true) (hB : monB .any l n = true)
    (hmono : ∀ i v w w', S i v w → Below w.heap.size w w' → S i v w')
    (step : ∀ i o, i < n → l[i]? = some o → ∀ us w', us.length = n → Below w.heap.size w w' → (∀ j, waits .any l.toArray i j = true → S j (us.getD j undef) w') →
      wpList P l.toArray (nextTo fun a' w'' => ∃ v, a' = (puts a ((l.take n).map (·.dst)) us).put o.dst v ∧ Below w'.heap.size w' w'' ∧ S i v w'') [o] (puts a ((l.take n).map (·.dst)) us) w')
    (fin : ∀ us w', us.length = n → Below w.heap.size w w' → (∀ i, i < n → S i (us.getD i undef) w') → wpList P l.toArray (onlyNormal Q) (l.drop n) (puts a ((l.take n).map (·.dst)) us) w') :
    (Code.region id l.toArray true).wp P Q a w := by
  have hB' := hB
  simp only [monB, Bool.and_eq_true, decide_eq_true_eq] at hB'
  have hn := hB'.1.1.1.1
  have hsz : ∀ i, (Array.replicate l.length false).getD i false = false := getD_replicate_false _
  refine wp_region_any hm (wpAny_of_N _ _ _ _ ?_)
  have h0 : Below w.heap.size w w.drew := (Below.refl _ _).drew
  have hus : (((l.take n).map (·.dst)).map (cur a)).length = n := by simp; omega
  have := monAny (Q := Q) S hB hmono (fun i o hi ho us w' hl hw hd => step i o hi ho us w' hl hw hd) (fun us w' hl hw hS => fin us w' hl hw hS)
    n (Array.replicate l.length false) (((l.take n).map (·.dst)).map (cur a)) w.drew (fun t _ _ h => by rw [hsz] at h; cases h) (by simp) (by
      rw [List.filter_eq_self.2 (fun i hi => by
        have : i < l.length := by have := List.mem_range.1 hi; omega
        simp [this])]
      simp) (fun t _ h2 => by simp [h2]) hus h0 (fun i _ hl => by rw [hsz] at hl; cases hl)
  rw [puts_cur, show n + (l.length - n) = l.length by omega] at this
  simpa using this
end
/-! ### lists of a known length -/
theorem len1 {us : List Value} (h : us.length = 1) : ∃ u0, us = [u0] := by
  obtain ⟨u0, rfl⟩ := List.length_eq_one_iff.1 h
  exact ⟨u0, rfl⟩
theorem len2 {us : List Value} (h : us.length = 2) : ∃ u0 u1, us = [u0, u1] := by
  obtain ⟨u0, t, rfl⟩ := List.exists_cons_of_length_eq_add_one h
  obtain ⟨u1, rfl⟩ := len1 (by simpa using h)
  exact ⟨u0, u1, rfl⟩
theorem len3 {us : List Value} (h : us.length = 3) : ∃ u0 u1 u2, us = [u0, u1, u2] := by
  obtain ⟨u0, t, rfl⟩ := List.exists_cons_of_length_eq_add_one h
  obtain ⟨u1, u2, rfl⟩ := len2 (by simpa using h)
  exact ⟨u0, u1, u2, rfl⟩
theorem len4 {us : List Value} (h : us.length = 4) : ∃ u0 u1 u2 u3, us = [u0, u1, u2, u3] := by
  obtain ⟨u0, t, rfl⟩ := List.exists_cons_of_length_eq_add_one h
  obtain ⟨u1, u2, u3, rfl⟩ := len3 (by simpa using h)
  exact ⟨u0, u1, u2, u3, rfl⟩
theorem len5 {us : List Value} (h : us.length = 5) : ∃ u0 u1 u2 u3 u4, us = [u0, u1, u2, u3, u4] := by
  obtain ⟨u0, t, rfl⟩ := List.exists_cons_of_length_eq_add_one h
  obtain ⟨u1, u2, u3, u4, rfl⟩ := len4 (by simpa using h)
  exact ⟨u0, u1, u2, u3, u4, rfl⟩
theorem len6 {us : List Value} (h : us.length = 6) : ∃ u0 u1 u2 u3 u4 u5, us = [u0, u1, u2, u3, u4, u5] := by
  obtain ⟨u0, t, rfl⟩ := List.exists_cons_of_length_eq_add_one h
  obtain ⟨u1, u2, u3, u4, u5, rfl⟩ := len5 (by simpa using h)
  exact ⟨u0, u1, u2, u3, u4, u5, rfl⟩
theorem len7 {us : List Value} (h : us.length = 7) : ∃ u0 u1 u2 u3 u4 u5 u6, us = [u0, u1, u2, u3, u4, u5, u6] := by
  obtain ⟨u0, t, rfl⟩ := List.exists_cons_of_length_eq_add_one h
  obtain ⟨u1, u2, u3, u4, u5, u6, rfl⟩ := len6 (by simpa using h)
  exact ⟨u0, u1, u2, u3, u4, u5, u6, rfl⟩
theorem len8 {us : List Value} (h : us.length = 8) : ∃ u0 u1 u2 u3 u4 u5 u6 u7, us = [u0, u1, u2, u3, u4, u5, u6, u7] := by
  obtain ⟨u0, t, rfl⟩ := List.exists_cons_of_length_eq_add_one h
  obtain ⟨u1, u2, u3, u4, u5, u6, u7, rfl⟩ := len7 (by simpa using h)
  exact ⟨u0, u1, u2, u3, u4, u5, u6, u7, rfl⟩
theorem len9 {us : List Value} (h : us.length = 9) : ∃ u0 u1 u2 u3 u4 u5 u6 u7 u8, us = [u0, u1, u2, u3, u4, u5, u6, u7, u8] := by
  obtain ⟨u0, t, rfl⟩ := List.exists_cons_of_length_eq_add_one h
  obtain ⟨u1, u2, u3, u4, u5, u6, u7, u8, rfl⟩ := len8 (by simpa using h)
  exact ⟨u0, u1, u2, u3, u4, u5, u6, u7, u8, rfl⟩
theorem len10 {us : List Value} (h : us.length = 10) : ∃ u0 u1 u2 u3 u4 u5 u6 u7 u8 u9, us = [u0, u1, u2, u3, u4, u5, u6, u7, u8, u9] := by
  obtain ⟨u0, t, rfl⟩ := List.exists_cons_of_length_eq_add_one h
  obtain ⟨u1, u2, u3, u4, u5, u6, u7, u8, u9, rfl⟩ := len9 (by simpa using h)
  exact ⟨u0, u1, u2, u3, u4, u5, u6, u7, u8, u9, rfl⟩
theorem len11 {us : List Value} (h : us.length = 11) : ∃ u0 u1 u2 u3 u4 u5 u6 u7 u8 u9 u10, us = [u0, u1, u2, u3, u4, u5, u6, u7, u8, u9, u10] := by
  obtain ⟨u0, t, rfl⟩ := List.exists_cons_of_length_eq_add_one h
  obtain ⟨u1, u2, u3, u4, u5, u6, u7, u8, u9, u10, rfl⟩ := len10 (by simpa using h)
  exact ⟨u0, u1, u2, u3, u4, u5, u6, u7, u8, u9, u10, rfl⟩
theorem len12 {us : List Value} (h : us.length = 12) : ∃ u0 u1 u2 u3 u4 u5 u6 u7 u8 u9 u10 u11, us = [u0, u1, u2, u3, u4, u5, u6, u7, u8, u9, u10, u11] := by
  obtain ⟨u0, t, rfl⟩ := List.exists_cons_of_length_eq_add_one h
  obtain ⟨u1, u2, u3, u4, u5, u6, u7, u8, u9, u10, u11, rfl⟩ := len11 (by simpa using h)
  exact ⟨u0, u1, u2, u3, u4, u5, u6, u7, u8, u9, u10, u11, rfl⟩
theorem len13 {us : List Value} (h : us.length = 13) : ∃ u0 u1 u2 u3 u4 u5 u6 u7 u8 u9 u10 u11 u12, us = [u0, u1, u2, u3, u4, u5, u6, u7, u8, u9, u10, u11, u12] := by
  obtain ⟨u0, t, rfl⟩ := List.exists_cons_of_length_eq_add_one h
  obtain ⟨u1, u2, u3, u4, u5, u6, u7, u8, u9, u10, u11, u12, rfl⟩ := len12 (by simpa using h)
  exact ⟨u0, u1, u2, u3, u4, u5, u6, u7, u8, u9, u10, u11, u12, rfl⟩
theorem len14 {us : List Value} (h : us.length = 14) : ∃ u0 u1 u2 u3 u4 u5 u6 u7 u8 u9 u10 u11 u12 u13, us = [u0, u1, u2, u3, u4, u5, u6, u7, u8, u9, u10, u11, u12, u13] := by
  obtain ⟨u0, t, rfl⟩ := List.exists_cons_of_length_eq_add_one h
  obtain ⟨u1, u2, u3, u4, u5, u6, u7, u8, u9, u10, u11, u12, u13, rfl⟩ := len13 (by simpa using h)
  exact ⟨u0, u1, u2, u3, u4, u5, u6, u7, u8, u9, u10, u11, u12, u13, rfl⟩
theorem len15 {us : List Value} (h : us.length = 15) : ∃ u0 u1 u2 u3 u4 u5 u6 u7 u8 u9 u10 u11 u12 u13 u14, us = [u0, u1, u2, u3, u4, u5, u6, u7, u8, u9, u10, u11, u12, u13, u14] := by
  obtain ⟨u0, t, rfl⟩ := List.exists_cons_of_length_eq_add_one h
  obtain ⟨u1, u2, u3, u4, u5, u6, u7, u8, u9, u10, u11, u12, u13, u14, rfl⟩ := len14 (by simpa using h)
  exact ⟨u0, u1, u2, u3, u4, u5, u6, u7, u8, u9, u10, u11, u12, u13, u14, rfl⟩
theorem len16 {us : List Value} (h : us.length = 16) : ∃ u0 u1 u2 u3 u4 u5 u6 u7 u8 u9 u10 u11 u12 u13 u14 u15, us = [u0, u1, u2, u3, u4, u5, u6, u7, u8, u9, u10, u11, u12, u13, u14, u15] := by
  obtain ⟨u0, t, rfl⟩ := List.exists_cons_of_length_eq_add_one h
  obtain ⟨u1, u2, u3, u4, u5, u6, u7, u8, u9, u10, u11, u12, u13, u14, u15, rfl⟩ := len15 (by simpa using h)
  exact ⟨u0, u1, u2, u3, u4, u5, u6, u7, u8, u9, u10, u11, u12, u13, u14, u15, rfl⟩
theorem len17 {us : List Value} (h : us.length = 17) : ∃ u0 u1 u2 u3 u4 u5 u6 u7 u8 u9 u10 u11 u12 u13 u14 u15 u16, us = [u0, u1, u2, u3, u4, u5, u6, u7, u8, u9, u10, u11, u12, u13, u14, u15, u16] := by
  obtain ⟨u0, t, rfl⟩ := List.exists_cons_of_length_eq_add_one h
  obtain ⟨u1, u2, u3, u4, u5, u6, u7, u8, u9, u10, u11, u12, u13, u14, u15, u16, rfl⟩ := len16 (by simpa using h)
  exact ⟨u0, u1, u2, u3, u4, u5, u6, u7, u8, u9, u10, u11, u12, u13, u14, u15, u16, rfl⟩
theorem len18 {us : List Value} (h : us.length = 18) : ∃ u0 u1 u2 u3 u4 u5 u6 u7 u8 u9 u10 u11 u12 u13 u14 u15 u16 u17, us = [u0, u1, u2, u3, u4, u5, u6, u7, u8, u9, u10, u11, u12, u13, u14, u15, u16, u17] := by
  obtain ⟨u0, t, rfl⟩ := List.exists_cons_of_length_eq_add_one h
  obtain ⟨u1, u2, u3, u4, u5, u6, u7, u8, u9, u10, u11, u12, u13, u14, u15, u16, u17, rfl⟩ := len17 (by simpa using h)
  exact ⟨u0, u1, u2, u3, u4, u5, u6, u7, u8, u9, u10, u11, u12, u13, u14, u15, u16, u17, rfl⟩
theorem onlyN {Q : Exit → Act → World → Prop} {a : Act} {w : World} (h : Q .normal a w) : onlyNormal Q .normal a w := ⟨rfl, h⟩
end Go.Proofs.YtomjniijnpnehaaDoor.Lb
