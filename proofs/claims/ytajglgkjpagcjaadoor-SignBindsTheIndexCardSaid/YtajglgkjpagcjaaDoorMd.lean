/-
  Mon, Hy, Int, Bye, Ho: my texts of these names, one behind the other. Conditions: those that each law names.
-/
import Derived.Test.YtajglgkjpagcjaaDoorMb
import Derived.StillTail
import Derived.Test.YtajglgkjpagcjaaDoorMc
import Derived.Test.YtajglgkjpagcjaaDoorProg
import Derived.Test.YtajglgkjpagcjaaDoorMa
import Derived.Deep.DeepCutAuto
import Derived.Deep.CutBlock
import Derived.Lib.Hide
namespace Go.Proofs.YtajglgkjpagcjaaDoor.Lb
open Go Go.RowKit

section
variable {P : Program} {Q : Exit → Act → World → Prop}

/-- a frame with some temporaries filled -/
def puts (a : Act) : List (Option Tmp) → List Value → Act
  | d :: ds, v :: vs => puts (a.put d v) ds vs
  | _, _ => a
theorem put_twice (a : Act) (d : Option Tmp) (u v : Value) : (a.put d u).put d v = a.put d v := by
  cases d <;> simp [Act.put]
theorem puts_comm {d : Option Tmp} {v : Value} : ∀ (ds : List (Option Tmp)) (us : List Value) (a : Act), (∀ x ∈ ds, ∀ t, d = some t → x ≠ some t) → (puts a ds us).put d v = puts (a.put d v) ds us
  | [], _, _, _ => rfl
  | _ :: _, [], _, _ => rfl
  | x :: ds, u :: us, a, h => by
    simp only [puts]
    rw [puts_comm ds us (a.put x u) (fun y hy => h y (by simp [hy])), Act.put_comm a v u (h x (by simp))]
/-- no temporary twice -/
def apartDs : List (Option Tmp) → Bool
  | [] => true
  | d :: ds => ds.all (fun x => match d with | some t => x != some t | none => true) && apartDs ds
theorem puts_set {v : Value} : ∀ (ds : List (Option Tmp)) (us : List Value) (a : Act) (i : Nat) (d : Option Tmp), apartDs ds = true → us.length = ds.length → ds[i]? = some d → (puts a ds us).put d v = puts a ds (us.set i v)
  | [], _, _, _, _, _, _, hi => by simp at hi
  | _ :: _, [], _, _, _, _, hl, _ => by simp at hl
  | x :: ds, u :: us, a, 0, d, ha, hl, hi => by
    simp only [List.getElem?_cons_zero, Option.some.injEq] at hi
    subst hi
    simp only [apartDs, Bool.and_eq_true, List.all_eq_true] at ha
    simp only [puts, List.set_cons_zero]
    rw [puts_comm ds us _ (fun y hy t ht => by have := ha.1 y hy; subst ht; simpa using this), put_twice]
  | x :: ds, u :: us, a, i + 1, d, ha, hl, hi => by
    simp only [apartDs, Bool.and_eq_true] at ha
    simp only [puts, List.set_cons_succ]
    exact puts_set ds us _ i d ha.2 (by simpa using hl) (by simpa using hi)

/-- what follows one operation -/
def nextTo (K : Act → World → Prop) : Exit → Act → World → Prop := fun e a w => e = .normal ∧ K a w
theorem wpOp_of_list {ops : Array Oper} {i : Nat} {o : Oper} {K : Act → World → Prop} {a : Act} {w : World} (hi : ops[i]? = some o) (h : wpList P ops (nextTo K) [o] a w) : wpOp P ops (onlyNormal Q) i K a w := by
  unfold wpOp
  simp only [hi]
  unfold wpList at h
  have hK : ∀ (a : Act) (w : World), wpList P ops (nextTo K) [] a w → K a w := fun a w h => by unfold wpList at h; exact h.2
  split
  · rename_i hw
    rw [if_pos hw] at h
    have h := h.resolve_right (by rintro ⟨_, _, _, hh⟩; exact absurd hh.1 (by simp))
    refine .inl ?_
    unfold Oper.wp at *
    generalize (execOp a.eval o).run P w = r at *
    cases r with
    | ok n w' =>
      cases n <;> simp only [Oper.upon] at h ⊢
      case value u => exact hK _ _ h
      case skip => exact hK _ _ h
      case defer d => exact hK _ _ h
      case enter f args =>
        refine Calls.mono h fun e w'' he => ?_
        cases e with
        | returned u => exact hK _ _ he
        | panicked c => exact absurd he.1 (by simp)
        | outgrown => obtain ⟨_, _, hh⟩ := he; exact absurd hh.1 (by simp)
      case row row args => exact Rows.mono h fun u w'' he => hK _ _ he
    | halt x w' =>
      cases x <;> simp only [Oper.upon] at h ⊢
      case panic u => exact absurd h.1 (by simp)
  · rename_i hw; rw [if_neg hw] at h; exact hK _ _ h

/-- the operations ahead of the tail are done -/
def doneUpto (n m : Nat) : Array Bool := ((List.range m).map fun i => decide (i < n)).toArray
def deps (md : Region.Mode) (o : Oper) : List Nat := (o.after.toList.filter (Region.binds md ·)).map (·.on)
/-- for each operation those that stand ahead of it in every order -/
def ancs (md : Region.Mode) (l : List Oper) : List (List Nat) :=
  l.foldl (fun acc o => acc ++ [((deps md o).flatMap fun j => j :: acc.getD j []).foldr (fun j r => if r.contains j then r else j :: r) []]) []
def ancOk (md : Region.Mode) (l : List Oper) (A : List (List Nat)) : Bool :=
  (List.range l.length).all fun t => match l[t]? with
    | some o => (A.getD t []).all fun i => (deps md o).any fun j => decide (j < t) && (i == j || (A.getD j []).contains i)
    | none => false
theorem mem_deps {md : Region.Mode} {o : Oper} {j : Nat} : j ∈ deps md o ↔ ∃ e ∈ o.after, Region.binds md e = true ∧ e.on = j := by
  unfold deps
  simp only [List.mem_map, List.mem_filter, Array.mem_toList_iff]
  exact ⟨fun ⟨e, ⟨h1, h2⟩, h3⟩ => ⟨e, h1, h2, h3⟩, fun ⟨e, h1, h2, h3⟩ => ⟨e, ⟨h1, h2⟩, h3⟩⟩
theorem anc_listed {md : Region.Mode} {l : List Oper} {A : List (List Nat)} (h : ancOk md l A = true) {listed : Array Bool} (hc : ∀ t o, l[t]? = some o → listed.getD t false = true → ∀ j ∈ deps md o, listed.getD j false = true) :
    ∀ t o, l[t]? = some o → (∀ j ∈ deps md o, listed.getD j false = true) → ∀ i ∈ A.getD t [], listed.getD i false = true := by
  intro t
  induction t using Nat.strongRecOn with
  | _ t ih =>
    intro o ho hd i hi
    have htl : t < l.length := (List.getElem?_eq_some_iff.1 ho).1
    have h1 := List.all_eq_true.1 h t (List.mem_range.2 htl)
    rw [ho] at h1
    simp only [List.all_eq_true, List.any_eq_true, Bool.and_eq_true, decide_eq_true_eq, Bool.or_eq_true, beq_iff_eq, List.contains_iff_mem] at h1
    obtain ⟨j, hj, hlt, hij⟩ := h1 i hi
    rcases hij with rfl | hij
    · exact hd _ hj
    · have hoj : l[j]? = some l[j] := by simp [show j < l.length by omega]
      exact ih j hlt _ hoj (hc j _ hoj (hd j hj)) i hij
def monB (md : Region.Mode) (l : List Oper) (n : Nat) : Bool :=
  decide (n ≤ l.length) && apartDs ((l.take n).map (·.dst)) &&
  ancOk md l (ancs md l) && (List.range l.length).all (fun t => (decide (t < n) || (List.range n).all fun i => ((ancs md l).getD t []).contains i) && match l[t]? with | some o => o.after.all fun e => !Region.binds md e || decide (e.on < t) | none => false) &&
  Region.seqB md l.toArray (l.length - n) n (doneUpto n l.length)

theorem monAny {l : List Oper} {n : Nat} {a0 : Act} {w0 : World} (S : Nat → Value → World → Prop) (hB : monB .any l n = true)
    (hmono : ∀ i v w w', S i v w → Below w.heap.size w w' → S i v w')
    (step : ∀ i o, i < n → l[i]? = some o → ∀ us w, us.length = n → Below w0.heap.size w0 w → (∀ j, waits .any l.toArray i j = true → S j (us.getD j undef) w) →
      wpList P l.toArray (nextTo fun a' w' => ∃ v, a' = (puts a0 ((l.take n).map (·.dst)) us).put o.dst v ∧ Below w.heap.size w w' ∧ S i v w') [o] (puts a0 ((l.take n).map (·.dst)) us) w)
    (fin : ∀ us w, us.length = n → Below w0.heap.size w0 w → (∀ i, i < n → S i (us.getD i undef) w) → wpList P l.toArray (onlyNormal Q) (l.drop n) (puts a0 ((l.take n).map (·.dst)) us) w) :
    ∀ (k : Nat) (listed : Array Bool) (us : List Value) (w : World), (∀ t o, l[t]? = some o → listed.getD t false = true → ∀ j ∈ deps .any o, listed.getD j false = true) → listed.size = l.length → ((List.range n).filter fun i => !listed.getD i true).length = k → (∀ t, n ≤ t → t < l.length → listed.getD t true = false) →
      us.length = n → Below w0.heap.size w0 w → (∀ i, i < n → listed.getD i false = true → S i (us.getD i undef) w) →
      wpAny P .any l.toArray (onlyNormal Q) (k + (l.length - n)) listed (puts a0 ((l.take n).map (·.dst)) us) w := by
  simp only [monB, Bool.and_eq_true, decide_eq_true_eq] at hB
  obtain ⟨⟨⟨⟨hn, hap⟩, hanc⟩, hall⟩, hseq⟩ := hB
  have hback : ∀ t o, l[t]? = some o → ∀ e ∈ o.after, Region.binds .any e = true → e.on < t := fun t o ho e he hb => by
    have htl : t < l.length := (List.getElem?_eq_some_iff.1 ho).1
    have h1 := List.all_eq_true.1 hall t (List.mem_range.2 htl)
    rw [ho] at h1
    simp only [Bool.and_eq_true, Array.all_eq_true_iff_forall_mem] at h1
    have h2 := h1.2 e he
    simpa [hb] using h2
  have htail : ∀ t o, n ≤ t → l[t]? = some o → ∀ listed : Array Bool, (∀ t o, l[t]? = some o → listed.getD t false = true → ∀ j ∈ deps .any o, listed.getD j false = true) → (∀ e ∈ o.after, Region.binds .any e = true → listed.getD e.on false = true) → ∀ i, i < n → listed.getD i false = true := fun t o ht ho listed hc hr i hi => by
    have htl : t < l.length := (List.getElem?_eq_some_iff.1 ho).1
    have h1 := List.all_eq_true.1 hall t (List.mem_range.2 htl)
    simp only [Bool.and_eq_true, Bool.or_eq_true, decide_eq_true_eq] at h1
    have h2 := h1.1.resolve_left (by omega)
    have h3 := List.all_eq_true.1 h2 i (List.mem_range.2 hi)
    rw [List.contains_iff_mem] at h3
    exact anc_listed hanc hc t o ho (fun j hj => by obtain ⟨e, h4, h5, rfl⟩ := mem_deps.1 hj; exact hr e h4 h5) i h3
  intro k
  induction k with
  | zero =>
    intro listed us w hcl hsz hk ht hl hw hS
    have hdone : ∀ i, i < n → listed.getD i true = true := fun i hi => by
      have h0 := List.eq_nil_of_length_eq_zero hk
      cases hb : listed.getD i true with
      | true => rfl
      | false =>
        have : i ∈ (List.range n).filter fun i => !listed.getD i true := List.mem_filter.2 ⟨List.mem_range.2 hi, by simp [hb]⟩
        rw [h0] at this; cases this
    have hd2 : ∀ i, i < n → listed.getD i false = true := fun i hi => by
      have h1 := hdone i hi
      have hlt : i < listed.size := by omega
      simp [hlt] at h1 ⊢; exact h1
    have heq : listed = doneUpto n l.length := by
      apply Array.ext (by simp [doneUpto, hsz])
      intro i h1 h2
      by_cases hi : i < n
      · have h3 := hdone i hi
        simp [h1] at h3
        simp [doneUpto, h3, hi]
      · have h3 := ht i (by omega) (by omega)
        simp [h1] at h3
        simp [doneUpto, h3, hi]
    rw [Nat.zero_add, heq]
    have := wpAny_of_seq (P := P) (md := .any) (ops := l.toArray) (Q' := onlyNormal Q) (l.drop n) n (doneUpto n l.length) _ w (fun j => by simp [List.getElem?_drop]) (by rw [List.length_drop]; exact hseq) (fin us w hl hw (fun i hi => hS i hi (hd2 i hi)))
    rw [List.length_drop] at this
    exact this
  | succ k ih =>
    intro listed us w hcl hsz hk ht hl hw hS
    rw [show k + 1 + (l.length - n) = (k + (l.length - n)) + 1 by omega]
    -- some operation ahead of the tail is not done
    have hex : ∃ i, i < n ∧ listed.getD i true = false := by
      obtain ⟨i, hi⟩ := List.exists_mem_of_length_pos (l := (List.range n).filter fun i => !listed.getD i true) (by omega)
      rw [List.mem_filter] at hi
      exact ⟨i, List.mem_range.1 hi.1, by simpa using hi.2⟩
    have hready : ∃ i, i ∈ Region.ready .any l.toArray listed := by
      obtain ⟨i, hi, hun⟩ := hex
      induction i using Nat.strongRecOn with
      | _ i ihi =>
        have hil : i < l.length := by omega
        have ho : l[i]? = some l[i] := by simp [hil]
        by_cases hall2 : ∀ e ∈ (l[i]).after, Region.binds .any e = true → listed.getD e.on false = true
        · exact ⟨i, mem_ready.2 ⟨hun, l[i], by simp [hil], hall2⟩⟩
        · simp only [Classical.not_forall] at hall2
          obtain ⟨e, he, hb, hne⟩ := hall2
          have hlt := hback i _ ho e he hb
          have hun2 : listed.getD e.on true = false := by
            have hes : e.on < listed.size := by omega
            simp [hes] at hne ⊢; exact hne
          exact ihi e.on hlt (by omega) hun2
    refine ⟨fun h => ?_, fun i hi => ?_⟩
    · obtain ⟨i, hi⟩ := hready; rw [h] at hi; cases hi
    · obtain ⟨hun, o, ho, hwt⟩ := mem_ready.1 hi
      rw [List.getElem?_toArray] at ho
      have hin : i < n := by
        rcases Nat.lt_or_ge i n with h | h
        · exact h
        · obtain ⟨j, hj, hjun⟩ := hex
          have := htail i o h ho listed hcl hwt j hj
          rw [getD_false_of hjun] at this
          cases this
      have hst := step i o hin ho us w hl hw (fun j hj => by
        unfold waits at hj
        rw [List.getElem?_toArray, ho] at hj
        obtain ⟨e, he, hb⟩ := Array.any_eq_true'.1 hj
        simp only [Bool.and_eq_true, beq_iff_eq] at hb
        have h1 := hwt e he hb.1
        have h2 := hback i o ho e he hb.1
        rw [hb.2] at h1 h2
        exact hS j (by omega) h1)
      refine wpOp_mono ?_ (wpOp_of_list (by rw [List.getElem?_toArray]; exact ho) hst)
      rintro a' w' ⟨v, rfl, hb', hSi⟩
      have hds : ((l.take n).map (·.dst))[i]? = some o.dst := by
        rw [List.getElem?_map, List.getElem?_take, if_pos hin, ho]; rfl
      have hus : us.length = ((l.take n).map (·.dst)).length := by rw [List.length_map, List.length_take, hl]; omega
      rw [puts_set _ us a0 i o.dst hap hus hds]
      refine ih (listed.setIfInBounds i true) (us.set i v) w' (fun t o' ho' htd j hj => ?_) (by simpa using hsz) ?_ (fun t h1 h2 => by rw [getD_set_ne true (by omega)]; exact ht t h1 h2) (by simpa using hl) (hw.trans (hb'.mono hw.size)) (fun j hj hjl => ?_)
      · have hsj : listed.getD j false = true := by
          by_cases hti : t = i
          · subst hti
            rw [ho] at ho'
            cases ho'
            obtain ⟨e, h4, h5, rfl⟩ := mem_deps.1 hj
            exact hwt e h4 h5
          · rw [getD_set_ne false (Ne.symm hti)] at htd
            exact hcl t o' ho' htd j hj
        by_cases hji : j = i
        · subst hji
          simp [show j < listed.size by omega]
        · rw [getD_set_ne false (Ne.symm hji)]; exact hsj
      · -- one fewer
        have hsub : (List.range n).filter (fun x => !(listed.setIfInBounds i true).getD x true) = ((List.range n).filter fun x => !listed.getD x true).erase i := by
          rw [List.Nodup.erase_eq_filter (List.Pairwise.filter _ List.nodup_range), List.filter_filter]
          apply List.filter_congr
          intro x hx
          by_cases hxi : x = i
          · subst hxi
            have hxs : x < listed.size := by omega
            simp [hxs]
          · rw [getD_set_ne true (Ne.symm hxi)]; simp [hxi]
        rw [hsub, List.length_erase_of_mem (List.mem_filter.2 ⟨List.mem_range.2 hin, by simp [hun]⟩), hk]; omega
      · by_cases hji : j = i
        · subst hji
          have : (us.set j v).getD j undef = v := by simp [List.getD_eq_getElem?_getD, hl, hin]
          rw [this]; exact hSi
        · rw [getD_set_ne false (Ne.symm hji)] at hjl
          have : (us.set i v).getD j undef = us.getD j undef := by simp [List.getD_eq_getElem?_getD, List.getElem?_set_ne (Ne.symm hji)]
          rw [this]; exact hmono _ _ _ _ (hS j hj hjl) hb'

theorem wpAny_of_N {md : Region.Mode} {ops : Array Oper} : ∀ (fuel : Nat) (listed : Array Bool) (a : Act) (w : World), wpAny P md ops (onlyNormal Q) fuel listed a w → wpAny P md ops Q fuel listed a w
  | 0, _, _, _, h => ⟨h.1, h.2.2⟩
  | fuel + 1, _, _, _, h => ⟨fun h0 => (h.1 h0).2, fun i hi => wpOp_onlyNormal (fun a' w' h' => wpAny_of_N fuel _ a' w' h') (h.2 i hi)⟩
/-- what the temporaries hold now -/
def cur (a : Act) : Option Tmp → Value
  | some d => a.tmps.getD d undef
  | none => undef
theorem put_cur (a : Act) (d : Option Tmp) : a.put d (cur a d) = a := by
  cases d with
  | none => rfl
  | some d =>
    obtain ⟨ts, ds⟩ := a
    simp only [Act.put, cur, Act.mk.injEq, and_true]
    apply Array.ext (by simp)
    intro i h1 h2
    rw [Array.getElem_setIfInBounds]
    split
    · rename_i h; subst h; simp [h2]
    · rfl
theorem puts_cur (a : Act) : ∀ ds : List (Option Tmp), puts a ds (ds.map (cur a)) = a
  | [] => rfl
  | d :: ds => by simp only [List.map_cons, puts, put_cur]; exact puts_cur a ds

/-- the region's law -/
theorem wp_region_mono {id : Nat} {a : Act} {w : World} {l : List Oper} (n : Nat) (S : Nat → Value → World → Prop) (hm : P.follows .mixedOrders = true) (hB : monB .any l n = true)
    (hmono : ∀ i v w w', S i v w → Below w.heap.size w w' → S i v w')
    (step : ∀ i o, i < n → l[i]? = some o → ∀ us w', us.length = n → Below w.heap.size w w' → (∀ j, waits .any l.toArray i j = true → S j (us.getD j undef) w') →
      wpList P l.toArray (nextTo fun a' w'' => ∃ v, a' = (puts a ((l.take n).map (·.dst)) us).put o.dst v ∧ Below w'.heap.size w' w'' ∧ S i v w'') [o] (puts a ((l.take n).map (·.dst)) us) w')
    (fin : ∀ us w', us.length = n → Below w.heap.size w w' → (∀ i, i < n → S i (us.getD i undef) w') → wpList P l.toArray (onlyNormal Q) (l.drop n) (puts a ((l.take n).map (·.dst)) us) w') :
    (Code.region id l.toArray true).wp P Q a w := by
  have hB' := hB
  simp only [monB, Bool.and_eq_true, decide_eq_true_eq] at hB'
  have hn := hB'.1.1.1.1
  have hsz : ∀ i, (Array.replicate l.length false).getD i false = false := getD_replicate_false _
  refine wp_region_any hm (wpAny_of_N _ _ _ _ ?_)
  have h0 : Below w.heap.size w w.drew := (Below.refl _ _).drew
  have hus : (((l.take n).map (·.dst)).map (cur a)).length = n := by simp; omega
  have := monAny (Q := Q) S hB hmono (fun i o hi ho us w' hl hw hd => step i o hi ho us w' hl hw hd) (fun us w' hl hw hS => fin us w' hl hw hS)
    n (Array.replicate l.length false) (((l.take n).map (·.dst)).map (cur a)) w.drew (fun t _ _ h => by rw [hsz] at h; cases h) (by simp) (by
      rw [List.filter_eq_self.2 (fun i hi => by
        have : i < l.length := by have := List.mem_range.1 hi; omega
        simp [this])]
      simp) (fun t _ h2 => by simp [h2]) hus h0 (fun i _ hl => by rw [hsz] at hl; cases hl)
  rw [puts_cur, show n + (l.length - n) = l.length by omega] at this
  simpa using this
end
/-! ### lists of a known length -/
theorem len1 {us : List Value} (h : us.length = 1) : ∃ u0, us = [u0] := by
  obtain ⟨u0, rfl⟩ := List.length_eq_one_iff.1 h
  exact ⟨u0, rfl⟩
theorem len2 {us : List Value} (h : us.length = 2) : ∃ u0 u1, us = [u0, u1] := by
  obtain ⟨u0, t, rfl⟩ := List.exists_cons_of_length_eq_add_one h
  obtain ⟨u1, rfl⟩ := len1 (by simpa using h)
  exact ⟨u0, u1, rfl⟩
theorem len3 {us : List Value} (h : us.length = 3) : ∃ u0 u1 u2, us = [u0, u1, u2] := by
  obtain ⟨u0, t, rfl⟩ := List.exists_cons_of_length_eq_add_one h
  obtain ⟨u1, u2, rfl⟩ := len2 (by simpa using h)
  exact ⟨u0, u1, u2, rfl⟩
theorem len4 {us : List Value} (h : us.length = 4) : ∃ u0 u1 u2 u3, us = [u0, u1, u2, u3] := by
  obtain ⟨u0, t, rfl⟩ := List.exists_cons_of_length_eq_add_one h
  obtain ⟨u1, u2, u3, rfl⟩ := len3 (by simpa using h)
  exact ⟨u0, u1, u2, u3, rfl⟩
theorem len5 {us : List Value} (h : us.length = 5) : ∃ u0 u1 u2 u3 u4, us = [u0, u1, u2, u3, u4] := by
  obtain ⟨u0, t, rfl⟩ := List.exists_cons_of_length_eq_add_one h
  obtain ⟨u1, u2, u3, u4, rfl⟩ := len4 (by simpa using h)
  exact ⟨u0, u1, u2, u3, u4, rfl⟩
theorem len6 {us : List Value} (h : us.length = 6) : ∃ u0 u1 u2 u3 u4 u5, us = [u0, u1, u2, u3, u4, u5] := by
  obtain ⟨u0, t, rfl⟩ := List.exists_cons_of_length_eq_add_one h
  obtain ⟨u1, u2, u3, u4, u5, rfl⟩ := len5 (by simpa using h)
  exact ⟨u0, u1, u2, u3, u4, u5, rfl⟩
theorem len7 {us : List Value} (h : us.length = 7) : ∃ u0 u1 u2 u3 u4 u5 u6, us = [u0, u1, u2, u3, u4, u5, u6] := by
  obtain ⟨u0, t, rfl⟩ := List.exists_cons_of_length_eq_add_one h
  obtain ⟨u1, u2, u3, u4, u5, u6, rfl⟩ := len6 (by simpa using h)
  exact ⟨u0, u1, u2, u3, u4, u5, u6, rfl⟩
theorem len8 {us : List Value} (h : us.length = 8) : ∃ u0 u1 u2 u3 u4 u5 u6 u7, us = [u0, u1, u2, u3, u4, u5, u6, u7] := by
  obtain ⟨u0, t, rfl⟩ := List.exists_cons_of_length_eq_add_one h
  obtain ⟨u1, u2, u3, u4, u5, u6, u7, rfl⟩ := len7 (by simpa using h)
  exact ⟨u0, u1, u2, u3, u4, u5, u6, u7, rfl⟩
theorem len9 {us : List Value} (h : us.length = 9) : ∃ u0 u1 u2 u3 u4 u5 u6 u7 u8, us = [u0, u1, u2, u3, u4, u5, u6, u7, u8] := by
  obtain ⟨u0, t, rfl⟩ := List.exists_cons_of_length_eq_add_one h
  obtain ⟨u1, u2, u3, u4, u5, u6, u7, u8, rfl⟩ := len8 (by simpa using h)
  exact ⟨u0, u1, u2, u3, u4, u5, u6, u7, u8, rfl⟩
theorem len10 {us : List Value} (h : us.length = 10) : ∃ u0 u1 u2 u3 u4 u5 u6 u7 u8 u9, us = [u0, u1, u2, u3, u4, u5, u6, u7, u8, u9] := by
  obtain ⟨u0, t, rfl⟩ := List.exists_cons_of_length_eq_add_one h
  obtain ⟨u1, u2, u3, u4, u5, u6, u7, u8, u9, rfl⟩ := len9 (by simpa using h)
  exact ⟨u0, u1, u2, u3, u4, u5, u6, u7, u8, u9, rfl⟩
theorem len11 {us : List Value} (h : us.length = 11) : ∃ u0 u1 u2 u3 u4 u5 u6 u7 u8 u9 u10, us = [u0, u1, u2, u3, u4, u5, u6, u7, u8, u9, u10] := by
  obtain ⟨u0, t, rfl⟩ := List.exists_cons_of_length_eq_add_one h
  obtain ⟨u1, u2, u3, u4, u5, u6, u7, u8, u9, u10, rfl⟩ := len10 (by simpa using h)
  exact ⟨u0, u1, u2, u3, u4, u5, u6, u7, u8, u9, u10, rfl⟩
theorem len12 {us : List Value} (h : us.length = 12) : ∃ u0 u1 u2 u3 u4 u5 u6 u7 u8 u9 u10 u11, us = [u0, u1, u2, u3, u4, u5, u6, u7, u8, u9, u10, u11] := by
  obtain ⟨u0, t, rfl⟩ := List.exists_cons_of_length_eq_add_one h
  obtain ⟨u1, u2, u3, u4, u5, u6, u7, u8, u9, u10, u11, rfl⟩ := len11 (by simpa using h)
  exact ⟨u0, u1, u2, u3, u4, u5, u6, u7, u8, u9, u10, u11, rfl⟩
theorem len13 {us : List Value} (h : us.length = 13) : ∃ u0 u1 u2 u3 u4 u5 u6 u7 u8 u9 u10 u11 u12, us = [u0, u1, u2, u3, u4, u5, u6, u7, u8, u9, u10, u11, u12] := by
  obtain ⟨u0, t, rfl⟩ := List.exists_cons_of_length_eq_add_one h
  obtain ⟨u1, u2, u3, u4, u5, u6, u7, u8, u9, u10, u11, u12, rfl⟩ := len12 (by simpa using h)
  exact ⟨u0, u1, u2, u3, u4, u5, u6, u7, u8, u9, u10, u11, u12, rfl⟩
theorem len14 {us : List Value} (h : us.length = 14) : ∃ u0 u1 u2 u3 u4 u5 u6 u7 u8 u9 u10 u11 u12 u13, us = [u0, u1, u2, u3, u4, u5, u6, u7, u8, u9, u10, u11, u12, u13] := by
  obtain ⟨u0, t, rfl⟩ := List.exists_cons_of_length_eq_add_one h
  obtain ⟨u1, u2, u3, u4, u5, u6, u7, u8, u9, u10, u11, u12, u13, rfl⟩ := len13 (by simpa using h)
  exact ⟨u0, u1, u2, u3, u4, u5, u6, u7, u8, u9, u10, u11, u12, u13, rfl⟩
theorem len15 {us : List Value} (h : us.length = 15) : ∃ u0 u1 u2 u3 u4 u5 u6 u7 u8 u9 u10 u11 u12 u13 u14, us = [u0, u1, u2, u3, u4, u5, u6, u7, u8, u9, u10, u11, u12, u13, u14] := by
  obtain ⟨u0, t, rfl⟩ := List.exists_cons_of_length_eq_add_one h
  obtain ⟨u1, u2, u3, u4, u5, u6, u7, u8, u9, u10, u11, u12, u13, u14, rfl⟩ := len14 (by simpa using h)
  exact ⟨u0, u1, u2, u3, u4, u5, u6, u7, u8, u9, u10, u11, u12, u13, u14, rfl⟩
theorem len16 {us : List Value} (h : us.length = 16) : ∃ u0 u1 u2 u3 u4 u5 u6 u7 u8 u9 u10 u11 u12 u13 u14 u15, us = [u0, u1, u2, u3, u4, u5, u6, u7, u8, u9, u10, u11, u12, u13, u14, u15] := by
  obtain ⟨u0, t, rfl⟩ := List.exists_cons_of_length_eq_add_one h
  obtain ⟨u1, u2, u3, u4, u5, u6, u7, u8, u9, u10, u11, u12, u13, u14, u15, rfl⟩ := len15 (by simpa using h)
  exact ⟨u0, u1, u2, u3, u4, u5, u6, u7, u8, u9, u10, u11, u12, u13, u14, u15, rfl⟩
theorem len17 {us : List Value} (h : us.length = 17) : ∃ u0 u1 u2 u3 u4 u5 u6 u7 u8 u9 u10 u11 u12 u13 u14 u15 u16, us = [u0, u1, u2, u3, u4, u5, u6, u7, u8, u9, u10, u11, u12, u13, u14, u15, u16] := by
  obtain ⟨u0, t, rfl⟩ := List.exists_cons_of_length_eq_add_one h
  obtain ⟨u1, u2, u3, u4, u5, u6, u7, u8, u9, u10, u11, u12, u13, u14, u15, u16, rfl⟩ := len16 (by simpa using h)
  exact ⟨u0, u1, u2, u3, u4, u5, u6, u7, u8, u9, u10, u11, u12, u13, u14, u15, u16, rfl⟩
theorem len18 {us : List Value} (h : us.length = 18) : ∃ u0 u1 u2 u3 u4 u5 u6 u7 u8 u9 u10 u11 u12 u13 u14 u15 u16 u17, us = [u0, u1, u2, u3, u4, u5, u6, u7, u8, u9, u10, u11, u12, u13, u14, u15, u16, u17] := by
  obtain ⟨u0, t, rfl⟩ := List.exists_cons_of_length_eq_add_one h
  obtain ⟨u1, u2, u3, u4, u5, u6, u7, u8, u9, u10, u11, u12, u13, u14, u15, u16, u17, rfl⟩ := len17 (by simpa using h)
  exact ⟨u0, u1, u2, u3, u4, u5, u6, u7, u8, u9, u10, u11, u12, u13, u14, u15, u16, u17, rfl⟩
theorem onlyN {Q : Exit → Act → World → Prop} {a : Act} {w : World} (h : Q .normal a w) : onlyNormal Q .normal a w := ⟨rfl, h⟩
end Go.Proofs.YtajglgkjpagcjaaDoor.Lb
namespace Go.Proofs.YtajglgkjpagcjaaDoor.Lb
open Go Go.RowKit Go.Lib
section
variable {P : Program} {ops : Array Oper} {Q : Exit → Act → World → Prop} {C : World → Prop} {R : Act → Prop} {a : Act} {w : World} {rest : List Oper} {o : Oper}
theorem wpList_box1 (t : TypeId) (x : Operand) (ho : o.op = .box t x) (hw : Region.wanted o (yielded ops a.tmps) = true) {v : Value} (hx : a.eval x = v) (hc : v.cells = #[v])
    (h : ∀ w', Blk w' w.heap.size t [v] → Below w.heap.size w w' → w'.heap.size = w.heap.size + 1 → wpList P ops Q rest (a.put o.dst (.pointer (some ⟨w.heap.size, 0, none⟩))) w') : wpList P ops Q (o :: rest) a w := by
  refine wpList_of_run hw (v := .pointer (some ⟨w.heap.size, 0, none⟩)) (w' := w.alloc (.cells #[v] t)) ?_ (h _ (heap_alloc_new w _) ((Below.refl _ _).alloc (Nat.le_refl _) _) (by simp))
  unfold execOp
  simp [ho, hx, Instr.box, newVar, newRow, hc]
/-- 's[i]' of a string -/
theorem run_index_str (x i : Operand) (t : TypeId) (ho : o.op = .index t x i) (ht : P.underlying t = some .string) {l : List UInt8} (hx : a.eval x = .string ⟨l.toArray⟩) (k : Nat) (hix : IsI (a.eval i) (k : Int)) (hk : k < l.length) (w : World) :
    (execOp a.eval o).run P w = .ok (.value (.int .u8 ((Pu.gb l k).toNat : Int))) w := by
  obtain ⟨kd, hix⟩ := isI hix
  have h1 : (ByteArray.mk l.toArray)[k]? = some l[k] := by
    rw [getElem?_pos _ _ (by show k < (ByteArray.mk l.toArray).size; rw [size_str]; exact hk)]
    rfl
  have h2 : Pu.gb l k = l[k] := by simp [Pu.gb, hk]
  unfold execOp
  simp [ho, Instr.index, hx, hix, asIntOf, run_underlying ht, h1, h2]
theorem wpList_index_str (x i : Operand) (t : TypeId) (ho : o.op = .index t x i) (hw : Region.wanted o (yielded ops a.tmps) = true) (ht : P.underlying t = some .string) {l : List UInt8} (hx : a.eval x = .string ⟨l.toArray⟩) (k : Nat) (hix : IsI (a.eval i) (k : Int)) (hk : k < l.length)
    (h : wpList P ops Q rest (a.put o.dst (.int .u8 ((Pu.gb l k).toNat : Int))) w) : wpList P ops Q (o :: rest) a w := wpList_of_run hw (run_index_str x i t ho ht hx k hix hk w) h
theorem wpQuiet_index_str (x i : Operand) (t : TypeId) (ho : o.op = .index t x i) (hw : Region.wanted o (yielded ops a.tmps) = true) (ht : P.underlying t = some .string) {l : List UInt8} (hx : a.eval x = .string ⟨l.toArray⟩) (k : Nat) (hix : IsI (a.eval i) (k : Int)) (hk : k < l.length)
    (h : wpQuiet P ops C R rest (a.put o.dst (.int .u8 ((Pu.gb l k).toNat : Int)))) : wpQuiet P ops C R (o :: rest) a := wpQuiet_of_run hw (fun w _ => run_index_str x i t ho ht hx k hix hk w) h
end
end Go.Proofs.YtajglgkjpagcjaaDoor.Lb
namespace Go.Proofs.YtajglgkjpagcjaaDoor.Pu
/-- what differs in the first k bytes -/
def dif (a b : List UInt8) : Nat → UInt8
  | 0 => 0
  | k + 1 => dif a b k ||| (gb a k ^^^ gb b k)
theorem or_zero (x y : UInt8) : x ||| y = 0 ↔ x = 0 ∧ y = 0 := by
  rw [← UInt8.toBitVec_inj, ← UInt8.toBitVec_inj, ← UInt8.toBitVec_inj, UInt8.toBitVec_or]
  exact BitVec.or_eq_zero_iff
theorem dif_zero (a b : List UInt8) : ∀ k, dif a b k = 0 ↔ ∀ i, i < k → gb a i = gb b i
  | 0 => by simp [dif]
  | k + 1 => by
    rw [dif, or_zero, dif_zero a b k, UInt8.xor_eq_zero_iff]
    constructor
    · rintro ⟨h1, h2⟩ i hi
      rcases Nat.lt_succ_iff_lt_or_eq.1 hi with h | rfl
      · exact h1 i h
      · exact h2
    · intro h
      exact ⟨fun i hi => h i (by omega), h k (by omega)⟩
theorem dif_eq {a b : List UInt8} (h : a.length = b.length) : dif a b a.length = 0 ↔ a = b := by
  rw [dif_zero]
  constructor
  · intro hh
    apply List.ext_getElem h
    intro i h1 h2
    have := hh i h1
    simpa [gb, h1, h2] using this
  · rintro rfl i _; rfl
end Go.Proofs.YtajglgkjpagcjaaDoor.Pu
namespace Go.Proofs.YtajglgkjpagcjaaDoor.Wi
open Go Go.RowKit Pu Lb
set_option linter.unusedSimpArgs false
set_option linter.unusedVariables false
theorem zr_b64 : (Tryd.prog.info? 83).map (·.zero) = some (some (.agg (Array.replicate 64 (.int .u8 0)))) := by kernel_rfl
theorem sz_b64 : (Tryd.prog.info? 83).map (·.size) = some 64 := by kernel_rfl
theorem begin_isS : IsS [] begin0 := isS_nil
attribute [local irreducible] comp sched comps sha outS

set_option maxRecDepth 100000 in
set_option maxHeartbeats 1600000 in
theorem sum_any (x : Value) (n : Nat) (b : List UInt8) (w : World) (hT : TabH w) (hx : Rd w 1 x n (bv b)) (hn : b.length < 576460752303423488) :
    Calls Tryd.prog 61 #[x] w fun e w' => e = .returned (.agg (bv (sha b)).toArray) ∧ Below w.heap.size w w' := by
  have SL := Lib.hid (show (bv (sha b)).length = 32 by rw [bv_length, sha_len])
  go_enter Tryd.func61, Tryd.ntmps61
  go_upto_region 1 with (((with_reducible refine' wpList_alloc_blk (cs := List.replicate 32 (.int .u8 0)) 89 rfl ?_ zr_b32 ?_ ?_); exact rfl; exact zeros_u8 32; intro w1 hkR hN1 hz1; simp only [Act.put, List.setIfInBounds_toArray, List.set_cons_succ, List.set_cons_zero]))
  have hT1 := hT.below hN1
  have hx1 := hx.below hN1
  clear hz1
  refine wp_region_mono (w := w1) 5 (fun i => match i with | 0 => fun (vv : Value) (ww : World) => vv = .agg (stv begin0).toArray | 1 => fun (vv : Value) (ww : World) => vv = x | 2 => fun (vv : Value) (ww : World) => vv = .string ⟨b.toArray⟩ | 3 => fun (vv : Value) (ww : World) => ∃ y, vv = .agg (stv y).toArray ∧ IsS b y | 4 => fun (vv : Value) (ww : World) => vv = .agg (bv (sha b)).toArray | _ => fun _ _ => True) (by kernel_rfl) (by kernel_rfl) ?_ ?_ ?_
  · intro i vv w1 w2 h hb
    rcases i with _ | _ | _ | _ | _ | i
    all_goals first | exact h | exact Rd.below h hb | exact own_below h hb | (obtain ⟨B, h1, h2, h3⟩ := h; exact ⟨B, h1, h2, Blk.below h3 hb (Blk.lt h3)⟩) | trivial
  · intro i o hi ho us wz hl hbz hd
    obtain ⟨u0, u1, u2, u3, u4, rfl⟩ := len5 hl
    rcases i with _ | _ | _ | _ | _ | i
    · simp only [List.getElem?_cons_succ, List.getElem?_cons_zero, Option.some.injEq] at ho; subst ho; clear hi hl
      clear hd
      simp only [List.take_succ_cons, List.take_zero, List.drop_succ_cons, List.drop_zero, List.map_cons, List.map_nil, puts, Act.put, List.setIfInBounds_toArray, List.set_cons_succ, List.set_cons_zero]
      go_wp2_with ((go_at_call 52; (with_reducible refine (begin_any _).mono ?_); rintro e w' ⟨rfl, hq⟩))
      exact ⟨rfl, _, rfl, hq, rfl⟩
    · simp only [List.getElem?_cons_succ, List.getElem?_cons_zero, Option.some.injEq] at ho; subst ho; clear hi hl
      clear hd
      simp only [List.take_succ_cons, List.take_zero, List.drop_succ_cons, List.drop_zero, List.map_cons, List.map_nil, puts, Act.put, List.setIfInBounds_toArray, List.set_cons_succ, List.set_cons_zero]
      go_wp2_with (fail)
      exact ⟨rfl, _, rfl, Below.refl _ _, rfl⟩
    · simp only [List.getElem?_cons_succ, List.getElem?_cons_zero, Option.some.injEq] at ho; subst ho; clear hi hl
      have s1 : (fun (vv : Value) (ww : World) => vv = x) u1 wz := hd 1 (by kernel_rfl)
      simp only at s1
      obtain rfl := s1
      clear hd
      simp only [List.take_succ_cons, List.take_zero, List.drop_succ_cons, List.drop_zero, List.map_cons, List.map_nil, puts, Act.put, List.setIfInBounds_toArray, List.set_cons_succ, List.set_cons_zero]
      go_wp2_with (((with_reducible refine' wpList_str_rd (.tmp 4) 52 9 rfl ?_ Tryd.underlying52 Tryd.underlying5 Tryd.underlying9 ?_ (hx1.below hbz) ?_); exact rfl; exact rfl; simp only [Act.put, List.setIfInBounds_toArray, List.set_cons_succ, List.set_cons_zero]))
      exact ⟨rfl, _, rfl, Below.refl _ _, rfl⟩
    · simp only [List.getElem?_cons_succ, List.getElem?_cons_zero, Option.some.injEq] at ho; subst ho; clear hi hl
      have s0 : (fun (vv : Value) (ww : World) => vv = .agg (stv begin0).toArray) u0 wz := hd 0 (by kernel_rfl)
      simp only at s0
      obtain rfl := s0
      have s2 : (fun (vv : Value) (ww : World) => vv = .string ⟨b.toArray⟩) u2 wz := hd 2 (by kernel_rfl)
      simp only at s2
      obtain rfl := s2
      clear hd
      simp only [List.take_succ_cons, List.take_zero, List.drop_succ_cons, List.drop_zero, List.map_cons, List.map_nil, puts, Act.put, List.setIfInBounds_toArray, List.set_cons_succ, List.set_cons_zero]
      go_wp2_with ((go_at_call 53; (with_reducible refine (add_any [] b begin0 _ (hT1.below hbz) begin_isS (by simp; omega)).mono ?_); rintro e w' ⟨y, rfl, hy, hq⟩))
      exact ⟨rfl, _, rfl, hq, ⟨y, rfl, hy⟩⟩
    · simp only [List.getElem?_cons_succ, List.getElem?_cons_zero, Option.some.injEq] at ho; subst ho; clear hi hl
      have s3 : (fun (vv : Value) (ww : World) => ∃ y, vv = .agg (stv y).toArray ∧ IsS b y) u3 wz := hd 3 (by kernel_rfl)
      simp only at s3
      obtain ⟨y, rfl, hy⟩ := s3
      clear hd
      simp only [List.take_succ_cons, List.take_zero, List.drop_succ_cons, List.drop_zero, List.map_cons, List.map_nil, puts, Act.put, List.setIfInBounds_toArray, List.set_cons_succ, List.set_cons_zero]
      go_wp2_with ((go_at_call 55; (with_reducible refine (strsum_any b y _ (hT1.below hbz) hy hn).mono ?_); rintro e w' ⟨rfl, hq⟩))
      exact ⟨rfl, _, rfl, hq, rfl⟩
    · omega
  intro us wz hl hbz hS
  obtain ⟨u0, u1, u2, u3, u4, rfl⟩ := len5 hl
  have s4 : (fun (vv : Value) (ww : World) => vv = .agg (bv (sha b)).toArray) u4 wz := hS 4 (by omega)
  simp only at s4
  obtain rfl := s4
  clear hS hl
  simp only [List.take_succ_cons, List.take_zero, List.drop_succ_cons, List.drop_zero, List.map_cons, List.map_nil, puts, Act.put, List.setIfInBounds_toArray, List.set_cons_succ, List.set_cons_zero]
  replace hkR := hkR.below hbz hkR.lt
  have hb2 := hN1.trans (hbz.mono hN1.size)
  ((with_reducible refine' wpList_store_blk (cs := bv (sha b)) 89 (.tmp 2) (.tmp 7) rfl ?_ ?_ ?_ hkR sz_b32 ?_ ?_ ?_ ?_); exact rfl; exact rfl; exact rfl; exact SL.out; exact List.length_replicate; exact bv_one _; intro w3 hk3 hO3 hz3; simp only [Act.put])
  refine onlyN ?_
  go_wp2_with fail
  ((try simp only [Exit.inBlock, Exit.then]); refine bodyPost_ret (results_cell_row rfl _ _ _ _ _ _ _ rfl hk3 Tryd.underlying89 rfl (by rw [sz_b32]; simp [SL.out])) rfl ?_)
  exact ⟨rfl, hb2.trans (hO3.below (Nat.le_refl _) hb2.size)⟩

theorem x8 (x y : UInt8) : bits .xor .u8 (x.toNat : Int) (y.toNat : Int) = ((x ^^^ y).toNat : Int) := by rw [u8_xor_nat _ _ (u8_lt x) (u8_lt y), UInt8.toNat_xor]
theorem o8 (x y : UInt8) : bits .or .u8 (x.toNat : Int) (y.toNat : Int) = ((x ||| y).toNat : Int) := by rw [u8_or_nat _ _ (u8_lt x) (u8_lt y), UInt8.toNat_or]
theorem zero8 (x : UInt8) : ((x.toNat : Int) == 0) = decide (x = 0) := by
  rw [Bool.eq_iff_iff]
  simp only [beq_iff_eq, decide_eq_true_eq]
  constructor
  · intro h; exact UInt8.toNat_inj.1 (by simpa using h)
  · rintro rfl; rfl

/-! ### the code of a key -/
def pad64 (k : List UInt8) : List UInt8 := k ++ List.replicate (64 - k.length) 0
theorem pad64_len {k : List UInt8} (h : k.length ≤ 64) : (pad64 k).length = 64 := by unfold pad64; rw [List.length_append, List.length_replicate]; omega
theorem zeros_bv (n : Nat) : List.replicate n (Value.int .u8 0) = bv (List.replicate n 0) := by simp [bv]
theorem put_key {k : List UInt8} (h : k.length ≤ 64) : put (List.replicate 64 (Value.int .u8 0)) 0 (bv (k.take 64)) = bv (pad64 k) := by
  rw [List.take_of_length_le h]
  unfold put pad64
  rw [List.take_zero, List.nil_append, Nat.zero_add, bv_length, List.drop_replicate, zeros_bv, bv_append]
/-- the first i bytes are turned -/
def half (k : List UInt8) (c : UInt8) (i : Nat) : List UInt8 := (k.take i).map (· ^^^ c) ++ k.drop i
theorem half_len (k : List UInt8) (c : UInt8) (i : Nat) : (half k c i).length = k.length := by unfold half; simp; omega
theorem half_zero (k : List UInt8) (c : UInt8) : half k c 0 = k := by simp [half]
theorem half_all {k : List UInt8} {c : UInt8} {i : Nat} (h : k.length ≤ i) : half k c i = k.map (· ^^^ c) := by
  unfold half
  rw [List.take_of_length_le h, List.drop_of_length_le h, List.append_nil]
theorem half_get {k : List UInt8} {c : UInt8} {i : Nat} (h : i < k.length) : (bv (half k c i))[i]? = some (.int .u8 ((gb k i).toNat : Int)) := by
  apply bv_at
  unfold half
  rw [List.getElem?_append_right (by simp; omega)]
  simp [gb, h, Nat.min_eq_left (Nat.le_of_lt h)]
theorem half_set {k : List UInt8} {c : UInt8} {i : Nat} (h : i < k.length) : (bv (half k c i)).set i (.int .u8 ((gb k i ^^^ c).toNat : Int)) = bv (half k c (i + 1)) := by
  have e : bv (half k c i) = bv ((k.take i).map (· ^^^ c)) ++ (.int .u8 ((gb k i).toNat : Int)) :: bv (k.drop (i + 1)) := by
    unfold half
    rw [bv_append, List.drop_eq_getElem_cons h, show gb k i = k[i] by simp [gb, h]]; rfl
  rw [e, List.set_append_right _ _ (by rw [bv_length]; simp; omega), bv_length]
  have : i - ((k.take i).map (· ^^^ c)).length = 0 := by simp; omega
  rw [this, List.set_cons_zero]
  unfold half
  rw [List.take_succ_eq_append_getElem h, List.map_append, List.append_assoc, bv_append]
  simp [bv, gb, h]

set_option maxRecDepth 100000 in
set_option maxHeartbeats 800000 in
theorem padded_any (c : UInt8) (B : Nat) (k : List UInt8) (w : World) (hB : Blk w B 9 [.string ⟨k.toArray⟩]) (hk : k.length ≤ 64) :
    Calls Tryd.prog 62 #[.int .u8 (c.toNat : Int), .pointer (some ⟨B, 0, none⟩)] w fun e w' => e = .returned (.string ⟨((pad64 k).map (· ^^^ c)).toArray⟩) ∧ Below w.heap.size w w' := by
  have hBl := hB.lt
  have PL := Lib.hid (pad64_len hk)
  have PK := Lib.hid (put_key hk)
  have S0 := Lib.hid (show ([Value.string ⟨k.toArray⟩] : List Value)[0]? = some (.string ⟨k.toArray⟩) from rfl)
  have hc := u8_lt c
  go_enter Tryd.func62, Tryd.ntmps62
  go_upto_region 2 with (((with_reducible refine' wpList_alloc_blk (cs := List.replicate 64 (.int .u8 0)) 83 rfl ?_ zr_b64 ?_ ?_); exact rfl; exact zeros_u8 64; intro w1 hkb hN1 hz1; simp only [Act.put, List.setIfInBounds_toArray, List.set_cons_succ, List.set_cons_zero]))
  have hB1 := hB.below hN1 hBl
  clear hz1
  (refine wp_region_tail 2 (by kernel_rfl) (by kernel_rfl) ?_; simp only [List.take_succ_cons, List.take_zero, List.drop_succ_cons, List.drop_zero]; (repeat (first | ((with_reducible refine' wpQuiet_arr_all (B := w.heap.size) (f := 0) (.tmp 4) 83 rfl ?_ Tryd.underlying83 sz_u8 ?_ ?_); exact rfl; exact rfl; simp only [Act.put, List.setIfInBounds_toArray, List.set_cons_succ, List.set_cons_zero]) | ((with_reducible refine' wpQuiet_load_blk still_drew (.tmp 1) 9 rfl ?_ ld_str ?_ hB1 (S0.out) ?_); exact rfl; exact rfl; simp only [Act.put, List.setIfInBounds_toArray, List.set_cons_succ, List.set_cons_zero]) | go_big_quiet_step (fail))); refine wpQuiet_nil ?_; show wpList _ _ _ _ _ _)
  ((with_reducible refine' wpList_copy_str (s := k) (f := 0) (n := 64) (cap := 64) (.tmp 6) (.tmp 7) 52 9 rfl ?_ Tryd.underlying52 sz_u8 ?_ ?_ (Blk.drew hkb) ?_ rfl ?_); exact rfl; exact rfl; exact rfl; simp; intro w2 hk2 hO2 hz2; simp only [Act.put, List.setIfInBounds_toArray, List.set_cons_succ, List.set_cons_zero])
  rw [PK.out] at hk2
  have hb2 := (below_drew hN1).trans (hO2.below (Nat.le_refl _) hN1.size)
  clear hz2 hO2
  go_upto_region 4 with fail
  go_loopw [9] (fun i wr => ∃ t : Nat, t ≤ 64 ∧ i = .int .i64 t ∧ Blk wr w.heap.size 83 (bv (half (pad64 k) c t)) ∧ Below w.heap.size w wr) (fun i _ => 64 - (intOf i).toNat)
  case atStart => exact ⟨0, by omega, rfl, by rw [half_zero]; exact hk2, hb2⟩
  case round =>
    obtain ⟨t, ht, rfl, hk3, hbl⟩ := hrel
    by_cases hlt : t < 64
    · obtain ⟨wo, rfl⟩ : ∃ wo : World, wo = wr := ⟨_, rfl⟩
      have hx := half_get (k := pad64 k) (c := c) (i := t) (by rw [PL.out]; exact hlt)
      have hs := half_set (k := pad64 k) (c := c) (i := t) (by rw [PL.out]; exact hlt)
      have HL := Lib.hid (show (bv (half (pad64 k) c t)).length = 64 by rw [bv_length, half_len, PL.out])
      obtain ⟨x, hx1⟩ : ∃ x, gb (pad64 k) t = x := ⟨_, rfl⟩
      rw [hx1] at hx hs
      have X := Lib.hid hx; have SET := Lib.hid hs
      have hx8 := u8_lt x
      have X8 := x8 x c
      clear hx hs hx1
      go_wp2_with (first
        | ((with_reducible refine' wpList_at_blk (.tmp 4) (.tmp 12) 83 rfl ?_ Tryd.underlying83 sz_u8 ?_ (t) ?_ ?_ ?_); exact rfl; exact rfl; (show (_ : Int) = _; omega); omega; simp only [Act.put, List.setIfInBounds_toArray, List.set_cons_succ, List.set_cons_zero]) | ((with_reducible refine' wpList_load_blk (.tmp 13) 5 rfl ?_ ld_u8 ?_ hk3 (X.out) ?_); exact rfl; exact rfl; simp only [Act.put, List.setIfInBounds_toArray, List.set_cons_succ, List.set_cons_zero])
        | ((with_reducible refine' wpList_set_blk (k := t) (B := w.heap.size) (u := .int .u8 ((x ^^^ c).toNat : Int)) 5 (.tmp 17) (.tmp 16) rfl ?_ sz_u8 ?_ ?_ hk3 (by rw [HL.out]; exact hlt) ?_ ?_); exact rfl; exact rfl; exact rfl; exact rfl; intro wB hkB hOB hzB; rw [SET.out] at hkB; simp only [Act.put]))
      go_roundw
      case rel => exact ⟨t + 1, by omega, by go_num, hkB, hbl.trans (hOB.below (Nat.le_refl _) hbl.size)⟩
      case measure => simp [intOf]; omega
    · obtain rfl : t = 64 := by omega
      rw [half_all (by rw [PL.out]; exact Nat.le_refl _)] at hk3
      have HL := Lib.hid (show (bv ((pad64 k).map (· ^^^ c))).length = 64 by rw [bv_length, List.length_map, PL.out])
      have hrd := hk3.rd 0 64 64 1 (by rw [HL.out]; decide) (Nat.le_refl _) (by unfold maxLen; omega)
      rw [List.drop_zero, List.take_of_length_le (by rw [HL.out]; decide)] at hrd
      go_wp2_with (first | ((with_reducible refine' wpList_arr_all (B := w.heap.size) (f := 0) (.tmp 4) 83 rfl ?_ Tryd.underlying83 sz_u8 ?_ ?_); exact rfl; exact rfl; simp only [Act.put, List.setIfInBounds_toArray, List.set_cons_succ, List.set_cons_zero]) | ((with_reducible refine' wpList_str_rd (.tmp 19) 52 9 rfl ?_ Tryd.underlying52 Tryd.underlying5 Tryd.underlying9 ?_ hrd ?_); exact rfl; exact rfl; simp only [Act.put, List.setIfInBounds_toArray, List.set_cons_succ, List.set_cons_zero]))
      go_ret
      exact ⟨rfl, hbl⟩

theorem padKey_eq (key : List UInt8) (c : UInt8) : padKey key c = (pad64 (if 64 < key.length then sha key else key)).map (· ^^^ c) := rfl
theorem short_key (key : List UInt8) : (if 64 < key.length then sha key else key).length ≤ 64 := by
  split
  · rw [sha_len]; omega
  · omega
theorem padKey_len (key : List UInt8) (c : UInt8) : (padKey key c).length = 64 := by rw [padKey_eq, List.length_map, pad64_len (short_key key)]
theorem pad54_any (B : Nat) (key k : List UInt8) (w : World) (hB : Blk w B 9 [.string ⟨k.toArray⟩]) (hk : (if 64 < key.length then sha key else key) = k) :
    Calls Tryd.prog 62 #[.int .u8 54, .pointer (some ⟨B, 0, none⟩)] w fun e w' => e = .returned (.string ⟨(padKey key 54).toArray⟩) ∧ Below w.heap.size w w' := by
  subst hk
  exact padded_any 54 B _ w hB (short_key key)
theorem pad92_any (B : Nat) (key k : List UInt8) (w : World) (hB : Blk w B 9 [.string ⟨k.toArray⟩]) (hk : (if 64 < key.length then sha key else key) = k) :
    Calls Tryd.prog 62 #[.int .u8 92, .pointer (some ⟨B, 0, none⟩)] w fun e w' => e = .returned (.string ⟨(padKey key 92).toArray⟩) ∧ Below w.heap.size w w' := by
  subst hk
  exact padded_any 92 B _ w hB (short_key key)
theorem mac_eq (key text : List UInt8) : mac key text = sha (padKey key 92 ++ sha (padKey key 54 ++ text)) := rfl

set_option maxRecDepth 100000 in
set_option maxHeartbeats 1600000 in
theorem mac_any (key text : List UInt8) (w : World) (hT : TabH w) (hk : key.length ≤ 140737488355328) (ht : text.length ≤ 140737488355328) :
    Calls Tryd.prog 49 #[.string ⟨key.toArray⟩, .string ⟨text.toArray⟩] w fun e w' => e = .returned (.string ⟨(mac key text).toArray⟩) ∧ Below w.heap.size w w' := by
  have hz1 := size_str key
  have SK := Lib.hid (short_key key)
  have S0 := Lib.hid (show ([Value.string ⟨key.toArray⟩] : List Value)[0]? = some (.string ⟨key.toArray⟩) from rfl)
  have PK := Lib.hid (padKey_len key 54)
  have PK2 := Lib.hid (padKey_len key 92)
  go_enter Tryd.func49, Tryd.ntmps49
  go_upto_region 1 with (((with_reducible refine' wpList_box1 (v := .string ⟨key.toArray⟩) 9 (.tmp 0) rfl ?_ ?_ ?_ ?_); exact rfl; exact rfl; exact rfl; intro w1 hkB hN1 hz; simp only [Act.put, List.setIfInBounds_toArray, List.set_cons_succ, List.set_cons_zero]))
  clear hz
  have hT1 := hT.below hN1
  have hb1 := hkB.lt
  go_upto_if 11 with (((with_reducible refine' wpList_load_blk (.tmp 2) 9 rfl ?_ ld_str ?_ hkB (S0.out) ?_); exact rfl; exact rfl; simp only [Act.put, List.setIfInBounds_toArray, List.set_cons_succ, List.set_cons_zero]))
  go_cut [] from 9 (fun wr => Blk wr w.heap.size 9 [.string ⟨(if 64 < key.length then sha key else key).toArray⟩] ∧ Below w.heap.size w wr)
  case first =>
    by_cases h64 : 64 < key.length
    · have SL := Lib.hid (show (bv (sha key)).length = 32 by rw [bv_length, sha_len])
      go_wp2_with (first
        | ((with_reducible refine' wpList_load_blk (.tmp 2) 9 rfl ?_ ld_str ?_ hkB (S0.out) ?_); exact rfl; exact rfl; simp only [Act.put, List.setIfInBounds_toArray, List.set_cons_succ, List.set_cons_zero]) | (((with_reducible refine' wpList_bytes_l (l := key) (.tmp 12) 9 52 rfl ?_ Tryd.underlying9 Tryd.underlying52 Tryd.underlying5 ?_ ((by unfold maxLen; omega)) ?_); exact rfl; exact rfl; intro v2 w2 hr2 hN2; simp only [Act.put, List.setIfInBounds_toArray, List.set_cons_succ, List.set_cons_zero]); have hT2 := hT1.below hN2)
        | ((go_at_call 61; (with_reducible refine (sum_any _ _ key _ hT2 hr2 (by omega)).mono ?_); rintro e w' ⟨rfl, hN3⟩))
        | (((with_reducible refine' wpList_alloc_blk (cs := List.replicate 32 (.int .u8 0)) 89 rfl ?_ zr_b32 ?_ ?_); exact rfl; exact zeros_u8 32; intro w4 hk4 hN4 hz4; simp only [Act.put, List.setIfInBounds_toArray, List.set_cons_succ, List.set_cons_zero]))
        | (((with_reducible refine' wpList_store_blk (cs := bv (sha key)) 89 (.tmp 5) (.tmp 14) rfl ?_ ?_ ?_ hk4 sz_b32 ?_ ?_ ?_ ?_); exact rfl; exact rfl; exact rfl; exact SL.out; exact List.length_replicate; exact bv_one _; intro w5 hk5 hO5 hz5; simp only [Act.put]); have hrd := hk5.rd 0 32 32 1 (by rw [SL.out]; decide) (Nat.le_refl _) (by unfold maxLen; omega); rw [List.drop_zero, List.take_of_length_le (by rw [SL.out]; decide)] at hrd; have hkB5 := hO5.blk (((hkB.below hN2 hb1).below hN3 (by have := hN2.size; omega)).below hN4 (by have := hN2.size; have := hN3.size; omega)) (by have := hN2.size; have := hN3.size; omega))
        | ((with_reducible refine' wpList_arr_all (B := w'.heap.size) (f := 0) (.tmp 5) 89 rfl ?_ Tryd.underlying89 sz_u8 ?_ ?_); exact rfl; exact rfl; simp only [Act.put, List.setIfInBounds_toArray, List.set_cons_succ, List.set_cons_zero]) | ((with_reducible refine' wpList_str_rd (.tmp 15) 52 9 rfl ?_ Tryd.underlying52 Tryd.underlying5 Tryd.underlying9 ?_ hrd ?_); exact rfl; exact rfl; simp only [Act.put, List.setIfInBounds_toArray, List.set_cons_succ, List.set_cons_zero])
        | ((with_reducible refine' wpList_set_blk (k := 0) (B := w.heap.size) (u := .string ⟨(sha key).toArray⟩) 9 (.tmp 2) (.tmp 16) rfl ?_ sz_str ?_ ?_ hkB5 (by simp) ?_ ?_); exact rfl; exact rfl; exact rfl; exact rfl; intro w6 hk6 hO6 hz6; simp only [Act.put]))
      go_meet
      case rel =>
        have z1 := hN1.size
        have z2 := hN2.size
        have z3 := hN3.size
        have z4 := hN4.size
        refine ⟨by rw [if_pos h64]; exact hk6, ?_⟩
        exact ((((hN1.trans (hN2.mono z1)).trans (hN3.mono (by omega))).trans (hN4.mono (by omega))).trans (hO5.below (by omega) (by omega))).trans (hO6.below (Nat.le_refl _) (by omega))
    · go_wp2_with fail
      go_meet
      case rel => exact ⟨by rw [if_neg h64]; exact hkB, hN1⟩
  case rest =>
    obtain ⟨hkK, hbc⟩ := hcut
    obtain ⟨k, hkk⟩ : ∃ k, (if 64 < key.length then sha key else key) = k := ⟨_, rfl⟩
    rw [hkk] at hkK
    have KK := Lib.hid hkk
    have hTc := hT.below hbc
    clear hkk hkB hN1 hT1 hb1
    have hbl := hkK.lt
    go_upto_region 6 with (first
      | ((go_at_call 52; (with_reducible refine (begin_any _).mono ?_); rintro e w' ⟨rfl, hN2⟩); have hT2 := hTc.below hN2; have hk2 := hkK.below hN2 hbl)
      | ((go_at_call 62; (with_reducible refine (pad54_any w.heap.size key k _ hk2 KK.out).mono ?_); rintro e w' ⟨rfl, hN3⟩); have hT3 := hT2.below hN3; have hk3 := hk2.below hN3 hk2.lt)
      | ((go_at_call 53; (with_reducible refine (add_any [] (padKey key 54) begin0 _ hT3 begin_isS (by rw [PK.out]; simp)).mono ?_); rintro e w' ⟨y1, rfl, hy1, hN4⟩); have hya : IsS (padKey key 54) y1 := hy1; have hT4 := hT3.below hN4; have hk4 := hk3.below hN4 hk3.lt)
      | ((go_at_call 53; (with_reducible refine (add_any (padKey key 54) text y1 _ hT4 hya (by rw [PK.out]; omega)).mono ?_); rintro e w' ⟨y2, rfl, hy2, hN5⟩); have hT5 := hT4.below hN5; have hk5 := hk4.below hN5 hk4.lt)
      | ((go_at_call 55; (with_reducible refine (strsum_any _ y2 _ hT5 hy2 (by rw [List.length_append, PK.out]; omega)).mono ?_); rintro e w' ⟨rfl, hN6⟩); have hT6 := hT5.below hN6; have hk6 := hk5.below hN6 hk5.lt)
      | (((with_reducible refine' wpList_alloc_blk (cs := List.replicate 32 (.int .u8 0)) 89 rfl ?_ zr_b32 ?_ ?_); exact rfl; exact zeros_u8 32; intro w7 ho7 hN7 hz7; simp only [Act.put, List.setIfInBounds_toArray, List.set_cons_succ, List.set_cons_zero]); have hT7 := hT6.below hN7; have hk7 := hk6.below hN7 hk6.lt; have SL := Lib.hid (show (bv (sha (padKey key 54 ++ text))).length = 32 by rw [bv_length, sha_len]))
      | (((with_reducible refine' wpList_store_blk (cs := bv (sha (padKey key 54 ++ text))) 89 (.tmp 7) (.tmp 24) rfl ?_ ?_ ?_ ho7 sz_b32 ?_ ?_ ?_ ?_); exact rfl; exact rfl; exact rfl; exact SL.out; exact List.length_replicate; exact bv_one _; intro w8 ho8 hO8 hz8; simp only [Act.put])))
    have z2 := hN2.size
    have z3 := hN3.size
    have z4 := hN4.size
    have z5 := hN5.size
    have z6 := hN6.size
    have z7 := hN7.size
    have hc8 := ((((((hN2.trans (hN3.mono z2)).trans (hN4.mono (by omega))).trans (hN5.mono (by omega))).trans (hN6.mono (by omega))).trans (hN7.mono (by omega))).trans (hO8.below (by omega) (by omega)))
    have hk8 := hkK.below hc8 hbl
    have hb8 := hbc.trans (hc8.mono hbc.size)
    have hT8 := hT.below hb8
    have hrd := ho8.rd 0 32 32 1 (by rw [SL.out]; decide) (Nat.le_refl _) (by unfold maxLen; omega)
    rw [List.drop_zero, List.take_of_length_le (by rw [SL.out]; decide)] at hrd
    obtain ⟨B7, hB7⟩ : ∃ B, w'.heap.size = B := ⟨_, rfl⟩
    rw [hB7] at ho8 hrd ⊢
    have hlc := hk8.lt
    clear z2 z3 z4 z5 z6 z7 hN2 hN3 hN4 hN5 hN6 hN7 hO8 hz7 hz8 hB7 hT2 hT3 hT4 hT5 hT6 hT7 hk2 hk3 hk4 hk5 hk6 hk7 ho7 hc8 hy1 hya hy2
    obtain ⟨H1, hH1⟩ : ∃ H, sha (padKey key 54 ++ text) = H := ⟨_, rfl⟩
    have hHl : H1.length = 32 := by rw [← hH1, sha_len]
    rw [hH1] at hrd
    have HH := Lib.hid hH1
    have MACE := Lib.hid (mac_eq key text)
    clear hH1
    refine wp_region_mono (w := w8) 9 (fun i => match i with | 0 => fun (vv : Value) (ww : World) => vv = .agg (stv begin0).toArray | 1 => fun (vv : Value) (ww : World) => vv = .func (.func 62) #[] #[.pointer (some ⟨w.heap.size, 0, none⟩)] | 2 => fun (vv : Value) (ww : World) => vv = .string ⟨(padKey key 92).toArray⟩ | 3 => fun (vv : Value) (ww : World) => ∃ y, vv = .agg (stv y).toArray ∧ IsS (padKey key 92) y | 4 => fun (vv : Value) (ww : World) => vv = .slice (some ⟨B7, 0, none⟩) 32 32 | 5 => fun (vv : Value) (ww : World) => vv = .string ⟨H1.toArray⟩ | 6 => fun (vv : Value) (ww : World) => ∃ y, vv = .agg (stv y).toArray ∧ IsS (padKey key 92 ++ H1) y | 7 => fun (vv : Value) (ww : World) => vv = .agg (bv (sha (padKey key 92 ++ H1))).toArray | 8 => fun (vv : Value) (ww : World) => ∃ B, vv = .pointer (some ⟨B, 0, none⟩) ∧ w8.heap.size ≤ B ∧ Blk ww B 89 (List.replicate 32 (.int .u8 0)) | _ => fun _ _ => True) (by kernel_rfl) (by kernel_rfl) ?_ ?_ ?_
    · intro i vv w1 w2 h hb
      rcases i with _ | _ | _ | _ | _ | _ | _ | _ | _ | i
      all_goals first | exact h | exact Rd.below h hb | exact own_below h hb | (obtain ⟨B, h1, h2, h3⟩ := h; exact ⟨B, h1, h2, Blk.below h3 hb (Blk.lt h3)⟩) | trivial
    · intro i o hi ho us wz hl hbz hd
      obtain ⟨u0, u1, u2, u3, u4, u5, u6, u7, u8, rfl⟩ := len9 hl
      rcases i with _ | _ | _ | _ | _ | _ | _ | _ | _ | i
      · simp only [List.getElem?_cons_succ, List.getElem?_cons_zero, Option.some.injEq] at ho; subst ho; clear hi hl
        clear hd
        simp only [List.take_succ_cons, List.take_zero, List.drop_succ_cons, List.drop_zero, List.map_cons, List.map_nil, puts, Act.put, List.setIfInBounds_toArray, List.set_cons_succ, List.set_cons_zero]
        go_wp2_with ((go_at_call 52; (with_reducible refine (begin_any _).mono ?_); rintro e w' ⟨rfl, hq⟩))
        exact ⟨rfl, _, rfl, hq, rfl⟩
      · simp only [List.getElem?_cons_succ, List.getElem?_cons_zero, Option.some.injEq] at ho; subst ho; clear hi hl
        clear hd
        simp only [List.take_succ_cons, List.take_zero, List.drop_succ_cons, List.drop_zero, List.map_cons, List.map_nil, puts, Act.put, List.setIfInBounds_toArray, List.set_cons_succ, List.set_cons_zero]
        go_wp2_with (fail)
        exact ⟨rfl, _, rfl, Below.refl _ _, rfl⟩
      · simp only [List.getElem?_cons_succ, List.getElem?_cons_zero, Option.some.injEq] at ho; subst ho; clear hi hl
        have s1 : (fun (vv : Value) (ww : World) => vv = .func (.func 62) #[] #[.pointer (some ⟨w.heap.size, 0, none⟩)]) u1 wz := hd 1 (by kernel_rfl)
        simp only at s1
        obtain rfl := s1
        clear hd
        simp only [List.take_succ_cons, List.take_zero, List.drop_succ_cons, List.drop_zero, List.map_cons, List.map_nil, puts, Act.put, List.setIfInBounds_toArray, List.set_cons_succ, List.set_cons_zero]
        go_wp2_with ((go_at_call 62; (with_reducible refine (pad92_any w.heap.size key k _ (hk8.below hbz hlc) KK.out).mono ?_); rintro e w' ⟨rfl, hq⟩))
        exact ⟨rfl, _, rfl, hq, rfl⟩
      · simp only [List.getElem?_cons_succ, List.getElem?_cons_zero, Option.some.injEq] at ho; subst ho; clear hi hl
        have s0 : (fun (vv : Value) (ww : World) => vv = .agg (stv begin0).toArray) u0 wz := hd 0 (by kernel_rfl)
        simp only at s0
        obtain rfl := s0
        have s2 : (fun (vv : Value) (ww : World) => vv = .string ⟨(padKey key 92).toArray⟩) u2 wz := hd 2 (by kernel_rfl)
        simp only at s2
        obtain rfl := s2
        clear hd
        simp only [List.take_succ_cons, List.take_zero, List.drop_succ_cons, List.drop_zero, List.map_cons, List.map_nil, puts, Act.put, List.setIfInBounds_toArray, List.set_cons_succ, List.set_cons_zero]
        go_wp2_with ((go_at_call 53; (with_reducible refine (add_any [] (padKey key 92) begin0 _ (hT8.below hbz) begin_isS (by rw [PK2.out]; simp)).mono ?_); rintro e w' ⟨y, rfl, hy, hq⟩))
        exact ⟨rfl, _, rfl, hq, ⟨y, rfl, hy⟩⟩
      · simp only [List.getElem?_cons_succ, List.getElem?_cons_zero, Option.some.injEq] at ho; subst ho; clear hi hl
        clear hd
        simp only [List.take_succ_cons, List.take_zero, List.drop_succ_cons, List.drop_zero, List.map_cons, List.map_nil, puts, Act.put, List.setIfInBounds_toArray, List.set_cons_succ, List.set_cons_zero]
        go_wp2_with (((with_reducible refine' wpList_arr_all (B := B7) (f := 0) (.tmp 7) 89 rfl ?_ Tryd.underlying89 sz_u8 ?_ ?_); exact rfl; exact rfl; simp only [Act.put, List.setIfInBounds_toArray, List.set_cons_succ, List.set_cons_zero]))
        exact ⟨rfl, _, rfl, Below.refl _ _, rfl⟩
      · simp only [List.getElem?_cons_succ, List.getElem?_cons_zero, Option.some.injEq] at ho; subst ho; clear hi hl
        have s4 : (fun (vv : Value) (ww : World) => vv = .slice (some ⟨B7, 0, none⟩) 32 32) u4 wz := hd 4 (by kernel_rfl)
        simp only at s4
        obtain rfl := s4
        clear hd
        simp only [List.take_succ_cons, List.take_zero, List.drop_succ_cons, List.drop_zero, List.map_cons, List.map_nil, puts, Act.put, List.setIfInBounds_toArray, List.set_cons_succ, List.set_cons_zero]
        go_wp2_with (((with_reducible refine' wpList_str_rd (.tmp 29) 52 9 rfl ?_ Tryd.underlying52 Tryd.underlying5 Tryd.underlying9 ?_ (hrd.below hbz) ?_); exact rfl; exact rfl; simp only [Act.put, List.setIfInBounds_toArray, List.set_cons_succ, List.set_cons_zero]))
        exact ⟨rfl, _, rfl, Below.refl _ _, rfl⟩
      · simp only [List.getElem?_cons_succ, List.getElem?_cons_zero, Option.some.injEq] at ho; subst ho; clear hi hl
        have s3 : (fun (vv : Value) (ww : World) => ∃ y, vv = .agg (stv y).toArray ∧ IsS (padKey key 92) y) u3 wz := hd 3 (by kernel_rfl)
        simp only at s3
        obtain ⟨y, rfl, hy⟩ := s3
        have s5 : (fun (vv : Value) (ww : World) => vv = .string ⟨H1.toArray⟩) u5 wz := hd 5 (by kernel_rfl)
        simp only at s5
        obtain rfl := s5
        clear hd
        simp only [List.take_succ_cons, List.take_zero, List.drop_succ_cons, List.drop_zero, List.map_cons, List.map_nil, puts, Act.put, List.setIfInBounds_toArray, List.set_cons_succ, List.set_cons_zero]
        go_wp2_with ((go_at_call 53; (with_reducible refine (add_any (padKey key 92) H1 y _ (hT8.below hbz) hy (by rw [PK2.out, hHl]; omega)).mono ?_); rintro e w' ⟨y2, rfl, hy2, hq⟩))
        exact ⟨rfl, _, rfl, hq, ⟨y2, rfl, hy2⟩⟩
      · simp only [List.getElem?_cons_succ, List.getElem?_cons_zero, Option.some.injEq] at ho; subst ho; clear hi hl
        have s6 : (fun (vv : Value) (ww : World) => ∃ y, vv = .agg (stv y).toArray ∧ IsS (padKey key 92 ++ H1) y) u6 wz := hd 6 (by kernel_rfl)
        simp only at s6
        obtain ⟨y, rfl, hy⟩ := s6
        clear hd
        simp only [List.take_succ_cons, List.take_zero, List.drop_succ_cons, List.drop_zero, List.map_cons, List.map_nil, puts, Act.put, List.setIfInBounds_toArray, List.set_cons_succ, List.set_cons_zero]
        go_wp2_with ((go_at_call 55; (with_reducible refine (strsum_any _ y _ (hT8.below hbz) hy (by rw [List.length_append, PK2.out, hHl]; omega)).mono ?_); rintro e w' ⟨rfl, hq⟩))
        exact ⟨rfl, _, rfl, hq, rfl⟩
      · simp only [List.getElem?_cons_succ, List.getElem?_cons_zero, Option.some.injEq] at ho; subst ho; clear hi hl
        clear hd
        simp only [List.take_succ_cons, List.take_zero, List.drop_succ_cons, List.drop_zero, List.map_cons, List.map_nil, puts, Act.put, List.setIfInBounds_toArray, List.set_cons_succ, List.set_cons_zero]
        go_wp2_with (((with_reducible refine' wpList_alloc_blk (cs := List.replicate 32 (.int .u8 0)) 89 rfl ?_ zr_b32 ?_ ?_); exact rfl; exact zeros_u8 32; intro wq hkq hNq hzq; simp only [Act.put, List.setIfInBounds_toArray, List.set_cons_succ, List.set_cons_zero]))
        exact ⟨rfl, _, rfl, hNq, ⟨_, rfl, hbz.size, hkq⟩⟩
      · omega
    intro us wz hl hbz hS
    obtain ⟨u0, u1, u2, u3, u4, u5, u6, u7, u8, rfl⟩ := len9 hl
    have s7 : (fun (vv : Value) (ww : World) => vv = .agg (bv (sha (padKey key 92 ++ H1))).toArray) u7 wz := hS 7 (by omega)
    simp only at s7
    obtain rfl := s7
    have s8 : (fun (vv : Value) (ww : World) => ∃ B, vv = .pointer (some ⟨B, 0, none⟩) ∧ w8.heap.size ≤ B ∧ Blk ww B 89 (List.replicate 32 (.int .u8 0))) u8 wz := hS 8 (by omega)
    simp only at s8
    obtain ⟨B8, rfl, hB8, hkz⟩ := s8
    clear hS hl
    simp only [List.take_succ_cons, List.take_zero, List.drop_succ_cons, List.drop_zero, List.map_cons, List.map_nil, puts, Act.put, List.setIfInBounds_toArray, List.set_cons_succ, List.set_cons_zero]
    have hb9 := hb8.trans (hbz.mono hb8.size)
    have SL2 := Lib.hid (show (bv (sha (padKey key 92 ++ H1))).length = 32 by rw [bv_length, sha_len])
    ((with_reducible refine' wpList_store_blk (cs := bv (sha (padKey key 92 ++ H1))) 89 (.tmp 8) (.tmp 32) rfl ?_ ?_ ?_ hkz sz_b32 ?_ ?_ ?_ ?_); exact rfl; exact rfl; exact rfl; exact SL2.out; exact List.length_replicate; exact bv_one _; intro w9 hk9 hO9 hz9; simp only [Act.put])
    refine onlyN ?_
    have hrd9 := hk9.rd 0 32 32 1 (by rw [SL2.out]; decide) (Nat.le_refl _) (by unfold maxLen; omega)
    rw [List.drop_zero, List.take_of_length_le (by rw [SL2.out]; decide)] at hrd9
    go_wp2_with (first | ((with_reducible refine' wpList_arr_all (B := B8) (f := 0) (.tmp 8) 89 rfl ?_ Tryd.underlying89 sz_u8 ?_ ?_); exact rfl; exact rfl; simp only [Act.put, List.setIfInBounds_toArray, List.set_cons_succ, List.set_cons_zero]) | ((with_reducible refine' wpList_str_rd (.tmp 33) 52 9 rfl ?_ Tryd.underlying52 Tryd.underlying5 Tryd.underlying9 ?_ hrd9 ?_); exact rfl; exact rfl; simp only [Act.put, List.setIfInBounds_toArray, List.set_cons_succ, List.set_cons_zero]))
    go_ret
    have hs8 := hb8.size
    refine ⟨?_, hb9.trans (hO9.below (by omega) hb9.size)⟩
    rw [MACE.out, HH.out]
    rfl
end Go.Proofs.YtajglgkjpagcjaaDoor.Wi
namespace Go.Proofs.YtajglgkjpagcjaaDoor.Wi
open Go Go.RowKit Pu Lb

theorem not_u64 (n : Int) (h0 : -9223372036854775808 ≤ n) (h : n < 0) : bits .xor .u64 IntKind.u64.max (IntKind.u64.wrap n) = (mag n : Int) := by
  have e : IntKind.u64.wrap n = 18446744073709551616 + n := by rw [IntKind.wrap_u64]; omega
  have e2 : IntKind.u64.max = 18446744073709551615 := by decide
  rw [e, e2, u64_xor _ _ (by omega) (by omega) (by omega) (by omega)]
  unfold mag
  rw [if_pos h]
  have e3 : (18446744073709551615 : Int).toNat = 2 ^ 64 - 1 := by decide
  have e4 : (18446744073709551616 + n).toNat < 2 ^ 64 := by omega
  rw [e3, Nat.xor_comm, xor_ones 64 _ e4]
  omega

theorem shr_eq (m j : Nat) : (m : Int) / 2 ^ (8 * j) = ((m / 256 ^ j : Nat) : Int) := by
  rw [← pow8]; norm_cast
theorem nonneg_div (m k : Nat) : 0 ≤ ((m / k : Nat) : Int) := Int.natCast_nonneg _
theorem shr_pos {m j : Nat} (h : (0 : Int) < (m : Int) / 2 ^ (8 * j)) : 0 < m / 256 ^ j := by
  rw [shr_eq] at h; exact Int.natCast_pos.1 h
theorem shr_zero {m j : Nat} (h : (m : Int) / 2 ^ (8 * j) ≤ 0) : m < 256 ^ j := by
  rw [shr_eq] at h
  have : m / 256 ^ j = 0 := Int.ofNat_eq_zero.1 (Int.le_antisymm h (Int.natCast_nonneg _))
  have h2 := Nat.div_eq_zero_iff.1 this
  have h3 : 0 < 256 ^ j := Nat.pow_pos (by omega)
  omega

/-- a byte of a number, turned round -/
theorem cell_eq (z : Int) (neg : Bool) : bits .xor .u8 (z % 256) (fb neg) = ((fl neg (bt z)).toNat : Int) := by
  have h := bt_toNat z
  have hz : 0 ≤ z % 256 ∧ z % 256 < 256 := ⟨Int.emod_nonneg _ (by omega), Int.emod_lt_of_pos _ (by omega)⟩
  have hb := fb_bd neg
  rw [u8_xor _ _ hz.1 hz.2 hb.1 (by omega), ← h]
  unfold fl
  rw [UInt8.toNat_xor]
  cases neg <;> simp [fb]
theorem head_eq (z : Int) (h0 : 0 ≤ z) (h1 : z ≤ 255) (neg : Bool) : bits .xor .u8 z (fb neg) = ((fl neg (bt z)).toNat : Int) := by
  rw [← cell_eq, Int.emod_eq_of_lt h0 (by omega)]

theorem step_eq (m j : Nat) (neg : Bool) (h0 : 0 < j) (h1 : j ≤ nd m) :
    bv ((bt (128 + nd m) :: be (m / 256 ^ j) (nd m - j)).map (fl neg)) ++ [.int .u8 (bits .xor .u8 ((m : Int) / 2 ^ (8 * (j - 1)) % 256) (fb neg))] =
      bv ((bt (128 + nd m) :: be (m / 256 ^ (j - 1)) (nd m - (j - 1))).map (fl neg)) := by
  rw [cell_eq, shr_eq, be_step m (nd m) j h0 h1]
  simp [bv]

set_option maxHeartbeats 800000 in
theorem int_any (n : Int) (w : World) (h0 : -9223372036854775808 ≤ n) (h1 : n ≤ 9223372036854775807) :
    Calls Tryd.prog 26 #[.int .i64 n] w fun e w' => ∃ v, e = .returned v ∧ w'.ownsRow w.heap.size 5 1 v (enc n).length (bv (enc n)) ∧ Below w.heap.size w w' := by
  obtain ⟨m, hm⟩ : ∃ m, m = mag n := ⟨_, rfl⟩
  obtain ⟨neg, hneg⟩ : ∃ neg : Bool, neg = decide (n < 0) := ⟨_, rfl⟩
  have hml : m ≤ 9223372036854775807 := by have := mag_lt h0 h1; omega
  have HM := Lib.hid hm; clear hm
  have HN := Lib.hid hneg; clear hneg
  have hfb := fb_bd neg
  go_enter Tryd.func26, Tryd.ntmps26
  go_wp2
  go_step3
  go_upto_if 11 with fail
  go_cut [3, 4] (fun s3 s4 w' => s3 = .int .u64 m ∧ s4 = .int .u8 (fb neg) ∧ w' = w)
  case first =>
    by_cases hng : n < 0
    · go_wp2
      go_meet
      case rel => exact ⟨by rw [not_u64 n h0 hng, HM.out], by rw [HN.out]; simp [hng, fb], rfl⟩
    · go_wp2
      go_meet
      case rel => exact ⟨by rw [HM.out]; unfold mag; rw [if_neg (by omega), IntWalk.u64_in n (by omega)]; congr 1; omega, by rw [HN.out]; unfold fb; simp; omega, rfl⟩
  case rest =>
    obtain ⟨rfl, rfl, rfl⟩ := hcut
    go_upto_region 4 with fail
    go_wp2
    go_step3
    go_upto_block 0 with fail
    go_cut [5] (fun k w' => k = .int .i64 (nd m) ∧ w' = wc)
    case first =>
      go_wp2_with fail
      go_loop [5] (fun k => ∃ j : Nat, j ≤ 8 ∧ k = .int .i64 j ∧ m < 256 ^ j) (fun k => (intOf k).toNat)
      case atStart => exact ⟨8, by omega, rfl, by omega⟩
      case round =>
        obtain ⟨j, hj, rfl, hmj⟩ := hrel
        have HJ := Lib.hid hmj; clear hmj
        by_cases hp : 0 < j
        · go_wp2_with fail
          · go_meet
            case rel =>
              refine ⟨?_, rfl⟩
              have hd : (0 : Int) < (m : Int) / 2 ^ (8 * (j - 1)) := by assumption
              rw [nd_eq HJ.out (.inr (shr_pos hd))]
          · go_round
            case rel =>
              have hd : (m : Int) / 2 ^ (8 * (j - 1)) ≤ 0 := by assumption
              exact ⟨j - 1, by omega, by congr 1; omega, shr_zero hd⟩
            case measure => simp [intOf]; omega
        · go_wp2_with fail
          go_meet
          case rel =>
            refine ⟨?_, rfl⟩
            rw [nd_eq HJ.out (.inl (by omega))]
    case rest =>
      obtain ⟨rfl, rfl⟩ := hcut
      have hn8 : nd m ≤ 8 := nd_le (by omega)
      go_upto_block 2 with fail
      have hown := own_lit wc 5 [.int .u8 (bits BinOp.xor IntKind.u8 (128 + ↑(nd m)) (fb neg))] (by unfold maxLen; simp)
      rw [head_eq _ (by omega) (by omega)] at hown
      have HO := Lib.hid hown; clear hown
      go_wp2_with fail
      go_loopw [6, 7] (fun v i wr => ∃ j : Nat, j ≤ nd m ∧ i = .int .i64 ((j : Int) - 1) ∧ wr.ownsRow wc.heap.size 5 1 v (nd m - j + 1) (bv ((bt (128 + nd m) :: be (m / 256 ^ j) (nd m - j)).map (fl neg))) ∧ Below wc.heap.size wc wr)
        (fun _ i _ => (intOf i + 1).toNat)
      case atStart =>
        refine ⟨nd m, Nat.le_refl _, rfl, ?_, (Below.refl _ _).alloc (Nat.le_refl _) _⟩
        rw [head_eq _ (by omega) (by omega), Nat.sub_self]
        exact HO.out
      case round =>
        obtain ⟨j, hj, rfl, hown, hbl⟩ := hrel
        have HO := Lib.hid hown; clear hown
        by_cases hp : 0 < j
        · go_wp2_with (((with_reducible refine' wpList_append_one (.tmp 36) (.tmp 44) 52 rfl ?_ Tryd.underlying52 inf_u8 ?_ ?_ HO.out ?_ ?_ ?_ ?_ hbl.size ?_); exact rfl; exact rfl; exact rfl; exact rfl; exact rfl; (first | omega | (unfold maxLen; omega)); omega; intro v' w' ho hb'; simp only [Act.put, List.setIfInBounds_toArray, List.set_cons_succ, List.set_cons_zero]))
          · have he := step_eq m j neg hp hj
            rw [he] at ho
            have HO' := Lib.hid ho; clear ho he HO
            go_wp2_with fail
            go_roundw
            case rel => exact ⟨j - 1, by omega, by congr 1; omega, by rw [show nd m - (j - 1) + 1 = nd m - j + 1 + 1 by omega]; exact HO'.out, hbl.trans hb'⟩
            case measure => simp [intOf]; omega
        · go_wp2_with fail
          rw [Exit.noGoto_ret]
          go_ret
          obtain rfl : j = 0 := by omega
          have ho := HO.out
          simp only [Nat.pow_zero, Nat.div_one, Nat.sub_zero] at ho
          refine ⟨_, rfl, ?_, hbl⟩
          rw [enc_length, enc, ← HM.out, ← HN.out]
          exact ho

/-! ### the specification's encoder -/
theorem step_eq' (m j : Nat) (neg : Bool) (h0 : 0 < j) (h1 : j ≤ nd m) :
    bv ((bt (128 + nd m) :: be (m / 256 ^ j) (nd m - j)).map (fl neg)) ++ [.int .u8 ((fl neg (bt ((m / 256 ^ (j - 1) : Nat) : Int))).toNat : Int)] =
      bv ((bt (128 + nd m) :: be (m / 256 ^ (j - 1)) (nd m - (j - 1))).map (fl neg)) := by
  rw [be_step m (nd m) j h0 h1]
  simp [bv]
theorem neg_head (z : Int) (h0 : 0 ≤ z) (h1 : z ≤ 255) : ([] : List Value) ++ [.int .u8 (255 - z)] = bv [fl true (bt z)] := by
  have := fl_true (bt z)
  have h2 := bt_toNat z
  rw [Int.emod_eq_of_lt h0 (by omega)] at h2
  simp only [bv, List.map_cons, List.map_nil, List.nil_append, this, h2]
theorem pos_head (z : Int) (h0 : 0 ≤ z) (h1 : z ≤ 255) : ([] : List Value) ++ [.int .u8 z] = bv [fl false (bt z)] := by
  have h2 := bt_toNat z
  rw [Int.emod_eq_of_lt h0 (by omega)] at h2
  simp only [bv, List.map_cons, List.map_nil, List.nil_append, fl_false, h2]
theorem nd_gt {m j : Nat} (h : 0 < m / 256 ^ j) : j < nd m := by
  by_cases hj : nd m ≤ j
  · exfalso
    have h3 := lt_pow_nd m
    have h4 : 256 ^ nd m ≤ 256 ^ j := Nat.pow_le_pow_right (by omega) hj
    have h5 : m / 256 ^ j = 0 := Nat.div_eq_of_lt (by omega)
    omega
  · omega
theorem bt_mod (z : Int) : z % 256 = ((bt z).toNat : Int) := (bt_toNat z).symm
theorem fl_cell (b : UInt8) (neg : Bool) : (fl neg b).toNat = if neg then 255 - b.toNat else b.toNat := by
  cases neg
  · simp [fl]
  · have := fl_true b; have := u8_lt b; simp only [if_true]; omega

set_option maxHeartbeats 800000 in
theorem refint_any (n : Int) (w : World) (h0 : -9223372036854775808 ≤ n) (h1 : n ≤ 9223372036854775807) :
    Calls Tryd.prog 30 #[.int .i64 n] w fun e w' => ∃ v, e = .returned v ∧ w'.ownsRow w.heap.size 5 1 v (enc n).length (bv (enc n)) ∧ Below w.heap.size w w' := by
  obtain ⟨m, hm⟩ : ∃ m, m = mag n := ⟨_, rfl⟩
  have hml : m ≤ 9223372036854775807 := by have := mag_lt h0 h1; omega
  have HM := Lib.hid hm; clear hm
  go_enter Tryd.func30, Tryd.ntmps30
  go_upto_if 11 with fail
  go_cut [3] (fun s3 w' => s3 = .int .i64 m ∧ w = w')
  case first =>
    by_cases hng : n < 0
    · go_wp2
      go_meet
      case rel => exact ⟨by rw [HM.out]; unfold mag; rw [if_pos hng]; congr 1; omega, rfl⟩
    · go_wp2
      go_meet
      case rel => exact ⟨by rw [HM.out]; unfold mag; rw [if_neg (by omega)]; congr 1; omega, rfl⟩
  case rest =>
    obtain ⟨rfl, rfl⟩ := hcut
    go_upto_block 0 with fail
    go_cut [4] (fun v w' => w'.ownsRow w.heap.size 5 1 v (nd m) (bv (le m (nd m))) ∧ Below w.heap.size w w')
    case first =>
      go_wp2_with fail
      go_loopw [3, 4] (fun x v wr => ∃ j : Nat, j ≤ nd m ∧ x = .int .i64 ((m / 256 ^ j : Nat) : Int) ∧ wr.ownsRow w.heap.size 5 1 v j (bv (le m j)) ∧ Below w.heap.size w wr) (fun x _ _ => (intOf x).toNat)
      case atStart => exact ⟨0, Nat.zero_le _, by simp, World.ownsRow_nil _ _ _ _, Below.refl _ _⟩
      case round =>
        obtain ⟨j, hj, rfl, hown, hbl⟩ := hrel
        have HO := Lib.hid hown; clear hown
        have hle : m / 256 ^ j ≤ m := Nat.div_le_self _ _
        obtain ⟨q, hq⟩ : ∃ q, q = m / 256 ^ j := ⟨_, rfl⟩
        rw [← hq] at hle ⊢
        have HQ := Lib.hid hq; clear hq
        have hn8 : nd m ≤ 8 := nd_le (by omega)
        by_cases hp : 0 < q
        · go_wp2_with (((with_reducible refine' wpList_append_one (.tmp 16) (.tmp 20) 52 rfl ?_ Tryd.underlying52 inf_u8 ?_ ?_ HO.out ?_ ?_ ?_ ?_ hbl.size ?_); exact rfl; exact rfl; exact rfl; exact rfl; exact rfl; (first | omega | (unfold maxLen; omega)); omega; intro v' w' ho hb'; simp only [Act.put, List.setIfInBounds_toArray, List.set_cons_succ, List.set_cons_zero]))
          have hjn : j < nd m := nd_gt (by rw [← HQ.out]; exact hp)
          have he : bv (le m j) ++ [.int .u8 ((q : Int) % 256)] = bv (le m (j + 1)) := by rw [le_snoc, ← HQ.out, bv_append, bt_mod]; rfl
          rw [he] at ho
          have HO' := Lib.hid ho; clear ho he HO
          go_roundw
          case rel => exact ⟨j + 1, by omega, by rw [Nat.pow_succ, ← Nat.div_div_eq_div_mul, ← HQ.out]; rfl, HO'.out, hbl.trans hb'⟩
          case measure => simp [intOf]; omega
        · go_wp2_with fail
          go_meet
          have hjn : nd m ≤ j := nd_le (by
            have h0 : m / 256 ^ j = 0 := by rw [← HQ.out]; omega
            have h2 := Nat.div_eq_zero_iff.1 h0
            have h3 : 0 < 256 ^ j := Nat.pow_pos (by omega)
            omega)
          obtain rfl : j = nd m := by omega
          case rel => exact ⟨HO.out, hbl⟩
    case rest =>
      obtain ⟨hown, hbl⟩ := hcut
      have HO := Lib.hid hown; clear hown
      have hn8 : nd m ≤ 8 := nd_le (by omega)
      have hrd := Rd.of_own HO.out
      obtain ⟨w1, rfl⟩ : ∃ x : World, x = wc := ⟨_, rfl⟩
      go_upto_if 27 with ((with_reducible refine' wpList_len_rd (.tmp 24) 52 rfl ?_ Tryd.underlying52 ?_ hrd ?_); exact rfl; exact rfl; simp only [Act.put, List.setIfInBounds_toArray, List.set_cons_succ, List.set_cons_zero])
      go_cut [6] (fun v w' => w'.ownsRow w1.heap.size 5 1 v 1 (bv [fl (decide (n < 0)) (bt (128 + nd m))]) ∧ Below w1.heap.size w1 w')
      case first =>
        have hz := World.ownsRow_nil w1 w1.heap.size 5 1
        by_cases hng : n < 0
        · go_wp2_with (first | ((with_reducible refine' wpList_append_one (.tmp 28) (.tmp 32) 52 rfl ?_ Tryd.underlying52 inf_u8 ?_ ?_ hz ?_ ?_ ?_ ?_ (Nat.le_refl _) ?_); exact rfl; exact rfl; exact rfl; exact rfl; exact rfl; (first | omega | (unfold maxLen; omega)); omega; intro v' w' ho hb'; simp only [Act.put, List.setIfInBounds_toArray, List.set_cons_succ, List.set_cons_zero]) | ((with_reducible refine' wpList_append_one (.tmp 34) (.tmp 38) 52 rfl ?_ Tryd.underlying52 inf_u8 ?_ ?_ hz ?_ ?_ ?_ ?_ (Nat.le_refl _) ?_); exact rfl; exact rfl; exact rfl; exact rfl; exact rfl; (first | omega | (unfold maxLen; omega)); omega; intro v' w' ho hb'; simp only [Act.put, List.setIfInBounds_toArray, List.set_cons_succ, List.set_cons_zero]))
          go_meet
          case rel =>
            rw [show (127 : Int) - nd m = 255 - (128 + nd m) by omega, neg_head _ (by omega) (by omega)] at ho
            rw [decide_eq_true (by omega)]
            exact ⟨ho, hb'⟩
        · go_wp2_with (first | ((with_reducible refine' wpList_append_one (.tmp 28) (.tmp 32) 52 rfl ?_ Tryd.underlying52 inf_u8 ?_ ?_ hz ?_ ?_ ?_ ?_ (Nat.le_refl _) ?_); exact rfl; exact rfl; exact rfl; exact rfl; exact rfl; (first | omega | (unfold maxLen; omega)); omega; intro v' w' ho hb'; simp only [Act.put, List.setIfInBounds_toArray, List.set_cons_succ, List.set_cons_zero]) | ((with_reducible refine' wpList_append_one (.tmp 34) (.tmp 38) 52 rfl ?_ Tryd.underlying52 inf_u8 ?_ ?_ hz ?_ ?_ ?_ ?_ (Nat.le_refl _) ?_); exact rfl; exact rfl; exact rfl; exact rfl; exact rfl; (first | omega | (unfold maxLen; omega)); omega; intro v' w' ho hb'; simp only [Act.put, List.setIfInBounds_toArray, List.set_cons_succ, List.set_cons_zero]))
          go_meet
          case rel =>
            rw [pos_head _ (by omega) (by omega)] at ho
            rw [decide_eq_false (by omega)]
            exact ⟨ho, hb'⟩
      case rest =>
        obtain ⟨ho, hb'⟩ := hcut
        have HO2 := Lib.hid ho; clear ho
        go_wp2_with fail
        go_loopw [6, 7] (fun v i wr => ∃ j : Nat, j ≤ nd m ∧ i = .int .i64 ((j : Int) - 1) ∧ wr.ownsRow w1.heap.size 5 1 v (nd m - j + 1) (bv ((bt (128 + nd m) :: be (m / 256 ^ j) (nd m - j)).map (fl (decide (n < 0))))) ∧ Below w1.heap.size w1 wr)
          (fun _ i _ => (intOf i + 1).toNat)
        case atStart => exact ⟨nd m, Nat.le_refl _, rfl, by rw [Nat.sub_self]; exact HO2.out, hb'⟩
        case round =>
          obtain ⟨j, hj, rfl, hown, hbl2⟩ := hrel
          have HO3 := Lib.hid hown; clear hown
          by_cases hp : 0 < j
          · have hg := hrd.below hbl2
            have c1 := bv_at (le_get m (k := nd m) (j := j - 1) (by omega))
            obtain ⟨b, hb⟩ : ∃ b, b = bt ((m / 256 ^ (j - 1) : Nat) : Int) := ⟨_, rfl⟩
            rw [← hb] at c1
            have C1 := Lib.hid c1; clear c1
            have HB := Lib.hid hb; clear hb
            have hb256 := u8_lt b
            by_cases hng : n < 0
            · go_wp2_with (first | ((with_reducible refine' wpList_at1_rd (.tmp 46) (.tmp 47) 52 rfl ?_ Tryd.underlying52 sz_u8 ?_ hg (j - 1) ?_ ?_ ?_); exact rfl; exact rfl; (show (_ : Int) = _; omega); omega; simp only [Act.put, List.setIfInBounds_toArray, List.set_cons_succ, List.set_cons_zero]) | ((with_reducible refine' wpList_load_rd (.tmp 48) 5 rfl ?_ ld_u8 ?_ hg (C1.out) ?_); exact rfl; exact rfl; simp only [Act.put, List.setIfInBounds_toArray, List.set_cons_succ, List.set_cons_zero]) | ((with_reducible refine' wpList_append_one (.tmp 54) (.tmp 56) 52 rfl ?_ Tryd.underlying52 inf_u8 ?_ ?_ HO3.out ?_ ?_ ?_ ?_ hbl2.size ?_); exact rfl; exact rfl; exact rfl; exact rfl; exact rfl; (first | omega | (unfold maxLen; omega)); omega; intro v' w' ho hb'; simp only [Act.put, List.setIfInBounds_toArray, List.set_cons_succ, List.set_cons_zero]))
              rw [← fl_true, HB.out] at ho
              have hd : decide (n < 0) = true := decide_eq_true hng
              rw [← hd, step_eq' m j _ hp hj] at ho
              have HO' := Lib.hid ho; clear ho
              go_roundw
              case rel => exact ⟨j - 1, by omega, by congr 1; omega, by rw [show nd m - (j - 1) + 1 = nd m - j + 1 + 1 by omega]; exact HO'.out, hbl2.trans hb'⟩
              case measure => simp [intOf]; omega
            · go_wp2_with (first | ((with_reducible refine' wpList_at1_rd (.tmp 46) (.tmp 47) 52 rfl ?_ Tryd.underlying52 sz_u8 ?_ hg (j - 1) ?_ ?_ ?_); exact rfl; exact rfl; (show (_ : Int) = _; omega); omega; simp only [Act.put, List.setIfInBounds_toArray, List.set_cons_succ, List.set_cons_zero]) | ((with_reducible refine' wpList_load_rd (.tmp 48) 5 rfl ?_ ld_u8 ?_ hg (C1.out) ?_); exact rfl; exact rfl; simp only [Act.put, List.setIfInBounds_toArray, List.set_cons_succ, List.set_cons_zero]) | ((with_reducible refine' wpList_append_one (.tmp 54) (.tmp 56) 52 rfl ?_ Tryd.underlying52 inf_u8 ?_ ?_ HO3.out ?_ ?_ ?_ ?_ hbl2.size ?_); exact rfl; exact rfl; exact rfl; exact rfl; exact rfl; (first | omega | (unfold maxLen; omega)); omega; intro v' w' ho hb'; simp only [Act.put, List.setIfInBounds_toArray, List.set_cons_succ, List.set_cons_zero]))
              rw [← fl_false b, HB.out] at ho
              have hd : decide (n < 0) = false := decide_eq_false (by omega)
              rw [← hd, step_eq' m j _ hp hj] at ho
              have HO' := Lib.hid ho; clear ho
              go_roundw
              case rel => exact ⟨j - 1, by omega, by congr 1; omega, by rw [show nd m - (j - 1) + 1 = nd m - j + 1 + 1 by omega]; exact HO'.out, hbl2.trans hb'⟩
              case measure => simp [intOf]; omega
          · go_wp2_with fail
            go_ret
            obtain rfl : j = 0 := by omega
            have ho := HO3.out
            simp only [Nat.pow_zero, Nat.div_one, Nat.sub_zero] at ho
            refine ⟨_, rfl, ?_, hbl.trans (hbl2.mono hbl.size)⟩
            rw [enc_length, enc, ← HM.out]
            exact own_mono ho hbl.size
end Go.Proofs.YtajglgkjpagcjaaDoor.Wi
namespace Go.Proofs.YtajglgkjpagcjaaDoor.Wi
open Go Go.RowKit Pu Lb

theorem encBytes_length (s : List UInt8) : (encBytes s).length = (enc s.length).length + s.length := by simp [encBytes]
theorem enc_len_bd {n : Int} (h0 : -9223372036854775808 ≤ n) (h1 : n ≤ 9223372036854775807) : 1 ≤ (enc n).length ∧ (enc n).length ≤ 9 := by
  rw [enc_length]; have := nd_mag_le h0 h1; omega

set_option maxRecDepth 100000 in
theorem bytes_any (s : List UInt8) (w : World) (hs : s.length ≤ 70368744177664) :
    Calls Tryd.prog 54 #[.string ⟨s.toArray⟩] w fun e w' => ∃ v, e = .returned v ∧ w'.ownsRow w.heap.size 5 1 v (encBytes s).length (bv (encBytes s)) ∧ Below w.heap.size w w' := by
  have hsz := size_str s
  have hb := enc_len_bd (n := s.length) (by omega) (by omega)
  go_enter Tryd.func54, Tryd.ntmps54
  go_wp2_with (first | (go_at_call 26; (with_reducible refine (int_any _ _ (by omega) (by omega)).mono ?_); rintro e w' ⟨v1, rfl, ho1, hb1⟩) | ((with_reducible refine' wpList_append_str (l := s) (.tmp 5) (.tmp 6) 52 9 rfl ?_ Tryd.underlying52 Tryd.underlying9 inf_u8 ?_ ho1 ?_ ?_ hb1.size ?_); exact rfl; exact rfl; exact rfl; omega; intro v2 w2 ho2 hb2; simp only [Act.put, List.setIfInBounds_toArray, List.set_cons_succ, List.set_cons_zero]))
  go_ret
  rw [← bv_append] at ho2
  exact ⟨_, rfl, by rw [encBytes_length]; exact ho2, hb1.trans hb2⟩

set_option maxRecDepth 100000 in
theorem refbytes_any (s : List UInt8) (w : World) (hs : s.length ≤ 70368744177664) :
    Calls Tryd.prog 68 #[.string ⟨s.toArray⟩] w fun e w' => ∃ v, e = .returned v ∧ w'.ownsRow w.heap.size 5 1 v (encBytes s).length (bv (encBytes s)) ∧ Below w.heap.size w w' := by
  have hsz := size_str s
  have hb := enc_len_bd (n := s.length) (by omega) (by omega)
  have h1 := bv_one s
  go_enter Tryd.func68, Tryd.ntmps68
  go_wp2_with (first | (go_at_call 30; (with_reducible refine (refint_any _ _ (by omega) (by omega)).mono ?_); rintro e w' ⟨v1, rfl, ho1, hb1⟩) | ((with_reducible refine' wpList_bytes_l (l := s) (.tmp 6) 9 52 rfl ?_ Tryd.underlying9 Tryd.underlying52 Tryd.underlying5 ?_ (by unfold maxLen; omega) ?_); exact rfl; exact rfl; intro v2 w2 hr2 hb2; simp only [Act.put, List.setIfInBounds_toArray, List.set_cons_succ, List.set_cons_zero]) | ((with_reducible refine' wpList_append_rd (.tmp 5) (.tmp 7) 52 rfl ?_ Tryd.underlying52 inf_u8 ?_ ?_ ?_ (own_below ho1 hb2) ?_ hr2 h1 ?_ ?_ (Nat.le_trans hb1.size hb2.size) ?_); exact rfl; exact rfl; omega; exact rfl; exact rfl; (first | omega | (unfold maxLen; omega)); omega; intro v3 w3 ho3 hb3; simp only [Act.put, List.setIfInBounds_toArray, List.set_cons_succ, List.set_cons_zero]))
  go_ret
  rw [← bv_append] at ho3
  exact ⟨_, rfl, by rw [encBytes_length]; exact ho3, (hb1.trans (hb2.mono hb1.size)).trans hb3⟩
end Go.Proofs.YtajglgkjpagcjaaDoor.Wi
namespace Go.Proofs.YtajglgkjpagcjaaDoor.Lb
open Go Go.RowKit Go.Lib
section
variable {P : Program} {ops : Array Oper} {Q : Exit → Act → World → Prop} {a : Act} {w : World} {rest : List Oper} {o : Oper}
theorem wpList_arrptr (x : Operand) (t : TypeId) (ho : o.op = .sliceToArrayPointer t x) (hw : Region.wanted o (yielded ops a.tmps) = true) {e : TypeId} {m : Nat} (ht : P.underlying t = some (.array m e)) {ad : Addr} {n cap : Nat} (hx : a.eval x = .slice (some ad) n cap) (hm : m ≤ n)
    (h : wpList P ops Q rest (a.put o.dst (.pointer (some ad))) w) : wpList P ops Q (o :: rest) a w := wpList_of_run hw (run_arr_ptr x t ho ht hx hm w) h
end
end Go.Proofs.YtajglgkjpagcjaaDoor.Lb
namespace Go.Proofs.YtajglgkjpagcjaaDoor.Pu
/-- what is hashed for a tag and parts -/
def inp (tag : Int) (l : List (List UInt8)) : List UInt8 := bt tag :: l.flatMap encBytes
def digOf (tag : Int) (l : List (List UInt8)) : List UInt8 := (sha (inp tag l)).take 16
theorem digOf_len (tag : Int) (l : List (List UInt8)) : (digOf tag l).length = 16 := by unfold digOf; rw [List.length_take, sha_len]; rfl
end Go.Proofs.YtajglgkjpagcjaaDoor.Pu
namespace Go.Proofs.YtajglgkjpagcjaaDoor.Wi
open Go Go.RowKit Pu Lb
set_option linter.unusedSimpArgs false
set_option linter.unusedVariables false
attribute [local irreducible] comp sched comps sha outS

theorem zr_dig2 : (Tryd.prog.info? 23).map (·.zero) = some (some (.agg (Array.replicate 16 (.int .u8 0)))) := by kernel_rfl
set_option maxRecDepth 100000 in
set_option maxHeartbeats 1600000 in
theorem of_any (tag : Int) (x : Value) (n : Nat) (l : List (List UInt8)) (w : World) (hT : TabH w) (hx : Rd w 1 x n (sv l)) (h0 : -9223372036854775808 ≤ tag) (h1 : tag ≤ 9223372036854775807) (hL : (inp tag l).length ≤ 70368744177664) :
    Calls Tryd.prog 34 #[.int .i64 tag, x] w fun e w' => e = .returned (.agg (bv (digOf tag l)).toArray) ∧ Below w.heap.size w w' := by
  have hl : l.length = n := by have := hx.1; rw [sv_length] at this; omega
  have hnm := hx.len
  unfold maxLen at hnm
  have HL := Lib.hid hl
  clear hl
  go_enter Tryd.func34, Tryd.ntmps34
  go_upto_region 1 with (((with_reducible refine' wpList_alloc_blk (cs := List.replicate 16 (.int .u8 0)) 23 rfl ?_ zr_dig ?_ ?_); exact rfl; exact zeros_u8 16; intro w1 hkR hN1 hz1; simp only [Act.put, List.setIfInBounds_toArray, List.set_cons_succ, List.set_cons_zero]))
  have hT1 := hT.below hN1
  have hx1 := hx.below hN1
  have hlR := hkR.lt
  clear hz1
  refine wp_region_mono (w := w1) 7 (fun i => match i with | 0 => fun (vv : Value) (ww : World) => vv = .agg (stv begin0).toArray | 1 => fun (vv : Value) (ww : World) => vv = .int .i64 tag | 2 => fun (vv : Value) (ww : World) => vv = .int .u8 ((bt tag).toNat : Int) | 3 => fun (vv : Value) (ww : World) => Rd ww 1 vv 1 (bv [bt tag]) | 4 => fun (vv : Value) (ww : World) => vv = .string ⟨[bt tag].toArray⟩ | 5 => fun (vv : Value) (ww : World) => ∃ y, vv = .agg (stv y).toArray ∧ IsS [bt tag] y | 6 => fun (vv : Value) (ww : World) => ∃ B, vv = .pointer (some ⟨B, 0, none⟩) ∧ w1.heap.size ≤ B ∧ Blk ww B 85 stz | _ => fun _ _ => True) (by kernel_rfl) (by kernel_rfl) ?_ ?_ ?_
  · intro i vv w1 w2 h hb
    rcases i with _ | _ | _ | _ | _ | _ | _ | i
    all_goals first | exact h | exact Rd.below h hb | exact own_below h hb | (obtain ⟨B, h1, h2, h3⟩ := h; exact ⟨B, h1, h2, Blk.below h3 hb (Blk.lt h3)⟩) | trivial
  · intro i o hi ho us wz hl hbz hd
    obtain ⟨u0, u1, u2, u3, u4, u5, u6, rfl⟩ := len7 hl
    rcases i with _ | _ | _ | _ | _ | _ | _ | i
    · simp only [List.getElem?_cons_succ, List.getElem?_cons_zero, Option.some.injEq] at ho; subst ho; clear hi hl
      clear hd
      simp only [List.take_succ_cons, List.take_zero, List.drop_succ_cons, List.drop_zero, List.map_cons, List.map_nil, puts, Act.put, List.setIfInBounds_toArray, List.set_cons_succ, List.set_cons_zero]
      go_wp2_with ((go_at_call 52; (with_reducible refine (begin_any _).mono ?_); rintro e w' ⟨rfl, hq⟩))
      exact ⟨rfl, _, rfl, hq, rfl⟩
    · simp only [List.getElem?_cons_succ, List.getElem?_cons_zero, Option.some.injEq] at ho; subst ho; clear hi hl
      clear hd
      simp only [List.take_succ_cons, List.take_zero, List.drop_succ_cons, List.drop_zero, List.map_cons, List.map_nil, puts, Act.put, List.setIfInBounds_toArray, List.set_cons_succ, List.set_cons_zero]
      go_wp2_with (fail)
      exact ⟨rfl, _, rfl, Below.refl _ _, rfl⟩
    · simp only [List.getElem?_cons_succ, List.getElem?_cons_zero, Option.some.injEq] at ho; subst ho; clear hi hl
      have s1 : (fun (vv : Value) (ww : World) => vv = .int .i64 tag) u1 wz := hd 1 (by kernel_rfl)
      simp only at s1
      obtain rfl := s1
      clear hd
      simp only [List.take_succ_cons, List.take_zero, List.drop_succ_cons, List.drop_zero, List.map_cons, List.map_nil, puts, Act.put, List.setIfInBounds_toArray, List.set_cons_succ, List.set_cons_zero]
      go_wp2_with (fail)
      exact ⟨rfl, _, rfl, Below.refl _ _, by rw [bt_toNat]⟩
    · simp only [List.getElem?_cons_succ, List.getElem?_cons_zero, Option.some.injEq] at ho; subst ho; clear hi hl
      have s2 : (fun (vv : Value) (ww : World) => vv = .int .u8 ((bt tag).toNat : Int)) u2 wz := hd 2 (by kernel_rfl)
      simp only at s2
      obtain rfl := s2
      clear hd
      simp only [List.take_succ_cons, List.take_zero, List.drop_succ_cons, List.drop_zero, List.map_cons, List.map_nil, puts, Act.put, List.setIfInBounds_toArray, List.set_cons_succ, List.set_cons_zero]
      go_wp2_with (((with_reducible refine' wpList_build_own (u := .int .u8 ((bt tag).toNat : Int)) (.tmp 11) 52 rfl ?_ Tryd.underlying52 inf_u8 ?_ ?_ ?_); exact rfl; exact rfl; exact rfl; intro v3 w3 ho hNq hz; simp only [Act.put, List.setIfInBounds_toArray, List.set_cons_succ, List.set_cons_zero]))
      exact ⟨rfl, _, rfl, hNq, Rd.of_own ho⟩
    · simp only [List.getElem?_cons_succ, List.getElem?_cons_zero, Option.some.injEq] at ho; subst ho; clear hi hl
      have s3 : (fun (vv : Value) (ww : World) => Rd ww 1 vv 1 (bv [bt tag])) u3 wz := hd 3 (by kernel_rfl)
      simp only at s3
      clear hd
      simp only [List.take_succ_cons, List.take_zero, List.drop_succ_cons, List.drop_zero, List.map_cons, List.map_nil, puts, Act.put, List.setIfInBounds_toArray, List.set_cons_succ, List.set_cons_zero]
      go_wp2_with (((with_reducible refine' wpList_str_rd (.tmp 12) 52 9 rfl ?_ Tryd.underlying52 Tryd.underlying5 Tryd.underlying9 ?_ s3 ?_); exact rfl; exact rfl; simp only [Act.put, List.setIfInBounds_toArray, List.set_cons_succ, List.set_cons_zero]))
      exact ⟨rfl, _, rfl, Below.refl _ _, rfl⟩
    · simp only [List.getElem?_cons_succ, List.getElem?_cons_zero, Option.some.injEq] at ho; subst ho; clear hi hl
      have s0 : (fun (vv : Value) (ww : World) => vv = .agg (stv begin0).toArray) u0 wz := hd 0 (by kernel_rfl)
      simp only at s0
      obtain rfl := s0
      have s4 : (fun (vv : Value) (ww : World) => vv = .string ⟨[bt tag].toArray⟩) u4 wz := hd 4 (by kernel_rfl)
      simp only at s4
      obtain rfl := s4
      clear hd
      simp only [List.take_succ_cons, List.take_zero, List.drop_succ_cons, List.drop_zero, List.map_cons, List.map_nil, puts, Act.put, List.setIfInBounds_toArray, List.set_cons_succ, List.set_cons_zero]
      go_wp2_with ((go_at_call 53; (with_reducible refine (add_any [] [bt tag] begin0 _ (hT1.below hbz) begin_isS (by simp)).mono ?_); rintro e w' ⟨y, rfl, hy, hq⟩))
      exact ⟨rfl, _, rfl, hq, ⟨y, rfl, hy⟩⟩
    · simp only [List.getElem?_cons_succ, List.getElem?_cons_zero, Option.some.injEq] at ho; subst ho; clear hi hl
      clear hd
      simp only [List.take_succ_cons, List.take_zero, List.drop_succ_cons, List.drop_zero, List.map_cons, List.map_nil, puts, Act.put, List.setIfInBounds_toArray, List.set_cons_succ, List.set_cons_zero]
      go_wp2_with (((with_reducible refine' wpList_alloc_blk (cs := stz) 85 rfl ?_ zr_stm ?_ ?_); exact rfl; exact stv_zero; intro wq hkq hNq hzq; simp only [Act.put, List.setIfInBounds_toArray, List.set_cons_succ, List.set_cons_zero]))
      exact ⟨rfl, _, rfl, hNq, ⟨_, rfl, hbz.size, hkq⟩⟩
    · omega
  intro us wz hl hbz hS
  obtain ⟨u0, u1, u2, u3, u4, u5, u6, rfl⟩ := len7 hl
  have s5 : (fun (vv : Value) (ww : World) => ∃ y, vv = .agg (stv y).toArray ∧ IsS [bt tag] y) u5 wz := hS 5 (by omega)
  simp only at s5
  obtain ⟨y, rfl, hy⟩ := s5
  have s6 : (fun (vv : Value) (ww : World) => ∃ B, vv = .pointer (some ⟨B, 0, none⟩) ∧ w1.heap.size ≤ B ∧ Blk ww B 85 stz) u6 wz := hS 6 (by omega)
  simp only at s6
  obtain ⟨B5, rfl, hB5, hkz⟩ := s6
  clear hS hl
  simp only [List.take_succ_cons, List.take_zero, List.drop_succ_cons, List.drop_zero, List.map_cons, List.map_nil, puts, Act.put, List.setIfInBounds_toArray, List.set_cons_succ, List.set_cons_zero]
  have LY := Lib.hid (stv_len hy.1)
  ((with_reducible refine' wpList_store_blk (cs := stv y) 85 (.tmp 5) (.tmp 14) rfl ?_ ?_ ?_ hkz sz_stm ?_ ?_ ?_ ?_); exact rfl; exact rfl; exact rfl; exact LY.out; exact stz_len; exact stv_one _; intro w3 hk3 hO3 hz3; simp only [Act.put])
  refine onlyN ?_
  have hb3 := hbz.trans (hO3.below (by omega) hbz.size)
  have hxs := hx1.below hb3
  have hkR3 := hkR.below hb3 hlR
  have hb1 := hN1.trans (hb3.mono hN1.size)
  clear hz3 hO3 hkz hbz hx1 hkR
  go_upto_region 3 with (((with_reducible refine' wpList_len_rd (.tmp 15) 66 rfl ?_ Tryd.underlying66 ?_ hxs ?_); exact rfl; exact rfl; simp only [Act.put, List.setIfInBounds_toArray, List.set_cons_succ, List.set_cons_zero]))
  go_loopw [17] (fun i wr => ∃ (k : Nat) (y : Strm), k ≤ n ∧ i = .int .i64 k ∧ Hid (IsS (bt tag :: (l.take k).flatMap encBytes) y) ∧ Blk wr B5 85 (stv y) ∧ Blk wr w.heap.size 23 (List.replicate 16 (.int .u8 0)) ∧ Below w.heap.size w wr) (fun i _ => n - (intOf i).toNat)
  case atStart => exact ⟨0, y, by omega, rfl, Lib.hid (by simpa using hy), hk3, hkR3, hb1⟩
  case round =>
    obtain ⟨k, y, hk, rfl, HY, hk5, hkR, hbl⟩ := hrel
    have hxr := hx.below hbl
    have hl5 := hk5.lt
    have LY := Lib.hid (stv_len HY.out.1)
    have hTr := hT.below hbl
    have hlR := hkR.lt
    by_cases hlt : k < n
    · obtain ⟨wo, rfl⟩ : ∃ wo : World, wo = wr := ⟨_, rfl⟩
      obtain ⟨p, hp⟩ := get_lt (l := l) (k := k) (by rw [HL.out]; exact hlt)
      have SP := Lib.hid (sv_at hp)
      have hst := flat_step encBytes hp
      have hle := flat_le l (k + 1) encBytes
      rw [hst, List.length_append] at hle
      have hpl := encBytes_length p
      have hML : (inp tag l).length = (l.flatMap encBytes).length + 1 := rfl
      have hMb : (bt tag :: (l.take k).flatMap encBytes).length = ((l.take k).flatMap encBytes).length + 1 := rfl
      have b1 : p.length ≤ 70368744177664 := by omega
      have b2 : (bt tag :: (l.take k).flatMap encBytes).length + (encBytes p).length < 1152921504606846976 := by omega
      have ST := Lib.hid hst
      clear hst hle hpl hML hMb hp
      obtain ⟨M, hM⟩ : ∃ M, bt tag :: (l.take k).flatMap encBytes = M := ⟨_, rfl⟩
      rw [hM] at HY b2
      have HM := Lib.hid hM
      clear hM
      have hB : B5 ≠ w.heap.size := by intro h; omega
      have HB := Lib.hid hB
      clear hB
      go_upto_region 5 with (first | ((with_reducible refine' wpList_at1_rd (.tmp 15) (.tmp 17) 66 rfl ?_ Tryd.underlying66 sz_str ?_ hxr (k) ?_ ?_ ?_); exact rfl; exact rfl; (show (_ : Int) = _; omega); omega; simp only [Act.put, List.setIfInBounds_toArray, List.set_cons_succ, List.set_cons_zero]) | ((with_reducible refine' wpList_load_rd (.tmp 19) 9 rfl ?_ ld_str ?_ hxr (SP.out) ?_); exact rfl; exact rfl; simp only [Act.put, List.setIfInBounds_toArray, List.set_cons_succ, List.set_cons_zero]))
      refine wp_region_mono (w := wo) 5 (fun i => match i with | 0 => fun (vv : Value) (ww : World) => vv = .agg (stv y).toArray | 1 => fun (vv : Value) (ww : World) => vv = .string ⟨p.toArray⟩ | 2 => fun (vv : Value) (ww : World) => Rd ww 1 vv (encBytes p).length (bv (encBytes p)) | 3 => fun (vv : Value) (ww : World) => vv = .string ⟨(encBytes p).toArray⟩ | 4 => fun (vv : Value) (ww : World) => ∃ y2, vv = .agg (stv y2).toArray ∧ IsS (M ++ encBytes p) y2 | _ => fun _ _ => True) (by kernel_rfl) (by kernel_rfl) ?_ ?_ ?_
      · intro i vv w1 w2 h hb
        rcases i with _ | _ | _ | _ | _ | i
        all_goals first | exact h | exact Rd.below h hb | exact own_below h hb | (obtain ⟨B, h1, h2, h3⟩ := h; exact ⟨B, h1, h2, Blk.below h3 hb (Blk.lt h3)⟩) | trivial
      · intro i o hi ho us wz hl hbz hd
        obtain ⟨u0, u1, u2, u3, u4, rfl⟩ := len5 hl
        rcases i with _ | _ | _ | _ | _ | i
        · simp only [List.getElem?_cons_succ, List.getElem?_cons_zero, Option.some.injEq] at ho; subst ho; clear hi hl
          clear hd
          simp only [List.take_succ_cons, List.take_zero, List.drop_succ_cons, List.drop_zero, List.map_cons, List.map_nil, puts, Act.put, List.setIfInBounds_toArray, List.set_cons_succ, List.set_cons_zero]
          go_wp2_with (((with_reducible refine' wpList_load_part (f := 0) (cp := stv y) (.tmp 5) 85 rfl ?_ Tryd.underlying85 rfl sz_stm ?_ (hk5.below hbz hl5) ?_ ?_ ?_); exact rfl; exact rfl; rw [LY.out]; decide; rw [List.drop_zero, List.take_of_length_le (by rw [LY.out]; decide)]; simp only [Act.put, List.setIfInBounds_toArray, List.set_cons_succ, List.set_cons_zero]))
          exact ⟨rfl, _, rfl, Below.refl _ _, rfl⟩
        · simp only [List.getElem?_cons_succ, List.getElem?_cons_zero, Option.some.injEq] at ho; subst ho; clear hi hl
          clear hd
          simp only [List.take_succ_cons, List.take_zero, List.drop_succ_cons, List.drop_zero, List.map_cons, List.map_nil, puts, Act.put, List.setIfInBounds_toArray, List.set_cons_succ, List.set_cons_zero]
          go_wp2_with (fail)
          exact ⟨rfl, _, rfl, Below.refl _ _, rfl⟩
        · simp only [List.getElem?_cons_succ, List.getElem?_cons_zero, Option.some.injEq] at ho; subst ho; clear hi hl
          have s1 : (fun (vv : Value) (ww : World) => vv = .string ⟨p.toArray⟩) u1 wz := hd 1 (by kernel_rfl)
          simp only at s1
          obtain rfl := s1
          clear hd
          simp only [List.take_succ_cons, List.take_zero, List.drop_succ_cons, List.drop_zero, List.map_cons, List.map_nil, puts, Act.put, List.setIfInBounds_toArray, List.set_cons_succ, List.set_cons_zero]
          go_wp2_with ((go_at_call 54; (with_reducible refine (bytes_any p _ b1).mono ?_); rintro e w' ⟨vq, rfl, hoq, hq⟩))
          exact ⟨rfl, _, rfl, hq, Rd.of_own hoq⟩
        · simp only [List.getElem?_cons_succ, List.getElem?_cons_zero, Option.some.injEq] at ho; subst ho; clear hi hl
          have s2 : (fun (vv : Value) (ww : World) => Rd ww 1 vv (encBytes p).length (bv (encBytes p))) u2 wz := hd 2 (by kernel_rfl)
          simp only at s2
          clear hd
          simp only [List.take_succ_cons, List.take_zero, List.drop_succ_cons, List.drop_zero, List.map_cons, List.map_nil, puts, Act.put, List.setIfInBounds_toArray, List.set_cons_succ, List.set_cons_zero]
          go_wp2_with (((with_reducible refine' wpList_str_rd (.tmp 23) 52 9 rfl ?_ Tryd.underlying52 Tryd.underlying5 Tryd.underlying9 ?_ s2 ?_); exact rfl; exact rfl; simp only [Act.put, List.setIfInBounds_toArray, List.set_cons_succ, List.set_cons_zero]))
          exact ⟨rfl, _, rfl, Below.refl _ _, rfl⟩
        · simp only [List.getElem?_cons_succ, List.getElem?_cons_zero, Option.some.injEq] at ho; subst ho; clear hi hl
          have s0 : (fun (vv : Value) (ww : World) => vv = .agg (stv y).toArray) u0 wz := hd 0 (by kernel_rfl)
          simp only at s0
          obtain rfl := s0
          have s3 : (fun (vv : Value) (ww : World) => vv = .string ⟨(encBytes p).toArray⟩) u3 wz := hd 3 (by kernel_rfl)
          simp only at s3
          obtain rfl := s3
          clear hd
          simp only [List.take_succ_cons, List.take_zero, List.drop_succ_cons, List.drop_zero, List.map_cons, List.map_nil, puts, Act.put, List.setIfInBounds_toArray, List.set_cons_succ, List.set_cons_zero]
          go_wp2_with ((go_at_call 53; (with_reducible refine (add_any M (encBytes p) y _ (hTr.below hbz) HY.out b2).mono ?_); rintro e w' ⟨y2, rfl, hy2, hq⟩))
          exact ⟨rfl, _, rfl, hq, ⟨y2, rfl, hy2⟩⟩
        · omega
      intro us wz hl hbz hS
      obtain ⟨u0, u1, u2, u3, u4, rfl⟩ := len5 hl
      have s4 : (fun (vv : Value) (ww : World) => ∃ y2, vv = .agg (stv y2).toArray ∧ IsS (M ++ encBytes p) y2) u4 wz := hS 4 (by omega)
      simp only at s4
      obtain ⟨y2, rfl, hy2⟩ := s4
      clear hS hl
      simp only [List.take_succ_cons, List.take_zero, List.drop_succ_cons, List.drop_zero, List.map_cons, List.map_nil, puts, Act.put, List.setIfInBounds_toArray, List.set_cons_succ, List.set_cons_zero]
      have L2 := Lib.hid (stv_len hy2.1)
      have hk5z := hk5.below hbz hl5
      have hkRz := hkR.below hbz hlR
      have hbz2 := hbl.trans (hbz.mono hbl.size)
      ((with_reducible refine' wpList_store_blk (cs := stv y2) 85 (.tmp 5) (.tmp 25) rfl ?_ ?_ ?_ hk5z sz_stm ?_ ?_ ?_ ?_); exact rfl; exact rfl; exact rfl; exact L2.out; exact LY.out; exact stv_one _; intro w4 hk4 hO4 hz4; simp only [Act.put])
      refine onlyN ?_
      have HY2 := Lib.hid hy2
      clear hy2 hz4
      go_wp2_with fail
      go_roundw
      case rel =>
        refine ⟨k + 1, y2, by omega, by go_num, Lib.hid ?_, hk4, hO4.blk hkRz HB.out.symm, hbz2.trans (hO4.below (by omega) hbz2.size)⟩
        have h := HY2.out
        rw [← HM.out] at h
        rw [ST.out]
        exact h
      case measure => simp [intOf]; omega
    · obtain rfl : k = n := by omega
      have h := HY.out
      rw [List.take_of_length_le (by rw [HL.out]; exact Nat.le_refl _)] at h
      have hY : IsS (inp tag l) y := h
      have HY2 := Lib.hid hY
      clear h hY
      have SL := Lib.hid (show (bv (sha (inp tag l))).length = 32 by rw [bv_length, sha_len])
      have DL := Lib.hid (show (bv (digOf tag l)).length = 16 by rw [bv_length, digOf_len])
      have DE := Lib.hid (show ((bv (sha (inp tag l))).drop 0).take 16 = bv (digOf tag l) by rw [List.drop_zero, bv_take]; rfl)
      go_wp2_with (first
        | ((with_reducible refine' wpList_load_part (f := 0) (cp := stv y) (.tmp 5) 85 rfl ?_ Tryd.underlying85 rfl sz_stm ?_ hk5 ?_ ?_ ?_); exact rfl; exact rfl; rw [LY.out]; decide; rw [List.drop_zero, List.take_of_length_le (by rw [LY.out]; decide)]; simp only [Act.put, List.setIfInBounds_toArray, List.set_cons_succ, List.set_cons_zero])
        | ((go_at_call 55; (with_reducible refine (strsum_any (inp tag l) y _ hTr HY2.out (by omega)).mono ?_); rintro e w' ⟨rfl, hN6⟩); have hkR6 := hkR.below hN6 hlR; have hb6 := hbl.trans (hN6.mono hbl.size))
        | (((with_reducible refine' wpList_alloc_blk (cs := List.replicate 32 (.int .u8 0)) 89 rfl ?_ zr_b32 ?_ ?_); exact rfl; exact zeros_u8 32; intro w7 hk7 hN7 hz7; simp only [Act.put, List.setIfInBounds_toArray, List.set_cons_succ, List.set_cons_zero]); have hkR7 := hkR6.below hN7 hkR6.lt; have hb7 := hb6.trans (hN7.mono hb6.size); have hl6 := hkR6.lt)
        | (((with_reducible refine' wpList_store_blk (cs := bv (sha (inp tag l))) 89 (.tmp 8) (.tmp 28) rfl ?_ ?_ ?_ hk7 sz_b32 ?_ ?_ ?_ ?_); exact rfl; exact rfl; exact rfl; exact SL.out; exact List.length_replicate; exact bv_one _; intro w8 hk8 hO8 hz8; simp only [Act.put]); have hkR8 := hO8.blk hkR7 (by omega); have hb8 := hb7.trans (hO8.below (by omega) hb7.size))
        | ((with_reducible refine' wpList_arr_to (B := w'.heap.size) (f := 0) (.tmp 8) (.const (.int .i64 16)) 89 rfl ?_ Tryd.underlying89 sz_u8 ?_ (16) ?_ ?_ ?_); exact rfl; exact rfl; (show (_ : Int) = _; omega); omega; simp only [Act.put, List.setIfInBounds_toArray, List.set_cons_succ, List.set_cons_zero]) | ((with_reducible refine' wpList_arrptr (ad := ⟨w'.heap.size, 0, none⟩) (n := 16) (cap := 32) (.tmp 29) 23 rfl ?_ Tryd.underlying23 ?_ ?_ ?_); exact rfl; exact rfl; omega; simp only [Act.put, List.setIfInBounds_toArray, List.set_cons_succ, List.set_cons_zero]) | ((with_reducible refine' wpList_load_part (f := 0) (cp := bv (digOf tag l)) (.tmp 30) 23 rfl ?_ Tryd.underlying23 rfl sz_dig ?_ hk8 ?_ ?_ ?_); exact rfl; exact rfl; rw [SL.out]; decide; exact DE.out; simp only [Act.put, List.setIfInBounds_toArray, List.set_cons_succ, List.set_cons_zero])
        | (((with_reducible refine' wpList_store_blk (cs := bv (digOf tag l)) 23 (.tmp 4) (.tmp 31) rfl ?_ ?_ ?_ hkR8 sz_dig ?_ ?_ ?_ ?_); exact rfl; exact rfl; exact rfl; exact DL.out; exact List.length_replicate; exact bv_one _; intro w9 hk9 hO9 hz9; simp only [Act.put])))
      ((try simp only [Exit.inBlock, Exit.then]); refine bodyPost_ret (results_cell_row rfl _ _ _ _ _ _ _ rfl hk9 Tryd.underlying23 rfl (by rw [sz_dig]; simp [DL.out])) rfl ?_)
      exact ⟨rfl, hb8.trans (hO9.below (Nat.le_refl _) hb8.size)⟩
end Go.Proofs.YtajglgkjpagcjaaDoor.Wi
