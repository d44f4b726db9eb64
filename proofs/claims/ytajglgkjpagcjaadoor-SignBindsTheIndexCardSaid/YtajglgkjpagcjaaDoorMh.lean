/-
  Mog, Sm, So, Sp, Sq: my texts of these names, one behind the other. Conditions: those that each law names.
-/
import Derived.Test.YtajglgkjpagcjaaDoorMd
import Derived.Test.YtajglgkjpagcjaaDoorMg
import Derived.MapKept
namespace Go.Proofs.YtajglgkjpagcjaaDoor.Lb
open Go Go.RowKit

section
variable {P : Program} {Q : Exit → Act → World → Prop}

theorem monAnyG {l : List Oper} {n : Nat} {a0 : Act} (I : World → Prop) (T : World → World → Prop) (hIT : ∀ w w', I w → T w w' → I w') (S : Nat → Value → World → Prop) (hB : monB .any l n = true)
    (hmono : ∀ i v w w', S i v w → T w w' → S i v w')
    (step : ∀ i o, i < n → l[i]? = some o → ∀ us w, us.length = n → I w → (∀ j, waits .any l.toArray i j = true → S j (us.getD j undef) w) →
      wpList P l.toArray (nextTo fun a' w' => ∃ v, a' = (puts a0 ((l.take n).map (·.dst)) us).put o.dst v ∧ T w w' ∧ S i v w') [o] (puts a0 ((l.take n).map (·.dst)) us) w)
    (fin : ∀ us w, us.length = n → I w → (∀ i, i < n → S i (us.getD i undef) w) → wpList P l.toArray (onlyNormal Q) (l.drop n) (puts a0 ((l.take n).map (·.dst)) us) w) :
    ∀ (k : Nat) (listed : Array Bool) (us : List Value) (w : World), (∀ t o, l[t]? = some o → listed.getD t false = true → ∀ j ∈ deps .any o, listed.getD j false = true) → listed.size = l.length → ((List.range n).filter fun i => !listed.getD i true).length = k → (∀ t, n ≤ t → t < l.length → listed.getD t true = false) →
      us.length = n → I w → (∀ i, i < n → listed.getD i false = true → S i (us.getD i undef) w) →
      wpAny P .any l.toArray (onlyNormal Q) (k + (l.length - n)) listed (puts a0 ((l.take n).map (·.dst)) us) w := by
  simp only [monB, Bool.and_eq_true, decide_eq_true_eq] at hB
  obtain ⟨⟨⟨⟨hn, hap⟩, hanc⟩, hall⟩, hseq⟩ := hB
  have hback : ∀ t o, l[t]? = some o → ∀ e ∈ o.after, Region.binds .any e = true → e.on < t := fun t o ho e he hb => by
    have htl : t < l.length := (List.getElem?_eq_some_iff.1 ho).1
    have h1 := List.all_eq_true.1 hall t (List.mem_range.2 htl)
    rw [ho] at h1
    simp only [Bool.and_eq_true, Array.all_eq_true_iff_forall_mem] at h1
    have h2 := h1.2 e he
    simpa [hb] using h2
  have htail : ∀ t o, n ≤ t → l[t]? = some o → ∀ listed : Array Bool, (∀ t o, l[t]? = some o → listed.getD t false = true → ∀ j ∈ deps .any o, listed.getD j false = true) → (∀ e ∈ o.after, Region.binds .any e = true → listed.getD e.on false = true) → ∀ i, i < n → listed.getD i false = true := fun t o ht ho listed hc hr i hi => by
    have htl : t < l.length := (List.getElem?_eq_some_iff.1 ho).1
    have h1 := List.all_eq_true.1 hall t (List.mem_range.2 htl)
    simp only [Bool.and_eq_true, Bool.or_eq_true, decide_eq_true_eq] at h1
    have h2 := h1.1.resolve_left (by omega)
    have h3 := List.all_eq_true.1 h2 i (List.mem_range.2 hi)
    rw [List.contains_iff_mem] at h3
    exact anc_listed hanc hc t o ho (fun j hj => by obtain ⟨e, h4, h5, rfl⟩ := mem_deps.1 hj; exact hr e h4 h5) i h3
  intro k
  induction k with
  | zero =>
    intro listed us w hcl hsz hk ht hl hw hS
    have hdone : ∀ i, i < n → listed.getD i true = true := fun i hi => by
      have h0 := List.eq_nil_of_length_eq_zero hk
      cases hb : listed.getD i true with
      | true => rfl
      | false =>
        have : i ∈ (List.range n).filter fun i => !listed.getD i true := List.mem_filter.2 ⟨List.mem_range.2 hi, by simp [hb]⟩
        rw [h0] at this; cases this
    have hd2 : ∀ i, i < n → listed.getD i false = true := fun i hi => by
      have h1 := hdone i hi
      have hlt : i < listed.size := by omega
      simp [hlt] at h1 ⊢; exact h1
    have heq : listed = doneUpto n l.length := by
      apply Array.ext (by simp [doneUpto, hsz])
      intro i h1 h2
      by_cases hi : i < n
      · have h3 := hdone i hi
        simp [h1] at h3
        simp [doneUpto, h3, hi]
      · have h3 := ht i (by omega) (by omega)
        simp [h1] at h3
        simp [doneUpto, h3, hi]
    rw [Nat.zero_add, heq]
    have := wpAny_of_seq (P := P) (md := .any) (ops := l.toArray) (Q' := onlyNormal Q) (l.drop n) n (doneUpto n l.length) _ w (fun j => by simp [List.getElem?_drop]) (by rw [List.length_drop]; exact hseq) (fin us w hl hw (fun i hi => hS i hi (hd2 i hi)))
    rw [List.length_drop] at this
    exact this
  | succ k ih =>
    intro listed us w hcl hsz hk ht hl hw hS
    rw [show k + 1 + (l.length - n) = (k + (l.length - n)) + 1 by omega]
    -- some operation ahead of the tail is not done
    have hex : ∃ i, i < n ∧ listed.getD i true = false := by
      obtain ⟨i, hi⟩ := List.exists_mem_of_length_pos (l := (List.range n).filter fun i => !listed.getD i true) (by omega)
      rw [List.mem_filter] at hi
      exact ⟨i, List.mem_range.1 hi.1, by simpa using hi.2⟩
    have hready : ∃ i, i ∈ Region.ready .any l.toArray listed := by
      obtain ⟨i, hi, hun⟩ := hex
      induction i using Nat.strongRecOn with
      | _ i ihi =>
        have hil : i < l.length := by omega
        have ho : l[i]? = some l[i] := by simp [hil]
        by_cases hall2 : ∀ e ∈ (l[i]).after, Region.binds .any e = true → listed.getD e.on false = true
        · exact ⟨i, mem_ready.2 ⟨hun, l[i], by simp [hil], hall2⟩⟩
        · simp only [Classical.not_forall] at hall2
          obtain ⟨e, he, hb, hne⟩ := hall2
          have hlt := hback i _ ho e he hb
          have hun2 : listed.getD e.on true = false := by
            have hes : e.on < listed.size := by omega
            simp [hes] at hne ⊢; exact hne
          exact ihi e.on hlt (by omega) hun2
    refine ⟨fun h => ?_, fun i hi => ?_⟩
    · obtain ⟨i, hi⟩ := hready; rw [h] at hi; cases hi
    · obtain ⟨hun, o, ho, hwt⟩ := mem_ready.1 hi
      rw [List.getElem?_toArray] at ho
      have hin : i < n := by
        rcases Nat.lt_or_ge i n with h | h
        · exact h
        · obtain ⟨j, hj, hjun⟩ := hex
          have := htail i o h ho listed hcl hwt j hj
          rw [getD_false_of hjun] at this
          cases this
      have hst := step i o hin ho us w hl hw (fun j hj => by
        unfold waits at hj
        rw [List.getElem?_toArray, ho] at hj
        obtain ⟨e, he, hb⟩ := Array.any_eq_true'.1 hj
        simp only [Bool.and_eq_true, beq_iff_eq] at hb
        have h1 := hwt e he hb.1
        have h2 := hback i o ho e he hb.1
        rw [hb.2] at h1 h2
        exact hS j (by omega) h1)
      refine wpOp_mono ?_ (wpOp_of_list (by rw [List.getElem?_toArray]; exact ho) hst)
      rintro a' w' ⟨v, rfl, hb', hSi⟩
      have hds : ((l.take n).map (·.dst))[i]? = some o.dst := by
        rw [List.getElem?_map, List.getElem?_take, if_pos hin, ho]; rfl
      have hus : us.length = ((l.take n).map (·.dst)).length := by rw [List.length_map, List.length_take, hl]; omega
      rw [puts_set _ us a0 i o.dst hap hus hds]
      refine ih (listed.setIfInBounds i true) (us.set i v) w' (fun t o' ho' htd j hj => ?_) (by simpa using hsz) ?_ (fun t h1 h2 => by rw [getD_set_ne true (by omega)]; exact ht t h1 h2) (by simpa using hl) (hIT _ _ hw hb') (fun j hj hjl => ?_)
      · have hsj : listed.getD j false = true := by
          by_cases hti : t = i
          · subst hti
            rw [ho] at ho'
            cases ho'
            obtain ⟨e, h4, h5, rfl⟩ := mem_deps.1 hj
            exact hwt e h4 h5
          · rw [getD_set_ne false (Ne.symm hti)] at htd
            exact hcl t o' ho' htd j hj
        by_cases hji : j = i
        · subst hji
          simp [show j < listed.size by omega]
        · rw [getD_set_ne false (Ne.symm hji)]; exact hsj
      · -- one fewer
        have hsub : (List.range n).filter (fun x => !(listed.setIfInBounds i true).getD x true) = ((List.range n).filter fun x => !listed.getD x true).erase i := by
          rw [List.Nodup.erase_eq_filter (List.Pairwise.filter _ List.nodup_range), List.filter_filter]
          apply List.filter_congr
          intro x hx
          by_cases hxi : x = i
          · subst hxi
            have hxs : x < listed.size := by omega
            simp [hxs]
          · rw [getD_set_ne true (Ne.symm hxi)]; simp [hxi]
        rw [hsub, List.length_erase_of_mem (List.mem_filter.2 ⟨List.mem_range.2 hin, by simp [hun]⟩), hk]; omega
      · by_cases hji : j = i
        · subst hji
          have : (us.set j v).getD j undef = v := by simp [List.getD_eq_getElem?_getD, hl, hin]
          rw [this]; exact hSi
        · rw [getD_set_ne false (Ne.symm hji)] at hjl
          have : (us.set i v).getD j undef = us.getD j undef := by simp [List.getD_eq_getElem?_getD, List.getElem?_set_ne (Ne.symm hji)]
          rw [this]; exact hmono _ _ _ _ (hS j hj hjl) hb'

/-- the region's law -/
theorem wp_region_monoG {id : Nat} {a : Act} {w : World} {l : List Oper} (n : Nat) (I : World → Prop) (T : World → World → Prop) (h0 : I w.drew) (hIT : ∀ w w', I w → T w w' → I w') (S : Nat → Value → World → Prop) (hm : P.follows .mixedOrders = true) (hB : monB .any l n = true)
    (hmono : ∀ i v w w', S i v w → T w w' → S i v w')
    (step : ∀ i o, i < n → l[i]? = some o → ∀ us w', us.length = n → I w' → (∀ j, waits .any l.toArray i j = true → S j (us.getD j undef) w') →
      wpList P l.toArray (nextTo fun a' w'' => ∃ v, a' = (puts a ((l.take n).map (·.dst)) us).put o.dst v ∧ T w' w'' ∧ S i v w'') [o] (puts a ((l.take n).map (·.dst)) us) w')
    (fin : ∀ us w', us.length = n → I w' → (∀ i, i < n → S i (us.getD i undef) w') → wpList P l.toArray (onlyNormal Q) (l.drop n) (puts a ((l.take n).map (·.dst)) us) w') :
    (Code.region id l.toArray true).wp P Q a w := by
  have hB' := hB
  simp only [monB, Bool.and_eq_true, decide_eq_true_eq] at hB'
  have hn := hB'.1.1.1.1
  have hsz : ∀ i, (Array.replicate l.length false).getD i false = false := getD_replicate_false _
  refine wp_region_any hm (wpAny_of_N _ _ _ _ ?_)
  have hus : (((l.take n).map (·.dst)).map (cur a)).length = n := by simp; omega
  have := monAnyG (Q := Q) I T hIT S hB hmono (fun i o hi ho us w' hl hw hd => step i o hi ho us w' hl hw hd) (fun us w' hl hw hS => fin us w' hl hw hS)
    n (Array.replicate l.length false) (((l.take n).map (·.dst)).map (cur a)) w.drew (fun t _ _ h => by rw [hsz] at h; cases h) (by simp) (by
      rw [List.filter_eq_self.2 (fun i hi => by
        have : i < l.length := by have := List.mem_range.1 hi; omega
        simp [this])]
      simp) (fun t _ h2 => by simp [h2]) hus h0 (fun i _ hl => by rw [hsz] at hl; cases hl)
  rw [puts_cur, show n + (l.length - n) = l.length by omega] at this
  simpa using this
end
end Go.Proofs.YtajglgkjpagcjaaDoor.Lb
namespace Go.Proofs.YtajglgkjpagcjaaDoor.Wi
open Go Go.RowKit Pu Lb
set_option linter.unusedSimpArgs false
set_option linter.unusedVariables false
attribute [local irreducible] comp sched comps sha outS mac digOf encInts adv startV nodeAt
/-- the key of a node -/
def nkey (l k : Nat) : Value := .agg #[.int .i64 (l : Int), .int .i64 (k : Int)]
def dval (d : List UInt8) : Value := .agg (bv d).toArray
/-- each entry of the map is the node that its key says -/
def MapOk (w : World) (M : Nat) (seed : List UInt8) : Prop := ∃ es clock, w.heap[M]? = some (.map es clock) ∧ ∀ e ∈ es.toList, ∃ l k : Nat, e.key = nkey l k ∧ e.val = dval (nodeAt seed l k)
theorem nkey_eq (l k : Nat) : nkey l k = .agg ([(l : Int), (k : Int)].map (Value.int .i64)).toArray := rfl
theorem nkey_inj {l k l' k' : Nat} : nkey l k = nkey l' k' ↔ l = l' ∧ k = k' := by
  unfold nkey; simp; omega
set_option maxRecDepth 20000 in
theorem run_key_eq (l k l' k' : Nat) (w : World) : (Op.equal 28 (nkey l k) (nkey l' k')).run Tryd.prog w = .ok (decide (l = l' ∧ k = k')) w := by
  have h := run_eq_arr (P := Tryd.prog) 9998 28 3 .i64 2 Tryd.underlying28 Tryd.underlying3 sz_int [(l : Int), (k : Int)] [(l' : Int), (k' : Int)] rfl rfl w
  have e : (decide ([(l : Int), (k : Int)] = [(l' : Int), (k' : Int)])) = decide (l = l' ∧ k = k') := by
    rw [decide_eq_decide]; simp; omega
  rw [e] at h
  simp only [Op.equal, Op.maxDepth, nkey_eq]
  exact h
theorem run_find (l k : Nat) (seed : List UInt8) (w : World) : ∀ (es : List MapEntry) (i : Nat), (∀ e ∈ es, ∃ l k : Nat, e.key = nkey l k ∧ e.val = dval (nodeAt seed l k)) →
    ∃ r, (Instr.findAsking 28 (nkey l k) es i).run Tryd.prog w = .ok r w ∧ (r = none ∨ ∃ j e, es[j]? = some e ∧ r = some (i + j, dval (nodeAt seed l k)) ∧ e.key = nkey l k)
  | [], i, _ => ⟨none, rfl, .inl rfl⟩
  | e :: es, i, h => by
    obtain ⟨l', k', h1, h2⟩ := h e (by simp)
    unfold Instr.findAsking
    simp only [Sem.run_bind, h1, run_key_eq, Result.andThen_ok]
    by_cases hk : l = l' ∧ k = k'
    · obtain ⟨rfl, rfl⟩ := hk
      refine ⟨_, by simp; rfl, .inr ⟨0, e, rfl, by rw [h2]; rfl, h1⟩⟩
    · simp only [hk, decide_false, Bool.false_eq_true, if_false]
      obtain ⟨r, hr, hx⟩ := run_find l k seed w es (i + 1) (fun e he => h e (by simp [he]))
      refine ⟨r, hr, hx.imp id ?_⟩
      rintro ⟨j, e', h3, h4, h5⟩
      exact ⟨j + 1, e', by simpa using h3, by rw [h4]; congr 2; omega, h5⟩
theorem run_findKey (l k : Nat) (seed : List UInt8) (w : World) (es : List MapEntry) (h : ∀ e ∈ es, ∃ l k : Nat, e.key = nkey l k ∧ e.val = dval (nodeAt seed l k)) :
    ∃ r, (Instr.findKey 28 (nkey l k) es).run Tryd.prog w = .ok r w ∧ (r = none ∨ ∃ j e, es[j]? = some e ∧ r = some (j, dval (nodeAt seed l k)) ∧ e.key = nkey l k) := by
  unfold Instr.findKey
  simp only [Sem.run_bind, run_underlying Tryd.underlying28, Result.andThen_ok]
  cases es with
  | nil => exact ⟨none, rfl, .inl rfl⟩
  | cons e es =>
    obtain ⟨r, hr, hx⟩ := run_find l k seed w (e :: es) 0 h
    have hn : Instr.findNow (.array 2 3) (nkey l k) (e :: es) 0 = none := by
      obtain ⟨l', k', h1, _⟩ := h e (by simp)
      simp [Instr.findNow, h1, nkey, Instr.sameNow]
    rw [hn]
    refine ⟨r, hr, hx.imp id ?_⟩
    rintro ⟨j, e', h3, h4, h5⟩
    exact ⟨j, e', h3, by rw [h4, Nat.zero_add], h5⟩
theorem run_check (b : Bool) (n : Nat) (l k : Nat) (w : World) : (Instr.checkKey b (n + 2) 28 (nkey l k)).run Tryd.prog w = .ok () w := by
  obtain ⟨ti, hti, hs⟩ := Option.map_eq_some_iff.1 sz_int
  have p0 := fun w => run_part1 (P := Tryd.prog) 3 _ Tryd.underlying3 rfl [.int .i64 (l : Int), .int .i64 (k : Int)] 0 (.int .i64 (l : Int)) rfl w
  have p1 := fun w => run_part1 (P := Tryd.prog) 3 _ Tryd.underlying3 rfl [.int .i64 (l : Int), .int .i64 (k : Int)] 1 (.int .i64 (k : Int)) rfl w
  have hsize : ∀ w, (sizeOf 3).run Tryd.prog w = .ok 1 w := fun w => by simp [sizeOf, typeInfo, hti, hs]
  have hc : ∀ (z : Int) w, (Instr.checkKey b (n + 1) 3 (.int .i64 z)).run Tryd.prog w = .ok () w := fun z w => by
    unfold Instr.checkKey
    simp [Sem.run_bind, run_underlying Tryd.underlying3, Result.andThen]
  unfold nkey
  rw [Instr.checkKey]
  simp only [Sem.run_bind, run_underlying Tryd.underlying28, Result.andThen_ok]
  simp only [Std.Legacy.Range.forIn_eq_forIn_range', Std.Legacy.Range.size, Nat.sub_zero, Nat.add_sub_cancel, Nat.div_one]
  simp [List.range'_succ, Sem.run_bind, hsize, p0, p1, hc, Result.andThen]
theorem zv_dig (w : World) : (zeroValue 23).run Tryd.prog w = .ok (dval zero16) w := by
  obtain ⟨ti, hti, hs⟩ := Option.map_eq_some_iff.1 zr_dig
  have h : dval zero16 = .agg (Array.replicate 16 (.int .u8 0)) := rfl
  rw [h]
  simp [zeroValue, typeInfo, hti, hs]
section
variable {ops : Array Oper} {Q : Exit → Act → World → Prop} {a : Act} {w : World} {rest : List Oper} {o : Oper}
theorem wpList_memo_look (m x : Operand) (ho : o.op = .lookup 73 m x true) (hw : Region.wanted o (yielded ops a.tmps) = true) {M l k : Nat} {seed : List UInt8} (hm : a.eval m = .map (some M)) (hx : a.eval x = nkey l k) (hM : MapOk w M seed)
    (h1 : wpList Tryd.prog ops Q rest (a.put o.dst (.tuple #[dval (nodeAt seed l k), .bool true])) w) (h2 : wpList Tryd.prog ops Q rest (a.put o.dst (.tuple #[dval zero16, .bool false])) w) : wpList Tryd.prog ops Q (o :: rest) a w := by
  obtain ⟨es, clock, hb, hes⟩ := hM
  obtain ⟨r, hr, hx2⟩ := run_findKey l k seed w es.toList hes
  have hg := MapKept.run_getObj_map (P := Tryd.prog) hb
  rcases hx2 with rfl | ⟨j, e, h3, rfl, h5⟩
  · refine wpList_of_run hw (v := .tuple #[dval zero16, .bool false]) (w' := w) ?_ h2
    unfold execOp
    simp [ho, hm, hx, Instr.lookup, Sem.run_bind, run_underlying Tryd.underlying73, hg, run_check _ 9998, hr, zv_dig]
    rfl
  · refine wpList_of_run hw (v := .tuple #[dval (nodeAt seed l k), .bool true]) (w' := w) ?_ h1
    unfold execOp
    simp [ho, hm, hx, Instr.lookup, Sem.run_bind, run_underlying Tryd.underlying73, hg, run_check _ 9998, hr]
theorem same_bits_key (l k : Nat) : Instr.sameBits 10000 (nkey l k) (nkey l k) = true := by
  simp [Instr.sameBits, nkey]
theorem gb_setHeap (w : World) (M : Nat) (o : Obj) : w.grownBy { w with heap := w.heap.setIfInBounds M o } (some M) :=
  ⟨rfl, rfl, rfl, by simp, fun k hk hne => by
    have : M ≠ k := fun e => hne (by rw [e])
    simp [Array.getElem?_setIfInBounds_ne this]⟩
theorem run_memo_store {M l k : Nat} {seed : List UInt8} (hM : MapOk w M seed) :
    ∃ w', (Instr.mapUpdate 73 (.map (some M)) (nkey l k) (dval (nodeAt seed l k))).run Tryd.prog w = .ok () w' ∧ w.grownBy w' (some M) ∧ MapOk w' M seed := by
  obtain ⟨es, clock, hb, hes⟩ := hM
  have hlt : M < w.heap.size := (Array.getElem?_eq_some_iff.1 hb).1
  obtain ⟨r, hr, hx2⟩ := run_findKey l k seed w es.toList hes
  have hg := MapKept.run_getObj_map (P := Tryd.prog) hb
  have hs := fun o => MapKept.run_setObj_map (P := Tryd.prog) o hb
  have hnew : ∃ l' k' : Nat, nkey l k = nkey l' k' ∧ dval (nodeAt seed l k) = dval (nodeAt seed l' k') := ⟨l, k, rfl, rfl⟩
  rcases hx2 with rfl | ⟨j, e, h3, rfl, h5⟩
  · refine ⟨_, ?_, gb_setHeap w M (.map (es.push { key := nkey l k, val := dval (nodeAt seed l k), born := clock }) (clock + 1)), es.push { key := nkey l k, val := dval (nodeAt seed l k), born := clock }, clock + 1, by simp [hlt], ?_⟩
    · simp [Instr.mapUpdate, Sem.run_bind, run_underlying Tryd.underlying73, hg, run_check _ 9998, hr, hs]
    · intro e he
      simp only [Array.toList_push, List.mem_append, List.mem_singleton] at he
      rcases he with he | rfl
      · exact hes e he
      · exact hnew
  · have hj : es[j]? = some e := by simpa using h3
    refine ⟨_, ?_, gb_setHeap w M (.map (es.modify j fun e => { e with key := nkey l k, val := dval (nodeAt seed l k) }) clock), es.modify j fun e => { e with key := nkey l k, val := dval (nodeAt seed l k) }, clock, by simp [hlt], ?_⟩
    · simp [Instr.mapUpdate, Sem.run_bind, run_underlying Tryd.underlying73, hg, run_check _ 9998, hr, hs, hj, h5, Instr.keyThatStays, same_bits_key]
    · intro e' he
      rw [Array.toList_modify] at he
      obtain ⟨i, hi, rfl⟩ := List.mem_iff_getElem.1 he
      rw [List.getElem_modify]
      split
      · exact hnew
      · exact hes _ (List.getElem_mem _)
theorem wpList_memo_store (m x y : Operand) (ho : o.op = .mapUpdate 73 m x y) (hw : Region.wanted o (yielded ops a.tmps) = true) {M l k : Nat} {seed : List UInt8} (hm : a.eval m = .map (some M)) (hx : a.eval x = nkey l k) (hy : a.eval y = dval (nodeAt seed l k)) (hM : MapOk w M seed)
    (h : ∀ w', w.grownBy w' (some M) → MapOk w' M seed → wpList Tryd.prog ops Q rest (a.put o.dst undef) w') : wpList Tryd.prog ops Q (o :: rest) a w := by
  obtain ⟨w', hr, hg, hM'⟩ := run_memo_store (l := l) (k := k) hM
  refine BigFrame.wpList_want hw fun K hK => ?_
  unfold Oper.wp
  have hrun : (execOp a.eval o).run Tryd.prog w = .ok .skip w' := by
    unfold execOp
    simp [ho, hm, hx, hy, hr]
  rw [hrun]
  unfold Oper.upon
  exact hK _ _ (h w' hg hM')
end
theorem wpList_memo {ops : Array Oper} {Q : Exit → Act → World → Prop} {a : Act} {w : World} {rest : List Oper} {o : Oper} (m x : Operand) (ho : o.op = .lookup 73 m x true) (hw : Region.wanted o (yielded ops a.tmps) = true) {M l k : Nat} {seed : List UInt8} (hm : a.eval m = .map (some M)) (hx : a.eval x = nkey l k) (hM : MapOk w M seed)
    (h : ∀ (d : List UInt8) (ok : Bool), (ok = true → d = nodeAt seed l k) → d.length = 16 → wpList Tryd.prog ops Q rest (a.put o.dst (.tuple #[.agg (bv d).toArray, .bool ok])) w) : wpList Tryd.prog ops Q (o :: rest) a w :=
  wpList_memo_look m x ho hw hm hx hM (h _ _ (fun _ => rfl) (nodeAt_len _ _ _)) (h _ _ (fun h => by cases h) rfl)
theorem zr_mp : (Tryd.prog.info? 73).map (·.zero) = some (some (.map none)) := by kernel_rfl
theorem sz_mp : (Tryd.prog.info? 73).map (·.size) = some 1 := by kernel_rfl
theorem ld_mp (ad : Addr) (u : Value) (w : World) (h : w.cell? ad = some u) : (loadVar 73 ad).run Tryd.prog w = .ok u w := load_one _ _ Tryd.underlying73 rfl ad u w h
theorem zr_fn2 : (Tryd.prog.info? 45).map (·.zero) = some (some .nilFunc) := by kernel_rfl
theorem sz_fn2 : (Tryd.prog.info? 45).map (·.size) = some 1 := by kernel_rfl
theorem ld_fn2 (ad : Addr) (u : Value) (w : World) (h : w.cell? ad = some u) : (loadVar 45 ad).run Tryd.prog w = .ok u w := load_one _ _ Tryd.underlying45 rfl ad u w h
set_option maxRecDepth 100000 in
theorem topc_any (seed : List UInt8) (k c B S : Nat) (w : World) (hT : TabH w) (hs : seed.length ≤ 1000000) (hk : k ≤ 1000000) (hc : c ≤ 1000000) (hB : Blk w B 3 [.int .i64 (k : Int)]) (hS : Blk w S 9 [.string ⟨seed.toArray⟩]) :
    Calls Tryd.prog 45 #[.int .i64 (c : Int), .pointer (some ⟨B, 0, none⟩), .pointer (some ⟨S, 0, none⟩)] w fun e w' => e = .returned (.agg (bv (topV seed k c)).toArray) ∧ Below w.heap.size w w' := by
  have KI := Lib.hid (i64_nat hk)
  have CI := Lib.hid (i64_nat hc)
  have S16 := Lib.hid (startV_len seed k c)
  have TV := Lib.hid (show adv (k : Int) (c : Int) 0 (3 - 0) (startV seed k c) = topV seed k c from rfl)
  have TL := Lib.hid (show (bv (topV seed k c)).length = 16 by rw [bv_length, topV_len])
  have K0 := Lib.hid (show ([Value.int .i64 (k : Int)] : List Value)[0]? = some (.int .i64 (k : Int)) from rfl)
  have S0 := Lib.hid (show ([Value.string ⟨seed.toArray⟩] : List Value)[0]? = some (.string ⟨seed.toArray⟩) from rfl)
  go_enter Tryd.func45, Tryd.ntmps45
  go_upto_region 1 with (((with_reducible refine' wpList_alloc_blk (cs := List.replicate 16 (.int .u8 0)) 23 rfl ?_ zr_dig ?_ ?_); exact rfl; exact zeros_u8 16; intro w1 hkR hN1 hz1; simp only [Act.put, List.setIfInBounds_toArray, List.set_cons_succ, List.set_cons_zero]))
  have lB := hB.lt; have lS := hS.lt
  have hB1 := hB.below hN1 lB
  have hS1 := hS.below hN1 lS
  have hT1 := hT.below hN1
  have hs1 := hN1.size
  refine wp_region_mono (w := w1) 7 (fun i => match i with | 0 => fun (vv : Value) (ww : World) => vv = .int .i64 (k : Int) | 1 => fun (vv : Value) (ww : World) => vv = .int .i64 (c : Int) | 2 => fun (vv : Value) (ww : World) => vv = .string ⟨seed.toArray⟩ | 3 => fun (vv : Value) (ww : World) => vv = .int .i64 (k : Int) | 4 => fun (vv : Value) (ww : World) => vv = .int .i64 (c : Int) | 5 => fun (vv : Value) (ww : World) => vv = .agg (bv (startV seed k c)).toArray | 6 => fun (vv : Value) (ww : World) => vv = .agg (bv (topV seed k c)).toArray | _ => fun _ _ => True) (by kernel_rfl) (by kernel_rfl) ?_ ?_ ?_
  · intro i vv w1 w2 h hb
    rcases i with _ | _ | _ | _ | _ | _ | _ | i
    all_goals first | exact h | exact Rd.below h hb | exact own_below h hb | (obtain ⟨B, h1, h2, h3⟩ := h; exact ⟨B, h1, h2, Blk.below h3 hb (Blk.lt h3)⟩) | trivial
  · intro i o hi ho us wz hl hbz hd
    obtain ⟨u0, u1, u2, u3, u4, u5, u6, rfl⟩ := len7 hl
    rcases i with _ | _ | _ | _ | _ | _ | _ | i
    · simp only [List.getElem?_cons_succ, List.getElem?_cons_zero, Option.some.injEq] at ho; subst ho; clear hi hl
      clear hd
      simp only [List.take_succ_cons, List.take_zero, List.drop_succ_cons, List.drop_zero, List.map_cons, List.map_nil, puts, Act.put, List.setIfInBounds_toArray, List.set_cons_succ, List.set_cons_zero]
      go_wp2_with (((with_reducible refine' wpList_load_blk (.tmp 1) 3 rfl ?_ ld_int ?_ (hB1.below hbz hB1.lt) (K0.out) ?_); exact rfl; exact rfl; simp only [Act.put, List.setIfInBounds_toArray, List.set_cons_succ, List.set_cons_zero]))
      exact ⟨rfl, _, rfl, Below.refl _ _, rfl⟩
    · simp only [List.getElem?_cons_succ, List.getElem?_cons_zero, Option.some.injEq] at ho; subst ho; clear hi hl
      clear hd
      simp only [List.take_succ_cons, List.take_zero, List.drop_succ_cons, List.drop_zero, List.map_cons, List.map_nil, puts, Act.put, List.setIfInBounds_toArray, List.set_cons_succ, List.set_cons_zero]
      go_wp2_with (fail)
      exact ⟨rfl, _, rfl, Below.refl _ _, rfl⟩
    · simp only [List.getElem?_cons_succ, List.getElem?_cons_zero, Option.some.injEq] at ho; subst ho; clear hi hl
      clear hd
      simp only [List.take_succ_cons, List.take_zero, List.drop_succ_cons, List.drop_zero, List.map_cons, List.map_nil, puts, Act.put, List.setIfInBounds_toArray, List.set_cons_succ, List.set_cons_zero]
      go_wp2_with (((with_reducible refine' wpList_load_blk (.tmp 2) 9 rfl ?_ ld_str ?_ (hS1.below hbz hS1.lt) (S0.out) ?_); exact rfl; exact rfl; simp only [Act.put, List.setIfInBounds_toArray, List.set_cons_succ, List.set_cons_zero]))
      exact ⟨rfl, _, rfl, Below.refl _ _, rfl⟩
    · simp only [List.getElem?_cons_succ, List.getElem?_cons_zero, Option.some.injEq] at ho; subst ho; clear hi hl
      clear hd
      simp only [List.take_succ_cons, List.take_zero, List.drop_succ_cons, List.drop_zero, List.map_cons, List.map_nil, puts, Act.put, List.setIfInBounds_toArray, List.set_cons_succ, List.set_cons_zero]
      go_wp2_with (((with_reducible refine' wpList_load_blk (.tmp 1) 3 rfl ?_ ld_int ?_ (hB1.below hbz hB1.lt) (K0.out) ?_); exact rfl; exact rfl; simp only [Act.put, List.setIfInBounds_toArray, List.set_cons_succ, List.set_cons_zero]))
      exact ⟨rfl, _, rfl, Below.refl _ _, rfl⟩
    · simp only [List.getElem?_cons_succ, List.getElem?_cons_zero, Option.some.injEq] at ho; subst ho; clear hi hl
      clear hd
      simp only [List.take_succ_cons, List.take_zero, List.drop_succ_cons, List.drop_zero, List.map_cons, List.map_nil, puts, Act.put, List.setIfInBounds_toArray, List.set_cons_succ, List.set_cons_zero]
      go_wp2_with (fail)
      exact ⟨rfl, _, rfl, Below.refl _ _, rfl⟩
    · simp only [List.getElem?_cons_succ, List.getElem?_cons_zero, Option.some.injEq] at ho; subst ho; clear hi hl
      have s2 : (fun (vv : Value) (ww : World) => vv = .string ⟨seed.toArray⟩) u2 wz := hd 2 (by kernel_rfl)
      simp only at s2
      obtain rfl := s2
      have s3 : (fun (vv : Value) (ww : World) => vv = .int .i64 (k : Int)) u3 wz := hd 3 (by kernel_rfl)
      simp only at s3
      obtain rfl := s3
      have s4 : (fun (vv : Value) (ww : World) => vv = .int .i64 (c : Int)) u4 wz := hd 4 (by kernel_rfl)
      simp only at s4
      obtain rfl := s4
      clear hd
      simp only [List.take_succ_cons, List.take_zero, List.drop_succ_cons, List.drop_zero, List.map_cons, List.map_nil, puts, Act.put, List.setIfInBounds_toArray, List.set_cons_succ, List.set_cons_zero]
      go_wp2_with ((go_at_call 28; (with_reducible refine (start_any seed k c _ (hT1.below hbz) KI.out CI.out hs).mono ?_); rintro e w' ⟨rfl, hq⟩))
      exact ⟨rfl, _, rfl, hq, rfl⟩
    · simp only [List.getElem?_cons_succ, List.getElem?_cons_zero, Option.some.injEq] at ho; subst ho; clear hi hl
      have s0 : (fun (vv : Value) (ww : World) => vv = .int .i64 (k : Int)) u0 wz := hd 0 (by kernel_rfl)
      simp only at s0
      obtain rfl := s0
      have s1 : (fun (vv : Value) (ww : World) => vv = .int .i64 (c : Int)) u1 wz := hd 1 (by kernel_rfl)
      simp only at s1
      obtain rfl := s1
      have s5 : (fun (vv : Value) (ww : World) => vv = .agg (bv (startV seed k c)).toArray) u5 wz := hd 5 (by kernel_rfl)
      simp only at s5
      obtain rfl := s5
      clear hd
      simp only [List.take_succ_cons, List.take_zero, List.drop_succ_cons, List.drop_zero, List.map_cons, List.map_nil, puts, Act.put, List.setIfInBounds_toArray, List.set_cons_succ, List.set_cons_zero]
      go_wp2_with (((go_at_call 27; (with_reducible refine (advance_z k c 0 3 0 3 rfl rfl _ _ (hT1.below hbz) KI.out CI.out (by omega) (by omega) S16.out).mono ?_); rintro e w' ⟨rfl, hq⟩); rw [TV.out]))
      exact ⟨rfl, _, rfl, hq, rfl⟩
    · omega
  intro us wz hl hbz hS
  obtain ⟨u0, u1, u2, u3, u4, u5, u6, rfl⟩ := len7 hl
  have s6 : (fun (vv : Value) (ww : World) => vv = .agg (bv (topV seed k c)).toArray) u6 wz := hS 6 (by omega)
  simp only at s6
  obtain rfl := s6
  clear hS hl
  simp only [List.take_succ_cons, List.take_zero, List.drop_succ_cons, List.drop_zero, List.map_cons, List.map_nil, puts, Act.put, List.setIfInBounds_toArray, List.set_cons_succ, List.set_cons_zero]
  have hkRz := hkR.below hbz hkR.lt
  ((with_reducible refine' wpList_store_blk (cs := bv (topV seed k c)) 23 (.tmp 4) (.tmp 11) rfl ?_ ?_ ?_ hkRz sz_dig ?_ ?_ ?_ ?_); exact rfl; exact rfl; exact rfl; exact TL.out; exact List.length_replicate; exact bv_one _; intro w4 hk4 hO4 hz4; simp only [Act.put])
  refine onlyN ?_
  go_wp2_with fail
  ((try simp only [Exit.inBlock, Exit.then]); refine bodyPost_ret (results_cell_row rfl _ _ _ _ _ _ _ rfl hk4 Tryd.underlying23 rfl (by rw [sz_dig]; simp [TL.out])) rfl ?_)
  exact ⟨rfl, (hN1.trans (hbz.mono hs1)).trans (hO4.below (Nat.le_refl _) (by have := hbz.size; omega))⟩

/-- what turns while nodes are computed -/
def Grow (M : Nat) (seed : List UInt8) (w w' : World) : Prop := w.grownBy w' (some M) ∧ MapOk w' M seed
theorem Grow.refl {M : Nat} {seed : List UInt8} {w0 w : World} (h : Grow M seed w0 w) : Grow M seed w w := ⟨World.grownBy.refl _ _, h.2⟩
theorem Grow.trans {M : Nat} {seed : List UInt8} {a b c : World} (h : Grow M seed a b) (k : Grow M seed b c) : Grow M seed a c := ⟨gb_trans h.1 k.1, k.2⟩
theorem MapOk.below {w w' : World} {M : Nat} {seed : List UInt8} (h : MapOk w M seed) (hb : Below w.heap.size w w') : MapOk w' M seed := by
  obtain ⟨es, clock, h1, h2⟩ := h
  exact ⟨es, clock, by rw [hb.block M (Array.getElem?_eq_some_iff.1 h1).1]; exact h1, h2⟩
theorem Grow.below {M : Nat} {seed : List UInt8} {w0 w w' : World} (h : Grow M seed w0 w) (hb : Below w.heap.size w w') : Grow M seed w w' := ⟨gb_below hb, h.2.below hb⟩
theorem MapOk.ne {w : World} {M : Nat} {seed : List UInt8} (h : MapOk w M seed) {B : Nat} {t : TypeId} {cs : List Value} (hB : Blk w B t cs) : some B ≠ some M := by
  intro e
  cases e
  obtain ⟨es, clock, h1, _⟩ := h
  unfold Blk at hB
  rw [hB] at h1
  cases h1
theorem Grow.blk {M : Nat} {seed : List UInt8} {w w' : World} (h : Grow M seed w w') (hM : MapOk w M seed) {B : Nat} {t : TypeId} {cs : List Value} (hB : Blk w B t cs) : Blk w' B t cs := hB.grown h.1 (hM.ne hB)
theorem Grow.tab {M : Nat} {seed : List UInt8} {w w' : World} (h : Grow M seed w w') (hM : MapOk w M seed) (hT : TabH w) : TabH w' := by
  intro j u hu
  have hc := hT j u hu
  have hlt := World.block_lt_of_cell? _ _ hc
  have hne : some 1 ≠ some M := by
    intro e
    cases e
    obtain ⟨es, clock, h1, _⟩ := hM
    unfold World.cell? at hc
    rw [h1] at hc
    cases hc
  have hb := h.1.block _ hlt hne
  unfold World.cell? at hc ⊢
  rw [hb]
  exact hc
end Go.Proofs.YtajglgkjpagcjaaDoor.Wi
namespace Go.Proofs.YtajglgkjpagcjaaDoor.Wi
open Go Go.RowKit Pu Lb
set_option linter.unusedSimpArgs false
set_option linter.unusedVariables false
theorem nodeAt_zero (seed : List UInt8) (k : Nat) : leafD (vals (topV seed k) 68) = nodeAt seed 0 k := rfl
theorem nodeAt_succ (seed : List UInt8) (l k : Nat) : nodeD (nodeAt seed l (2 * k)) (nodeAt seed l (2 * k + 1)) = nodeAt seed (l + 1) k := rfl
attribute [local irreducible] comp sched comps sha outS mac digOf encInts adv startV nodeAt
/-- the closure as a value -/
def atV (C S A : Nat) : Value := .func (.func 44) #[] #[.pointer (some ⟨C, 0, none⟩), .pointer (some ⟨S, 0, none⟩), .pointer (some ⟨A, 0, none⟩)]
/-- what the closure finds -/
structure NEnv (w : World) (seed : List UInt8) (M C S A : Nat) : Prop where
  tab : TabH w
  map : MapOk w M seed
  c : Blk w C 73 [.map (some M)]
  s : Blk w S 9 [.string ⟨seed.toArray⟩]
  a : Blk w A 45 [atV C S A]
theorem NEnv.grow {w w' : World} {seed : List UInt8} {M C S A : Nat} (h : NEnv w seed M C S A) (g : Grow M seed w w') : NEnv w' seed M C S A :=
  ⟨g.tab h.map h.tab, g.2, g.blk h.map h.c, g.blk h.map h.s, g.blk h.map h.a⟩
theorem NEnv.below {w w' : World} {seed : List UInt8} {M C S A : Nat} (h : NEnv w seed M C S A) (g : Below w.heap.size w w') : NEnv w' seed M C S A :=
  h.grow ⟨gb_below g, h.map.below g⟩
theorem Grow.of_below {M : Nat} {seed : List UInt8} {w w' : World} (h : MapOk w M seed) (hb : Below w.heap.size w w') : Grow M seed w w' := ⟨gb_below hb, h.below hb⟩
theorem Only.grow {M : Nat} {seed : List UInt8} {w0 w w' : World} {B : Nat} (g : Grow M seed w0 w) (h : Only B w w') (hB : w0.heap.size ≤ B) (hne : some B ≠ some M) : Grow M seed w0 w' := by
  refine ⟨⟨h.os.trans g.1.os, h.tape.trans g.1.tape, h.output.trans g.1.output, Nat.le_trans g.1.size h.size, fun k hk hn => ?_⟩, ?_⟩
  · rw [h.block k (Nat.lt_of_lt_of_le hk g.1.size) (by intro e; cases e; omega), g.1.block k hk hn]
  · obtain ⟨es, clock, h1, h2⟩ := g.2
    exact ⟨es, clock, by rw [h.block M (Array.getElem?_eq_some_iff.1 h1).1 (fun e => hne e.symm)]; exact h1, h2⟩
theorem Grow.drewn {M : Nat} {seed : List UInt8} {a b : World} (h : Grow M seed a b) : Grow M seed a b.drew := ⟨⟨h.1.os, h.1.tape, h.1.output, h.1.size, h.1.block⟩, h.2⟩
theorem ex_nat (n : Nat) : ∃ m : Nat, n ≤ m ∧ m ≤ n := ⟨n, Nat.le_refl _, Nat.le_refl _⟩

set_option maxRecDepth 100000 in
set_option maxHeartbeats 1600000 in
theorem at_any (seed : List UInt8) (hs : seed.length ≤ 1000000) (M C S A : Nat) : ∀ (l k : Nat) (w : World), (k + 1) * 2 ^ l ≤ 1000 → l ≤ 100 → NEnv w seed M C S A →
    Calls Tryd.prog 44 #[.int .i64 (l : Int), .int .i64 (k : Int), .pointer (some ⟨C, 0, none⟩), .pointer (some ⟨S, 0, none⟩), .pointer (some ⟨A, 0, none⟩)] w fun e w' => e = .returned (.agg (bv (nodeAt seed l k)).toArray) ∧ Grow M seed w w' := by
  intro l
  induction l using Nat.strongRecOn with
  | _ l ih =>
  intro k w hk hl hE
  have hp1 : 0 < 2 ^ l := Nat.pow_pos (by decide)
  have hk1000 : k ≤ 1000 := by
    have : (k + 1) * 1 ≤ (k + 1) * 2 ^ l := Nat.mul_le_mul_left _ hp1
    omega
  have K0 := Lib.hid (show ([Value.int .i64 (k : Int)] : List Value)[0]? = some (.int .i64 (k : Int)) from rfl)
  have C0 := Lib.hid (show ([Value.map (some M)] : List Value)[0]? = some (.map (some M)) from rfl)
  have A0 := Lib.hid (show ([atV C S A] : List Value)[0]? = some (.func (.func 44) #[] #[.pointer (some ⟨C, 0, none⟩), .pointer (some ⟨S, 0, none⟩), .pointer (some ⟨A, 0, none⟩)]) from rfl)
  have NL := Lib.hid (show (bv (nodeAt seed l k)).length = 16 by rw [bv_length, nodeAt_len])
  go_enter Tryd.func44, Tryd.ntmps44
  go_upto_region 1 with (first | ((with_reducible refine' wpList_box1 (v := .int .i64 (k : Int)) 3 (.tmp 1) rfl ?_ ?_ ?_ ?_); exact rfl; exact rfl; exact rfl; intro w1 hk6 hN1 hz1; simp only [Act.put, List.setIfInBounds_toArray, List.set_cons_succ, List.set_cons_zero]) | ((with_reducible refine' wpList_alloc_blk (cs := List.replicate 16 (.int .u8 0)) 23 rfl ?_ zr_dig ?_ ?_); exact rfl; exact zeros_u8 16; intro w2 hk7 hN2 hz2; simp only [Act.put, List.setIfInBounds_toArray, List.set_cons_succ, List.set_cons_zero]))
  have hE1 := hE.below hN1
  have hE2 := hE1.below hN2
  replace hk6 := hk6.below hN2 hk6.lt
  have hg := (Grow.of_below hE.map hN1).trans (Grow.of_below hE1.map hN2)
  have HZ1 := Lib.hid hz1; have HZ2 := Lib.hid hz2
  clear hz1 hz2 hN1 hN2 hE1
  go_upto_region 2 with (first
    | ((with_reducible refine' wpList_load_blk (.tmp 2) 73 rfl ?_ ld_mp ?_ hE2.c (C0.out) ?_); exact rfl; exact rfl; simp only [Act.put, List.setIfInBounds_toArray, List.set_cons_succ, List.set_cons_zero]) | ((with_reducible refine' wpList_load_blk (.tmp 6) 3 rfl ?_ ld_int ?_ hk6 (K0.out) ?_); exact rfl; exact rfl; simp only [Act.put, List.setIfInBounds_toArray, List.set_cons_succ, List.set_cons_zero])
    | ((with_reducible refine' wpList_memo (l := l) (k := k) (.tmp 12) (.tmp 15) rfl ?_ ?_ ?_ hE2.map ?_); exact rfl; exact rfl; exact rfl; intro d ok hok hd)
    | (((with_reducible refine' wpList_alloc_blk (cs := List.replicate 16 (.int .u8 0)) 23 rfl ?_ zr_dig ?_ ?_); exact rfl; exact zeros_u8 16; intro w3 hk8 hN hz3; simp only [Act.put, List.setIfInBounds_toArray, List.set_cons_succ, List.set_cons_zero]); have D16 := Lib.hid (show (bv d).length = 16 by rw [bv_length, hd]); have hE3 := hE2.below hN; have hg3 := hg.trans (Grow.of_below hE2.map hN); have l6 := hk6.lt; have l7 := hk7.lt; replace hk6 := hk6.below hN hk6.lt; replace hk7 := hk7.below hN hk7.lt)
    | ((with_reducible refine' wpList_store_blk (cs := bv d) 23 (.tmp 8) (.tmp 17) rfl ?_ ?_ ?_ hk8 sz_dig ?_ ?_ ?_ ?_); exact rfl; exact rfl; exact rfl; exact D16.out; exact List.length_replicate; exact bv_one _; intro w4 hk8b hO4 hz4; simp only [Act.put]))
  have hMb := hE3.map.ne hk8
  have hs3 := hg3.1.size
  have hg4 := Only.grow hg3 hO4 (by have := HZ1.out; have := HZ2.out; omega) hMb
  have hE4 := hE.grow hg4
  replace hk6 := hO4.blk hk6 (by have := HZ1.out; have := HZ2.out; omega)
  replace hk7 := hO4.blk hk7 (by have := HZ1.out; have := HZ2.out; omega)
  clear hE3 hg3 hk8 hz3 hz4 hMb hs3 hO4 hN hE2 hg l6 l7
  cases ok
  case true =>
    obtain rfl := hok rfl
    go_wp2_with (first | ((with_reducible refine' wpList_loadall_blk (.tmp 8) 23 rfl ?_ Tryd.underlying23 sz_dig ?_ hk8b ?_ ?_ ?_); exact rfl; exact rfl; exact D16.out; omega; simp only [Act.put, List.setIfInBounds_toArray, List.set_cons_succ, List.set_cons_zero]) | ((with_reducible refine' wpList_store_blk (cs := bv (nodeAt seed l k)) 23 (.tmp 7) (.tmp 20) rfl ?_ ?_ ?_ hk7 sz_dig ?_ ?_ ?_ ?_); exact rfl; exact rfl; exact rfl; exact NL.out; exact List.length_replicate; exact bv_one _; intro w9 hk9 hO9 hz9; simp only [Act.put]))
    ((try simp only [Exit.inBlock, Exit.then]); refine bodyPost_ret (results_cell_row rfl _ _ _ _ _ _ _ rfl hk9 Tryd.underlying23 rfl (by rw [sz_dig]; simp [NL.out])) rfl ?_)
    exact ⟨rfl, Only.grow hg4 hO9 (by have := HZ1.out; omega) (hE4.map.ne hk7)⟩
  case false =>
    clear hok
    go_upto_region 5 with (((with_reducible refine' wpList_alloc_blk (cs := List.replicate 16 (.int .u8 0)) 23 rfl ?_ zr_dig ?_ ?_); exact rfl; exact zeros_u8 16; intro w5 hk10 hN hz5; simp only [Act.put, List.setIfInBounds_toArray, List.set_cons_succ, List.set_cons_zero]))
    have hg5 := hg4.trans (Grow.of_below hE4.map hN)
    have hE5 := hE.grow hg5
    replace hk6 := hk6.below hN hk6.lt
    replace hk7 := hk7.below hN hk7.lt
    have l10 := hk10.lt
    have s4 := hg4.1.size
    have hL7 : w1.heap.size < w4.heap.size := by have := hk8b.lt; have := HZ1.out; have := HZ2.out; omega
    clear hz5 hN hk8b D16 hE4 hg4
    by_cases hl0 : l = 0
    · have hlz : ((l : Int) == 0) = true := by simp [hl0]
      have HN := Lib.hid (show leafD (vals (topV seed k) 68) = nodeAt seed l k by rw [hl0]; exact nodeAt_zero seed k)
      have HF := leaf2_any (.pointer (some ⟨w.heap.size, 0, none⟩)) (.pointer (some ⟨S, 0, none⟩)) (topV seed k) w5 hE5.tab (fun c _ => topV_len seed k c) (fun c hc w' hb => topc_any seed k c w.heap.size S w' (hE5.tab.below hb) hs (by omega) (by omega) (hk6.below hb hk6.lt) (hE5.s.below hb hE5.s.lt))
      have HF := Lib.hid HF
      clear hl0
      go_upto_region 8 with (first
        | ((go_at_call 38; (with_reducible refine (HF.out).mono ?_); rintro e w' ⟨rfl, hN⟩); rw [HN.out]; have hg6 := hg5.trans (Grow.of_below hE5.map hN); have hk6' := hk6.below hN hk6.lt; have hk7' := hk7.below hN hk7.lt; have hk10' := hk10.below hN l10)
        | ((with_reducible refine' wpList_store_blk (cs := bv (nodeAt seed l k)) 23 (.tmp 10) (.tmp 24) rfl ?_ ?_ ?_ hk10' sz_dig ?_ ?_ ?_ ?_); exact rfl; exact rfl; exact rfl; exact NL.out; exact List.length_replicate; exact bv_one _; intro w7 hkV hO7 hz7; simp only [Act.put]))
      have hg7 := Only.grow hg6 hO7 (by omega) ((hE.grow hg6).map.ne hk10')
      have hkA := hO7.blk hk6' (by have := HZ1.out; omega)
      have hkB := hO7.blk hk7' (by omega)
      clear hz7 hO7 hg6 hk6' hk7' hk10' hk10 hk6 hk7 hE5 hN HF hg5
      have hE7 := hE.grow hg7
      go_upto_region 9 with (first
        | ((with_reducible refine' wpList_load_blk (.tmp 2) 73 rfl ?_ ld_mp ?_ hE7.c (C0.out) ?_); exact rfl; exact rfl; simp only [Act.put, List.setIfInBounds_toArray, List.set_cons_succ, List.set_cons_zero]) | ((with_reducible refine' wpList_load_blk (.tmp 6) 3 rfl ?_ ld_int ?_ hkA (K0.out) ?_); exact rfl; exact rfl; simp only [Act.put, List.setIfInBounds_toArray, List.set_cons_succ, List.set_cons_zero]) | ((with_reducible refine' wpList_loadall_blk (.tmp 10) 23 rfl ?_ Tryd.underlying23 sz_dig ?_ hkV ?_ ?_ ?_); exact rfl; exact rfl; exact NL.out; omega; simp only [Act.put, List.setIfInBounds_toArray, List.set_cons_succ, List.set_cons_zero])
        | ((with_reducible refine' wpList_memo_store (l := l) (k := k) (seed := seed) (.tmp 39) (.tmp 42) (.tmp 43) rfl ?_ ?_ ?_ ?_ hE7.map ?_); exact rfl; exact rfl; exact rfl; exact rfl; intro w8 hg8 hM8; simp only [Act.put]))
      have g8 : Grow M seed _ _ := ⟨hg8, hM8⟩
      have hkV8 := g8.blk hE7.map hkV
      have hkB8 := g8.blk hE7.map hkB
      have hg9 := hg7.trans g8
      clear hg8 hM8 hkA hkV hkB hE7 hg7 g8
      go_wp2_with (first | ((with_reducible refine' wpList_loadall_blk (.tmp 10) 23 rfl ?_ Tryd.underlying23 sz_dig ?_ hkV8 ?_ ?_ ?_); exact rfl; exact rfl; exact NL.out; omega; simp only [Act.put, List.setIfInBounds_toArray, List.set_cons_succ, List.set_cons_zero]) | ((with_reducible refine' wpList_store_blk (cs := bv (nodeAt seed l k)) 23 (.tmp 7) (.tmp 44) rfl ?_ ?_ ?_ hkB8 sz_dig ?_ ?_ ?_ ?_); exact rfl; exact rfl; exact rfl; exact NL.out; exact List.length_replicate; exact bv_one _; intro w9 hk9 hO9 hz9; simp only [Act.put]))
      ((try simp only [Exit.inBlock, Exit.then]); refine bodyPost_ret (results_cell_row rfl _ _ _ _ _ _ _ rfl hk9 Tryd.underlying23 rfl (by rw [sz_dig]; simp [NL.out])) rfl ?_)
      exact ⟨rfl, Only.grow hg9 hO9 (by have := HZ1.out; omega) ((hE.grow hg9).map.ne hkB8)⟩
    · have hlz : ((l : Int) == 0) = false := by simp [hl0]
      obtain ⟨l1, hl1⟩ : ∃ l1, l = l1 + 1 := ⟨l - 1, by omega⟩
      have hl1a : l1 + 1 ≤ l := by omega
      have hl1b : l ≤ l1 + 1 := by omega
      have hpow : 2 ^ l = 2 * 2 ^ l1 := by rw [hl1, Nat.pow_succ]; omega
      have hkk : (k + 1) * (2 * 2 ^ l1) ≤ 1000 := by rw [← hpow]; exact hk
      have hp2 : (2 * k + 1 + 1) * 2 ^ l1 = (k + 1) * (2 * 2 ^ l1) := by rw [← Nat.mul_assoc]; congr 1; omega
      obtain ⟨k2, hk2a, hk2b⟩ := ex_nat (2 * k)
      obtain ⟨k3, hk3a, hk3b⟩ := ex_nat (2 * k + 1)
      have e2 : k2 = 2 * k := by omega
      have e3 : k3 = 2 * k + 1 := by omega
      have B3 := Lib.hid (show (k3 + 1) * 2 ^ l1 ≤ 1000 by rw [e3, hp2]; exact hkk)
      have B2 := Lib.hid (show (k2 + 1) * 2 ^ l1 ≤ 1000 from Nat.le_trans (Nat.mul_le_mul_right _ (by omega)) B3.out)
      have ND := Lib.hid (show nodeD (nodeAt seed l1 k2) (nodeAt seed l1 k3) = nodeAt seed l k by rw [e2, e3, hl1]; exact nodeAt_succ seed l1 k)
      have N2 := Lib.hid (nodeAt_len seed l1 k2)
      have N3 := Lib.hid (nodeAt_len seed l1 k3)
      have IH := Lib.hid (ih l1 (by omega))
      have hl1l : l1 ≤ 100 := by omega
      have HL0 := Lib.hid hl0
      clear hl1 hpow hkk hp2 e2 e3 ih hk hp1 hl0
      go_upto_region 7 with fail
      refine wp_region_monoG (w := w5) 14 (fun w' => Grow M seed w5 w') (fun w1 w2 => Grow M seed w1 w2) ((Grow.of_below hE5.map (Below.refl _ _)).drewn) (fun _ _ h k => h.trans k) (fun i => match i with | 0 => fun (vv : Value) (ww : World) => vv = .func (.func 44) #[] #[.pointer (some ⟨C, 0, none⟩), .pointer (some ⟨S, 0, none⟩), .pointer (some ⟨A, 0, none⟩)] | 1 => fun (vv : Value) (ww : World) => vv = .int .i64 (l : Int) | 2 => fun (vv : Value) (ww : World) => vv = .int .i64 (l1 : Int) | 3 => fun (vv : Value) (ww : World) => vv = .int .i64 (k : Int) | 4 => fun (vv : Value) (ww : World) => vv = .int .i64 (k2 : Int) | 5 => fun (vv : Value) (ww : World) => vv = .agg (bv (nodeAt seed l1 k2)).toArray | 6 => fun (vv : Value) (ww : World) => vv = .func (.func 44) #[] #[.pointer (some ⟨C, 0, none⟩), .pointer (some ⟨S, 0, none⟩), .pointer (some ⟨A, 0, none⟩)] | 7 => fun (vv : Value) (ww : World) => vv = .int .i64 (l : Int) | 8 => fun (vv : Value) (ww : World) => vv = .int .i64 (l1 : Int) | 9 => fun (vv : Value) (ww : World) => vv = .int .i64 (k : Int) | 10 => fun (vv : Value) (ww : World) => vv = .int .i64 (k2 : Int) | 11 => fun (vv : Value) (ww : World) => vv = .int .i64 (k3 : Int) | 12 => fun (vv : Value) (ww : World) => vv = .agg (bv (nodeAt seed l1 k3)).toArray | 13 => fun (vv : Value) (ww : World) => vv = .agg (bv (nodeAt seed l k)).toArray | _ => fun _ _ => True) (by kernel_rfl) (by kernel_rfl) ?_ ?_ ?_
      · intro i vv w1 w2 h hb
        rcases i with _ | _ | _ | _ | _ | _ | _ | _ | _ | _ | _ | _ | _ | _ | i
        all_goals first | exact h | exact Rd.grow h hb | trivial
      · intro i o hi ho us wz hl hbz hd
        obtain ⟨u0, u1, u2, u3, u4, u5, u6, u7, u8, u9, u10, u11, u12, u13, rfl⟩ := len14 hl
        rcases i with _ | _ | _ | _ | _ | _ | _ | _ | _ | _ | _ | _ | _ | _ | i
        · simp only [List.getElem?_cons_succ, List.getElem?_cons_zero, Option.some.injEq] at ho; subst ho; clear hi hl
          clear hd
          simp only [List.take_succ_cons, List.take_zero, List.drop_succ_cons, List.drop_zero, List.map_cons, List.map_nil, puts, Act.put, List.setIfInBounds_toArray, List.set_cons_succ, List.set_cons_zero]
          go_wp2_with (((with_reducible refine' wpList_load_blk (.tmp 4) 45 rfl ?_ ld_fn2 ?_ (hE5.grow hbz).a (A0.out) ?_); exact rfl; exact rfl; simp only [Act.put, List.setIfInBounds_toArray, List.set_cons_succ, List.set_cons_zero]))
          exact ⟨rfl, _, rfl, hbz.refl, rfl⟩
        · simp only [List.getElem?_cons_succ, List.getElem?_cons_zero, Option.some.injEq] at ho; subst ho; clear hi hl
          clear hd
          simp only [List.take_succ_cons, List.take_zero, List.drop_succ_cons, List.drop_zero, List.map_cons, List.map_nil, puts, Act.put, List.setIfInBounds_toArray, List.set_cons_succ, List.set_cons_zero]
          go_wp2_with (fail)
          exact ⟨rfl, _, rfl, hbz.refl, rfl⟩
        · simp only [List.getElem?_cons_succ, List.getElem?_cons_zero, Option.some.injEq] at ho; subst ho; clear hi hl
          have s1 : (fun (vv : Value) (ww : World) => vv = .int .i64 (l : Int)) u1 wz := hd 1 (by kernel_rfl)
          simp only at s1
          obtain rfl := s1
          clear hd
          simp only [List.take_succ_cons, List.take_zero, List.drop_succ_cons, List.drop_zero, List.map_cons, List.map_nil, puts, Act.put, List.setIfInBounds_toArray, List.set_cons_succ, List.set_cons_zero]
          go_wp2_with (fail)
          exact ⟨rfl, _, rfl, hbz.refl, (by congr 1; omega)⟩
        · simp only [List.getElem?_cons_succ, List.getElem?_cons_zero, Option.some.injEq] at ho; subst ho; clear hi hl
          clear hd
          simp only [List.take_succ_cons, List.take_zero, List.drop_succ_cons, List.drop_zero, List.map_cons, List.map_nil, puts, Act.put, List.setIfInBounds_toArray, List.set_cons_succ, List.set_cons_zero]
          go_wp2_with (((with_reducible refine' wpList_load_blk (.tmp 6) 3 rfl ?_ ld_int ?_ (hbz.blk hE5.map hk6) (K0.out) ?_); exact rfl; exact rfl; simp only [Act.put, List.setIfInBounds_toArray, List.set_cons_succ, List.set_cons_zero]))
          exact ⟨rfl, _, rfl, hbz.refl, rfl⟩
        · simp only [List.getElem?_cons_succ, List.getElem?_cons_zero, Option.some.injEq] at ho; subst ho; clear hi hl
          have s3 : (fun (vv : Value) (ww : World) => vv = .int .i64 (k : Int)) u3 wz := hd 3 (by kernel_rfl)
          simp only at s3
          obtain rfl := s3
          clear hd
          simp only [List.take_succ_cons, List.take_zero, List.drop_succ_cons, List.drop_zero, List.map_cons, List.map_nil, puts, Act.put, List.setIfInBounds_toArray, List.set_cons_succ, List.set_cons_zero]
          go_wp2_with (fail)
          exact ⟨rfl, _, rfl, hbz.refl, (by congr 1; omega)⟩
        · simp only [List.getElem?_cons_succ, List.getElem?_cons_zero, Option.some.injEq] at ho; subst ho; clear hi hl
          have s0 : (fun (vv : Value) (ww : World) => vv = .func (.func 44) #[] #[.pointer (some ⟨C, 0, none⟩), .pointer (some ⟨S, 0, none⟩), .pointer (some ⟨A, 0, none⟩)]) u0 wz := hd 0 (by kernel_rfl)
          simp only at s0
          obtain rfl := s0
          have s2 : (fun (vv : Value) (ww : World) => vv = .int .i64 (l1 : Int)) u2 wz := hd 2 (by kernel_rfl)
          simp only at s2
          obtain rfl := s2
          have s4 : (fun (vv : Value) (ww : World) => vv = .int .i64 (k2 : Int)) u4 wz := hd 4 (by kernel_rfl)
          simp only at s4
          obtain rfl := s4
          clear hd
          simp only [List.take_succ_cons, List.take_zero, List.drop_succ_cons, List.drop_zero, List.map_cons, List.map_nil, puts, Act.put, List.setIfInBounds_toArray, List.set_cons_succ, List.set_cons_zero]
          go_wp2_with ((go_at_call 44; (with_reducible refine (IH.out k2 _ B2.out hl1l (hE5.grow hbz)).mono ?_); rintro e w' ⟨rfl, hq⟩))
          exact ⟨rfl, _, rfl, hq, rfl⟩
        · simp only [List.getElem?_cons_succ, List.getElem?_cons_zero, Option.some.injEq] at ho; subst ho; clear hi hl
          clear hd
          simp only [List.take_succ_cons, List.take_zero, List.drop_succ_cons, List.drop_zero, List.map_cons, List.map_nil, puts, Act.put, List.setIfInBounds_toArray, List.set_cons_succ, List.set_cons_zero]
          go_wp2_with (((with_reducible refine' wpList_load_blk (.tmp 4) 45 rfl ?_ ld_fn2 ?_ (hE5.grow hbz).a (A0.out) ?_); exact rfl; exact rfl; simp only [Act.put, List.setIfInBounds_toArray, List.set_cons_succ, List.set_cons_zero]))
          exact ⟨rfl, _, rfl, hbz.refl, rfl⟩
        · simp only [List.getElem?_cons_succ, List.getElem?_cons_zero, Option.some.injEq] at ho; subst ho; clear hi hl
          clear hd
          simp only [List.take_succ_cons, List.take_zero, List.drop_succ_cons, List.drop_zero, List.map_cons, List.map_nil, puts, Act.put, List.setIfInBounds_toArray, List.set_cons_succ, List.set_cons_zero]
          go_wp2_with (fail)
          exact ⟨rfl, _, rfl, hbz.refl, rfl⟩
        · simp only [List.getElem?_cons_succ, List.getElem?_cons_zero, Option.some.injEq] at ho; subst ho; clear hi hl
          have s7 : (fun (vv : Value) (ww : World) => vv = .int .i64 (l : Int)) u7 wz := hd 7 (by kernel_rfl)
          simp only at s7
          obtain rfl := s7
          clear hd
          simp only [List.take_succ_cons, List.take_zero, List.drop_succ_cons, List.drop_zero, List.map_cons, List.map_nil, puts, Act.put, List.setIfInBounds_toArray, List.set_cons_succ, List.set_cons_zero]
          go_wp2_with (fail)
          exact ⟨rfl, _, rfl, hbz.refl, (by congr 1; omega)⟩
        · simp only [List.getElem?_cons_succ, List.getElem?_cons_zero, Option.some.injEq] at ho; subst ho; clear hi hl
          clear hd
          simp only [List.take_succ_cons, List.take_zero, List.drop_succ_cons, List.drop_zero, List.map_cons, List.map_nil, puts, Act.put, List.setIfInBounds_toArray, List.set_cons_succ, List.set_cons_zero]
          go_wp2_with (((with_reducible refine' wpList_load_blk (.tmp 6) 3 rfl ?_ ld_int ?_ (hbz.blk hE5.map hk6) (K0.out) ?_); exact rfl; exact rfl; simp only [Act.put, List.setIfInBounds_toArray, List.set_cons_succ, List.set_cons_zero]))
          exact ⟨rfl, _, rfl, hbz.refl, rfl⟩
        · simp only [List.getElem?_cons_succ, List.getElem?_cons_zero, Option.some.injEq] at ho; subst ho; clear hi hl
          have s9 : (fun (vv : Value) (ww : World) => vv = .int .i64 (k : Int)) u9 wz := hd 9 (by kernel_rfl)
          simp only at s9
          obtain rfl := s9
          clear hd
          simp only [List.take_succ_cons, List.take_zero, List.drop_succ_cons, List.drop_zero, List.map_cons, List.map_nil, puts, Act.put, List.setIfInBounds_toArray, List.set_cons_succ, List.set_cons_zero]
          go_wp2_with (fail)
          exact ⟨rfl, _, rfl, hbz.refl, (by congr 1; omega)⟩
        · simp only [List.getElem?_cons_succ, List.getElem?_cons_zero, Option.some.injEq] at ho; subst ho; clear hi hl
          have s10 : (fun (vv : Value) (ww : World) => vv = .int .i64 (k2 : Int)) u10 wz := hd 10 (by kernel_rfl)
          simp only at s10
          obtain rfl := s10
          clear hd
          simp only [List.take_succ_cons, List.take_zero, List.drop_succ_cons, List.drop_zero, List.map_cons, List.map_nil, puts, Act.put, List.setIfInBounds_toArray, List.set_cons_succ, List.set_cons_zero]
          go_wp2_with (fail)
          exact ⟨rfl, _, rfl, hbz.refl, (by congr 1; omega)⟩
        · simp only [List.getElem?_cons_succ, List.getElem?_cons_zero, Option.some.injEq] at ho; subst ho; clear hi hl
          have s6 : (fun (vv : Value) (ww : World) => vv = .func (.func 44) #[] #[.pointer (some ⟨C, 0, none⟩), .pointer (some ⟨S, 0, none⟩), .pointer (some ⟨A, 0, none⟩)]) u6 wz := hd 6 (by kernel_rfl)
          simp only at s6
          obtain rfl := s6
          have s8 : (fun (vv : Value) (ww : World) => vv = .int .i64 (l1 : Int)) u8 wz := hd 8 (by kernel_rfl)
          simp only at s8
          obtain rfl := s8
          have s11 : (fun (vv : Value) (ww : World) => vv = .int .i64 (k3 : Int)) u11 wz := hd 11 (by kernel_rfl)
          simp only at s11
          obtain rfl := s11
          clear hd
          simp only [List.take_succ_cons, List.take_zero, List.drop_succ_cons, List.drop_zero, List.map_cons, List.map_nil, puts, Act.put, List.setIfInBounds_toArray, List.set_cons_succ, List.set_cons_zero]
          go_wp2_with ((go_at_call 44; (with_reducible refine (IH.out k3 _ B3.out hl1l (hE5.grow hbz)).mono ?_); rintro e w' ⟨rfl, hq⟩))
          exact ⟨rfl, _, rfl, hq, rfl⟩
        · simp only [List.getElem?_cons_succ, List.getElem?_cons_zero, Option.some.injEq] at ho; subst ho; clear hi hl
          have s5 : (fun (vv : Value) (ww : World) => vv = .agg (bv (nodeAt seed l1 k2)).toArray) u5 wz := hd 5 (by kernel_rfl)
          simp only at s5
          obtain rfl := s5
          have s12 : (fun (vv : Value) (ww : World) => vv = .agg (bv (nodeAt seed l1 k3)).toArray) u12 wz := hd 12 (by kernel_rfl)
          simp only at s12
          obtain rfl := s12
          clear hd
          simp only [List.take_succ_cons, List.take_zero, List.drop_succ_cons, List.drop_zero, List.map_cons, List.map_nil, puts, Act.put, List.setIfInBounds_toArray, List.set_cons_succ, List.set_cons_zero]
          go_wp2_with (((go_at_call 40; (with_reducible refine (node_any _ _ _ (hE5.grow hbz).tab N2.out N3.out).mono ?_); rintro e w' ⟨rfl, hq⟩); rw [ND.out]))
          exact ⟨rfl, _, rfl, (hbz.below hq), rfl⟩
        · omega
      intro us wz hl hbz hS
      obtain ⟨u0, u1, u2, u3, u4, u5, u6, u7, u8, u9, u10, u11, u12, u13, rfl⟩ := len14 hl
      have s13 : (fun (vv : Value) (ww : World) => vv = .agg (bv (nodeAt seed l k)).toArray) u13 wz := hS 13 (by omega)
      simp only at s13
      obtain rfl := s13
      clear hS hl
      simp only [List.take_succ_cons, List.take_zero, List.drop_succ_cons, List.drop_zero, List.map_cons, List.map_nil, puts, Act.put, List.setIfInBounds_toArray, List.set_cons_succ, List.set_cons_zero]
      have hk10' := hbz.blk hE5.map hk10
      have hk6' := hbz.blk hE5.map hk6
      have hk7' := hbz.blk hE5.map hk7
      have hg6 := hg5.trans hbz
      ((with_reducible refine' wpList_store_blk (cs := bv (nodeAt seed l k)) 23 (.tmp 10) (.tmp 38) rfl ?_ ?_ ?_ hk10' sz_dig ?_ ?_ ?_ ?_); exact rfl; exact rfl; exact rfl; exact NL.out; exact List.length_replicate; exact bv_one _; intro w7 hkV hO7 hz7; simp only [Act.put])
      refine onlyN ?_
      have hg7 := Only.grow hg6 hO7 (by omega) ((hE.grow hg6).map.ne hk10')
      have hkA := hO7.blk hk6' (by have := HZ1.out; omega)
      have hkB := hO7.blk hk7' (by omega)
      clear hz7 hO7 hg6 hk6' hk7' hk10' hk10 hk6 hk7 hE5 hbz IH hg5
      have hE7 := hE.grow hg7
      go_upto_region 9 with (first
        | ((with_reducible refine' wpList_load_blk (.tmp 2) 73 rfl ?_ ld_mp ?_ hE7.c (C0.out) ?_); exact rfl; exact rfl; simp only [Act.put, List.setIfInBounds_toArray, List.set_cons_succ, List.set_cons_zero]) | ((with_reducible refine' wpList_load_blk (.tmp 6) 3 rfl ?_ ld_int ?_ hkA (K0.out) ?_); exact rfl; exact rfl; simp only [Act.put, List.setIfInBounds_toArray, List.set_cons_succ, List.set_cons_zero]) | ((with_reducible refine' wpList_loadall_blk (.tmp 10) 23 rfl ?_ Tryd.underlying23 sz_dig ?_ hkV ?_ ?_ ?_); exact rfl; exact rfl; exact NL.out; omega; simp only [Act.put, List.setIfInBounds_toArray, List.set_cons_succ, List.set_cons_zero])
        | ((with_reducible refine' wpList_memo_store (l := l) (k := k) (seed := seed) (.tmp 39) (.tmp 42) (.tmp 43) rfl ?_ ?_ ?_ ?_ hE7.map ?_); exact rfl; exact rfl; exact rfl; exact rfl; intro w8 hg8 hM8; simp only [Act.put]))
      have g8 : Grow M seed _ _ := ⟨hg8, hM8⟩
      have hkV8 := g8.blk hE7.map hkV
      have hkB8 := g8.blk hE7.map hkB
      have hg9 := hg7.trans g8
      clear hg8 hM8 hkA hkV hkB hE7 hg7 g8
      go_wp2_with (first | ((with_reducible refine' wpList_loadall_blk (.tmp 10) 23 rfl ?_ Tryd.underlying23 sz_dig ?_ hkV8 ?_ ?_ ?_); exact rfl; exact rfl; exact NL.out; omega; simp only [Act.put, List.setIfInBounds_toArray, List.set_cons_succ, List.set_cons_zero]) | ((with_reducible refine' wpList_store_blk (cs := bv (nodeAt seed l k)) 23 (.tmp 7) (.tmp 44) rfl ?_ ?_ ?_ hkB8 sz_dig ?_ ?_ ?_ ?_); exact rfl; exact rfl; exact rfl; exact NL.out; exact List.length_replicate; exact bv_one _; intro w9 hk9 hO9 hz9; simp only [Act.put]))
      ((try simp only [Exit.inBlock, Exit.then]); refine bodyPost_ret (results_cell_row rfl _ _ _ _ _ _ _ rfl hk9 Tryd.underlying23 rfl (by rw [sz_dig]; simp [NL.out])) rfl ?_)
      exact ⟨rfl, Only.grow hg9 hO9 (by have := HZ1.out; omega) ((hE.grow hg9).map.ne hkB8)⟩
end Go.Proofs.YtajglgkjpagcjaaDoor.Wi
namespace Go.Proofs.YtajglgkjpagcjaaDoor.Lb
open Go Go.RowKit
theorem results_cell_row_tmp {P : Program} {fn : Func} {p q : Tmp} {ty : TypeId} (h : fn.results = #[.cell p ty, .tmp q]) (tmps : Array Value) (w : World) (g : Nat) (t : TypeId) (cs : Array Value) (fr : Nat × Nat) (d : TypeDesc)
    (hp : tmps.getD p undef = .pointer (some ⟨g, 0, none⟩)) (hg : w.heap[g]? = some (.cells cs t fr))
    (hu : P.underlying ty = some d) (hd : (match d with | .struct _ | .array _ _ => true | _ => false) = true) (hi : (P.info? ty).map (·.size) = some cs.size) :
    (results fn tmps).run P w = .ok (.tuple #[.agg cs, tmps.getD q undef]) w := by
  have hp' : tmps[p]?.getD undef = .pointer (some ⟨g, 0, none⟩) := by simpa using hp
  simp [results, h, hp', asAddr, run_loadVar_row w g t ty cs fr d hg hu hd hi]
end Go.Proofs.YtajglgkjpagcjaaDoor.Lb
namespace Go.Proofs.YtajglgkjpagcjaaDoor.Wi
open Go Go.RowKit Pu Lb
set_option linter.unusedSimpArgs false
set_option linter.unusedVariables false
attribute [local irreducible] comp sched comps sha outS mac digOf encInts adv startV nodeAt
theorem mapOk_new (w : World) (seed : List UInt8) : MapOk (w.alloc (.map #[] 0)) w.heap.size seed := ⟨#[], 0, heap_alloc_new w _, fun e he => by simp at he⟩
theorem mapOk_at {w : World} {B : Nat} {seed : List UInt8} (h : w.heap[B]? = some (.map #[] 0)) : MapOk w B seed := ⟨#[], 0, h, fun e he => by simp at he⟩
theorem MapOk.only {w w' : World} {M B : Nat} {seed : List UInt8} (h : MapOk w M seed) (hO : Only B w w') (hne : some B ≠ some M) : MapOk w' M seed := by
  obtain ⟨es, clock, h1, h2⟩ := h
  exact ⟨es, clock, by rw [hO.block M (Array.getElem?_eq_some_iff.1 h1).1 (fun e => hne e.symm)]; exact h1, h2⟩
theorem wpList_makeMap {ops : Array Oper} {Q : Exit → Act → World → Prop} {a : Act} {w : World} {rest : List Oper} {o : Oper} {t : TypeId} (ho : o.op = .makeMap t none) (hw : Region.wanted o (yielded ops a.tmps) = true)
    (h : ∀ w', w'.heap[w.heap.size]? = some (.map #[] 0) → Below w.heap.size w w' → w'.heap.size = w.heap.size + 1 → wpList Tryd.prog ops Q rest (a.put o.dst (.map (some w.heap.size))) w') : wpList Tryd.prog ops Q (o :: rest) a w := by
  refine wpList_of_run hw (v := .map (some w.heap.size)) (w' := w.alloc (.map #[] 0)) ?_ (h _ (heap_alloc_new w _) ((Below.refl _ _).alloc (Nat.le_refl _) _) (by simp))
  unfold execOp
  simp [ho, run_makeMap]
set_option maxRecDepth 100000 in
theorem nodes_any (seed : List UInt8) (w : World) (hT : TabH w) :
    Calls Tryd.prog 22 #[.string ⟨seed.toArray⟩] w fun e w' => ∃ M C S A, e = .returned (atV C S A) ∧ NEnv w' seed M C S A ∧ Below w.heap.size w w' ∧ w.heap.size ≤ M := by
  have Z1 : Hid (0 < ([Value.map none] : List Value).length) := Lib.hid (by decide)
  have Z2 : Hid (0 < ([Value.nilFunc] : List Value).length) := Lib.hid (by decide)
  go_enter Tryd.func22, Tryd.ntmps22
  go_upto_region 1 with (((with_reducible refine' wpList_box1 (v := .string ⟨seed.toArray⟩) 9 (.tmp 0) rfl ?_ ?_ ?_ ?_); exact rfl; exact rfl; exact rfl; intro w1 hkS hN1 hz1; simp only [Act.put, List.setIfInBounds_toArray, List.set_cons_succ, List.set_cons_zero]))
  have HZ1 := Lib.hid hz1
  have hb := hN1
  clear hz1 hN1
  go_upto_region 2 with (first
    | ((with_reducible refine' wpList_makeMap rfl ?_ ?_); exact rfl; intro w2 hM hN hz2; simp only [Act.put, List.setIfInBounds_toArray, List.set_cons_succ, List.set_cons_zero]; replace hM := mapOk_at (seed := seed) hM; have s1 := hb.size; replace hb := hb.trans ((by exact hN : Below _ _ _).mono hb.size); (try replace hkS := Blk.below hkS hN (Blk.lt hkS)); have HZ2 := Lib.hid hz2; clear hz2 hN)
    | (((with_reducible refine' wpList_alloc_blk (cs := [.map none]) 73 rfl ?_ zr_mp ?_ ?_); exact rfl; exact rfl; intro w3 hkC hN hz3; simp only [Act.put, List.setIfInBounds_toArray, List.set_cons_succ, List.set_cons_zero]); have hM3 := hM.below hN; have s2 := hb.size; replace hb := hb.trans ((by exact hN : Below _ _ _).mono hb.size); (try replace hkS := Blk.below hkS hN (Blk.lt hkS)); have HZ3 := Lib.hid hz3; clear hz3 hN)
    | (((with_reducible refine' wpList_set_blk (u := .map (some w1.heap.size)) 73 (.tmp 3) (.tmp 5) rfl ?_ sz_mp ?_ ?_ hkC (Z1.out) ?_ ?_); exact rfl; exact rfl; exact rfl; exact rfl; intro w4 hkC4 hO4 hz4; simp only [Act.put]); clear hz4))
  have hMne := hM3.ne hkC
  have hM4 := hM3.only hO4 hMne
  replace hkS := hO4.blk hkS (by have := HZ1.out; have := HZ2.out; omega)
  replace hb := hb.trans (hO4.below (by omega) hb.size)
  have l4 := hkC4.lt
  clear hO4 hkC hM3 hMne hM
  go_wp2_with (first
    | (((with_reducible refine' wpList_alloc_blk (cs := [.nilFunc]) 45 rfl ?_ zr_fn2 ?_ ?_); exact rfl; exact rfl; intro w5 hkA hN hz5; simp only [Act.put, List.setIfInBounds_toArray, List.set_cons_succ, List.set_cons_zero]); have hM5 := hM4.below hN; have s4 := hb.size; replace hb := hb.trans ((by exact hN : Below _ _ _).mono hb.size); (try replace hkS := Blk.below hkS hN (Blk.lt hkS)); (try replace hkC4 := Blk.below hkC4 hN (Blk.lt hkC4)); clear hz5)
    | (((with_reducible refine' wpList_set_blk (u := .func (.func 44) #[] #[.pointer (some ⟨w2.heap.size, 0, none⟩), .pointer (some ⟨w.heap.size, 0, none⟩), .pointer (some ⟨w4.heap.size, 0, none⟩)]) 45 (.tmp 4) (.tmp 6) rfl ?_ sz_fn2 ?_ ?_ hkA (Z2.out) ?_ ?_); exact rfl; exact rfl; exact rfl; exact rfl; intro w6 hkA6 hO6 hz6; simp only [Act.put]); clear hz6; replace hkA6 : Blk w6 w4.heap.size 45 [atV w2.heap.size w.heap.size w4.heap.size] := hkA6; have A1 := Lib.hid (show ([atV w2.heap.size w.heap.size w4.heap.size] : List Value)[0]? = some (.func (.func 44) #[] #[.pointer (some ⟨w2.heap.size, 0, none⟩), .pointer (some ⟨w.heap.size, 0, none⟩), .pointer (some ⟨w4.heap.size, 0, none⟩)]) from rfl))
    | ((with_reducible refine' wpList_load_blk (.tmp 4) 45 rfl ?_ ld_fn2 ?_ hkA6 (A1.out) ?_); exact rfl; exact rfl; simp only [Act.put, List.setIfInBounds_toArray, List.set_cons_succ, List.set_cons_zero]))
  go_ret
  have e1 := HZ1.out
  have e2 := HZ2.out
  have hb6 := hb.trans (hO6.below (by omega) hb.size)
  exact ⟨w1.heap.size, w2.heap.size, w.heap.size, w4.heap.size, rfl, ⟨hT.below hb6, hM5.only hO6 (hM5.ne hkA), hO6.blk hkC4 (by omega), hO6.blk hkS (by omega), hkA6⟩, hb6, by omega⟩
theorem at_z (seed : List UInt8) (hs : seed.length ≤ 1000000) (M C S A l k : Nat) (z : Int) (hz : z = (k : Int)) (w : World) (hk : (k + 1) * 2 ^ l ≤ 1000) (hl : l ≤ 100) (hE : NEnv w seed M C S A) :
    Calls Tryd.prog 44 #[.int .i64 (l : Int), .int .i64 z, .pointer (some ⟨C, 0, none⟩), .pointer (some ⟨S, 0, none⟩), .pointer (some ⟨A, 0, none⟩)] w fun e w' => e = .returned (.agg (bv (nodeAt seed l k)).toArray) ∧ Grow M seed w w' := by
  subst hz; exact at_any seed hs M C S A l k w hk hl hE
/-- whether a height is valid -/
def okH (h : Int) : Bool := decide (0 ≤ h ∧ h ≤ 6)
theorem valid_any (h : Int) (w : World) :
    Calls Tryd.prog 21 #[.int .i64 h] w fun e w' => e = .returned (.bool (okH h)) ∧ w = w' := by
  unfold okH
  by_cases h1 : 0 ≤ h
  · by_cases h2 : h ≤ 6
    · go_enter Tryd.func21, Tryd.ntmps21
      go_wp2
      go_ret
      exact ⟨by simp [h1, h2], rfl⟩
    · go_enter Tryd.func21, Tryd.ntmps21
      go_wp2
      go_ret
      exact ⟨by simp [h1, h2], rfl⟩
  · go_enter Tryd.func21, Tryd.ntmps21
    go_wp2
    go_ret
    exact ⟨by simp; omega, rfl⟩
theorem nat_ne {n m : Nat} {z : Int} (hz : z = (m : Int)) (h : n ≠ m) : ((n : Int) != z) = true := by subst hz; simp; omega
theorem nat_eq {n m : Nat} {z : Int} (hz : z = (m : Int)) (h : n = m) : ((n : Int) != z) = false := by subst hz; simp [h]
theorem pub_bad {seed : List UInt8} {h : Int} (hb : ¬(seed.length = 32 ∧ 0 ≤ h ∧ h ≤ 6)) : pubV seed h = (zero16, 1) := by unfold pubV; rw [if_neg hb]
theorem pub_good {seed : List UInt8} {h : Int} (hb : seed.length = 32 ∧ 0 ≤ h ∧ h ≤ 6) : pubV seed h = (nodeAt seed h.toNat 0, 0) := by unfold pubV; rw [if_pos hb]
def D2 (x : List UInt8 × Nat) : Value := .tuple #[.agg (bv x.1).toArray, .int .i64 (x.2 : Int)]
set_option maxRecDepth 100000 in
theorem public_any (seed : List UInt8) (h : Int) (w : World) (hT : TabH w) (hs : seed.length ≤ 1000000) :
    Calls Tryd.prog 12 #[.string ⟨seed.toArray⟩, .int .i64 h] w fun e w' => e = .returned (D2 (pubV seed h)) ∧ Below w.heap.size w w' := by
  have hss := size_str seed
  by_cases h32 : seed.length = 32
  · have hne := nat_eq (z := 32) rfl h32
    by_cases hh : 0 ≤ h ∧ h ≤ 6
    · have hv : okH h = true := decide_eq_true hh
      have hgood := Lib.hid (pub_good ⟨h32, hh⟩)
      obtain ⟨l, rfl⟩ : ∃ l : Nat, h = (l : Int) := ⟨h.toNat, by omega⟩
      have hl6 : l ≤ 6 := by omega
      have hpow : (0 + 1) * 2 ^ l ≤ 1000 := by
        have : 2 ^ l ≤ 2 ^ 6 := Nat.pow_le_pow_right (by decide) hl6
        omega
      have HP := Lib.hid hpow
      have NL := Lib.hid (show (bv (nodeAt seed l 0)).length = 16 by rw [bv_length, nodeAt_len])
      clear hh h32 hpow
      go_enter Tryd.func12, Tryd.ntmps12
      go_upto_region 1 with (((with_reducible refine' wpList_alloc_blk (cs := List.replicate 16 (.int .u8 0)) 23 rfl ?_ zr_dig ?_ ?_); exact rfl; exact zeros_u8 16; intro w1 hkR hN1 hz1; simp only [Act.put, List.setIfInBounds_toArray, List.set_cons_succ, List.set_cons_zero]))
      have hT1 := hT.below hN1
      clear hz1
      have hb := hN1
      go_wp2_with (first
        | ((go_at_call 21; (with_reducible refine (valid_any (l : Int) _).mono ?_); rintro e w' ⟨rfl, rfl⟩); rw [hv])
        | ((go_at_call 22; (with_reducible refine (nodes_any seed _ hT1).mono ?_); rintro e w' ⟨M, C, S, A, rfl, hE, hN, hM⟩); unfold atV; have s1 := hb.size; have l1 := hkR.lt; replace hb := hb.trans ((by exact hN : Below _ _ _).mono hb.size); (try replace hkR := Blk.below hkR hN (Blk.lt hkR)))
        | ((go_at_call 44; (with_reducible refine (at_z seed hs M C S A l 0 0 rfl _ HP.out (by omega) hE).mono ?_); rintro e w' ⟨rfl, hG⟩); replace hkR := hG.blk hE.map hkR; have hbG := hb.grown hG.1 hb.size (fun k hk => by cases hk; omega))
        | ((with_reducible refine' wpList_store_blk (cs := bv (nodeAt seed l 0)) 23 (.tmp 4) (.tmp 18) rfl ?_ ?_ ?_ hkR sz_dig ?_ ?_ ?_ ?_); exact rfl; exact rfl; exact rfl; exact NL.out; exact List.length_replicate; exact bv_one _; intro w9 hk9 hO9 hz9; simp only [Act.put]))
      ((try simp only [Exit.inBlock, Exit.then]); refine bodyPost_ret (results_cell_row_tmp rfl _ _ _ _ _ _ _ rfl hk9 Tryd.underlying23 rfl (by rw [sz_dig]; simp [NL.out])) rfl ?_)
      exact ⟨by rw [hgood.out]; rfl, hbG.trans (hO9.below (Nat.le_refl _) hbG.size)⟩
    · have hv : okH h = false := decide_eq_false hh
      have hbad := Lib.hid (pub_bad (seed := seed) (h := h) (fun k => hh k.2))
      clear hh h32
      go_enter Tryd.func12, Tryd.ntmps12
      go_upto_region 1 with (((with_reducible refine' wpList_alloc_blk (cs := List.replicate 16 (.int .u8 0)) 23 rfl ?_ zr_dig ?_ ?_); exact rfl; exact zeros_u8 16; intro w1 hkR hN1 hz1; simp only [Act.put, List.setIfInBounds_toArray, List.set_cons_succ, List.set_cons_zero]))
      clear hz1
      go_wp2_with (first
        | ((go_at_call 21; (with_reducible refine (valid_any h _).mono ?_); rintro e w' ⟨rfl, rfl⟩); rw [hv])
        | ((with_reducible refine' wpList_of_run (o := ⟨_, .build _ _, _, _, _, _⟩) (v := .agg (List.replicate 16 (.int .u8 0)).toArray) (w' := w1) ?_ ?_ ?_); exact rfl; kernel_rfl; simp only [Act.put, List.setIfInBounds_toArray, List.set_cons_succ, List.set_cons_zero])
        | ((with_reducible refine' wpList_store_blk (cs := List.replicate 16 (.int .u8 0)) 23 (.tmp 4) (.tmp 14) rfl ?_ ?_ ?_ hkR sz_dig ?_ ?_ ?_ ?_); exact rfl; exact rfl; exact rfl; exact List.length_replicate; exact List.length_replicate; (intro u hu; rw [List.eq_of_mem_replicate hu]; rfl); intro w9 hk9 hO9 hz9; simp only [Act.put]))
      ((try simp only [Exit.inBlock, Exit.then]); refine bodyPost_ret (results_cell_row_tmp rfl _ _ _ _ _ _ _ rfl hk9 Tryd.underlying23 rfl (by rw [sz_dig]; simp)) rfl ?_)
      exact ⟨by rw [hbad.out]; rfl, hN1.trans (hO9.below (Nat.le_refl _) hN1.size)⟩
  · have hne := nat_ne (z := 32) rfl h32
    have hbad := Lib.hid (pub_bad (seed := seed) (h := h) (fun k => h32 k.1))
    have hv : okH h = okH h := rfl
    clear h32
    go_enter Tryd.func12, Tryd.ntmps12
    go_upto_region 1 with (((with_reducible refine' wpList_alloc_blk (cs := List.replicate 16 (.int .u8 0)) 23 rfl ?_ zr_dig ?_ ?_); exact rfl; exact zeros_u8 16; intro w1 hkR hN1 hz1; simp only [Act.put, List.setIfInBounds_toArray, List.set_cons_succ, List.set_cons_zero]))
    clear hz1
    go_wp2_with (first
      | ((go_at_call 21; (with_reducible refine (valid_any h _).mono ?_); rintro e w' ⟨rfl, rfl⟩); rw [hv])
      | ((with_reducible refine' wpList_of_run (o := ⟨_, .build _ _, _, _, _, _⟩) (v := .agg (List.replicate 16 (.int .u8 0)).toArray) (w' := w1) ?_ ?_ ?_); exact rfl; kernel_rfl; simp only [Act.put, List.setIfInBounds_toArray, List.set_cons_succ, List.set_cons_zero])
      | ((with_reducible refine' wpList_store_blk (cs := List.replicate 16 (.int .u8 0)) 23 (.tmp 4) (.tmp 14) rfl ?_ ?_ ?_ hkR sz_dig ?_ ?_ ?_ ?_); exact rfl; exact rfl; exact rfl; exact List.length_replicate; exact List.length_replicate; (intro u hu; rw [List.eq_of_mem_replicate hu]; rfl); intro w9 hk9 hO9 hz9; simp only [Act.put]))
    ((try simp only [Exit.inBlock, Exit.then]); refine bodyPost_ret (results_cell_row_tmp rfl _ _ _ _ _ _ _ rfl hk9 Tryd.underlying23 rfl (by rw [sz_dig]; simp)) rfl ?_)
    exact ⟨by rw [hbad.out]; rfl, hN1.trans (hO9.below (Nat.le_refl _) hN1.size)⟩
end Go.Proofs.YtajglgkjpagcjaaDoor.Wi
namespace Go.Proofs.YtajglgkjpagcjaaDoor.Wi
open Go Go.RowKit Pu Lb
set_option linter.unusedSimpArgs false
set_option linter.unusedVariables false
attribute [local irreducible] comp sched comps sha outS mac digOf encInts adv startV nodeAt
theorem wrap_pow {l : Nat} (h : l ≤ 6) : wrap64 ((2 : Int) ^ l) = ((2 ^ l : Nat) : Int) := by
  obtain rfl | rfl | rfl | rfl | rfl | rfl | rfl : l = 0 ∨ l = 1 ∨ l = 2 ∨ l = 3 ∨ l = 4 ∨ l = 5 ∨ l = 6 := by omega
  all_goals kernel_rfl
theorem Bd.ne {w : World} {b : Nat} {l : List UInt8} (h : Bd w b l) {k : Nat} {t : TypeId} {cs : List Value} (hk : Blk w k t cs) (ht : t ≠ 54) : k ≠ b := by
  rintro rfl
  unfold Blk at hk
  rcases h with h | h
  all_goals
    obtain ⟨_, v, h2, _⟩ := h
    rw [h2] at hk
    simp at hk
    exact ht hk.2.symm
theorem Bd.grow {w w' : World} {b M : Nat} {l seed : List UInt8} (h : Bd w b l) (hM : MapOk w M seed) (g : Grow M seed w w') : Bd w' b l := by
  have key : ∀ p, Lib.BuilderAt 54 5 b b p (bv l) w → Lib.BuilderAt 54 5 b b p (bv l) w' := by
    intro p hp
    have hlt := hp.lt
    obtain ⟨h1, v, h2, h3, h4⟩ := hp
    obtain ⟨es, clock, hm, _⟩ := hM
    refine ⟨h1, v, ?_, h3.kept g.1 (.inr ?_), h4⟩
    · rw [g.1.block b hlt (by intro e; cases e; rw [h2] at hm; cases hm)]; exact h2
    · rcases h3.2 with ⟨rfl, _⟩ | ⟨q, cap, cur, rfl, _, hg, _⟩
      · simp [Value.ownBlock]
      · simp only [Value.ownBlock]
        intro e
        cases e
        rw [hm] at hg
        cases hg
  rcases h with h | h
  · exact .inl (key _ h)
  · exact .inr (key _ h)
theorem NEnv.low {w w' : World} {seed : List UInt8} {M C S A b : Nat} (h : NEnv w seed M C S A) (hb : Below b w w') (h1 : M < b) (h2 : C < b) (h3 : S < b) (h4 : A < b) (hT : TabH w') : NEnv w' seed M C S A := by
  refine ⟨hT, ?_, h.c.below hb h2, h.s.below hb h3, h.a.below hb h4⟩
  obtain ⟨es, clock, h5, h6⟩ := h.map
  exact ⟨es, clock, by rw [hb.block M h1]; exact h5, h6⟩
theorem MapOk.lt {w : World} {M : Nat} {seed : List UInt8} (h : MapOk w M seed) : M < w.heap.size := by
  obtain ⟨es, clock, h1, _⟩ := h
  exact (Array.getElem?_eq_some_iff.1 h1).1
theorem NEnv.only {w w' : World} {seed : List UInt8} {M C S A B : Nat} (h : NEnv w seed M C S A) (hO : Only B w w') (h1 : M < B) (h2 : C < B) (h3 : S < B) (h4 : A < B) (hT : TabH w') : NEnv w' seed M C S A :=
  ⟨hT, h.map.only hO (by intro e; cases e; omega), hO.blk h.c (by omega), hO.blk h.s (by omega), hO.blk h.a (by omega)⟩
theorem NEnv.rfl {w : World} {seed : List UInt8} {M C S A : Nat} (h : NEnv w seed M C S A) : Grow M seed w w := Grow.of_below h.map (Below.refl _ _)
theorem dg_at {d : List UInt8} (hd : d.length = 16) {c : Nat} (hc : c < 68) : (digs d)[c]? = some (dg (digs d) c) := by
  unfold dg
  rw [List.getD_eq_getElem?_getD]
  have : c < (digs d).length := by rw [digs_len hd]; exact hc
  simp [this]
theorem sib_all : (List.range 64).all (fun n => decide (bits .xor .i64 (n : Int) 1 = ((sib n : Nat) : Int))) = true := by kernel_rfl
theorem sib_xor {n : Nat} (h : n < 64) : bits .xor .i64 (n : Int) 1 = ((sib n : Nat) : Int) := of_decide_eq_true (List.all_eq_true.1 sib_all n (List.mem_range.2 h))
theorem sib_le (n : Nat) : sib n ≤ n + 1 := by unfold sib; split <;> omega
theorem sib_bd {i l j : Nat} (hi : i < 2 ^ l) (hj : j < l) (hl : l ≤ 6) : (sib (i / 2 ^ j) + 1) * 2 ^ j ≤ 1000 := by
  have h1 := sib_le (i / 2 ^ j)
  have h2 : 2 ^ l ≤ 2 ^ 6 := Nat.pow_le_pow_right (by decide) hl
  have h3 : 2 ^ j ≤ 2 ^ 6 := Nat.pow_le_pow_right (by decide) (by omega)
  have h4 : i / 2 ^ j * 2 ^ j ≤ i := Nat.div_mul_le_self _ _
  have h5 : (sib (i / 2 ^ j) + 1) * 2 ^ j ≤ (i / 2 ^ j + 2) * 2 ^ j := Nat.mul_le_mul_right _ (by omega)
  have h6 : (i / 2 ^ j + 2) * 2 ^ j = i / 2 ^ j * 2 ^ j + 2 * 2 ^ j := Nat.add_mul _ _ _
  omega
theorem sign_short {seed m : List UInt8} {h i : Int} (hb : ¬(seed.length = 32 ∧ 0 ≤ h ∧ h ≤ 6)) : signV seed h i m = ([], 1) := by unfold signV; rw [if_neg hb]
theorem sign_spent {seed m : List UInt8} {h i : Int} (hb : seed.length = 32 ∧ 0 ≤ h ∧ h ≤ 6) (h2 : i < 0 ∨ 2 ^ h.toNat ≤ i) : signV seed h i m = ([], 20) := by unfold signV; rw [if_pos hb, if_pos h2]
theorem sign_long {seed m : List UInt8} {h i : Int} (hb : seed.length = 32 ∧ 0 ≤ h ∧ h ≤ 6) (h2 : ¬(i < 0 ∨ 2 ^ h.toNat ≤ i)) (h3 : 1048576 < m.length) : signV seed h i m = ([], 4) := by unfold signV; rw [if_pos hb, if_neg h2, if_pos h3]
theorem sign_good {seed m : List UInt8} {h i : Int} (hb : seed.length = 32 ∧ 0 ≤ h ∧ h ≤ 6) (h2 : ¬(i < 0 ∨ 2 ^ h.toNat ≤ i)) (h3 : ¬1048576 < m.length) : signV seed h i m = (sigV seed h.toNat i.toNat m, 0) := by unfold signV; rw [if_pos hb, if_neg h2, if_neg h3]
def chainV (seed : List UInt8) (i : Nat) (ds : List Nat) (c : Nat) : List UInt8 := adv i c 0 (dg ds c) (startV seed i c)
theorem chainV_len (seed : List UInt8) (i : Nat) (ds : List Nat) (c : Nat) : (chainV seed i ds c).length = 16 := adv_len _ _ _ _ (startV_len _ _ _)
theorem sigV_eq (seed : List UInt8) (h i : Nat) (m : List UInt8) : sigV seed h i m = enc i ++ vals (chainV seed i (digs (msgD (nodeAt seed h 0) i m))) 68 ++ vals (fun l => nodeAt seed l (sib (i / 2 ^ l))) h := rfl
def S2 (x : List UInt8 × Nat) : Value := .tuple #[.string ⟨x.1.toArray⟩, .int .i64 (x.2 : Int)]

set_option maxRecDepth 100000 in
set_option maxHeartbeats 1000000 in
theorem sign_main (seed m : List UInt8) (l ix : Nat) (w : World) (hT : TabH w) (h32 : seed.length = 32) (hl6 : l ≤ 6) (hi : ix < 2 ^ l) (hm : m.length ≤ 1048576) :
    Calls Tryd.prog 14 #[.string ⟨seed.toArray⟩, .int .i64 (l : Int), .int .i64 (ix : Int), .string ⟨m.toArray⟩] w fun e w' => e = .returned (S2 (sigV seed l ix m, 0)) ∧ Below w.heap.size w w' := by
  have hss := size_str seed
  have hsm := size_str m
  have hs : seed.length ≤ 1000000 := by omega
  have hne := nat_eq (z := 32) rfl h32
  have hv : okH (l : Int) = true := decide_eq_true (by omega)
  have hpw := wrap_pow hl6
  have hp6 : 2 ^ l ≤ 2 ^ 6 := Nat.pow_le_pow_right (by decide) hl6
  have HP0 := Lib.hid (show (0 + 1) * 2 ^ l ≤ 1000 by omega)
  obtain ⟨K, hK⟩ : ∃ K : Nat, 2 ^ l = K := ⟨_, rfl⟩
  have HI := Lib.hid hi
  rw [hK] at hpw hi hp6
  have hK64 : K ≤ 64 := hp6
  have I0 := Lib.hid (i64_nat (show ix ≤ 1000000 by omega))
  have II := Lib.hid I0.out.1
  have II2 := Lib.hid I0.out.2
  have EL := Lib.hid (enc_len_bd I0.out.1 I0.out.2)
  have NL := Lib.hid (nodeAt_len seed l 0)
  have ML := Lib.hid (msgD_len (nodeAt seed l 0) ix m)
  have SE := Lib.hid (sigV_eq seed l ix m)
  obtain ⟨dm, hdm⟩ : ∃ dm, msgD (nodeAt seed l 0) ix m = dm := ⟨_, rfl⟩
  rw [hdm] at ML SE
  have HDM := Lib.hid hdm
  clear hdm hK hp6 h32
  go_enter Tryd.func14, Tryd.ntmps14
  go_upto_region 10 with (first
    | ((go_at_call 21; (with_reducible refine (valid_any (l : Int) _).mono ?_); rintro e w' ⟨rfl, rfl⟩); rw [hv])
    | ((go_at_call 22; (with_reducible refine (nodes_any seed _ hT).mono ?_); rintro e w' ⟨M, C, S, A, rfl, hE, hb, hM⟩); unfold atV; obtain ⟨wn, rfl⟩ : ∃ wn : World, wn = w' := ⟨_, rfl⟩)
    | (((with_reducible refine' wpList_alloc_blk (cs := [.pointer none, .slice none 0 0]) 54 rfl ?_ zr_sb ?_ ?_); exact rfl; exact rfl; intro w2 hkS hN hz2; simp only [Act.put, List.setIfInBounds_toArray, List.set_cons_succ, List.set_cons_zero]); have hBd : Bd w2 wn.heap.size [] := bd_fresh wn w2 hkS; have hE2 := hE.below hN; have s1 := hb.size; have l1 := hE.map.lt; have l2 := hE.c.lt; have l3 := hE.s.lt; have l4 := hE.a.lt; replace hb := hb.trans ((by exact hN : Below _ _ _).mono hb.size); clear hz2 hkS)
    | ((go_at_call 26; (with_reducible refine (int_any (ix : Int) _ II.out II2.out).mono ?_); rintro e w' ⟨v3, rfl, ho3, hN⟩); have hE3 := hE2.below hN; have hB3 := hBd.below hN; have hr3 := Rd.of_own ho3; replace hb := hb.trans ((by exact hN : Below _ _ _).mono hb.size))
    | ((go_at_call 25; (with_reducible refine (bwrite_any _ [] v3 _ (enc (ix : Int)) _ hB3 hr3 (by rw [List.length_nil]; have := EL.out; omega)).mono ?_); rintro e w' ⟨rfl, hB4, hN, hF⟩); replace hb := hb.trans (hN.mono (by omega)); have hE4 := hE3.low hN l1 l2 l3 l4 (hT.below hb)))
  obtain ⟨b, hbb⟩ : ∃ b, wn.heap.size = b := ⟨_, rfl⟩
  rw [hbb] at hB4 l1 l2 l3 l4 s1 ⊢
  obtain ⟨w4, rfl⟩ : ∃ w4 : World, w4 = w' := ⟨_, rfl⟩
  rw [List.nil_append] at hB4
  have lb := hB4.lt
  clear hN hF hE hE2 hE3 hBd hB3 hr3 ho3 hbb
  go_wp2_with (first
    | ((go_at_call 44; (with_reducible refine (at_z seed hs M C S A l 0 0 rfl _ HP0.out (by omega) hE4).mono ?_); rintro e w' ⟨rfl, hG⟩); have hE5 := hE4.grow hG; have hB5 := hB4.grow hE4.map hG; replace hb := hb.grown hG.1 hb.size (fun k hk => by cases hk; omega); have hT5 := hT.below hb)
    | ((go_at_call 16; (with_reducible refine (msg_any (nodeAt seed l 0) (ix : Int) m _ hT5 NL.out I0.out (by omega)).mono ?_); rintro e w' ⟨rfl, hN⟩); rw [HDM.out]; have hE6 := hE5.below hN; have hB6 := hB5.below hN; replace hb := hb.trans ((by exact hN : Below _ _ _).mono hb.size))
    | ((go_at_call 10; (with_reducible refine (digits_any dm _ ML.out).mono ?_); rintro e w' ⟨BD, rfl, hkD, hN⟩); have hE7 := hE6.below hN; have hB7 := hB6.below hN; replace hb := hb.trans ((by exact hN : Below _ _ _).mono hb.size); have hrd := digs_rd hkD ML.out)
    | ((with_reducible refine' wpList_len_rd (.tmp 50) 25 rfl ?_ Tryd.underlying25 ?_ hrd ?_); exact rfl; exact rfl; simp only [Act.put, List.setIfInBounds_toArray, List.set_cons_succ, List.set_cons_zero]))
  have hDb := hB7.ne hkD (by decide)
  obtain ⟨e0, he0⟩ : ∃ e0, enc (ix : Int) = e0 := ⟨_, rfl⟩
  rw [he0] at hB7 EL SE
  have HE0 := Lib.hid he0
  clear he0 hE4 hE5 hE6 hB4 hB5 hB6 hrd hG hT5 hN
  have hls : e0.length ≤ 9 := EL.out.2
  go_loopw [52] (fun c wr => ∃ j : Nat, j ≤ 68 ∧ c = .int .i64 (j : Int) ∧ Bd wr b (e0 ++ vals (chainV seed ix (digs dm)) j) ∧ Blk wr BD 43 (nv (digs dm)) ∧ NEnv wr seed M C S A ∧ Below w.heap.size w wr) (fun c _ => 68 - (intOf c).toNat)
  case atStart => exact ⟨0, by omega, rfl, by rw [vals_zero, List.append_nil]; exact hB7, hkD, hE7, hb⟩
  case round =>
    obtain ⟨j, hj, rfl, hB, hkD, hE, hb⟩ := hrel
    have hvl := vals_len (f := chainV seed ix (digs dm)) (n := j) (fun c _ => chainV_len _ _ _ _)
    by_cases hlt : j < 68
    · obtain ⟨wo, rfl⟩ : ∃ wo : World, wo = wr := ⟨_, rfl⟩
      have JI := Lib.hid (i64_nat (show j ≤ 1000000 by omega))
      have hd3 := dg_le ML.out j
      have X := Lib.hid (nv_at (dg_at ML.out hlt))
      have CV := Lib.hid (show adv (ix : Int) (j : Int) 0 (dg (digs dm) j - 0) (startV seed ix j) = chainV seed ix (digs dm) j from rfl)
      obtain ⟨q, hq⟩ : ∃ q, dg (digs dm) j = q := ⟨_, rfl⟩
      rw [hq] at hd3 X CV
      have S16 := Lib.hid (startV_len seed ix j)
      have F16 := Lib.hid (show (bv (chainV seed ix (digs dm) j)).length = 16 by rw [bv_length, chainV_len])
      have VS := Lib.hid (vals_succ (chainV seed ix (digs dm)) j)
      have BND := Lib.hid (show (e0 ++ vals (chainV seed ix (digs dm)) j).length + 16 ≤ 140737488351232 by rw [List.length_append]; omega)
      have hrd := digs_rd hkD ML.out
      have lB := hB.lt
      clear hq hvl
      go_wp2_with (first
        | ((with_reducible refine' wpList_at1_rd (.tmp 50) (.tmp 52) 25 rfl ?_ Tryd.underlying25 sz_int ?_ hrd (j) ?_ ?_ ?_); exact rfl; exact rfl; (show (_ : Int) = _; omega); omega; simp only [Act.put, List.setIfInBounds_toArray, List.set_cons_succ, List.set_cons_zero]) | ((with_reducible refine' wpList_load_rd (.tmp 55) 3 rfl ?_ ld_int ?_ hrd (X.out) ?_); exact rfl; exact rfl; simp only [Act.put, List.setIfInBounds_toArray, List.set_cons_succ, List.set_cons_zero])
        | ((go_at_call 28; (with_reducible refine (start_any seed ix j _ hE.tab I0.out JI.out hs).mono ?_); rintro e w' ⟨rfl, hN⟩); have hE2 := hE.below hN; have hB2 := hB.below hN; replace hb := hb.trans ((by exact hN : Below _ _ _).mono hb.size); (try replace hkD := Blk.below hkD hN (Blk.lt hkD)))
        | ((go_at_call 27; (with_reducible refine (advance_z ix j 0 q 0 q rfl rfl _ _ hE2.tab I0.out JI.out (by omega) (by omega) S16.out).mono ?_); rintro e w' ⟨rfl, hN⟩); rw [CV.out]; have hE3 := hE2.below hN; have hB3 := hB2.below hN; replace hb := hb.trans ((by exact hN : Below _ _ _).mono hb.size); (try replace hkD := Blk.below hkD hN (Blk.lt hkD)))
        | (((with_reducible refine' wpList_alloc_blk (cs := List.replicate 16 (.int .u8 0)) 23 rfl ?_ zr_dig ?_ ?_); exact rfl; exact zeros_u8 16; intro w3 hk3 hN hz3; simp only [Act.put, List.setIfInBounds_toArray, List.set_cons_succ, List.set_cons_zero]); have hs3 := hb.size; have lD := hkD.lt; have lB3 := hB3.lt; have hE4 := hE3.below hN; have hB4 := hB3.below hN; replace hb := hb.trans ((by exact hN : Below _ _ _).mono hb.size); (try replace hkD := Blk.below hkD hN (Blk.lt hkD)); have hMn := hE4.map.ne hk3; clear hz3)
        | (((with_reducible refine' wpList_store_blk (cs := bv (chainV seed ix (digs dm) j)) 23 (.tmp 14) (.tmp 64) rfl ?_ ?_ ?_ hk3 sz_dig ?_ ?_ ?_ ?_); exact rfl; exact rfl; exact rfl; exact F16.out; exact List.length_replicate; exact bv_one _; intro w4 hk4 hO4 hz4; simp only [Act.put]); clear hz4; have hB5 := Bd.only hO4 hB4 (by omega) hk3; replace hkD := hO4.blk hkD (by omega); replace hb := hb.trans (hO4.below (by omega) hb.size); have hE5 := hE4.only hO4 (by omega) (by omega) (by omega) (by omega) (hT.below hb); have hr4 := hk4.rd 0 16 16 1 (by rw [F16.out]; decide) (Nat.le_refl _) (by unfold maxLen; omega); rw [List.drop_zero, List.take_of_length_le (by rw [F16.out]; decide)] at hr4)
        | ((with_reducible refine' wpList_arr_all (B := w'.heap.size) (f := 0) (.tmp 14) 23 rfl ?_ Tryd.underlying23 sz_u8 ?_ ?_); exact rfl; exact rfl; simp only [Act.put, List.setIfInBounds_toArray, List.set_cons_succ, List.set_cons_zero])
        | ((go_at_call 25; (with_reducible refine (bwrite_any _ _ _ 16 (chainV seed ix (digs dm) j) _ hB5 hr4 BND.out).mono ?_); rintro e w' ⟨rfl, hB6, hN, hF⟩); replace hkD := hF _ _ _ hkD hDb (by decide); replace hb := hb.trans (hN.mono (by omega)); have hE6 := hE5.low hN l1 l2 l3 l4 (hT.below hb)))
      go_roundw
      case rel =>
        (repeat apply Exists.intro)
        refine ⟨⟨j + 1, by omega, by go_num, hB6.cast (by rw [List.append_assoc, ← VS.out]), hkD, hE6, hb⟩, rfl⟩
      case measure => simp [intOf]; omega
    · obtain rfl : j = 68 := by omega
      obtain ⟨e1, he1⟩ : ∃ e1, e0 ++ vals (chainV seed ix (digs dm)) 68 = e1 := ⟨_, rfl⟩
      have hl1 : e1.length ≤ 2000 := by rw [← he1, List.length_append]; omega
      have hl2 : 1 ≤ e1.length := by rw [← he1, List.length_append]; omega
      rw [he1] at hB
      have HE1 := Lib.hid he1
      have hSE := SE.out
      rw [he1] at hSE
      have SE1 := Lib.hid hSE
      clear he1 hvl hkD hDb hSE
      go_wp2_with fail
      go_loopw [69] (fun c wr => ∃ j : Nat, j ≤ l ∧ c = .int .i64 (j : Int) ∧ Bd wr b (e1 ++ vals (fun l => nodeAt seed l (sib (ix / 2 ^ l))) j) ∧ NEnv wr seed M C S A ∧ Below w.heap.size w wr) (fun c _ => l - (intOf c).toNat)
      case atStart => exact ⟨0, by omega, rfl, by rw [vals_zero, List.append_nil]; exact hB, hE, hb⟩
      case round =>
        obtain ⟨j, hj, rfl, hB, hE, hb⟩ := hrel
        have hvl := vals_len (f := fun l => nodeAt seed l (sib (ix / 2 ^ l))) (n := j) (fun c _ => nodeAt_len _ _ _)
        by_cases hlt : j < l
        · obtain ⟨wo, rfl⟩ : ∃ wo : World, wo = wr := ⟨_, rfl⟩
          have hq64 : ix / 2 ^ j < 64 := Nat.lt_of_le_of_lt (Nat.div_le_self _ _) (by omega)
          have hx := sib_xor hq64
          have hsb := sib_bd HI.out hlt hl6
          have hcast : (ix : Int) / 2 ^ j = ((ix / 2 ^ j : Nat) : Int) := by norm_cast
          have VS := Lib.hid (vals_succ (fun l => nodeAt seed l (sib (ix / 2 ^ l))) j)
          obtain ⟨s, hsj⟩ : ∃ s, sib (ix / 2 ^ j) = s := ⟨_, rfl⟩
          rw [hsj] at VS
          have NJ := Lib.hid (nodeAt_len seed j s)
          rw [hsj] at hx hsb
          rw [← hcast] at hx
          have HSB := Lib.hid hsb
          have BND := Lib.hid (show (e1 ++ vals (fun l => nodeAt seed l (sib (ix / 2 ^ l))) j).length + 16 ≤ 140737488351232 by rw [List.length_append]; omega)
          have lB := hB.lt
          have F16 := Lib.hid (show (bv (nodeAt seed j s)).length = 16 by rw [bv_length, nodeAt_len])
          clear hvl hsj hsb hcast hq64
          go_wp2_with (first
            | ((go_at_call 44; (with_reducible refine (at_any seed hs M C S A j s _ HSB.out (by omega) hE).mono ?_); rintro e w' ⟨rfl, hG⟩); have hE3 := hE.grow hG; have hB3 := hB.grow hE.map hG; replace hb := hb.grown hG.1 hb.size (fun k hk => by cases hk; omega))
            | (((with_reducible refine' wpList_alloc_blk (cs := List.replicate 16 (.int .u8 0)) 23 rfl ?_ zr_dig ?_ ?_); exact rfl; exact zeros_u8 16; intro w3 hk3 hN hz3; simp only [Act.put, List.setIfInBounds_toArray, List.set_cons_succ, List.set_cons_zero]); have hs3 := hb.size; have lB3 := hB3.lt; have hE4 := hE3.below hN; have hB4 := hB3.below hN; replace hb := hb.trans ((by exact hN : Below _ _ _).mono hb.size); clear hz3)
            | (((with_reducible refine' wpList_store_blk (cs := bv (nodeAt seed j s)) 23 (.tmp 16) (.tmp 78) rfl ?_ ?_ ?_ hk3 sz_dig ?_ ?_ ?_ ?_); exact rfl; exact rfl; exact rfl; exact F16.out; exact List.length_replicate; exact bv_one _; intro w4 hk4 hO4 hz4; simp only [Act.put]); clear hz4; have hB5 := Bd.only hO4 hB4 (by omega) hk3; replace hb := hb.trans (hO4.below (by omega) hb.size); have hE5 := hE4.only hO4 (by omega) (by omega) (by omega) (by omega) (hT.below hb); have hr4 := hk4.rd 0 16 16 1 (by rw [F16.out]; decide) (Nat.le_refl _) (by unfold maxLen; omega); rw [List.drop_zero, List.take_of_length_le (by rw [F16.out]; decide)] at hr4)
            | ((with_reducible refine' wpList_arr_all (B := w'.heap.size) (f := 0) (.tmp 16) 23 rfl ?_ Tryd.underlying23 sz_u8 ?_ ?_); exact rfl; exact rfl; simp only [Act.put, List.setIfInBounds_toArray, List.set_cons_succ, List.set_cons_zero])
            | ((go_at_call 25; (with_reducible refine (bwrite_any _ _ _ 16 (nodeAt seed j s) _ hB5 hr4 BND.out).mono ?_); rintro e w' ⟨rfl, hB6, hN, hF⟩); replace hb := hb.trans (hN.mono (by omega)); have hE6 := hE5.low hN l1 l2 l3 l4 (hT.below hb)))
          go_roundw
          case rel =>
            (repeat apply Exists.intro)
            refine ⟨⟨j + 1, by omega, by go_num, hB6.cast (by rw [List.append_assoc, ← VS.out]), hE6, hb⟩, rfl⟩
          case measure => simp [intOf]; omega
        · obtain rfl : j = l := by omega
          have SE2 := SE1.out
          obtain ⟨e2, he2⟩ : ∃ e2, e1 ++ vals (fun l => nodeAt seed l (sib (ix / 2 ^ l))) j = e2 := ⟨_, rfl⟩
          rw [he2] at hB SE2
          have hne2 : e2 ≠ [] := by
            intro h
            have h1 : e2.length = 0 := by rw [h]; rfl
            rw [← he2, List.length_append] at h1
            omega
          have SE3 := Lib.hid SE2
          clear SE2 he2 hvl
          go_wp2_with ((go_at_call 29; (with_reducible refine (bstring_any _ e2 _ hB hne2).mono ?_); rintro e w' ⟨rfl, hN⟩); replace hb := hb.trans (hN.mono (by omega)))
          go_ret2
          exact ⟨by rw [SE3.out]; rfl, hb⟩
theorem k_ge {i : Int} {K : Nat} (h : (K : Int) ≤ i) : 0 ≤ i := by omega
set_option maxRecDepth 100000 in
theorem sign_any (seed m : List UInt8) (h i : Int) (w : World) (hT : TabH w) (hs : seed.length ≤ 1000000) (hm : m.length ≤ 140737488355328) :
    Calls Tryd.prog 14 #[.string ⟨seed.toArray⟩, .int .i64 h, .int .i64 i, .string ⟨m.toArray⟩] w fun e w' => e = .returned (S2 (signV seed h i m)) ∧ Below w.heap.size w w' := by
  have hss := size_str seed
  have hsm := size_str m
  by_cases hg : seed.length = 32 ∧ 0 ≤ h ∧ h ≤ 6
  · obtain ⟨h32, h0, h6⟩ := hg
    obtain ⟨l, rfl⟩ : ∃ l : Nat, h = (l : Int) := ⟨h.toNat, by omega⟩
    have hl6 : l ≤ 6 := by omega
    have hne := nat_eq (z := 32) rfl h32
    have hv : okH (l : Int) = true := decide_eq_true (by omega)
    have hpw := wrap_pow hl6
    by_cases hsp : i < 0 ∨ 2 ^ (l : Int).toNat ≤ i
    · have HB := Lib.hid (sign_spent (m := m) ⟨h32, h0, h6⟩ hsp)
      obtain ⟨K, hK⟩ : ∃ K : Nat, 2 ^ l = K := ⟨_, rfl⟩
      have hsp2 : i < 0 ∨ (K : Int) ≤ i := by
        rcases hsp with h | h
        · exact .inl h
        · right; rw [← hK]; push_cast; simpa using h
      rw [hK] at hpw
      clear hsp hK h32
      by_cases hi0 : i < 0
      · go_enter Tryd.func14, Tryd.ntmps14
        go_wp2_with ((go_at_call 21; (with_reducible refine (valid_any (l : Int) _).mono ?_); rintro e w' ⟨rfl, rfl⟩); rw [hv])
        go_ret2
        exact ⟨by rw [HB.out]; rfl, Below.refl _ _⟩
      · have hi1 : (K : Int) ≤ i := hsp2.resolve_left hi0
        have hi2 : 0 ≤ i := by omega
        clear hsp2 hi0
        go_enter Tryd.func14, Tryd.ntmps14
        go_wp2_with ((go_at_call 21; (with_reducible refine (valid_any (l : Int) _).mono ?_); rintro e w' ⟨rfl, rfl⟩); rw [hv])
        go_ret2
        exact ⟨by rw [HB.out]; rfl, Below.refl _ _⟩
    · by_cases hlong : 1048576 < m.length
      · have HB := Lib.hid (sign_long ⟨h32, h0, h6⟩ hsp hlong)
        obtain ⟨K, hK⟩ : ∃ K : Nat, 2 ^ l = K := ⟨_, rfl⟩
        have hi0 : 0 ≤ i := by omega
        have hi1 : i < (K : Int) := by
          rw [← hK]; push_cast
          have := fun h => hsp (.inr h)
          simpa using this
        rw [hK] at hpw
        clear hsp hK h32
        go_enter Tryd.func14, Tryd.ntmps14
        go_wp2_with ((go_at_call 21; (with_reducible refine (valid_any (l : Int) _).mono ?_); rintro e w' ⟨rfl, rfl⟩); rw [hv])
        go_ret2
        exact ⟨by rw [HB.out]; rfl, Below.refl _ _⟩
      · have hGd := sign_good (m := m) ⟨h32, h0, h6⟩ hsp hlong
        obtain ⟨ix, rfl⟩ : ∃ ix : Nat, i = (ix : Int) := ⟨i.toNat, by omega⟩
        have hi : ix < 2 ^ l := by
          have : ¬(2 ^ (l : Int).toNat ≤ (ix : Int)) := fun h => hsp (.inr h)
          simp at this
          exact_mod_cast this
        rw [hGd]
        exact sign_main seed m l ix w hT h32 hl6 hi (by omega)
  · have HB := Lib.hid (sign_short (m := m) (i := i) hg)
    by_cases h32 : seed.length = 32
    · have hne := nat_eq (z := 32) rfl h32
      have hv : okH h = false := decide_eq_false fun k => hg ⟨h32, k⟩
      clear hg h32
      go_enter Tryd.func14, Tryd.ntmps14
      go_wp2_with ((go_at_call 21; (with_reducible refine (valid_any h _).mono ?_); rintro e w' ⟨rfl, rfl⟩); rw [hv])
      go_ret2
      exact ⟨by rw [HB.out]; rfl, Below.refl _ _⟩
    · have hne := nat_ne (z := 32) rfl h32
      clear hg h32
      go_enter Tryd.func14, Tryd.ntmps14
      go_wp2_with fail
      go_ret2
      exact ⟨by rw [HB.out]; rfl, Below.refl _ _⟩
end Go.Proofs.YtajglgkjpagcjaaDoor.Wi
