/-
  Tp, Tq, Tst, Bn: my texts of these names, one behind the other. Conditions: those that each law names.
-/
import Derived.Test.YtdlhkhnoigbhjaaDoorMe
import Derived.Test.YtdlhkhnoigbhjaaDoorMa
namespace Go.Proofs.YtdlhkhnoigbhjaaDoor.Pu
theorem tpathsF_app : ∀ (o : Nat) (a b : List Tree), tpathsF o (a ++ b) = tpathsF o a ++ tpathsF (o + a.length) b
  | o, [], b => by rw [tpathsF]; simp
  | o, t :: a, b => by
    rw [List.cons_append, tpathsF, tpathsF, tpathsF_app (o + 1) a b, List.append_assoc, List.length_cons]
    congr 2
    congr 1; omega
theorem tpathsF_take {ts : List Tree} {i : Nat} {t : Tree} (h : ts[i]? = some t) : tpathsF 0 (ts.take (i + 1)) = tpathsF 0 (ts.take i) ++ (tpaths t).map (((i : Nat) : Int) :: ·) := by
  have hi := (List.getElem?_eq_some_iff.1 h).1
  have hx := (List.getElem?_eq_some_iff.1 h).2
  rw [List.take_succ_eq_append_getElem hi, hx, tpathsF_app, tpathsF, tpathsF, List.append_nil, List.length_take, Nat.min_eq_left (by omega), Nat.zero_add]
mutual
theorem tpaths_short : ∀ (t : Tree), ∀ p ∈ tpaths t, p.length < tsize t
  | .mk _ _ _ ts, p, h => by
    rw [tpaths, List.mem_cons] at h
    rw [tsize]
    rcases h with rfl | h
    · simp; omega
    · have := tpathsF_short 0 ts p h; omega
theorem tpathsF_short : ∀ (o : Nat) (ts : List Tree), ∀ p ∈ tpathsF o ts, p.length ≤ tsizes ts
  | _, [], p, h => by rw [tpathsF] at h; cases h
  | o, t :: ts, p, h => by
    rw [tpathsF, List.mem_append] at h
    rw [tsizes]
    rcases h with h | h
    · obtain ⟨q, hq, rfl⟩ := List.mem_map.1 h
      have := tpaths_short t q hq
      rw [List.length_cons]; omega
    · have := tpathsF_short (o + 1) ts p h; omega
end
end Go.Proofs.YtdlhkhnoigbhjaaDoor.Pu
namespace Go.Proofs.YtdlhkhnoigbhjaaDoor.Lb
open Go Go.RowKit Go.Lib Pu
section
variable {P : Program} {ops : Array Oper} {Q : Exit → Act → World → Prop} {a : Act} {w : World} {rest : List Oper} {o : Oper}
/-- '[]T{x}', one cell, as a row of the call's own -/
theorem wpList_build_own (x : Operand) (t : TypeId) (ho : o.op = .buildSlice t 1 #[(0, x)]) (hw : Region.wanted o (yielded ops a.tmps) = true) {e : TypeId} (ht : P.underlying t = some (.slice e)) {z : Value} {bytes : Nat} (hinfo : (P.info? e).map (fun i => (i.zero, i.size, i.bytes)) = some (some z, 1, bytes))
    {u : Value} (hx : a.eval x = u) (h1 : u.oneCell' = true)
    (h : ∀ v' w', w'.ownsRow w.heap.size e 1 v' 1 [u] → Below w.heap.size w w' → w'.heap.size = w.heap.size + 1 → wpList P ops Q rest (a.put o.dst v') w') : wpList P ops Q (o :: rest) a w := by
  obtain ⟨i, hi, hz, hsz, hby⟩ := info_parts hinfo
  have hcells : u.cells = #[u] := by cases u <;> simp_all [Value.cells, Value.oneCell']
  have hf : Instr.fill (fun i => some (i * 1, 1)) ((Array.range (1 * 1)).map (z.cells[· % z.cells.size]!)) [(0, a.eval x)] = some #[u] := by
    have hzz : ((Array.range (1 * 1)).map (z.cells[· % z.cells.size]!)).size = 1 := by simp
    obtain ⟨zs, hzs'⟩ : ∃ zs : List Value, ((Array.range (1 * 1)).map (z.cells[· % z.cells.size]!)) = zs.toArray := ⟨_, (Array.toArray_toList).symm⟩
    rw [hzs'] at hzz ⊢
    have hzl : zs.length = 1 := by simpa using hzz
    obtain ⟨z0, rfl⟩ := List.length_eq_one_iff.1 hzl
    simp [Instr.fill, hx, hcells]
  refine wpList_of_run hw (v := .slice (some ⟨w.heap.size, 0, none⟩) 1 1) (w' := w.alloc (.cells #[u] e)) ?_ (h _ _ ?_ ((Below.refl _ _).alloc (Nat.le_refl _) _) (by simp))
  · unfold execOp
    simp only [ho, Instr.buildSlice, List.map_toArray, List.map_cons, List.map_nil, Sem.run_bind, run_underlying ht, Result.andThen_ok]
    simp only [sizeOf, typeInfo]
    simp [hsz, zeroValue, typeInfo, hi, hz]
    simp only [Nat.mul_one] at hf
    rw [hf]
    simp [newRow]
  · exact own_lit w e [u] (by unfold maxLen; simp)
end
theorem inf_ints : (Tryd.prog.info? 22).map (fun i => (i.zero, i.size, i.bytes)) = some (some (.slice none 0 0), 1, 24) := by kernel_rfl
theorem sz_ints : (Tryd.prog.info? 22).map (·.size) = some 1 := by kernel_rfl
end Go.Proofs.YtdlhkhnoigbhjaaDoor.Lb
namespace Go.Proofs.YtdlhkhnoigbhjaaDoor.Wi
open Go Go.RowKit Pu Lb
set_option linter.unusedSimpArgs false
set_option linter.unusedVariables false
/-- a list of places: the cells that hold its slices -/
def IsPs (X : Nat → Prop) (w : World) (ps : List (List Int)) (vs : List Value) : Prop :=
  vs.length = ps.length ∧ ∀ (i : Nat) (p : List Int), ps[i]? = some p → ∃ u, vs[i]? = some u ∧ u.oneCell' = true ∧ RdX X w 1 u p.length (iv p)
theorem IsPs.nil {X : Nat → Prop} {w : World} : IsPs X w [] [] := ⟨rfl, fun i p h => by simp at h⟩
theorem IsPs.mono {X Y : Nat → Prop} {w : World} {ps : List (List Int)} {vs : List Value} (h : IsPs X w ps vs) (hXY : ∀ b, X b → Y b) : IsPs Y w ps vs :=
  ⟨h.1, fun i p hp => by obtain ⟨u, h1, h2, h3⟩ := h.2 i p hp; exact ⟨u, h1, h2, h3.mono hXY⟩⟩
theorem IsPs.keep {X : Nat → Prop} {w w' : World} {ps : List (List Int)} {vs : List Value} (h : IsPs X w ps vs) (hk : Keep X w w') : IsPs X w' ps vs :=
  ⟨h.1, fun i p hp => by obtain ⟨u, h1, h2, h3⟩ := h.2 i p hp; exact ⟨u, h1, h2, h3.keep hk⟩⟩
theorem IsPs.lt {X : Nat → Prop} {w : World} {ps : List (List Int)} {vs : List Value} (h : IsPs X w ps vs) : IsPs (fun b => X b ∧ b < w.heap.size) w ps vs :=
  ⟨h.1, fun i p hp => by obtain ⟨u, h1, h2, h3⟩ := h.2 i p hp; exact ⟨u, h1, h2, h3.lt (by decide)⟩⟩
theorem IsPs.below {X : Nat → Prop} {w w' : World} {ps : List (List Int)} {vs : List Value} (h : IsPs X w ps vs) (hb : Below w.heap.size w w') : IsPs X w' ps vs := h.keep (Keep.below hb)
theorem IsPs.app {X : Nat → Prop} {w : World} {ps qs : List (List Int)} {vs us : List Value} (h : IsPs X w ps vs) (h2 : IsPs X w qs us) : IsPs X w (ps ++ qs) (vs ++ us) := by
  refine ⟨by rw [List.length_append, List.length_append, h.1, h2.1], fun i p hp => ?_⟩
  by_cases hi : i < ps.length
  · rw [List.getElem?_append_left hi] at hp
    obtain ⟨u, h1, h3⟩ := h.2 i p hp
    exact ⟨u, by rw [List.getElem?_append_left (by rw [h.1]; exact hi)]; exact h1, h3⟩
  · rw [List.getElem?_append_right (by omega)] at hp
    obtain ⟨u, h1, h3⟩ := h2.2 _ p hp
    exact ⟨u, by rw [List.getElem?_append_right (by rw [h.1]; omega), h.1]; exact h1, h3⟩
theorem IsPs.one {X : Nat → Prop} {w : World} {p : List Int} {u : Value} (h1 : u.oneCell' = true) (h : RdX X w 1 u p.length (iv p)) : IsPs X w [p] [u] := by
  refine ⟨rfl, fun i q hq => ?_⟩
  cases i with
  | zero => simp only [List.getElem?_cons_zero, Option.some.injEq] at hq; subst hq; exact ⟨u, rfl, h1, h⟩
  | succ i => simp at hq
theorem rdx_nil {X : Nat → Prop} {w : World} {s : Nat} : RdX X w s (.slice none 0 0) 0 [] := ⟨rd_nil w s, fun b h => by cases h⟩
theorem own_rdx {w : World} {base : Nat} {e : TypeId} {s : Nat} {v : Value} {n : Nat} {xs : List Value} (h : w.ownsRow base e s v n xs) : RdX (fun b => base ≤ b) w s v n xs := ⟨Rd.of_own h, fun b hb _ => (h.lt b hb).1⟩
/-- one more place: it was made behind w10, then appended to the row of the others -/
theorem ps_next {w10 w11 w12 : World} {X : Nat → Prop} {base : Nat} {e : TypeId} {v v' u : Value} {j : Nat} {ps : List (List Int)} {vs : List Value} {p : List Int} (hown : w10.ownsRow base e 1 v j vs) (HP : IsPs (fun b => X b ∧ v.ownBlock ≠ some b) w10 ps vs)
    (hN : Below w10.heap.size w10 w11) (ho : u.oneCell' = true) (hu : RdX (fun b => w10.heap.size ≤ b) w11 1 u p.length (iv p)) (hg : w11.grownBy w12 v.ownBlock) (hst : Stayed w11 v v') (hXn : ∀ b, w10.heap.size ≤ b → X b) :
    IsPs (fun b => X b ∧ v'.ownBlock ≠ some b) w12 (ps ++ [p]) (vs ++ [u]) := by
  have h1 := (HP.below hN).lt
  have h2 : IsPs (fun b => (X b ∧ v.ownBlock ≠ some b) ∧ b < w11.heap.size) w11 [p] [u] := (IsPs.one ho hu).lt.mono fun b h => ⟨⟨hXn b h.1, fun hv => by have := (hown.lt b hv).2; omega⟩, h.2⟩
  exact ((h1.app h2).keep (Keep.grown hg fun b h => fun e => h.1.2 e.symm)).mono fun b h => ⟨h.1.1, fun e => hst.ne (fun e2 => h.1.2 e2.symm) h.2 e.symm⟩
theorem ps_stay {w10 w11 w12 : World} {X : Nat → Prop} {v v' : Value} {ps : List (List Int)} {vs : List Value} (HP : IsPs (fun b => X b ∧ v.ownBlock ≠ some b) w10 ps vs) (hN : Below w10.heap.size w10 w11) (hg : w11.grownBy w12 v.ownBlock) (hst : Stayed w11 v v') : IsPs (fun b => X b ∧ v'.ownBlock ≠ some b) w12 ps vs :=
  (((HP.below hN).lt).keep (Keep.grown hg fun b h => fun e => h.1.2 e.symm)).mono fun b h => ⟨h.1.1, fun e => hst.ne (fun e2 => h.1.2 e2.symm) h.2 e.symm⟩
theorem rdx_stay {w10 w11 w12 : World} {X : Nat → Prop} {v v' u : Value} {s n : Nat} {vs : List Value} (HP : RdX (fun b => X b ∧ v.ownBlock ≠ some b) w10 s u n vs) (hs : 0 < s) (hN : Below w10.heap.size w10 w11) (hg : w11.grownBy w12 v.ownBlock) (hst : Stayed w11 v v') : RdX (fun b => X b ∧ v'.ownBlock ≠ some b) w12 s u n vs :=
  (((HP.keep (Keep.below hN)).lt hs).keep (Keep.grown hg fun b h => fun e => h.1.2 e.symm)).mono fun b h => ⟨h.1.1, fun e => hst.ne (fun e2 => h.1.2 e2.symm) h.2 e.symm⟩
theorem one_ones {v : Value} (h : v.oneCell' = true) : ∀ u ∈ [v], u.oneCell' = true := by
  intro u hu
  simp only [List.mem_singleton] at hu
  subst hu; exact h
theorem path_at {t : Tree} {q : Nat} (h : q < tsize t) : ∃ p, (tpaths t)[q]? = some p ∧ p.length < tsize t := by
  have hl : q < (tpaths t).length := by rw [tpaths_len]; exact h
  exact ⟨_, List.getElem?_eq_getElem hl, tpaths_short t _ (List.getElem_mem hl)⟩
theorem out_start {X : Nat → Prop} {w : World} : IsPs X w [[]] [.slice none 0 0] := IsPs.one rfl rdx_nil
set_option maxRecDepth 100000 in
set_option maxHeartbeats 1600000 in
theorem refpaths_any : ∀ (t : Tree) (cs : List Value) (w : World), IsT w t cs → tsize t ≤ 1000000 →
    Calls Tryd.prog 24 #[.agg cs.toArray] w fun e w' => ∃ v vs, e = .returned v ∧ w'.ownsRow w.heap.size 22 1 v (tsize t) vs ∧ IsPs (fun b => w.heap.size ≤ b ∧ v.ownBlock ≠ some b) w' (tpaths t) vs ∧ Below w.heap.size w w' := by
  refine Tree.ind fun k n m ts ih cs w h hs => ?_
  rw [IsT] at h
  obtain ⟨v, xs, rfl, hr, hts⟩ := h
  have X3 := Lib.hid (show ([.int .i64 k, .int .i64 n, .int .i64 m, v] : List Value)[3]? = some v from rfl)
  have XL := Lib.hid hts.len
  have IH := Lib.hid ih
  rw [tsize] at hs
  have hlen := tsizes_len ts
  clear ih
  go_enter Tryd.func24, Tryd.ntmps24
  go_upto_region 3 with (first
    | (((with_reducible refine' wpList_boxa (cs := [.int .i64 k, .int .i64 n, .int .i64 m, v]) 25 (.tmp 0) rfl ?_ ?_ ?_); exact rfl; exact rfl; intro w1 hk1 hN1 hz1; simp only [Act.put, List.setIfInBounds_toArray, List.set_cons_succ, List.set_cons_zero]))
    | (((with_reducible refine' wpList_build_own (u := .slice none 0 0) (.const (.slice none 0 0)) 36 rfl ?_ Tryd.underlying36 inf_ints ?_ ?_ ?_); exact rfl; exact rfl; exact rfl; intro v2 w2 o2 hN2 hz2; simp only [Act.put, List.setIfInBounds_toArray, List.set_cons_succ, List.set_cons_zero])))
  have l1 := hk1.lt
  have hs1 := hN1.size
  have hts1 := Lib.hid (IsTs.below hN1 hts)
  have hr1 := hr.below hN1
  clear hr hts hz1 hz2
  go_loopw [3, 4] (fun ov i wr => ∃ (j : Nat) (vs : List Value), j ≤ ts.length ∧ i = .int .i64 (j : Int) ∧ wr.ownsRow w1.heap.size 22 1 ov (1 + tsizes (ts.take j)) vs ∧ Hid (IsPs (fun b => w.heap.size ≤ b ∧ ov.ownBlock ≠ some b) wr ([] :: tpathsF 0 (ts.take j)) vs) ∧ Below w1.heap.size w1 wr) (fun _ i _ => ts.length - (intOf i).toNat)
  case atStart => exact ⟨0, [.slice none 0 0], Nat.zero_le _, rfl, by rw [List.take_zero, tsizes]; exact o2, Lib.hid (by rw [List.take_zero, tpathsF]; exact out_start), hN2⟩
  case round =>
    obtain ⟨j, vs, hj, rfl, hown, HP, hb⟩ := hrel
    obtain ⟨wo, rfl⟩ : ∃ wo : World, wo = wr := ⟨_, rfl⟩
    have hkj := hk1.below hb l1
    have hrj := hr1.below hb
    by_cases hlt : j < ts.length
    · obtain ⟨t, ht⟩ := kid_at hlt
      have hT := IsT.below hb (IsTs.get hts1.out ht)
      obtain ⟨cs, hcs⟩ : ∃ cs, (xs.drop (j * 4)).take 4 = cs := ⟨_, rfl⟩
      rw [hcs] at hT
      have HC := Lib.hid hcs
      have BD := Lib.hid (show j * 4 + 4 ≤ xs.length by rw [XL.out]; omega)
      have TK := Lib.hid (tsizes_take ht)
      have TP := Lib.hid (tpathsF_take ht)
      have hp := tsizes_part ts (j + 1)
      rw [TK.out] at hp
      have hmem := List.mem_of_getElem? ht
      have hq5 := tsize_mem hmem
      have IHt := Lib.hid (IH.out t hmem cs wo hT (by omega))
      obtain ⟨pre, hpre⟩ : ∃ pre, tsizes (ts.take j) = pre := ⟨_, rfl⟩
      rw [hpre] at hown hp TK
      obtain ⟨sz, hsz⟩ : ∃ sz, tsize t = sz := ⟨_, rfl⟩
      have HSZ := Lib.hid hsz
      clear hcs ht hpre
      go_upto_region 7 with (first
        | ((with_reducible refine' wpList_field_blk (j := 3) (.tmp 1) 25 3 rfl ?_ fo_node_3 ?_ rfl ?_); exact rfl; exact rfl; simp only [Act.put, List.setIfInBounds_toArray, List.set_cons_succ, List.set_cons_zero]) | ((with_reducible refine' wpList_load_blk (.tmp 9) 23 rfl ?_ ld_nds ?_ hkj (X3.out) ?_); exact rfl; exact rfl; simp only [Act.put, List.setIfInBounds_toArray, List.set_cons_succ, List.set_cons_zero]) | ((with_reducible refine' wpList_len_rd (.tmp 10) 23 rfl ?_ Tryd.underlying23 ?_ hrj ?_); exact rfl; exact rfl; simp only [Act.put, List.setIfInBounds_toArray, List.set_cons_succ, List.set_cons_zero]) | ((with_reducible refine' wpList_load_blk (.tmp 15) 23 rfl ?_ ld_nds ?_ hkj (X3.out) ?_); exact rfl; exact rfl; simp only [Act.put, List.setIfInBounds_toArray, List.set_cons_succ, List.set_cons_zero]) | ((with_reducible refine' wpList_at_rd (.tmp 16) (.tmp 17) 23 rfl ?_ Tryd.underlying23 sz_node ?_ hrj (by decide) (j) ?_ ?_ ?_); exact rfl; exact rfl; (show (_ : Int) = _; omega); omega; simp only [Act.put, List.setIfInBounds_toArray, List.set_cons_succ, List.set_cons_zero]) | ((with_reducible refine' wpList_load_st (cp := cs) (.tmp 18) 25 rfl ?_ Tryd.underlying25 ?_ sz_node ?_ hrj ?_ ?_ HC.out ?_); exact rfl; exact rfl; exact rfl; exact BD.out; decide; simp only [Act.put, List.setIfInBounds_toArray, List.set_cons_succ, List.set_cons_zero])
        | ((go_at_call 24; (with_reducible refine (IHt.out).mono ?_); rintro e w' ⟨vb, vsb, rfl, ob, HB, hN4⟩)))
      rw [hsz] at ob hp TK hq5
      have hown4 := own_below hown hN4
      have HP4 := Lib.hid (HP.out.below hN4)
      have HB4 := Lib.hid (show IsPs (fun b => wo.heap.size ≤ b ∧ u3.ownBlock ≠ some b) w' (tpaths t) vsb from HB.mono fun b h => ⟨h.1, fun e => by have := (hown.lt b e).2; omega⟩)
      have RB4 := Lib.hid (show RdX (fun b => wo.heap.size ≤ b ∧ u3.ownBlock ≠ some b) w' 1 vb sz vsb from (own_rdx ob).mono fun b h => ⟨h, fun e => by have := (hown.lt b e).2; omega⟩)
      have hb4 := hb.trans (hN4.mono hb.size)
      have hso := hb.size
      have hs4 := hN4.size
      have hb40 : Below w.heap.size w w' := hN1.trans (hb4.mono hs1)
      obtain ⟨pth, hpth⟩ : ∃ l, tpathsF 0 (ts.take j) = l := ⟨_, rfl⟩
      rw [hpth] at HP4 TP
      clear hown HP HB ob hsz IHt hT hkj hrj hb hN4 hpth
      go_loopw [3, 6] (fun ov i wr => ∃ (q : Nat) (vs : List Value), q ≤ sz ∧ i = .int .i64 (q : Int) ∧ wr.ownsRow w1.heap.size 22 1 ov (1 + pre + q) vs ∧ Hid (IsPs (fun b => w.heap.size ≤ b ∧ ov.ownBlock ≠ some b) wr (([] :: pth) ++ ((tpaths t).take q).map (((j : Nat) : Int) :: ·)) vs) ∧
        Hid (IsPs (fun b => wo.heap.size ≤ b ∧ ov.ownBlock ≠ some b) wr (tpaths t) vsb) ∧ Hid (RdX (fun b => wo.heap.size ≤ b ∧ ov.ownBlock ≠ some b) wr 1 vb sz vsb) ∧ Below w1.heap.size w1 wr ∧ wo.heap.size ≤ wr.heap.size) (fun _ i _ => sz - (intOf i).toNat)
      case atStart => exact ⟨0, vs, Nat.zero_le _, rfl, hown4, Lib.hid (by simpa using HP4.out), HB4, RB4, hb4, hs4⟩
      case round =>
        obtain ⟨q, vs, hq, rfl, hown, HP, HB, RB, hb, hwo⟩ := hrel
        obtain ⟨wi, rfl⟩ : ∃ wi : World, wi = wr := ⟨_, rfl⟩
        have rb : Rd wi 1 vb sz vsb := RB.out.1
        by_cases hql : q < sz
        · obtain ⟨pp, hpp, hpl⟩ := path_at (t := t) (q := q) (by rw [HSZ.out]; exact hql)
          rw [HSZ.out] at hpl
          obtain ⟨u, hu1, hu2, hu3⟩ := HB.out.2 q pp hpp
          have U := Lib.hid hu1
          have ru : Rd wi 1 u pp.length (iv pp) := hu3.1
          have TKq := Lib.hid (show ((tpaths t).take (q + 1)).map (((j : Nat) : Int) :: ·) = ((tpaths t).take q).map (((j : Nat) : Int) :: ·) ++ [((j : Nat) : Int) :: pp] by
            have hi := (List.getElem?_eq_some_iff.1 hpp).1
            have hx := (List.getElem?_eq_some_iff.1 hpp).2
            rw [List.take_succ_eq_append_getElem hi, hx, List.map_append]; rfl)
          clear hu1 hu3 hpp
          have bs := hb.size
          go_upto_region 8 with (first
            | ((with_reducible refine' wpList_len_rd (.tmp 22) 36 rfl ?_ Tryd.underlying36 ?_ rb ?_); exact rfl; exact rfl; simp only [Act.put, List.setIfInBounds_toArray, List.set_cons_succ, List.set_cons_zero]) | ((with_reducible refine' wpList_build_own (u := .int .i64 (j : Int)) (.tmp 28) 22 rfl ?_ Tryd.underlying22 inf_int ?_ ?_ ?_); exact rfl; exact rfl; exact rfl; intro v5 w5 o5 hN5 hz5; simp only [Act.put, List.setIfInBounds_toArray, List.set_cons_succ, List.set_cons_zero]) | ((with_reducible refine' wpList_at1_rd (.tmp 30) (.tmp 31) 36 rfl ?_ Tryd.underlying36 sz_ints ?_ rb (q) ?_ ?_ ?_); exact rfl; exact rfl; (show (_ : Int) = _; omega); omega; simp only [Act.put, List.setIfInBounds_toArray, List.set_cons_succ, List.set_cons_zero]) | ((with_reducible refine' wpList_load_rd (.tmp 32) 22 rfl ?_ ld_ints ?_ (rb.below hN5) (U.out) ?_); exact rfl; exact rfl; simp only [Act.put, List.setIfInBounds_toArray, List.set_cons_succ, List.set_cons_zero])
            | ((with_reducible refine' wpList_append_rd (.tmp 29) (.tmp 33) 22 rfl ?_ Tryd.underlying22 inf_int ?_ ?_ ?_ o5 ?_ (ru.below hN5) (iv_ones _) ?_ ?_ hN5.size ?_); exact rfl; exact rfl; omega; exact rfl; exact rfl; (first | omega | (unfold maxLen; omega)); omega; intro v6 w6 o6 hb6; simp only [Act.put, List.setIfInBounds_toArray, List.set_cons_succ, List.set_cons_zero])
            | (((with_reducible refine' wpList_build_own (u := v6) (.tmp 34) 36 rfl ?_ Tryd.underlying36 inf_ints ?_ ?_ ?_); exact rfl; exact rfl; exact (own_one o6); intro v7 w7 o7 hN7 hz7; simp only [Act.put, List.setIfInBounds_toArray, List.set_cons_succ, List.set_cons_zero]); have h57 : Below wi.heap.size wi w7 := (hN5.trans hb6).trans (hN7.mono (hN5.trans hb6).size); have hown7 := own_below hown h57; have R7 := Rd.of_own o7; have O7 := one_ones (own_one o6); have S7 : w1.heap.size ≤ w7.heap.size := Nat.le_trans bs h57.size)
            | (((with_reducible refine' wpList_append_at (.tmp 27) (.tmp 35) 36 rfl ?_ Tryd.underlying36 inf_ints ?_ ?_ ?_ hown7 ?_ R7 O7 ?_ ?_ S7 ?_); exact rfl; exact rfl; omega; exact rfl; exact rfl; (first | omega | (unfold maxLen; omega)); omega; intro v8 w8 o8 hg8 hst8; simp only [Act.put, List.setIfInBounds_toArray, List.set_cons_succ, List.set_cons_zero])))
          have HP8 := Lib.hid (show IsPs (fun b => w.heap.size ≤ b ∧ v8.ownBlock ≠ some b) w8 (([] :: pth) ++ ((tpaths t).take (q + 1)).map (((j : Nat) : Int) :: ·)) (vs ++ [v6]) by
            rw [TKq.out, ← List.append_assoc]
            refine ps_next hown HP.out h57 (own_one o6) ?_ hg8 hst8 (fun b h => by omega)
            have r6 := (own_rdx o6).keep (Keep.below hN7)
            rw [List.length_cons, Nat.add_comm, iv_cons]; exact r6)
          have HB8 := Lib.hid (ps_stay HB.out h57 hg8 hst8)
          have RB8 := Lib.hid (rdx_stay RB.out (by decide) h57 hg8 hst8)
          have hb8 : Below w1.heap.size w1 w8 := (hb.trans (h57.mono bs)).grown hg8 S7 (fun k hk => (hown7.lt k hk).1)
          have s8 : wo.heap.size ≤ w8.heap.size := Nat.le_trans hwo (Nat.le_trans h57.size hg8.size)
          clear hown HP HB RB rb o5 hN5 o6 hb6 o7 hN7 h57 hown7 R7 O7 S7 hg8 hst8 hb ru U
          go_wp2_with fail
          go_roundw
          case rel => (first | exact ⟨q + 1, vs ++ [v6], by omega, by go_num, o8, HP8, HB8, RB8, hb8, s8⟩ | ((repeat apply Exists.intro); exact ⟨⟨q + 1, vs ++ [v6], by omega, by go_num, o8, HP8, HB8, RB8, hb8, s8⟩, rfl⟩))
          case measure => simp [intOf]; omega
        · obtain rfl : q = sz := by omega
          have HPe := Lib.hid (show IsPs (fun b => w.heap.size ≤ b ∧ u3.ownBlock ≠ some b) wi ([] :: tpathsF 0 (ts.take (j + 1))) vs by
            have := HP.out
            rw [← HSZ.out, ← tpaths_len, List.take_length] at this
            rw [TP.out]; exact this)
          clear HP HB RB
          go_wp2_with (((with_reducible refine' wpList_len_rd (.tmp 22) 36 rfl ?_ Tryd.underlying36 ?_ rb ?_); exact rfl; exact rfl; simp only [Act.put, List.setIfInBounds_toArray, List.set_cons_succ, List.set_cons_zero]))
          go_roundw
          case rel => (first | exact ⟨j + 1, vs, by omega, by go_num, (by rw [TK.out, ← Nat.add_assoc]; exact hown), HPe, hb⟩ | ((repeat apply Exists.intro); exact ⟨⟨j + 1, vs, by omega, by go_num, (by rw [TK.out, ← Nat.add_assoc]; exact hown), HPe, hb⟩, rfl⟩))
          case measure => simp [intOf]; omega
    · obtain rfl : j = ts.length := by omega
      rw [List.take_length] at hown HP
      go_wp2_with (first | ((with_reducible refine' wpList_field_blk (j := 3) (.tmp 1) 25 3 rfl ?_ fo_node_3 ?_ rfl ?_); exact rfl; exact rfl; simp only [Act.put, List.setIfInBounds_toArray, List.set_cons_succ, List.set_cons_zero]) | ((with_reducible refine' wpList_load_blk (.tmp 9) 23 rfl ?_ ld_nds ?_ hkj (X3.out) ?_); exact rfl; exact rfl; simp only [Act.put, List.setIfInBounds_toArray, List.set_cons_succ, List.set_cons_zero]) | ((with_reducible refine' wpList_len_rd (.tmp 10) 23 rfl ?_ Tryd.underlying23 ?_ hrj ?_); exact rfl; exact rfl; simp only [Act.put, List.setIfInBounds_toArray, List.set_cons_succ, List.set_cons_zero]))
      go_ret
      refine ⟨_, vs, rfl, ?_, ?_, hN1.trans (hb.mono hs1)⟩
      · rw [tsize]; exact own_mono hown hs1
      · rw [tpaths]; exact HP.out
end Go.Proofs.YtdlhkhnoigbhjaaDoor.Wi
namespace Go.Proofs.YtdlhkhnoigbhjaaDoor.Lb
open Go Go.RowKit Go.Lib Pu
inductive Plan where
  | tail
  | f (i : Nat) (p : Plan)
  | o (i : Nat) (p : Plan)
  | two (i j : Nat) (p q : Plan)
  | three (i j k : Nat) (p q r : Plan)
section
variable {P : Program} {Q : Exit → Act → World → Prop} {C : World → Prop} {T : Nat → Bool} {a : Act} {w : World} {md : Region.Mode} {l : List Oper}
def wpPlan (P : Program) (l : List Oper) (C : World → Prop) (Q : Exit → Act → World → Prop) (n : Nat) : Plan → Act → World → Prop
  | .tail, a, w => wpList P l.toArray (onlyNormal Q) (l.drop n) a w
  | .f i p, a, w => ∀ o, l[i]? = some o → wpQuiet P l.toArray C (fun a' => wpPlan P l C Q n p a' w) [o] a
  | .o i p, a, w => ∀ o, l[i]? = some o → wpList P l.toArray (nextTo fun a' w' => C w' ∧ wpPlan P l C Q n p a' w') [o] a w
  | .two i j p q, a, w => (∀ o, l[i]? = some o → wpList P l.toArray (nextTo fun a' w' => C w' ∧ wpPlan P l C Q n p a' w') [o] a w) ∧ (∀ o, l[j]? = some o → wpList P l.toArray (nextTo fun a' w' => C w' ∧ wpPlan P l C Q n q a' w') [o] a w)
  | .three i j k p q r, a, w => (∀ o, l[i]? = some o → wpList P l.toArray (nextTo fun a' w' => C w' ∧ wpPlan P l C Q n p a' w') [o] a w) ∧ (∀ o, l[j]? = some o → wpList P l.toArray (nextTo fun a' w' => C w' ∧ wpPlan P l C Q n q a' w') [o] a w) ∧ (∀ o, l[k]? = some o → wpList P l.toArray (nextTo fun a' w' => C w' ∧ wpPlan P l C Q n r a' w') [o] a w)
theorem wpPlan_tail {n : Nat} (h : wpList P l.toArray (onlyNormal Q) (l.drop n) a w) : wpPlan P l C Q n .tail a w := h
theorem wpPlan_f {n i : Nat} {p : Plan} {o : Oper} (ho : l[i]? = some o) (h : wpQuiet P l.toArray C (fun a' => wpPlan P l C Q n p a' w) [o] a) : wpPlan P l C Q n (.f i p) a w := fun o' h' => by
  rw [ho] at h'; cases h'; exact h
theorem wpPlan_o {n i : Nat} {p : Plan} {o : Oper} (ho : l[i]? = some o) (h : wpList P l.toArray (nextTo fun a' w' => C w' ∧ wpPlan P l C Q n p a' w') [o] a w) : wpPlan P l C Q n (.o i p) a w := fun o' h' => by
  rw [ho] at h'; cases h'; exact h
theorem wpPlan_two {n i j : Nat} {p q : Plan} {o o2 : Oper} (ho : l[i]? = some o) (ho2 : l[j]? = some o2) (h : wpList P l.toArray (nextTo fun a' w' => C w' ∧ wpPlan P l C Q n p a' w') [o] a w) (h2 : wpList P l.toArray (nextTo fun a' w' => C w' ∧ wpPlan P l C Q n q a' w') [o2] a w) : wpPlan P l C Q n (.two i j p q) a w :=
  ⟨fun o' h' => by rw [ho] at h'; cases h'; exact h, fun o' h' => by rw [ho2] at h'; cases h'; exact h2⟩
theorem wpPlan_three {n i j k : Nat} {p q r : Plan} {o o2 o3 : Oper} (ho : l[i]? = some o) (ho2 : l[j]? = some o2) (ho3 : l[k]? = some o3) (h : wpList P l.toArray (nextTo fun a' w' => C w' ∧ wpPlan P l C Q n p a' w') [o] a w) (h2 : wpList P l.toArray (nextTo fun a' w' => C w' ∧ wpPlan P l C Q n q a' w') [o2] a w) (h3 : wpList P l.toArray (nextTo fun a' w' => C w' ∧ wpPlan P l C Q n r a' w') [o3] a w) : wpPlan P l C Q n (.three i j k p q r) a w :=
  ⟨fun o' h' => by rw [ho] at h'; cases h'; exact h, fun o' h' => by rw [ho2] at h'; cases h'; exact h2, fun o' h' => by rw [ho3] at h'; cases h'; exact h3⟩
def Plan.fs : Plan → List Nat
  | .tail => []
  | .f i p => i :: p.fs
  | .o _ p => p.fs
  | .two _ _ p q => p.fs ++ q.fs
  | .three _ _ _ p q r => p.fs ++ (q.fs ++ r.fs)
def Plan.len : Plan → Nat
  | .tail => 0
  | .f _ p => p.len + 1
  | .o _ p => p.len + 1
  | .two _ _ p _ => p.len + 1
  | .three _ _ _ p _ _ => p.len + 1
def planIx (md : Region.Mode) (ops : Array Oper) (ts : List Nat) : Plan → Array Bool → Bool
  | .tail, listed => seqIx md ops ts listed
  | .f k p, listed => (Region.ready md ops listed).contains k && Region.free md ops listed k && ((ops[k]?).map readsB2).getD false && planIx md ops ts p (listed.setIfInBounds k true)
  | .o k p, listed => decide (Region.ready md ops listed = [k]) && (ops[k]?).isSome && planIx md ops ts p (listed.setIfInBounds k true)
  | .two k j p q, listed => decide (Region.ready md ops listed = [k, j]) && (ops[k]?).isSome && (ops[j]?).isSome && decide (p.len = q.len) && planIx md ops ts p (listed.setIfInBounds k true) && planIx md ops ts q (listed.setIfInBounds j true)
  | .three k j i p q r, listed => decide (Region.ready md ops listed = [k, j, i]) && (ops[k]?).isSome && (ops[j]?).isSome && (ops[i]?).isSome && decide (p.len = q.len) && decide (p.len = r.len) && planIx md ops ts p (listed.setIfInBounds k true) && planIx md ops ts q (listed.setIfInBounds j true) && planIx md ops ts r (listed.setIfInBounds i true)
theorem wpAnyC_plan {n : Nat} (hsel : Region.noSelect l.toArray = true) (hts : ∀ t, t ∈ List.range' n (l.length - n) → T t = true) (hn : n ≤ l.length) :
    ∀ (pl : Plan) (listed : Array Bool) (a : Act) (w : World), C w → planIx md l.toArray (List.range' n (l.length - n)) pl listed = true →
      (∀ i ∈ pl.fs, ∀ j oj, T j = true → l.toArray[j]? = some oj → ∃ e ∈ oj.after, Region.binds md e = true ∧ e.on = i) →
      wpPlan P l C Q n pl a w → wpAnyC P md l.toArray C T Q (pl.len + (l.length - n)) listed a w
  | .tail, listed, a, w, _, hB, _, h => by
    have := wpAnyC_tail (P := P) (C := C) (Q := Q) hts (List.range' n (l.length - n)) (l.drop n) listed a w (fun _ h => h) (by simpa using range_map l n hn) hB h
    rw [Plan.len, Nat.zero_add]
    rwa [List.length_range'] at this
  | .f k p, listed, a, w, hC, hB, hT, h => by
    simp only [planIx, Bool.and_eq_true] at hB
    obtain ⟨⟨⟨hr1, hf⟩, hrd⟩, hB'⟩ := hB
    rw [Plan.len, show p.len + 1 + (l.length - n) = (p.len + (l.length - n)) + 1 by omega]
    cases hk : l.toArray[k]? with
    | none => rw [hk] at hrd; cases hrd
    | some o =>
      rw [hk] at hrd
      have hk' : l[k]? = some o := by rwa [List.getElem?_toArray] at hk
      unfold wpPlan at h
      have h := h o hk'
      unfold wpQuiet at h
      obtain ⟨v, hy, hK⟩ := yieldsC_of_quiet2 (ops := l.toArray) (K := fun a' => wpQuiet P l.toArray C (fun a' => wpPlan P l C Q n p a' w) [] a') (by simpa using hrd) h
      unfold wpQuiet at hK
      exact wpAnyC_first hk (Region.noSelect_spec hsel) (hT k (by rw [Plan.fs]; simp)) _ listed a w hC (Region.free_spec hk hf) (by simpa using hr1) hy
        (wpAnyC_plan hsel hts hn p _ _ w hC hB' (fun i hi => hT i (by rw [Plan.fs]; simp [hi])) hK)
  | .o k p, listed, a, w, hC, hB, hT, h => by
    simp only [planIx, Bool.and_eq_true, decide_eq_true_eq] at hB
    obtain ⟨⟨hr, hsome⟩, hB'⟩ := hB
    rw [Plan.len, show p.len + 1 + (l.length - n) = (p.len + (l.length - n)) + 1 by omega]
    cases hk : l.toArray[k]? with
    | none => rw [hk] at hsome; cases hsome
    | some o =>
      have hk' : l[k]? = some o := by rwa [List.getElem?_toArray] at hk
      refine ⟨fun h1 => (by rw [hr] at h1; cases h1), fun i hi => ?_⟩
      rw [hr] at hi
      obtain rfl : i = k := by simpa using hi
      unfold wpPlan at h
      exact wpOp_mono (fun a' w' h' => ⟨fun _ => h'.1, wpAnyC_plan hsel hts hn p _ a' w' h'.1 hB' (fun i hi => hT i (by rw [Plan.fs]; exact hi)) h'.2⟩) (wpOp_of_list hk (h o hk'))
  | .two k j p q, listed, a, w, hC, hB, hT, h => by
    simp only [planIx, Bool.and_eq_true, decide_eq_true_eq] at hB
    obtain ⟨⟨⟨⟨⟨hr, hs1⟩, hs2⟩, hl⟩, hB1⟩, hB2⟩ := hB
    rw [Plan.len, show p.len + 1 + (l.length - n) = (p.len + (l.length - n)) + 1 by omega]
    unfold wpPlan at h
    refine ⟨fun h1 => (by rw [hr] at h1; cases h1), fun i hi => ?_⟩
    rw [hr] at hi
    simp only [List.mem_cons, List.not_mem_nil, or_false] at hi
    rcases hi with rfl | rfl
    · cases hk : l.toArray[i]? with
      | none => rw [hk] at hs1; cases hs1
      | some o =>
        have hk' : l[i]? = some o := by rwa [List.getElem?_toArray] at hk
        exact wpOp_mono (fun a' w' h' => ⟨fun _ => h'.1, wpAnyC_plan hsel hts hn p _ a' w' h'.1 hB1 (fun i hi => hT i (by rw [Plan.fs]; simp [hi])) h'.2⟩) (wpOp_of_list hk (h.1 o hk'))
    · cases hk : l.toArray[i]? with
      | none => rw [hk] at hs2; cases hs2
      | some o =>
        have hk' : l[i]? = some o := by rwa [List.getElem?_toArray] at hk
        rw [hl]
        exact wpOp_mono (fun a' w' h' => ⟨fun _ => h'.1, wpAnyC_plan hsel hts hn q _ a' w' h'.1 hB2 (fun i hi => hT i (by rw [Plan.fs]; simp [hi])) h'.2⟩) (wpOp_of_list hk (h.2 o hk'))
  | .three k j m p q r, listed, a, w, hC, hB, hT, h => by
    simp only [planIx, Bool.and_eq_true, decide_eq_true_eq] at hB
    obtain ⟨⟨⟨⟨⟨⟨⟨⟨hr, hs1⟩, hs2⟩, hs3⟩, hl⟩, hl3⟩, hB1⟩, hB2⟩, hB3⟩ := hB
    rw [Plan.len, show p.len + 1 + (l.length - n) = (p.len + (l.length - n)) + 1 by omega]
    unfold wpPlan at h
    refine ⟨fun h1 => (by rw [hr] at h1; cases h1), fun i hi => ?_⟩
    rw [hr] at hi
    simp only [List.mem_cons, List.not_mem_nil, or_false] at hi
    rcases hi with rfl | rfl | rfl
    · cases hk : l.toArray[i]? with
      | none => rw [hk] at hs1; cases hs1
      | some o =>
        have hk' : l[i]? = some o := by rwa [List.getElem?_toArray] at hk
        exact wpOp_mono (fun a' w' h' => ⟨fun _ => h'.1, wpAnyC_plan hsel hts hn p _ a' w' h'.1 hB1 (fun i hi => hT i (by rw [Plan.fs]; simp [hi])) h'.2⟩) (wpOp_of_list hk (h.1 o hk'))
    · cases hk : l.toArray[i]? with
      | none => rw [hk] at hs2; cases hs2
      | some o =>
        have hk' : l[i]? = some o := by rwa [List.getElem?_toArray] at hk
        rw [hl]
        exact wpOp_mono (fun a' w' h' => ⟨fun _ => h'.1, wpAnyC_plan hsel hts hn q _ a' w' h'.1 hB2 (fun i hi => hT i (by rw [Plan.fs]; simp [hi])) h'.2⟩) (wpOp_of_list hk (h.2.1 o hk'))
    · cases hk : l.toArray[i]? with
      | none => rw [hk] at hs3; cases hs3
      | some o =>
        have hk' : l[i]? = some o := by rwa [List.getElem?_toArray] at hk
        rw [hl3]
        exact wpOp_mono (fun a' w' h' => ⟨fun _ => h'.1, wpAnyC_plan hsel hts hn r _ a' w' h'.1 hB3 (fun i hi => hT i (by rw [Plan.fs]; simp [hi])) h'.2⟩) (wpOp_of_list hk (h.2.2 o hk'))
def planB (md : Region.Mode) (l : List Oper) (pl : Plan) (n : Nat) : Bool :=
  decide (n ≤ l.length) && decide (pl.len = n) && Region.noSelect l.toArray && ((List.range' n (l.length - n)).all fun t => pl.fs.all fun i => waits md l.toArray t i) && planIx md l.toArray (List.range' n (l.length - n)) pl (Array.replicate l.length false)
/-- a region that draws its order, walked by a plan -/
theorem wp_region_plan {id : Nat} (C : World → Prop) (pl : Plan) (n : Nat) (hm : P.follows .mixedOrders = true) (hB : planB .any l pl n = true) (hC : C w.drew)
    (h : wpPlan P l C Q n pl a w.drew) : (Code.region id l.toArray true).wp P Q a w := by
  simp only [planB, Bool.and_eq_true, decide_eq_true_eq] at hB
  obtain ⟨⟨⟨⟨hlen, hpl⟩, hsel⟩, hw⟩, hx⟩ := hB
  refine wp_region_any hm (wpAny_of_C (C := C) (T := fun i => decide (i ∈ List.range' n (l.length - n))) _ _ _ _ ?_)
  have := wpAnyC_plan (P := P) (md := .any) (l := l) (C := C) (T := fun i => decide (i ∈ List.range' n (l.length - n))) (Q := Q) hsel (fun t ht => by simpa using ht) hlen pl (Array.replicate l.length false) a w.drew hC hx
    (fun i hi j oj hT hj => by
      have h1 := List.all_eq_true.1 hw j (by simpa using hT)
      have h2 := List.all_eq_true.1 h1 i hi
      unfold waits at h2
      rw [hj] at h2
      obtain ⟨e, he, hb⟩ := Array.any_eq_true'.1 h2
      simp only [Bool.and_eq_true, beq_iff_eq] at hb
      exact ⟨e, he, hb.1, hb.2⟩) h
  rw [hpl, show n + (l.length - n) = l.length by omega] at this
  simpa using this
end
end Go.Proofs.YtdlhkhnoigbhjaaDoor.Lb
namespace Go.Proofs.YtdlhkhnoigbhjaaDoor.Pu
theorem tset_succ {p : List Int} {u : Tree} {i : Nat} {k n m : Int} {ts : List Tree} {x : Tree} (h : ts[i]? = some u) : tset ((i : Int) :: p) (.mk k n m ts) x = (tset p u x).map fun v => .mk k n m (ts.set i v) := by
  rw [tset, if_pos (by omega), Int.toNat_natCast, h]; rfl
end Go.Proofs.YtdlhkhnoigbhjaaDoor.Pu
namespace Go.Proofs.YtdlhkhnoigbhjaaDoor.Lb
open Go Go.RowKit Go.Lib Pu
section
variable {P : Program} {ops : Array Oper} {C : World → Prop} {R : Act → Prop} {a : Act} {rest : List Oper} {o : Oper}
theorem wpQuietH_load_blk (p : Operand) (t : TypeId) (ho : o.op = .load t p) (hw : Region.wanted o (yielded ops a.tmps) = true)
    (hload : ∀ (ad : Addr) (u : Value) (w : World), w.cell? ad = some u → (loadVar t ad).run P w = .ok u w) {B k : Nat} {t' : TypeId} {cs : List Value} {u : Value} (hx : a.eval p = .pointer (some ⟨B, k, none⟩)) (hb : ∀ w, C w → Blk w B t' cs) (hk : cs[k]? = some u)
    (h : wpQuiet P ops C R rest (a.put o.dst u)) : wpQuiet P ops C R (o :: rest) a := by
  refine wpQuiet_of_run hw (fun w hc => ?_) h
  have := hload ⟨B, k, none⟩ u w ((hb w hc).cell hk)
  unfold execOp
  simp [ho, Instr.loadAt, hx, Instr.sureAddr, this]
theorem wpQuietH_load_rd (p : Operand) (t : TypeId) (ho : o.op = .load t p) (hw : Region.wanted o (yielded ops a.tmps) = true)
    (hload : ∀ (ad : Addr) (u : Value) (w : World), w.cell? ad = some u → (loadVar t ad).run P w = .ok u w) {s : Nat} {v : Value} {n : Nat} {xs : List Value} {k : Nat} {u : Value}
    (hx : a.eval p = ep v k) (hv : ∀ w, C w → Rd w s v n xs) (hk : xs[k]? = some u)
    (h : wpQuiet P ops C R rest (a.put o.dst u)) : wpQuiet P ops C R (o :: rest) a := by
  refine wpQuiet_of_run hw (fun w hc => ?_) h
  obtain ⟨hl, ad, cap, rfl, h1, h2, h3, h4⟩ := hv w hc
  obtain ⟨b, of, rfl, hc⟩ := h4 k u hk
  have := hload ⟨b, of + k, none⟩ u w hc
  unfold execOp
  simp [ho, Instr.loadAt, hx, ep, Instr.sureAddr, Addr.add_lit, this]
theorem wpQuietH_load_st (p : Operand) (t : TypeId) (ho : o.op = .load t p) (hw : Region.wanted o (yielded ops a.tmps) = true) {d : TypeDesc} (hd : P.underlying t = some d) (ha : isAggD d = true) {s : Nat} (hsz : (P.info? t).map (·.size) = some s)
    {s' : Nat} {v : Value} {n : Nat} {xs : List Value} {k : Nat} (hx : a.eval p = ep v k) (hv : ∀ w, C w → Rd w s' v n xs) (hk : k + s ≤ xs.length) (hs : 0 < s) {cp : List Value} (hcs : (xs.drop k).take s = cp)
    (h : wpQuiet P ops C R rest (a.put o.dst (.agg cp.toArray))) : wpQuiet P ops C R (o :: rest) a := by
  subst hcs; exact wpQuiet_of_run hw (fun w hw => run_load_st p t ho hd ha hsz hx (hv w hw) hk hs) h
end
theorem X3one {w : World} {s n : Nat} {v : Value} {xs : List Value} (h : Rd w s v n xs) : v.oneCell' = true := by obtain ⟨_, _, _, rfl, _⟩ := h; rfl
theorem len4_lt {a b c d : Value} : 3 < ([a, b, c, d] : List Value).length := by simp
theorem flat1 (cs : List Value) : [cs].flatten = cs := by simp
theorem take_set_lt {α : Type} {l : List α} {i q : Nat} {z x : α} (hq : l[q]? = some x) (hne : q ≠ i) : (l.set i z).take (q + 1) = (l.set i z).take q ++ [x] := by
  have hlt := (List.getElem?_eq_some_iff.1 hq).1
  rw [List.take_succ_eq_append_getElem (by simpa using hlt), List.getElem_set_ne (by omega), (List.getElem?_eq_some_iff.1 hq).2]
theorem take_set_eq {α : Type} {l : List α} {i : Nat} {z : α} (hi : i < l.length) : (l.set i z).take (i + 1) = (l.set i z).take i ++ [z] := by
  rw [List.take_succ_eq_append_getElem (by simpa using hi), List.getElem_set_self]
end Go.Proofs.YtdlhkhnoigbhjaaDoor.Lb
namespace Go.Proofs.YtdlhkhnoigbhjaaDoor.Wi
open Go Go.RowKit Pu Lb
set_option linter.unusedSimpArgs false
set_option linter.unusedVariables false
/-- what Set hands back -/
def SetR (X : Nat → Prop) (w' : World) (es : List Value) (c : Int) : Option Tree → Prop
  | some u => c = 0 ∧ IsTX X w' u es
  | none => c = 6 ∧ es = nodz
theorem SetR.len {X : Nat → Prop} {w' : World} {ds : List Value} {b : Int} : ∀ {o : Option Tree}, SetR X w' ds b o → ds.length = 4
  | some _, h => h.2.len
  | none, h => by rw [h.2]; rfl
theorem SetR.ones {X : Nat → Prop} {w' : World} {ds : List Value} {b : Int} : ∀ {o : Option Tree}, SetR X w' ds b o → ∀ u ∈ ds, u.oneCell' = true
  | some _, h => h.2.isT.ones
  | none, h => by rw [h.2]; exact node_ones rfl
theorem SetR.keep {X : Nat → Prop} {w w' : World} {ds : List Value} {b : Int} (hk : Keep X w w') : ∀ {o : Option Tree}, SetR X w ds b o → SetR X w' ds b o
  | some _, h => ⟨h.1, h.2.keep hk⟩
  | none, h => h
theorem SetR.mono {X Y : Nat → Prop} {w : World} {ds : List Value} {b : Int} (hk : ∀ b, X b → Y b) : ∀ {o : Option Tree}, SetR X w ds b o → SetR Y w ds b o
  | some _, h => ⟨h.1, h.2.mono hk⟩
  | none, h => h
theorem SetR.lt {X : Nat → Prop} {w : World} {ds : List Value} {b : Int} : ∀ {o : Option Tree}, SetR X w ds b o → SetR (fun b => X b ∧ b < w.heap.size) w ds b o
  | some _, h => ⟨h.1, h.2.lt⟩
  | none, h => h
set_option maxRecDepth 100000 in
set_option maxHeartbeats 1600000 in
theorem refset_any : ∀ (p : List Int) (X : Nat → Prop) (t x : Tree) (cs ds : List Value) (v : Value) (w : World), IsTX X w t cs → IsTX X w x ds → Rd w 1 v p.length (iv p) → tsize t ≤ 1000000 →
    Calls Tryd.prog 25 #[.agg cs.toArray, v, .agg ds.toArray] w fun e w' => ∃ (es : List Value) (c : Int), e = .returned (.tuple #[.agg es.toArray, .int .i64 c]) ∧ SetR (fun b => X b ∨ w.heap.size ≤ b) w' es c (tset p t x) ∧ Below w.heap.size w w' := by
  intro p
  induction p with
  | nil =>
    intro X t x cs ds v w hT hU hr hs
    have CL := Lib.hid hT.len
    have UL := Lib.hid hU.len
    have UO := Lib.hid hU.isT.ones
    rw [List.length_nil] at hr
    rw [tset]
    go_enter Tryd.func25, Tryd.ntmps25
    go_upto_region 1 with (first
      | (((with_reducible refine' wpList_boxa (cs := cs) 25 (.tmp 0) rfl ?_ ?_ ?_); exact rfl; exact rfl; intro w1 kA hN1 hz1; simp only [Act.put, List.setIfInBounds_toArray, List.set_cons_succ, List.set_cons_zero]))
      | (((with_reducible refine' wpList_boxa (cs := ds) 25 (.tmp 2) rfl ?_ ?_ ?_); exact rfl; exact rfl; intro w2 kD hN2 hz2; simp only [Act.put, List.setIfInBounds_toArray, List.set_cons_succ, List.set_cons_zero]))
      | (((with_reducible refine' wpList_alloc_blk (cs := nodz) 25 rfl ?_ zr_node ?_ ?_); exact rfl; exact nodz_cells; intro w3 kR hN3 hz3; simp only [Act.put, List.setIfInBounds_toArray, List.set_cons_succ, List.set_cons_zero])))
    have lA := kA.lt
    have lD := kD.lt
    have lR := kR.lt
    replace kA := (kA.below hN2 lA).below hN3 (by have := hN2.size; omega)
    replace kD := kD.below hN3 lD
    have hs1 := hN1.size
    have hs2 := hN2.size
    obtain ⟨A, hA⟩ : ∃ A, w.heap.size = A := ⟨_, rfl⟩
    obtain ⟨D, hD⟩ : ∃ D, w1.heap.size = D := ⟨_, rfl⟩
    obtain ⟨R, hR⟩ : ∃ R, w2.heap.size = R := ⟨_, rfl⟩
    have hb3 : Below w.heap.size w w3 := (hN1.trans (hN2.mono hs1)).trans (hN3.mono (Nat.le_trans hs1 hs2))
    have HT3 := Lib.hid ((((hT.lt).below hN1).below hN2).below hN3)
    have HU3 := Lib.hid ((((hU.lt).below hN1).below hN2).below hN3)
    have hr3 := ((hr.below hN1).below hN2).below hN3
    rw [hA] at kA
    rw [hD] at kD
    rw [hR] at kR
    simp only [hA, hD, hR]
    have HA := Lib.hid hA
    have hRw : w.heap.size ≤ R := by omega
    have hDw : w.heap.size ≤ D := by omega
    have hAR : A < R ∧ D < R ∧ A < D := by omega
    have lR3 := kR.lt
    clear hA hD hR hz1 hz2 hz3 hN1 hN2 hN3 hr lA lD lR hs1 hs2
    go_wp2_with (first | ((with_reducible refine' wpList_len_rd (.tmp 12) 22 rfl ?_ Tryd.underlying22 ?_ hr3 ?_); exact rfl; exact rfl; simp only [Act.put, List.setIfInBounds_toArray, List.set_cons_succ, List.set_cons_zero]) | ((with_reducible refine' wpList_loadst_blk (.tmp 5) 25 rfl ?_ Tryd.underlying25 ?_ sz_node ?_ kD ?_ ?_ ?_); exact rfl; exact rfl; exact rfl; exact UL.out; decide; simp only [Act.put, List.setIfInBounds_toArray, List.set_cons_succ, List.set_cons_zero]) | ((with_reducible refine' wpList_store_blk (cs := ds) 25 (.tmp 6) (.tmp 15) rfl ?_ ?_ ?_ kR sz_node ?_ ?_ ?_ ?_); exact rfl; exact rfl; exact rfl; exact UL.out; exact rfl; exact UO.out; intro w4 k4 hO4 hz4; simp only [Act.put]))
    have hb4 := hb3.trans (hO4.below hRw (by omega))
    ((try simp only [Exit.inBlock, Exit.then]); refine bodyPost_ret (results_cell_row_tmp rfl _ _ _ _ _ _ _ rfl k4 Tryd.underlying25 rfl (by rw [sz_node]; simp [UL.out])) rfl ?_)
    have hT4 := HU3.out.only hO4 (fun b h => by have := h.2; omega)
    exact ⟨ds, 0, rfl, ⟨rfl, hT4.mono fun b h => .inl h.1⟩, hb4⟩
  | cons i p ih =>
    intro X t x cs ds v w hT hU hr hs
    obtain ⟨k, n, m, ts⟩ := t
    obtain ⟨vk, xs, rfl, hrk, hts⟩ := hT.lt.open_
    have UL := Lib.hid hU.len
    have UO := Lib.hid hU.isT.ones
    rw [List.length_cons, iv_cons] at hr
    have C0 := Lib.hid (show ((.int .i64 i :: iv p) : List Value)[0]? = some (.int .i64 i) from rfl)
    have X3 := Lib.hid (show ([.int .i64 k, .int .i64 n, .int .i64 m, vk] : List Value)[3]? = some vk from rfl)
    have hmx := hr.len
    unfold maxLen at hmx
    have IH := Lib.hid ih
    clear ih
    rw [tsize] at hs
    have hlen := tsizes_len ts
    go_enter Tryd.func25, Tryd.ntmps25
    go_upto_region 1 with (first
      | (((with_reducible refine' wpList_boxa (cs := [.int .i64 k, .int .i64 n, .int .i64 m, vk]) 25 (.tmp 0) rfl ?_ ?_ ?_); exact rfl; exact rfl; intro w1 kA hN1 hz1; simp only [Act.put, List.setIfInBounds_toArray, List.set_cons_succ, List.set_cons_zero]))
      | (((with_reducible refine' wpList_boxa (cs := ds) 25 (.tmp 2) rfl ?_ ?_ ?_); exact rfl; exact rfl; intro w2 kD hN2 hz2; simp only [Act.put, List.setIfInBounds_toArray, List.set_cons_succ, List.set_cons_zero]))
      | (((with_reducible refine' wpList_alloc_blk (cs := nodz) 25 rfl ?_ zr_node ?_ ?_); exact rfl; exact nodz_cells; intro w3 kR hN3 hz3; simp only [Act.put, List.setIfInBounds_toArray, List.set_cons_succ, List.set_cons_zero])))
    have lA := kA.lt
    have lD := kD.lt
    have lR := kR.lt
    replace kA := (kA.below hN2 lA).below hN3 (by have := hN2.size; omega)
    replace kD := kD.below hN3 lD
    have hs1 := hN1.size
    have hs2 := hN2.size
    obtain ⟨A, hA⟩ : ∃ A, w.heap.size = A := ⟨_, rfl⟩
    obtain ⟨D, hD⟩ : ∃ D, w1.heap.size = D := ⟨_, rfl⟩
    obtain ⟨R, hR⟩ : ∃ R, w2.heap.size = R := ⟨_, rfl⟩
    have hb3 : Below w.heap.size w w3 := (hN1.trans (hN2.mono hs1)).trans (hN3.mono (Nat.le_trans hs1 hs2))
    have HT3 := Lib.hid ((((hT.lt).below hN1).below hN2).below hN3)
    have HU3 := Lib.hid ((((hU.lt).below hN1).below hN2).below hN3)
    have hr3 := ((hr.below hN1).below hN2).below hN3
    rw [hA] at kA
    rw [hD] at kD
    rw [hR] at kR
    simp only [hA, hD, hR]
    have HA := Lib.hid hA
    have hRw : w.heap.size ≤ R := by omega
    have hDw : w.heap.size ≤ D := by omega
    have hAR : A < R ∧ D < R ∧ A < D := by omega
    have lR3 := kR.lt
    clear hA hD hR hz1 hz2 hz3 hN1 hN2 hN3 hr lA lD lR hs1 hs2
    have hrk3 := hrk.keep (Keep.below hb3)
    have hrd3 : Rd w3 4 vk ts.length xs := hrk3.1
    have hts3 := hts.below hb3
    clear hrk hts hT hU HT3
    by_cases h1 : i < 0
    · have HS := Lib.hid (show tset (i :: p) (.mk k n m ts) x = none by rw [tset, if_neg (by omega)])
      have L1 : decide (i < 0) = true := decide_eq_true h1
      clear h1
      go_wp2_with (first | ((with_reducible refine' wpList_len_rd (.tmp 12) 22 rfl ?_ Tryd.underlying22 ?_ hr3 ?_); exact rfl; exact rfl; simp only [Act.put, List.setIfInBounds_toArray, List.set_cons_succ, List.set_cons_zero]) | (refine wp_region_quiet_lit (by kernel_rfl) (by kernel_rfl) ?_; (repeat (first | ((with_reducible refine' wpQuiet_at1_rd (.tmp 16) (.const (.int .i64 0)) 22 rfl ?_ Tryd.underlying22 sz_int ?_ hr3 (0) ?_ ?_ ?_); exact rfl; exact rfl; (show (_ : Int) = _; omega); omega; simp only [Act.put, List.setIfInBounds_toArray, List.set_cons_succ, List.set_cons_zero]) | ((with_reducible refine' wpQuiet_load_rd (fun _ h => h) (.tmp 17) 3 rfl ?_ ld_int ?_ hr3 (C0.out) ?_); exact rfl; exact rfl; simp only [Act.put, List.setIfInBounds_toArray, List.set_cons_succ, List.set_cons_zero]) | ((with_reducible refine' wpQuiet_at1_rd (.tmp 21) (.const (.int .i64 0)) 22 rfl ?_ Tryd.underlying22 sz_int ?_ hr3 (0) ?_ ?_ ?_); exact rfl; exact rfl; (show (_ : Int) = _; omega); omega; simp only [Act.put, List.setIfInBounds_toArray, List.set_cons_succ, List.set_cons_zero]) | ((with_reducible refine' wpQuiet_load_rd (fun _ h => h) (.tmp 22) 3 rfl ?_ ld_int ?_ hr3 (C0.out) ?_); exact rfl; exact rfl; simp only [Act.put, List.setIfInBounds_toArray, List.set_cons_succ, List.set_cons_zero]) | ((with_reducible refine' wpQuietM_field (k := 0) (j := 3) (.tmp 3) 25 3 rfl ?_ fo_node_3 ?_ rfl ?_); exact rfl; rotate_left; exact rfl; simp only [Act.put, List.setIfInBounds_toArray, List.set_cons_succ, List.set_cons_zero]) | ((with_reducible refine' wpQuiet_load_blk (fun _ h => h) (.tmp 24) 23 rfl ?_ ld_nds ?_ kA (X3.out) ?_); exact rfl; exact rfl; simp only [Act.put, List.setIfInBounds_toArray, List.set_cons_succ, List.set_cons_zero]) | ((with_reducible refine' wpQuiet_len_rd (.tmp 25) 23 rfl ?_ Tryd.underlying23 ?_ hrd3 ?_); exact rfl; exact rfl; simp only [Act.put, List.setIfInBounds_toArray, List.set_cons_succ, List.set_cons_zero]) | go_big_quiet_step (fail))); refine wpQuiet_nil ?_; intro _ hw'; obtain ⟨nq, hw''⟩ := hw'; subst hw'') | ((with_reducible refine' wpList_store_blk (cs := nodz) 25 (.tmp 6) (.tmp 29) rfl ?_ ?_ ?_ (kR.drewN _) sz_node ?_ ?_ ?_ ?_); exact rfl; exact rfl; exact rfl; exact rfl; exact rfl; exact node_ones rfl; intro w4 k4 hO4 hz4; simp only [Act.put]))
      ((try simp only [Exit.inBlock, Exit.then]); refine bodyPost_ret (results_cell_row_tmp rfl _ _ _ _ _ _ _ rfl k4 Tryd.underlying25 rfl (by rw [sz_node]; rfl)) rfl ?_)
      rw [HS.out]
      exact ⟨nodz, 6, rfl, ⟨rfl, rfl⟩, (below_drewN hb3 _).trans (hO4.below hRw (Nat.le_trans hb3.size (Nat.le_refl _)))⟩
    obtain ⟨j, rfl⟩ : ∃ j : Nat, i = (j : Int) := ⟨i.toNat, by omega⟩
    have L1 : decide ((j : Int) < 0) = false := decide_eq_false h1
    by_cases h2 : ts.length ≤ j
    · have HS := Lib.hid (show tset ((j : Int) :: p) (.mk k n m ts) x = none by rw [tset, if_pos (by omega), Int.toNat_natCast, List.getElem?_eq_none h2]; rfl)
      have L2 : decide (ts.length ≤ j) = true := decide_eq_true h2
      clear h1 h2
      go_wp2_with (first | ((with_reducible refine' wpList_len_rd (.tmp 12) 22 rfl ?_ Tryd.underlying22 ?_ hr3 ?_); exact rfl; exact rfl; simp only [Act.put, List.setIfInBounds_toArray, List.set_cons_succ, List.set_cons_zero]) | (refine wp_region_quiet_lit (by kernel_rfl) (by kernel_rfl) ?_; (repeat (first | ((with_reducible refine' wpQuiet_at1_rd (.tmp 16) (.const (.int .i64 0)) 22 rfl ?_ Tryd.underlying22 sz_int ?_ hr3 (0) ?_ ?_ ?_); exact rfl; exact rfl; (show (_ : Int) = _; omega); omega; simp only [Act.put, List.setIfInBounds_toArray, List.set_cons_succ, List.set_cons_zero]) | ((with_reducible refine' wpQuiet_load_rd (fun _ h => h) (.tmp 17) 3 rfl ?_ ld_int ?_ hr3 (C0.out) ?_); exact rfl; exact rfl; simp only [Act.put, List.setIfInBounds_toArray, List.set_cons_succ, List.set_cons_zero]) | ((with_reducible refine' wpQuiet_at1_rd (.tmp 21) (.const (.int .i64 0)) 22 rfl ?_ Tryd.underlying22 sz_int ?_ hr3 (0) ?_ ?_ ?_); exact rfl; exact rfl; (show (_ : Int) = _; omega); omega; simp only [Act.put, List.setIfInBounds_toArray, List.set_cons_succ, List.set_cons_zero]) | ((with_reducible refine' wpQuiet_load_rd (fun _ h => h) (.tmp 22) 3 rfl ?_ ld_int ?_ hr3 (C0.out) ?_); exact rfl; exact rfl; simp only [Act.put, List.setIfInBounds_toArray, List.set_cons_succ, List.set_cons_zero]) | ((with_reducible refine' wpQuietM_field (k := 0) (j := 3) (.tmp 3) 25 3 rfl ?_ fo_node_3 ?_ rfl ?_); exact rfl; rotate_left; exact rfl; simp only [Act.put, List.setIfInBounds_toArray, List.set_cons_succ, List.set_cons_zero]) | ((with_reducible refine' wpQuiet_load_blk (fun _ h => h) (.tmp 24) 23 rfl ?_ ld_nds ?_ kA (X3.out) ?_); exact rfl; exact rfl; simp only [Act.put, List.setIfInBounds_toArray, List.set_cons_succ, List.set_cons_zero]) | ((with_reducible refine' wpQuiet_len_rd (.tmp 25) 23 rfl ?_ Tryd.underlying23 ?_ hrd3 ?_); exact rfl; exact rfl; simp only [Act.put, List.setIfInBounds_toArray, List.set_cons_succ, List.set_cons_zero]) | go_big_quiet_step (fail))); refine wpQuiet_nil ?_; intro _ hw'; obtain ⟨nq, hw''⟩ := hw'; subst hw'') | ((with_reducible refine' wpList_store_blk (cs := nodz) 25 (.tmp 6) (.tmp 29) rfl ?_ ?_ ?_ (kR.drewN _) sz_node ?_ ?_ ?_ ?_); exact rfl; exact rfl; exact rfl; exact rfl; exact rfl; exact node_ones rfl; intro w4 k4 hO4 hz4; simp only [Act.put]))
      ((try simp only [Exit.inBlock, Exit.then]); refine bodyPost_ret (results_cell_row_tmp rfl _ _ _ _ _ _ _ rfl k4 Tryd.underlying25 rfl (by rw [sz_node]; rfl)) rfl ?_)
      rw [HS.out]
      exact ⟨nodz, 6, rfl, ⟨rfl, rfl⟩, (below_drewN hb3 _).trans (hO4.below hRw (Nat.le_trans hb3.size (Nat.le_refl _)))⟩
    · have hj : j < ts.length := by omega
      obtain ⟨u, hu⟩ := kid_at hj
      have HS := Lib.hid (tset_succ (p := p) (k := k) (n := n) (m := m) (x := x) hu)
      have L2 : decide (ts.length ≤ j) = false := decide_eq_false h2
      have hTu := IsTsX.get hts3 hu
      obtain ⟨cs, hcs⟩ : ∃ cs, (xs.drop (j * 4)).take 4 = cs := ⟨_, rfl⟩
      rw [hcs] at hTu
      have HC := Lib.hid hcs
      have BD := Lib.hid (show j * 4 + 4 ≤ xs.length by rw [hts3.len]; omega)
      have hsu : tsize u ≤ 1000000 := by have := tsize_mem (List.mem_of_getElem? hu); omega
      have HU := Lib.hid hu
      clear h1 h2 hu hcs
      go_upto_region 5 with (first | ((with_reducible refine' wpList_len_rd (.tmp 12) 22 rfl ?_ Tryd.underlying22 ?_ hr3 ?_); exact rfl; exact rfl; simp only [Act.put, List.setIfInBounds_toArray, List.set_cons_succ, List.set_cons_zero]) | (refine wp_region_quiet_lit (by kernel_rfl) (by kernel_rfl) ?_; (repeat (first | ((with_reducible refine' wpQuiet_at1_rd (.tmp 16) (.const (.int .i64 0)) 22 rfl ?_ Tryd.underlying22 sz_int ?_ hr3 (0) ?_ ?_ ?_); exact rfl; exact rfl; (show (_ : Int) = _; omega); omega; simp only [Act.put, List.setIfInBounds_toArray, List.set_cons_succ, List.set_cons_zero]) | ((with_reducible refine' wpQuiet_load_rd (fun _ h => h) (.tmp 17) 3 rfl ?_ ld_int ?_ hr3 (C0.out) ?_); exact rfl; exact rfl; simp only [Act.put, List.setIfInBounds_toArray, List.set_cons_succ, List.set_cons_zero]) | ((with_reducible refine' wpQuiet_at1_rd (.tmp 21) (.const (.int .i64 0)) 22 rfl ?_ Tryd.underlying22 sz_int ?_ hr3 (0) ?_ ?_ ?_); exact rfl; exact rfl; (show (_ : Int) = _; omega); omega; simp only [Act.put, List.setIfInBounds_toArray, List.set_cons_succ, List.set_cons_zero]) | ((with_reducible refine' wpQuiet_load_rd (fun _ h => h) (.tmp 22) 3 rfl ?_ ld_int ?_ hr3 (C0.out) ?_); exact rfl; exact rfl; simp only [Act.put, List.setIfInBounds_toArray, List.set_cons_succ, List.set_cons_zero]) | ((with_reducible refine' wpQuietM_field (k := 0) (j := 3) (.tmp 3) 25 3 rfl ?_ fo_node_3 ?_ rfl ?_); exact rfl; rotate_left; exact rfl; simp only [Act.put, List.setIfInBounds_toArray, List.set_cons_succ, List.set_cons_zero]) | ((with_reducible refine' wpQuiet_load_blk (fun _ h => h) (.tmp 24) 23 rfl ?_ ld_nds ?_ kA (X3.out) ?_); exact rfl; exact rfl; simp only [Act.put, List.setIfInBounds_toArray, List.set_cons_succ, List.set_cons_zero]) | ((with_reducible refine' wpQuiet_len_rd (.tmp 25) 23 rfl ?_ Tryd.underlying23 ?_ hrd3 ?_); exact rfl; exact rfl; simp only [Act.put, List.setIfInBounds_toArray, List.set_cons_succ, List.set_cons_zero]) | go_big_quiet_step (fail))); refine wpQuiet_nil ?_; intro _ hw'; obtain ⟨nq, hw''⟩ := hw'; subst hw''))
      obtain ⟨w4, hw4⟩ : ∃ w4, w3.drewN nq = w4 := ⟨_, rfl⟩
      have hb34 : Below w3.heap.size w3 w4 := by rw [← hw4]; exact below_drewN (Below.refl _ _) nq
      rw [hw4]
      clear hw4
      have kA4 := kA.below hb34 (by omega)
      have kD4 := kD.below hb34 (by omega)
      have kR4 := kR.below hb34 lR3
      have hr4 := hr3.below hb34
      have hrd4 := hrd3.below hb34
      have hts4 := Lib.hid (hts3.below hb34)
      have hTu4 := hTu.below hb34
      have hU4 := HU3.out.below hb34
      have hb4 := hb3.trans (hb34.mono hb3.size)
      have hs34 := hb34.size
      have UB := Lib.hid (show 0 + 4 ≤ ds.length by rw [UL.out]; omega)
      have UC := Lib.hid (show (ds.drop 0).take 4 = ds by rw [List.drop_zero]; exact List.take_of_length_le (by rw [UL.out]; omega))
      clear kA kD kR hr3 hrd3 hrk3 hts3 hTu HU3 hb3 hb34
      go_cut [8, 9] from 30 to 43 (fun p8 c9 wc => ∃ (B8 : Nat) (es : List Value) (c : Int), p8 = .pointer (some ⟨B8, 0, none⟩) ∧ c9 = .int .i64 c ∧ Blk wc B8 25 es ∧ w3.heap.size ≤ B8 ∧ Hid (SetR (fun b => (X b ∨ w.heap.size ≤ b) ∧ b ≠ B8 ∧ b ≠ R) wc es c (tset p u x)) ∧ Below w4.heap.size w4 wc)
      case first =>
        have hTd := hTu4.below (Below.refl _ w4).drew
        have hUd := hU4.below (Below.refl _ w4).drew
        (refine wp_region_plan (fun w' => Below w4.heap.size w4 w') (.f 0 (.f 1 (.f 2 (.f 3 (.f 4 (.f 5 (.f 6 (.f 7 (.f 8 (.f 9 (.two 10 14 (.f 11 (.f 12 (.f 13 (.o 14 (.o 15 .tail))))) (.o 10 (.f 11 (.f 12 (.f 13 (.o 15 .tail)))))))))))))))) 16 (by kernel_rfl) (by kernel_rfl) ((Below.refl _ _).drew) ?_)
        (repeat (refine wpPlan_f rfl ?_; (first | ((with_reducible refine' wpQuietM_field (k := 0) (j := 3) (.tmp 3) 25 3 rfl ?_ fo_node_3 ?_ rfl ?_); exact rfl; rotate_left; exact rfl; simp only [Act.put, List.setIfInBounds_toArray, List.set_cons_succ, List.set_cons_zero]) | ((with_reducible refine' wpQuietC_load_blk (cov_below _) (.tmp 31) 23 rfl ?_ ld_nds ?_ kA4 (X3.out) ?_); exact rfl; exact rfl; simp only [Act.put, List.setIfInBounds_toArray, List.set_cons_succ, List.set_cons_zero]) | ((with_reducible refine' wpQuiet_at1_rd (.tmp 33) (.const (.int .i64 0)) 22 rfl ?_ Tryd.underlying22 sz_int ?_ hr4 (0) ?_ ?_ ?_); exact rfl; exact rfl; (show (_ : Int) = _; omega); omega; simp only [Act.put, List.setIfInBounds_toArray, List.set_cons_succ, List.set_cons_zero]) | ((with_reducible refine' wpQuietC_load_rd (cov_below _) (.tmp 34) 3 rfl ?_ ld_int ?_ hr4 (C0.out) ?_); exact rfl; exact rfl; simp only [Act.put, List.setIfInBounds_toArray, List.set_cons_succ, List.set_cons_zero]) | ((with_reducible refine' wpQuiet_at_rd (.tmp 32) (.tmp 35) 23 rfl ?_ Tryd.underlying23 sz_node ?_ hrd4 (by decide) (j) ?_ ?_ ?_); exact rfl; exact rfl; (show (_ : Int) = _; omega); omega; simp only [Act.put, List.setIfInBounds_toArray, List.set_cons_succ, List.set_cons_zero]) | ((with_reducible refine' wpQuietC_load_st (cov_below _) (cp := cs) (.tmp 36) 25 rfl ?_ Tryd.underlying25 ?_ sz_node ?_ hrd4 ?_ ?_ HC.out ?_); exact rfl; exact rfl; exact rfl; exact BD.out; decide; simp only [Act.put, List.setIfInBounds_toArray, List.set_cons_succ, List.set_cons_zero]) | ((with_reducible refine' wpQuietC_from_rd (.tmp 38) (.const (.int .i64 1)) 22 rfl ?_ Tryd.underlying22 sz_int hr4 (1) ?_ ?_ ?_ ?_); exact rfl; exact rfl; (show (_ : Int) = _; omega); omega; intro v' hr5; simp only [Act.put, List.setIfInBounds_toArray, List.set_cons_succ, List.set_cons_zero]) | ((with_reducible refine' wpQuietC_load_part (f := 0) (cp := ds) (cov_below _) (.tmp 5) 25 rfl ?_ Tryd.underlying25 rfl sz_node ?_ kD4 ?_ ?_ ?_); exact rfl; exact rfl; exact UB.out; exact UC.out; simp only [Act.put, List.setIfInBounds_toArray, List.set_cons_succ, List.set_cons_zero]) | go_big_quiet_step (fail) | (go_big_quiet_want; go_big_quiet_op; refine ⟨_, fun _ _ => rfl, ?_⟩; go_big_quiet_on)); refine wpQuiet_nil ?_))
        have r5 : Rd w4.drew 1 v' p.length (iv p) := by
          rw [Nat.add_sub_cancel] at hr5
          simpa using hr5.below (Below.refl _ w4).drew
        have IHu := Lib.hid (IH.out (fun b => X b ∧ b < w.heap.size) u x cs ds v')
        have ws := hb4.size
        refine wpPlan_two rfl rfl ?_ ?_
        · go_wp2_with ((go_at_call 25; (with_reducible refine (IHu.out _ hTd hUd r5 hsu).mono ?_); rintro e w' ⟨es, c, rfl, hS, hN5⟩))
          have hN5' : Below w4.heap.size w4 w' := (Below.refl _ w4).drew.trans hN5
          have EL := Lib.hid hS.len
          have EO := Lib.hid hS.ones
          refine ⟨rfl, hN5', ?_⟩
          (repeat (refine wpPlan_f rfl ?_; (first | fail | go_big_quiet_step (fail) | (go_big_quiet_want; go_big_quiet_op; refine ⟨_, fun _ _ => rfl, ?_⟩; go_big_quiet_on)); refine wpQuiet_nil ?_))
          refine wpPlan_o rfl ?_
          go_wp2_with (((with_reducible refine' wpList_alloc_blk (cs := nodz) 25 rfl ?_ zr_node ?_ ?_); exact rfl; exact nodz_cells; intro w6 k8 hN6 hz6; simp only [Act.put, List.setIfInBounds_toArray, List.set_cons_succ, List.set_cons_zero]))
          have s5 := hN5'.size
          have hb6 : Below w4.heap.size w4 w6 := hN5'.trans (hN6.mono s5)
          refine ⟨rfl, hb6, ?_⟩
          refine wpPlan_o rfl ?_
          go_wp2_with (((with_reducible refine' wpList_store_blk (cs := es) 25 (.tmp 8) (.tmp 42) rfl ?_ ?_ ?_ k8 sz_node ?_ ?_ ?_ ?_); exact rfl; exact rfl; exact rfl; exact EL.out; exact rfl; exact EO.out; intro w7 k8b hO7 hz7; simp only [Act.put]))
          have hb7 : Below w4.heap.size w4 w7 := hb6.trans (hO7.below s5 hb6.size)
          refine ⟨rfl, hb7, ?_⟩
          refine wpPlan_tail ?_
          go_wp2_with fail
          refine onlyN ?_
          go_wp2_with fail
          go_meet
          case rel =>
            refine ⟨w'.heap.size, es, c, rfl, rfl, k8b, by omega, Lib.hid ?_, hb7⟩
            refine ((hS.lt.keep (Keep.below hN6)).keep (Keep.only hO7 fun b h => by have := h.2; omega)).mono fun b h => ?_
            have h2 := h.2
            rcases h.1 with h1 | h1
            · exact ⟨.inl h1.1, by omega, by have := h1.2; omega⟩
            · have h3 : w4.heap.size ≤ b := h1
              exact ⟨.inr (by omega), by omega, by omega⟩
        · go_wp2_with (((with_reducible refine' wpList_alloc_blk (cs := nodz) 25 rfl ?_ zr_node ?_ ?_); exact rfl; exact nodz_cells; intro w6 k8 hN6 hz6; simp only [Act.put, List.setIfInBounds_toArray, List.set_cons_succ, List.set_cons_zero]))
          have k8' : Blk w6 w4.heap.size 25 nodz := k8
          have hN6' : Below w4.heap.size w4 w6 := (Below.refl _ w4).drew.trans hN6
          have l8 := k8'.lt
          refine ⟨rfl, hN6', ?_⟩
          refine wpPlan_o rfl ?_
          go_wp2_with ((go_at_call 25; (with_reducible refine (IHu.out _ (hTd.below hN6) (hUd.below hN6) (r5.below hN6) hsu).mono ?_); rintro e w' ⟨es, c, rfl, hS, hN5⟩))
          have EL := Lib.hid hS.len
          have EO := Lib.hid hS.ones
          have s6 := hN6'.size
          have hb5 : Below w4.heap.size w4 w' := hN6'.trans (hN5.mono s6)
          refine ⟨rfl, hb5, ?_⟩
          (repeat (refine wpPlan_f rfl ?_; (first | fail | go_big_quiet_step (fail) | (go_big_quiet_want; go_big_quiet_op; refine ⟨_, fun _ _ => rfl, ?_⟩; go_big_quiet_on)); refine wpQuiet_nil ?_))
          refine wpPlan_o rfl ?_
          go_wp2_with (((with_reducible refine' wpList_store_blk (cs := es) 25 (.tmp 8) (.tmp 42) rfl ?_ ?_ ?_ (k8'.below hN5 l8) sz_node ?_ ?_ ?_ ?_); exact rfl; exact rfl; exact rfl; exact EL.out; exact rfl; exact EO.out; intro w7 k8b hO7 hz7; simp only [Act.put]))
          have hb7 : Below w4.heap.size w4 w7 := hb5.trans (hO7.below (Nat.le_refl _) hb5.size)
          refine ⟨rfl, hb7, ?_⟩
          refine wpPlan_tail ?_
          go_wp2_with fail
          refine onlyN ?_
          go_wp2_with fail
          go_meet
          case rel =>
            refine ⟨w4.heap.size, es, c, rfl, rfl, k8b, by omega, Lib.hid ?_, hb7⟩
            refine (hS.keep (Keep.only hO7 fun b h => by rcases h with h | h; exact (by have := h.2; omega); exact (by have h3 : w6.heap.size ≤ b := h; omega))).mono fun b h => ?_
            rcases h with h1 | h1
            · exact ⟨.inl h1.1, by have := h1.2; omega, by have := h1.2; omega⟩
            · have h3 : w6.heap.size ≤ b := h1
              exact ⟨.inr (by omega), by omega, by omega⟩
      case rest =>
        obtain ⟨B8, es, c, rfl, rfl, k8, hB8, hS, hbc⟩ := hcut
        have hsc := hbc.size
        have hbw := hb4.trans (hbc.mono hb4.size)
        have kAc := kA4.below hbc (by omega)
        have kRc := kR4.below hbc (by omega)
        have hrc := hr4.below hbc
        have hrdc := hrd4.below hbc
        have htsc := hts4.out.below hbc
        clear kA4 kD4 kR4 hr4 hrd4 hts4 hTu4 hU4 hbc UB UC hb4 IH
        obtain ⟨oz, hoz⟩ : ∃ oz, tset p u x = oz := ⟨_, rfl⟩
        rw [hoz] at hS HS
        clear hoz
        cases oz with
        | none =>
          obtain ⟨rfl, rfl⟩ := hS.out
          go_wp2_with (first | ((with_reducible refine' wpList_store_blk (cs := nodz) 25 (.tmp 6) (.tmp 46) rfl ?_ ?_ ?_ kRc sz_node ?_ ?_ ?_ ?_); exact rfl; exact rfl; exact rfl; exact rfl; exact rfl; exact node_ones rfl; intro w7 k7 hO7 hz7; simp only [Act.put]))
          ((try simp only [Exit.inBlock, Exit.then]); refine bodyPost_ret (results_cell_row_tmp rfl _ _ _ _ _ _ _ rfl k7 Tryd.underlying25 rfl (by rw [sz_node]; rfl)) rfl ?_)
          rw [HS.out]
          exact ⟨nodz, 6, rfl, ⟨rfl, rfl⟩, hbw.trans (hO7.below hRw hbw.size)⟩
        | some z =>
          obtain ⟨rfl, hZ⟩ := hS.out
          have ZL := Lib.hid hZ.len
          have ZO := Lib.hid hZ.isT.ones
          have HZ := Lib.hid (show IsTX (fun b => (X b ∨ w.heap.size ≤ b) ∧ b ≠ R ∧ b < wc.heap.size) wc z es from hZ.lt.mono fun b h => ⟨h.1.1, h.1.2.2, h.2⟩)
          have hts' := Lib.hid (show IsTsX (fun b => (X b ∨ w.heap.size ≤ b) ∧ b ≠ R ∧ b < wc.heap.size) wc ts xs from htsc.mono fun b h => ⟨.inl h.1, by have := h.2; omega, by have := h.2; have := hbw.size; omega⟩)
          have XL := Lib.hid htsc.len
          have lA := kAc.lt
          have lR := kRc.lt
          have l8 := k8.lt
          clear hS hZ htsc
          go_upto_region 11 with (first
            | ((with_reducible refine' wpList_loadst_blk (.tmp 3) 25 rfl ?_ Tryd.underlying25 ?_ sz_node ?_ kAc ?_ ?_ ?_); exact rfl; exact rfl; exact rfl; exact rfl; decide; simp only [Act.put, List.setIfInBounds_toArray, List.set_cons_succ, List.set_cons_zero]) | (((with_reducible refine' wpList_alloc_blk (cs := nodz) 25 rfl ?_ zr_node ?_ ?_); exact rfl; exact nodz_cells; intro w6 kN hN6 hz6; simp only [Act.put, List.setIfInBounds_toArray, List.set_cons_succ, List.set_cons_zero]))
            | (((with_reducible refine' wpList_store_blk (cs := [.int .i64 k, .int .i64 n, .int .i64 m, vk]) 25 (.tmp 10) (.tmp 48) rfl ?_ ?_ ?_ kN sz_node ?_ ?_ ?_ ?_); exact rfl; exact rfl; exact rfl; exact rfl; exact rfl; exact node_ones (X3one hrdc); intro w7 k7 hO7 hz7; simp only [Act.put]))
            | ((with_reducible refine' wpList_field_blk (j := 3) (.tmp 10) 25 3 rfl ?_ fo_node_3 ?_ rfl ?_); exact rfl; exact rfl; simp only [Act.put, List.setIfInBounds_toArray, List.set_cons_succ, List.set_cons_zero]) | ((with_reducible refine' wpList_set_blk (u := .slice none 0 0) 23 (.tmp 49) (.const (.slice none 0 0)) rfl ?_ sz_nds ?_ ?_ k7 ((len4_lt)) ?_ ?_); exact rfl; exact rfl; exact rfl; exact rfl; intro w8 kN8 hO8 hz8; simp only [Act.put]))
          have kN8' : Blk w8 wc.heap.size 25 [.int .i64 k, .int .i64 n, .int .i64 m, .slice none 0 0] := kN8
          have hb8 : Below wc.heap.size wc w8 := (hN6.trans (hO7.below (Nat.le_refl _) hN6.size)).trans (hO8.below (Nat.le_refl _) (by have := hN6.size; have := hO7.size; omega))
          obtain ⟨N, hN⟩ : ∃ N, wc.heap.size = N := ⟨_, rfl⟩
          rw [hN] at kN8'
          have HN := Lib.hid hN
          have hsN : N + 1 ≤ w8.heap.size := by have := kN8'.lt; omega
          simp only [hN]
          have lN : A < N ∧ R < N ∧ B8 < N := by omega
          clear kN k7 kN8 hN6 hO7 hO8 hz6 hz7 hz8 hN
          go_loopw [11] (fun i wr => ∃ (q : Nat) (v : Value) (ys : List Value), i = .int .i64 (q : Int) ∧ q ≤ ts.length ∧ wr.ownsRow (N + 1) 25 4 v q ys ∧ Hid (IsTsX (fun b => (X b ∨ w.heap.size ≤ b) ∧ b ≠ R ∧ b < wc.heap.size) wc ((ts.set j z).take q) ys) ∧
            Blk wr N 25 [.int .i64 k, .int .i64 n, .int .i64 m, v] ∧ Below wc.heap.size wc wr ∧ N + 1 ≤ wr.heap.size) (fun i _ => ts.length - (intOf i).toNat)
          case atStart => exact ⟨0, _, [], rfl, Nat.zero_le _, World.ownsRow_nil _ _ _ _, Lib.hid (by rw [List.take_zero]; exact IsTsX.nil), kN8', hb8, hsN⟩
          case round =>
            obtain ⟨q, vo, ys, rfl, hq, hown, HY, kN, hb, hsz⟩ := hrel
            obtain ⟨wo, rfl⟩ : ∃ wo : World, wo = wr := ⟨_, rfl⟩
            have kA := kAc.below hb lA
            have hrd := hrdc.below hb
            have hri := hrc.below hb
            have Y3 := Lib.hid (show ([.int .i64 k, .int .i64 n, .int .i64 m, vo] : List Value)[3]? = some vo from rfl)
            have vN : vo.ownBlock ≠ some N := own_ne hown (by omega)
            by_cases hql : q < ts.length
            · by_cases hqj : q = j
              · subst hqj
                have TKS := Lib.hid (take_set_eq (z := z) hql)
                have k8o := k8.below hb l8
                go_upto_region 12 with (first
                  | ((with_reducible refine' wpList_field_blk (j := 3) (.tmp 3) 25 3 rfl ?_ fo_node_3 ?_ rfl ?_); exact rfl; exact rfl; simp only [Act.put, List.setIfInBounds_toArray, List.set_cons_succ, List.set_cons_zero]) | ((with_reducible refine' wpList_load_blk (.tmp 51) 23 rfl ?_ ld_nds ?_ kA (X3.out) ?_); exact rfl; exact rfl; simp only [Act.put, List.setIfInBounds_toArray, List.set_cons_succ, List.set_cons_zero]) | ((with_reducible refine' wpList_len_rd (.tmp 52) 23 rfl ?_ Tryd.underlying23 ?_ hrd ?_); exact rfl; exact rfl; simp only [Act.put, List.setIfInBounds_toArray, List.set_cons_succ, List.set_cons_zero]) | ((with_reducible refine' wpList_at1_rd (.tmp 58) (.const (.int .i64 0)) 22 rfl ?_ Tryd.underlying22 sz_int ?_ hri (0) ?_ ?_ ?_); exact rfl; exact rfl; (show (_ : Int) = _; omega); omega; simp only [Act.put, List.setIfInBounds_toArray, List.set_cons_succ, List.set_cons_zero]) | ((with_reducible refine' wpList_load_rd (.tmp 59) 3 rfl ?_ ld_int ?_ hri (C0.out) ?_); exact rfl; exact rfl; simp only [Act.put, List.setIfInBounds_toArray, List.set_cons_succ, List.set_cons_zero])
                  | ((with_reducible refine' wpList_field_blk (j := 3) (.tmp 10) 25 3 rfl ?_ fo_node_3 ?_ rfl ?_); exact rfl; exact rfl; simp only [Act.put, List.setIfInBounds_toArray, List.set_cons_succ, List.set_cons_zero]) | ((with_reducible refine' wpList_load_blk (.tmp 62) 23 rfl ?_ ld_nds ?_ kN (Y3.out) ?_); exact rfl; exact rfl; simp only [Act.put, List.setIfInBounds_toArray, List.set_cons_succ, List.set_cons_zero]) | ((with_reducible refine' wpList_loadst_blk (.tmp 8) 25 rfl ?_ Tryd.underlying25 ?_ sz_node ?_ k8o ?_ ?_ ?_); exact rfl; exact rfl; exact rfl; exact ZL.out; decide; simp only [Act.put, List.setIfInBounds_toArray, List.set_cons_succ, List.set_cons_zero])
                  | (((with_reducible refine' wpList_build_sts (css := [es]) rfl ?_ Tryd.underlying23 inf_node ?_ ?_ ?_ ?_ ?_ ?_); exact rfl; exact rfl; (first | omega | decide); (first | omega | decide); exact rfl; (intro c hc; simp at hc; subst hc; exact ZL.out); intro w11 k11 hN11 hz11; simp only [Act.put, List.setIfInBounds_toArray, List.set_cons_succ, List.set_cons_zero]); rw [flat1] at k11; have o11 := own_below hown hN11; have r11 := k11.rdall 1 4 ZL.out (by unfold maxLen; omega); have s11 : N + 1 ≤ w11.heap.size := Nat.le_trans hsz hN11.size)
                  | (((with_reducible refine' wpList_append_at (.tmp 63) (.tmp 65) 23 rfl ?_ Tryd.underlying23 inf_node ?_ ?_ ?_ o11 ?_ r11 ZO.out ?_ ?_ s11 ?_); exact rfl; exact rfl; omega; exact rfl; exact rfl; (first | omega | (unfold maxLen; omega)); omega; intro v' w12 o12 hg12 hst12; simp only [Act.put, List.setIfInBounds_toArray, List.set_cons_succ, List.set_cons_zero]); have kN12 := (kN.below hN11 hsz).grown hg12 (fun e => vN e.symm))
                  | ((with_reducible refine' wpList_set_blk (u := v') 23 (.tmp 67) (.tmp 66) rfl ?_ sz_nds ?_ ?_ kN12 (len4_lt) ?_ ?_); exact rfl; exact rfl; exact rfl; exact (own_one o12); intro w13 k13 hO13 hz13; simp only [Act.put, List.setIfInBounds_toArray, List.set_cons_succ, List.set_cons_zero]))
                have HY13 := Lib.hid (show IsTsX (fun b => (X b ∨ w.heap.size ≤ b) ∧ b ≠ R ∧ b < wc.heap.size) wc ((ts.set q z).take (q + 1)) (ys ++ es) by rw [TKS.out]; exact HY.out.snoc HZ.out)
                have hb11 : Below wc.heap.size wc w11 := hb.trans (hN11.mono hb.size)
                have o13 := own_only o12 hO13 (own_ne o12 (by omega))
                have hb13 : Below wc.heap.size wc w13 := (hb11.grown hg12 hb11.size (fun b hb => by have := (o11.lt b hb).1; have := HN.out; omega)).trans (hO13.below (by have := HN.out; omega) (by have := kN12.lt; have := HN.out; omega))
                have s13 : N + 1 ≤ w13.heap.size := k13.lt
                clear HY hown kN hb o11 r11 k11 hN11 hg12 hst12 kN12 o12 hO13 hb11
                go_wp2_with fail
                go_roundw
                case rel => (first | exact ⟨_, v', _, by go_num, by omega, o13, HY13, k13, hb13, s13⟩ | ((repeat apply Exists.intro); exact ⟨⟨_, v', _, by go_num, by omega, o13, HY13, k13, hb13, s13⟩, rfl⟩))
                case measure => simp [intOf]; omega
              · obtain ⟨tq, htq⟩ := kid_at hql
                have hTq := hts'.out.get htq
                obtain ⟨cq, hcq⟩ : ∃ cs, (xs.drop (q * 4)).take 4 = cs := ⟨_, rfl⟩
                rw [hcq] at hTq
                have HQ := Lib.hid hcq
                have BQ := Lib.hid (show q * 4 + 4 ≤ xs.length by rw [XL.out]; omega)
                have QL := Lib.hid hTq.len
                have QO := Lib.hid hTq.isT.ones
                have TKS := Lib.hid (take_set_lt (z := z) htq hqj)
                have HY13 := Lib.hid (show IsTsX (fun b => (X b ∨ w.heap.size ≤ b) ∧ b ≠ R ∧ b < wc.heap.size) wc ((ts.set j z).take (q + 1)) (ys ++ cq) by rw [TKS.out]; exact HY.out.snoc hTq)
                have LQ : ((q : Int) == (j : Int)) = false := by rw [beq_eq_false_iff_ne]; omega
                clear hcq htq hTq hqj
                go_upto_region 15 with (first
                  | ((with_reducible refine' wpList_field_blk (j := 3) (.tmp 3) 25 3 rfl ?_ fo_node_3 ?_ rfl ?_); exact rfl; exact rfl; simp only [Act.put, List.setIfInBounds_toArray, List.set_cons_succ, List.set_cons_zero]) | ((with_reducible refine' wpList_load_blk (.tmp 51) 23 rfl ?_ ld_nds ?_ kA (X3.out) ?_); exact rfl; exact rfl; simp only [Act.put, List.setIfInBounds_toArray, List.set_cons_succ, List.set_cons_zero]) | ((with_reducible refine' wpList_len_rd (.tmp 52) 23 rfl ?_ Tryd.underlying23 ?_ hrd ?_); exact rfl; exact rfl; simp only [Act.put, List.setIfInBounds_toArray, List.set_cons_succ, List.set_cons_zero]) | ((with_reducible refine' wpList_at1_rd (.tmp 58) (.const (.int .i64 0)) 22 rfl ?_ Tryd.underlying22 sz_int ?_ hri (0) ?_ ?_ ?_); exact rfl; exact rfl; (show (_ : Int) = _; omega); omega; simp only [Act.put, List.setIfInBounds_toArray, List.set_cons_succ, List.set_cons_zero]) | ((with_reducible refine' wpList_load_rd (.tmp 59) 3 rfl ?_ ld_int ?_ hri (C0.out) ?_); exact rfl; exact rfl; simp only [Act.put, List.setIfInBounds_toArray, List.set_cons_succ, List.set_cons_zero]))
                have CN : ∀ w', Below (N + 1) wo w' → Blk w' N 25 [.int .i64 k, .int .i64 n, .int .i64 m, vo] := fun w' h => Blk.below kN h (Nat.lt_succ_self _)
                have CA : ∀ w', Below (N + 1) wo w' → Blk w' A 25 [.int .i64 k, .int .i64 n, .int .i64 m, vk] := fun w' h => Blk.below kA h (by omega)
                have CR : ∀ w', Below (N + 1) wo w' → Rd w' 4 vk ts.length xs := fun w' h => hrdc.below (hb.trans (h.mono (by have := HN.out; omega)))
                (refine wp_region_plan (fun w' => Below (N + 1) wo w') (.f 0 (.f 1 (.f 2 (.f 3 (.f 4 (.f 5 (.f 6 (.o 7 (.o 8 .tail))))))))) 9 (by kernel_rfl) (by kernel_rfl) ((Below.refl _ _).drew) ?_)
                (repeat (refine wpPlan_f rfl ?_; (first | ((with_reducible refine' wpQuietM_field (k := 0) (j := 3) (.tmp 10) 25 3 rfl ?_ fo_node_3 ?_ rfl ?_); exact rfl; rotate_left; exact rfl; simp only [Act.put, List.setIfInBounds_toArray, List.set_cons_succ, List.set_cons_zero]) | ((with_reducible refine' wpQuietH_load_blk (.tmp 68) 23 rfl ?_ ld_nds ?_ (CN) (Y3.out) ?_); exact rfl; exact rfl; simp only [Act.put, List.setIfInBounds_toArray, List.set_cons_succ, List.set_cons_zero]) | ((with_reducible refine' wpQuietM_field (k := 0) (j := 3) (.tmp 3) 25 3 rfl ?_ fo_node_3 ?_ rfl ?_); exact rfl; rotate_left; exact rfl; simp only [Act.put, List.setIfInBounds_toArray, List.set_cons_succ, List.set_cons_zero]) | ((with_reducible refine' wpQuietH_load_blk (.tmp 70) 23 rfl ?_ ld_nds ?_ (CA) (X3.out) ?_); exact rfl; exact rfl; simp only [Act.put, List.setIfInBounds_toArray, List.set_cons_succ, List.set_cons_zero]) | ((with_reducible refine' wpQuiet_at_rd (.tmp 71) (.tmp 72) 23 rfl ?_ Tryd.underlying23 sz_node ?_ hrd (by decide) (q) ?_ ?_ ?_); exact rfl; exact rfl; (show (_ : Int) = _; omega); omega; simp only [Act.put, List.setIfInBounds_toArray, List.set_cons_succ, List.set_cons_zero]) | ((with_reducible refine' wpQuietH_load_st (cp := cq) (.tmp 73) 25 rfl ?_ Tryd.underlying25 ?_ sz_node ?_ (CR) ?_ ?_ HQ.out ?_); exact rfl; exact rfl; exact rfl; exact BQ.out; decide; simp only [Act.put, List.setIfInBounds_toArray, List.set_cons_succ, List.set_cons_zero]) | go_big_quiet_step (fail) | (go_big_quiet_want; go_big_quiet_op; refine ⟨_, fun _ _ => rfl, ?_⟩; go_big_quiet_on)); refine wpQuiet_nil ?_))
                have hd : Below wo.heap.size wo wo.drew := (Below.refl _ wo).drew
                refine wpPlan_o rfl ?_
                go_wp2_with (((with_reducible refine' wpList_build_sts (css := [cq]) rfl ?_ Tryd.underlying23 inf_node ?_ ?_ ?_ ?_ ?_ ?_); exact rfl; exact rfl; (first | omega | decide); (first | omega | decide); exact rfl; (intro c hc; simp at hc; subst hc; exact QL.out); intro w11 k11 hN11 hz11; simp only [Act.put, List.setIfInBounds_toArray, List.set_cons_succ, List.set_cons_zero]))
                rw [flat1] at k11
                have hN11' : Below wo.heap.size wo w11 := hd.trans hN11
                refine ⟨rfl, hN11'.mono hsz, ?_⟩
                have o11 := own_below hown hN11'
                have r11 := k11.rdall 1 4 QL.out (by unfold maxLen; omega)
                have s11 : N + 1 ≤ w11.heap.size := Nat.le_trans hsz hN11'.size
                have kN11 := kN.below hN11' hsz
                refine wpPlan_o rfl ?_
                go_wp2_with (((with_reducible refine' wpList_append_at (.tmp 69) (.tmp 75) 23 rfl ?_ Tryd.underlying23 inf_node ?_ ?_ ?_ o11 ?_ r11 QO.out ?_ ?_ s11 ?_); exact rfl; exact rfl; omega; exact rfl; exact rfl; (first | omega | (unfold maxLen; omega)); omega; intro v' w12 o12 hg12 hst12; simp only [Act.put, List.setIfInBounds_toArray, List.set_cons_succ, List.set_cons_zero]))
                have kN12 := kN11.grown hg12 (fun e => vN e.symm)
                refine ⟨rfl, (hN11'.mono hsz).grown hg12 s11 (fun b hb => (o11.lt b hb).1), ?_⟩
                refine wpPlan_tail ?_
                go_wp2_with (first | ((with_reducible refine' wpList_field_blk (j := 3) (.tmp 10) 25 3 rfl ?_ fo_node_3 ?_ rfl ?_); exact rfl; exact rfl; simp only [Act.put, List.setIfInBounds_toArray, List.set_cons_succ, List.set_cons_zero]) | ((with_reducible refine' wpList_set_blk (u := v') 23 (.tmp 77) (.tmp 76) rfl ?_ sz_nds ?_ ?_ kN12 (len4_lt) ?_ ?_); exact rfl; exact rfl; exact rfl; exact (own_one o12); intro w13 k13 hO13 hz13; simp only [Act.put, List.setIfInBounds_toArray, List.set_cons_succ, List.set_cons_zero]))
                refine onlyN ?_
                have hb11 : Below wc.heap.size wc w11 := hb.trans (hN11'.mono hb.size)
                clear CN CA CR hN11'
                have o13 := own_only o12 hO13 (own_ne o12 (by omega))
                have hb13 : Below wc.heap.size wc w13 := (hb11.grown hg12 hb11.size (fun b hb => by have := (o11.lt b hb).1; have := HN.out; omega)).trans (hO13.below (by have := HN.out; omega) (by have := kN12.lt; have := HN.out; omega))
                have s13 : N + 1 ≤ w13.heap.size := k13.lt
                clear HY hown kN hb o11 r11 k11 hN11 hg12 hst12 kN12 o12 hO13 hb11
                go_wp2_with fail
                go_roundw
                case rel => (first | exact ⟨_, v', _, by go_num, by omega, o13, HY13, k13, hb13, s13⟩ | ((repeat apply Exists.intro); exact ⟨⟨_, v', _, by go_num, by omega, o13, HY13, k13, hb13, s13⟩, rfl⟩))
                case measure => simp [intOf]; omega
            · obtain rfl : q = ts.length := by omega
              go_wp2_with (first
                | ((with_reducible refine' wpList_field_blk (j := 3) (.tmp 3) 25 3 rfl ?_ fo_node_3 ?_ rfl ?_); exact rfl; exact rfl; simp only [Act.put, List.setIfInBounds_toArray, List.set_cons_succ, List.set_cons_zero]) | ((with_reducible refine' wpList_load_blk (.tmp 51) 23 rfl ?_ ld_nds ?_ kA (X3.out) ?_); exact rfl; exact rfl; simp only [Act.put, List.setIfInBounds_toArray, List.set_cons_succ, List.set_cons_zero]) | ((with_reducible refine' wpList_len_rd (.tmp 52) 23 rfl ?_ Tryd.underlying23 ?_ hrd ?_); exact rfl; exact rfl; simp only [Act.put, List.setIfInBounds_toArray, List.set_cons_succ, List.set_cons_zero]) | ((with_reducible refine' wpList_loadst_blk (.tmp 10) 25 rfl ?_ Tryd.underlying25 ?_ sz_node ?_ kN ?_ ?_ ?_); exact rfl; exact rfl; exact rfl; exact rfl; decide; simp only [Act.put, List.setIfInBounds_toArray, List.set_cons_succ, List.set_cons_zero])
                | ((with_reducible refine' wpList_store_blk (cs := [.int .i64 k, .int .i64 n, .int .i64 m, vo]) 25 (.tmp 6) (.tmp 78) rfl ?_ ?_ ?_ (kRc.below hb lR) sz_node ?_ ?_ ?_ ?_); exact rfl; exact rfl; exact rfl; exact rfl; exact rfl; exact node_ones (own_one hown); intro w13 k13 hO13 hz13; simp only [Act.put]))
              have hbe : Below w.heap.size w wo := hbw.trans (hb.mono hbw.size)
              have hTe := ((HY.out.keep (Keep.below hb)).only hO13 (fun b h => h.2.1)).mono (fun b h => h.1)
              have re := Rd.of_own (own_only hown hO13 (own_ne hown (by omega)))
              ((try simp only [Exit.inBlock, Exit.then]); refine bodyPost_ret (results_cell_row_tmp rfl _ _ _ _ _ _ _ rfl k13 Tryd.underlying25 rfl (by rw [sz_node]; simp)) rfl ?_)
              rw [HS.out]
              refine ⟨_, 0, rfl, ⟨rfl, ?_⟩, hbe.trans (hO13.below hRw hbe.size)⟩
              rw [List.take_of_length_le (by rw [List.length_set]; exact Nat.le_refl _)] at hTe
              exact IsTX.node (by rw [List.length_set]; exact re) (fun b hb _ => .inr (by have := (hown.lt b hb).1; have := hbw.size; have := HN.out; omega)) hTe
end Go.Proofs.YtdlhkhnoigbhjaaDoor.Wi
namespace Go.Proofs.YtdlhkhnoigbhjaaDoor.Lb
open Go Go.RowKit Go.Lib
section
variable {P : Program} {ops : Array Oper} {Q : Exit → Act → World → Prop} {a : Act} {w : World} {rest : List Oper} {o : Oper}
/-- '[]T{}' -/
theorem wpList_build_nil {t : TypeId} (ho : o.op = .buildSlice t 0 #[]) (hw : Region.wanted o (yielded ops a.tmps) = true) {e : TypeId} (ht : P.underlying t = some (.slice e)) {s : Nat} (hsz : (P.info? e).map (·.size) = some s)
    (h : ∀ v' w', w'.ownsRow w.heap.size e s v' 0 [] → Below w.heap.size w w' → wpList P ops Q rest (a.put o.dst v') w') : wpList P ops Q (o :: rest) a w := by
  obtain ⟨ti, hti, rfl⟩ := Option.map_eq_some_iff.1 hsz
  refine wpList_of_run hw (v := .slice (some ⟨w.heap.size, 0, none⟩) 0 0) (w' := w.alloc (.cells #[] e)) ?_ (h _ _ (World.ownsRow_made w #[] 0 (Nat.le_refl _) (by unfold maxLen; omega) (by simp)) ((Below.refl _ _).alloc (Nat.le_refl _) _))
  unfold execOp
  simp only [ho, Instr.buildSlice, Sem.run_bind, run_underlying ht, Result.andThen_ok]
  simp [sizeOf, typeInfo, hti, newRow, Instr.fill]
  rw [show Array.range 0 = #[] from Array.eq_empty_of_size_eq_zero (by simp), Array.map_empty]
end
end Go.Proofs.YtdlhkhnoigbhjaaDoor.Lb
