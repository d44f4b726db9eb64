/-
  Tsp, Tds, Tco, Tat, Tse, Tsf, Tsu, Tfi: my texts of these names, one behind the other. Conditions: those that each law names.
-/
import Derived.Test.YtdlhkhnoigbhjaaDoorMf
import Derived.Deep.CutRange
import Derived.Test.YtdlhkhnoigbhjaaDoorMb
namespace Go.Proofs.YtdlhkhnoigbhjaaDoor.Lb
open Go Go.RowKit Go.Lib Pu
section
variable {P : Program} {ops : Array Oper} {C : World → Prop} {R : Act → Prop} {a : Act} {w0 : World} {rest : List Oper} {o : Oper}
theorem wpQuietH_loadst_blk (p : Operand) (t : TypeId) (ho : o.op = .load t p) (hw : Region.wanted o (yielded ops a.tmps) = true) {d : TypeDesc} (hd : P.underlying t = some d) (ha : isAggD d = true) {s : Nat} (hsz : (P.info? t).map (·.size) = some s)
    {B : Nat} {t' : TypeId} {cs : List Value} (hx : a.eval p = .pointer (some ⟨B, 0, none⟩)) (hb : ∀ w, C w → Blk w B t' cs) (hs : cs.length = s) (hs0 : 0 < s)
    (h : wpQuiet P ops C R rest (a.put o.dst (.agg cs.toArray))) : wpQuiet P ops C R (o :: rest) a := by
  refine wpQuiet_of_run hw (fun w hw => ?_) h
  have hr := (hb w hw).rd 0 1 1 s (by omega) (Nat.le_refl _) (by unfold maxLen; omega)
  have hrun := run_load_st (P := P) (a := a) (o := o) p t ho hd ha hsz (k := 0) (by rw [hx]; simp [ep, Addr.add]) hr (by rw [List.drop_zero, List.length_take]; omega) hs0
  rw [List.drop_zero, List.drop_zero, Nat.one_mul, List.take_of_length_le (by rw [List.length_take]; omega), List.take_of_length_le (by omega)] at hrun
  exact hrun
theorem wpQuietC_to_own (x hi : Operand) (t : TypeId) (ho : o.op = .slice t x none (some hi) none) (hw : Region.wanted o (yielded ops a.tmps) = true)
    {e : TypeId} (ht : P.underlying t = some (.slice e)) {s : Nat} (hsz : (P.info? e).map (·.size) = some s) {e' : TypeId} {v : Value} {n base : Nat} {xs : List Value} (hv : w0.ownsRow base e' s v n xs)
    (H : Nat) (hx : a.eval x = v) (hhi : IsI (a.eval hi) (H : Int)) (h1 : H ≤ n)
    (h : ∀ v', w0.ownsRow base e' s v' H (xs.take (H * s)) → v'.ownBlock = v.ownBlock → wpQuiet P ops C R rest (a.put o.dst v')) : wpQuiet P ops C R (o :: rest) a := by
  obtain ⟨ti, hti, rfl⟩ := Option.map_eq_some_iff.1 hsz
  obtain ⟨kl, hhi⟩ := isI hhi
  obtain ⟨hl, hv⟩ := hv
  rcases hv with ⟨rfl, rfl⟩ | ⟨g, cap, cur, rfl, hb, hg, c1, c2, c3, c4⟩
  · obtain rfl : H = 0 := by omega
    refine wpQuiet_of_run hw (v := .slice none 0 0) (fun w _ => ?_) (h _ ⟨by simp, .inl ⟨rfl, rfl⟩⟩ rfl)
    unfold execOp
    simp [ho, Instr.sliceAt, hx, hhi, run_underlying ht, Instr.slice, Instr.sliceBounds, Instr.sliceBound, asIntOf, sizeOf, typeInfo, hti]
  · have hlen : (xs.take (H * ti.size)).length = H * ti.size := by rw [List.length_take, hl]; exact Nat.min_eq_left (Nat.mul_le_mul_right _ h1)
    refine wpQuiet_of_run hw (v := .slice (some ⟨g, 0, none⟩) H cap) (fun w _ => ?_) (h _ ⟨hlen, .inr ⟨g, cap, cur, rfl, hb, hg, by omega, c2, c3, by rw [← c4, List.take_take, Nat.min_eq_left (Nat.mul_le_mul_right _ h1)]⟩⟩ rfl)
    have e1 : H ≤ cap := by omega
    unfold execOp
    simp [ho, Instr.sliceAt, hx, hhi, run_underlying ht, Instr.slice, Instr.sliceBounds, Instr.sliceBound, asIntOf, sizeOf, typeInfo, hti, e1, Addr.add]
end
end Go.Proofs.YtdlhkhnoigbhjaaDoor.Lb
namespace Go.Proofs.YtdlhkhnoigbhjaaDoor.Wi
open Go Go.RowKit Pu Lb
set_option linter.unusedSimpArgs false
set_option linter.unusedVariables false
theorem AtR.tree {X : Nat → Prop} {w' : World} {ds : List Value} {b : Bool} {p : List Int} {t : Tree} (h : AtR X w' ds b (tat p t)) : ∃ u, IsTX X w' u ds ∧ tsize u ≤ tsize t := by
  cases ho : tat p t with
  | none =>
    rw [ho] at h
    obtain ⟨_, rfl⟩ := h
    exact ⟨.mk 0 0 0 [], IsTX.leaf, by rw [tsize, tsizes]; exact tsize_pos t⟩
  | some u => rw [ho] at h; exact ⟨u, h.2, tat_size p t u ho⟩
theorem len4_0 {a b c d : Value} : 0 < ([a, b, c, d] : List Value).length := by simp
theorem len4_1 {a b c d : Value} : 1 < ([a, b, c, d] : List Value).length := by simp
theorem len4_2 {a b c d : Value} : 2 < ([a, b, c, d] : List Value).length := by simp
theorem sz96 {B : Nat} {w6 w9 : World} (h : Below B w6 w9) : w6.heap.size ≤ w9.heap.size := h.size
theorem SetR.tree {X : Nat → Prop} {w' : World} {ds : List Value} {b : Int} {p : List Int} {t x : Tree} (h : SetR X w' ds b (tset p t x)) : ∃ u, IsTX X w' u ds ∧ tsize u ≤ tsize t + tsize x := by
  cases ho : tset p t x with
  | none =>
    rw [ho] at h
    obtain ⟨_, rfl⟩ := h
    exact ⟨.mk 0 0 0 [], IsTX.leaf, by have := tsize_pos t; rw [tsize, tsizes]; omega⟩
  | some u => rw [ho] at h; exact ⟨u, h.2, tset_size x p t u ho⟩
set_option maxRecDepth 100000 in
set_option maxHeartbeats 1600000 in
theorem spoilt_any (t : Tree) (cs : List Value) (at_ how by_ : Int) (w : World) (hT : IsT w t cs) (hs : tsize t ≤ 100000) (ha : I64 at_) (hh : I64 how) (hb_ : I64 by_) :
    Calls Tryd.prog 11 #[.agg cs.toArray, .int .i64 at_, .int .i64 how, .int .i64 by_] w fun e w' => ∃ (u : Tree) (es : List Value), e = .returned (.agg es.toArray) ∧ IsT w' u es ∧ tsize u ≤ 2 * tsize t + 1 ∧ Below w.heap.size w w' := by
  have CL := Lib.hid hT.len
  have CO := Lib.hid hT.ones
  have HA := Lib.hid ha; have HH := Lib.hid hh; have HB := Lib.hid hb_
  clear ha hh hb_
  have hpos := tsize_pos t
  go_enter Tryd.func11, Tryd.ntmps11
  go_upto_region 1 with (first
    | (((with_reducible refine' wpList_boxa (cs := cs) 25 (.tmp 0) rfl ?_ ?_ ?_); exact rfl; exact rfl; intro w1 kA hN1 hz1; simp only [Act.put, List.setIfInBounds_toArray, List.set_cons_succ, List.set_cons_zero]))
    | (((with_reducible refine' wpList_alloc_blk (cs := nodz) 25 rfl ?_ zr_node ?_ ?_); exact rfl; exact nodz_cells; intro w2 kR hN2 hz2; simp only [Act.put, List.setIfInBounds_toArray, List.set_cons_succ, List.set_cons_zero])))
  have lA := kA.lt
  have lR := kR.lt
  replace kA := kA.below hN2 lA
  have hb2 := hN1.trans (hN2.mono hN1.size)
  have hT2 := hT.below hb2
  obtain ⟨A, hA⟩ : ∃ A, w.heap.size = A := ⟨_, rfl⟩
  obtain ⟨R, hR⟩ : ∃ R, w1.heap.size = R := ⟨_, rfl⟩
  rw [hA] at kA
  rw [hR] at kR
  simp only [hA, hR]
  have HAw := Lib.hid hA
  have hAR : A < R ∧ w.heap.size ≤ A ∧ R < w2.heap.size := by omega
  have HT0 := Lib.hid hT.isTX.lt
  clear hz1 hz2 hN1 hN2 hA hR lA lR hT
  have IS : I64 (tsize t : Int) := by unfold I64; omega
  go_upto_region 2 with (first
    | ((with_reducible refine' wpList_loadst_blk (.tmp 4) 25 rfl ?_ Tryd.underlying25 ?_ sz_node ?_ kA ?_ ?_ ?_); exact rfl; exact rfl; exact rfl; exact CL.out; decide; simp only [Act.put, List.setIfInBounds_toArray, List.set_cons_succ, List.set_cons_zero])
    | ((go_at_call 24; (with_reducible refine (refpaths_any t cs _ hT2 (by omega)).mono ?_); rintro e w' ⟨vp, vs, rfl, op, HP, hN3⟩)))
  have kA3 := kA.below hN3 (by omega)
  have kR3 := kR.below hN3 hAR.2.2
  have hT3 := hT2.below hN3
  have hb3 := hb2.trans (hN3.mono hb2.size)
  have rp := Rd.of_own op
  obtain ⟨ix, hix⟩ : ∃ ix, aroundV at_ (tsize t : Int) = ix := ⟨_, rfl⟩
  have bx := aroundV_bd at_ (most := (tsize t : Int)) (by omega)
  rw [hix] at bx
  have HIX := Lib.hid hix
  obtain ⟨i, rfl⟩ : ∃ i : Nat, ix = (i : Int) := ⟨ix.toNat, by omega⟩
  obtain ⟨p, hp, hpl⟩ := path_at (t := t) (q := i) (by omega)
  obtain ⟨vq, hv1, hv2, hv3⟩ := HP.2 i p hp
  have VP := Lib.hid hv1
  have HP3 := Lib.hid HP
  have rq := hv3.1
  clear hix hv1 hp
  go_upto_region 3 with (first
    | ((with_reducible refine' wpList_len_rd (.tmp 20) 36 rfl ?_ Tryd.underlying36 ?_ rp ?_); exact rfl; exact rfl; simp only [Act.put, List.setIfInBounds_toArray, List.set_cons_succ, List.set_cons_zero])
    | ((go_at_call 14; (with_reducible refine (around_any at_ _ _ HA.out (by omega) IS).mono ?_); rintro e w' ⟨rfl, rfl⟩); rw [HIX.out])
    | ((with_reducible refine' wpList_at1_rd (.tmp 18) (.tmp 22) 36 rfl ?_ Tryd.underlying36 sz_ints ?_ rp (i) ?_ ?_ ?_); exact rfl; exact rfl; (show (_ : Int) = _; omega); omega; simp only [Act.put, List.setIfInBounds_toArray, List.set_cons_succ, List.set_cons_zero]) | ((with_reducible refine' wpList_load_rd (.tmp 23) 22 rfl ?_ ld_ints ?_ rp (VP.out) ?_); exact rfl; exact rfl; simp only [Act.put, List.setIfInBounds_toArray, List.set_cons_succ, List.set_cons_zero]))
  have hTX3 : IsTX (fun b => True ∧ b < w.heap.size) w' t cs := (HT0.out.below hb2).below hN3
  clear hT2 hT3 HP
  obtain ⟨w3, rfl⟩ : ∃ x, x = w' := ⟨_, rfl⟩
  go_upto_region 4 with (first
    | ((with_reducible refine' wpList_loadst_blk (.tmp 4) 25 rfl ?_ Tryd.underlying25 ?_ sz_node ?_ kA3 ?_ ?_ ?_); exact rfl; exact rfl; exact rfl; exact CL.out; decide; simp only [Act.put, List.setIfInBounds_toArray, List.set_cons_succ, List.set_cons_zero])
    | ((go_at_call 29; (with_reducible refine (refat_any p _ t cs vq _ hTX3 rq).mono ?_); rintro e w' ⟨ds, bo, rfl, hA, hN4⟩); have DL := Lib.hid hA.len; have DO := Lib.hid hA.ones)
    | (((with_reducible refine' wpList_alloc_blk (cs := nodz) 25 rfl ?_ zr_node ?_ ?_); exact rfl; exact nodz_cells; intro w5 kX hN5 hz5; simp only [Act.put, List.setIfInBounds_toArray, List.set_cons_succ, List.set_cons_zero]))
    | (((with_reducible refine' wpList_store_blk (cs := ds) 25 (.tmp 11) (.tmp 29) rfl ?_ ?_ ?_ kX sz_node ?_ ?_ ?_ ?_); exact rfl; exact rfl; exact rfl; exact DL.out; exact rfl; exact DO.out; intro w6 kX6 hO6 hz6; simp only [Act.put])))
  obtain ⟨w4, rfl⟩ : ∃ x, x = w' := ⟨_, rfl⟩
  obtain ⟨u0, hU, hus⟩ := hA.tree
  obtain ⟨B, hB⟩ : ∃ B, w4.heap.size = B := ⟨_, rfl⟩
  rw [hB] at kX6 hO6
  simp only [hB]
  have hs4 := hN4.size
  have hs3 := hN3.size
  have hs5 := hN5.size
  have hBw : w3.heap.size ≤ B ∧ R < B ∧ A < B := by omega
  have hb36 : Below w3.heap.size w3 w6 := (hN4.trans (hN5.mono hs4)).trans (hO6.below hBw.1 (by omega))
  have hU6 := (hU.below hN5).only hO6 (fun b h => by have := h.2; omega)
  have kA6 := kA3.below hb36 (by omega)
  have kR6 := kR3.below hb36 (by omega)
  have rp6 := rp.below hb36
  have rq6 := rq.below hb36
  have hTX6 := hTX3.below hb36
  have IPs := Lib.hid (show IsPs (fun b => b < B) w3 (tpaths t) vs from HP3.out.lt.mono fun b h => by have := h.2; omega)
  obtain ⟨k, n, m, ts⟩ := u0
  obtain ⟨vk, xs, rfl, hrk, hts⟩ := hU6.open_
  have X3 := Lib.hid (show ([.int .i64 k, .int .i64 n, .int .i64 m, vk] : List Value)[3]? = some vk from rfl)
  have hrd : Rd w6 4 vk ts.length xs := hrk.1
  have hlen := tsizes_len ts
  rw [tsize] at hus
  have XO := Lib.hid hts.ones
  clear kX hO6 hA hU hU6 hN4 hN5 hz5 hz6 kA3 kR3 rp rq hTX3 DL DO
  obtain ⟨hx, hhx⟩ : ∃ x, aroundV how 6 = x := ⟨_, rfl⟩
  have bhx := aroundV_bd how (most := 6) (by omega)
  rw [hhx] at bhx
  have HHX := Lib.hid hhx
  clear hhx
  go_upto_block 0 with (first
    | (((with_reducible refine' wpList_build_nil rfl ?_ Tryd.underlying23 sz_node ?_); exact rfl; intro v0 w7 o7 hN7; simp only [Act.put, List.setIfInBounds_toArray, List.set_cons_succ, List.set_cons_zero]); have hs7 := hN7.size; have kX7 := kX6.below hN7 kX6.lt; have hrd7 := hrd.below hN7)
    | ((with_reducible refine' wpList_field_blk (j := 3) (.tmp 11) 25 3 rfl ?_ fo_node_3 ?_ rfl ?_); exact rfl; exact rfl; simp only [Act.put, List.setIfInBounds_toArray, List.set_cons_succ, List.set_cons_zero]) | ((with_reducible refine' wpList_load_blk (.tmp 32) 23 rfl ?_ ld_nds ?_ kX7 (X3.out) ?_); exact rfl; exact rfl; simp only [Act.put, List.setIfInBounds_toArray, List.set_cons_succ, List.set_cons_zero])
    | (((with_reducible refine' wpList_append_at (.tmp 31) (.tmp 33) 23 rfl ?_ Tryd.underlying23 inf_node ?_ ?_ ?_ o7 ?_ hrd7 XO.out ?_ ?_ hs7 ?_); exact rfl; exact rfl; omega; exact rfl; exact rfl; (first | omega | (unfold maxLen; omega)); omega; intro v8 w8 o8 hg8 hst8; simp only [Act.put, List.setIfInBounds_toArray, List.set_cons_succ, List.set_cons_zero]); have kX8 := kX7.grown hg8 (fun e => own_ne o7 kX6.lt e.symm))
    | ((with_reducible refine' wpList_set_blk (u := v8) 23 (.tmp 35) (.tmp 34) rfl ?_ sz_nds ?_ ?_ kX8 (len4_lt) ?_ ?_); exact rfl; exact rfl; exact rfl; exact (own_one o8); intro w9 kX9 hO9 hz9; simp only [Act.put, List.setIfInBounds_toArray, List.set_cons_succ, List.set_cons_zero])
    | ((go_at_call 14; (with_reducible refine (around_any how 6 _ HH.out (by omega) (by unfold I64; omega)).mono ?_); rintro e w' ⟨rfl, rfl⟩); rw [HHX.out]))
  have lB6 := kX6.lt
  have hb69 : Below B w6 w9 := (((Below.refl B w6).trans (hN7.mono (Nat.le_of_lt lB6))).grown hg8 (by omega) (fun b hb => by have := (o7.lt b hb).1; omega)).trans (hO9.below (Nat.le_refl _) (by have := kX8.lt; omega))
  rw [Nat.zero_add, List.nil_append] at o8
  have kX9' : Blk w9 B 25 [.int .i64 k, .int .i64 n, .int .i64 m, v8] := kX9
  have o9 := own_only o8 hO9 (own_ne o8 lB6)
  have hts9 := Lib.hid (show IsTsX (fun b => True ∧ b < w.heap.size) w9 ts xs from hts.keep fun b h hb => hb69.block b (by have := h.2; have := hb3.size; omega))
  have kA9 := kA6.below hb69 hBw.2.2
  have kR9 := kR6.below hb69 hBw.2.1
  have lX9 := kX9'.lt
  have sB9 : B < w6.heap.size ∧ w.heap.size ≤ w2.heap.size := ⟨lB6, hb2.size⟩
  clear o7 hN7 kX7 hrd7 hg8 hst8 kX8 o8 hO9 hz9 kX9 hts hrk hrd XO kX6
  go_cut [13] from 38 to 107 (fun s13 wc => ∃ (x' : Tree) (xs' : List Value), Blk wc B 25 xs' ∧ Hid (IsTX (fun b => b ≠ B ∧ b ≠ R) wc x' xs') ∧ tsize x' ≤ tsize t + 1 ∧ Below B w6 wc)
  case first =>
    have Y3 := Lib.hid (show ([.int .i64 k, .int .i64 n, .int .i64 m, v8] : List Value)[3]? = some v8 from rfl)
    have V1 := Lib.hid (own_one o9)
    have hcase : hx = 0 ∨ hx = 1 ∨ hx = 2 ∨ hx = 3 ∨ hx = 4 ∨ hx = 5 := by omega
    clear HP3 rq6 hv3
    rcases hcase with rfl | rfl | rfl | rfl | rfl | rfl
    · obtain ⟨y, hy⟩ : ∃ y, aroundV by_ 32 = y := ⟨_, rfl⟩
      have by32 := aroundV_bd by_ (most := 32) (by omega)
      rw [hy] at by32
      have HY := Lib.hid hy
      clear hy
      go_wp2_with (first
        | ((go_at_call 14; (with_reducible refine (around_any by_ 32 _ HB.out (by omega) (by unfold I64; omega)).mono ?_); rintro e w' ⟨rfl, rfl⟩); rw [HY.out])
        | ((with_reducible refine' wpList_field_blk (j := 0) (.tmp 11) 25 0 rfl ?_ fo_node_0 ?_ rfl ?_); exact rfl; exact rfl; simp only [Act.put, List.setIfInBounds_toArray, List.set_cons_succ, List.set_cons_zero]) | ((with_reducible refine' wpList_set_blk (u := .int .i64 (y - 1)) 3 (.tmp 43) (.tmp 42) rfl ?_ sz_int ?_ ?_ kX9' (len4_0) ?_ ?_); exact rfl; exact rfl; exact rfl; exact rfl; intro w10 k10 hO10 hz10; simp only [Act.put]))
      go_meet
      case rel =>
        have hb10 : Below B w6 w10 := hb69.trans (hO10.below (Nat.le_refl _) (Nat.le_of_lt lX9))
        exact ⟨.mk (y - 1) (n) (m) ts, _, k10, Lib.hid (IsTX.node (Rd.of_own (own_only o9 hO10 (own_ne o9 sB9.1))) (fun b hb _ => by have := (o9.lt b hb).1; omega) ((hts9.out.only hO10 (fun b h => by have := h.2; omega)).mono fun b h => by have := h.2; omega)), by rw [tsize]; omega, hb10⟩
    · obtain ⟨y, hy⟩ : ∃ y, aroundV by_ 15 = y := ⟨_, rfl⟩
      have by15 := aroundV_bd by_ (most := 15) (by omega)
      rw [hy] at by15
      have HY := Lib.hid hy
      obtain ⟨q, rfl⟩ : ∃ q : Nat, y = (q : Int) := ⟨y.toNat, by omega⟩
      obtain ⟨c, hc⟩ : ∃ c, ([-9, -8, -1, 0, 1, 2, 3, 4, 5, 6, 7, 8, 13, 14, by_] : List Int)[q]? = some c := ⟨_, List.getElem?_eq_getElem (by simp; omega)⟩
      have HC := Lib.hid (ivl_at hc)
      clear hy hc
      go_wp2_with (first
        | (((with_reducible refine' wpList_build_cs (cs := iv [-9, -8, -1, 0, 1, 2, 3, 4, 5, 6, 7, 8, 13, 14, by_]) rfl ?_ Tryd.underlying22 inf_int ?_ ?_ ?_ ?_ ?_ ?_); exact rfl; exact rfl; omega; omega; exact rfl; exact iv_ones _; intro v10 w10 r10 hN10; simp only [Act.put, List.setIfInBounds_toArray, List.set_cons_succ, List.set_cons_zero]); have kX10 := kX9'.below hN10 lX9)
        | ((go_at_call 14; (with_reducible refine (around_any by_ 15 _ HB.out (by omega) (by unfold I64; omega)).mono ?_); rintro e w' ⟨rfl, rfl⟩); rw [HY.out])
        | ((with_reducible refine' wpList_at1_rd (.tmp 47) (.tmp 49) 22 rfl ?_ Tryd.underlying22 sz_int ?_ r10 (q) ?_ ?_ ?_); exact rfl; exact rfl; (show (_ : Int) = _; omega); omega; simp only [Act.put, List.setIfInBounds_toArray, List.set_cons_succ, List.set_cons_zero]) | ((with_reducible refine' wpList_load_rd (.tmp 50) 3 rfl ?_ ld_int ?_ r10 (HC.out) ?_); exact rfl; exact rfl; simp only [Act.put, List.setIfInBounds_toArray, List.set_cons_succ, List.set_cons_zero])
        | ((with_reducible refine' wpList_field_blk (j := 1) (.tmp 11) 25 1 rfl ?_ fo_node_1 ?_ rfl ?_); exact rfl; exact rfl; simp only [Act.put, List.setIfInBounds_toArray, List.set_cons_succ, List.set_cons_zero]) | ((with_reducible refine' wpList_set_blk (u := .int .i64 c) 3 (.tmp 52) (.tmp 51) rfl ?_ sz_int ?_ ?_ kX10 (len4_1) ?_ ?_); exact rfl; exact rfl; exact rfl; exact rfl; intro w11 k10 hO10 hz10; simp only [Act.put]))
      go_meet
      case rel =>
        have hb10 : Below B w6 w11 := (hb69.trans (hN10.mono (Nat.le_of_lt lX9))).trans (hO10.below (Nat.le_refl _) (by have := hN10.size; omega))
        exact ⟨.mk (k) (c) (m) ts, _, k10, Lib.hid (IsTX.node (Rd.of_own (own_only (own_below o9 hN10) hO10 (own_ne o9 sB9.1))) (fun b hb _ => by have := (o9.lt b hb).1; omega) (((hts9.out.below hN10).only hO10 (fun b h => by have := h.2; omega)).mono fun b h => by have := h.2; omega)), by rw [tsize]; omega, hb10⟩
    · obtain ⟨y, hy⟩ : ∃ y, aroundV by_ 6 = y := ⟨_, rfl⟩
      have by15 := aroundV_bd by_ (most := 6) (by omega)
      rw [hy] at by15
      have HY := Lib.hid hy
      obtain ⟨q, rfl⟩ : ∃ q : Nat, y = (q : Int) := ⟨y.toNat, by omega⟩
      obtain ⟨c, hc⟩ : ∃ c, ([-1, 0, 1, 2, 3, by_] : List Int)[q]? = some c := ⟨_, List.getElem?_eq_getElem (by simp; omega)⟩
      have HC := Lib.hid (ivl_at hc)
      clear hy hc
      go_wp2_with (first
        | (((with_reducible refine' wpList_build_cs (cs := iv [-1, 0, 1, 2, 3, by_]) rfl ?_ Tryd.underlying22 inf_int ?_ ?_ ?_ ?_ ?_ ?_); exact rfl; exact rfl; omega; omega; exact rfl; exact iv_ones _; intro v10 w10 r10 hN10; simp only [Act.put, List.setIfInBounds_toArray, List.set_cons_succ, List.set_cons_zero]); have kX10 := kX9'.below hN10 lX9)
        | ((go_at_call 14; (with_reducible refine (around_any by_ 6 _ HB.out (by omega) (by unfold I64; omega)).mono ?_); rintro e w' ⟨rfl, rfl⟩); rw [HY.out])
        | ((with_reducible refine' wpList_at1_rd (.tmp 56) (.tmp 58) 22 rfl ?_ Tryd.underlying22 sz_int ?_ r10 (q) ?_ ?_ ?_); exact rfl; exact rfl; (show (_ : Int) = _; omega); omega; simp only [Act.put, List.setIfInBounds_toArray, List.set_cons_succ, List.set_cons_zero]) | ((with_reducible refine' wpList_load_rd (.tmp 59) 3 rfl ?_ ld_int ?_ r10 (HC.out) ?_); exact rfl; exact rfl; simp only [Act.put, List.setIfInBounds_toArray, List.set_cons_succ, List.set_cons_zero])
        | ((with_reducible refine' wpList_field_blk (j := 2) (.tmp 11) 25 2 rfl ?_ fo_node_2 ?_ rfl ?_); exact rfl; exact rfl; simp only [Act.put, List.setIfInBounds_toArray, List.set_cons_succ, List.set_cons_zero]) | ((with_reducible refine' wpList_set_blk (u := .int .i64 c) 3 (.tmp 61) (.tmp 60) rfl ?_ sz_int ?_ ?_ kX10 (len4_2) ?_ ?_); exact rfl; exact rfl; exact rfl; exact rfl; intro w11 k10 hO10 hz10; simp only [Act.put]))
      go_meet
      case rel =>
        have hb10 : Below B w6 w11 := (hb69.trans (hN10.mono (Nat.le_of_lt lX9))).trans (hO10.below (Nat.le_refl _) (by have := hN10.size; omega))
        exact ⟨.mk (k) (n) (c) ts, _, k10, Lib.hid (IsTX.node (Rd.of_own (own_only (own_below o9 hN10) hO10 (own_ne o9 sB9.1))) (fun b hb _ => by have := (o9.lt b hb).1; omega) (((hts9.out.below hN10).only hO10 (fun b h => by have := h.2; omega)).mono fun b h => by have := h.2; omega)), by rw [tsize]; omega, hb10⟩
    · have rd9 := Rd.of_own o9
      by_cases hz : ts.length = 0
      · have hz0 : decide (0 < ts.length) = false := by simp [hz]
        go_wp2_with (first | ((with_reducible refine' wpList_field_blk (j := 3) (.tmp 11) 25 3 rfl ?_ fo_node_3 ?_ rfl ?_); exact rfl; exact rfl; simp only [Act.put, List.setIfInBounds_toArray, List.set_cons_succ, List.set_cons_zero]) | ((with_reducible refine' wpList_load_blk (.tmp 64) 23 rfl ?_ ld_nds ?_ kX9' (Y3.out) ?_); exact rfl; exact rfl; simp only [Act.put, List.setIfInBounds_toArray, List.set_cons_succ, List.set_cons_zero]) | ((with_reducible refine' wpList_len_rd (.tmp 65) 23 rfl ?_ Tryd.underlying23 ?_ rd9 ?_); exact rfl; exact rfl; simp only [Act.put, List.setIfInBounds_toArray, List.set_cons_succ, List.set_cons_zero]))
        go_meet
        case rel => exact ⟨.mk k n m ts, _, kX9', Lib.hid (IsTX.node rd9 (fun b hb _ => by have := (o9.lt b hb).1; omega) (hts9.out.mono fun b h => by have := h.2; omega)), by rw [tsize]; omega, hb69⟩
      · have hz0 : decide (0 < ts.length) = true := by simp; omega
        obtain ⟨y, hy⟩ : ∃ y, aroundV by_ (ts.length : Int) = y := ⟨_, rfl⟩
        have byl := aroundV_bd by_ (most := (ts.length : Int)) (by omega)
        rw [hy] at byl
        have HY := Lib.hid hy
        obtain ⟨q, rfl⟩ : ∃ q : Nat, y = (q : Int) := ⟨y.toNat, by omega⟩
        have IL : I64 (ts.length : Int) := by unfold I64; omega
        have hl0 : 0 < (ts.length : Int) := by omega
        clear hy hz
        go_upto_region 15 with (first
          | ((with_reducible refine' wpList_field_blk (j := 3) (.tmp 11) 25 3 rfl ?_ fo_node_3 ?_ rfl ?_); exact rfl; exact rfl; simp only [Act.put, List.setIfInBounds_toArray, List.set_cons_succ, List.set_cons_zero]) | ((with_reducible refine' wpList_load_blk (.tmp 64) 23 rfl ?_ ld_nds ?_ kX9' (Y3.out) ?_); exact rfl; exact rfl; simp only [Act.put, List.setIfInBounds_toArray, List.set_cons_succ, List.set_cons_zero]) | ((with_reducible refine' wpList_len_rd (.tmp 65) 23 rfl ?_ Tryd.underlying23 ?_ rd9 ?_); exact rfl; exact rfl; simp only [Act.put, List.setIfInBounds_toArray, List.set_cons_succ, List.set_cons_zero]) | ((with_reducible refine' wpList_load_blk (.tmp 69) 23 rfl ?_ ld_nds ?_ kX9' (Y3.out) ?_); exact rfl; exact rfl; simp only [Act.put, List.setIfInBounds_toArray, List.set_cons_succ, List.set_cons_zero]) | ((with_reducible refine' wpList_len_rd (.tmp 70) 23 rfl ?_ Tryd.underlying23 ?_ rd9 ?_); exact rfl; exact rfl; simp only [Act.put, List.setIfInBounds_toArray, List.set_cons_succ, List.set_cons_zero])
          | ((go_at_call 14; (with_reducible refine (around_any by_ (ts.length : Int) _ HB.out hl0 IL).mono ?_); rintro e w' ⟨rfl, rfl⟩); rw [HY.out]))
        (refine wp_region_plan (fun w' => Blk w' B 25 [.int .i64 k, .int .i64 n, .int .i64 m, v8]) (.f 0 (.f 1 (.f 2 (.f 3 (.f 4 (.f 5 (.f 6 (.f 7 (.f 8 (.o 9 .tail)))))))))) 10 (by kernel_rfl) (by kernel_rfl) (kX9') ?_)
        (repeat (refine wpPlan_f rfl ?_; (first | ((with_reducible refine' wpQuietM_field (k := 0) (j := 3) (.tmp 11) 25 3 rfl ?_ fo_node_3 ?_ rfl ?_); exact rfl; rotate_left; exact rfl; simp only [Act.put, List.setIfInBounds_toArray, List.set_cons_succ, List.set_cons_zero]) | ((with_reducible refine' wpQuietB_load_blk (.tmp 73) 23 rfl ?_ ld_nds ?_ Y3.out ?_); exact rfl; exact rfl; simp only [Act.put, List.setIfInBounds_toArray, List.set_cons_succ, List.set_cons_zero]) | ((with_reducible refine' wpQuietC_to_own (.tmp 74) (.tmp 75) 23 rfl ?_ Tryd.underlying23 sz_node o9 (q) ?_ ?_ ?_ ?_); exact rfl; exact rfl; (show (_ : Int) = _; omega); omega; intro v10 o10 hv10; simp only [Act.put, List.setIfInBounds_toArray, List.set_cons_succ, List.set_cons_zero]) | ((with_reducible refine' wpQuietB_load_blk (.tmp 77) 23 rfl ?_ ld_nds ?_ Y3.out ?_); exact rfl; exact rfl; simp only [Act.put, List.setIfInBounds_toArray, List.set_cons_succ, List.set_cons_zero]) | ((with_reducible refine' wpQuietC_from_rd (.tmp 78) (.tmp 80) 23 rfl ?_ Tryd.underlying23 sz_node rd9 (q + 1) ?_ ?_ ?_ ?_); exact rfl; exact rfl; (show (_ : Int) = _; omega); omega; intro v11 r11; simp only [Act.put, List.setIfInBounds_toArray, List.set_cons_succ, List.set_cons_zero]) | go_big_quiet_step (fail) | (go_big_quiet_want; go_big_quiet_op; refine ⟨_, fun _ _ => rfl, ?_⟩; go_big_quiet_on)); refine wpQuiet_nil ?_))
        have hd : Below w9.heap.size w9 w9.drew := (Below.refl _ w9).drew
        have o10d := own_below o10 hd
        have r11d := r11.below hd
        have OD : ∀ u ∈ xs.drop ((q + 1) * 4), u.oneCell' = true := fun u hu => hts9.out.ones u (List.mem_of_mem_drop hu)
        have S9 : w6.heap.size ≤ w9.drew.heap.size := by have := hd.size; have := o9.1; exact Nat.le_trans (sz96 hb69) hd.size
        refine wpPlan_o rfl ?_
        go_wp2_with (((with_reducible refine' wpList_append_at (.tmp 76) (.tmp 81) 23 rfl ?_ Tryd.underlying23 inf_node ?_ ?_ ?_ o10d ?_ r11d OD ?_ ?_ S9 ?_); exact rfl; exact rfl; omega; exact rfl; exact rfl; (first | omega | (unfold maxLen; omega)); omega; intro v12 w12 o12 hg12 hst12; simp only [Act.put, List.setIfInBounds_toArray, List.set_cons_succ, List.set_cons_zero]))
        have kX12 := (kX9'.below hd lX9).grown hg12 (fun e => own_ne o10 sB9.1 e.symm)
        refine ⟨rfl, kX12, ?_⟩
        refine wpPlan_tail ?_
        go_wp2_with (first | ((with_reducible refine' wpList_field_blk (j := 3) (.tmp 11) 25 3 rfl ?_ fo_node_3 ?_ rfl ?_); exact rfl; exact rfl; simp only [Act.put, List.setIfInBounds_toArray, List.set_cons_succ, List.set_cons_zero]) | ((with_reducible refine' wpList_set_blk (u := v12) 23 (.tmp 83) (.tmp 82) rfl ?_ sz_nds ?_ ?_ kX12 (len4_lt) ?_ ?_); exact rfl; exact rfl; exact rfl; exact (own_one o12); intro w13 k13 hO13 hz13; simp only [Act.put, List.setIfInBounds_toArray, List.set_cons_succ, List.set_cons_zero]))
        refine onlyN ?_
        go_wp2_with fail
        go_meet
        case rel =>
          have hb12 : Below B w6 w12 := (hb69.trans (hd.mono (Nat.le_of_lt lX9))).grown hg12 (Nat.le_of_lt (Nat.lt_of_lt_of_le sB9.1 S9)) (fun b hb => by have := (o10.lt b hb).1; omega)
          have hb13 : Below B w6 w13 := hb12.trans (hO13.below (Nat.le_refl _) (Nat.le_of_lt kX12.lt))
          have hk := (((hts9.out.take q).app (hts9.out.drop (q + 1))).below hd).keep (Keep.grown hg12 fun b h e => by have := (o10.lt b e.symm).1; have := h.2; omega)
          have hk2 := (hk.only hO13 (fun b h => by have := h.2; omega)).mono (Y := fun b => b ≠ B ∧ b ≠ R) fun b h => by have := h.2; omega
          have r13 := Rd.of_own (own_only o12 hO13 (own_ne o12 sB9.1))
          refine ⟨.mk k n m (ts.take q ++ ts.drop (q + 1)), _, k13, Lib.hid (IsTX.node (xs := xs.take (q * 4) ++ xs.drop ((q + 1) * 4)) ?_ (fun b hb _ => by have := (o12.lt b hb).1; omega) hk2), ?_, hb13⟩
          · rw [List.length_append, List.length_take, List.length_drop, Nat.min_eq_left (by omega)]; exact r13
          · have h1 := tsizes_take_le ts q
            have h2 := tsizes_drop_le ts q
            rw [tsize, tsizes_app]; omega
    · obtain ⟨y, hy⟩ : ∃ y, aroundV by_ 30 = y := ⟨_, rfl⟩
      have HY := Lib.hid hy
      clear hy
      go_upto_region 17 with fail
      have hd : Below w9.heap.size w9 w9.drew := (Below.refl _ w9).drew
      have o9d := own_below o9 hd
      have kX9d := kX9'.below hd lX9
      (refine wp_region_plan (fun w' => Blk w' B 25 [.int .i64 k, .int .i64 n, .int .i64 m, v8]) (.f 0 (.f 1 (.f 2 (.o 3 (.f 4 (.o 5 (.o 6 .tail))))))) 7 (by kernel_rfl) (by kernel_rfl) (kX9') ?_)
      (repeat (refine wpPlan_f rfl ?_; (first | ((with_reducible refine' wpQuietM_field (k := 0) (j := 3) (.tmp 11) 25 3 rfl ?_ fo_node_3 ?_ rfl ?_); exact rfl; rotate_left; exact rfl; simp only [Act.put, List.setIfInBounds_toArray, List.set_cons_succ, List.set_cons_zero]) | ((with_reducible refine' wpQuietB_load_blk (.tmp 86) 23 rfl ?_ ld_nds ?_ Y3.out ?_); exact rfl; exact rfl; simp only [Act.put, List.setIfInBounds_toArray, List.set_cons_succ, List.set_cons_zero]) | go_big_quiet_step (fail) | (go_big_quiet_want; go_big_quiet_op; refine ⟨_, fun _ _ => rfl, ?_⟩; go_big_quiet_on)); refine wpQuiet_nil ?_))
      refine wpPlan_o rfl ?_
      go_wp2_with ((go_at_call 14; (with_reducible refine (around_any by_ 30 _ HB.out (by omega) (by unfold I64; omega)).mono ?_); rintro e w' ⟨rfl, rfl⟩); rw [HY.out])
      refine ⟨rfl, kX9d, ?_⟩
      (repeat (refine wpPlan_f rfl ?_; (first | ((with_reducible refine' wpQuiet_of_run (v := .agg #[.int .i64 y, .int .i64 0, .int .i64 0, .slice none 0 0]) ?_ ?_ ?_); exact rfl; (intro w _; kernel_rfl); simp only [Act.put, List.setIfInBounds_toArray, List.set_cons_succ, List.set_cons_zero]) | go_big_quiet_step (fail) | (go_big_quiet_want; go_big_quiet_op; refine ⟨_, fun _ _ => rfl, ?_⟩; go_big_quiet_on)); refine wpQuiet_nil ?_))
      refine wpPlan_o rfl ?_
      go_wp2_with (((with_reducible refine' wpList_build_sts (css := [[.int .i64 y, .int .i64 0, .int .i64 0, .slice none 0 0]]) rfl ?_ Tryd.underlying23 inf_node ?_ ?_ ?_ ?_ ?_ ?_); exact rfl; exact rfl; (first | omega | decide); (first | omega | decide); exact rfl; (intro c hc; simp at hc; subst hc; exact rfl); intro w11 k11 hN11 hz11; simp only [Act.put, List.setIfInBounds_toArray, List.set_cons_succ, List.set_cons_zero]))
      rw [flat1] at k11
      have kX11 := kX9d.below hN11 lX9
      have o11 := own_below o9d hN11
      have r11 := k11.rdall 1 4 rfl (by unfold maxLen; omega)
      have S11 : w6.heap.size ≤ w11.heap.size := Nat.le_trans (Nat.le_trans (sz96 hb69) hd.size) hN11.size
      refine ⟨rfl, kX11, ?_⟩
      refine wpPlan_o rfl ?_
      go_wp2_with (((with_reducible refine' wpList_append_at (.tmp 87) (.tmp 91) 23 rfl ?_ Tryd.underlying23 inf_node ?_ ?_ ?_ o11 ?_ r11 (node_ones rfl) ?_ ?_ S11 ?_); exact rfl; exact rfl; omega; exact rfl; exact rfl; (first | omega | (unfold maxLen; omega)); omega; intro v12 w12 o12 hg12 hst12; simp only [Act.put, List.setIfInBounds_toArray, List.set_cons_succ, List.set_cons_zero]))
      have kX12 := kX11.grown hg12 (fun e => own_ne o11 sB9.1 e.symm)
      refine ⟨rfl, kX12, ?_⟩
      refine wpPlan_tail ?_
      go_wp2_with (first | ((with_reducible refine' wpList_field_blk (j := 3) (.tmp 11) 25 3 rfl ?_ fo_node_3 ?_ rfl ?_); exact rfl; exact rfl; simp only [Act.put, List.setIfInBounds_toArray, List.set_cons_succ, List.set_cons_zero]) | ((with_reducible refine' wpList_set_blk (u := v12) 23 (.tmp 93) (.tmp 92) rfl ?_ sz_nds ?_ ?_ kX12 (len4_lt) ?_ ?_); exact rfl; exact rfl; exact rfl; exact (own_one o12); intro w13 k13 hO13 hz13; simp only [Act.put, List.setIfInBounds_toArray, List.set_cons_succ, List.set_cons_zero]))
      refine onlyN ?_
      go_wp2_with fail
      go_meet
      case rel =>
        have hb11 : Below B w6 w11 := (hb69.trans (hd.mono (Nat.le_of_lt lX9))).trans (hN11.mono (Nat.le_of_lt lX9))
        have hb12 : Below B w6 w12 := hb11.grown hg12 (Nat.le_of_lt (Nat.lt_of_lt_of_le sB9.1 S11)) (fun b hb => by have := (o11.lt b hb).1; omega)
        have hb13 : Below B w6 w13 := hb12.trans (hO13.below (Nat.le_refl _) (Nat.le_of_lt kX12.lt))
        have hk := (((hts9.out.below hd).below hN11).snoc (IsTX.leaf (k := y) (n := 0) (m := 0))).keep (Keep.grown hg12 fun b h e => by have := (o11.lt b e.symm).1; have := h.2; omega)
        have hk2 := (hk.only hO13 (fun b h => by have := h.2; omega)).mono (Y := fun b => b ≠ B ∧ b ≠ R) fun b h => by have := h.2; omega
        have r13 := Rd.of_own (own_only o12 hO13 (own_ne o12 sB9.1))
        refine ⟨.mk k n m (ts ++ [.mk y 0 0 []]), _, k13, Lib.hid (IsTX.node (by rw [List.length_append]; exact r13) (fun b hb _ => by have := (o12.lt b hb).1; omega) hk2), ?_, hb13⟩
        rw [tsize, tsizes_snoc, tsize, tsizes]; omega
    · obtain ⟨y, hy⟩ : ∃ y, aroundV by_ (tsize t : Int) = y := ⟨_, rfl⟩
      have byl := aroundV_bd by_ (most := (tsize t : Int)) (by omega)
      rw [hy] at byl
      have HY := Lib.hid hy
      obtain ⟨q, rfl⟩ : ∃ q : Nat, y = (q : Int) := ⟨y.toNat, by omega⟩
      have hl0 : 0 < (tsize t : Int) := by omega
      obtain ⟨p2, hp2, hp2l⟩ := path_at (t := t) (q := q) (by omega)
      obtain ⟨vq2, hu1, hu2, hu3⟩ := IPs.out.2 q p2 hp2
      have VP2 := Lib.hid hu1
      clear hy hu1 hp2
      go_upto_region 19 with fail
      have hd : Below w9.heap.size w9 w9.drew := (Below.refl _ w9).drew
      have CA : ∀ w', Below B w9 w' → Blk w' A 25 cs := fun w' h => kA9.below h hBw.2.2
      have RXp : RdX (fun b => b < B) w3 1 vp (tsize t) vs := ((own_rdx op).lt (by decide)).mono fun b h => by have := h.2; omega
      have b39 : ∀ w', Below B w9 w' → Keep (fun b => b < B) w3 w' := fun w' h b hb hl => by
        rw [h.block b hb, hb69.block b hb, hb36.block b hl]
      have CP : ∀ w', Below B w9 w' → Rd w' 1 vp (tsize t) vs := fun w' h => (RXp.keep (b39 w' h)).1
      have rp9 := CP w9 (Below.refl _ _)
      (refine wp_region_plan (fun w' => Below B w9 w') (.f 0 (.f 1 (.f 2 (.f 3 (.f 4 (.o 5 (.f 6 (.f 7 (.o 8 (.f 9 (.f 10 (.f 11 (.o 12 .tail))))))))))))) 13 (by kernel_rfl) (by kernel_rfl) (((Below.refl _ _).drew)) ?_)
      (repeat (refine wpPlan_f rfl ?_; (first | ((with_reducible refine' wpQuietH_loadst_blk (.tmp 4) 25 rfl ?_ Tryd.underlying25 ?_ sz_node ?_ (CA) ?_ ?_ ?_); exact rfl; exact rfl; exact rfl; exact CL.out; decide; simp only [Act.put, List.setIfInBounds_toArray, List.set_cons_succ, List.set_cons_zero]) | ((with_reducible refine' wpQuiet_len_rd (.tmp 100) 36 rfl ?_ Tryd.underlying36 ?_ rp9 ?_); exact rfl; exact rfl; simp only [Act.put, List.setIfInBounds_toArray, List.set_cons_succ, List.set_cons_zero]) | go_big_quiet_step (fail) | (go_big_quiet_want; go_big_quiet_op; refine ⟨_, fun _ _ => rfl, ?_⟩; go_big_quiet_on)); refine wpQuiet_nil ?_))
      refine wpPlan_o rfl ?_
      go_wp2_with ((go_at_call 14; (with_reducible refine (around_any by_ (tsize t : Int) _ HB.out hl0 IS).mono ?_); rintro e w' ⟨rfl, rfl⟩); rw [HY.out])
      refine ⟨rfl, (Below.refl _ _).drew, ?_⟩
      (repeat (refine wpPlan_f rfl ?_; (first | ((with_reducible refine' wpQuiet_at1_rd (.tmp 98) (.tmp 102) 36 rfl ?_ Tryd.underlying36 sz_ints ?_ rp9 (q) ?_ ?_ ?_); exact rfl; exact rfl; (show (_ : Int) = _; omega); omega; simp only [Act.put, List.setIfInBounds_toArray, List.set_cons_succ, List.set_cons_zero]) | ((with_reducible refine' wpQuietH_load_rd (.tmp 103) 22 rfl ?_ ld_ints ?_ (CP) (VP2.out) ?_); exact rfl; exact rfl; simp only [Act.put, List.setIfInBounds_toArray, List.set_cons_succ, List.set_cons_zero]) | go_big_quiet_step (fail) | (go_big_quiet_want; go_big_quiet_op; refine ⟨_, fun _ _ => rfl, ?_⟩; go_big_quiet_on)); refine wpQuiet_nil ?_))
      have hTd : IsTX (fun b => True ∧ b < w.heap.size) w9.drew t cs := hTX6.keep fun b h hb => by
        show w9.heap[b]? = _
        exact hb69.block b (by have := h.2; have := hb3.size; omega)
      have rq2 : Rd w9.drew 1 vq2 p2.length (iv p2) := (hu3.keep (b39 w9.drew (Below.refl _ _).drew)).1
      refine wpPlan_o rfl ?_
      go_wp2_with ((go_at_call 29; (with_reducible refine (refat_any p2 _ t cs vq2 _ hTd rq2).mono ?_); rintro e w' ⟨ds2, bo2, rfl, hA2, hN4⟩))
      have DL := Lib.hid hA2.len
      have DO := Lib.hid hA2.ones
      have hN4' : Below B w9 w' := (hd.trans hN4).mono (Nat.le_of_lt lX9)
      have kXe := (kX9'.below hd lX9).below hN4 lX9
      refine ⟨rfl, hN4', ?_⟩
      (repeat (refine wpPlan_f rfl ?_; (first | fail | go_big_quiet_step (fail) | (go_big_quiet_want; go_big_quiet_op; refine ⟨_, fun _ _ => rfl, ?_⟩; go_big_quiet_on)); refine wpQuiet_nil ?_))
      refine wpPlan_o rfl ?_
      go_wp2_with (((with_reducible refine' wpList_store_blk (cs := ds2) 25 (.tmp 11) (.tmp 106) rfl ?_ ?_ ?_ kXe sz_node ?_ ?_ ?_ ?_); exact rfl; exact rfl; exact rfl; exact DL.out; exact rfl; exact DO.out; intro w13 k13 hO13 hz13; simp only [Act.put]))
      have hb13 : Below B w9 w13 := hN4'.trans (hO13.below (Nat.le_refl _) (Nat.le_of_lt kXe.lt))
      refine ⟨rfl, hb13, ?_⟩
      refine wpPlan_tail ?_
      go_wp2_with fail
      refine onlyN ?_
      go_wp2_with fail
      go_meet
      case rel =>
        obtain ⟨u, hu, hsu⟩ := hA2.tree
        have hu2 := (hu.only hO13 (fun b h => by have := h.2; omega)).mono (Y := fun b => b ≠ B ∧ b ≠ R) fun b h => by have := h.2; omega
        exact ⟨u, ds2, k13, Lib.hid hu2, by omega, hb69.trans hb13⟩
  case rest =>
    obtain ⟨x', xs', kX, HXT, hsx, hbc⟩ := hcut
    have XL := Lib.hid HXT.out.len
    have hbw : Below w.heap.size w wc := (hb3.trans (hb36.mono hb3.size)).trans (hbc.mono (by omega))
    have kAc := kA6.below hbc hBw.2.2
    have kRc := kR6.below hbc hBw.2.1
    have sc := hbc.size
    have hTc : IsTX (fun b => b ≠ R) wc t cs := (hTX6.keep fun b h hb => hbc.block b (by have := h.2; have := hb3.size; omega)).mono fun b h => by have := h.2; omega
    have hXc : IsTX (fun b => b ≠ R) wc x' xs' := HXT.out.mono fun b h => h.2
    have rqc : Rd wc 1 vq p.length (iv p) := by
      have h1 : RdX (fun b => b < B) w6 1 vq p.length (iv p) := ((hv3.lt (by decide)).keep (Keep.below hb36)).mono fun b h => by have := h.2; omega
      exact (h1.keep fun b h _ => hbc.block b h).1
    have lR := kRc.lt
    clear kA9 kR9 hts9 o9 kA6 kR6 hTX6 hbc HXT hb69 rp6 rq6 hb36 hN3
    go_wp2_with (first
      | ((with_reducible refine' wpList_loadst_blk (.tmp 4) 25 rfl ?_ Tryd.underlying25 ?_ sz_node ?_ kAc ?_ ?_ ?_); exact rfl; exact rfl; exact rfl; exact CL.out; decide; simp only [Act.put, List.setIfInBounds_toArray, List.set_cons_succ, List.set_cons_zero]) | ((with_reducible refine' wpList_loadst_blk (.tmp 11) 25 rfl ?_ Tryd.underlying25 ?_ sz_node ?_ kX ?_ ?_ ?_); exact rfl; exact rfl; exact rfl; exact XL.out; decide; simp only [Act.put, List.setIfInBounds_toArray, List.set_cons_succ, List.set_cons_zero])
      | ((go_at_call 25; (with_reducible refine (refset_any p _ t x' cs xs' vq _ hTc hXc rqc (by omega)).mono ?_); rintro e w' ⟨es, c, rfl, hS, hN7⟩); have EL := Lib.hid hS.len; have EO := Lib.hid hS.ones; have kR7 := kRc.below hN7 lR)
      | (((with_reducible refine' wpList_alloc_blk (cs := nodz) 25 rfl ?_ zr_node ?_ ?_); exact rfl; exact nodz_cells; intro w8 k14 hN8 hz8; simp only [Act.put, List.setIfInBounds_toArray, List.set_cons_succ, List.set_cons_zero]); have s7 := hN7.size; have s8 := hN8.size; have kR8 := kR7.below hN8 (by omega))
      | (((with_reducible refine' wpList_store_blk (cs := es) 25 (.tmp 14) (.tmp 113) rfl ?_ ?_ ?_ k14 sz_node ?_ ?_ ?_ ?_); exact rfl; exact rfl; exact rfl; exact EL.out; exact rfl; exact EO.out; intro w9 k14b hO9 hz9; simp only [Act.put]); have kR9 := hO9.blk kR8 (by omega))
      | ((with_reducible refine' wpList_loadst_blk (.tmp 14) 25 rfl ?_ Tryd.underlying25 ?_ sz_node ?_ k14b ?_ ?_ ?_); exact rfl; exact rfl; exact rfl; exact EL.out; decide; simp only [Act.put, List.setIfInBounds_toArray, List.set_cons_succ, List.set_cons_zero])
      | ((with_reducible refine' wpList_store_blk (cs := es) 25 (.tmp 8) (.tmp 115) rfl ?_ ?_ ?_ kR9 sz_node ?_ ?_ ?_ ?_); exact rfl; exact rfl; exact rfl; exact EL.out; exact rfl; exact EO.out; intro w10 kR10 hO10 hz10; simp only [Act.put]))
    ((try simp only [Exit.inBlock, Exit.then]); refine bodyPost_ret (results_cell_row rfl _ _ _ _ _ _ _ rfl kR10 Tryd.underlying25 rfl (by rw [sz_node]; simp [EL.out])) rfl ?_)
    obtain ⟨u, hu, hsu⟩ := hS.tree
    have hu10 := (((hu.lt).below hN8).only hO9 (fun b h => by have := h.2; omega)).only hO10 (fun b h => by rcases h.1 with h1 | h1; exact h1; exact (by have h2 : wc.heap.size ≤ b := h1; omega))
    have h7 : Below w.heap.size w w' := hbw.trans (hN7.mono hbw.size)
    have h8 : Below w.heap.size w w8 := h7.trans (hN8.mono h7.size)
    have h9 : Below w.heap.size w w9 := h8.trans (hO9.below h7.size h8.size)
    exact ⟨u, es, rfl, hu10.isT, by omega, h9.trans (hO10.below (by omega) h9.size)⟩
end Go.Proofs.YtdlhkhnoigbhjaaDoor.Wi
namespace Go.Proofs.YtdlhkhnoigbhjaaDoor.Lb
open Go Go.RowKit Go.Lib Pu
theorem own_keepX {X : Nat → Prop} {w w' : World} {base : Nat} {e : TypeId} {s : Nat} {v : Value} {n : Nat} {xs : List Value} (h : w.ownsRow base e s v n xs) (hk : Keep X w w') (hX : ∀ g, v.ownBlock = some g → X g) : w'.ownsRow base e s v n xs := by
  refine ⟨h.1, ?_⟩
  rcases h.2 with hn | ⟨g, cap, cur, rfl, hb, hg, rest⟩
  · exact .inl hn
  · exact .inr ⟨g, cap, cur, rfl, hb, by rw [hk g (hX g rfl) (Array.getElem?_eq_some_iff.1 hg).1]; exact hg, rest⟩
mutual
def IsTD (X : Nat → Prop) (w : World) : Tree → List Value → Prop
  | .mk k n m ts, cs => ∃ v xs, cs = [.int .i64 k, .int .i64 n, .int .i64 m, v] ∧ w.ownsRow 0 25 4 v ts.length xs ∧ (∀ g, v.ownBlock = some g → X g) ∧ IsTsD (fun b => X b ∧ v.ownBlock ≠ some b) w ts xs
def IsTsD (X : Nat → Prop) (w : World) : List Tree → List Value → Prop
  | [], xs => xs = []
  | t :: ts, xs => ∃ (Y Z : Nat → Prop) (cs ys : List Value), xs = cs ++ ys ∧ cs.length = 4 ∧ (∀ b, Y b → X b) ∧ (∀ b, Z b → X b) ∧ (∀ b, Y b → ¬ Z b) ∧ IsTD Y w t cs ∧ IsTsD Z w ts ys
end
mutual
theorem IsTD.isTX {X : Nat → Prop} {w : World} : ∀ {t : Tree} {cs : List Value}, IsTD X w t cs → IsTX X w t cs
  | .mk _ _ _ _, _, h => by
    rw [IsTD] at h; rw [IsTX]
    obtain ⟨v, xs, e, ho, hX, ht⟩ := h
    exact ⟨v, xs, e, ⟨Rd.of_own ho, fun b hb _ => hX b hb⟩, (IsTsD.isTsX ht).mono fun b h => h.1⟩
theorem IsTsD.isTsX {X : Nat → Prop} {w : World} : ∀ {ts : List Tree} {xs : List Value}, IsTsD X w ts xs → IsTsX X w ts xs
  | [], _, h => by rw [IsTsD] at h; rw [IsTsX]; exact h
  | _ :: _, _, h => by
    rw [IsTsD] at h; rw [IsTsX]
    obtain ⟨Y, Z, cs, ys, e, h4, hY, hZ, _, hu, h⟩ := h
    exact ⟨cs, ys, e, h4, (IsTD.isTX hu).mono hY, (IsTsD.isTsX h).mono hZ⟩
end
mutual
theorem IsTD.mono {X Y : Nat → Prop} {w : World} (hXY : ∀ b, X b → Y b) : ∀ {t : Tree} {cs : List Value}, IsTD X w t cs → IsTD Y w t cs
  | .mk _ _ _ _, _, h => by
    rw [IsTD] at h ⊢
    obtain ⟨v, xs, e, ho, hX, ht⟩ := h
    exact ⟨v, xs, e, ho, fun g hg => hXY g (hX g hg), IsTsD.mono (fun b h => ⟨hXY b h.1, h.2⟩) ht⟩
theorem IsTsD.mono {X Y : Nat → Prop} {w : World} (hXY : ∀ b, X b → Y b) : ∀ {ts : List Tree} {xs : List Value}, IsTsD X w ts xs → IsTsD Y w ts xs
  | [], _, h => by rw [IsTsD] at h ⊢; exact h
  | _ :: _, _, h => by
    rw [IsTsD] at h ⊢
    obtain ⟨Y', Z, cs, ys, e, h4, hY, hZ, hd, hu, h⟩ := h
    exact ⟨Y', Z, cs, ys, e, h4, fun b h => hXY b (hY b h), fun b h => hXY b (hZ b h), hd, hu, h⟩
end
mutual
theorem IsTD.keep {X : Nat → Prop} {w w' : World} (hk : Keep X w w') : ∀ {t : Tree} {cs : List Value}, IsTD X w t cs → IsTD X w' t cs
  | .mk _ _ _ _, _, h => by
    rw [IsTD] at h ⊢
    obtain ⟨v, xs, e, ho, hX, ht⟩ := h
    exact ⟨v, xs, e, own_keepX ho hk hX, hX, IsTsD.keep (fun b h => hk b h.1) ht⟩
theorem IsTsD.keep {X : Nat → Prop} {w w' : World} (hk : Keep X w w') : ∀ {ts : List Tree} {xs : List Value}, IsTsD X w ts xs → IsTsD X w' ts xs
  | [], _, h => by rw [IsTsD] at h ⊢; exact h
  | _ :: _, _, h => by
    rw [IsTsD] at h ⊢
    obtain ⟨Y, Z, cs, ys, e, h4, hY, hZ, hd, hu, h⟩ := h
    exact ⟨Y, Z, cs, ys, e, h4, hY, hZ, hd, IsTD.keep (fun b h => hk b (hY b h)) hu, IsTsD.keep (fun b h => hk b (hZ b h)) h⟩
end
mutual
theorem IsTD.lt {X : Nat → Prop} {w : World} : ∀ {t : Tree} {cs : List Value}, IsTD X w t cs → IsTD (fun b => X b ∧ b < w.heap.size) w t cs
  | .mk _ _ _ _, _, h => by
    rw [IsTD] at h ⊢
    obtain ⟨v, xs, e, ho, hX, ht⟩ := h
    exact ⟨v, xs, e, ho, fun g hg => ⟨hX g hg, (ho.lt g hg).2⟩, (IsTsD.lt ht).mono fun b h => ⟨⟨h.1.1, h.2⟩, h.1.2⟩⟩
theorem IsTsD.lt {X : Nat → Prop} {w : World} : ∀ {ts : List Tree} {xs : List Value}, IsTsD X w ts xs → IsTsD (fun b => X b ∧ b < w.heap.size) w ts xs
  | [], _, h => by rw [IsTsD] at h ⊢; exact h
  | _ :: _, _, h => by
    rw [IsTsD] at h ⊢
    obtain ⟨Y, Z, cs, ys, e, h4, hY, hZ, hd, hu, h⟩ := h
    exact ⟨_, _, cs, ys, e, h4, fun b h => ⟨hY b h.1, h.2⟩, fun b h => ⟨hZ b h.1, h.2⟩, fun b h h2 => hd b h.1 h2.1, IsTD.lt hu, IsTsD.lt h⟩
end
theorem IsTsD.nil {X : Nat → Prop} {w : World} : IsTsD X w [] [] := by rw [IsTsD]
theorem IsTsD.snoc {w : World} {t : Tree} {cs : List Value} {Y : Nat → Prop} (ht : IsTD Y w t cs) : ∀ {ts : List Tree} {xs : List Value} {X Z : Nat → Prop}, IsTsD Z w ts xs → (∀ b, Z b → X b) → (∀ b, Y b → X b) → (∀ b, Y b → ¬ Z b) → IsTsD X w (ts ++ [t]) (xs ++ cs)
  | [], xs, X, Z, h, hZ, hY, hd => by
    rw [IsTsD] at h; subst h
    rw [List.nil_append, List.nil_append, IsTsD]
    exact ⟨Y, fun _ => False, cs, [], by simp, ht.isTX.len, hY, fun _ h => h.elim, fun _ _ h => h, ht, IsTsD.nil⟩
  | u :: ts, xs, X, Z, h, hZ, hY, hd => by
    rw [IsTsD] at h
    obtain ⟨Y2, Z2, cs2, ys, rfl, h4, hY2, hZ2, hd2, hu, h⟩ := h
    rw [List.cons_append, List.append_assoc, IsTsD]
    exact ⟨Y2, fun b => Z2 b ∨ Y b, cs2, ys ++ cs, rfl, h4, fun b h => hZ b (hY2 b h), fun b h => h.elim (fun h => hZ b (hZ2 b h)) (hY b), fun b h h2 => h2.elim (hd2 b h) (fun h2 => hd b h2 (hY2 b h)), hu,
      IsTsD.snoc ht h (fun b h => .inl h) (fun b h => .inr h) (fun b h h2 => hd b h (hZ2 b h2))⟩
/-- one child, and what the row is when that child is another -/
theorem IsTsD.focus {w : World} : ∀ {ts : List Tree} {xs : List Value} {X : Nat → Prop}, IsTsD X w ts xs → ∀ {q : Nat} {t : Tree}, ts[q]? = some t → ∃ Y : Nat → Prop, (∀ b, Y b → X b) ∧ IsTD Y w t ((xs.drop (q * 4)).take 4) ∧
    ∀ (w' : World) (Z : Nat → Prop) (x : Tree) (es : List Value), Keep (fun b => X b ∧ ¬ Y b) w w' → es.length = 4 → IsTX Z w' x es → IsTsX (fun b => X b ∨ Z b) w' (ts.set q x) (xs.take (q * 4) ++ es ++ xs.drop (q * 4 + 4))
  | [], _, _, _, q, t, ht => by simp at ht
  | u :: ts, xs, X, h, 0, t, ht => by
    rw [IsTsD] at h
    obtain ⟨Y, Z, cs, ys, rfl, h4, hY, hZ, hd, hu, h⟩ := h
    simp only [List.getElem?_cons_zero, Option.some.injEq] at ht
    subst ht
    refine ⟨Y, hY, by rw [Nat.zero_mul, List.drop_zero, List.take_left' h4]; exact hu, fun w' Z' x es hk he hx => ?_⟩
    rw [Nat.zero_mul, List.take_zero, List.nil_append, Nat.zero_add, List.drop_left' h4, List.set_cons_zero, IsTsX]
    exact ⟨es, ys, rfl, he, hx.mono fun b h => .inr h, ((h.isTsX).keep fun b hb hl => hk b ⟨hZ b hb, fun hy => hd b hy hb⟩ hl).mono fun b h => .inl (hZ b h)⟩
  | u :: ts, xs, X, h, q + 1, t, ht => by
    rw [IsTsD] at h
    obtain ⟨Y, Z, cs, ys, rfl, h4, hY, hZ, hd, hu, h⟩ := h
    simp only [List.getElem?_cons_succ] at ht
    obtain ⟨Y', hY', hT, hc⟩ := IsTsD.focus h ht
    have e4 : (q + 1) * 4 = cs.length + q * 4 := by rw [h4]; omega
    refine ⟨Y', fun b h => hZ b (hY' b h), ?_, fun w' Z' x es hk he hx => ?_⟩
    · rw [e4, ← List.drop_drop, List.drop_left]; exact hT
    · have h1 := hc w' Z' x es (fun b hb hl => hk b ⟨hZ b hb.1, hb.2⟩ hl) he hx
      rw [List.set_cons_succ, IsTsX]
      refine ⟨cs, ys.take (q * 4) ++ es ++ ys.drop (q * 4 + 4), ?_, h4, (hu.isTX.keep fun b hb hl => hk b ⟨hY b hb, fun hy => hd b hb (hY' b hy)⟩ hl).mono fun b h => .inl (hY b h), h1.mono fun b h => h.imp (hZ b) id⟩
      rw [e4, List.take_length_add_append, Nat.add_assoc, List.drop_length_add_append]
      simp [List.append_assoc]
end Go.Proofs.YtdlhkhnoigbhjaaDoor.Lb
namespace Go.Proofs.YtdlhkhnoigbhjaaDoor.Wi
open Go Go.RowKit Pu Lb
set_option linter.unusedSimpArgs false
set_option linter.unusedVariables false
set_option maxRecDepth 100000 in
set_option maxHeartbeats 1600000 in
theorem copied_sep : ∀ (t : Tree) (cs : List Value) (w : World), IsT w t cs → tsize t ≤ 1000000 →
    Calls Tryd.prog 59 #[.agg cs.toArray] w fun e w' => ∃ es, e = .returned (.agg es.toArray) ∧ IsTD (fun b => w.heap.size ≤ b ∧ b < w'.heap.size) w' t es ∧ Below w.heap.size w w' := by
  refine Tree.ind fun k n m ts ih cs w h hs => ?_
  rw [IsT] at h
  obtain ⟨v, xs, rfl, hr, hts⟩ := h
  have X3 := Lib.hid (show ([.int .i64 k, .int .i64 n, .int .i64 m, v] : List Value)[3]? = some v from rfl)
  have XL := Lib.hid hts.len
  have IH := Lib.hid ih
  rw [tsize] at hs
  have hlen := tsizes_len ts
  clear ih
  go_enter Tryd.func59, Tryd.ntmps59
  go_upto_region 3 with (first
    | (((with_reducible refine' wpList_boxa (cs := [.int .i64 k, .int .i64 n, .int .i64 m, v]) 25 (.tmp 0) rfl ?_ ?_ ?_); exact rfl; exact rfl; intro w1 k1 hN1 hz1; simp only [Act.put, List.setIfInBounds_toArray, List.set_cons_succ, List.set_cons_zero]); have l1 := k1.lt)
    | (((with_reducible refine' wpList_alloc_blk (cs := nodz) 25 rfl ?_ zr_node ?_ ?_); exact rfl; exact nodz_cells; intro w2 kR hN2 hz2; simp only [Act.put, List.setIfInBounds_toArray, List.set_cons_succ, List.set_cons_zero]); have kA := k1.below hN2 l1)
    | ((with_reducible refine' wpList_field_blk (j := 3) (.tmp 1) 25 3 rfl ?_ fo_node_3 ?_ rfl ?_); exact rfl; exact rfl; simp only [Act.put, List.setIfInBounds_toArray, List.set_cons_succ, List.set_cons_zero]) | ((with_reducible refine' wpList_load_blk (.tmp 6) 23 rfl ?_ ld_nds ?_ kA (X3.out) ?_); exact rfl; exact rfl; simp only [Act.put, List.setIfInBounds_toArray, List.set_cons_succ, List.set_cons_zero])
    | ((with_reducible refine' wpList_set_blk (u := .slice none 0 0) 23 (.tmp 8) (.const (.slice none 0 0)) rfl ?_ sz_nds ?_ ?_ kA (len4_lt) ?_ ?_); exact rfl; exact rfl; exact rfl; exact rfl; intro w3 kA3 hO3 hz3; simp only [Act.put, List.setIfInBounds_toArray, List.set_cons_succ, List.set_cons_zero]))
  have lA := kA.lt
  have lR := kR.lt
  have kR3 := hO3.blk kR (by omega)
  have hb3 : Below w.heap.size w w3 := (hN1.trans (hN2.mono hN1.size)).trans (hO3.below (Nat.le_refl _) (by omega))
  obtain ⟨A, hA⟩ : ∃ A, w.heap.size = A := ⟨_, rfl⟩
  obtain ⟨R, hR⟩ : ∃ R, w1.heap.size = R := ⟨_, rfl⟩
  obtain ⟨base, hbs⟩ : ∃ base, w3.heap.size = base := ⟨_, rfl⟩
  have hAR : A < R ∧ R < base ∧ w.heap.size = A := by omega
  rw [hA] at kA3
  rw [hR] at kR3
  simp only [hA, hR]
  have hs3 := hb3.size
  have hr3 := hr.below hb3
  have kA3' : Blk w3 A 25 [.int .i64 k, .int .i64 n, .int .i64 m, .slice none 0 0] := kA3
  clear hz1 hz2 hz3 hN1 hN2 hO3 k1 kA kR l1 lA lR hA hR kA3
  go_upto_region 4 with (((with_reducible refine' wpList_len_rd (.tmp 9) 23 rfl ?_ Tryd.underlying23 ?_ hr3 ?_); exact rfl; exact rfl; simp only [Act.put, List.setIfInBounds_toArray, List.set_cons_succ, List.set_cons_zero]))
  go_loopw [11] (fun i wr => ∃ (j : Nat) (vv : Value) (ys : List Value), j ≤ ts.length ∧ i = .int .i64 (j : Int) ∧ Blk wr A 25 [.int .i64 k, .int .i64 n, .int .i64 m, vv] ∧ wr.ownsRow base 25 4 vv j ys ∧ Hid (IsTsD (fun b => base ≤ b ∧ vv.ownBlock ≠ some b) wr (ts.take j) ys) ∧ Blk wr R 25 nodz ∧ Below w.heap.size w wr ∧ base ≤ wr.heap.size) (fun i _ => ts.length - (intOf i).toNat)
  case atStart => exact ⟨0, _, [], Nat.zero_le _, rfl, kA3', ⟨rfl, .inl ⟨rfl, rfl⟩⟩, Lib.hid (by rw [List.take_zero]; exact IsTsD.nil), kR3, hb3, by omega⟩
  case round =>
    obtain ⟨j, vv, ys, hj, rfl, kv, ov, HY, kRr, hb, hbw⟩ := hrel
    obtain ⟨wo, rfl⟩ : ∃ wo : World, wo = wr := ⟨_, rfl⟩
    have hrj := hr.below hb
    have Y3 := Lib.hid (show ([.int .i64 k, .int .i64 n, .int .i64 m, vv] : List Value)[3]? = some vv from rfl)
    have VO := Lib.hid (own_one ov)
    by_cases hlt : j < ts.length
    · obtain ⟨t, ht⟩ := kid_at hlt
      have hT := IsT.below hb (IsTs.get hts ht)
      obtain ⟨cs, hcs⟩ : ∃ cs, (xs.drop (j * 4)).take 4 = cs := ⟨_, rfl⟩
      rw [hcs] at hT
      have HC := Lib.hid hcs
      have BD := Lib.hid (show j * 4 + 4 ≤ xs.length by rw [XL.out]; omega)
      have CL := Lib.hid hT.len
      have CO := Lib.hid hT.ones
      have hmem := List.mem_of_getElem? ht
      have hq5 := tsize_mem hmem
      have TK := Lib.hid (show ts.take (j + 1) = ts.take j ++ [t] by
        have hi := (List.getElem?_eq_some_iff.1 ht).1
        rw [List.take_succ_eq_append_getElem hi, (List.getElem?_eq_some_iff.1 ht).2])
      clear hcs ht hr3
      go_upto_region 6 with (first
        | ((with_reducible refine' wpList_at_rd (.tmp 9) (.tmp 11) 23 rfl ?_ Tryd.underlying23 sz_node ?_ hrj (by decide) (j) ?_ ?_ ?_); exact rfl; exact rfl; (show (_ : Int) = _; omega); omega; simp only [Act.put, List.setIfInBounds_toArray, List.set_cons_succ, List.set_cons_zero]) | ((with_reducible refine' wpList_load_st (cp := cs) (.tmp 13) 25 rfl ?_ Tryd.underlying25 ?_ sz_node ?_ hrj ?_ ?_ HC.out ?_); exact rfl; exact rfl; exact rfl; exact BD.out; decide; simp only [Act.put, List.setIfInBounds_toArray, List.set_cons_succ, List.set_cons_zero])
        | (((with_reducible refine' wpList_alloc_blk (cs := nodz) 25 rfl ?_ zr_node ?_ ?_); exact rfl; exact nodz_cells; intro w4 k4 hN4 hz4; simp only [Act.put, List.setIfInBounds_toArray, List.set_cons_succ, List.set_cons_zero]))
        | (((with_reducible refine' wpList_store_blk (cs := cs) 25 (.tmp 5) (.tmp 14) rfl ?_ ?_ ?_ k4 sz_node ?_ ?_ ?_ ?_); exact rfl; exact rfl; exact rfl; exact CL.out; exact rfl; exact CO.out; intro w5 k5 hO5 hz5; simp only [Act.put])))
      obtain ⟨B5, hB5⟩ : ∃ B5, wo.heap.size = B5 := ⟨_, rfl⟩
      have hb45 : Below wo.heap.size wo w5 := hN4.trans (hO5.below (Nat.le_refl _) (Nat.le_of_lt k4.lt))
      rw [hB5] at k5
      simp only [hB5]
      have hd5 : Below w5.heap.size w5 w5.drew := (Below.refl _ w5).drew
      have hb5d := hb45.trans (hd5.mono hb45.size)
      have kv5 : Blk w5.drew A 25 [.int .i64 k, .int .i64 n, .int .i64 m, vv] := kv.below hb5d kv.lt
      have k5d : Blk w5.drew B5 25 cs := k5
      have hT5 := hT.below hb5d
      have IHt := Lib.hid (IH.out t hmem cs w5.drew hT5 (by omega))
      clear hz4 hz5 k4 hN4 hO5 hd5 hT hrj k5
      (refine wp_region_plan (fun w' => Blk w' A 25 [.int .i64 k, .int .i64 n, .int .i64 m, vv] ∧ Blk w' B5 25 cs) (.f 0 (.f 1 (.f 2 (.o 3 (.o 4 (.o 5 .tail)))))) 6 (by kernel_rfl) (by kernel_rfl) (⟨kv5, k5d⟩) ?_)
      (repeat (refine wpPlan_f rfl ?_; (first | ((with_reducible refine' wpQuietM_field (k := 0) (j := 3) (.tmp 1) 25 3 rfl ?_ fo_node_3 ?_ rfl ?_); exact rfl; rotate_left; exact rfl; simp only [Act.put, List.setIfInBounds_toArray, List.set_cons_succ, List.set_cons_zero]) | ((with_reducible refine' wpQuietH_load_blk (.tmp 15) 23 rfl ?_ ld_nds ?_ ((fun w' h => h.1)) (Y3.out) ?_); exact rfl; exact rfl; simp only [Act.put, List.setIfInBounds_toArray, List.set_cons_succ, List.set_cons_zero]) | ((with_reducible refine' wpQuietH_loadst_blk (.tmp 5) 25 rfl ?_ Tryd.underlying25 ?_ sz_node ?_ ((fun w' h => h.2)) ?_ ?_ ?_); exact rfl; exact rfl; exact rfl; exact CL.out; decide; simp only [Act.put, List.setIfInBounds_toArray, List.set_cons_succ, List.set_cons_zero]) | go_big_quiet_step (fail) | (go_big_quiet_want; go_big_quiet_op; refine ⟨_, fun _ _ => rfl, ?_⟩; go_big_quiet_on)); refine wpQuiet_nil ?_))
      refine wpPlan_o rfl ?_
      go_wp2_with ((go_at_call 59; (with_reducible refine (IHt.out).mono ?_); rintro e w' ⟨es, rfl, hE, hN6⟩))
      have EL := Lib.hid hE.isTX.len
      have EO := Lib.hid hE.isTX.isT.ones
      have kv6 := kv5.below hN6 kv5.lt
      have kB6 := k5d.below hN6 k5d.lt
      have s6 := hN6.size
      have hwo6 := hb5d.trans (hN6.mono hb5d.size)
      have ov6 := own_below ov hwo6
      refine ⟨rfl, ⟨kv6, kB6⟩, ?_⟩
      refine wpPlan_o rfl ?_
      go_wp2_with (((with_reducible refine' wpList_build_sts (css := [es]) rfl ?_ Tryd.underlying23 inf_node ?_ ?_ ?_ ?_ ?_ ?_); exact rfl; exact rfl; (first | omega | decide); (first | omega | decide); exact rfl; (intro c hc; simp at hc; subst hc; exact EL.out); intro w7 k7 hN7 hz7; simp only [Act.put, List.setIfInBounds_toArray, List.set_cons_succ, List.set_cons_zero]))
      rw [flat1] at k7
      have kv7 := kv6.below hN7 kv6.lt
      have kB7 := kB6.below hN7 kB6.lt
      have ov7 := own_below ov6 hN7
      have r7 := k7.rdall 1 4 (by rw [EL.out]) (by unfold maxLen; omega)
      have S7 : base ≤ w7.heap.size := by have := hwo6.size; have := hN7.size; omega
      have EOo := EO.out
      refine ⟨rfl, ⟨kv7, kB7⟩, ?_⟩
      refine wpPlan_o rfl ?_
      go_wp2_with (((with_reducible refine' wpList_append_at (.tmp 16) (.tmp 19) 23 rfl ?_ Tryd.underlying23 inf_node ?_ ?_ ?_ ov7 ?_ r7 EOo ?_ ?_ S7 ?_); exact rfl; exact rfl; omega; exact rfl; exact rfl; (first | omega | (unfold maxLen; omega)); omega; intro v8 w8 o8 hg8 hst8; simp only [Act.put, List.setIfInBounds_toArray, List.set_cons_succ, List.set_cons_zero]))
      have kv8 := kv7.grown hg8 (fun e => own_ne ov7 (by omega) e.symm)
      have kB8 := kB7.grown hg8 (fun e => by have := (ov.lt B5 e.symm).2; omega)
      refine ⟨rfl, ⟨kv8, kB8⟩, ?_⟩
      refine wpPlan_tail ?_
      go_wp2_with (first | ((with_reducible refine' wpList_field_blk (j := 3) (.tmp 1) 25 3 rfl ?_ fo_node_3 ?_ rfl ?_); exact rfl; exact rfl; simp only [Act.put, List.setIfInBounds_toArray, List.set_cons_succ, List.set_cons_zero]) | ((with_reducible refine' wpList_set_blk (u := v8) 23 (.tmp 21) (.tmp 20) rfl ?_ sz_nds ?_ ?_ kv8 (len4_lt) ?_ ?_); exact rfl; exact rfl; exact rfl; exact (own_one o8); intro w9 k9 hO9 hz9; simp only [Act.put, List.setIfInBounds_toArray, List.set_cons_succ, List.set_cons_zero]))
      refine onlyN ?_
      have hw7 : Below wo.heap.size wo w7 := hwo6.trans (hN7.mono hwo6.size)
      have hw8 : Below w.heap.size w w8 := (hb.trans (hw7.mono hb.size)).grown hg8 (by have := hb.size; have := hw7.size; omega) (fun b h => by have := (ov7.lt b h).1; omega)
      have kR7 := kRr.below hw7 kRr.lt
      have kR8 := kR7.grown hg8 (fun e => own_ne ov7 hAR.2.1 e.symm)
      have kR9 := hO9.blk kR8 (by omega)
      have own9 := own_only o8 hO9 (own_ne o8 (by omega : A < base))
      have hboth : IsTsD (fun b => base ≤ b ∧ vv.ownBlock ≠ some b) w' (ts.take (j + 1)) (ys ++ es) := by
        rw [TK.out]
        exact IsTsD.snoc hE (HY.out.lt.keep fun b h hb => hwo6.block b h.2) (fun b h => h.1) (fun b h => ⟨by have := hb5d.size; have h2 := h.1; omega, fun e => by have := (ov.lt b e).2; have := hb5d.size; have h2 := h.1; omega⟩) (fun b h h2 => by have := hb5d.size; have h3 := h.1; have := h2.2; omega)
      have HY9 := Lib.hid (show IsTsD (fun b => base ≤ b ∧ v8.ownBlock ≠ some b) w9 (ts.take (j + 1)) (ys ++ es) from
        ((((hboth.keep (Keep.below hN7)).lt).keep (Keep.grown hg8 fun b h e => h.1.2 e.symm)).keep (Keep.only hO9 (fun b h => by have := h.1.1; omega))).mono fun b h => ⟨h.1.1, fun e => hst8.ne (fun e2 => h.1.2 e2.symm) h.2 e.symm⟩)
      have hb9 : Below w.heap.size w w9 := hw8.trans (hO9.below (by omega) hw8.size)
      have S9 : base ≤ w9.heap.size := by have := hO9.size; have := hg8.size; omega
      have k9' : Blk w9 A 25 [.int .i64 k, .int .i64 n, .int .i64 m, v8] := k9
      clear hN7 hg8 hst8 kv8 kB8 kv7 kB7 kv6 kB6 kv5 k5d ov7 ov6 hw7 hwo6 hb5d hE hN6 IHt k7 r7 hb45 kR7 kR8
      go_wp2_with fail
      go_roundw
      case rel => (first | exact ⟨j + 1, v8, ys ++ es, by omega, by go_num, k9', own9, HY9, kR9, hb9, S9⟩ | ((repeat apply Exists.intro); exact ⟨⟨j + 1, v8, ys ++ es, by omega, by go_num, k9', own9, HY9, kR9, hb9, S9⟩, rfl⟩))
      case measure => simp [intOf]; omega
    · obtain rfl : j = ts.length := by omega
      have HYO := HY.out
      rw [List.take_length] at HYO
      have rd := Rd.of_own ov
      have NO := Lib.hid (node_ones (a := k) (b := n) (c := m) VO.out)
      have hBA : A < w.heap.size + 1 := by omega
      clear hr3
      go_wp2_with (first | ((with_reducible refine' wpList_loadst_blk (.tmp 1) 25 rfl ?_ Tryd.underlying25 ?_ sz_node ?_ kv ?_ ?_ ?_); exact rfl; exact rfl; exact rfl; exact rfl; decide; simp only [Act.put, List.setIfInBounds_toArray, List.set_cons_succ, List.set_cons_zero]) | ((with_reducible refine' wpList_store_blk (cs := [.int .i64 k, .int .i64 n, .int .i64 m, vv]) 25 (.tmp 2) (.tmp 23) rfl ?_ ?_ ?_ kRr sz_node ?_ ?_ ?_ ?_); exact rfl; exact rfl; exact rfl; exact rfl; exact rfl; exact NO.out; intro w9 k9 hO9 hz9; simp only [Act.put]))
      ((try simp only [Exit.inBlock, Exit.then]); refine bodyPost_ret (results_cell_row rfl _ _ _ _ _ _ _ rfl k9 Tryd.underlying25 rfl (by rw [sz_node]; rfl)) rfl ?_)
      have hown9 := own_only ov hO9 (own_ne ov (by omega : R < base))
      refine ⟨_, rfl, ?_, hb.trans (hO9.below (by omega) (by have := hb.size; omega))⟩
      rw [IsTD]
      exact ⟨vv, ys, rfl, own_mono hown9 (Nat.zero_le _), fun g hg => ⟨by have := (hown9.lt g hg).1; omega, (hown9.lt g hg).2⟩, (HYO.keep (Keep.only hO9 (fun b h => by have := h.1; omega))).lt.mono fun b h => ⟨⟨by have := h.1.1; omega, h.2⟩, h.1.2⟩⟩
theorem copied_any (t : Tree) (cs : List Value) (w : World) (h : IsT w t cs) (hs : tsize t ≤ 1000000) :
    Calls Tryd.prog 59 #[.agg cs.toArray] w fun e w' => ∃ es, e = .returned (.agg es.toArray) ∧ IsTX (fun b => w.heap.size ≤ b) w' t es ∧ Below w.heap.size w w' :=
  (copied_sep t cs w h hs).mono fun _ _ ⟨es, h1, h2, h3⟩ => ⟨es, h1, h2.isTX.mono fun b h => h.1, h3⟩
end Go.Proofs.YtdlhkhnoigbhjaaDoor.Wi
namespace Go.Proofs.YtdlhkhnoigbhjaaDoor.Wi
open Go Go.RowKit Pu Lb
set_option linter.unusedSimpArgs false
set_option linter.unusedVariables false
set_option maxRecDepth 100000 in
set_option maxHeartbeats 1600000 in
theorem treeat_any (p : List Int) (t : Tree) (cs : List Value) (vp : Value) (w : World) (hT : IsT w t cs) (hr : Rd w 1 vp p.length (iv p)) (hs : tsize t ≤ 1000000) :
    Calls Tryd.prog 28 #[.agg cs.toArray, vp] w fun e w' => ∃ (ds : List Value) (b : Bool), e = .returned (.tuple #[.agg ds.toArray, .bool b]) ∧ AtR (fun b => w.heap.size ≤ b) w' ds b (tat p t) ∧ Below w.heap.size w w' := by
  have CL := Lib.hid hT.len
  have CO := Lib.hid hT.ones
  have hmx := hr.len
  unfold maxLen at hmx
  go_enter Tryd.func28, Tryd.ntmps28
  go_upto_region 1 with (first
    | (((with_reducible refine' wpList_boxa (cs := cs) 25 (.tmp 0) rfl ?_ ?_ ?_); exact rfl; exact rfl; intro w1 k1 hN1 hz1; simp only [Act.put, List.setIfInBounds_toArray, List.set_cons_succ, List.set_cons_zero]); have l1 := k1.lt)
    | (((with_reducible refine' wpList_alloc_blk (cs := nodz) 25 rfl ?_ zr_node ?_ ?_); exact rfl; exact nodz_cells; intro w2 kR hN2 hz2; simp only [Act.put, List.setIfInBounds_toArray, List.set_cons_succ, List.set_cons_zero]); have kA := k1.below hN2 l1))
  have hb2 := hN1.trans (hN2.mono hN1.size)
  have lA := kA.lt
  have lR := kR.lt
  have hT2 : IsTX (fun b => b < w.heap.size) w2 t cs := (hT.isTX.lt.below hb2).mono fun b h => h.2
  have hr2 := hr.below hb2
  obtain ⟨A, hA⟩ : ∃ A, w.heap.size = A := ⟨_, rfl⟩
  obtain ⟨R, hR⟩ : ∃ R, w1.heap.size = R := ⟨_, rfl⟩
  have hAR : A < R ∧ w.heap.size = A := by omega
  rw [hA] at kA
  rw [hR] at kR
  simp only [hA, hR]
  rw [hA] at hT2
  clear hz1 hz2 hN1 hN2 k1 l1 lA lR hA hR hT
  go_upto_region 2 with (((with_reducible refine' wpList_len_rd (.tmp 8) 22 rfl ?_ Tryd.underlying22 ?_ hr2 ?_); exact rfl; exact rfl; simp only [Act.put, List.setIfInBounds_toArray, List.set_cons_succ, List.set_cons_zero]))
  go_loopw [10] (fun i wr => ∃ (j : Nat) (u : Tree) (ds : List Value), j ≤ p.length ∧ i = .int .i64 (j : Int) ∧ Hid (tat (p.drop j) u = tat p t) ∧ tsize u ≤ tsize t ∧ Hid (IsTX (fun b => b < A) wr u ds) ∧ Blk wr A 25 ds ∧ Blk wr R 25 nodz ∧ Below w.heap.size w wr) (fun i _ => p.length - (intOf i).toNat)
  case atStart => exact ⟨0, t, cs, Nat.zero_le _, rfl, Lib.hid rfl, Nat.le_refl _, Lib.hid hT2, kA, kR, hb2⟩
  case round =>
    obtain ⟨j, u, ds, hj, rfl, HT0, hsu, HU, kA, kR, hb⟩ := hrel
    obtain ⟨wo, rfl⟩ : ∃ wo : World, wo = wr := ⟨_, rfl⟩
    have hrj := hr.below hb
    have DL := Lib.hid HU.out.len
    have DO := Lib.hid HU.out.isT.ones
    clear hr2 hT2
    by_cases hlt : j < p.length
    · obtain ⟨i, hi⟩ : ∃ i, p[j]? = some i := ⟨_, List.getElem?_eq_getElem hlt⟩
      have CJ := Lib.hid (ivl_at hi)
      have HD := Lib.hid (show p.drop j = i :: p.drop (j + 1) by rw [List.drop_eq_getElem_cons hlt, (List.getElem?_eq_some_iff.1 hi).2])
      obtain ⟨k, n, m, ts⟩ := u
      obtain ⟨vk, xs, rfl, hrk, hts⟩ := HU.out.open_
      have X3 := Lib.hid (show ([.int .i64 k, .int .i64 n, .int .i64 m, vk] : List Value)[3]? = some vk from rfl)
      have hrd : Rd wo 4 vk ts.length xs := hrk.1
      have hT1 := HT0.out
      rw [HD.out] at hT1
      clear hi DL DO
      by_cases h1 : i < 0
      · have HS := Lib.hid (show tat (p.drop j) (.mk k n m ts) = none by rw [HD.out, tat, if_neg (by omega)])
        have L1 : decide (i < 0) = true := decide_eq_true h1
        clear h1 hT1
        go_wp2_with (first | ((with_reducible refine' wpList_len_rd (.tmp 8) 22 rfl ?_ Tryd.underlying22 ?_ hrj ?_); exact rfl; exact rfl; simp only [Act.put, List.setIfInBounds_toArray, List.set_cons_succ, List.set_cons_zero]) | ((with_reducible refine' wpList_at1_rd (.tmp 8) (.tmp 10) 22 rfl ?_ Tryd.underlying22 sz_int ?_ hrj (j) ?_ ?_ ?_); exact rfl; exact rfl; (show (_ : Int) = _; omega); omega; simp only [Act.put, List.setIfInBounds_toArray, List.set_cons_succ, List.set_cons_zero]) | ((with_reducible refine' wpList_load_rd (.tmp 12) 3 rfl ?_ ld_int ?_ hrj (CJ.out) ?_); exact rfl; exact rfl; simp only [Act.put, List.setIfInBounds_toArray, List.set_cons_succ, List.set_cons_zero]) | ((with_reducible refine' wpList_field_blk (j := 3) (.tmp 2) 25 3 rfl ?_ fo_node_3 ?_ rfl ?_); exact rfl; exact rfl; simp only [Act.put, List.setIfInBounds_toArray, List.set_cons_succ, List.set_cons_zero]) | ((with_reducible refine' wpList_load_blk (.tmp 18) 23 rfl ?_ ld_nds ?_ kA (X3.out) ?_); exact rfl; exact rfl; simp only [Act.put, List.setIfInBounds_toArray, List.set_cons_succ, List.set_cons_zero]) | ((with_reducible refine' wpList_len_rd (.tmp 19) 23 rfl ?_ Tryd.underlying23 ?_ hrd ?_); exact rfl; exact rfl; simp only [Act.put, List.setIfInBounds_toArray, List.set_cons_succ, List.set_cons_zero]) | ((with_reducible refine' wpList_store_blk (cs := nodz) 25 (.tmp 4) (.tmp 23) rfl ?_ ?_ ?_ kR sz_node ?_ ?_ ?_ ?_); exact rfl; exact rfl; exact rfl; exact rfl; exact rfl; exact node_ones rfl; intro w4 k4 hO4 hz4; simp only [Act.put]))
        ((try simp only [Exit.inBlock, Exit.then]); refine bodyPost_ret (results_cell_row_tmp rfl _ _ _ _ _ _ _ rfl k4 Tryd.underlying25 rfl (by rw [sz_node]; rfl)) rfl ?_)
        rw [← HT0.out, HS.out]
        exact ⟨nodz, false, rfl, ⟨rfl, rfl⟩, hb.trans (hO4.below (by omega) hb.size)⟩
      obtain ⟨q, rfl⟩ : ∃ q : Nat, i = (q : Int) := ⟨i.toNat, by omega⟩
      have L1 : decide ((q : Int) < 0) = false := decide_eq_false h1
      by_cases h2 : ts.length ≤ q
      · have HS := Lib.hid (show tat (p.drop j) (.mk k n m ts) = none by rw [HD.out, tat, if_pos (by omega), Int.toNat_natCast, List.getElem?_eq_none h2]; rfl)
        have L2 : decide (ts.length ≤ q) = true := decide_eq_true h2
        clear h1 h2 hT1
        go_wp2_with (first | ((with_reducible refine' wpList_len_rd (.tmp 8) 22 rfl ?_ Tryd.underlying22 ?_ hrj ?_); exact rfl; exact rfl; simp only [Act.put, List.setIfInBounds_toArray, List.set_cons_succ, List.set_cons_zero]) | ((with_reducible refine' wpList_at1_rd (.tmp 8) (.tmp 10) 22 rfl ?_ Tryd.underlying22 sz_int ?_ hrj (j) ?_ ?_ ?_); exact rfl; exact rfl; (show (_ : Int) = _; omega); omega; simp only [Act.put, List.setIfInBounds_toArray, List.set_cons_succ, List.set_cons_zero]) | ((with_reducible refine' wpList_load_rd (.tmp 12) 3 rfl ?_ ld_int ?_ hrj (CJ.out) ?_); exact rfl; exact rfl; simp only [Act.put, List.setIfInBounds_toArray, List.set_cons_succ, List.set_cons_zero]) | ((with_reducible refine' wpList_field_blk (j := 3) (.tmp 2) 25 3 rfl ?_ fo_node_3 ?_ rfl ?_); exact rfl; exact rfl; simp only [Act.put, List.setIfInBounds_toArray, List.set_cons_succ, List.set_cons_zero]) | ((with_reducible refine' wpList_load_blk (.tmp 18) 23 rfl ?_ ld_nds ?_ kA (X3.out) ?_); exact rfl; exact rfl; simp only [Act.put, List.setIfInBounds_toArray, List.set_cons_succ, List.set_cons_zero]) | ((with_reducible refine' wpList_len_rd (.tmp 19) 23 rfl ?_ Tryd.underlying23 ?_ hrd ?_); exact rfl; exact rfl; simp only [Act.put, List.setIfInBounds_toArray, List.set_cons_succ, List.set_cons_zero]) | ((with_reducible refine' wpList_store_blk (cs := nodz) 25 (.tmp 4) (.tmp 23) rfl ?_ ?_ ?_ kR sz_node ?_ ?_ ?_ ?_); exact rfl; exact rfl; exact rfl; exact rfl; exact rfl; exact node_ones rfl; intro w4 k4 hO4 hz4; simp only [Act.put]))
        ((try simp only [Exit.inBlock, Exit.then]); refine bodyPost_ret (results_cell_row_tmp rfl _ _ _ _ _ _ _ rfl k4 Tryd.underlying25 rfl (by rw [sz_node]; rfl)) rfl ?_)
        rw [← HT0.out, HS.out]
        exact ⟨nodz, false, rfl, ⟨rfl, rfl⟩, hb.trans (hO4.below (by omega) hb.size)⟩
      · have hq : q < ts.length := by omega
        obtain ⟨u2, hu⟩ := kid_at hq
        rw [tat_succ (p := p.drop (j + 1)) (rfl : (Tree.mk k n m ts) = .mk k n m ts) hu] at hT1
        have HT1 := Lib.hid hT1
        have L2 : decide (ts.length ≤ q) = false := decide_eq_false h2
        have hT := IsTsX.get hts hu
        have hsz := tsize_mem (List.mem_of_getElem? hu)
        rw [tsize] at hsu
        obtain ⟨es, hes⟩ : ∃ es, (xs.drop (q * 4)).take 4 = es := ⟨_, rfl⟩
        rw [hes] at hT
        have HC := Lib.hid hes
        have EL := Lib.hid hT.len
        have EO := Lib.hid hT.isT.ones
        have BD := Lib.hid (show q * 4 + 4 ≤ xs.length by rw [hts.len]; omega)
        clear h1 h2 hu hes hT1
        go_wp2_with (first | ((with_reducible refine' wpList_at1_rd (.tmp 8) (.tmp 10) 22 rfl ?_ Tryd.underlying22 sz_int ?_ hrj (j) ?_ ?_ ?_); exact rfl; exact rfl; (show (_ : Int) = _; omega); omega; simp only [Act.put, List.setIfInBounds_toArray, List.set_cons_succ, List.set_cons_zero]) | ((with_reducible refine' wpList_load_rd (.tmp 12) 3 rfl ?_ ld_int ?_ hrj (CJ.out) ?_); exact rfl; exact rfl; simp only [Act.put, List.setIfInBounds_toArray, List.set_cons_succ, List.set_cons_zero]) | ((with_reducible refine' wpList_field_blk (j := 3) (.tmp 2) 25 3 rfl ?_ fo_node_3 ?_ rfl ?_); exact rfl; exact rfl; simp only [Act.put, List.setIfInBounds_toArray, List.set_cons_succ, List.set_cons_zero]) | ((with_reducible refine' wpList_load_blk (.tmp 18) 23 rfl ?_ ld_nds ?_ kA (X3.out) ?_); exact rfl; exact rfl; simp only [Act.put, List.setIfInBounds_toArray, List.set_cons_succ, List.set_cons_zero]) | ((with_reducible refine' wpList_len_rd (.tmp 19) 23 rfl ?_ Tryd.underlying23 ?_ hrd ?_); exact rfl; exact rfl; simp only [Act.put, List.setIfInBounds_toArray, List.set_cons_succ, List.set_cons_zero]) | ((with_reducible refine' wpList_load_blk (.tmp 24) 23 rfl ?_ ld_nds ?_ kA (X3.out) ?_); exact rfl; exact rfl; simp only [Act.put, List.setIfInBounds_toArray, List.set_cons_succ, List.set_cons_zero]) | ((with_reducible refine' wpList_at_rd (.tmp 25) (.tmp 26) 23 rfl ?_ Tryd.underlying23 sz_node ?_ hrd (by decide) (q) ?_ ?_ ?_); exact rfl; exact rfl; (show (_ : Int) = _; omega); omega; simp only [Act.put, List.setIfInBounds_toArray, List.set_cons_succ, List.set_cons_zero]) | ((with_reducible refine' wpList_load_st (cp := es) (.tmp 27) 25 rfl ?_ Tryd.underlying25 ?_ sz_node ?_ hrd ?_ ?_ HC.out ?_); exact rfl; exact rfl; exact rfl; exact BD.out; decide; simp only [Act.put, List.setIfInBounds_toArray, List.set_cons_succ, List.set_cons_zero]) | ((with_reducible refine' wpList_store_blk (cs := es) 25 (.tmp 2) (.tmp 28) rfl ?_ ?_ ?_ kA sz_node ?_ ?_ ?_ ?_); exact rfl; exact rfl; exact rfl; exact EL.out; exact rfl; exact EO.out; intro w4 k4 hO4 hz4; simp only [Act.put]))
        have HU4 := Lib.hid (hT.only hO4 (fun b h => by omega))
        have kR4 := hO4.blk kR (by omega)
        have hb4 := hb.trans (hO4.below (by omega) hb.size)
        have hs4 : tsize u2 ≤ tsize t := by omega
        go_roundw
        case rel => (first | exact ⟨j + 1, u2, es, by omega, by go_num, HT1, hs4, HU4, k4, kR4, hb4⟩ | ((repeat apply Exists.intro); exact ⟨⟨j + 1, u2, es, by omega, by go_num, HT1, hs4, HU4, k4, kR4, hb4⟩, rfl⟩))
        case measure => simp [intOf]; omega
    · obtain rfl : j = p.length := by omega
      have hT1 := HT0.out
      rw [List.drop_length, tat] at hT1
      have HT1 := Lib.hid hT1
      clear hT1
      have hTu := HU.out.isT
      go_wp2_with (first
        | ((with_reducible refine' wpList_loadst_blk (.tmp 2) 25 rfl ?_ Tryd.underlying25 ?_ sz_node ?_ kA ?_ ?_ ?_); exact rfl; exact rfl; exact rfl; exact DL.out; decide; simp only [Act.put, List.setIfInBounds_toArray, List.set_cons_succ, List.set_cons_zero])
        | ((go_at_call 59; (with_reducible refine (copied_any u ds _ hTu (by omega)).mono ?_); rintro e w' ⟨es, rfl, hE, hN6⟩); have EL := Lib.hid hE.len; have EO := Lib.hid hE.isT.ones; have kR6 := kR.below hN6 kR.lt)
        | ((with_reducible refine' wpList_store_blk (cs := es) 25 (.tmp 4) (.tmp 31) rfl ?_ ?_ ?_ kR6 sz_node ?_ ?_ ?_ ?_); exact rfl; exact rfl; exact rfl; exact EL.out; exact rfl; exact EO.out; intro w7 k7 hO7 hz7; simp only [Act.put]))
      ((try simp only [Exit.inBlock, Exit.then]); refine bodyPost_ret (results_cell_row_tmp rfl _ _ _ _ _ _ _ rfl k7 Tryd.underlying25 rfl (by rw [sz_node]; simp [EL.out])) rfl ?_)
      have hwo := hb.size
      have h6 := hb.trans (hN6.mono hwo)
      have hlR := kR.lt
      rw [← HT1.out]
      exact ⟨es, true, rfl, ⟨rfl, (hE.only hO7 (fun b h => by have h2 : wo.heap.size ≤ b := h; omega)).mono fun b h => by have h2 : wo.heap.size ≤ b := h; omega⟩, h6.trans (hO7.below (by omega) h6.size)⟩
end Go.Proofs.YtdlhkhnoigbhjaaDoor.Wi
namespace Go.Proofs.YtdlhkhnoigbhjaaDoor.Lb
open Go Go.RowKit Go.Lib Pu
theorem put_same {old ds : List Value} {f : Nat} (h : (old.drop f).take 4 = ds) (hl : f + 4 ≤ old.length) : put old f ds = old := by
  have h4 : ds.length = 4 := by rw [← h, List.length_take, List.length_drop]; omega
  unfold put
  rw [h4, ← h, List.append_assoc]
  conv => rhs; rw [← List.take_append_drop f old]
  congr 1
  rw [← List.drop_drop, List.take_append_drop]
theorem put_take {cur es : List Value} {a N : Nat} (he : es.length = 4) (h1 : a + 4 ≤ N) (h2 : N ≤ cur.length) : (put cur a es).take N = (cur.take N).take a ++ es ++ (cur.take N).drop (a + 4) := by
  unfold put
  have hl : (cur.take a ++ es).length = a + 4 := by rw [List.length_append, List.length_take, he]; omega
  rw [List.take_append, List.take_of_length_le (by omega), hl, he, List.take_take, Nat.min_eq_left (by omega : a ≤ N), List.drop_take]
/-- the node at hand, and what a write there does to the whole -/
structure Foc (X : Nat → Prop) (T : Nat) (w : World) (B f : Nat) (old : List Value) (Y : Nat → Prop) (u : Tree) (ds : List Value) (re : Tree → Tree) : Prop where
  blk : Blk w B 25 old
  room : f + 4 ≤ old.length
  part : (old.drop f).take 4 = ds
  sub : IsTD Y w u ds
  out : ¬ Y B
  own : X B ∨ B = T
  inn : ∀ b, Y b → X b
  cont : ∀ w' Z x es, Keep (fun b => (X b ∨ b = T) ∧ ¬ Y b ∧ b ≠ B) w w' → es.length = 4 → Blk w' B 25 (put old f es) → IsTX Z w' x es → ∃ rs, Blk w' T 25 rs ∧ rs.length = 4 ∧ IsTX (fun b => X b ∨ Z b) w' (re x) rs
theorem Foc.start {X : Nat → Prop} {T : Nat} {w : World} {t : Tree} {ds : List Value} (hb : Blk w T 25 ds) (ht : IsTD X w t ds) (hX : ¬ X T) : Foc X T w T 0 ds X t ds id := by
  have h4 := ht.isTX.len
  refine ⟨hb, by omega, by rw [List.drop_zero, List.take_of_length_le (by omega)], ht, hX, .inr rfl, fun _ h => h, fun w' Z x es _ he hb hx => ⟨es, ?_, he, hx.mono fun b h => .inr h⟩⟩
  unfold put at hb
  rw [List.take_zero, List.nil_append, List.drop_of_length_le (by omega), List.append_nil] at hb
  exact hb
theorem Foc.step {X : Nat → Prop} {T : Nat} {w : World} {B f : Nat} {old : List Value} {Y : Nat → Prop} {k n m : Int} {ts : List Tree} {vk : Value} {xs : List Value} {re : Tree → Tree}
    (h : Foc X T w B f old Y (.mk k n m ts) [.int .i64 k, .int .i64 n, .int .i64 m, vk] re) (hown : w.ownsRow 0 25 4 vk ts.length xs) (hYv : ∀ g, vk.ownBlock = some g → Y g) (hts : IsTsD (fun b => Y b ∧ vk.ownBlock ≠ some b) w ts xs) {q : Nat} {u : Tree} (hu : ts[q]? = some u) :
    ∃ g cur Y', ep vk (q * 4) = .pointer (some ⟨g, q * 4, none⟩) ∧ Foc X T w g (q * 4) cur Y' u ((xs.drop (q * 4)).take 4) (fun x => re (.mk k n m (ts.set q x))) := by
  have hq := (List.getElem?_eq_some_iff.1 hu).1
  rcases hown.2 with ⟨_, hn⟩ | ⟨g, cap, cur, rfl, _, hg, hnc, hcm, hcs, htake⟩
  · omega
  obtain ⟨Y', hY', hT, hc⟩ := hts.focus hu
  have hYg : Y g := hYv g rfl
  have hcl : cur.toList.length = cap * 4 := by simpa using hcs
  have hgY : ¬ Y' g := fun h => (hY' g h).2 rfl
  refine ⟨g, cur.toList, Y', by simp [ep, Addr.add]; try omega, by simpa [Blk] using hg, by rw [hcl]; omega, ?_, hT, hgY, .inl (h.inn g hYg), fun b hb => h.inn b (hY' b hb).1, fun w' Z x es hk he hb hx => ?_⟩
  · rw [← htake, List.drop_take, List.take_take, Nat.min_eq_left (by omega)]
  · have hBg : B ≠ g := fun e => h.out (e ▸ hYg)
    have hB : Blk w' B 25 (put old f [.int .i64 k, .int .i64 n, .int .i64 m, .slice (some ⟨g, 0, none⟩) ts.length cap]) := by
      rw [put_same h.part h.room]
      exact (hk B ⟨h.own, fun hy => h.out (hY' B hy).1, hBg⟩ h.blk.lt).trans h.blk
    have hsetl : (ts.set q x).length = ts.length := List.length_set
    have hkid := hc w' Z x es (fun b hb hl => hk b ⟨.inl (h.inn b hb.1.1), hb.2, fun e => hb.1.2 (by rw [e]; rfl)⟩ hl) he hx
    have hown' : w'.ownsRow 0 25 4 (.slice (some ⟨g, 0, none⟩) ts.length cap) ts.length (xs.take (q * 4) ++ es ++ xs.drop (q * 4 + 4)) := by
      have hxl := hown.1
      refine ⟨by rw [List.length_append, List.length_append, List.length_take, List.length_drop, he]; omega, .inr ⟨g, cap, (put cur.toList (q * 4) es).toArray, rfl, Nat.zero_le _, hb, hnc, hcm, ?_, ?_⟩⟩
      · rw [List.size_toArray, put_len (by rw [he, hcl]; omega), hcl]
      · rw [put_take he (by omega) (by rw [hcl]; omega), htake]
    have hx' : IsTX (fun b => Y b ∨ Z b) w' (.mk k n m (ts.set q x)) [.int .i64 k, .int .i64 n, .int .i64 m, .slice (some ⟨g, 0, none⟩) ts.length cap] :=
      IsTX.node (by rw [hsetl]; exact Rd.of_own hown') (fun b hb _ => .inl (hYv b hb)) (hkid.mono fun b h => h.imp (fun h => h.1) id)
    obtain ⟨rs, h1, h2, h3⟩ := h.cont w' _ _ _ (fun b hb hl => hk b ⟨hb.1, fun hy => hb.2.1 (hY' b hy).1, fun e => hb.2.1 (e ▸ hYg)⟩ hl) rfl hB hx'
    exact ⟨rs, h1, h2, h3.mono fun b hb => hb.elim .inl (fun hb => hb.imp (h.inn b) id)⟩
/-- the focus abides steps that leave the old blocks alone -/
theorem Foc.below {X : Nat → Prop} {T : Nat} {w w2 : World} {B f : Nat} {old : List Value} {Y : Nat → Prop} {u : Tree} {ds : List Value} {re : Tree → Tree} (h : Foc X T w B f old Y u ds re) (hb : Below w.heap.size w w2) : Foc X T w2 B f old Y u ds re := by
  refine ⟨h.blk.below hb h.blk.lt, h.room, h.part, h.sub.keep (Keep.below hb), h.out, h.own, h.inn, fun w' Z x es hk he hb' hx => h.cont w' Z x es (fun b hc hl => (hk b hc (Nat.lt_of_lt_of_le hl hb.size)).trans (hb.block b hl)) he hb' hx⟩
end Go.Proofs.YtdlhkhnoigbhjaaDoor.Lb
namespace Go.Proofs.YtdlhkhnoigbhjaaDoor.Wi
open Go Go.RowKit Pu Lb
set_option linter.unusedSimpArgs false
set_option linter.unusedVariables false
set_option maxRecDepth 100000 in
set_option maxHeartbeats 1600000 in
theorem treeset_any (p : List Int) (t x : Tree) (cs ds : List Value) (vp : Value) (w : World) (hT : IsT w t cs) (hX : IsT w x ds) (hr : Rd w 1 vp p.length (iv p)) (hs : tsize t ≤ 1000000) (hsx : tsize x ≤ 1000000) :
    Calls Tryd.prog 30 #[.agg cs.toArray, vp, .agg ds.toArray] w fun e w' => ∃ (es : List Value) (c : Int), e = .returned (.tuple #[.agg es.toArray, .int .i64 c]) ∧ SetR (fun b => w.heap.size ≤ b) w' es c (tset p t x) ∧ Below w.heap.size w w' := by
  have CL := Lib.hid hT.len
  have CO := Lib.hid hT.ones
  have DL := Lib.hid hX.len
  have DO := Lib.hid hX.ones
  have hmx := hr.len
  unfold maxLen at hmx
  go_enter Tryd.func30, Tryd.ntmps30
  go_upto_region 1 with (first
    | (((with_reducible refine' wpList_boxa (cs := cs) 25 (.tmp 0) rfl ?_ ?_ ?_); exact rfl; exact rfl; intro w1 k1 hN1 hz1; simp only [Act.put, List.setIfInBounds_toArray, List.set_cons_succ, List.set_cons_zero]); have l1 := k1.lt)
    | (((with_reducible refine' wpList_boxa (cs := ds) 25 (.tmp 2) rfl ?_ ?_ ?_); exact rfl; exact rfl; intro w2 k2 hN2 hz2; simp only [Act.put, List.setIfInBounds_toArray, List.set_cons_succ, List.set_cons_zero]); have l2 := k2.lt; have kA2 := k1.below hN2 l1)
    | (((with_reducible refine' wpList_alloc_blk (cs := nodz) 25 rfl ?_ zr_node ?_ ?_); exact rfl; exact nodz_cells; intro w3 k3 hN3 hz3; simp only [Act.put, List.setIfInBounds_toArray, List.set_cons_succ, List.set_cons_zero]); have kA3 := kA2.below hN3 (by omega); have kX3 := k2.below hN3 l2))
  have hb3 : Below w.heap.size w w3 := (hN1.trans (hN2.mono hN1.size)).trans (hN3.mono (hN1.trans (hN2.mono hN1.size)).size)
  obtain ⟨A, hA⟩ : ∃ A, w.heap.size = A := ⟨_, rfl⟩
  obtain ⟨B, hB⟩ : ∃ B, w1.heap.size = B := ⟨_, rfl⟩
  obtain ⟨R, hR⟩ : ∃ R, w2.heap.size = R := ⟨_, rfl⟩
  have hAR : A < R ∧ B < R ∧ R < w3.heap.size ∧ w.heap.size = A := by omega
  rw [hA] at kA3
  rw [hB] at kX3
  rw [hR] at k3
  simp only [hA, hB, hR]
  have hT3 := hT.below hb3
  have hX3 := hX.below hb3
  have hr3 := hr.below hb3
  clear hz1 hz2 hz3 hN1 hN2 hN3 k1 k2 kA2 l1 l2 hA hB hR hT hX hr
  go_upto_region 2 with (first
    | ((with_reducible refine' wpList_loadst_blk (.tmp 3) 25 rfl ?_ Tryd.underlying25 ?_ sz_node ?_ kA3 ?_ ?_ ?_); exact rfl; exact rfl; exact rfl; exact CL.out; decide; simp only [Act.put, List.setIfInBounds_toArray, List.set_cons_succ, List.set_cons_zero])
    | ((go_at_call 28; (with_reducible refine (treeat_any p t cs vp _ hT3 hr3 hs).mono ?_); rintro e w' ⟨ats, bb, rfl, hA, hN4⟩); have AL := Lib.hid hA.len; have AO := Lib.hid hA.ones)
    | (((with_reducible refine' wpList_alloc_blk (cs := nodz) 25 rfl ?_ zr_node ?_ ?_); exact rfl; exact nodz_cells; intro w5 k5 hN5 hz5; simp only [Act.put, List.setIfInBounds_toArray, List.set_cons_succ, List.set_cons_zero]))
    | ((with_reducible refine' wpList_store_blk (cs := ats) 25 (.tmp 8) (.tmp 18) rfl ?_ ?_ ?_ k5 sz_node ?_ ?_ ?_ ?_); exact rfl; exact rfl; exact rfl; exact AL.out; exact rfl; exact AO.out; intro w6 k6 hO6 hz6; simp only [Act.put]))
  have hb46 : Below w3.heap.size w3 w6 := (hN4.trans (hN5.mono hN4.size)).trans (hO6.below hN4.size (Nat.le_trans hN4.size hN5.size))
  have kA6 := kA3.below hb46 (by omega)
  have kX6 := kX3.below hb46 (by omega)
  have kR6 := k3.below hb46 hAR.2.2.1
  have hT6 := hT3.below hb46
  have hX6 := hX3.below hb46
  have hr6 := hr3.below hb46
  have hb6 := hb3.trans (hb46.mono hb3.size)
  have hs6 := hb46.size
  clear hN4 hN5 hO6 hz5 hz6 k5 hb46 kA3 kX3 k3 hT3 hX3 hr3
  cases ho : tat p t with
  | none =>
    rw [ho] at hA
    obtain ⟨rfl, _⟩ := hA
    have HS := Lib.hid (show tset p t x = none by
      have h := tset_isSome x p t
      rw [ho] at h
      cases h2 : tset p t x with
      | none => rfl
      | some z => rw [h2] at h; simp at h)
    clear ho
    go_wp2_with (((with_reducible refine' wpList_store_blk (cs := nodz) 25 (.tmp 6) (.tmp 22) rfl ?_ ?_ ?_ kR6 sz_node ?_ ?_ ?_ ?_); exact rfl; exact rfl; exact rfl; exact rfl; exact rfl; exact node_ones rfl; intro w7 k7 hO7 hz7; simp only [Act.put]))
    ((try simp only [Exit.inBlock, Exit.then]); refine bodyPost_ret (results_cell_row_tmp rfl _ _ _ _ _ _ _ rfl k7 Tryd.underlying25 rfl (by rw [sz_node]; rfl)) rfl ?_)
    rw [HS.out]
    exact ⟨nodz, 6, rfl, ⟨rfl, rfl⟩, hb6.trans (hO7.below (by omega) (by omega))⟩
  | some o =>
    rw [ho] at hA
    obtain ⟨rfl, _⟩ := hA
    have HO := Lib.hid ho
    clear ho
    go_upto_region 7 with (first
      | ((with_reducible refine' wpList_loadst_blk (.tmp 3) 25 rfl ?_ Tryd.underlying25 ?_ sz_node ?_ kA6 ?_ ?_ ?_); exact rfl; exact rfl; exact rfl; exact CL.out; decide; simp only [Act.put, List.setIfInBounds_toArray, List.set_cons_succ, List.set_cons_zero])
      | ((go_at_call 59; (with_reducible refine (copied_sep t cs _ hT6 hs).mono ?_); rintro e w' ⟨us, rfl, hU, hN7⟩); have UL := Lib.hid hU.isTX.len; have UO := Lib.hid hU.isTX.isT.ones; have hr7 := hr6.below hN7)
      | (((with_reducible refine' wpList_alloc_blk (cs := nodz) 25 rfl ?_ zr_node ?_ ?_); exact rfl; exact nodz_cells; intro w8 k8 hN8 hz8; simp only [Act.put, List.setIfInBounds_toArray, List.set_cons_succ, List.set_cons_zero]))
      | (((with_reducible refine' wpList_store_blk (cs := us) 25 (.tmp 10) (.tmp 24) rfl ?_ ?_ ?_ k8 sz_node ?_ ?_ ?_ ?_); exact rfl; exact rfl; exact rfl; exact UL.out; exact rfl; exact UO.out; intro w9 k9 hO9 hz9; simp only [Act.put]); have hr9 : Rd w9 1 vp p.length (iv p) := hr7.below (hN8.trans (hO9.below (Nat.le_refl _) (Nat.le_of_lt k8.lt))))
      | ((with_reducible refine' wpList_len_rd (.tmp 25) 22 rfl ?_ Tryd.underlying22 ?_ hr9 ?_); exact rfl; exact rfl; simp only [Act.put, List.setIfInBounds_toArray, List.set_cons_succ, List.set_cons_zero]))
    obtain ⟨T, hTT⟩ : ∃ T, w'.heap.size = T := ⟨_, rfl⟩
    have hb79 : Below w'.heap.size w' w9 := hN8.trans (hO9.below (Nat.le_refl _) (Nat.le_of_lt k8.lt))
    have hb69 : Below w6.heap.size w6 w9 := hN7.trans (hb79.mono hN7.size)
    have hs7 := hN7.size
    have hs9 := hb79.size
    have lT := k9.lt
    rw [hTT] at k9 lT
    simp only [hTT]
    have hb9 := hb6.trans (hb69.mono hb6.size)
    have kA9 := kA6.below hb69 (by omega)
    have kX9 := kX6.below hb69 (by omega)
    have kR9 := kR6.below hb69 (by omega)
    have hX9 := hX6.below hb69
    have hU9 := hU.keep (Keep.below hb79)
    have F0 := Foc.start k9 hU9 (fun h => by have := h.2; omega)
    have FH : ∃ (j : Nat) (u : Tree) (es : List Value) (Bf f : Nat) (old : List Value) (Y : Nat → Prop) (re : Tree → Tree), j ≤ p.length ∧ Value.pointer (some ⟨T, 0, none⟩) = .pointer (some ⟨Bf, f, none⟩) ∧ Value.int .i64 0 = .int .i64 (j : Int) ∧ w9 = w9 ∧ Hid (Foc (fun b => w6.heap.size ≤ b ∧ b < w'.heap.size) T w9 Bf f old Y u es re) ∧ Hid (∀ z, tset p t z = (tset (p.drop j) u z).map re) ∧ Hid (tat (p.drop j) u = some o) :=
      ⟨0, t, us, T, 0, us, _, id, Nat.zero_le _, rfl, rfl, rfl, Lib.hid F0, Lib.hid (fun z => by rw [List.drop_zero]; simp), Lib.hid HO.out⟩
    clear F0 hU9 hU hN7 hN8 hO9 hz8 hz9 k8 hr7 hb69 hT6 hX6 hr6 kA6 kX6 kR6 hb79 k9
    go_loopw [11, 27] (fun pv i wr => ∃ (j : Nat) (u : Tree) (es : List Value) (Bf f : Nat) (old : List Value) (Y : Nat → Prop) (re : Tree → Tree), j ≤ p.length ∧ pv = .pointer (some ⟨Bf, f, none⟩) ∧ i = .int .i64 (j : Int) ∧ wr = w9 ∧ Hid (Foc (fun b => w6.heap.size ≤ b ∧ b < w'.heap.size) T w9 Bf f old Y u es re) ∧ Hid (∀ z, tset p t z = (tset (p.drop j) u z).map re) ∧ Hid (tat (p.drop j) u = some o)) (fun _ i _ => p.length - (intOf i).toNat)
    case atStart => exact FH
    case round =>
      clear FH
      obtain ⟨j, u, es, Bf, f, old, Y, re, hj, rfl, rfl, rfl, HF, HZ, HA⟩ := hrel
      obtain ⟨wo, rfl⟩ : ∃ wo : World, wo = wr := ⟨_, rfl⟩
      by_cases hlt : j < p.length
      · obtain ⟨i, hi⟩ : ∃ i, p[j]? = some i := ⟨_, List.getElem?_eq_getElem hlt⟩
        have CJ := Lib.hid (ivl_at hi)
        have HD := Lib.hid (show p.drop j = i :: p.drop (j + 1) by rw [List.drop_eq_getElem_cons hlt, (List.getElem?_eq_some_iff.1 hi).2])
        obtain ⟨k, n, m, ts⟩ := u
        have hat := HA.out
        rw [HD.out, tat] at hat
        have hi0 : 0 ≤ i := by
          by_cases h : 0 ≤ i
          · exact h
          · rw [if_neg h] at hat; cases hat
        rw [if_pos hi0] at hat
        obtain ⟨q, rfl⟩ : ∃ q : Nat, i = (q : Int) := ⟨i.toNat, by omega⟩
        rw [Int.toNat_natCast] at hat
        obtain ⟨u2, hu⟩ : ∃ u2, ts[q]? = some u2 := by
          cases h : ts[q]? with
          | none => rw [h] at hat; cases hat
          | some u2 => exact ⟨u2, rfl⟩
        rw [hu] at hat
        have hq := (List.getElem?_eq_some_iff.1 hu).1
        have hF := HF.out
        have hsub := hF.sub
        rw [IsTD] at hsub
        obtain ⟨vk, xs, rfl, hown, hYv, hts⟩ := hsub
        obtain ⟨g, cur, Y', hep, hF2⟩ := hF.step hown hYv hts hu
        have hrd := Rd.of_own hown
        have kB := hF.blk
        have O3 := Lib.hid (show old[f + 3]? = some vk by
          have h := hF.part
          have h3 : ((old.drop f).take 4)[3]? = some vk := by rw [h]; rfl
          rw [List.getElem?_take_of_lt (by decide), List.getElem?_drop] at h3
          exact h3)
        have HZ2 := Lib.hid (show ∀ z, tset p t z = (tset (p.drop (j + 1)) u2 z).map (fun x => re (.mk k n m (ts.set q x))) from fun z => by
          rw [HZ.out z, HD.out, tset, if_pos (by omega), Int.toNat_natCast, hu, Option.bind_some, Option.map_map]; rfl)
        have HA2 := Lib.hid (show tat (p.drop (j + 1)) u2 = some o from hat)
        have HF2 := Lib.hid hF2
        have HEP := Lib.hid hep
        clear hF hF2 hat hi hu hown hYv hts hi0 hep HZ HA HF HD
        go_upto_region 10 with (first
          | ((with_reducible refine' wpList_len_rd (.tmp 25) 22 rfl ?_ Tryd.underlying22 ?_ hr9 ?_); exact rfl; exact rfl; simp only [Act.put, List.setIfInBounds_toArray, List.set_cons_succ, List.set_cons_zero]) | ((with_reducible refine' wpList_at1_rd (.tmp 25) (.tmp 27) 22 rfl ?_ Tryd.underlying22 sz_int ?_ hr9 (j) ?_ ?_ ?_); exact rfl; exact rfl; (show (_ : Int) = _; omega); omega; simp only [Act.put, List.setIfInBounds_toArray, List.set_cons_succ, List.set_cons_zero]) | ((with_reducible refine' wpList_load_rd (.tmp 29) 3 rfl ?_ ld_int ?_ hr9 (CJ.out) ?_); exact rfl; exact rfl; simp only [Act.put, List.setIfInBounds_toArray, List.set_cons_succ, List.set_cons_zero])
          | ((with_reducible refine' wpList_field_blk (j := f + 3) (.tmp 32) 25 3 rfl ?_ fo_node_3 ?_ rfl ?_); exact rfl; exact rfl; simp only [Act.put, List.setIfInBounds_toArray, List.set_cons_succ, List.set_cons_zero]) | ((with_reducible refine' wpList_load_blk (.tmp 33) 23 rfl ?_ ld_nds ?_ kB (O3.out) ?_); exact rfl; exact rfl; simp only [Act.put, List.setIfInBounds_toArray, List.set_cons_succ, List.set_cons_zero]) | ((with_reducible refine' wpList_at_rd (.tmp 34) (.tmp 35) 23 rfl ?_ Tryd.underlying23 sz_node ?_ hrd (by decide) (q) ?_ ?_ ?_); exact rfl; exact rfl; (show (_ : Int) = _; omega); omega; simp only [Act.put, List.setIfInBounds_toArray, List.set_cons_succ, List.set_cons_zero]))
        rw [HEP.out]
        go_wp2_with fail
        go_roundw
        case rel => (first | exact ⟨j + 1, u2, _, g, q * 4, cur, Y', _, by omega, rfl, by go_num, trivial, HF2, HZ2, HA2⟩ | ((repeat apply Exists.intro); exact ⟨⟨j + 1, u2, _, g, q * 4, cur, Y', _, by omega, rfl, by go_num, trivial, HF2, HZ2, HA2⟩, rfl⟩))
        case measure => simp [intOf]; omega
      · obtain rfl : j = p.length := by omega
        have hF := HF.out
        have hz := HZ.out x
        rw [List.drop_length, tset, Option.map_some] at hz
        have HZ1 := Lib.hid hz
        have kB := hF.blk
        have lB := kB.lt
        have room := Lib.hid hF.room
        clear hF hz HZ HA HO
        go_upto_region 12 with (first
          | ((with_reducible refine' wpList_len_rd (.tmp 25) 22 rfl ?_ Tryd.underlying22 ?_ hr9 ?_); exact rfl; exact rfl; simp only [Act.put, List.setIfInBounds_toArray, List.set_cons_succ, List.set_cons_zero])
          | ((with_reducible refine' wpList_loadst_blk (.tmp 5) 25 rfl ?_ Tryd.underlying25 ?_ sz_node ?_ kX9 ?_ ?_ ?_); exact rfl; exact rfl; exact rfl; exact DL.out; decide; simp only [Act.put, List.setIfInBounds_toArray, List.set_cons_succ, List.set_cons_zero])
          | ((go_at_call 59; (with_reducible refine (copied_any x ds _ hX9 hsx).mono ?_); rintro e w' ⟨zs, rfl, hZ, hN10⟩); have ZL := Lib.hid hZ.len; have ZO := Lib.hid hZ.isT.ones; have kB10 := kB.below hN10 lB)
          | ((with_reducible refine' wpList_store_part (f := f) (cs := zs) 25 (.tmp 41) (.tmp 40) rfl ?_ ?_ ?_ kB10 sz_node ?_ ?_ ?_ ?_); exact rfl; exact rfl; exact rfl; exact ZL.out; exact room.out; exact ZO.out; intro w12 k12 hO12 hz12; simp only [Act.put, List.setIfInBounds_toArray, List.set_cons_succ, List.set_cons_zero]))
        have kR12 := hO12.blk (kR9.below hN10 kR9.lt) (fun e => by
          have h := HF.out.own
          rcases h with h | h
          · have := h.1; omega
          · omega)
        obtain ⟨rs, kT, hrl, hrs⟩ := (HF.out.below hN10).cont w12 (fun b => wo.heap.size ≤ b) x zs (Keep.only hO12 fun b h => h.2.2) ZL.out k12 (hZ.only hO12 fun b h => by have h2 : wo.heap.size ≤ b := h; omega)
        have RL := Lib.hid hrl
        have RO := Lib.hid hrs.isT.ones
        have hBB : w.heap.size ≤ Bf := by
          rcases HF.out.own with h | h
          · have := h.1; have := hb6.size; omega
          · have := hb6.size; omega
        have s10 := hN10.size
        have hb12 : Below w.heap.size w w12 := (hb9.trans (hN10.mono hb9.size)).trans (hO12.below hBB (by have := hb9.size; omega))
        have s12 := hb12.size
        have hRT : R < w6.heap.size := by omega
        have sw := hb6.size
        clear hN10 hO12 k12 hz12 kB10 kB kX9 kA9 kR9 HF hZ
        go_wp2_with (first | ((with_reducible refine' wpList_loadst_blk (.tmp 10) 25 rfl ?_ Tryd.underlying25 ?_ sz_node ?_ kT ?_ ?_ ?_); exact rfl; exact rfl; exact rfl; exact RL.out; decide; simp only [Act.put, List.setIfInBounds_toArray, List.set_cons_succ, List.set_cons_zero]) | ((with_reducible refine' wpList_store_blk (cs := rs) 25 (.tmp 6) (.tmp 42) rfl ?_ ?_ ?_ kR12 sz_node ?_ ?_ ?_ ?_); exact rfl; exact rfl; exact rfl; exact RL.out; exact rfl; exact RO.out; intro w13 k13 hO13 hz13; simp only [Act.put]))
        ((try simp only [Exit.inBlock, Exit.then]); refine bodyPost_ret (results_cell_row_tmp rfl _ _ _ _ _ _ _ rfl k13 Tryd.underlying25 rfl (by rw [sz_node]; simp [RL.out])) rfl ?_)
        rw [HZ1.out]
        exact ⟨rs, 0, rfl, ⟨rfl, (hrs.only hO13 (fun b h => by rcases h with h | h; exact (by have := h.1; omega); exact (by have h2 : wo.heap.size ≤ b := h; have := hb9.size; omega))).mono fun b h => by rcases h with h | h; exact (by have := h.1; omega); exact (by have h2 : wo.heap.size ≤ b := h; have := hb9.size; omega)⟩, hb12.trans (hO13.below (by omega) s12)⟩
end Go.Proofs.YtdlhkhnoigbhjaaDoor.Wi
namespace Go.Proofs.YtdlhkhnoigbhjaaDoor.Wi
open Go Go.RowKit Pu Lb
set_option linter.unusedSimpArgs false
set_option linter.unusedVariables false
def sumT (n : Int) : Tree := .mk 9 0 0 [.mk 6 0 0 [], .mk 4 n 0 []]
set_option maxRecDepth 100000 in
theorem sum_any (n : Int) (w : World) :
    Calls Tryd.prog 53 #[.int .i64 n] w fun e w' => ∃ es, e = .returned (.agg es.toArray) ∧ IsTX (fun b => w.heap.size ≤ b) w' (sumT n) es ∧ Below w.heap.size w w' := by
  go_enter Tryd.func53, Tryd.ntmps53
  go_upto_region 1 with (((with_reducible refine' wpList_alloc_blk (cs := nodz) 25 rfl ?_ zr_node ?_ ?_); exact rfl; exact nodz_cells; intro w2 kR hN2 hz2; simp only [Act.put, List.setIfInBounds_toArray, List.set_cons_succ, List.set_cons_zero]))
  clear hz2
  have lR := kR.lt
  go_wp2_with (first
    | (((with_reducible refine' wpList_build_sts (css := [[.int .i64 6, .int .i64 0, .int .i64 0, .slice none 0 0], [.int .i64 4, .int .i64 n, .int .i64 0, .slice none 0 0]]) rfl ?_ Tryd.underlying23 inf_node ?_ ?_ ?_ ?_ ?_ ?_); exact rfl; exact rfl; (first | omega | decide); (first | omega | decide); exact rfl; (intro c hc; simp at hc; rcases hc with rfl | rfl <;> exact rfl); intro w3 k3 hN3 hz3; simp only [Act.put, List.setIfInBounds_toArray, List.set_cons_succ, List.set_cons_zero]); have kR3 := kR.below hN3 lR)
    | ((with_reducible refine' wpList_store_blk (cs := [.int .i64 9, .int .i64 0, .int .i64 0, .slice (some ⟨w2.heap.size, 0, none⟩) 2 2]) 25 (.tmp 2) (.tmp 7) rfl ?_ ?_ ?_ kR3 sz_node ?_ ?_ ?_ ?_); exact rfl; exact rfl; exact rfl; exact rfl; exact rfl; exact node_ones rfl; intro w4 k4 hO4 hz4; simp only [Act.put]))
  ((try simp only [Exit.inBlock, Exit.then]); refine bodyPost_ret (results_cell_row rfl _ _ _ _ _ _ _ rfl k4 Tryd.underlying25 rfl (by rw [sz_node]; rfl)) rfl ?_)
  have s2 := hN2.size
  have k4' := hO4.blk k3 (by omega)
  have r4 : Rd w4 4 (.slice (some ⟨w2.heap.size, 0, none⟩) 2 2) 2 _ := k4'.rdall 2 4 rfl (by unfold maxLen; omega)
  refine ⟨_, rfl, IsTX.node (ts := [.mk 6 0 0 [], .mk 4 n 0 []]) r4 (fun b hb _ => by cases hb; exact s2) ?_, hN2.trans ((hN3.mono s2).trans (hO4.below (Nat.le_refl _) (by have := hN3.size; omega)))⟩
  exact (IsTsX.one IsTX.leaf).snoc IsTX.leaf
end Go.Proofs.YtdlhkhnoigbhjaaDoor.Wi
namespace Go.Proofs.YtdlhkhnoigbhjaaDoor.Wi
open Go Go.RowKit Pu Lb
set_option linter.unusedSimpArgs false
set_option linter.unusedVariables false
abbrev Shp := Int × Int × Int × Int × List Int × Int × Int × Int
def shT : List Shp := [(3, 0, 0, 0, [], 0, 0, 0), (3, 0, 0, 0, [], 0, 0, 0), (2, 1, 4, 0, [], 0, 0, 0), (2, 0, 0, 0, [], 3, 1, 3), (4, -8, 7, 0, [], 0, 0, 0), (4, 0, 1, 0, [], 0, 0, 0), (4, 0, 5, 0, [], 0, 0, 0), (4, 0, 5, 0, [4], 0, 0, 0), (4, 0, 5, 2, [], 0, 0, 0), (4, 0, 13, 0, [4, 4], 0, 0, 0)]
def shC (s : Shp) (v : Value) : List Value := [.int .i64 s.1, .int .i64 s.2.1, .int .i64 s.2.2.1, .int .i64 s.2.2.2.1, v, .int .i64 s.2.2.2.2.2.1, .int .i64 s.2.2.2.2.2.2.1, .int .i64 s.2.2.2.2.2.2.2]
/-- the table lies as it is written -/
def ShT (w : World) : Prop := ∀ (i : Nat) (s : Shp), shT[i]? = some s → ∃ v, v.oneCell' = true ∧ ∀ (j : Nat) (u : Value), (shC s v)[j]? = some u → w.cell? ⟨0, i * 8 + j, none⟩ = some u
theorem ShT.below {w w' : World} (h : ShT w) (hb : Below w.heap.size w w') : ShT w' := fun i s hi => by
  obtain ⟨v, h1, h3⟩ := h i s hi
  refine ⟨v, h1, fun j u hj => ?_⟩
  have := h3 j u hj
  rw [World.cell?_of_block (hb.block _ (World.block_lt_of_cell? _ _ this))]; exact this
theorem sz_shp : (Tryd.prog.info? 105).map (·.size) = some 8 := by kernel_rfl
theorem zr_shp : (Tryd.prog.info? 105).map (·.zero) = some (some (.agg #[.int .i64 0, .int .i64 0, .int .i64 0, .int .i64 0, .slice none 0 0, .int .i64 0, .int .i64 0, .int .i64 0])) := by kernel_rfl
theorem fo_shp_0 : fieldOf Tryd.prog 105 0 = some 0 := by kernel_rfl
theorem fo_shp_1 : fieldOf Tryd.prog 105 1 = some 1 := by kernel_rfl
theorem fo_shp_2 : fieldOf Tryd.prog 105 2 = some 2 := by kernel_rfl
theorem fo_shp_3 : fieldOf Tryd.prog 105 3 = some 3 := by kernel_rfl
theorem ld_srt (ad : Addr) (u : Value) (w : World) (h : w.cell? ad = some u) : (loadVar 71 ad).run Tryd.prog w = .ok u w := load_one _ _ Tryd.underlying71 rfl ad u w h
section
variable {P : Program} {ops : Array Oper} {Q : Exit → Act → World → Prop} {a : Act} {w : World} {rest : List Oper} {o : Oper}
/-- '&x[i]', x an array variable of elements of s cells -/
theorem wpList_at_blks (x i : Operand) (t : TypeId) (ho : o.op = .indexAddr t x i) (hw : Region.wanted o (yielded ops a.tmps) = true) {e : TypeId} {n : Nat} (ht : P.underlying t = some (.array n e)) {s : Nat} (hi : (P.info? e).map (·.size) = some s)
    {B f : Nat} (hx : a.eval x = .pointer (some ⟨B, f, none⟩)) (k : Nat) (hix : IsI (a.eval i) (k : Int)) (hk : k < n)
    (h : wpList P ops Q rest (a.put o.dst (.pointer (some ⟨B, f + k * s, none⟩))) w) : wpList P ops Q (o :: rest) a w := by
  obtain ⟨kd, hix⟩ := isI hix
  obtain ⟨ti, hti, rfl⟩ := Option.map_eq_some_iff.1 hi
  refine wpList_of_run hw (v := .pointer (some ⟨B, f + k * ti.size, none⟩)) (w' := w) ?_ h
  unfold execOp
  simp [ho, Instr.indexAt, hx, hix, asIntOf, run_underlying ht, sizeOf, typeInfo, hti, Instr.sureAddr, hk, Addr.add_lit]
/-- '*p', p a place in a variable, the whole thing there -/
theorem wpList_load_tabat (p : Operand) (t : TypeId) (ho : o.op = .load t p) (hw : Region.wanted o (yielded ops a.tmps) = true) {d : TypeDesc} (hd : P.underlying t = some d) (ha : isAggD d = true) {cs : List Value} {s : Nat} (hsz : (P.info? t).map (·.size) = some s) (hl : cs.length = s)
    {g f : Nat} (hx : a.eval p = .pointer (some ⟨g, f, none⟩)) (hb : ∀ (j : Nat) (u : Value), cs[j]? = some u → w.cell? ⟨g, f + j, none⟩ = some u)
    (h : wpList P ops Q rest (a.put o.dst (.agg cs.toArray)) w) : wpList P ops Q (o :: rest) a w := by
  subst hl
  obtain ⟨ti, hti, hs⟩ := Option.map_eq_some_iff.1 hsz
  have hl := run_loadCells_list (P := P) w (⟨g, f, none⟩ : Addr) cs (fun j u hu => by rw [Addr.add_lit]; exact hb j u hu)
  have hagg : (isAgg t).run P w = .ok true w := by
    unfold isAgg
    simp only [Sem.run_bind, run_underlying hd, Result.andThen]
    cases d <;> simp_all [isAggD]
  refine wpList_of_run hw (v := .agg cs.toArray) (w' := w) ?_ h
  unfold execOp
  simp [ho, Instr.loadAt, hx, Instr.sureAddr, loadVar, hagg, sizeOf, typeInfo, hti, hs, hl]
end
def shz : List Value := [.int .i64 0, .int .i64 0, .int .i64 0, .int .i64 0, .slice none 0 0, .int .i64 0, .int .i64 0, .int .i64 0]
theorem shC_ones {s : Shp} {v : Value} (h : v.oneCell' = true) : ∀ u ∈ shC s v, u.oneCell' = true := by
  intro u hu
  simp only [shC, List.mem_cons, List.not_mem_nil, or_false] at hu
  rcases hu with rfl | rfl | rfl | rfl | rfl | rfl | rfl | rfl <;> first | rfl | exact h
set_option maxRecDepth 100000 in
theorem fits9 (n m : Int) (v : Value) (hv : v.oneCell' = true) (w : World) (hS : ShT w) :
    Calls Tryd.prog 54 #[.agg #[.int .i64 9, .int .i64 n, .int .i64 m, v], .int .i64 0] w fun e w' => e = .returned (.bool false) ∧ Below w.heap.size w w' := by
  have X0 := Lib.hid (show ([.int .i64 9, .int .i64 n, .int .i64 m, v] : List Value)[0]? = some (.int .i64 9) from rfl)
  have CO := Lib.hid (node_ones (a := 9) (b := n) (c := m) hv)
  go_enter Tryd.func54, Tryd.ntmps54
  go_upto_region 3 with (first
    | (((with_reducible refine' wpList_boxa (cs := [.int .i64 9, .int .i64 n, .int .i64 m, v]) 25 (.tmp 0) rfl ?_ ?_ ?_); exact rfl; exact rfl; intro w1 kA hN1 hz1; simp only [Act.put, List.setIfInBounds_toArray, List.set_cons_succ, List.set_cons_zero]))
    | ((with_reducible refine' wpList_field_blk (j := 0) (.tmp 2) 25 0 rfl ?_ fo_node_0 ?_ rfl ?_); exact rfl; exact rfl; simp only [Act.put, List.setIfInBounds_toArray, List.set_cons_succ, List.set_cons_zero]) | ((with_reducible refine' wpList_load_blk (.tmp 11) 3 rfl ?_ ld_int ?_ kA (X0.out) ?_); exact rfl; exact rfl; simp only [Act.put, List.setIfInBounds_toArray, List.set_cons_succ, List.set_cons_zero]) | ((with_reducible refine' wpList_load_blk (.tmp 15) 3 rfl ?_ ld_int ?_ kA (X0.out) ?_); exact rfl; exact rfl; simp only [Act.put, List.setIfInBounds_toArray, List.set_cons_succ, List.set_cons_zero]))
  obtain ⟨vs, hv1, hv3⟩ := hS.below hN1 9 _ rfl
  have SO := Lib.hid (shC_ones (s := (4, 0, 13, 0, [4, 4], 0, 0, 0)) hv1)
  have SH := Lib.hid (show ∀ (j : Nat) (u : Value), ([.int .i64 4, .int .i64 0, .int .i64 13, .int .i64 0, vs, .int .i64 0, .int .i64 0, .int .i64 0] : List Value)[j]? = some u → w1.cell? ⟨0, 72 + j, none⟩ = some u from hv3)
  have S0 := Lib.hid (show ([.int .i64 4, .int .i64 0, .int .i64 13, .int .i64 0, vs, .int .i64 0, .int .i64 0, .int .i64 0] : List Value)[0]? = some (.int .i64 4) from rfl)
  clear hv3 hz1
  go_wp2_with (first
    | ((with_reducible refine' wpList_field_blk (j := 0) (.tmp 2) 25 0 rfl ?_ fo_node_0 ?_ rfl ?_); exact rfl; exact rfl; simp only [Act.put, List.setIfInBounds_toArray, List.set_cons_succ, List.set_cons_zero]) | ((with_reducible refine' wpList_load_blk (.tmp 19) 3 rfl ?_ ld_int ?_ kA (X0.out) ?_); exact rfl; exact rfl; simp only [Act.put, List.setIfInBounds_toArray, List.set_cons_succ, List.set_cons_zero])
    | ((with_reducible refine' wpList_at_blks (.global 0) (.tmp 20) 106 rfl ?_ Tryd.underlying106 sz_shp ?_ (9) ?_ ?_ ?_); exact rfl; (show (_ : Int) = _; omega); omega; simp only [Act.put, List.setIfInBounds_toArray, List.set_cons_succ, List.set_cons_zero])
    | ((with_reducible refine' wpList_load_tabat (cs := [.int .i64 4, .int .i64 0, .int .i64 13, .int .i64 0, vs, .int .i64 0, .int .i64 0, .int .i64 0]) (.tmp 21) 105 rfl ?_ Tryd.underlying105 rfl sz_shp ?_ ?_ SH.out ?_); exact rfl; exact rfl; exact rfl; simp only [Act.put, List.setIfInBounds_toArray, List.set_cons_succ, List.set_cons_zero])
    | (((with_reducible refine' wpList_alloc_blk (cs := shz) 105 rfl ?_ zr_shp ?_ ?_); exact rfl; exact rfl; intro w2 k2 hN2 hz2; simp only [Act.put, List.setIfInBounds_toArray, List.set_cons_succ, List.set_cons_zero]))
    | ((with_reducible refine' wpList_store_blk (cs := [.int .i64 4, .int .i64 0, .int .i64 13, .int .i64 0, vs, .int .i64 0, .int .i64 0, .int .i64 0]) 105 (.tmp 5) (.tmp 22) rfl ?_ ?_ ?_ k2 sz_shp ?_ ?_ ?_ ?_); exact rfl; exact rfl; exact rfl; exact rfl; exact rfl; exact SO.out; intro w3 k3 hO3 hz3; simp only [Act.put])
    | ((with_reducible refine' wpList_field_blk (j := 0) (.tmp 5) 105 0 rfl ?_ fo_shp_0 ?_ rfl ?_); exact rfl; exact rfl; simp only [Act.put, List.setIfInBounds_toArray, List.set_cons_succ, List.set_cons_zero]) | ((with_reducible refine' wpList_load_blk (.tmp 23) 71 rfl ?_ ld_srt ?_ k3 (S0.out) ?_); exact rfl; exact rfl; simp only [Act.put, List.setIfInBounds_toArray, List.set_cons_succ, List.set_cons_zero]) | ((with_reducible refine' wpList_load_blk (.tmp 28) 71 rfl ?_ ld_srt ?_ k3 (S0.out) ?_); exact rfl; exact rfl; simp only [Act.put, List.setIfInBounds_toArray, List.set_cons_succ, List.set_cons_zero]) | ((with_reducible refine' wpList_load_blk (.tmp 37) 71 rfl ?_ ld_srt ?_ k3 (S0.out) ?_); exact rfl; exact rfl; simp only [Act.put, List.setIfInBounds_toArray, List.set_cons_succ, List.set_cons_zero]))
  go_ret
  exact ⟨rfl, hN1.trans ((hN2.mono hN1.size).trans (hO3.below hN1.size (Nat.le_trans hN1.size hN2.size)))⟩
end Go.Proofs.YtdlhkhnoigbhjaaDoor.Wi
