/-
  Sv2, Sv3, Sv4: my texts of these names, one behind the other. Conditions: those that each law names.
-/
import Derived.Test.YtajglgkjpagcjaaDoorMh
import Derived.Test.YtajglgkjpagcjaaDoorMf
namespace Go.Proofs.YtajglgkjpagcjaaDoor.Wi
open Go Go.RowKit Pu Lb
set_option linter.unusedSimpArgs false
set_option linter.unusedVariables false
theorem pt16_eq (rest : List UInt8) (k : Nat) : ((rest.drop (k * 16)).take 16) = pt16 rest k := by unfold pt16; rw [Nat.mul_comm]
theorem pt16_len {rest : List UInt8} {k : Nat} (h : k * 16 + 16 ≤ rest.length) : (pt16 rest k).length = 16 := by unfold pt16; rw [List.length_take, List.length_drop]; omega
attribute [local irreducible] comp sched comps sha outS mac digOf encInts adv startV nodeAt pt16
set_option maxRecDepth 100000 in
theorem valc_any (B k : Nat) (v : Value) (n : Nat) (rest : List UInt8) (w : World) (hB : Blk w B 52 [v]) (hv : Rd w 1 v n (bv rest)) (hk : k * 16 + 16 ≤ n) (hk2 : k ≤ 1000) :
    Calls Tryd.prog 37 #[.int .i64 (k : Int), .pointer (some ⟨B, 0, none⟩)] w fun e w' => e = .returned (.agg (bv (pt16 rest k)).toArray) ∧ Below w.heap.size w w' := by
  have hl : rest.length = n := by have := hv.1; rw [bv_length] at this; omega
  have V0 := Lib.hid (show ([v] : List Value)[0]? = some v from rfl)
  have PL := pt16_len (rest := rest) (k := k) (by omega)
  have PB := Lib.hid (show (bv (pt16 rest k)).length = 16 by rw [bv_length, PL])
  have PE := Lib.hid (pt16_eq rest k)
  have G1 : 0 < (bv (pt16 rest k)).length := by rw [PB.out]; decide
  have G : 0 + 16 ≤ (bv (pt16 rest k)).length := by rw [PB.out]; decide
  clear hl PL
  go_enter Tryd.func37, Tryd.ntmps37
  have hb := Below.refl w.heap.size w
  go_wp2_with (first
    | (((with_reducible refine' wpList_alloc_blk (cs := List.replicate 16 (.int .u8 0)) 23 rfl ?_ zr_dig ?_ ?_); exact rfl; exact zeros_u8 16; intro w1 hkR hN hz1; simp only [Act.put, List.setIfInBounds_toArray, List.set_cons_succ, List.set_cons_zero]); clear hz1; have hB1 := hB.below hN hB.lt; have hv1 := hv.below hN; replace hb := hb.trans ((by exact hN : Below _ _ _).mono hb.size))
    | ((with_reducible refine' wpList_load_blk (.tmp 1) 52 rfl ?_ ld_bs ?_ hB1 (V0.out) ?_); exact rfl; exact rfl; simp only [Act.put, List.setIfInBounds_toArray, List.set_cons_succ, List.set_cons_zero])
    | (((with_reducible refine' wpList_cut_b (.tmp 4) (.tmp 6) (.tmp 9) 52 rfl ?_ Tryd.underlying52 sz_u8 ?_ hv1 (k * 16) (k * 16 + 16) ?_ ?_ ?_ ?_ ?_); exact rfl; exact rfl; (show (_ : Int) = _; omega); (show (_ : Int) = _; omega); omega; omega; intro v2 hv2; simp only [Act.put, List.setIfInBounds_toArray, List.set_cons_succ, List.set_cons_zero]); rw [Nat.add_sub_cancel_left, PE.out] at hv2)
    | ((with_reducible refine' wpList_arr_ptr (.tmp 10) 23 rfl ?_ Tryd.underlying23 ?_ hv2 ?_ (G1) ?_); exact rfl; exact rfl; omega; simp only [Act.put, List.setIfInBounds_toArray, List.set_cons_succ, List.set_cons_zero])
    | (((with_reducible refine' wpList_load_arr (.tmp 11) 23 rfl ?_ Tryd.underlying23 sz_dig (0) ?_ hv2 ?_ (by decide) ?_); exact rfl; exact rfl; exact G; simp only [Act.put, List.setIfInBounds_toArray, List.set_cons_succ, List.set_cons_zero]); rw [List.drop_zero, List.take_of_length_le (by rw [PB.out]; exact Nat.le_refl _)])
    | ((with_reducible refine' wpList_store_blk (cs := bv (pt16 rest k)) 23 (.tmp 3) (.tmp 12) rfl ?_ ?_ ?_ hkR sz_dig ?_ ?_ ?_ ?_); exact rfl; exact rfl; exact rfl; exact PB.out; exact List.length_replicate; exact bv_one _; intro w9 hk9 hO9 hz9; simp only [Act.put]))
  ((try simp only [Exit.inBlock, Exit.then]); refine bodyPost_ret (results_cell_row rfl _ _ _ _ _ _ _ rfl hk9 Tryd.underlying23 rfl (by rw [sz_dig]; simp [PB.out])) rfl ?_)
  exact ⟨rfl, hb.trans (hO9.below (Nat.le_refl _) hb.size)⟩
theorem sz_fd : (Tryd.prog.info? 69).map (·.size) = some 1 := by kernel_rfl
theorem zr_fd : (Tryd.prog.info? 69).map (·.zero) = some (some .nilFunc) := by kernel_rfl
theorem ld_fd (ad : Addr) (u : Value) (w : World) (h : w.cell? ad = some u) : (loadVar 69 ad).run Tryd.prog w = .ok u w := load_one _ _ Tryd.underlying69 rfl ad u w h
theorem sz_ints : (Tryd.prog.info? 25).map (·.size) = some 1 := by kernel_rfl
theorem zr_ints : (Tryd.prog.info? 25).map (·.zero) = some (some (.slice none 0 0)) := by kernel_rfl
theorem ld_ints (ad : Addr) (u : Value) (w : World) (h : w.cell? ad = some u) : (loadVar 25 ad).run Tryd.prog w = .ok u w := load_one _ _ Tryd.underlying25 rfl ad u w h
theorem sz_bs : (Tryd.prog.info? 52).map (·.size) = some 1 := by kernel_rfl
theorem zr_bs : (Tryd.prog.info? 52).map (·.zero) = some (some (.slice none 0 0)) := by kernel_rfl
theorem zr_int : (Tryd.prog.info? 3).map (·.zero) = some (some (.int .i64 0)) := by kernel_rfl
theorem endV_eq (ix c : Nat) (ds : List Nat) (rest : List UInt8) {q : Nat} (h : dg ds c = q) : adv (ix : Int) (c : Int) q (3 - q) (pt16 rest c) = endV ix ds rest c := by
  subst h; rfl
set_option maxRecDepth 100000 in
theorem endc_any (B1 B2 B3 BR BD c ix : Nat) (v : Value) (n : Nat) (d rest : List UInt8) (w : World) (hT : TabH w) (hd : d.length = 16) (hix : ix ≤ 1000) (hc : c < 68) (h1 : Blk w B1 3 [.int .i64 (ix : Int)])
    (h2 : Blk w B2 25 [.slice (some ⟨BD, 0, none⟩) 68 68]) (hD : Blk w BD 43 (nv (digs d))) (h3 : Blk w B3 69 [.func (.func 37) #[] #[.pointer (some ⟨BR, 0, none⟩)]])
    (hB : Blk w BR 52 [v]) (hv : Rd w 1 v n (bv rest)) (hn : 1088 ≤ n) :
    Calls Tryd.prog 39 #[.int .i64 (c : Int), .pointer (some ⟨B1, 0, none⟩), .pointer (some ⟨B2, 0, none⟩), .pointer (some ⟨B3, 0, none⟩)] w fun e w' => e = .returned (.agg (bv (endV ix (digs d) rest c)).toArray) ∧ Below w.heap.size w w' := by
  have hl : rest.length = n := by have := hv.1; rw [bv_length] at this; omega
  have I0 := Lib.hid (i64_nat (show ix ≤ 1000000 by omega))
  have C0 := Lib.hid (i64_nat (show c ≤ 1000000 by omega))
  have K1 := Lib.hid (show ([Value.int .i64 (ix : Int)] : List Value)[0]? = some (.int .i64 (ix : Int)) from rfl)
  have K2 := Lib.hid (show ([Value.slice (some ⟨BD, 0, none⟩) 68 68] : List Value)[0]? = some (.slice (some ⟨BD, 0, none⟩) 68 68) from rfl)
  have K3 := Lib.hid (show ([Value.func (.func 37) #[] #[.pointer (some ⟨BR, 0, none⟩)]] : List Value)[0]? = some (.func (.func 37) #[] #[.pointer (some ⟨BR, 0, none⟩)]) from rfl)
  have P16 := Lib.hid (pt16_len (rest := rest) (k := c) (by omega))
  have X := Lib.hid (nv_at (dg_at hd hc))
  have hd3 := dg_le hd c
  obtain ⟨q, hq⟩ : ∃ q, dg (digs d) c = q := ⟨_, rfl⟩
  have EV := Lib.hid (endV_eq ix c (digs d) rest hq)
  rw [hq] at X hd3
  have EL := Lib.hid (show (bv (endV ix (digs d) rest c)).length = 16 by rw [bv_length]; unfold endV; exact adv_len _ _ _ _ P16.out)
  have hrd := digs_rd hD hd
  have HD := Lib.hid hd
  clear hl hq hd
  go_enter Tryd.func39, Tryd.ntmps39
  go_upto_region 1 with (((with_reducible refine' wpList_alloc_blk (cs := List.replicate 16 (.int .u8 0)) 23 rfl ?_ zr_dig ?_ ?_); exact rfl; exact zeros_u8 16; intro w1 hkR hN1 hz1; simp only [Act.put, List.setIfInBounds_toArray, List.set_cons_succ, List.set_cons_zero]))
  clear hz1
  have a1 := h1.below hN1 h1.lt
  have a2 := h2.below hN1 h2.lt
  have a3 := h3.below hN1 h3.lt
  have aB := hB.below hN1 hB.lt
  have av := hv.below hN1
  have ad := hrd.below hN1
  have hT1 := hT.below hN1
  have s1 := hN1.size
  have HC : c * 16 + 16 ≤ n := by omega
  refine wp_region_mono (w := w1) 10 (fun i => match i with | 0 => fun (vv : Value) (ww : World) => vv = .int .i64 (ix : Int) | 1 => fun (vv : Value) (ww : World) => vv = .int .i64 (c : Int) | 2 => fun (vv : Value) (ww : World) => vv = .slice (some ⟨BD, 0, none⟩) 68 68 | 3 => fun (vv : Value) (ww : World) => vv = .int .i64 (c : Int) | 4 => fun (vv : Value) (ww : World) => vv = ep (.slice (some ⟨BD, 0, none⟩) 68 68) c | 5 => fun (vv : Value) (ww : World) => vv = .int .i64 (q : Int) | 6 => fun (vv : Value) (ww : World) => vv = .func (.func 37) #[] #[.pointer (some ⟨BR, 0, none⟩)] | 7 => fun (vv : Value) (ww : World) => vv = .int .i64 (c : Int) | 8 => fun (vv : Value) (ww : World) => vv = .agg (bv (pt16 rest c)).toArray | 9 => fun (vv : Value) (ww : World) => vv = .agg (bv (endV ix (digs d) rest c)).toArray | _ => fun _ _ => True) (by kernel_rfl) (by kernel_rfl) ?_ ?_ ?_
  · intro i vv w1 w2 h hb
    rcases i with _ | _ | _ | _ | _ | _ | _ | _ | _ | _ | i
    all_goals first | exact h | exact Rd.below h hb | exact own_below h hb | (obtain ⟨B, h1, h2, h3⟩ := h; exact ⟨B, h1, h2, Blk.below h3 hb (Blk.lt h3)⟩) | trivial
  · intro i o hi ho us wz hl hbz hd
    obtain ⟨u0, u1, u2, u3, u4, u5, u6, u7, u8, u9, rfl⟩ := len10 hl
    rcases i with _ | _ | _ | _ | _ | _ | _ | _ | _ | _ | i
    · simp only [List.getElem?_cons_succ, List.getElem?_cons_zero, Option.some.injEq] at ho; subst ho; clear hi hl
      clear hd
      simp only [List.take_succ_cons, List.take_zero, List.drop_succ_cons, List.drop_zero, List.map_cons, List.map_nil, puts, Act.put, List.setIfInBounds_toArray, List.set_cons_succ, List.set_cons_zero]
      go_wp2_with (((with_reducible refine' wpList_load_blk (.tmp 1) 3 rfl ?_ ld_int ?_ (a1.below hbz a1.lt) (K1.out) ?_); exact rfl; exact rfl; simp only [Act.put, List.setIfInBounds_toArray, List.set_cons_succ, List.set_cons_zero]))
      exact ⟨rfl, _, rfl, Below.refl _ _, rfl⟩
    · simp only [List.getElem?_cons_succ, List.getElem?_cons_zero, Option.some.injEq] at ho; subst ho; clear hi hl
      clear hd
      simp only [List.take_succ_cons, List.take_zero, List.drop_succ_cons, List.drop_zero, List.map_cons, List.map_nil, puts, Act.put, List.setIfInBounds_toArray, List.set_cons_succ, List.set_cons_zero]
      go_wp2_with (fail)
      exact ⟨rfl, _, rfl, Below.refl _ _, rfl⟩
    · simp only [List.getElem?_cons_succ, List.getElem?_cons_zero, Option.some.injEq] at ho; subst ho; clear hi hl
      clear hd
      simp only [List.take_succ_cons, List.take_zero, List.drop_succ_cons, List.drop_zero, List.map_cons, List.map_nil, puts, Act.put, List.setIfInBounds_toArray, List.set_cons_succ, List.set_cons_zero]
      go_wp2_with (((with_reducible refine' wpList_load_blk (.tmp 2) 25 rfl ?_ ld_ints ?_ (a2.below hbz a2.lt) (K2.out) ?_); exact rfl; exact rfl; simp only [Act.put, List.setIfInBounds_toArray, List.set_cons_succ, List.set_cons_zero]))
      exact ⟨rfl, _, rfl, Below.refl _ _, rfl⟩
    · simp only [List.getElem?_cons_succ, List.getElem?_cons_zero, Option.some.injEq] at ho; subst ho; clear hi hl
      clear hd
      simp only [List.take_succ_cons, List.take_zero, List.drop_succ_cons, List.drop_zero, List.map_cons, List.map_nil, puts, Act.put, List.setIfInBounds_toArray, List.set_cons_succ, List.set_cons_zero]
      go_wp2_with (fail)
      exact ⟨rfl, _, rfl, Below.refl _ _, rfl⟩
    · simp only [List.getElem?_cons_succ, List.getElem?_cons_zero, Option.some.injEq] at ho; subst ho; clear hi hl
      have s2 : (fun (vv : Value) (ww : World) => vv = .slice (some ⟨BD, 0, none⟩) 68 68) u2 wz := hd 2 (by kernel_rfl)
      simp only at s2
      obtain rfl := s2
      have s3 : (fun (vv : Value) (ww : World) => vv = .int .i64 (c : Int)) u3 wz := hd 3 (by kernel_rfl)
      simp only at s3
      obtain rfl := s3
      clear hd
      simp only [List.take_succ_cons, List.take_zero, List.drop_succ_cons, List.drop_zero, List.map_cons, List.map_nil, puts, Act.put, List.setIfInBounds_toArray, List.set_cons_succ, List.set_cons_zero]
      go_wp2_with (((with_reducible refine' wpList_at1_rd (.tmp 8) (.tmp 9) 25 rfl ?_ Tryd.underlying25 sz_int ?_ (ad.below hbz) (c) ?_ ?_ ?_); exact rfl; exact rfl; (show (_ : Int) = _; omega); omega; simp only [Act.put, List.setIfInBounds_toArray, List.set_cons_succ, List.set_cons_zero]))
      exact ⟨rfl, _, rfl, Below.refl _ _, rfl⟩
    · simp only [List.getElem?_cons_succ, List.getElem?_cons_zero, Option.some.injEq] at ho; subst ho; clear hi hl
      have s4 : (fun (vv : Value) (ww : World) => vv = ep (.slice (some ⟨BD, 0, none⟩) 68 68) c) u4 wz := hd 4 (by kernel_rfl)
      simp only at s4
      obtain rfl := s4
      clear hd
      simp only [List.take_succ_cons, List.take_zero, List.drop_succ_cons, List.drop_zero, List.map_cons, List.map_nil, puts, Act.put, List.setIfInBounds_toArray, List.set_cons_succ, List.set_cons_zero]
      go_wp2_with (((with_reducible refine' wpList_load_rd (.tmp 10) 3 rfl ?_ ld_int ?_ (ad.below hbz) (X.out) ?_); exact rfl; exact rfl; simp only [Act.put, List.setIfInBounds_toArray, List.set_cons_succ, List.set_cons_zero]))
      exact ⟨rfl, _, rfl, Below.refl _ _, rfl⟩
    · simp only [List.getElem?_cons_succ, List.getElem?_cons_zero, Option.some.injEq] at ho; subst ho; clear hi hl
      clear hd
      simp only [List.take_succ_cons, List.take_zero, List.drop_succ_cons, List.drop_zero, List.map_cons, List.map_nil, puts, Act.put, List.setIfInBounds_toArray, List.set_cons_succ, List.set_cons_zero]
      go_wp2_with (((with_reducible refine' wpList_load_blk (.tmp 3) 69 rfl ?_ ld_fd ?_ (a3.below hbz a3.lt) (K3.out) ?_); exact rfl; exact rfl; simp only [Act.put, List.setIfInBounds_toArray, List.set_cons_succ, List.set_cons_zero]))
      exact ⟨rfl, _, rfl, Below.refl _ _, rfl⟩
    · simp only [List.getElem?_cons_succ, List.getElem?_cons_zero, Option.some.injEq] at ho; subst ho; clear hi hl
      clear hd
      simp only [List.take_succ_cons, List.take_zero, List.drop_succ_cons, List.drop_zero, List.map_cons, List.map_nil, puts, Act.put, List.setIfInBounds_toArray, List.set_cons_succ, List.set_cons_zero]
      go_wp2_with (fail)
      exact ⟨rfl, _, rfl, Below.refl _ _, rfl⟩
    · simp only [List.getElem?_cons_succ, List.getElem?_cons_zero, Option.some.injEq] at ho; subst ho; clear hi hl
      have s6 : (fun (vv : Value) (ww : World) => vv = .func (.func 37) #[] #[.pointer (some ⟨BR, 0, none⟩)]) u6 wz := hd 6 (by kernel_rfl)
      simp only at s6
      obtain rfl := s6
      have s7 : (fun (vv : Value) (ww : World) => vv = .int .i64 (c : Int)) u7 wz := hd 7 (by kernel_rfl)
      simp only at s7
      obtain rfl := s7
      clear hd
      simp only [List.take_succ_cons, List.take_zero, List.drop_succ_cons, List.drop_zero, List.map_cons, List.map_nil, puts, Act.put, List.setIfInBounds_toArray, List.set_cons_succ, List.set_cons_zero]
      go_wp2_with ((go_at_call 37; (with_reducible refine (valc_any BR c v n rest _ (aB.below hbz aB.lt) (av.below hbz) HC (by omega)).mono ?_); rintro e w' ⟨rfl, hq⟩))
      exact ⟨rfl, _, rfl, hq, rfl⟩
    · simp only [List.getElem?_cons_succ, List.getElem?_cons_zero, Option.some.injEq] at ho; subst ho; clear hi hl
      have s0 : (fun (vv : Value) (ww : World) => vv = .int .i64 (ix : Int)) u0 wz := hd 0 (by kernel_rfl)
      simp only at s0
      obtain rfl := s0
      have s1 : (fun (vv : Value) (ww : World) => vv = .int .i64 (c : Int)) u1 wz := hd 1 (by kernel_rfl)
      simp only at s1
      obtain rfl := s1
      have s5 : (fun (vv : Value) (ww : World) => vv = .int .i64 (q : Int)) u5 wz := hd 5 (by kernel_rfl)
      simp only at s5
      obtain rfl := s5
      have s8 : (fun (vv : Value) (ww : World) => vv = .agg (bv (pt16 rest c)).toArray) u8 wz := hd 8 (by kernel_rfl)
      simp only at s8
      obtain rfl := s8
      clear hd
      simp only [List.take_succ_cons, List.take_zero, List.drop_succ_cons, List.drop_zero, List.map_cons, List.map_nil, puts, Act.put, List.setIfInBounds_toArray, List.set_cons_succ, List.set_cons_zero]
      go_wp2_with (((go_at_call 27; (with_reducible refine (advance_z ix c q 3 q 3 rfl rfl _ _ (hT1.below hbz) I0.out C0.out (by omega) (by omega) P16.out).mono ?_); rintro e w' ⟨rfl, hq⟩); rw [EV.out]))
      exact ⟨rfl, _, rfl, hq, rfl⟩
    · omega
  intro us wz hl hbz hS
  obtain ⟨u0, u1, u2, u3, u4, u5, u6, u7, u8, u9, rfl⟩ := len10 hl
  have s9 : (fun (vv : Value) (ww : World) => vv = .agg (bv (endV ix (digs d) rest c)).toArray) u9 wz := hS 9 (by omega)
  simp only at s9
  obtain rfl := s9
  clear hS hl
  simp only [List.take_succ_cons, List.take_zero, List.drop_succ_cons, List.drop_zero, List.map_cons, List.map_nil, puts, Act.put, List.setIfInBounds_toArray, List.set_cons_succ, List.set_cons_zero]
  have hkRz := hkR.below hbz hkR.lt
  ((with_reducible refine' wpList_store_blk (cs := bv (endV ix (digs d) rest c)) 23 (.tmp 5) (.tmp 15) rfl ?_ ?_ ?_ hkRz sz_dig ?_ ?_ ?_ ?_); exact rfl; exact rfl; exact rfl; exact EL.out; exact List.length_replicate; exact bv_one _; intro w4 hk4 hO4 hz4; simp only [Act.put])
  refine onlyN ?_
  go_wp2_with fail
  ((try simp only [Exit.inBlock, Exit.then]); refine bodyPost_ret (results_cell_row rfl _ _ _ _ _ _ _ rfl hk4 Tryd.underlying23 rfl (by rw [sz_dig]; simp [EL.out])) rfl ?_)
  exact ⟨rfl, (hN1.trans (hbz.mono s1)).trans (hO4.below (Nat.le_refl _) (by have := hbz.size; omega))⟩
end Go.Proofs.YtajglgkjpagcjaaDoor.Wi
namespace Go.Proofs.YtajglgkjpagcjaaDoor.Lb
open Go Go.RowKit
section
variable {P : Program} {ops : Array Oper} {Q : Exit → Act → World → Prop} {a : Act} {w : World} {rest : List Oper} {o : Oper}
/-- '!=' of two arrays of bytes -/
theorem wpList_arr_neq (x y : Operand) (t r : TypeId) (ho : o.op = .binOp .neq t x y r) (hw : Region.wanted o (yielded ops a.tmps) = true) {e : TypeId} {n : Nat} (ht : P.underlying t = some (.array n e)) (he : P.underlying e = some (.int .u8)) (hsz : (P.info? e).map (·.size) = some 1) (hg : P.eqGuardType P.depth t = false)
    {l m : List UInt8} (hx : a.eval x = .agg (bv l).toArray) (hy : a.eval y = .agg (bv m).toArray) (hl : l.length = n) (hm : m.length = n)
    (h : wpList P ops Q rest (a.put o.dst (.bool (!decide (l = m)))) w) : wpList P ops Q (o :: rest) a w := by
  refine wpList_of_run hw (v := .bool (!decide (l = m))) (w' := w) ?_ h
  have h1 := run_eqGuard_agg (P := P) (w := w) .neq t x y (bv l).toArray (bv m).toArray hg
  have h2 := fun d => run_eq_bytes (P := P) d t e n ht he hsz l m hl hm w
  have h3 : (Op.equal t (.agg (bv l).toArray) (.agg (bv m).toArray)).run P w = .ok (decide (l = m)) w := h2 _
  unfold execOp
  simp only [ho, hx, hy, binOp, Sem.run_bind, h1, Result.andThen_ok, h3, Sem.run_pure]
end
end Go.Proofs.YtajglgkjpagcjaaDoor.Lb
namespace Go.Proofs.YtajglgkjpagcjaaDoor.Wi
open Go Go.RowKit Pu Lb
set_option linter.unusedSimpArgs false
set_option linter.unusedVariables false
attribute [local irreducible] comp sched comps sha outS mac digOf encInts adv startV nodeAt pt16
theorem and_all : (List.range 64).all (fun n => decide (bits .and .i64 (n : Int) 1 = ((n % 2 : Nat) : Int))) = true := by kernel_rfl
theorem and_one {n : Nat} (h : n < 64) : bits .and .i64 (n : Int) 1 = ((n % 2 : Nat) : Int) := of_decide_eq_true (List.all_eq_true.1 and_all n (List.mem_range.2 h))
theorem Rd.one {w : World} {s : Nat} {v : Value} {n : Nat} {xs : List Value} (h : Rd w s v n xs) : v.oneCell' = true := by
  obtain ⟨_, a, cap, rfl, _⟩ := h
  rfl
def verR (p : List UInt8) (l ix : Nat) (m rest : List UInt8) : Int × Nat := if rootV p l ix m rest = p then ((ix : Int), 0) else (0, 10)
def RZ (x : Int × Nat) : Value := .tuple #[.int .i64 x.1, .int .i64 (x.2 : Int)]
set_option maxRecDepth 100000 in
set_option maxHeartbeats 1000000 in
theorem ver_main (p m sig : List UInt8) (l ix used : Nat) (w : World) (hT : TabH w) (hp : p.length = 16) (hl6 : l ≤ 6) (hm : m.length ≤ 1048576) (hsg : sig.length ≤ 1000000) (hget : getInt sig = ((ix : Int), used, 0)) (hi : ix < 2 ^ l) (hlen : (sig.drop used).length = (68 + l) * 16) :
    Calls Tryd.prog 18 #[.agg (bv p).toArray, .int .i64 (l : Int), .string ⟨m.toArray⟩, .string ⟨sig.toArray⟩] w fun e w' => e = .returned (RZ (verR p l ix m (sig.drop used))) ∧ Below w.heap.size w w' := by
  have hsm := size_str m
  have hv : okH (l : Int) = true := decide_eq_true (by omega)
  have hpw := wrap_pow hl6
  have hp6 : 2 ^ l ≤ 2 ^ 6 := Nat.pow_le_pow_right (by decide) hl6
  obtain ⟨K, hK⟩ : ∃ K : Nat, 2 ^ l = K := ⟨_, rfl⟩
  rw [hK] at hpw hi hp6
  have hK64 : K ≤ 64 := hp6
  obtain ⟨_, _, hu, _⟩ := enc_get hget
  have PB := Lib.hid (show (bv p).length = 16 by rw [bv_length, hp])
  have P16 := Lib.hid hp
  have I0 := Lib.hid (i64_nat (show ix ≤ 1000000 by omega))
  have HG := Lib.hid hget
  have ML := Lib.hid (msgD_len p ix m)
  have RT := Lib.hid (show rootV p l ix m (sig.drop used) = wayUp ix (sig.drop used) (leafD (vals (endV ix (digs (msgD p ix m)) (sig.drop used)) 68)) l from rfl)
  obtain ⟨rest, hrest⟩ : ∃ rest, sig.drop used = rest := ⟨_, rfl⟩
  obtain ⟨dm, hdm⟩ : ∃ dm, msgD p ix m = dm := ⟨_, rfl⟩
  rw [hdm] at ML RT
  rw [hrest] at hlen RT ⊢
  have HDM := Lib.hid hdm
  have HRS := Lib.hid hrest
  have K1 := Lib.hid (show ([Value.int .i64 (ix : Int)] : List Value)[0]? = some (.int .i64 (ix : Int)) from rfl)
  have Z1 : Hid (0 < ([Value.int .i64 0] : List Value).length) := Lib.hid (by decide)
  have Z2 : Hid (0 < ([Value.slice none 0 0] : List Value).length) := Lib.hid (by decide)
  have Z3 : Hid (0 < ([Value.nilFunc] : List Value).length) := Lib.hid (by decide)
  clear hdm hrest hK hp6 hget hp
  have hb := Below.refl w.heap.size w
  go_enter Tryd.func18, Tryd.ntmps18
  go_upto_region 9 with (first
    | (((with_reducible refine' wpList_boxa (cs := bv p) 23 (.tmp 0) rfl ?_ ?_ ?_); exact rfl; exact rfl; intro w1 hk4 hN hz1; simp only [Act.put, List.setIfInBounds_toArray, List.set_cons_succ, List.set_cons_zero]); replace hb := hb.trans ((by exact hN : Below _ _ _).mono hb.size); clear hz1)
    | ((go_at_call 21; (with_reducible refine (valid_any (l : Int) _).mono ?_); rintro e w' ⟨rfl, rfl⟩); rw [hv])
    | (((with_reducible refine' wpList_bytes_l (l := sig) (.tmp 27) 9 52 rfl ?_ Tryd.underlying9 Tryd.underlying52 Tryd.underlying5 ?_ ((by unfold maxLen; omega)) ?_); exact rfl; exact rfl; intro v2 w2 r2 hN; simp only [Act.put, List.setIfInBounds_toArray, List.set_cons_succ, List.set_cons_zero]); replace hb := hb.trans ((by exact hN : Below _ _ _).mono hb.size); (try replace hk4 := Blk.below hk4 hN (Blk.lt hk4)))
    | ((go_at_call 36; (with_reducible refine (getint_any v2 _ sig _ r2).mono ?_); rintro e w' ⟨rfl, rfl⟩); rw [HG.out]; unfold R3; simp only)
    | (((with_reducible refine' wpList_alloc_blk (cs := [.int .i64 0]) 3 rfl ?_ zr_int ?_ ?_); exact rfl; exact rfl; intro w3 hk10 hN hz3; simp only [Act.put, List.setIfInBounds_toArray, List.set_cons_succ, List.set_cons_zero]); have s2 := hb.size; have l4 := hk4.lt; replace hb := hb.trans ((by exact hN : Below _ _ _).mono hb.size); (try replace hk4 := Blk.below hk4 hN (Blk.lt hk4)); clear hz3)
    | (((with_reducible refine' wpList_set_blk (u := .int .i64 (ix : Int)) 3 (.tmp 10) (.tmp 30) rfl ?_ sz_int ?_ ?_ hk10 (Z1.out) ?_ ?_); exact rfl; exact rfl; exact rfl; exact rfl; intro w4 hk10b hO4 hz4; simp only [Act.put]); clear hz4; replace hk4 := hO4.blk hk4 (by omega); replace hb := hb.trans (hO4.below (by omega) hb.size))
    | (((with_reducible refine' wpList_str_from (.tmp 36) (.tmp 37) 9 rfl ?_ Tryd.underlying9 (l := sig) ?_ (used) ?_ ?_ ?_); exact rfl; exact rfl; (show (_ : Int) = _; omega); exact hu; simp only [Act.put, List.setIfInBounds_toArray, List.set_cons_succ, List.set_cons_zero]); rw [HRS.out])
    | (((with_reducible refine' wpList_bytes_l (l := rest) (.tmp 38) 9 52 rfl ?_ Tryd.underlying9 Tryd.underlying52 Tryd.underlying5 ?_ ((by unfold maxLen; omega)) ?_); exact rfl; exact rfl; intro v5 w5 r5 hN; simp only [Act.put, List.setIfInBounds_toArray, List.set_cons_succ, List.set_cons_zero]); have l10 := hk10b.lt; replace hb := hb.trans ((by exact hN : Below _ _ _).mono hb.size); (try replace hk4 := Blk.below hk4 hN (Blk.lt hk4)); (try replace hk10b := Blk.below hk10b hN (Blk.lt hk10b)))
    | (((with_reducible refine' wpList_alloc_blk (cs := [.slice none 0 0]) 52 rfl ?_ zr_bs ?_ ?_); exact rfl; exact rfl; intro w6 hk13 hN hz6; simp only [Act.put, List.setIfInBounds_toArray, List.set_cons_succ, List.set_cons_zero]); have s5 := hb.size; have l4b := hk4.lt; have l10b := hk10b.lt; have r5o := r5; have hN6 := hN; replace hb := hb.trans ((by exact hN : Below _ _ _).mono hb.size); (try replace hk4 := Blk.below hk4 hN (Blk.lt hk4)); (try replace hk10b := Blk.below hk10b hN (Blk.lt hk10b)); (try replace r5 := Rd.below r5 hN); clear hz6)
    | (((with_reducible refine' wpList_set_blk (u := v5) 52 (.tmp 13) (.tmp 39) rfl ?_ sz_bs ?_ ?_ hk13 (Z2.out) ?_ ?_); exact rfl; exact rfl; exact rfl; exact (Rd.one r5); intro w7 hk13b hO7 hz7; simp only [Act.put, List.setIfInBounds_toArray, List.set_cons_succ, List.set_cons_zero]); clear hz7; replace hk4 := hO7.blk hk4 (by omega); replace hk10b := hO7.blk hk10b (by omega); have r7 := r5o.below (hN6.trans (hO7.below (Nat.le_refl _) hN6.size)); replace hb := hb.trans (hO7.below (by omega) hb.size)))
  have hk10 : Blk w7 w2.heap.size 3 [.int .i64 (ix : Int)] := hk10b
  have hk13 : Blk w7 w5.heap.size 52 [v5] := hk13b
  have V0 := Lib.hid (show ([v5] : List Value)[0]? = some v5 from rfl)
  have e68 : (rest.length : Int) = (68 + (l : Int)) * 16 := by rw [hlen]; push_cast; rfl
  have L68 := Lib.hid e68
  obtain ⟨B10, hB10⟩ : ∃ B, w2.heap.size = B := ⟨_, rfl⟩
  obtain ⟨BR, hBR⟩ : ∃ B, w5.heap.size = B := ⟨_, rfl⟩
  rw [hB10] at hk10 l10b l10 l4 ⊢
  rw [hBR] at hk13 l10b l4b ⊢
  clear hk10b hk13b hN hN6 hO7 r5 r5o r2 hO4 s2 s5 l10 l4 hB10 hBR
  have hlt1 : ((rest.length : Int) != (68 + (l : Int)) * 16) = false := by simp [L68.out]
  clear e68
  have hdec1 : decide ((ix : Int) < 0) = false := decide_eq_false (by omega)
  have hdec2 : decide (K ≤ ix) = false := decide_eq_false (by omega)
  (refine wp_region_quiet_lit (by kernel_rfl) (by kernel_rfl) ?_; (repeat (first | ((with_reducible refine' wpQuiet_load_blk (fun _ h => h) (.tmp 10) 3 rfl ?_ ld_int ?_ hk10 (K1.out) ?_); exact rfl; exact rfl; simp only [Act.put, List.setIfInBounds_toArray, List.set_cons_succ, List.set_cons_zero]) | ((with_reducible refine' wpQuiet_load_blk (fun _ h => h) (.tmp 13) 52 rfl ?_ ld_bs ?_ hk13 (V0.out) ?_); exact rfl; exact rfl; simp only [Act.put, List.setIfInBounds_toArray, List.set_cons_succ, List.set_cons_zero]) | ((with_reducible refine' wpQuiet_len_rd (.tmp 49) 52 rfl ?_ Tryd.underlying52 ?_ r7 ?_); exact rfl; exact rfl; simp only [Act.put, List.setIfInBounds_toArray, List.set_cons_succ, List.set_cons_zero]) | go_big_quiet_step (fail))); refine wpQuiet_nil ?_; intro _ hw'; obtain ⟨nq, hw''⟩ := hw'; subst hw'')
  replace hb := below_drewN hb nq; (try replace hk4 := Blk.drewN hk4 nq); (try replace hk10 := Blk.drewN hk10 nq); (try replace hk13 := Blk.drewN hk13 nq); (try replace r7 := Rd.drewN r7 nq)
  generalize w7.drewN nq = w8 at hb hk4 hk10 hk13 r7 ⊢
  clear hdec1 hdec2 hlt1
  have hn : 1088 ≤ rest.length := by omega
  have EL := Lib.hid (show ∀ c, c < 68 → (endV ix (digs dm) rest c).length = 16 from fun c hc => by unfold endV; exact adv_len _ _ _ _ (pt16_len (by omega)))
  go_upto_region 13 with (first
    | (((with_reducible refine' wpList_alloc_blk (cs := [.nilFunc]) 69 rfl ?_ zr_fd ?_ ?_); exact rfl; exact rfl; intro w9 hk14 hN hz9; simp only [Act.put, List.setIfInBounds_toArray, List.set_cons_succ, List.set_cons_zero]); have s8 := hb.size; have l4 := hk4.lt; have l10 := hk10.lt; have l13 := hk13.lt; have r7o := r7; have hN9 := hN; replace hb := hb.trans ((by exact hN : Below _ _ _).mono hb.size); (try replace hk4 := Blk.below hk4 hN (Blk.lt hk4)); (try replace hk10 := Blk.below hk10 hN (Blk.lt hk10)); (try replace hk13 := Blk.below hk13 hN (Blk.lt hk13)); (try replace r7 := Rd.below r7 hN); clear hz9)
    | (((with_reducible refine' wpList_set_blk (u := .func (.func 37) #[] #[.pointer (some ⟨BR, 0, none⟩)]) 69 (.tmp 14) (.tmp 56) rfl ?_ sz_fd ?_ ?_ hk14 (Z3.out) ?_ ?_); exact rfl; exact rfl; exact rfl; exact rfl; intro w10 hk14b hO10 hz10; simp only [Act.put]); clear hz10; replace hk4 := hO10.blk hk4 (by omega); replace hk10 := hO10.blk hk10 (by omega); replace hk13 := hO10.blk hk13 (by omega); have r10 := r7o.below (hN9.trans (hO10.below (Nat.le_refl _) hN9.size)); replace hb := hb.trans (hO10.below (by omega) hb.size); have hTb := hT.below hb)
    | ((with_reducible refine' wpList_loadall_blk (.tmp 4) 23 rfl ?_ Tryd.underlying23 sz_dig ?_ hk4 ?_ ?_ ?_); exact rfl; exact rfl; exact PB.out; omega; simp only [Act.put, List.setIfInBounds_toArray, List.set_cons_succ, List.set_cons_zero]) | ((with_reducible refine' wpList_load_blk (.tmp 10) 3 rfl ?_ ld_int ?_ hk10 (K1.out) ?_); exact rfl; exact rfl; simp only [Act.put, List.setIfInBounds_toArray, List.set_cons_succ, List.set_cons_zero])
    | ((go_at_call 16; (with_reducible refine (msg_any p (ix : Int) m _ hTb P16.out I0.out (by omega)).mono ?_); rintro e w' ⟨rfl, hN⟩); rw [HDM.out]; replace hb := hb.trans ((by exact hN : Below _ _ _).mono hb.size); (try replace hk4 := Blk.below hk4 hN (Blk.lt hk4)); (try replace hk10 := Blk.below hk10 hN (Blk.lt hk10)); (try replace hk13 := Blk.below hk13 hN (Blk.lt hk13)); (try replace hk14b := Blk.below hk14b hN (Blk.lt hk14b)); (try replace r10 := Rd.below r10 hN))
    | ((go_at_call 10; (with_reducible refine (digits_any dm _ ML.out).mono ?_); rintro e w' ⟨BD, rfl, hkD, hN⟩); replace hb := hb.trans ((by exact hN : Below _ _ _).mono hb.size); (try replace hk4 := Blk.below hk4 hN (Blk.lt hk4)); (try replace hk10 := Blk.below hk10 hN (Blk.lt hk10)); (try replace hk13 := Blk.below hk13 hN (Blk.lt hk13)); (try replace hk14b := Blk.below hk14b hN (Blk.lt hk14b)); (try replace r10 := Rd.below r10 hN))
    | (((with_reducible refine' wpList_alloc_blk (cs := [.slice none 0 0]) 25 rfl ?_ zr_ints ?_ ?_); exact rfl; exact rfl; intro w11 hk15 hN hz11; simp only [Act.put, List.setIfInBounds_toArray, List.set_cons_succ, List.set_cons_zero]); clear hz11; have s11 := hb.size; have m4 := hk4.lt; have m10 := hk10.lt; have m13 := hk13.lt; have m14 := hk14b.lt; have mD := hkD.lt; have r10o := r10; have hN11 := hN; replace hb := hb.trans ((by exact hN : Below _ _ _).mono hb.size); (try replace hk4 := Blk.below hk4 hN (Blk.lt hk4)); (try replace hk10 := Blk.below hk10 hN (Blk.lt hk10)); (try replace hk13 := Blk.below hk13 hN (Blk.lt hk13)); (try replace hk14b := Blk.below hk14b hN (Blk.lt hk14b)); (try replace hkD := Blk.below hkD hN (Blk.lt hkD)); (try replace r10 := Rd.below r10 hN))
    | (((with_reducible refine' wpList_set_blk (u := .slice (some ⟨BD, 0, none⟩) 68 68) 25 (.tmp 15) (.tmp 61) rfl ?_ sz_ints ?_ ?_ hk15 (Z2.out) ?_ ?_); exact rfl; exact rfl; exact rfl; exact rfl; intro w12 hk15b hO12 hz12; simp only [Act.put]); clear hz12; replace hk4 := hO12.blk hk4 (by omega); replace hk10 := hO12.blk hk10 (by omega); replace hk13 := hO12.blk hk13 (by omega); replace hk14b := hO12.blk hk14b (by omega); replace hkD := hO12.blk hkD (by omega); have r12 := r10o.below (hN11.trans (hO12.below (Nat.le_refl _) hN11.size)); replace hb := hb.trans (hO12.below (by omega) hb.size)))
  have k14 : Blk w12 w8.heap.size 69 [.func (.func 37) #[] #[.pointer (some ⟨BR, 0, none⟩)]] := hk14b
  have k15 : Blk w12 w'.heap.size 25 [.slice (some ⟨BD, 0, none⟩) 68 68] := hk15b
  obtain ⟨B14, hB14⟩ : ∃ B, w8.heap.size = B := ⟨_, rfl⟩
  obtain ⟨B15, hB15⟩ : ∃ B, w'.heap.size = B := ⟨_, rfl⟩
  rw [hB14] at k14 ⊢
  rw [hB15] at k15 ⊢
  have hT12 := hT.below hb
  have HF := Lib.hid (leaf3_any (.pointer (some ⟨B10, 0, none⟩)) (.pointer (some ⟨B15, 0, none⟩)) (.pointer (some ⟨B14, 0, none⟩)) (endV ix (digs dm) rest) w12 hT12 EL.out (fun c hc w' hb => endc_any B10 B15 B14 BR BD c ix v5 _ dm rest w' (hT12.below hb) ML.out (by omega) hc (hk10.below hb hk10.lt) (k15.below hb k15.lt) (hkD.below hb hkD.lt) (k14.below hb k14.lt) (hk13.below hb hk13.lt) (r12.below hb) hn))
  clear hk14b hk15b hB14 hB15 hO12 hN11 r10o r10 hkD hO10 hN9 r7o r7 hTb hN s8 l4 l10 l13 s11 m4 m10 m13 m14 mD k15
  have LL := Lib.hid (show (bv (leafD (vals (endV ix (digs dm) rest) 68))).length = 16 by rw [bv_length, leafD_len])
  obtain ⟨v0, hv0⟩ : ∃ v0, leafD (vals (endV ix (digs dm) rest) 68) = v0 := ⟨_, rfl⟩
  have hv16 : v0.length = 16 := by rw [← hv0, leafD_len]
  rw [hv0] at LL RT
  have HV0 := Lib.hid hv0
  clear hv0
  have F0 := Lib.hid (show ([Value.func (.func 37) #[] #[.pointer (some ⟨BR, 0, none⟩)]] : List Value)[0]? = some (.func (.func 37) #[] #[.pointer (some ⟨BR, 0, none⟩)]) from rfl)
  go_wp2_with (first
    | ((go_at_call 38; (with_reducible refine (HF.out).mono ?_); rintro e w' ⟨rfl, hN⟩); rw [HV0.out]; replace hb := hb.trans ((by exact hN : Below _ _ _).mono hb.size); (try replace hk4 := Blk.below hk4 hN (Blk.lt hk4)); (try replace hk10 := Blk.below hk10 hN (Blk.lt hk10)); (try replace hk13 := Blk.below hk13 hN (Blk.lt hk13)); (try replace k14 := Blk.below k14 hN (Blk.lt k14)); (try replace r12 := Rd.below r12 hN); obtain ⟨wL, rfl⟩ : ∃ wL : World, wL = w' := ⟨_, rfl⟩)
    | (((with_reducible refine' wpList_alloc_blk (cs := List.replicate 16 (.int .u8 0)) 23 rfl ?_ zr_dig ?_ ?_); exact rfl; exact zeros_u8 16; intro w13 hk16 hN13 hz13; simp only [Act.put, List.setIfInBounds_toArray, List.set_cons_succ, List.set_cons_zero]); clear hz13)
    | (((with_reducible refine' wpList_store_blk (cs := bv v0) 23 (.tmp 16) (.tmp 63) rfl ?_ ?_ ?_ hk16 sz_dig ?_ ?_ ?_ ?_); exact rfl; exact rfl; exact rfl; exact LL.out; exact List.length_replicate; exact bv_one _; intro w14 hk16b hO14 hz14; simp only [Act.put]); clear hz14))
  have hX := hN13.trans (hO14.below (Nat.le_refl _) hN13.size)
  clear hO14 hN13 hN HF hk16
  go_loopw [65] (fun c wr => ∃ j : Nat, j ≤ l ∧ c = .int .i64 (j : Int) ∧ Blk wr wL.heap.size 23 (bv (wayUp ix rest v0 j)) ∧ Below wL.heap.size wL wr) (fun c _ => l - (intOf c).toNat)
  case atStart => exact ⟨0, by omega, rfl, hk16b, hX⟩
  case round =>
    obtain ⟨j, hj, rfl, hkV, hX⟩ := hrel
    have W16 := Lib.hid (wayUp_len ix rest hv16 j)
    have WB := Lib.hid (show (bv (wayUp ix rest v0 j)).length = 16 by rw [bv_length, W16.out])
    have q4 := hk4.below hX hk4.lt
    have q10 := hk10.below hX hk10.lt
    have q13 := hk13.below hX hk13.lt
    have q14 := k14.below hX k14.lt
    have qr := r12.below hX
    by_cases hlt : j < l
    · obtain ⟨wo, rfl⟩ : ∃ wo : World, wo = wr := ⟨_, rfl⟩
      have hq64 : ix / 2 ^ j < 64 := Nat.lt_of_le_of_lt (Nat.div_le_self _ _) (by omega)
      have hx := and_one hq64
      have hcast : (ix : Int) / 2 ^ j = ((ix / 2 ^ j : Nat) : Int) := by norm_cast
      rw [← hcast] at hx
      have hpl : (68 + j) * 16 + 16 ≤ rest.length := by omega
      have PT := Lib.hid (pt16_len (rest := rest) (k := 68 + j) hpl)
      obtain ⟨pq, hpq⟩ : ∃ pq, 68 + j = pq := ⟨_, rfl⟩
      have hpq1 : pq ≤ 68 + j := by omega
      have hpq2 : 68 + j ≤ pq := by omega
      rw [hpq] at PT hpl
      have HPL := Lib.hid hpl
      have hTo := (hT.below hb).below hX
      have lV := hkV.lt
      by_cases hodd : ix / 2 ^ j % 2 = 1
      · have hWS : wayUp ix rest v0 (j + 1) = nodeD (pt16 rest pq) (wayUp ix rest v0 j) := by rw [wayUp, if_pos hodd, hpq]
        have hbit : bits .and .i64 ((ix : Int) / 2 ^ j) 1 = 1 := by rw [hx, hodd]; rfl
        have HW := Lib.hid hWS
        obtain ⟨cu, hcu⟩ : ∃ cu, wayUp ix rest v0 j = cu := ⟨_, rfl⟩
        rw [hcu] at W16 WB hkV HW
        obtain ⟨nx, hnx⟩ : ∃ nx, wayUp ix rest v0 (j + 1) = nx := ⟨_, rfl⟩
        rw [hnx] at HW
        have NX := Lib.hid (show (bv nx).length = 16 by rw [bv_length, HW.out, nodeD_len])
        have HNX := Lib.hid hnx
        clear hWS hcu hx hcast hpl hpq hnx hodd hq64
        go_upto_region 18 with (((with_reducible refine' wpList_load_blk (.tmp 10) 3 rfl ?_ ld_int ?_ q10 (K1.out) ?_); exact rfl; exact rfl; simp only [Act.put, List.setIfInBounds_toArray, List.set_cons_succ, List.set_cons_zero]))
        refine wp_region_mono (w := wo) 6 (fun i => match i with | 0 => fun (vv : Value) (ww : World) => vv = .func (.func 37) #[] #[.pointer (some ⟨BR, 0, none⟩)] | 1 => fun (vv : Value) (ww : World) => vv = .int .i64 (j : Int) | 2 => fun (vv : Value) (ww : World) => vv = .int .i64 (pq : Int) | 3 => fun (vv : Value) (ww : World) => vv = .agg (bv (pt16 rest pq)).toArray | 4 => fun (vv : Value) (ww : World) => vv = .agg (bv cu).toArray | 5 => fun (vv : Value) (ww : World) => vv = .agg (bv nx).toArray | _ => fun _ _ => True) (by kernel_rfl) (by kernel_rfl) ?_ ?_ ?_
        · intro i vv w1 w2 h hb
          rcases i with _ | _ | _ | _ | _ | _ | i
          all_goals first | exact h | exact Rd.below h hb | exact own_below h hb | (obtain ⟨B, h1, h2, h3⟩ := h; exact ⟨B, h1, h2, Blk.below h3 hb (Blk.lt h3)⟩) | trivial
        · intro i o hi ho us wz hl hbz hd
          obtain ⟨u0, u1, u2, u3, u4, u5, rfl⟩ := len6 hl
          rcases i with _ | _ | _ | _ | _ | _ | i
          · simp only [List.getElem?_cons_succ, List.getElem?_cons_zero, Option.some.injEq] at ho; subst ho; clear hi hl
            clear hd
            simp only [List.take_succ_cons, List.take_zero, List.drop_succ_cons, List.drop_zero, List.map_cons, List.map_nil, puts, Act.put, List.setIfInBounds_toArray, List.set_cons_succ, List.set_cons_zero]
            go_wp2_with (((with_reducible refine' wpList_load_blk (.tmp 14) 69 rfl ?_ ld_fd ?_ (q14.below hbz q14.lt) (F0.out) ?_); exact rfl; exact rfl; simp only [Act.put, List.setIfInBounds_toArray, List.set_cons_succ, List.set_cons_zero]))
            exact ⟨rfl, _, rfl, Below.refl _ _, rfl⟩
          · simp only [List.getElem?_cons_succ, List.getElem?_cons_zero, Option.some.injEq] at ho; subst ho; clear hi hl
            clear hd
            simp only [List.take_succ_cons, List.take_zero, List.drop_succ_cons, List.drop_zero, List.map_cons, List.map_nil, puts, Act.put, List.setIfInBounds_toArray, List.set_cons_succ, List.set_cons_zero]
            go_wp2_with (fail)
            exact ⟨rfl, _, rfl, Below.refl _ _, rfl⟩
          · simp only [List.getElem?_cons_succ, List.getElem?_cons_zero, Option.some.injEq] at ho; subst ho; clear hi hl
            have s1 : (fun (vv : Value) (ww : World) => vv = .int .i64 (j : Int)) u1 wz := hd 1 (by kernel_rfl)
            simp only at s1
            obtain rfl := s1
            clear hd
            simp only [List.take_succ_cons, List.take_zero, List.drop_succ_cons, List.drop_zero, List.map_cons, List.map_nil, puts, Act.put, List.setIfInBounds_toArray, List.set_cons_succ, List.set_cons_zero]
            go_wp2_with (fail)
            exact ⟨rfl, _, rfl, Below.refl _ _, (by congr 1; omega)⟩
          · simp only [List.getElem?_cons_succ, List.getElem?_cons_zero, Option.some.injEq] at ho; subst ho; clear hi hl
            have s0 : (fun (vv : Value) (ww : World) => vv = .func (.func 37) #[] #[.pointer (some ⟨BR, 0, none⟩)]) u0 wz := hd 0 (by kernel_rfl)
            simp only at s0
            obtain rfl := s0
            have s2 : (fun (vv : Value) (ww : World) => vv = .int .i64 (pq : Int)) u2 wz := hd 2 (by kernel_rfl)
            simp only at s2
            obtain rfl := s2
            clear hd
            simp only [List.take_succ_cons, List.take_zero, List.drop_succ_cons, List.drop_zero, List.map_cons, List.map_nil, puts, Act.put, List.setIfInBounds_toArray, List.set_cons_succ, List.set_cons_zero]
            go_wp2_with ((go_at_call 37; (with_reducible refine (valc_any BR pq v5 _ rest _ (q13.below hbz q13.lt) (qr.below hbz) HPL.out (by omega)).mono ?_); rintro e w' ⟨rfl, hq⟩))
            exact ⟨rfl, _, rfl, hq, rfl⟩
          · simp only [List.getElem?_cons_succ, List.getElem?_cons_zero, Option.some.injEq] at ho; subst ho; clear hi hl
            clear hd
            simp only [List.take_succ_cons, List.take_zero, List.drop_succ_cons, List.drop_zero, List.map_cons, List.map_nil, puts, Act.put, List.setIfInBounds_toArray, List.set_cons_succ, List.set_cons_zero]
            go_wp2_with (((with_reducible refine' wpList_loadall_blk (.tmp 16) 23 rfl ?_ Tryd.underlying23 sz_dig ?_ (hkV.below hbz lV) ?_ ?_ ?_); exact rfl; exact rfl; exact WB.out; omega; simp only [Act.put, List.setIfInBounds_toArray, List.set_cons_succ, List.set_cons_zero]))
            exact ⟨rfl, _, rfl, Below.refl _ _, rfl⟩
          · simp only [List.getElem?_cons_succ, List.getElem?_cons_zero, Option.some.injEq] at ho; subst ho; clear hi hl
            have s3 : (fun (vv : Value) (ww : World) => vv = .agg (bv (pt16 rest pq)).toArray) u3 wz := hd 3 (by kernel_rfl)
            simp only at s3
            obtain rfl := s3
            have s4 : (fun (vv : Value) (ww : World) => vv = .agg (bv cu).toArray) u4 wz := hd 4 (by kernel_rfl)
            simp only at s4
            obtain rfl := s4
            clear hd
            simp only [List.take_succ_cons, List.take_zero, List.drop_succ_cons, List.drop_zero, List.map_cons, List.map_nil, puts, Act.put, List.setIfInBounds_toArray, List.set_cons_succ, List.set_cons_zero]
            go_wp2_with (((go_at_call 40; (with_reducible refine (node_any _ _ _ (hTo.below hbz) PT.out W16.out).mono ?_); rintro e w' ⟨rfl, hq⟩); rw [← HW.out]))
            exact ⟨rfl, _, rfl, hq, rfl⟩
          · omega
        intro us wz hl hbz hS
        obtain ⟨u0, u1, u2, u3, u4, u5, rfl⟩ := len6 hl
        have s5 : (fun (vv : Value) (ww : World) => vv = .agg (bv nx).toArray) u5 wz := hS 5 (by omega)
        simp only at s5
        obtain rfl := s5
        clear hS hl
        simp only [List.take_succ_cons, List.take_zero, List.drop_succ_cons, List.drop_zero, List.map_cons, List.map_nil, puts, Act.put, List.setIfInBounds_toArray, List.set_cons_succ, List.set_cons_zero]
        have hkVz := hkV.below hbz lV
        ((with_reducible refine' wpList_store_blk (cs := bv nx) 23 (.tmp 16) (.tmp 78) rfl ?_ ?_ ?_ hkVz sz_dig ?_ ?_ ?_ ?_); exact rfl; exact rfl; exact rfl; exact NX.out; exact WB.out; exact bv_one _; intro w20 hk20 hO20 hz20; simp only [Act.put])
        refine onlyN ?_
        clear hz20
        go_wp2_with fail
        go_roundw
        case rel => exact ⟨j + 1, by omega, by go_num, by rw [HNX.out]; exact hk20, (hX.trans (hbz.mono hX.size)).trans (hO20.below (Nat.le_refl _) (by have := hX.size; have := hbz.size; omega))⟩
        case measure => simp [intOf]; omega
      · have hWS : wayUp ix rest v0 (j + 1) = nodeD (wayUp ix rest v0 j) (pt16 rest pq) := by rw [wayUp, if_neg hodd, hpq]
        have hbit : bits .and .i64 ((ix : Int) / 2 ^ j) 1 = 0 := by rw [hx, show ix / 2 ^ j % 2 = 0 by omega]; rfl
        have HW := Lib.hid hWS
        obtain ⟨cu, hcu⟩ : ∃ cu, wayUp ix rest v0 j = cu := ⟨_, rfl⟩
        rw [hcu] at W16 WB hkV HW
        obtain ⟨nx, hnx⟩ : ∃ nx, wayUp ix rest v0 (j + 1) = nx := ⟨_, rfl⟩
        rw [hnx] at HW
        have NX := Lib.hid (show (bv nx).length = 16 by rw [bv_length, HW.out, nodeD_len])
        have HNX := Lib.hid hnx
        clear hWS hcu hx hcast hpl hpq hnx hodd hq64
        go_upto_region 19 with (((with_reducible refine' wpList_load_blk (.tmp 10) 3 rfl ?_ ld_int ?_ q10 (K1.out) ?_); exact rfl; exact rfl; simp only [Act.put, List.setIfInBounds_toArray, List.set_cons_succ, List.set_cons_zero]))
        refine wp_region_mono (w := wo) 6 (fun i => match i with | 0 => fun (vv : Value) (ww : World) => vv = .agg (bv cu).toArray | 1 => fun (vv : Value) (ww : World) => vv = .func (.func 37) #[] #[.pointer (some ⟨BR, 0, none⟩)] | 2 => fun (vv : Value) (ww : World) => vv = .int .i64 (j : Int) | 3 => fun (vv : Value) (ww : World) => vv = .int .i64 (pq : Int) | 4 => fun (vv : Value) (ww : World) => vv = .agg (bv (pt16 rest pq)).toArray | 5 => fun (vv : Value) (ww : World) => vv = .agg (bv nx).toArray | _ => fun _ _ => True) (by kernel_rfl) (by kernel_rfl) ?_ ?_ ?_
        · intro i vv w1 w2 h hb
          rcases i with _ | _ | _ | _ | _ | _ | i
          all_goals first | exact h | exact Rd.below h hb | exact own_below h hb | (obtain ⟨B, h1, h2, h3⟩ := h; exact ⟨B, h1, h2, Blk.below h3 hb (Blk.lt h3)⟩) | trivial
        · intro i o hi ho us wz hl hbz hd
          obtain ⟨u0, u1, u2, u3, u4, u5, rfl⟩ := len6 hl
          rcases i with _ | _ | _ | _ | _ | _ | i
          · simp only [List.getElem?_cons_succ, List.getElem?_cons_zero, Option.some.injEq] at ho; subst ho; clear hi hl
            clear hd
            simp only [List.take_succ_cons, List.take_zero, List.drop_succ_cons, List.drop_zero, List.map_cons, List.map_nil, puts, Act.put, List.setIfInBounds_toArray, List.set_cons_succ, List.set_cons_zero]
            go_wp2_with (((with_reducible refine' wpList_loadall_blk (.tmp 16) 23 rfl ?_ Tryd.underlying23 sz_dig ?_ (hkV.below hbz lV) ?_ ?_ ?_); exact rfl; exact rfl; exact WB.out; omega; simp only [Act.put, List.setIfInBounds_toArray, List.set_cons_succ, List.set_cons_zero]))
            exact ⟨rfl, _, rfl, Below.refl _ _, rfl⟩
          · simp only [List.getElem?_cons_succ, List.getElem?_cons_zero, Option.some.injEq] at ho; subst ho; clear hi hl
            clear hd
            simp only [List.take_succ_cons, List.take_zero, List.drop_succ_cons, List.drop_zero, List.map_cons, List.map_nil, puts, Act.put, List.setIfInBounds_toArray, List.set_cons_succ, List.set_cons_zero]
            go_wp2_with (((with_reducible refine' wpList_load_blk (.tmp 14) 69 rfl ?_ ld_fd ?_ (q14.below hbz q14.lt) (F0.out) ?_); exact rfl; exact rfl; simp only [Act.put, List.setIfInBounds_toArray, List.set_cons_succ, List.set_cons_zero]))
            exact ⟨rfl, _, rfl, Below.refl _ _, rfl⟩
          · simp only [List.getElem?_cons_succ, List.getElem?_cons_zero, Option.some.injEq] at ho; subst ho; clear hi hl
            clear hd
            simp only [List.take_succ_cons, List.take_zero, List.drop_succ_cons, List.drop_zero, List.map_cons, List.map_nil, puts, Act.put, List.setIfInBounds_toArray, List.set_cons_succ, List.set_cons_zero]
            go_wp2_with (fail)
            exact ⟨rfl, _, rfl, Below.refl _ _, rfl⟩
          · simp only [List.getElem?_cons_succ, List.getElem?_cons_zero, Option.some.injEq] at ho; subst ho; clear hi hl
            have s2 : (fun (vv : Value) (ww : World) => vv = .int .i64 (j : Int)) u2 wz := hd 2 (by kernel_rfl)
            simp only at s2
            obtain rfl := s2
            clear hd
            simp only [List.take_succ_cons, List.take_zero, List.drop_succ_cons, List.drop_zero, List.map_cons, List.map_nil, puts, Act.put, List.setIfInBounds_toArray, List.set_cons_succ, List.set_cons_zero]
            go_wp2_with (fail)
            exact ⟨rfl, _, rfl, Below.refl _ _, (by congr 1; omega)⟩
          · simp only [List.getElem?_cons_succ, List.getElem?_cons_zero, Option.some.injEq] at ho; subst ho; clear hi hl
            have s1 : (fun (vv : Value) (ww : World) => vv = .func (.func 37) #[] #[.pointer (some ⟨BR, 0, none⟩)]) u1 wz := hd 1 (by kernel_rfl)
            simp only at s1
            obtain rfl := s1
            have s3 : (fun (vv : Value) (ww : World) => vv = .int .i64 (pq : Int)) u3 wz := hd 3 (by kernel_rfl)
            simp only at s3
            obtain rfl := s3
            clear hd
            simp only [List.take_succ_cons, List.take_zero, List.drop_succ_cons, List.drop_zero, List.map_cons, List.map_nil, puts, Act.put, List.setIfInBounds_toArray, List.set_cons_succ, List.set_cons_zero]
            go_wp2_with ((go_at_call 37; (with_reducible refine (valc_any BR pq v5 _ rest _ (q13.below hbz q13.lt) (qr.below hbz) HPL.out (by omega)).mono ?_); rintro e w' ⟨rfl, hq⟩))
            exact ⟨rfl, _, rfl, hq, rfl⟩
          · simp only [List.getElem?_cons_succ, List.getElem?_cons_zero, Option.some.injEq] at ho; subst ho; clear hi hl
            have s0 : (fun (vv : Value) (ww : World) => vv = .agg (bv cu).toArray) u0 wz := hd 0 (by kernel_rfl)
            simp only at s0
            obtain rfl := s0
            have s4 : (fun (vv : Value) (ww : World) => vv = .agg (bv (pt16 rest pq)).toArray) u4 wz := hd 4 (by kernel_rfl)
            simp only at s4
            obtain rfl := s4
            clear hd
            simp only [List.take_succ_cons, List.take_zero, List.drop_succ_cons, List.drop_zero, List.map_cons, List.map_nil, puts, Act.put, List.setIfInBounds_toArray, List.set_cons_succ, List.set_cons_zero]
            go_wp2_with (((go_at_call 40; (with_reducible refine (node_any _ _ _ (hTo.below hbz) W16.out PT.out).mono ?_); rintro e w' ⟨rfl, hq⟩); rw [← HW.out]))
            exact ⟨rfl, _, rfl, hq, rfl⟩
          · omega
        intro us wz hl hbz hS
        obtain ⟨u0, u1, u2, u3, u4, u5, rfl⟩ := len6 hl
        have s5 : (fun (vv : Value) (ww : World) => vv = .agg (bv nx).toArray) u5 wz := hS 5 (by omega)
        simp only at s5
        obtain rfl := s5
        clear hS hl
        simp only [List.take_succ_cons, List.take_zero, List.drop_succ_cons, List.drop_zero, List.map_cons, List.map_nil, puts, Act.put, List.setIfInBounds_toArray, List.set_cons_succ, List.set_cons_zero]
        have hkVz := hkV.below hbz lV
        ((with_reducible refine' wpList_store_blk (cs := bv nx) 23 (.tmp 16) (.tmp 84) rfl ?_ ?_ ?_ hkVz sz_dig ?_ ?_ ?_ ?_); exact rfl; exact rfl; exact rfl; exact NX.out; exact WB.out; exact bv_one _; intro w20 hk20 hO20 hz20; simp only [Act.put])
        refine onlyN ?_
        clear hz20
        go_wp2_with fail
        go_roundw
        case rel => exact ⟨j + 1, by omega, by go_num, by rw [HNX.out]; exact hk20, (hX.trans (hbz.mono hX.size)).trans (hO20.below (Nat.le_refl _) (by have := hX.size; have := hbz.size; omega))⟩
        case measure => simp [intOf]; omega
    · obtain rfl : j = l := by omega
      by_cases heq : wayUp ix rest v0 j = p
      · have hde : decide (wayUp ix rest v0 j = p) = true := decide_eq_true heq
        have HQ := Lib.hid heq
        clear heq
        go_wp2_with (first | ((with_reducible refine' wpList_loadall_blk (.tmp 16) 23 rfl ?_ Tryd.underlying23 sz_dig ?_ hkV ?_ ?_ ?_); exact rfl; exact rfl; exact WB.out; omega; simp only [Act.put, List.setIfInBounds_toArray, List.set_cons_succ, List.set_cons_zero]) | ((with_reducible refine' wpList_loadall_blk (.tmp 4) 23 rfl ?_ Tryd.underlying23 sz_dig ?_ q4 ?_ ?_ ?_); exact rfl; exact rfl; exact PB.out; omega; simp only [Act.put, List.setIfInBounds_toArray, List.set_cons_succ, List.set_cons_zero]) | (((with_reducible refine' wpList_arr_neq (l := wayUp ix rest v0 j) (m := p) (.tmp 86) (.tmp 87) 23 _ rfl ?_ Tryd.underlying23 Tryd.underlying5 sz_u8 (by kernel_rfl) ?_ ?_ W16.out P16.out ?_); exact rfl; exact rfl; exact rfl; simp only [Act.put, List.setIfInBounds_toArray, List.set_cons_succ, List.set_cons_zero]); rw [hde]) | ((with_reducible refine' wpList_load_blk (.tmp 10) 3 rfl ?_ ld_int ?_ q10 (K1.out) ?_); exact rfl; exact rfl; simp only [Act.put, List.setIfInBounds_toArray, List.set_cons_succ, List.set_cons_zero]))
        go_ret2
        exact ⟨by unfold verR; rw [RT.out, if_pos HQ.out]; rfl, hb.trans (hX.mono hb.size)⟩
      · have hde : decide (wayUp ix rest v0 j = p) = false := decide_eq_false heq
        have HQ := Lib.hid heq
        clear heq
        go_wp2_with (first | ((with_reducible refine' wpList_loadall_blk (.tmp 16) 23 rfl ?_ Tryd.underlying23 sz_dig ?_ hkV ?_ ?_ ?_); exact rfl; exact rfl; exact WB.out; omega; simp only [Act.put, List.setIfInBounds_toArray, List.set_cons_succ, List.set_cons_zero]) | ((with_reducible refine' wpList_loadall_blk (.tmp 4) 23 rfl ?_ Tryd.underlying23 sz_dig ?_ q4 ?_ ?_ ?_); exact rfl; exact rfl; exact PB.out; omega; simp only [Act.put, List.setIfInBounds_toArray, List.set_cons_succ, List.set_cons_zero]) | (((with_reducible refine' wpList_arr_neq (l := wayUp ix rest v0 j) (m := p) (.tmp 86) (.tmp 87) 23 _ rfl ?_ Tryd.underlying23 Tryd.underlying5 sz_u8 (by kernel_rfl) ?_ ?_ W16.out P16.out ?_); exact rfl; exact rfl; exact rfl; simp only [Act.put, List.setIfInBounds_toArray, List.set_cons_succ, List.set_cons_zero]); rw [hde]))
        go_ret2
        exact ⟨by unfold verR; rw [RT.out, if_neg HQ.out]; rfl, hb.trans (hX.mono hb.size)⟩
end Go.Proofs.YtajglgkjpagcjaaDoor.Wi
namespace Go.Proofs.YtajglgkjpagcjaaDoor.Wi
open Go Go.RowKit Pu Lb
set_option linter.unusedSimpArgs false
set_option linter.unusedVariables false
attribute [local irreducible] comp sched comps sha outS mac digOf encInts adv startV nodeAt pt16
theorem ver_height {p m sig : List UInt8} {h : Int} (hb : ¬(0 ≤ h ∧ h ≤ 6)) : verV p h m sig = (0, 1) := by unfold verV; rw [if_neg hb]
theorem ver_long {p m sig : List UInt8} {h : Int} (hb : 0 ≤ h ∧ h ≤ 6) (hm : 1048576 < m.length) : verV p h m sig = (0, 4) := by unfold verV; rw [if_pos hb, if_pos hm]
theorem ver_get {p m sig : List UInt8} {h : Int} (hb : 0 ≤ h ∧ h ≤ 6) (hm : ¬1048576 < m.length) (hg : (getInt sig).2.2 ≠ 0) : verV p h m sig = (0, (getInt sig).2.2) := by unfold verV; rw [if_pos hb, if_neg hm, if_pos hg]
theorem ver_form {p m sig : List UInt8} {h z : Int} {u : Nat} (hb : 0 ≤ h ∧ h ≤ 6) (hm : ¬1048576 < m.length) (hg : getInt sig = (z, u, 0)) (hf : z < 0 ∨ 2 ^ h.toNat ≤ z ∨ (sig.drop u).length ≠ (68 + h.toNat) * 16) : verV p h m sig = (0, 2) := by
  unfold verV; rw [if_pos hb, if_neg hm, hg]; simp only; rw [if_neg (by simp), if_pos hf]
theorem ver_good {p m sig : List UInt8} {l ix u : Nat} (hb : l ≤ 6) (hm : ¬1048576 < m.length) (hg : getInt sig = ((ix : Int), u, 0)) (hi : ix < 2 ^ l) (hf : (sig.drop u).length = (68 + l) * 16) : verV p (l : Int) m sig = verR p l ix m (sig.drop u) := by
  unfold verV verR
  rw [if_pos (by omega), if_neg hm, hg]
  simp only
  rw [if_neg (by simp), if_neg ?_]
  · simp
  · have h2 : ¬((2 : Int) ^ (l : Int).toNat ≤ (ix : Int)) := by
      have : ((2 : Int) ^ (l : Int).toNat) = ((2 ^ l : Nat) : Int) := by simp
      rw [this]; omega
    rintro (h | h | h)
    · omega
    · exact h2 h
    · exact h (by simpa using hf)
set_option maxRecDepth 100000 in
set_option maxHeartbeats 400000 in
theorem ver_form1 (p m sig : List UInt8) (l used : Nat) (z : Int) (w : World) (hp : p.length = 16) (hl6 : l ≤ 6) (hm : m.length ≤ 1048576) (hsg : sig.length ≤ 1000000) (hget : getInt sig = (z, used, 0)) (hz : z < 0) (hlen : (sig.drop used).length = (sig.drop used).length) :
    Calls Tryd.prog 18 #[.agg (bv p).toArray, .int .i64 (l : Int), .string ⟨m.toArray⟩, .string ⟨sig.toArray⟩] w fun e w' => e = .returned (RZ (0, 2)) ∧ Below w.heap.size w w' := by
  have hd1 : decide (z < 0) = true := decide_eq_true hz
  have hsm := size_str m
  have hv : okH (l : Int) = true := decide_eq_true (by omega)
  obtain ⟨z0, z1, hu, _⟩ := enc_get hget
  have HG := Lib.hid hget
  obtain ⟨rest, hrest⟩ : ∃ rest, sig.drop used = rest := ⟨_, rfl⟩
  rw [hrest] at hlen
  have hrl : rest.length ≤ 1000000 := by rw [← hrest, List.length_drop]; omega
  have HRS := Lib.hid hrest
  have K1 := Lib.hid (show ([Value.int .i64 z] : List Value)[0]? = some (.int .i64 z) from rfl)
  have Z1 : Hid (0 < ([Value.int .i64 0] : List Value).length) := Lib.hid (by decide)
  have Z2 : Hid (0 < ([Value.slice none 0 0] : List Value).length) := Lib.hid (by decide)
  have PB := Lib.hid (show (bv p).length = 16 by rw [bv_length, hp])
  clear hrest hget hp
  have hb := Below.refl w.heap.size w
  go_enter Tryd.func18, Tryd.ntmps18
  go_upto_region 9 with (first
    | (((with_reducible refine' wpList_boxa (cs := bv p) 23 (.tmp 0) rfl ?_ ?_ ?_); exact rfl; exact rfl; intro w1 hk4 hN hz1; simp only [Act.put, List.setIfInBounds_toArray, List.set_cons_succ, List.set_cons_zero]); replace hb := hb.trans ((by exact hN : Below _ _ _).mono hb.size); clear hz1)
    | ((go_at_call 21; (with_reducible refine (valid_any (l : Int) _).mono ?_); rintro e w' ⟨rfl, rfl⟩); rw [hv])
    | (((with_reducible refine' wpList_bytes_l (l := sig) (.tmp 27) 9 52 rfl ?_ Tryd.underlying9 Tryd.underlying52 Tryd.underlying5 ?_ ((by unfold maxLen; omega)) ?_); exact rfl; exact rfl; intro v2 w2 r2 hN; simp only [Act.put, List.setIfInBounds_toArray, List.set_cons_succ, List.set_cons_zero]); replace hb := hb.trans ((by exact hN : Below _ _ _).mono hb.size); (try replace hk4 := Blk.below hk4 hN (Blk.lt hk4)))
    | ((go_at_call 36; (with_reducible refine (getint_any v2 _ sig _ r2).mono ?_); rintro e w' ⟨rfl, rfl⟩); rw [HG.out]; unfold R3; simp only)
    | (((with_reducible refine' wpList_alloc_blk (cs := [.int .i64 0]) 3 rfl ?_ zr_int ?_ ?_); exact rfl; exact rfl; intro w3 hk10 hN hz3; simp only [Act.put, List.setIfInBounds_toArray, List.set_cons_succ, List.set_cons_zero]); have s2 := hb.size; have l4 := hk4.lt; replace hb := hb.trans ((by exact hN : Below _ _ _).mono hb.size); (try replace hk4 := Blk.below hk4 hN (Blk.lt hk4)); clear hz3)
    | (((with_reducible refine' wpList_set_blk (u := .int .i64 z) 3 (.tmp 10) (.tmp 30) rfl ?_ sz_int ?_ ?_ hk10 (Z1.out) ?_ ?_); exact rfl; exact rfl; exact rfl; exact rfl; intro w4 hk10b hO4 hz4; simp only [Act.put]); clear hz4; replace hk4 := hO4.blk hk4 (by omega); replace hb := hb.trans (hO4.below (by omega) hb.size))
    | (((with_reducible refine' wpList_str_from (.tmp 36) (.tmp 37) 9 rfl ?_ Tryd.underlying9 (l := sig) ?_ (used) ?_ ?_ ?_); exact rfl; exact rfl; (show (_ : Int) = _; omega); exact hu; simp only [Act.put, List.setIfInBounds_toArray, List.set_cons_succ, List.set_cons_zero]); rw [HRS.out])
    | (((with_reducible refine' wpList_bytes_l (l := rest) (.tmp 38) 9 52 rfl ?_ Tryd.underlying9 Tryd.underlying52 Tryd.underlying5 ?_ ((by unfold maxLen; omega)) ?_); exact rfl; exact rfl; intro v5 w5 r5 hN; simp only [Act.put, List.setIfInBounds_toArray, List.set_cons_succ, List.set_cons_zero]); have l10 := hk10b.lt; replace hb := hb.trans ((by exact hN : Below _ _ _).mono hb.size); (try replace hk4 := Blk.below hk4 hN (Blk.lt hk4)); (try replace hk10b := Blk.below hk10b hN (Blk.lt hk10b)))
    | (((with_reducible refine' wpList_alloc_blk (cs := [.slice none 0 0]) 52 rfl ?_ zr_bs ?_ ?_); exact rfl; exact rfl; intro w6 hk13 hN hz6; simp only [Act.put, List.setIfInBounds_toArray, List.set_cons_succ, List.set_cons_zero]); have s5 := hb.size; have l4b := hk4.lt; have l10b := hk10b.lt; have r5o := r5; have hN6 := hN; replace hb := hb.trans ((by exact hN : Below _ _ _).mono hb.size); (try replace hk4 := Blk.below hk4 hN (Blk.lt hk4)); (try replace hk10b := Blk.below hk10b hN (Blk.lt hk10b)); (try replace r5 := Rd.below r5 hN); clear hz6)
    | (((with_reducible refine' wpList_set_blk (u := v5) 52 (.tmp 13) (.tmp 39) rfl ?_ sz_bs ?_ ?_ hk13 (Z2.out) ?_ ?_); exact rfl; exact rfl; exact rfl; exact (Rd.one r5); intro w7 hk13b hO7 hz7; simp only [Act.put, List.setIfInBounds_toArray, List.set_cons_succ, List.set_cons_zero]); clear hz7; replace hk10b := hO7.blk hk10b (by omega); have r7 := r5o.below (hN6.trans (hO7.below (Nat.le_refl _) hN6.size)); replace hb := hb.trans (hO7.below (by omega) hb.size)))
  have hk10 : Blk w7 w2.heap.size 3 [.int .i64 z] := hk10b
  have hk13 : Blk w7 w5.heap.size 52 [v5] := hk13b
  have V0 := Lib.hid (show ([v5] : List Value)[0]? = some v5 from rfl)
  obtain ⟨B10, hB10⟩ : ∃ B, w2.heap.size = B := ⟨_, rfl⟩
  obtain ⟨BR, hBR⟩ : ∃ B, w5.heap.size = B := ⟨_, rfl⟩
  rw [hB10] at hk10 l10b l10 l4 ⊢
  rw [hBR] at hk13 l10b l4b ⊢
  clear hk10b hk13b hN hN6 hO7 r5 r5o r2 hO4 s2 s5 l10 l4 hB10 hBR hk4
  (refine wp_region_quiet_lit (by kernel_rfl) (by kernel_rfl) ?_; (repeat (first | ((with_reducible refine' wpQuiet_load_blk (fun _ h => h) (.tmp 10) 3 rfl ?_ ld_int ?_ hk10 (K1.out) ?_); exact rfl; exact rfl; simp only [Act.put, List.setIfInBounds_toArray, List.set_cons_succ, List.set_cons_zero]) | ((with_reducible refine' wpQuiet_load_blk (fun _ h => h) (.tmp 13) 52 rfl ?_ ld_bs ?_ hk13 (V0.out) ?_); exact rfl; exact rfl; simp only [Act.put, List.setIfInBounds_toArray, List.set_cons_succ, List.set_cons_zero]) | ((with_reducible refine' wpQuiet_len_rd (.tmp 49) 52 rfl ?_ Tryd.underlying52 ?_ r7 ?_); exact rfl; exact rfl; simp only [Act.put, List.setIfInBounds_toArray, List.set_cons_succ, List.set_cons_zero]) | go_big_quiet_step (fail))); refine wpQuiet_nil ?_; intro _ hw'; obtain ⟨nq, hw''⟩ := hw'; subst hw'')
  go_wp2_with fail
  go_ret2
  exact ⟨rfl, below_drewN hb nq⟩
set_option maxRecDepth 100000 in
set_option maxHeartbeats 400000 in
theorem ver_form2 (p m sig : List UInt8) (l used : Nat) (z : Int) (w : World) (hp : p.length = 16) (hl6 : l ≤ 6) (hm : m.length ≤ 1048576) (hsg : sig.length ≤ 1000000) (hget : getInt sig = (z, used, 0)) (hz0 : 0 ≤ z) (hz : ((2 ^ l : Nat) : Int) ≤ z) (hlen : (sig.drop used).length = (sig.drop used).length) :
    Calls Tryd.prog 18 #[.agg (bv p).toArray, .int .i64 (l : Int), .string ⟨m.toArray⟩, .string ⟨sig.toArray⟩] w fun e w' => e = .returned (RZ (0, 2)) ∧ Below w.heap.size w w' := by
  have hd1 : decide (z < 0) = false := decide_eq_false (by omega)
  have hpw := wrap_pow hl6
  obtain ⟨K, hK⟩ : ∃ K : Nat, 2 ^ l = K := ⟨_, rfl⟩
  rw [hK] at hpw hz
  have hd2 : decide ((K : Int) ≤ z) = true := decide_eq_true hz
  clear hK
  have hsm := size_str m
  have hv : okH (l : Int) = true := decide_eq_true (by omega)
  obtain ⟨z0, z1, hu, _⟩ := enc_get hget
  have HG := Lib.hid hget
  obtain ⟨rest, hrest⟩ : ∃ rest, sig.drop used = rest := ⟨_, rfl⟩
  rw [hrest] at hlen
  have hrl : rest.length ≤ 1000000 := by rw [← hrest, List.length_drop]; omega
  have HRS := Lib.hid hrest
  have K1 := Lib.hid (show ([Value.int .i64 z] : List Value)[0]? = some (.int .i64 z) from rfl)
  have Z1 : Hid (0 < ([Value.int .i64 0] : List Value).length) := Lib.hid (by decide)
  have Z2 : Hid (0 < ([Value.slice none 0 0] : List Value).length) := Lib.hid (by decide)
  have PB := Lib.hid (show (bv p).length = 16 by rw [bv_length, hp])
  clear hrest hget hp
  have hb := Below.refl w.heap.size w
  go_enter Tryd.func18, Tryd.ntmps18
  go_upto_region 9 with (first
    | (((with_reducible refine' wpList_boxa (cs := bv p) 23 (.tmp 0) rfl ?_ ?_ ?_); exact rfl; exact rfl; intro w1 hk4 hN hz1; simp only [Act.put, List.setIfInBounds_toArray, List.set_cons_succ, List.set_cons_zero]); replace hb := hb.trans ((by exact hN : Below _ _ _).mono hb.size); clear hz1)
    | ((go_at_call 21; (with_reducible refine (valid_any (l : Int) _).mono ?_); rintro e w' ⟨rfl, rfl⟩); rw [hv])
    | (((with_reducible refine' wpList_bytes_l (l := sig) (.tmp 27) 9 52 rfl ?_ Tryd.underlying9 Tryd.underlying52 Tryd.underlying5 ?_ ((by unfold maxLen; omega)) ?_); exact rfl; exact rfl; intro v2 w2 r2 hN; simp only [Act.put, List.setIfInBounds_toArray, List.set_cons_succ, List.set_cons_zero]); replace hb := hb.trans ((by exact hN : Below _ _ _).mono hb.size); (try replace hk4 := Blk.below hk4 hN (Blk.lt hk4)))
    | ((go_at_call 36; (with_reducible refine (getint_any v2 _ sig _ r2).mono ?_); rintro e w' ⟨rfl, rfl⟩); rw [HG.out]; unfold R3; simp only)
    | (((with_reducible refine' wpList_alloc_blk (cs := [.int .i64 0]) 3 rfl ?_ zr_int ?_ ?_); exact rfl; exact rfl; intro w3 hk10 hN hz3; simp only [Act.put, List.setIfInBounds_toArray, List.set_cons_succ, List.set_cons_zero]); have s2 := hb.size; have l4 := hk4.lt; replace hb := hb.trans ((by exact hN : Below _ _ _).mono hb.size); (try replace hk4 := Blk.below hk4 hN (Blk.lt hk4)); clear hz3)
    | (((with_reducible refine' wpList_set_blk (u := .int .i64 z) 3 (.tmp 10) (.tmp 30) rfl ?_ sz_int ?_ ?_ hk10 (Z1.out) ?_ ?_); exact rfl; exact rfl; exact rfl; exact rfl; intro w4 hk10b hO4 hz4; simp only [Act.put]); clear hz4; replace hk4 := hO4.blk hk4 (by omega); replace hb := hb.trans (hO4.below (by omega) hb.size))
    | (((with_reducible refine' wpList_str_from (.tmp 36) (.tmp 37) 9 rfl ?_ Tryd.underlying9 (l := sig) ?_ (used) ?_ ?_ ?_); exact rfl; exact rfl; (show (_ : Int) = _; omega); exact hu; simp only [Act.put, List.setIfInBounds_toArray, List.set_cons_succ, List.set_cons_zero]); rw [HRS.out])
    | (((with_reducible refine' wpList_bytes_l (l := rest) (.tmp 38) 9 52 rfl ?_ Tryd.underlying9 Tryd.underlying52 Tryd.underlying5 ?_ ((by unfold maxLen; omega)) ?_); exact rfl; exact rfl; intro v5 w5 r5 hN; simp only [Act.put, List.setIfInBounds_toArray, List.set_cons_succ, List.set_cons_zero]); have l10 := hk10b.lt; replace hb := hb.trans ((by exact hN : Below _ _ _).mono hb.size); (try replace hk4 := Blk.below hk4 hN (Blk.lt hk4)); (try replace hk10b := Blk.below hk10b hN (Blk.lt hk10b)))
    | (((with_reducible refine' wpList_alloc_blk (cs := [.slice none 0 0]) 52 rfl ?_ zr_bs ?_ ?_); exact rfl; exact rfl; intro w6 hk13 hN hz6; simp only [Act.put, List.setIfInBounds_toArray, List.set_cons_succ, List.set_cons_zero]); have s5 := hb.size; have l4b := hk4.lt; have l10b := hk10b.lt; have r5o := r5; have hN6 := hN; replace hb := hb.trans ((by exact hN : Below _ _ _).mono hb.size); (try replace hk4 := Blk.below hk4 hN (Blk.lt hk4)); (try replace hk10b := Blk.below hk10b hN (Blk.lt hk10b)); (try replace r5 := Rd.below r5 hN); clear hz6)
    | (((with_reducible refine' wpList_set_blk (u := v5) 52 (.tmp 13) (.tmp 39) rfl ?_ sz_bs ?_ ?_ hk13 (Z2.out) ?_ ?_); exact rfl; exact rfl; exact rfl; exact (Rd.one r5); intro w7 hk13b hO7 hz7; simp only [Act.put, List.setIfInBounds_toArray, List.set_cons_succ, List.set_cons_zero]); clear hz7; replace hk10b := hO7.blk hk10b (by omega); have r7 := r5o.below (hN6.trans (hO7.below (Nat.le_refl _) hN6.size)); replace hb := hb.trans (hO7.below (by omega) hb.size)))
  have hk10 : Blk w7 w2.heap.size 3 [.int .i64 z] := hk10b
  have hk13 : Blk w7 w5.heap.size 52 [v5] := hk13b
  have V0 := Lib.hid (show ([v5] : List Value)[0]? = some v5 from rfl)
  obtain ⟨B10, hB10⟩ : ∃ B, w2.heap.size = B := ⟨_, rfl⟩
  obtain ⟨BR, hBR⟩ : ∃ B, w5.heap.size = B := ⟨_, rfl⟩
  rw [hB10] at hk10 l10b l10 l4 ⊢
  rw [hBR] at hk13 l10b l4b ⊢
  clear hk10b hk13b hN hN6 hO7 r5 r5o r2 hO4 s2 s5 l10 l4 hB10 hBR hk4
  (refine wp_region_quiet_lit (by kernel_rfl) (by kernel_rfl) ?_; (repeat (first | ((with_reducible refine' wpQuiet_load_blk (fun _ h => h) (.tmp 10) 3 rfl ?_ ld_int ?_ hk10 (K1.out) ?_); exact rfl; exact rfl; simp only [Act.put, List.setIfInBounds_toArray, List.set_cons_succ, List.set_cons_zero]) | ((with_reducible refine' wpQuiet_load_blk (fun _ h => h) (.tmp 13) 52 rfl ?_ ld_bs ?_ hk13 (V0.out) ?_); exact rfl; exact rfl; simp only [Act.put, List.setIfInBounds_toArray, List.set_cons_succ, List.set_cons_zero]) | ((with_reducible refine' wpQuiet_len_rd (.tmp 49) 52 rfl ?_ Tryd.underlying52 ?_ r7 ?_); exact rfl; exact rfl; simp only [Act.put, List.setIfInBounds_toArray, List.set_cons_succ, List.set_cons_zero]) | go_big_quiet_step (fail))); refine wpQuiet_nil ?_; intro _ hw'; obtain ⟨nq, hw''⟩ := hw'; subst hw'')
  go_wp2_with fail
  go_ret2
  exact ⟨rfl, below_drewN hb nq⟩
set_option maxRecDepth 100000 in
set_option maxHeartbeats 400000 in
theorem ver_form3 (p m sig : List UInt8) (l used : Nat) (z : Int) (w : World) (hp : p.length = 16) (hl6 : l ≤ 6) (hm : m.length ≤ 1048576) (hsg : sig.length ≤ 1000000) (hget : getInt sig = (z, used, 0)) (hz0 : 0 ≤ z) (hz : z < ((2 ^ l : Nat) : Int)) (hlen : (((sig.drop used).length : Int) != (68 + (l : Int)) * 16) = true) :
    Calls Tryd.prog 18 #[.agg (bv p).toArray, .int .i64 (l : Int), .string ⟨m.toArray⟩, .string ⟨sig.toArray⟩] w fun e w' => e = .returned (RZ (0, 2)) ∧ Below w.heap.size w w' := by
  have hd1 : decide (z < 0) = false := decide_eq_false (by omega)
  have hpw := wrap_pow hl6
  obtain ⟨K, hK⟩ : ∃ K : Nat, 2 ^ l = K := ⟨_, rfl⟩
  rw [hK] at hpw hz
  have hd2 : decide ((K : Int) ≤ z) = false := decide_eq_false (by omega)
  clear hK
  have hsm := size_str m
  have hv : okH (l : Int) = true := decide_eq_true (by omega)
  obtain ⟨z0, z1, hu, _⟩ := enc_get hget
  have HG := Lib.hid hget
  obtain ⟨rest, hrest⟩ : ∃ rest, sig.drop used = rest := ⟨_, rfl⟩
  rw [hrest] at hlen
  have hrl : rest.length ≤ 1000000 := by rw [← hrest, List.length_drop]; omega
  have HRS := Lib.hid hrest
  have K1 := Lib.hid (show ([Value.int .i64 z] : List Value)[0]? = some (.int .i64 z) from rfl)
  have Z1 : Hid (0 < ([Value.int .i64 0] : List Value).length) := Lib.hid (by decide)
  have Z2 : Hid (0 < ([Value.slice none 0 0] : List Value).length) := Lib.hid (by decide)
  have PB := Lib.hid (show (bv p).length = 16 by rw [bv_length, hp])
  clear hrest hget hp
  have hb := Below.refl w.heap.size w
  go_enter Tryd.func18, Tryd.ntmps18
  go_upto_region 9 with (first
    | (((with_reducible refine' wpList_boxa (cs := bv p) 23 (.tmp 0) rfl ?_ ?_ ?_); exact rfl; exact rfl; intro w1 hk4 hN hz1; simp only [Act.put, List.setIfInBounds_toArray, List.set_cons_succ, List.set_cons_zero]); replace hb := hb.trans ((by exact hN : Below _ _ _).mono hb.size); clear hz1)
    | ((go_at_call 21; (with_reducible refine (valid_any (l : Int) _).mono ?_); rintro e w' ⟨rfl, rfl⟩); rw [hv])
    | (((with_reducible refine' wpList_bytes_l (l := sig) (.tmp 27) 9 52 rfl ?_ Tryd.underlying9 Tryd.underlying52 Tryd.underlying5 ?_ ((by unfold maxLen; omega)) ?_); exact rfl; exact rfl; intro v2 w2 r2 hN; simp only [Act.put, List.setIfInBounds_toArray, List.set_cons_succ, List.set_cons_zero]); replace hb := hb.trans ((by exact hN : Below _ _ _).mono hb.size); (try replace hk4 := Blk.below hk4 hN (Blk.lt hk4)))
    | ((go_at_call 36; (with_reducible refine (getint_any v2 _ sig _ r2).mono ?_); rintro e w' ⟨rfl, rfl⟩); rw [HG.out]; unfold R3; simp only)
    | (((with_reducible refine' wpList_alloc_blk (cs := [.int .i64 0]) 3 rfl ?_ zr_int ?_ ?_); exact rfl; exact rfl; intro w3 hk10 hN hz3; simp only [Act.put, List.setIfInBounds_toArray, List.set_cons_succ, List.set_cons_zero]); have s2 := hb.size; have l4 := hk4.lt; replace hb := hb.trans ((by exact hN : Below _ _ _).mono hb.size); (try replace hk4 := Blk.below hk4 hN (Blk.lt hk4)); clear hz3)
    | (((with_reducible refine' wpList_set_blk (u := .int .i64 z) 3 (.tmp 10) (.tmp 30) rfl ?_ sz_int ?_ ?_ hk10 (Z1.out) ?_ ?_); exact rfl; exact rfl; exact rfl; exact rfl; intro w4 hk10b hO4 hz4; simp only [Act.put]); clear hz4; replace hk4 := hO4.blk hk4 (by omega); replace hb := hb.trans (hO4.below (by omega) hb.size))
    | (((with_reducible refine' wpList_str_from (.tmp 36) (.tmp 37) 9 rfl ?_ Tryd.underlying9 (l := sig) ?_ (used) ?_ ?_ ?_); exact rfl; exact rfl; (show (_ : Int) = _; omega); exact hu; simp only [Act.put, List.setIfInBounds_toArray, List.set_cons_succ, List.set_cons_zero]); rw [HRS.out])
    | (((with_reducible refine' wpList_bytes_l (l := rest) (.tmp 38) 9 52 rfl ?_ Tryd.underlying9 Tryd.underlying52 Tryd.underlying5 ?_ ((by unfold maxLen; omega)) ?_); exact rfl; exact rfl; intro v5 w5 r5 hN; simp only [Act.put, List.setIfInBounds_toArray, List.set_cons_succ, List.set_cons_zero]); have l10 := hk10b.lt; replace hb := hb.trans ((by exact hN : Below _ _ _).mono hb.size); (try replace hk4 := Blk.below hk4 hN (Blk.lt hk4)); (try replace hk10b := Blk.below hk10b hN (Blk.lt hk10b)))
    | (((with_reducible refine' wpList_alloc_blk (cs := [.slice none 0 0]) 52 rfl ?_ zr_bs ?_ ?_); exact rfl; exact rfl; intro w6 hk13 hN hz6; simp only [Act.put, List.setIfInBounds_toArray, List.set_cons_succ, List.set_cons_zero]); have s5 := hb.size; have l4b := hk4.lt; have l10b := hk10b.lt; have r5o := r5; have hN6 := hN; replace hb := hb.trans ((by exact hN : Below _ _ _).mono hb.size); (try replace hk4 := Blk.below hk4 hN (Blk.lt hk4)); (try replace hk10b := Blk.below hk10b hN (Blk.lt hk10b)); (try replace r5 := Rd.below r5 hN); clear hz6)
    | (((with_reducible refine' wpList_set_blk (u := v5) 52 (.tmp 13) (.tmp 39) rfl ?_ sz_bs ?_ ?_ hk13 (Z2.out) ?_ ?_); exact rfl; exact rfl; exact rfl; exact (Rd.one r5); intro w7 hk13b hO7 hz7; simp only [Act.put, List.setIfInBounds_toArray, List.set_cons_succ, List.set_cons_zero]); clear hz7; replace hk10b := hO7.blk hk10b (by omega); have r7 := r5o.below (hN6.trans (hO7.below (Nat.le_refl _) hN6.size)); replace hb := hb.trans (hO7.below (by omega) hb.size)))
  have hk10 : Blk w7 w2.heap.size 3 [.int .i64 z] := hk10b
  have hk13 : Blk w7 w5.heap.size 52 [v5] := hk13b
  have V0 := Lib.hid (show ([v5] : List Value)[0]? = some v5 from rfl)
  obtain ⟨B10, hB10⟩ : ∃ B, w2.heap.size = B := ⟨_, rfl⟩
  obtain ⟨BR, hBR⟩ : ∃ B, w5.heap.size = B := ⟨_, rfl⟩
  rw [hB10] at hk10 l10b l10 l4 ⊢
  rw [hBR] at hk13 l10b l4b ⊢
  clear hk10b hk13b hN hN6 hO7 r5 r5o r2 hO4 s2 s5 l10 l4 hB10 hBR hk4
  (refine wp_region_quiet_lit (by kernel_rfl) (by kernel_rfl) ?_; (repeat (first | ((with_reducible refine' wpQuiet_load_blk (fun _ h => h) (.tmp 10) 3 rfl ?_ ld_int ?_ hk10 (K1.out) ?_); exact rfl; exact rfl; simp only [Act.put, List.setIfInBounds_toArray, List.set_cons_succ, List.set_cons_zero]) | ((with_reducible refine' wpQuiet_load_blk (fun _ h => h) (.tmp 13) 52 rfl ?_ ld_bs ?_ hk13 (V0.out) ?_); exact rfl; exact rfl; simp only [Act.put, List.setIfInBounds_toArray, List.set_cons_succ, List.set_cons_zero]) | ((with_reducible refine' wpQuiet_len_rd (.tmp 49) 52 rfl ?_ Tryd.underlying52 ?_ r7 ?_); exact rfl; exact rfl; simp only [Act.put, List.setIfInBounds_toArray, List.set_cons_succ, List.set_cons_zero]) | go_big_quiet_step (fail))); refine wpQuiet_nil ?_; intro _ hw'; obtain ⟨nq, hw''⟩ := hw'; subst hw'')
  go_wp2_with fail
  go_ret2
  exact ⟨rfl, below_drewN hb nq⟩
set_option maxRecDepth 100000 in
theorem verify_any (p m sig : List UInt8) (h : Int) (w : World) (hT : TabH w) (hp : p.length = 16) (hm : m.length ≤ 140737488355328) (hsg : sig.length ≤ 1000000) :
    Calls Tryd.prog 18 #[.agg (bv p).toArray, .int .i64 h, .string ⟨m.toArray⟩, .string ⟨sig.toArray⟩] w fun e w' => e = .returned (RZ (verV p h m sig)) ∧ Below w.heap.size w w' := by
  have hsm := size_str m
  have PB := Lib.hid (show (bv p).length = 16 by rw [bv_length, hp])
  by_cases hh : 0 ≤ h ∧ h ≤ 6
  · obtain ⟨l, rfl⟩ : ∃ l : Nat, h = (l : Int) := ⟨h.toNat, by omega⟩
    have hl6 : l ≤ 6 := by omega
    have hv : okH (l : Int) = true := decide_eq_true hh
    by_cases hlong : 1048576 < m.length
    · have HB := Lib.hid (ver_long (p := p) (sig := sig) hh hlong)
      clear hh
      go_enter Tryd.func18, Tryd.ntmps18
      go_wp2_with (first
        | ((with_reducible refine' wpList_boxa (cs := bv p) 23 (.tmp 0) rfl ?_ ?_ ?_); exact rfl; exact rfl; intro w1 hk4 hN hz1; simp only [Act.put, List.setIfInBounds_toArray, List.set_cons_succ, List.set_cons_zero])
        | ((go_at_call 21; (with_reducible refine (valid_any (l : Int) _).mono ?_); rintro e w' ⟨rfl, rfl⟩); rw [hv]))
      go_ret2
      exact ⟨by rw [HB.out]; rfl, hN⟩
    · by_cases hg : (getInt sig).2.2 = 0
      · obtain ⟨z, used, hget⟩ : ∃ z used, getInt sig = (z, used, 0) := ⟨(getInt sig).1, (getInt sig).2.1, by rw [← hg]⟩
        by_cases hz0 : z < 0
        · rw [ver_form hh hlong hget (.inl hz0)]
          exact ver_form1 p m sig l used z w hp hl6 (by omega) hsg hget hz0 rfl
        · by_cases hz1 : ((2 ^ l : Nat) : Int) ≤ z
          · rw [ver_form hh hlong hget (.inr (.inl (by simpa using hz1)))]
            exact ver_form2 p m sig l used z w hp hl6 (by omega) hsg hget (by omega) hz1 rfl
          · by_cases hlen : (sig.drop used).length = (68 + l) * 16
            · obtain ⟨ix, rfl⟩ : ∃ ix : Nat, z = (ix : Int) := ⟨z.toNat, by omega⟩
              have hi : ix < 2 ^ l := by omega
              rw [ver_good hl6 hlong hget hi hlen]
              exact ver_main p m sig l ix used w hT hp hl6 (by omega) hsg hget hi hlen
            · rw [ver_form hh hlong hget (.inr (.inr (by simpa using hlen)))]
              refine ver_form3 p m sig l used z w hp hl6 (by omega) hsg hget (by omega) (by omega) ?_
              have : (((sig.drop used).length : Int)) ≠ (68 + (l : Int)) * 16 := by
                intro h
                apply hlen
                have h2 : (((sig.drop used).length : Int)) = (((68 + l) * 16 : Nat) : Int) := by rw [h]; push_cast; rfl
                exact_mod_cast h2
              simp only [bne_iff_ne, ne_eq]
              exact this
      · have HB := Lib.hid (ver_get (p := p) hh hlong hg)
        obtain ⟨e, he⟩ : ∃ e, (getInt sig).2.2 = e := ⟨_, rfl⟩
        have h3 := get_used_zero (b := sig) (n := (getInt sig).1) (used := (getInt sig).2.1) (e := e) (by rw [← he]) (by rw [← he]; exact hg)
        have hget : getInt sig = (0, 0, e) := by rw [← h3.1]; conv => lhs; rw [show getInt sig = ((getInt sig).1, (getInt sig).2.1, (getInt sig).2.2) from rfl, h3.2.1, he]
        have HG := Lib.hid hget
        rw [he] at hg HB
        have hne : ((e : Int) != 0) = true := by simp; omega
        clear hh h3 hget he
        go_enter Tryd.func18, Tryd.ntmps18
        have hb := Below.refl w.heap.size w
        have Z1 : Hid (0 < ([Value.int .i64 0] : List Value).length) := Lib.hid (by decide)
        go_wp2_with (first
          | (((with_reducible refine' wpList_boxa (cs := bv p) 23 (.tmp 0) rfl ?_ ?_ ?_); exact rfl; exact rfl; intro w1 hk4 hN hz1; simp only [Act.put, List.setIfInBounds_toArray, List.set_cons_succ, List.set_cons_zero]); replace hb := hb.trans ((by exact hN : Below _ _ _).mono hb.size); clear hz1)
          | ((go_at_call 21; (with_reducible refine (valid_any (l : Int) _).mono ?_); rintro e w' ⟨rfl, rfl⟩); rw [hv])
          | (((with_reducible refine' wpList_bytes_l (l := sig) (.tmp 27) 9 52 rfl ?_ Tryd.underlying9 Tryd.underlying52 Tryd.underlying5 ?_ ((by unfold maxLen; omega)) ?_); exact rfl; exact rfl; intro v2 w2 r2 hN; simp only [Act.put, List.setIfInBounds_toArray, List.set_cons_succ, List.set_cons_zero]); replace hb := hb.trans ((by exact hN : Below _ _ _).mono hb.size))
          | ((go_at_call 36; (with_reducible refine (getint_any v2 _ sig _ r2).mono ?_); rintro e w' ⟨rfl, rfl⟩); rw [HG.out]; unfold R3; simp only)
          | (((with_reducible refine' wpList_alloc_blk (cs := [.int .i64 0]) 3 rfl ?_ zr_int ?_ ?_); exact rfl; exact rfl; intro w3 hk10 hN hz3; simp only [Act.put, List.setIfInBounds_toArray, List.set_cons_succ, List.set_cons_zero]); have s2 := hb.size; replace hb := hb.trans ((by exact hN : Below _ _ _).mono hb.size); clear hz3)
          | (((with_reducible refine' wpList_set_blk (u := .int .i64 0) 3 (.tmp 10) (.tmp 30) rfl ?_ sz_int ?_ ?_ hk10 (Z1.out) ?_ ?_); exact rfl; exact rfl; exact rfl; exact rfl; intro w4 hk10b hO4 hz4; simp only [Act.put]); clear hz4; replace hb := hb.trans (hO4.below (by omega) hb.size)))
        go_ret2
        exact ⟨by rw [HB.out]; rfl, hb⟩
  · have hv : okH h = false := decide_eq_false hh
    have HB := Lib.hid (ver_height (p := p) (m := m) (sig := sig) hh)
    clear hh
    go_enter Tryd.func18, Tryd.ntmps18
    go_wp2_with (first
      | ((with_reducible refine' wpList_boxa (cs := bv p) 23 (.tmp 0) rfl ?_ ?_ ?_); exact rfl; exact rfl; intro w1 hk4 hN hz1; simp only [Act.put, List.setIfInBounds_toArray, List.set_cons_succ, List.set_cons_zero])
      | ((go_at_call 21; (with_reducible refine (valid_any h _).mono ?_); rintro e w' ⟨rfl, rfl⟩); rw [hv]))
    go_ret2
    exact ⟨by rw [HB.out]; rfl, hN⟩
end Go.Proofs.YtajglgkjpagcjaaDoor.Wi
