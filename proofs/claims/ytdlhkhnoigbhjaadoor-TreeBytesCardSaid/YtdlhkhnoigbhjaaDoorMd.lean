/-
  Tcd, Tgn, Tnm, Ton, Tdp, Ow, Tx, Tb, Mog: my texts of these names, one behind the other. Conditions: those that each law names.
-/
import Derived.Test.YtdlhkhnoigbhjaaDoorMc
import Derived.Test.YtdlhkhnoigbhjaaDoorMa
import Derived.Maps.AppendAt
namespace Go.Proofs.YtdlhkhnoigbhjaaDoor.Pu
theorem sgn_self (x : Int) : sgn x x = 0 := by unfold sgn; rw [if_neg (by omega), if_neg (by omega)]
theorem sgn_ne {x y : Int} (h : x ≠ y) : sgn x y ≠ 0 := by unfold sgn; split <;> (try split) <;> omega
theorem cmp3_at {k n m k' n' m' c : Int} : ∀ {j : Nat} {x y : Int}, [k, n, m][j]? = some x → [k', n', m'][j]? = some y → [k, n, m].take j = [k', n', m'].take j → x ≠ y → orI [sgn k k', sgn n n', sgn m m', c] = sgn x y
  | 0, x, y, h1, h2, _, hne => by
    simp at h1 h2; subst h1; subst h2
    rw [orI, if_pos (sgn_ne hne)]
  | 1, x, y, h1, h2, h, hne => by
    simp at h1 h2 h; subst h1; subst h2; subst h
    rw [orI, sgn_self, if_neg (by simp), orI, if_pos (sgn_ne hne)]
  | 2, x, y, h1, h2, h, hne => by
    simp at h1 h2 h; subst h1; subst h2; obtain ⟨rfl, rfl⟩ := h
    rw [orI, sgn_self, if_neg (by simp), orI, sgn_self, if_neg (by simp), orI, if_pos (sgn_ne hne)]
  | j + 3, x, y, h1, _, _, _ => by simp at h1
theorem cmp3_all {k n m k' n' m' c : Int} (h : [k, n, m].take 3 = [k', n', m'].take 3) : orI [sgn k k', sgn n n', sgn m m', c] = c := by
  simp at h; obtain ⟨rfl, rfl, rfl⟩ := h
  rw [orI, sgn_self, if_neg (by simp), orI, sgn_self, if_neg (by simp), orI, sgn_self, if_neg (by simp), orI, orI]
  split <;> omega
theorem take_next {X Y : List Int} {j : Nat} {x : Int} (h1 : X[j]? = some x) (h2 : Y[j]? = some x) (h : X.take j = Y.take j) : X.take (j + 1) = Y.take (j + 1) := by
  have e1 := (List.getElem?_eq_some_iff.1 h1)
  have e2 := (List.getElem?_eq_some_iff.1 h2)
  obtain ⟨i1, x1⟩ := e1
  obtain ⟨i2, x2⟩ := e2
  rw [List.take_succ_eq_append_getElem i1, List.take_succ_eq_append_getElem i2, x1, x2, h]
end Go.Proofs.YtdlhkhnoigbhjaaDoor.Pu
namespace Go.Proofs.YtdlhkhnoigbhjaaDoor.Wi
open Go Go.RowKit Pu Lb
set_option linter.unusedSimpArgs false
set_option linter.unusedVariables false
set_option maxRecDepth 100000 in
theorem refsign_any (x y : Int) (w : World) : Calls Tryd.prog 52 #[.int .i64 x, .int .i64 y] w fun e w' => e = .returned (.int .i64 (sgn x y)) ∧ w = w' := by
  rcases Int.lt_trichotomy x y with h | h | h
  · have HS := Lib.hid (show sgn x y = -1 by unfold sgn; rw [if_pos h])
    go_enter Tryd.func52, Tryd.ntmps52
    go_wp2_with fail
    go_ret
    exact ⟨by rw [HS.out]; rfl, rfl⟩
  · have HS := Lib.hid (show sgn x y = 0 by unfold sgn; rw [if_neg (by omega), if_neg (by omega)])
    go_enter Tryd.func52, Tryd.ntmps52
    go_wp2_with fail
    go_ret
    exact ⟨by rw [HS.out]; rfl, rfl⟩
  · have HS := Lib.hid (show sgn x y = 1 by unfold sgn; rw [if_neg (by omega), if_pos h])
    go_enter Tryd.func52, Tryd.ntmps52
    go_wp2_with fail
    go_ret
    exact ⟨by rw [HS.out]; rfl, rfl⟩
set_option maxRecDepth 100000 in
set_option maxHeartbeats 1600000 in
theorem refcompare_any : ∀ (t u : Tree) (cs ds : List Value) (w : World), IsT w t cs → IsT w u ds →
    Calls Tryd.prog 20 #[.agg cs.toArray, .agg ds.toArray] w fun e w' => e = .returned (.int .i64 (tcmp t u)) ∧ Below w.heap.size w w' := by
  refine Tree.ind fun k n m ts ih u cs ds w h1 h2 => ?_
  obtain ⟨k', n', m', us⟩ := u
  rw [IsT] at h1 h2
  obtain ⟨v, xs, rfl, hr, hts⟩ := h1
  obtain ⟨v', ys, rfl, hr', hts'⟩ := h2
  have A0 := Lib.hid (show ([.int .i64 k, .int .i64 n, .int .i64 m, v] : List Value)[0]? = some (.int .i64 k) from rfl)
  have A1 := Lib.hid (show ([.int .i64 k, .int .i64 n, .int .i64 m, v] : List Value)[1]? = some (.int .i64 n) from rfl)
  have A2 := Lib.hid (show ([.int .i64 k, .int .i64 n, .int .i64 m, v] : List Value)[2]? = some (.int .i64 m) from rfl)
  have A3 := Lib.hid (show ([.int .i64 k, .int .i64 n, .int .i64 m, v] : List Value)[3]? = some (v) from rfl)
  have C0 := Lib.hid (show ([.int .i64 k', .int .i64 n', .int .i64 m', v'] : List Value)[0]? = some (.int .i64 k') from rfl)
  have C1 := Lib.hid (show ([.int .i64 k', .int .i64 n', .int .i64 m', v'] : List Value)[1]? = some (.int .i64 n') from rfl)
  have C2 := Lib.hid (show ([.int .i64 k', .int .i64 n', .int .i64 m', v'] : List Value)[2]? = some (.int .i64 m') from rfl)
  have C3 := Lib.hid (show ([.int .i64 k', .int .i64 n', .int .i64 m', v'] : List Value)[3]? = some (v') from rfl)
  have IH := Lib.hid ih
  have HR := Lib.hid (show tcmp (.mk k n m ts) (.mk k' n' m' us) = orI [sgn k k', sgn n n', sgn m m', tcmps ts us] by rw [tcmp])
  have XL := Lib.hid hts.len
  have YL := Lib.hid hts'.len
  have hm1 := hr.len
  have hm2 := hr'.len
  unfold maxLen at hm1 hm2
  clear ih
  go_enter Tryd.func20, Tryd.ntmps20
  have hb := Below.refl w.heap.size w
  go_upto_region 1 with (first
    | (((with_reducible refine' wpList_boxa (cs := [.int .i64 k, .int .i64 n, .int .i64 m, v]) 25 (.tmp 0) rfl ?_ ?_ ?_); exact rfl; exact rfl; intro w1 kA hN hz1; simp only [Act.put, List.setIfInBounds_toArray, List.set_cons_succ, List.set_cons_zero]); replace hb := hb.trans ((by exact hN : Below _ _ _).mono hb.size); have y1 := hb.size; have lA := kA.lt)
    | (((with_reducible refine' wpList_boxa (cs := [.int .i64 k', .int .i64 n', .int .i64 m', v']) 25 (.tmp 1) rfl ?_ ?_ ?_); exact rfl; exact rfl; intro w2 kB hN hz2; simp only [Act.put, List.setIfInBounds_toArray, List.set_cons_succ, List.set_cons_zero]); replace kA := kA.below hN lA; replace hb := hb.trans ((by exact hN : Below _ _ _).mono hb.size)))
  obtain ⟨BA, hBA⟩ : ∃ B, w.heap.size = B := ⟨_, rfl⟩
  obtain ⟨BB, hBB⟩ : ∃ B, w1.heap.size = B := ⟨_, rfl⟩
  rw [hBB] at kB ⊢
  have r1 := hr.below hb
  have r2 := hr'.below hb
  have s1 := IsTs.below hb hts
  have s2 := IsTs.below hb hts'
  rw [hBA] at kA ⊢
  have HBA := Lib.hid hBA
  clear hr hr' hts hts' hBA hBB hz1 hz2 hN
  go_upto_region 2 with (first
    | ((with_reducible refine' wpList_field_blk (j := 0) (.tmp 2) 25 0 rfl ?_ fo_node_0 ?_ rfl ?_); exact rfl; exact rfl; simp only [Act.put, List.setIfInBounds_toArray, List.set_cons_succ, List.set_cons_zero]) | ((with_reducible refine' wpList_field_blk (j := 1) (.tmp 2) 25 1 rfl ?_ fo_node_1 ?_ rfl ?_); exact rfl; exact rfl; simp only [Act.put, List.setIfInBounds_toArray, List.set_cons_succ, List.set_cons_zero]) | ((with_reducible refine' wpList_field_blk (j := 2) (.tmp 2) 25 2 rfl ?_ fo_node_2 ?_ rfl ?_); exact rfl; exact rfl; simp only [Act.put, List.setIfInBounds_toArray, List.set_cons_succ, List.set_cons_zero])
    | ((with_reducible refine' wpList_load_blk (.tmp 10) 3 rfl ?_ ld_int ?_ kA (A0.out) ?_); exact rfl; exact rfl; simp only [Act.put, List.setIfInBounds_toArray, List.set_cons_succ, List.set_cons_zero]) | ((with_reducible refine' wpList_load_blk (.tmp 12) 3 rfl ?_ ld_int ?_ kA (A1.out) ?_); exact rfl; exact rfl; simp only [Act.put, List.setIfInBounds_toArray, List.set_cons_succ, List.set_cons_zero]) | ((with_reducible refine' wpList_load_blk (.tmp 14) 3 rfl ?_ ld_int ?_ kA (A2.out) ?_); exact rfl; exact rfl; simp only [Act.put, List.setIfInBounds_toArray, List.set_cons_succ, List.set_cons_zero])
    | (((with_reducible refine' wpList_build_cs (cs := iv [k, n, m]) rfl ?_ Tryd.underlying22 inf_int ?_ ?_ ?_ ?_ ?_ ?_); exact rfl; exact rfl; omega; omega; exact rfl; exact iv_ones _; intro vx w3 rx hN; simp only [Act.put, List.setIfInBounds_toArray, List.set_cons_succ, List.set_cons_zero]); replace s1 := IsTs.below hN s1; replace s2 := IsTs.below hN s2; replace hb := hb.trans ((by exact hN : Below _ _ _).mono hb.size); (try replace r1 := Rd.below r1 hN); (try replace r2 := Rd.below r2 hN); (try replace kA := Blk.below kA hN (Blk.lt kA)); (try replace kB := Blk.below kB hN (Blk.lt kB))))
  go_upto_region 4 with (first
    | ((with_reducible refine' wpList_field_blk (j := 0) (.tmp 3) 25 0 rfl ?_ fo_node_0 ?_ rfl ?_); exact rfl; exact rfl; simp only [Act.put, List.setIfInBounds_toArray, List.set_cons_succ, List.set_cons_zero]) | ((with_reducible refine' wpList_field_blk (j := 1) (.tmp 3) 25 1 rfl ?_ fo_node_1 ?_ rfl ?_); exact rfl; exact rfl; simp only [Act.put, List.setIfInBounds_toArray, List.set_cons_succ, List.set_cons_zero]) | ((with_reducible refine' wpList_field_blk (j := 2) (.tmp 3) 25 2 rfl ?_ fo_node_2 ?_ rfl ?_); exact rfl; exact rfl; simp only [Act.put, List.setIfInBounds_toArray, List.set_cons_succ, List.set_cons_zero])
    | ((with_reducible refine' wpList_load_blk (.tmp 17) 3 rfl ?_ ld_int ?_ kB (C0.out) ?_); exact rfl; exact rfl; simp only [Act.put, List.setIfInBounds_toArray, List.set_cons_succ, List.set_cons_zero]) | ((with_reducible refine' wpList_load_blk (.tmp 19) 3 rfl ?_ ld_int ?_ kB (C1.out) ?_); exact rfl; exact rfl; simp only [Act.put, List.setIfInBounds_toArray, List.set_cons_succ, List.set_cons_zero]) | ((with_reducible refine' wpList_load_blk (.tmp 21) 3 rfl ?_ ld_int ?_ kB (C2.out) ?_); exact rfl; exact rfl; simp only [Act.put, List.setIfInBounds_toArray, List.set_cons_succ, List.set_cons_zero])
    | (((with_reducible refine' wpList_build_cs (cs := iv [k', n', m']) rfl ?_ Tryd.underlying22 inf_int ?_ ?_ ?_ ?_ ?_ ?_); exact rfl; exact rfl; omega; omega; exact rfl; exact iv_ones _; intro vy w4 ry hN; simp only [Act.put, List.setIfInBounds_toArray, List.set_cons_succ, List.set_cons_zero]); replace s1 := IsTs.below hN s1; replace s2 := IsTs.below hN s2; replace hb := hb.trans ((by exact hN : Below _ _ _).mono hb.size); (try replace rx := Rd.below rx hN); (try replace r1 := Rd.below r1 hN); (try replace r2 := Rd.below r2 hN); (try replace kA := Blk.below kA hN (Blk.lt kA)); (try replace kB := Blk.below kB hN (Blk.lt kB))))
  obtain ⟨w0, rfl⟩ : ∃ w0 : World, w0 = w4 := ⟨_, rfl⟩
  have lA := kA.lt
  have lB := kB.lt
  go_loopw [7] (fun i wr => ∃ j : Nat, j ≤ 3 ∧ i = .int .i64 (j : Int) ∧ Hid ([k, n, m].take j = [k', n', m'].take j) ∧ ∃ nq, wr = w0.drewN nq) (fun i _ => 3 - (intOf i).toNat)
  case atStart => exact ⟨0, by omega, rfl, Lib.hid rfl, 0, rfl⟩
  case round =>
    obtain ⟨j, hj, rfl, HE, nq0, rfl⟩ := hrel
    have qx := rx.drewN nq0
    have qy := ry.drewN nq0
    by_cases hlt : j < 3
    · obtain ⟨x, hx⟩ : ∃ x, [k, n, m][j]? = some x := ⟨_, List.getElem?_eq_getElem (by simpa using hlt)⟩
      obtain ⟨y, hy⟩ : ∃ y, [k', n', m'][j]? = some y := ⟨_, List.getElem?_eq_getElem (by simpa using hlt)⟩
      have CX := Lib.hid (ivl_at hx)
      have CY := Lib.hid (ivl_at hy)
      by_cases he : x = y
      · subst he
        have TN := Lib.hid (take_next hx hy HE.out)
        clear hx hy
        go_wp2_with ((refine wp_region_quiet_lit (by kernel_rfl) (by kernel_rfl) ?_; (repeat (first | ((with_reducible refine' wpQuiet_at1_rd (.tmp 28) (.tmp 29) 22 rfl ?_ Tryd.underlying22 sz_int ?_ qx (j) ?_ ?_ ?_); exact rfl; exact rfl; (show (_ : Int) = _; omega); omega; simp only [Act.put, List.setIfInBounds_toArray, List.set_cons_succ, List.set_cons_zero]) | ((with_reducible refine' wpQuiet_load_rd (fun _ h => h) (.tmp 30) 3 rfl ?_ ld_int ?_ qx (CX.out) ?_); exact rfl; exact rfl; simp only [Act.put, List.setIfInBounds_toArray, List.set_cons_succ, List.set_cons_zero]) | ((with_reducible refine' wpQuiet_at1_rd (.tmp 32) (.tmp 33) 22 rfl ?_ Tryd.underlying22 sz_int ?_ qy (j) ?_ ?_ ?_); exact rfl; exact rfl; (show (_ : Int) = _; omega); omega; simp only [Act.put, List.setIfInBounds_toArray, List.set_cons_succ, List.set_cons_zero]) | ((with_reducible refine' wpQuiet_load_rd (fun _ h => h) (.tmp 34) 3 rfl ?_ ld_int ?_ qy (CY.out) ?_); exact rfl; exact rfl; simp only [Act.put, List.setIfInBounds_toArray, List.set_cons_succ, List.set_cons_zero]) | go_big_quiet_step (fail))); refine wpQuiet_nil ?_; intro _ hw'; obtain ⟨nq, hw''⟩ := hw'; subst hw''))
        go_roundw
        case rel => exact ⟨j + 1, by omega, by go_num, TN, nq0 + nq, by first | rfl | rw [World.drewN_drewN]⟩
        case measure => simp [intOf]; omega
      · have HS := Lib.hid (cmp3_at (c := tcmps ts us) hx hy HE.out he)
        have hne : (x != y) = true := by rw [bne_iff_ne]; exact he
        have LJ := Lib.hid (show decide ((j : Int) < 3) = true by rw [decide_eq_true_iff]; omega)
        obtain ⟨s, hs⟩ : ∃ s, sgn x y = s := ⟨_, rfl⟩
        have HSG := Lib.hid hs
        rw [hs] at HS
        clear hx hy he hs
        go_upto_region 7 with ((refine wp_region_quiet_lit (by kernel_rfl) (by kernel_rfl) ?_; (repeat (first | ((with_reducible refine' wpQuiet_at1_rd (.tmp 28) (.tmp 29) 22 rfl ?_ Tryd.underlying22 sz_int ?_ qx (j) ?_ ?_ ?_); exact rfl; exact rfl; (show (_ : Int) = _; omega); omega; simp only [Act.put, List.setIfInBounds_toArray, List.set_cons_succ, List.set_cons_zero]) | ((with_reducible refine' wpQuiet_load_rd (fun _ h => h) (.tmp 30) 3 rfl ?_ ld_int ?_ qx (CX.out) ?_); exact rfl; exact rfl; simp only [Act.put, List.setIfInBounds_toArray, List.set_cons_succ, List.set_cons_zero]) | ((with_reducible refine' wpQuiet_at1_rd (.tmp 32) (.tmp 33) 22 rfl ?_ Tryd.underlying22 sz_int ?_ qy (j) ?_ ?_ ?_); exact rfl; exact rfl; (show (_ : Int) = _; omega); omega; simp only [Act.put, List.setIfInBounds_toArray, List.set_cons_succ, List.set_cons_zero]) | ((with_reducible refine' wpQuiet_load_rd (fun _ h => h) (.tmp 34) 3 rfl ?_ ld_int ?_ qy (CY.out) ?_); exact rfl; exact rfl; simp only [Act.put, List.setIfInBounds_toArray, List.set_cons_succ, List.set_cons_zero]) | go_big_quiet_step (fail))); refine wpQuiet_nil ?_; intro _ hw'; obtain ⟨nq, hw''⟩ := hw'; subst hw''))
        have qx2 := qx.drewN nq
        have qy2 := qy.drewN nq
        obtain ⟨ws, hws⟩ : ∃ ws : World, (w0.drewN nq0).drewN nq = ws := ⟨_, rfl⟩
        have hbs : Below w.heap.size w ws := by rw [← hws]; exact below_drewN (below_drewN hb _) _
        rw [hws] at qx2 qy2 ⊢
        rw [LJ.out]
        clear hws

        refine wp_region_mono (w := ws) 9 (fun i => match i with | 0 => fun (vv : Value) (ww : World) => vv = vx | 1 => fun (vv : Value) (ww : World) => vv = .int .i64 (j : Int) | 2 => fun (vv : Value) (ww : World) => vv = ep vx j | 3 => fun (vv : Value) (ww : World) => vv = .int .i64 x | 4 => fun (vv : Value) (ww : World) => vv = vy | 5 => fun (vv : Value) (ww : World) => vv = .int .i64 (j : Int) | 6 => fun (vv : Value) (ww : World) => vv = ep vy j | 7 => fun (vv : Value) (ww : World) => vv = .int .i64 y | 8 => fun (vv : Value) (ww : World) => vv = .int .i64 s | _ => fun _ _ => True) (by kernel_rfl) (by kernel_rfl) ?_ ?_ ?_
        · intro i vv w1 w2 h hb
          rcases i with _ | _ | _ | _ | _ | _ | _ | _ | _ | i
          all_goals first | exact h | exact Rd.below h hb | exact own_below h hb | (obtain ⟨B, h1, h2, h3⟩ := h; exact ⟨B, h1, h2, Blk.below h3 hb (Blk.lt h3)⟩) | trivial
        · intro i o hi ho us wz hl hbz hd
          obtain ⟨u0, u1, u2, u3, u4, u5, u6, u7, u8, rfl⟩ := len9 hl
          rcases i with _ | _ | _ | _ | _ | _ | _ | _ | _ | i
          · simp only [List.getElem?_cons_succ, List.getElem?_cons_zero, Option.some.injEq] at ho; subst ho; clear hi hl
            clear hd
            simp only [List.take_succ_cons, List.take_zero, List.drop_succ_cons, List.drop_zero, List.map_cons, List.map_nil, puts, Act.put, List.setIfInBounds_toArray, List.set_cons_succ, List.set_cons_zero]
            go_wp2_with (fail)
            exact ⟨rfl, _, rfl, Below.refl _ _, rfl⟩
          · simp only [List.getElem?_cons_succ, List.getElem?_cons_zero, Option.some.injEq] at ho; subst ho; clear hi hl
            clear hd
            simp only [List.take_succ_cons, List.take_zero, List.drop_succ_cons, List.drop_zero, List.map_cons, List.map_nil, puts, Act.put, List.setIfInBounds_toArray, List.set_cons_succ, List.set_cons_zero]
            go_wp2_with (fail)
            exact ⟨rfl, _, rfl, Below.refl _ _, rfl⟩
          · simp only [List.getElem?_cons_succ, List.getElem?_cons_zero, Option.some.injEq] at ho; subst ho; clear hi hl
            have s0 : (fun (vv : Value) (ww : World) => vv = vx) u0 wz := hd 0 (by kernel_rfl)
            simp only at s0
            obtain rfl := s0
            have s1 : (fun (vv : Value) (ww : World) => vv = .int .i64 (j : Int)) u1 wz := hd 1 (by kernel_rfl)
            simp only at s1
            obtain rfl := s1
            clear hd
            simp only [List.take_succ_cons, List.take_zero, List.drop_succ_cons, List.drop_zero, List.map_cons, List.map_nil, puts, Act.put, List.setIfInBounds_toArray, List.set_cons_succ, List.set_cons_zero]
            go_wp2_with (((with_reducible refine' wpList_at1_rd (.tmp 37) (.tmp 38) 22 rfl ?_ Tryd.underlying22 sz_int ?_ qx2 (j) ?_ ?_ ?_); exact rfl; exact rfl; (show (_ : Int) = _; omega); omega; simp only [Act.put, List.setIfInBounds_toArray, List.set_cons_succ, List.set_cons_zero]))
            exact ⟨rfl, _, rfl, Below.refl _ _, rfl⟩
          · simp only [List.getElem?_cons_succ, List.getElem?_cons_zero, Option.some.injEq] at ho; subst ho; clear hi hl
            have s2 : (fun (vv : Value) (ww : World) => vv = ep vx j) u2 wz := hd 2 (by kernel_rfl)
            simp only at s2
            obtain rfl := s2
            clear hd
            simp only [List.take_succ_cons, List.take_zero, List.drop_succ_cons, List.drop_zero, List.map_cons, List.map_nil, puts, Act.put, List.setIfInBounds_toArray, List.set_cons_succ, List.set_cons_zero]
            go_wp2_with (((with_reducible refine' wpList_load_rd (.tmp 39) 3 rfl ?_ ld_int ?_ (qx2.below hbz) (CX.out) ?_); exact rfl; exact rfl; simp only [Act.put, List.setIfInBounds_toArray, List.set_cons_succ, List.set_cons_zero]))
            exact ⟨rfl, _, rfl, Below.refl _ _, rfl⟩
          · simp only [List.getElem?_cons_succ, List.getElem?_cons_zero, Option.some.injEq] at ho; subst ho; clear hi hl
            clear hd
            simp only [List.take_succ_cons, List.take_zero, List.drop_succ_cons, List.drop_zero, List.map_cons, List.map_nil, puts, Act.put, List.setIfInBounds_toArray, List.set_cons_succ, List.set_cons_zero]
            go_wp2_with (fail)
            exact ⟨rfl, _, rfl, Below.refl _ _, rfl⟩
          · simp only [List.getElem?_cons_succ, List.getElem?_cons_zero, Option.some.injEq] at ho; subst ho; clear hi hl
            clear hd
            simp only [List.take_succ_cons, List.take_zero, List.drop_succ_cons, List.drop_zero, List.map_cons, List.map_nil, puts, Act.put, List.setIfInBounds_toArray, List.set_cons_succ, List.set_cons_zero]
            go_wp2_with (fail)
            exact ⟨rfl, _, rfl, Below.refl _ _, rfl⟩
          · simp only [List.getElem?_cons_succ, List.getElem?_cons_zero, Option.some.injEq] at ho; subst ho; clear hi hl
            have s4 : (fun (vv : Value) (ww : World) => vv = vy) u4 wz := hd 4 (by kernel_rfl)
            simp only at s4
            obtain rfl := s4
            have s5 : (fun (vv : Value) (ww : World) => vv = .int .i64 (j : Int)) u5 wz := hd 5 (by kernel_rfl)
            simp only at s5
            obtain rfl := s5
            clear hd
            simp only [List.take_succ_cons, List.take_zero, List.drop_succ_cons, List.drop_zero, List.map_cons, List.map_nil, puts, Act.put, List.setIfInBounds_toArray, List.set_cons_succ, List.set_cons_zero]
            go_wp2_with (((with_reducible refine' wpList_at1_rd (.tmp 41) (.tmp 42) 22 rfl ?_ Tryd.underlying22 sz_int ?_ qy2 (j) ?_ ?_ ?_); exact rfl; exact rfl; (show (_ : Int) = _; omega); omega; simp only [Act.put, List.setIfInBounds_toArray, List.set_cons_succ, List.set_cons_zero]))
            exact ⟨rfl, _, rfl, Below.refl _ _, rfl⟩
          · simp only [List.getElem?_cons_succ, List.getElem?_cons_zero, Option.some.injEq] at ho; subst ho; clear hi hl
            have s6 : (fun (vv : Value) (ww : World) => vv = ep vy j) u6 wz := hd 6 (by kernel_rfl)
            simp only at s6
            obtain rfl := s6
            clear hd
            simp only [List.take_succ_cons, List.take_zero, List.drop_succ_cons, List.drop_zero, List.map_cons, List.map_nil, puts, Act.put, List.setIfInBounds_toArray, List.set_cons_succ, List.set_cons_zero]
            go_wp2_with (((with_reducible refine' wpList_load_rd (.tmp 43) 3 rfl ?_ ld_int ?_ (qy2.below hbz) (CY.out) ?_); exact rfl; exact rfl; simp only [Act.put, List.setIfInBounds_toArray, List.set_cons_succ, List.set_cons_zero]))
            exact ⟨rfl, _, rfl, Below.refl _ _, rfl⟩
          · simp only [List.getElem?_cons_succ, List.getElem?_cons_zero, Option.some.injEq] at ho; subst ho; clear hi hl
            have s3 : (fun (vv : Value) (ww : World) => vv = .int .i64 x) u3 wz := hd 3 (by kernel_rfl)
            simp only at s3
            obtain rfl := s3
            have s7 : (fun (vv : Value) (ww : World) => vv = .int .i64 y) u7 wz := hd 7 (by kernel_rfl)
            simp only at s7
            obtain rfl := s7
            clear hd
            simp only [List.take_succ_cons, List.take_zero, List.drop_succ_cons, List.drop_zero, List.map_cons, List.map_nil, puts, Act.put, List.setIfInBounds_toArray, List.set_cons_succ, List.set_cons_zero]
            go_wp2_with (((go_at_call 52; (with_reducible refine (refsign_any x y _).mono ?_); rintro e w' ⟨rfl, rfl⟩); rw [HSG.out]))
            exact ⟨rfl, _, rfl, Below.refl _ _, rfl⟩
          · omega
        intro us wz hl hbz hS
        obtain ⟨u0, u1, u2, u3, u4, u5, u6, u7, u8, rfl⟩ := len9 hl
        have s8 : (fun (vv : Value) (ww : World) => vv = .int .i64 s) u8 wz := hS 8 (by omega)
        simp only at s8
        obtain rfl := s8
        clear hS hl
        simp only [List.take_succ_cons, List.take_zero, List.drop_succ_cons, List.drop_zero, List.map_cons, List.map_nil, puts, Act.put, List.setIfInBounds_toArray, List.set_cons_succ, List.set_cons_zero]
        go_wp2_with fail
        refine onlyN ?_
        go_wp2_with fail
        go_ret
        exact ⟨by rw [HR.out, HS.out]; rfl, hbs.trans (hbz.mono hbs.size)⟩
    · obtain rfl : j = 3 := by omega
      have HT := Lib.hid (HR.out.trans (cmp3_all (c := tcmps ts us) HE.out))
      obtain ⟨w5, hw5⟩ : ∃ w5 : World, w0.drewN nq0 = w5 := ⟨_, rfl⟩
      have hb5 : Below w.heap.size w w5 := by rw [← hw5]; exact below_drewN hb _
      have t1 : IsTs w5 ts xs := by rw [← hw5]; exact s1.drewN _
      have t2 : IsTs w5 us ys := by rw [← hw5]; exact s2.drewN _
      have p1 : Rd w5 4 v ts.length xs := by rw [← hw5]; exact r1.drewN _
      have p2 : Rd w5 4 v' us.length ys := by rw [← hw5]; exact r2.drewN _
      have mA : Blk w5 BA 25 [.int .i64 k, .int .i64 n, .int .i64 m, v] := by rw [← hw5]; exact kA.drewN _
      have mB : Blk w5 BB 25 [.int .i64 k', .int .i64 n', .int .i64 m', v'] := by rw [← hw5]; exact kB.drewN _
      rw [hw5]
      clear hw5 s1 s2 r1 r2 kA kB hb rx ry qx qy lA lB
      have lA := mA.lt
      have lB := mB.lt
      have T1 := Lib.hid t1
      have T2 := Lib.hid t2
      clear t1 t2
      go_upto_region 9 with fail
      go_loopw [8] (fun i wr => ∃ j : Nat, j ≤ ts.length ∧ j ≤ us.length ∧ i = .int .i64 (j : Int) ∧ Hid (∀ (i : Nat) (t u : Tree), i < j → ts[i]? = some t → us[i]? = some u → tcmp t u = 0) ∧ Below w.heap.size w wr ∧ Below w5.heap.size w5 wr) (fun i _ => ts.length - (intOf i).toNat)
      case atStart => exact ⟨0, Nat.zero_le _, Nat.zero_le _, rfl, Lib.hid (fun i t u hi => by omega), hb5, Below.refl _ _⟩
      case round =>
        obtain ⟨j, hj1, hj2, rfl, HZ, hbw, hbr⟩ := hrel
        have g1 := p1.below hbr
        have g2 := p2.below hbr
        have nA := mA.below hbr lA
        have nB := mB.below hbr lB
        have oA := nA.lt
        have oB := nB.lt
        by_cases hlt1 : j < ts.length
        · have L1 := Lib.hid (show decide ((j : Int) < (ts.length : Int)) = true by rw [decide_eq_true_iff]; omega)
          by_cases hlt2 : j < us.length
          · have L2 := Lib.hid (show decide ((j : Int) < (us.length : Int)) = true by rw [decide_eq_true_iff]; omega)
            obtain ⟨t, ht⟩ := kid_at hlt1
            obtain ⟨u, hu⟩ := kid_at hlt2
            have hT := IsT.below hbr (IsTs.get T1.out ht)
            have hU := IsT.below hbr (IsTs.get T2.out hu)
            obtain ⟨cs, hcs⟩ : ∃ cs, (xs.drop (j * 4)).take 4 = cs := ⟨_, rfl⟩
            rw [hcs] at hT
            obtain ⟨ds, hds⟩ : ∃ ds, (ys.drop (j * 4)).take 4 = ds := ⟨_, rfl⟩
            rw [hds] at hU
            have HC := Lib.hid hcs
            have HD := Lib.hid hds
            have BD := Lib.hid (show j * 4 + 4 ≤ xs.length by rw [XL.out]; omega)
            have BE := Lib.hid (show j * 4 + 4 ≤ ys.length by rw [YL.out]; omega)
            have hmem := List.mem_of_getElem? ht
            have HN := Lib.hid (fun (h : tcmp t u = 0) => (show ∀ (i : Nat) (t u : Tree), i < j + 1 → ts[i]? = some t → us[i]? = some u → tcmp t u = 0 by
              intro i a b hi ha hb
              rcases Nat.lt_or_ge i j with h2 | h2
              · exact HZ.out i a b h2 ha hb
              · obtain rfl : i = j := by omega
                rw [ht] at ha
                rw [hu] at hb
                cases ha; cases hb; exact h))
            have HS := Lib.hid (fun (h : tcmp t u ≠ 0) => (show tcmps ts us = tcmp t u by
              rw [tcmps_skip (by omega) (by omega) HZ.out, drop_kid ht, drop_kid hu, tcmps, if_pos h]))
            clear hcs hds ht hu
            obtain ⟨c, hc⟩ : ∃ c, tcmp t u = c := ⟨_, rfl⟩
            rw [hc] at HN HS
            have HCC := Lib.hid hc
            clear hc
            go_upto_region 11 with (first | (rw [L1.out]) | (rw [L2.out]) | ((with_reducible refine' wpList_field_blk (j := 3) (.tmp 2) 25 3 rfl ?_ fo_node_3 ?_ rfl ?_); exact rfl; exact rfl; simp only [Act.put, List.setIfInBounds_toArray, List.set_cons_succ, List.set_cons_zero]) | ((with_reducible refine' wpList_field_blk (j := 3) (.tmp 3) 25 3 rfl ?_ fo_node_3 ?_ rfl ?_); exact rfl; exact rfl; simp only [Act.put, List.setIfInBounds_toArray, List.set_cons_succ, List.set_cons_zero]) | ((with_reducible refine' wpList_load_blk (.tmp 47) 23 rfl ?_ ld_nds ?_ nA (A3.out) ?_); exact rfl; exact rfl; simp only [Act.put, List.setIfInBounds_toArray, List.set_cons_succ, List.set_cons_zero]) | ((with_reducible refine' wpList_load_blk (.tmp 53) 23 rfl ?_ ld_nds ?_ nB (C3.out) ?_); exact rfl; exact rfl; simp only [Act.put, List.setIfInBounds_toArray, List.set_cons_succ, List.set_cons_zero]) | ((with_reducible refine' wpList_len_rd (.tmp 48) 23 rfl ?_ Tryd.underlying23 ?_ g1 ?_); exact rfl; exact rfl; simp only [Act.put, List.setIfInBounds_toArray, List.set_cons_succ, List.set_cons_zero]) | ((with_reducible refine' wpList_len_rd (.tmp 54) 23 rfl ?_ Tryd.underlying23 ?_ g2 ?_); exact rfl; exact rfl; simp only [Act.put, List.setIfInBounds_toArray, List.set_cons_succ, List.set_cons_zero]))
            obtain ⟨wo, rfl⟩ : ∃ wo : World, wo = wr := ⟨_, rfl⟩

            refine wp_region_mono (w := wo) 11 (fun i => match i with | 0 => fun (vv : Value) (ww : World) => vv = .pointer (some ⟨BA, 3, none⟩) | 1 => fun (vv : Value) (ww : World) => vv = v | 2 => fun (vv : Value) (ww : World) => vv = .int .i64 (j : Int) | 3 => fun (vv : Value) (ww : World) => vv = ep v (j * 4) | 4 => fun (vv : Value) (ww : World) => vv = .agg cs.toArray | 5 => fun (vv : Value) (ww : World) => vv = .pointer (some ⟨BB, 3, none⟩) | 6 => fun (vv : Value) (ww : World) => vv = v' | 7 => fun (vv : Value) (ww : World) => vv = .int .i64 (j : Int) | 8 => fun (vv : Value) (ww : World) => vv = ep v' (j * 4) | 9 => fun (vv : Value) (ww : World) => vv = .agg ds.toArray | 10 => fun (vv : Value) (ww : World) => vv = .int .i64 c | _ => fun _ _ => True) (by kernel_rfl) (by kernel_rfl) ?_ ?_ ?_
            · intro i vv w1 w2 h hb
              rcases i with _ | _ | _ | _ | _ | _ | _ | _ | _ | _ | _ | i
              all_goals first | exact h | exact Rd.below h hb | exact own_below h hb | (obtain ⟨B, h1, h2, h3⟩ := h; exact ⟨B, h1, h2, Blk.below h3 hb (Blk.lt h3)⟩) | trivial
            · intro i o hi ho us wz hl hbz hd
              obtain ⟨u0, u1, u2, u3, u4, u5, u6, u7, u8, u9, u10, rfl⟩ := len11 hl
              rcases i with _ | _ | _ | _ | _ | _ | _ | _ | _ | _ | _ | i
              · simp only [List.getElem?_cons_succ, List.getElem?_cons_zero, Option.some.injEq] at ho; subst ho; clear hi hl
                clear hd
                simp only [List.take_succ_cons, List.take_zero, List.drop_succ_cons, List.drop_zero, List.map_cons, List.map_nil, puts, Act.put, List.setIfInBounds_toArray, List.set_cons_succ, List.set_cons_zero]
                go_wp2_with (((with_reducible refine' wpList_field_blk (j := 3) (.tmp 2) 25 3 rfl ?_ fo_node_3 ?_ rfl ?_); exact rfl; exact rfl; simp only [Act.put, List.setIfInBounds_toArray, List.set_cons_succ, List.set_cons_zero]))
                exact ⟨rfl, _, rfl, Below.refl _ _, rfl⟩
              · simp only [List.getElem?_cons_succ, List.getElem?_cons_zero, Option.some.injEq] at ho; subst ho; clear hi hl
                have s0 : (fun (vv : Value) (ww : World) => vv = .pointer (some ⟨BA, 3, none⟩)) u0 wz := hd 0 (by kernel_rfl)
                simp only at s0
                obtain rfl := s0
                clear hd
                simp only [List.take_succ_cons, List.take_zero, List.drop_succ_cons, List.drop_zero, List.map_cons, List.map_nil, puts, Act.put, List.setIfInBounds_toArray, List.set_cons_succ, List.set_cons_zero]
                go_wp2_with (((with_reducible refine' wpList_load_blk (.tmp 60) 23 rfl ?_ ld_nds ?_ (nA.below hbz oA) (A3.out) ?_); exact rfl; exact rfl; simp only [Act.put, List.setIfInBounds_toArray, List.set_cons_succ, List.set_cons_zero]))
                exact ⟨rfl, _, rfl, Below.refl _ _, rfl⟩
              · simp only [List.getElem?_cons_succ, List.getElem?_cons_zero, Option.some.injEq] at ho; subst ho; clear hi hl
                clear hd
                simp only [List.take_succ_cons, List.take_zero, List.drop_succ_cons, List.drop_zero, List.map_cons, List.map_nil, puts, Act.put, List.setIfInBounds_toArray, List.set_cons_succ, List.set_cons_zero]
                go_wp2_with (fail)
                exact ⟨rfl, _, rfl, Below.refl _ _, rfl⟩
              · simp only [List.getElem?_cons_succ, List.getElem?_cons_zero, Option.some.injEq] at ho; subst ho; clear hi hl
                have s1 : (fun (vv : Value) (ww : World) => vv = v) u1 wz := hd 1 (by kernel_rfl)
                simp only at s1
                obtain rfl := s1
                have s2 : (fun (vv : Value) (ww : World) => vv = .int .i64 (j : Int)) u2 wz := hd 2 (by kernel_rfl)
                simp only at s2
                obtain rfl := s2
                clear hd
                simp only [List.take_succ_cons, List.take_zero, List.drop_succ_cons, List.drop_zero, List.map_cons, List.map_nil, puts, Act.put, List.setIfInBounds_toArray, List.set_cons_succ, List.set_cons_zero]
                go_wp2_with (((with_reducible refine' wpList_at_rd (.tmp 61) (.tmp 62) 23 rfl ?_ Tryd.underlying23 sz_node ?_ g1 (by decide) (j) ?_ ?_ ?_); exact rfl; exact rfl; (show (_ : Int) = _; omega); omega; simp only [Act.put, List.setIfInBounds_toArray, List.set_cons_succ, List.set_cons_zero]))
                exact ⟨rfl, _, rfl, Below.refl _ _, rfl⟩
              · simp only [List.getElem?_cons_succ, List.getElem?_cons_zero, Option.some.injEq] at ho; subst ho; clear hi hl
                have s3 : (fun (vv : Value) (ww : World) => vv = ep v (j * 4)) u3 wz := hd 3 (by kernel_rfl)
                simp only at s3
                obtain rfl := s3
                clear hd
                simp only [List.take_succ_cons, List.take_zero, List.drop_succ_cons, List.drop_zero, List.map_cons, List.map_nil, puts, Act.put, List.setIfInBounds_toArray, List.set_cons_succ, List.set_cons_zero]
                go_wp2_with (((with_reducible refine' wpList_load_st (cp := cs) (.tmp 63) 25 rfl ?_ Tryd.underlying25 ?_ sz_node ?_ (g1.below hbz) ?_ ?_ HC.out ?_); exact rfl; exact rfl; exact rfl; exact BD.out; decide; simp only [Act.put, List.setIfInBounds_toArray, List.set_cons_succ, List.set_cons_zero]))
                exact ⟨rfl, _, rfl, Below.refl _ _, rfl⟩
              · simp only [List.getElem?_cons_succ, List.getElem?_cons_zero, Option.some.injEq] at ho; subst ho; clear hi hl
                clear hd
                simp only [List.take_succ_cons, List.take_zero, List.drop_succ_cons, List.drop_zero, List.map_cons, List.map_nil, puts, Act.put, List.setIfInBounds_toArray, List.set_cons_succ, List.set_cons_zero]
                go_wp2_with (((with_reducible refine' wpList_field_blk (j := 3) (.tmp 3) 25 3 rfl ?_ fo_node_3 ?_ rfl ?_); exact rfl; exact rfl; simp only [Act.put, List.setIfInBounds_toArray, List.set_cons_succ, List.set_cons_zero]))
                exact ⟨rfl, _, rfl, Below.refl _ _, rfl⟩
              · simp only [List.getElem?_cons_succ, List.getElem?_cons_zero, Option.some.injEq] at ho; subst ho; clear hi hl
                have s5 : (fun (vv : Value) (ww : World) => vv = .pointer (some ⟨BB, 3, none⟩)) u5 wz := hd 5 (by kernel_rfl)
                simp only at s5
                obtain rfl := s5
                clear hd
                simp only [List.take_succ_cons, List.take_zero, List.drop_succ_cons, List.drop_zero, List.map_cons, List.map_nil, puts, Act.put, List.setIfInBounds_toArray, List.set_cons_succ, List.set_cons_zero]
                go_wp2_with (((with_reducible refine' wpList_load_blk (.tmp 65) 23 rfl ?_ ld_nds ?_ (nB.below hbz oB) (C3.out) ?_); exact rfl; exact rfl; simp only [Act.put, List.setIfInBounds_toArray, List.set_cons_succ, List.set_cons_zero]))
                exact ⟨rfl, _, rfl, Below.refl _ _, rfl⟩
              · simp only [List.getElem?_cons_succ, List.getElem?_cons_zero, Option.some.injEq] at ho; subst ho; clear hi hl
                clear hd
                simp only [List.take_succ_cons, List.take_zero, List.drop_succ_cons, List.drop_zero, List.map_cons, List.map_nil, puts, Act.put, List.setIfInBounds_toArray, List.set_cons_succ, List.set_cons_zero]
                go_wp2_with (fail)
                exact ⟨rfl, _, rfl, Below.refl _ _, rfl⟩
              · simp only [List.getElem?_cons_succ, List.getElem?_cons_zero, Option.some.injEq] at ho; subst ho; clear hi hl
                have s6 : (fun (vv : Value) (ww : World) => vv = v') u6 wz := hd 6 (by kernel_rfl)
                simp only at s6
                obtain rfl := s6
                have s7 : (fun (vv : Value) (ww : World) => vv = .int .i64 (j : Int)) u7 wz := hd 7 (by kernel_rfl)
                simp only at s7
                obtain rfl := s7
                clear hd
                simp only [List.take_succ_cons, List.take_zero, List.drop_succ_cons, List.drop_zero, List.map_cons, List.map_nil, puts, Act.put, List.setIfInBounds_toArray, List.set_cons_succ, List.set_cons_zero]
                go_wp2_with (((with_reducible refine' wpList_at_rd (.tmp 66) (.tmp 67) 23 rfl ?_ Tryd.underlying23 sz_node ?_ g2 (by decide) (j) ?_ ?_ ?_); exact rfl; exact rfl; (show (_ : Int) = _; omega); omega; simp only [Act.put, List.setIfInBounds_toArray, List.set_cons_succ, List.set_cons_zero]))
                exact ⟨rfl, _, rfl, Below.refl _ _, rfl⟩
              · simp only [List.getElem?_cons_succ, List.getElem?_cons_zero, Option.some.injEq] at ho; subst ho; clear hi hl
                have s8 : (fun (vv : Value) (ww : World) => vv = ep v' (j * 4)) u8 wz := hd 8 (by kernel_rfl)
                simp only at s8
                obtain rfl := s8
                clear hd
                simp only [List.take_succ_cons, List.take_zero, List.drop_succ_cons, List.drop_zero, List.map_cons, List.map_nil, puts, Act.put, List.setIfInBounds_toArray, List.set_cons_succ, List.set_cons_zero]
                go_wp2_with (((with_reducible refine' wpList_load_st (cp := ds) (.tmp 68) 25 rfl ?_ Tryd.underlying25 ?_ sz_node ?_ (g2.below hbz) ?_ ?_ HD.out ?_); exact rfl; exact rfl; exact rfl; exact BE.out; decide; simp only [Act.put, List.setIfInBounds_toArray, List.set_cons_succ, List.set_cons_zero]))
                exact ⟨rfl, _, rfl, Below.refl _ _, rfl⟩
              · simp only [List.getElem?_cons_succ, List.getElem?_cons_zero, Option.some.injEq] at ho; subst ho; clear hi hl
                have s4 : (fun (vv : Value) (ww : World) => vv = .agg cs.toArray) u4 wz := hd 4 (by kernel_rfl)
                simp only at s4
                obtain rfl := s4
                have s9 : (fun (vv : Value) (ww : World) => vv = .agg ds.toArray) u9 wz := hd 9 (by kernel_rfl)
                simp only at s9
                obtain rfl := s9
                clear hd
                simp only [List.take_succ_cons, List.take_zero, List.drop_succ_cons, List.drop_zero, List.map_cons, List.map_nil, puts, Act.put, List.setIfInBounds_toArray, List.set_cons_succ, List.set_cons_zero]
                go_wp2_with (((go_at_call 20; (with_reducible refine (IH.out t hmem u cs ds _ (IsT.below hbz hT) (IsT.below hbz hU)).mono ?_); rintro e w' ⟨rfl, hN⟩); rw [HCC.out]))
                exact ⟨rfl, _, rfl, hN, rfl⟩
              · omega
            intro us wz hl hbz hS
            obtain ⟨u0, u1, u2, u3, u4, u5, u6, u7, u8, u9, u10, rfl⟩ := len11 hl
            have s10 : (fun (vv : Value) (ww : World) => vv = .int .i64 c) u10 wz := hS 10 (by omega)
            simp only at s10
            obtain rfl := s10
            clear hS hl
            simp only [List.take_succ_cons, List.take_zero, List.drop_succ_cons, List.drop_zero, List.map_cons, List.map_nil, puts, Act.put, List.setIfInBounds_toArray, List.set_cons_succ, List.set_cons_zero]
            go_wp2_with fail
            refine onlyN ?_
            by_cases h0 : c = 0
            · subst h0
              go_wp2_with fail
              go_roundw
              case rel => exact ⟨j + 1, by omega, by omega, by go_num, Lib.hid (HN.out (by first | rfl | trivial)), hbw.trans (hbz.mono hbw.size), hbr.trans (hbz.mono hbr.size)⟩
              case measure => simp [intOf]; omega
            · go_wp2_with fail
              go_ret
              exact ⟨by rw [HT.out, HS.out h0]; rfl, hbw.trans (hbz.mono hbw.size)⟩
          · obtain rfl : j = us.length := by omega
            have L2 := Lib.hid (show decide ((us.length : Int) < (us.length : Int)) = false by rw [decide_eq_false_iff_not]; omega)
            obtain ⟨t, ht⟩ := kid_at hlt1
            have HS := Lib.hid (show tcmps ts us = sgn (ts.length : Int) (us.length : Int) by
              rw [tcmps_skip (by omega) (Nat.le_refl _) HZ.out, drop_kid ht, List.drop_length, tcmps]
              unfold sgn; rw [if_neg (by omega), if_pos (by omega)])
            clear ht
            go_wp2_with (first | (rw [L1.out]) | (rw [L2.out]) | ((with_reducible refine' wpList_field_blk (j := 3) (.tmp 2) 25 3 rfl ?_ fo_node_3 ?_ rfl ?_); exact rfl; exact rfl; simp only [Act.put, List.setIfInBounds_toArray, List.set_cons_succ, List.set_cons_zero]) | ((with_reducible refine' wpList_field_blk (j := 3) (.tmp 3) 25 3 rfl ?_ fo_node_3 ?_ rfl ?_); exact rfl; exact rfl; simp only [Act.put, List.setIfInBounds_toArray, List.set_cons_succ, List.set_cons_zero]) | ((with_reducible refine' wpList_load_blk (.tmp 47) 23 rfl ?_ ld_nds ?_ nA (A3.out) ?_); exact rfl; exact rfl; simp only [Act.put, List.setIfInBounds_toArray, List.set_cons_succ, List.set_cons_zero]) | ((with_reducible refine' wpList_load_blk (.tmp 53) 23 rfl ?_ ld_nds ?_ nB (C3.out) ?_); exact rfl; exact rfl; simp only [Act.put, List.setIfInBounds_toArray, List.set_cons_succ, List.set_cons_zero]) | ((with_reducible refine' wpList_len_rd (.tmp 48) 23 rfl ?_ Tryd.underlying23 ?_ g1 ?_); exact rfl; exact rfl; simp only [Act.put, List.setIfInBounds_toArray, List.set_cons_succ, List.set_cons_zero]) | ((with_reducible refine' wpList_len_rd (.tmp 54) 23 rfl ?_ Tryd.underlying23 ?_ g2 ?_); exact rfl; exact rfl; simp only [Act.put, List.setIfInBounds_toArray, List.set_cons_succ, List.set_cons_zero]) | ((with_reducible refine' wpList_load_blk (.tmp 74) 23 rfl ?_ ld_nds ?_ nA (A3.out) ?_); exact rfl; exact rfl; simp only [Act.put, List.setIfInBounds_toArray, List.set_cons_succ, List.set_cons_zero]) | ((with_reducible refine' wpList_load_blk (.tmp 77) 23 rfl ?_ ld_nds ?_ nB (C3.out) ?_); exact rfl; exact rfl; simp only [Act.put, List.setIfInBounds_toArray, List.set_cons_succ, List.set_cons_zero]) | ((with_reducible refine' wpList_len_rd (.tmp 75) 23 rfl ?_ Tryd.underlying23 ?_ g1 ?_); exact rfl; exact rfl; simp only [Act.put, List.setIfInBounds_toArray, List.set_cons_succ, List.set_cons_zero]) | ((with_reducible refine' wpList_len_rd (.tmp 78) 23 rfl ?_ Tryd.underlying23 ?_ g2 ?_); exact rfl; exact rfl; simp only [Act.put, List.setIfInBounds_toArray, List.set_cons_succ, List.set_cons_zero]) | ((go_at_call 52; (with_reducible refine (refsign_any (ts.length : Int) (us.length : Int) _).mono ?_); rintro e w' ⟨rfl, rfl⟩)))
            go_ret
            exact ⟨by rw [HT.out, HS.out]; rfl, hbw⟩
        · obtain rfl : j = ts.length := by omega
          have L1 := Lib.hid (show decide ((ts.length : Int) < (ts.length : Int)) = false by rw [decide_eq_false_iff_not]; omega)
          have HS := Lib.hid (show tcmps ts us = sgn (ts.length : Int) (us.length : Int) by
            rw [tcmps_skip (Nat.le_refl _) hj2 HZ.out, List.drop_length]
            by_cases h : ts.length < us.length
            · obtain ⟨u, hu⟩ := kid_at h
              rw [drop_kid hu, tcmps]; unfold sgn; rw [if_pos (by omega)]
            · rw [List.drop_of_length_le (by omega), tcmps]; unfold sgn; rw [if_neg (by omega), if_neg (by omega)])
          go_wp2_with (first | (rw [L1.out]) | ((with_reducible refine' wpList_field_blk (j := 3) (.tmp 2) 25 3 rfl ?_ fo_node_3 ?_ rfl ?_); exact rfl; exact rfl; simp only [Act.put, List.setIfInBounds_toArray, List.set_cons_succ, List.set_cons_zero]) | ((with_reducible refine' wpList_field_blk (j := 3) (.tmp 3) 25 3 rfl ?_ fo_node_3 ?_ rfl ?_); exact rfl; exact rfl; simp only [Act.put, List.setIfInBounds_toArray, List.set_cons_succ, List.set_cons_zero]) | ((with_reducible refine' wpList_load_blk (.tmp 47) 23 rfl ?_ ld_nds ?_ nA (A3.out) ?_); exact rfl; exact rfl; simp only [Act.put, List.setIfInBounds_toArray, List.set_cons_succ, List.set_cons_zero]) | ((with_reducible refine' wpList_len_rd (.tmp 48) 23 rfl ?_ Tryd.underlying23 ?_ g1 ?_); exact rfl; exact rfl; simp only [Act.put, List.setIfInBounds_toArray, List.set_cons_succ, List.set_cons_zero]) | ((with_reducible refine' wpList_load_blk (.tmp 74) 23 rfl ?_ ld_nds ?_ nA (A3.out) ?_); exact rfl; exact rfl; simp only [Act.put, List.setIfInBounds_toArray, List.set_cons_succ, List.set_cons_zero]) | ((with_reducible refine' wpList_load_blk (.tmp 77) 23 rfl ?_ ld_nds ?_ nB (C3.out) ?_); exact rfl; exact rfl; simp only [Act.put, List.setIfInBounds_toArray, List.set_cons_succ, List.set_cons_zero]) | ((with_reducible refine' wpList_len_rd (.tmp 75) 23 rfl ?_ Tryd.underlying23 ?_ g1 ?_); exact rfl; exact rfl; simp only [Act.put, List.setIfInBounds_toArray, List.set_cons_succ, List.set_cons_zero]) | ((with_reducible refine' wpList_len_rd (.tmp 78) 23 rfl ?_ Tryd.underlying23 ?_ g2 ?_); exact rfl; exact rfl; simp only [Act.put, List.setIfInBounds_toArray, List.set_cons_succ, List.set_cons_zero]) | ((go_at_call 52; (with_reducible refine (refsign_any (ts.length : Int) (us.length : Int) _).mono ?_); rintro e w' ⟨rfl, rfl⟩)))
          go_ret
          exact ⟨by rw [HT.out, HS.out]; rfl, hbw⟩
end Go.Proofs.YtdlhkhnoigbhjaaDoor.Wi
namespace Go.Proofs.YtdlhkhnoigbhjaaDoor.Pu
def I64 (x : Int) : Prop := -9223372036854775808 ≤ x ∧ x ≤ 9223372036854775807
def nonneg (n : Int) : Int := if n < 0 then -(n + 1) else n
def aroundV (n most : Int) : Int := nonneg n % most
theorem aroundV_bd (n : Int) {most : Int} (h : 0 < most) : 0 ≤ aroundV n most ∧ aroundV n most < most := ⟨Int.emod_nonneg _ (by omega), Int.emod_lt_of_pos _ h⟩
def atV (l : List Int) (i most : Int) : Int := if 0 ≤ i ∧ i < l.length then aroundV (l.getD i.toNat 0) most else 0
theorem atV_bd (l : List Int) (i : Int) {most : Int} (h : 0 < most) : 0 ≤ atV l i most ∧ atV l i most < most := by
  unfold atV; split
  · exact aroundV_bd _ h
  · omega
end Go.Proofs.YtdlhkhnoigbhjaaDoor.Pu
namespace Go.Proofs.YtdlhkhnoigbhjaaDoor.Wi
open Go Go.RowKit Pu Lb
set_option linter.unusedSimpArgs false
set_option linter.unusedVariables false
set_option maxRecDepth 100000 in
theorem refsame_any (t u : Tree) (cs ds : List Value) (w : World) (h1 : IsT w t cs) (h2 : IsT w u ds) :
    Calls Tryd.prog 31 #[.agg cs.toArray, .agg ds.toArray] w fun e w' => e = .returned (.bool (tcmp t u == 0)) ∧ Below w.heap.size w w' := by
  have CL := Lib.hid h1.len
  have DL := Lib.hid h2.len
  obtain ⟨c, hc⟩ : ∃ c, tcmp t u = c := ⟨_, rfl⟩
  have HC := Lib.hid hc
  rw [hc]
  clear hc
  go_enter Tryd.func31, Tryd.ntmps31
  have hb := Below.refl w.heap.size w
  go_upto_region 1 with (first
    | (((with_reducible refine' wpList_boxa (cs := cs) 25 (.tmp 0) rfl ?_ ?_ ?_); exact rfl; exact rfl; intro w1 kA hN hz1; simp only [Act.put, List.setIfInBounds_toArray, List.set_cons_succ, List.set_cons_zero]); replace h1 := IsT.below hN h1; replace h2 := IsT.below hN h2; replace hb := hb.trans ((by exact hN : Below _ _ _).mono hb.size); have lA := kA.lt)
    | (((with_reducible refine' wpList_boxa (cs := ds) 25 (.tmp 1) rfl ?_ ?_ ?_); exact rfl; exact rfl; intro w2 kB hN hz2; simp only [Act.put, List.setIfInBounds_toArray, List.set_cons_succ, List.set_cons_zero]); replace h1 := IsT.below hN h1; replace h2 := IsT.below hN h2; replace kA := kA.below hN lA; replace hb := hb.trans ((by exact hN : Below _ _ _).mono hb.size)))
  go_wp2_with (first
    | ((with_reducible refine' wpList_loadst_blk (.tmp 2) 25 rfl ?_ Tryd.underlying25 ?_ sz_node ?_ kA ?_ ?_ ?_); exact rfl; exact rfl; exact rfl; exact CL.out; decide; simp only [Act.put, List.setIfInBounds_toArray, List.set_cons_succ, List.set_cons_zero]) | ((with_reducible refine' wpList_loadst_blk (.tmp 3) 25 rfl ?_ Tryd.underlying25 ?_ sz_node ?_ kB ?_ ?_ ?_); exact rfl; exact rfl; exact rfl; exact DL.out; decide; simp only [Act.put, List.setIfInBounds_toArray, List.set_cons_succ, List.set_cons_zero])
    | ((go_at_call 20; (with_reducible refine (refcompare_any t u cs ds _ h1 h2).mono ?_); rintro e w' ⟨rfl, hN⟩); rw [HC.out]; replace hb := hb.trans ((by exact hN : Below _ _ _).mono hb.size)))
  go_ret
  exact ⟨rfl, hb⟩
set_option maxRecDepth 100000 in
theorem around_any (n most : Int) (w : World) (hn : I64 n) (h0 : 0 < most) (hm : I64 most) :
    Calls Tryd.prog 14 #[.int .i64 n, .int .i64 most] w fun e w' => e = .returned (.int .i64 (aroundV n most)) ∧ w = w' := by
  unfold I64 at hn hm
  by_cases h : n < 0
  · have HS := Lib.hid (show aroundV n most = -((n + 1).tmod most) by unfold aroundV nonneg; rw [if_pos h, ← Int.tmod_eq_emod_of_nonneg (by omega), Int.neg_tmod])
    have hbd := aroundV_bd n h0
    go_enter Tryd.func14, Tryd.ntmps14
    go_wp2_with fail
    go_ret
    exact ⟨by rw [HS.out]; rfl, rfl⟩
  · have HS := Lib.hid (show aroundV n most = n % most by unfold aroundV nonneg; rw [if_neg h])
    go_enter Tryd.func14, Tryd.ntmps14
    go_wp2_with fail
    go_ret
    exact ⟨by rw [HS.out]; rfl, rfl⟩
set_option maxRecDepth 100000 in
theorem at_any (v : Value) (nn : Nat) (l : List Int) (i most : Int) (w : World) (hr : Rd w 1 v nn (iv l)) (hl : ∀ x ∈ l, I64 x) (hi : I64 i) (h0 : 0 < most) (hm : I64 most) :
    Calls Tryd.prog 72 #[v, .int .i64 i, .int .i64 most] w fun e w' => e = .returned (.int .i64 (atV l i most)) ∧ w = w' := by
  have hn := hr.1
  rw [ivl_len, Nat.mul_one] at hn
  have hmx := hr.len
  unfold maxLen at hmx
  by_cases h1 : i < 0
  · have HS := Lib.hid (show atV l i most = 0 by unfold atV; rw [if_neg (by omega)])
    have L1 := Lib.hid (show decide (i < 0) = true from decide_eq_true h1)
    go_enter Tryd.func72, Tryd.ntmps72
    go_wp2_with (first | (rw [L1.out]) | ((with_reducible refine' wpList_len_rd (.tmp 11) 22 rfl ?_ Tryd.underlying22 ?_ hr ?_); exact rfl; exact rfl; simp only [Act.put, List.setIfInBounds_toArray, List.set_cons_succ, List.set_cons_zero]))
    go_ret
    exact ⟨by rw [HS.out]; rfl, rfl⟩
  have L1 := Lib.hid (show decide (i < 0) = false from decide_eq_false h1)
  by_cases h2 : (nn : Int) ≤ i
  · have HS := Lib.hid (show atV l i most = 0 by unfold atV; rw [if_neg (by omega)])
    have L2 := Lib.hid (show decide ((nn : Int) ≤ i) = true from decide_eq_true h2)
    go_enter Tryd.func72, Tryd.ntmps72
    go_wp2_with (first | (rw [L1.out]) | (rw [L2.out]) | ((with_reducible refine' wpList_len_rd (.tmp 11) 22 rfl ?_ Tryd.underlying22 ?_ hr ?_); exact rfl; exact rfl; simp only [Act.put, List.setIfInBounds_toArray, List.set_cons_succ, List.set_cons_zero]))
    go_ret
    exact ⟨by rw [HS.out]; rfl, rfl⟩
  · obtain ⟨j, rfl⟩ : ∃ j : Nat, i = (j : Int) := ⟨i.toNat, by omega⟩
    have hj : j < l.length := by omega
    obtain ⟨x, hx⟩ : ∃ x, l[j]? = some x := ⟨_, List.getElem?_eq_getElem hj⟩
    have HS := Lib.hid (show atV l (j : Int) most = aroundV x most by
      unfold atV; rw [if_pos (by omega), Int.toNat_natCast, List.getD_eq_getElem?_getD, hx]; rfl)
    have L2 := Lib.hid (show decide ((nn : Int) ≤ (j : Int)) = false from decide_eq_false h2)
    have C := Lib.hid (ivl_at hx)
    have IX := Lib.hid (hl x (List.mem_of_getElem? hx))
    have IM := Lib.hid hm
    clear hx
    go_enter Tryd.func72, Tryd.ntmps72
    go_wp2_with (first | (rw [L1.out]) | (rw [L2.out]) | ((with_reducible refine' wpList_len_rd (.tmp 11) 22 rfl ?_ Tryd.underlying22 ?_ hr ?_); exact rfl; exact rfl; simp only [Act.put, List.setIfInBounds_toArray, List.set_cons_succ, List.set_cons_zero]) | ((with_reducible refine' wpList_at1_rd (.tmp 15) (.tmp 16) 22 rfl ?_ Tryd.underlying22 sz_int ?_ hr (j) ?_ ?_ ?_); exact rfl; exact rfl; (show (_ : Int) = _; omega); omega; simp only [Act.put, List.setIfInBounds_toArray, List.set_cons_succ, List.set_cons_zero]) | ((with_reducible refine' wpList_load_rd (.tmp 17) 3 rfl ?_ ld_int ?_ hr (C.out) ?_); exact rfl; exact rfl; simp only [Act.put, List.setIfInBounds_toArray, List.set_cons_succ, List.set_cons_zero]) | ((go_at_call 14; (with_reducible refine (around_any x most _ IX.out h0 IM.out).mono ?_); rintro e w' ⟨rfl, rfl⟩)))
    go_ret
    exact ⟨by rw [HS.out]; rfl, rfl⟩
end Go.Proofs.YtdlhkhnoigbhjaaDoor.Wi
namespace Go.Proofs.YtdlhkhnoigbhjaaDoor.Wi
open Go Go.RowKit Pu Lb
set_option linter.unusedSimpArgs false
set_option linter.unusedVariables false
theorem fo_mk_0 : fieldOf Tryd.prog 66 0 = some 0 := by kernel_rfl
theorem fo_mk_1 : fieldOf Tryd.prog 66 1 = some 1 := by kernel_rfl
theorem fo_mk_2 : fieldOf Tryd.prog 66 2 = some 2 := by kernel_rfl
theorem ld_ints (ad : Addr) (u : Value) (w : World) (h : w.cell? ad = some u) : (loadVar 22 ad).run Tryd.prog w = .ok u w := load_one _ _ Tryd.underlying22 rfl ad u w h
theorem gb2_below {w w' : World} {b : Option Nat} (h : Below w.heap.size w w') : w.grownBy w' b := ⟨h.os, h.tape, h.output, h.size, fun k hk _ => h.block k hk⟩
/-- a maker made behind world w0: its numbers (they lie in w0), where it stands, how many nodes are left -/
def Mk (w0 w : World) (B : Nat) (l : List Int) (a : Nat) (left : Int) : Prop := ∃ lv, Blk w B 66 [lv, .int .i64 (a : Int), .int .i64 left] ∧ Rd w0 1 lv l.length (iv l) ∧ w0.heap.size ≤ B ∧ Below w0.heap.size w0 w
theorem Mk.below {w0 w w' : World} {B : Nat} {l : List Int} {a : Nat} {left : Int} (h : Mk w0 w B l a left) (hb : Below w.heap.size w w') : Mk w0 w' B l a left := by
  obtain ⟨lv, h1, h2, h3, h4⟩ := h
  exact ⟨lv, h1.below hb h1.lt, h2, h3, h4.trans (hb.mono h4.size)⟩
set_option maxRecDepth 100000 in
theorem num_any (w0 : World) (B : Nat) (l : List Int) (a : Nat) (left n : Int) (w : World) (hM : Mk w0 w B l a left) (hl : ∀ x ∈ l, I64 x) (ha : a ≤ 1000000000) (h0 : 0 < n) (hn : I64 n) :
    Calls Tryd.prog 47 #[.pointer (some ⟨B, 0, none⟩), .int .i64 n] w fun e w' => e = .returned (.int .i64 (atV l (a : Int) n)) ∧ Mk w0 w' B l (a + 1) left ∧ Only B w w' := by
  obtain ⟨lv, hB, hr, hB0, hb0⟩ := hM
  have HL := Lib.hid hl
  have HN := Lib.hid hn
  have IA := Lib.hid (show I64 (a : Int) by unfold I64; omega)
  have X1 := Lib.hid (show ([lv, .int .i64 (a : Int), .int .i64 left] : List Value)[1]? = some (.int .i64 (a : Int)) from rfl)
  have Y0 := Lib.hid (show ([lv, .int .i64 ((a + 1 : Nat) : Int), .int .i64 left] : List Value)[0]? = some lv from rfl)
  have Y1 := Lib.hid (show ([lv, .int .i64 ((a + 1 : Nat) : Int), .int .i64 left] : List Value)[1]? = some (.int .i64 ((a + 1 : Nat) : Int)) from rfl)
  have ST := Lib.hid (show ([lv, .int .i64 (a : Int), .int .i64 left] : List Value).set 1 (.int .i64 ((a : Int) + 1)) = [lv, .int .i64 ((a + 1 : Nat) : Int), .int .i64 left] from rfl)
  have LN := Lib.hid (show 1 < ([lv, .int .i64 (a : Int), .int .i64 left] : List Value).length by simp)
  clear hl hn
  go_enter Tryd.func47, Tryd.ntmps47
  go_upto_region 2 with (first
    | (((with_reducible refine' wpList_field_blk (j := 1) (.tmp 6) 66 1 rfl ?_ fo_mk_1 ?_ rfl ?_); exact rfl; exact rfl; simp only [Act.put, List.setIfInBounds_toArray, List.set_cons_succ, List.set_cons_zero])) | (((with_reducible refine' wpList_field_blk (j := 1) (.tmp 10) 66 1 rfl ?_ fo_mk_1 ?_ rfl ?_); exact rfl; exact rfl; simp only [Act.put, List.setIfInBounds_toArray, List.set_cons_succ, List.set_cons_zero])) | ((with_reducible refine' wpList_load_blk (.tmp 7) 3 rfl ?_ ld_int ?_ hB (X1.out) ?_); exact rfl; exact rfl; simp only [Act.put, List.setIfInBounds_toArray, List.set_cons_succ, List.set_cons_zero])
    | (((with_reducible refine' wpList_set_blk (u := .int .i64 ((a : Int) + 1)) 3 (.tmp 11) (.tmp 9) rfl ?_ sz_int ?_ ?_ hB (LN.out) ?_ ?_); exact rfl; exact rfl; exact rfl; exact rfl; intro w3 k3 hO hz3; simp only [Act.put])))
  rw [ST.out] at k3
  have hb3 : Below w0.heap.size w0 w3 := hb0.trans (hO.below hB0 hb0.size)
  have hr3 := hr.below hb3
  have l3 := k3.lt
  obtain ⟨c, hc⟩ : ∃ c, atV l (a : Int) n = c := ⟨_, rfl⟩
  have HC := Lib.hid hc
  clear hc
  have W1 := Lib.hid (show wrap64 (((a + 1 : Nat) : Int) - 1) = (a : Int) by unfold wrap64; omega)
  have W2 := Lib.hid (show ((a + 1 : Nat) : Int) - 1 = (a : Int) by omega)
  refine wp_region_mono (w := w3) 11 (fun i => match i with | 0 => fun (vv : Value) (ww : World) => vv = .pointer (some ⟨B, 0, none⟩) | 1 => fun (vv : Value) (ww : World) => vv = .pointer (some ⟨B, 0, none⟩) | 2 => fun (vv : Value) (ww : World) => vv = .pointer (some ⟨B, 0, none⟩) | 3 => fun (vv : Value) (ww : World) => vv = lv | 4 => fun (vv : Value) (ww : World) => vv = .pointer (some ⟨B, 0, none⟩) | 5 => fun (vv : Value) (ww : World) => vv = .pointer (some ⟨B, 0, none⟩) | 6 => fun (vv : Value) (ww : World) => vv = .pointer (some ⟨B, 1, none⟩) | 7 => fun (vv : Value) (ww : World) => vv = .int .i64 ((a + 1 : Nat) : Int) | 8 => fun (vv : Value) (ww : World) => vv = .int .i64 (a : Int) | 9 => fun (vv : Value) (ww : World) => vv = .int .i64 n | 10 => fun (vv : Value) (ww : World) => vv = .int .i64 c | _ => fun _ _ => True) (by kernel_rfl) (by kernel_rfl) ?_ ?_ ?_
  · intro i vv w1 w2 h hb
    rcases i with _ | _ | _ | _ | _ | _ | _ | _ | _ | _ | _ | i
    all_goals first | exact h | exact Rd.below h hb | exact own_below h hb | (obtain ⟨B, h1, h2, h3⟩ := h; exact ⟨B, h1, h2, Blk.below h3 hb (Blk.lt h3)⟩) | trivial
  · intro i o hi ho us wz hl hbz hd
    obtain ⟨u0, u1, u2, u3, u4, u5, u6, u7, u8, u9, u10, rfl⟩ := len11 hl
    rcases i with _ | _ | _ | _ | _ | _ | _ | _ | _ | _ | _ | i
    · simp only [List.getElem?_cons_succ, List.getElem?_cons_zero, Option.some.injEq] at ho; subst ho; clear hi hl
      clear hd
      simp only [List.take_succ_cons, List.take_zero, List.drop_succ_cons, List.drop_zero, List.map_cons, List.map_nil, puts, Act.put, List.setIfInBounds_toArray, List.set_cons_succ, List.set_cons_zero]
      go_wp2_with (fail)
      exact ⟨rfl, _, rfl, Below.refl _ _, rfl⟩
    · simp only [List.getElem?_cons_succ, List.getElem?_cons_zero, Option.some.injEq] at ho; subst ho; clear hi hl
      have s0 : (fun (vv : Value) (ww : World) => vv = .pointer (some ⟨B, 0, none⟩)) u0 wz := hd 0 (by kernel_rfl)
      simp only at s0
      obtain rfl := s0
      clear hd
      simp only [List.take_succ_cons, List.take_zero, List.drop_succ_cons, List.drop_zero, List.map_cons, List.map_nil, puts, Act.put, List.setIfInBounds_toArray, List.set_cons_succ, List.set_cons_zero]
      go_wp2_with (fail)
      exact ⟨rfl, _, rfl, Below.refl _ _, rfl⟩
    · simp only [List.getElem?_cons_succ, List.getElem?_cons_zero, Option.some.injEq] at ho; subst ho; clear hi hl
      have s1 : (fun (vv : Value) (ww : World) => vv = .pointer (some ⟨B, 0, none⟩)) u1 wz := hd 1 (by kernel_rfl)
      simp only at s1
      obtain rfl := s1
      clear hd
      simp only [List.take_succ_cons, List.take_zero, List.drop_succ_cons, List.drop_zero, List.map_cons, List.map_nil, puts, Act.put, List.setIfInBounds_toArray, List.set_cons_succ, List.set_cons_zero]
      go_wp2_with (((with_reducible refine' wpList_field_blk (j := 0) (.tmp 13) 66 0 rfl ?_ fo_mk_0 ?_ rfl ?_); exact rfl; exact rfl; simp only [Act.put, List.setIfInBounds_toArray, List.set_cons_succ, List.set_cons_zero]))
      exact ⟨rfl, _, rfl, Below.refl _ _, rfl⟩
    · simp only [List.getElem?_cons_succ, List.getElem?_cons_zero, Option.some.injEq] at ho; subst ho; clear hi hl
      have s2 : (fun (vv : Value) (ww : World) => vv = .pointer (some ⟨B, 0, none⟩)) u2 wz := hd 2 (by kernel_rfl)
      simp only at s2
      obtain rfl := s2
      clear hd
      simp only [List.take_succ_cons, List.take_zero, List.drop_succ_cons, List.drop_zero, List.map_cons, List.map_nil, puts, Act.put, List.setIfInBounds_toArray, List.set_cons_succ, List.set_cons_zero]
      go_wp2_with (((with_reducible refine' wpList_load_blk (.tmp 14) 22 rfl ?_ ld_ints ?_ (k3.below hbz l3) (Y0.out) ?_); exact rfl; exact rfl; simp only [Act.put, List.setIfInBounds_toArray, List.set_cons_succ, List.set_cons_zero]))
      exact ⟨rfl, _, rfl, Below.refl _ _, rfl⟩
    · simp only [List.getElem?_cons_succ, List.getElem?_cons_zero, Option.some.injEq] at ho; subst ho; clear hi hl
      clear hd
      simp only [List.take_succ_cons, List.take_zero, List.drop_succ_cons, List.drop_zero, List.map_cons, List.map_nil, puts, Act.put, List.setIfInBounds_toArray, List.set_cons_succ, List.set_cons_zero]
      go_wp2_with (fail)
      exact ⟨rfl, _, rfl, Below.refl _ _, rfl⟩
    · simp only [List.getElem?_cons_succ, List.getElem?_cons_zero, Option.some.injEq] at ho; subst ho; clear hi hl
      have s4 : (fun (vv : Value) (ww : World) => vv = .pointer (some ⟨B, 0, none⟩)) u4 wz := hd 4 (by kernel_rfl)
      simp only at s4
      obtain rfl := s4
      clear hd
      simp only [List.take_succ_cons, List.take_zero, List.drop_succ_cons, List.drop_zero, List.map_cons, List.map_nil, puts, Act.put, List.setIfInBounds_toArray, List.set_cons_succ, List.set_cons_zero]
      go_wp2_with (fail)
      exact ⟨rfl, _, rfl, Below.refl _ _, rfl⟩
    · simp only [List.getElem?_cons_succ, List.getElem?_cons_zero, Option.some.injEq] at ho; subst ho; clear hi hl
      have s5 : (fun (vv : Value) (ww : World) => vv = .pointer (some ⟨B, 0, none⟩)) u5 wz := hd 5 (by kernel_rfl)
      simp only at s5
      obtain rfl := s5
      clear hd
      simp only [List.take_succ_cons, List.take_zero, List.drop_succ_cons, List.drop_zero, List.map_cons, List.map_nil, puts, Act.put, List.setIfInBounds_toArray, List.set_cons_succ, List.set_cons_zero]
      go_wp2_with (((with_reducible refine' wpList_field_blk (j := 1) (.tmp 17) 66 1 rfl ?_ fo_mk_1 ?_ rfl ?_); exact rfl; exact rfl; simp only [Act.put, List.setIfInBounds_toArray, List.set_cons_succ, List.set_cons_zero]))
      exact ⟨rfl, _, rfl, Below.refl _ _, rfl⟩
    · simp only [List.getElem?_cons_succ, List.getElem?_cons_zero, Option.some.injEq] at ho; subst ho; clear hi hl
      have s6 : (fun (vv : Value) (ww : World) => vv = .pointer (some ⟨B, 1, none⟩)) u6 wz := hd 6 (by kernel_rfl)
      simp only at s6
      obtain rfl := s6
      clear hd
      simp only [List.take_succ_cons, List.take_zero, List.drop_succ_cons, List.drop_zero, List.map_cons, List.map_nil, puts, Act.put, List.setIfInBounds_toArray, List.set_cons_succ, List.set_cons_zero]
      go_wp2_with (((with_reducible refine' wpList_load_blk (.tmp 18) 3 rfl ?_ ld_int ?_ (k3.below hbz l3) (Y1.out) ?_); exact rfl; exact rfl; simp only [Act.put, List.setIfInBounds_toArray, List.set_cons_succ, List.set_cons_zero]))
      exact ⟨rfl, _, rfl, Below.refl _ _, rfl⟩
    · simp only [List.getElem?_cons_succ, List.getElem?_cons_zero, Option.some.injEq] at ho; subst ho; clear hi hl
      have s7 : (fun (vv : Value) (ww : World) => vv = .int .i64 ((a + 1 : Nat) : Int)) u7 wz := hd 7 (by kernel_rfl)
      simp only at s7
      obtain rfl := s7
      clear hd
      simp only [List.take_succ_cons, List.take_zero, List.drop_succ_cons, List.drop_zero, List.map_cons, List.map_nil, puts, Act.put, List.setIfInBounds_toArray, List.set_cons_succ, List.set_cons_zero]
      go_wp2_with (fail)
      exact ⟨rfl, _, rfl, Below.refl _ _, by simp⟩
    · simp only [List.getElem?_cons_succ, List.getElem?_cons_zero, Option.some.injEq] at ho; subst ho; clear hi hl
      clear hd
      simp only [List.take_succ_cons, List.take_zero, List.drop_succ_cons, List.drop_zero, List.map_cons, List.map_nil, puts, Act.put, List.setIfInBounds_toArray, List.set_cons_succ, List.set_cons_zero]
      go_wp2_with (fail)
      exact ⟨rfl, _, rfl, Below.refl _ _, rfl⟩
    · simp only [List.getElem?_cons_succ, List.getElem?_cons_zero, Option.some.injEq] at ho; subst ho; clear hi hl
      have s3 : (fun (vv : Value) (ww : World) => vv = lv) u3 wz := hd 3 (by kernel_rfl)
      simp only at s3
      obtain rfl := s3
      have s8 : (fun (vv : Value) (ww : World) => vv = .int .i64 (a : Int)) u8 wz := hd 8 (by kernel_rfl)
      simp only at s8
      obtain rfl := s8
      have s9 : (fun (vv : Value) (ww : World) => vv = .int .i64 n) u9 wz := hd 9 (by kernel_rfl)
      simp only at s9
      obtain rfl := s9
      clear hd
      simp only [List.take_succ_cons, List.take_zero, List.drop_succ_cons, List.drop_zero, List.map_cons, List.map_nil, puts, Act.put, List.setIfInBounds_toArray, List.set_cons_succ, List.set_cons_zero]
      go_wp2_with (((go_at_call 72; (with_reducible refine (at_any _ _ l (a : Int) n _ (hr3.below hbz) HL.out IA.out h0 HN.out).mono ?_); rintro e w' ⟨rfl, rfl⟩); rw [HC.out]))
      exact ⟨rfl, _, rfl, Below.refl _ _, rfl⟩
    · omega
  intro us wz hl hbz hS
  obtain ⟨u0, u1, u2, u3, u4, u5, u6, u7, u8, u9, u10, rfl⟩ := len11 hl
  have s10 : (fun (vv : Value) (ww : World) => vv = .int .i64 c) u10 wz := hS 10 (by omega)
  simp only at s10
  obtain rfl := s10
  clear hS hl
  simp only [List.take_succ_cons, List.take_zero, List.drop_succ_cons, List.drop_zero, List.map_cons, List.map_nil, puts, Act.put, List.setIfInBounds_toArray, List.set_cons_succ, List.set_cons_zero]
  go_wp2_with fail
  refine onlyN ?_
  go_wp2_with fail
  go_ret
  exact ⟨by rw [HC.out]; rfl, ⟨_, k3.below hbz l3, hr, hB0, hb3.trans (hbz.mono hb3.size)⟩, World.grownBy.trans hO (gb2_below hbz)⟩
end Go.Proofs.YtdlhkhnoigbhjaaDoor.Wi
namespace Go.Proofs.YtdlhkhnoigbhjaaDoor.Lb
open Go Go.RowKit Pu
theorem Rd.only4 {w w' : World} {B : Nat} {t : TypeId} {cs : List Value} {v : Value} {n : Nat} {xs : List Value} (h : Rd w 4 v n xs) (hB : Blk w B t cs) (hlt : cs.length < 4) (hO : Only B w w') : Rd w' 4 v n xs := by
  obtain ⟨hl, ad, cap, rfl, h1, h2, h3, h4⟩ := h
  refine ⟨hl, ad, cap, rfl, h1, h2, h3, fun j u hu => ?_⟩
  obtain ⟨b, o, rfl, hc⟩ := h4 j u hu
  refine ⟨b, o, rfl, ?_⟩
  have hj := (List.getElem?_eq_some_iff.1 hu).1
  have hne : b ≠ B := by
    rintro rfl
    have hx : xs[3]? = some xs[3] := List.getElem?_eq_getElem (by omega)
    obtain ⟨b', o', e, hc3⟩ := h4 3 _ hx
    simp only [Option.some.injEq, Addr.mk.injEq] at e
    obtain ⟨rfl, rfl, _⟩ := e
    rw [cell_of_row w _ _ _ t (0, 0) hB] at hc3
    rw [List.getElem?_toArray, List.getElem?_eq_none (by omega)] at hc3
    cases hc3
  have hlt2 : b < w.heap.size := by
    rcases Nat.lt_or_ge b w.heap.size with h | h
    · exact h
    · unfold World.cell? at hc
      rw [Array.getElem?_eq_none h] at hc
      cases hc
  have hb := hO.block b hlt2 (by simp; exact fun e => hne e)
  unfold World.cell? at hc ⊢
  rw [hb]; exact hc
mutual
theorem IsT.only {w w' : World} {B : Nat} {ty : TypeId} {ws : List Value} (hB : Blk w B ty ws) (hlt : ws.length < 4) (hO : Only B w w') : ∀ {t : Tree} {cs : List Value}, IsT w t cs → IsT w' t cs
  | .mk _ _ _ _, _, h => by
    rw [IsT] at h ⊢
    obtain ⟨v, xs, e, hr, ht⟩ := h
    exact ⟨v, xs, e, hr.only4 hB hlt hO, IsTs.only hB hlt hO ht⟩
theorem IsTs.only {w w' : World} {B : Nat} {ty : TypeId} {ws : List Value} (hB : Blk w B ty ws) (hlt : ws.length < 4) (hO : Only B w w') : ∀ {ts : List Tree} {xs : List Value}, IsTs w ts xs → IsTs w' ts xs
  | [], _, h => by rw [IsTs] at h ⊢; exact h
  | _ :: _, _, h => by
    rw [IsTs] at h ⊢
    obtain ⟨cs, ys, e, h4, hu, h⟩ := h
    exact ⟨cs, ys, e, h4, IsT.only hB hlt hO hu, IsTs.only hB hlt hO h⟩
end
end Go.Proofs.YtdlhkhnoigbhjaaDoor.Lb
namespace Go.Proofs.YtdlhkhnoigbhjaaDoor.Pu
def deepT : Nat → Tree
  | 0 => .mk 25 0 0 []
  | n + 1 => .mk 13 0 0 [deepT n]
end Go.Proofs.YtdlhkhnoigbhjaaDoor.Pu
namespace Go.Proofs.YtdlhkhnoigbhjaaDoor.Wi
open Go Go.RowKit Pu Lb
set_option linter.unusedSimpArgs false
set_option linter.unusedVariables false
theorem inf_node : (Tryd.prog.info? 25).map (fun i => (i.zero, i.size, i.bytes)) = some (some (.agg #[.int .i64 0, .int .i64 0, .int .i64 0, .slice none 0 0]), 4, 48) := by kernel_rfl
theorem deep_zero (w : World) : IsT w (deepT 0) [.int .i64 25, .int .i64 0, .int .i64 0, .slice none 0 0] := by
  rw [deepT, IsT]
  exact ⟨_, [], rfl, ⟨rfl, none, 0, rfl, Nat.le_refl _, by unfold maxLen; omega, fun _ => rfl, fun j u hu => by simp at hu⟩, by rw [IsTs]⟩
theorem deep_succ {w : World} {n : Nat} {v : Value} {cs : List Value} (hr : Rd w 4 v 1 cs) (h : IsT w (deepT n) cs) : IsT w (deepT (n + 1)) [.int .i64 13, .int .i64 0, .int .i64 0, v] := by
  rw [deepT, IsT]
  exact ⟨v, cs, rfl, hr, IsTs.one h⟩
end Go.Proofs.YtdlhkhnoigbhjaaDoor.Wi
namespace Go.Proofs.YtdlhkhnoigbhjaaDoor.Lb
open Go Go.RowKit Go.Lib
theorem gb_below {w w' : World} {b : Option Nat} (h : Below w.heap.size w w') : w.grownBy w' b := ⟨h.os, h.tape, h.output, h.size, fun k hk _ => h.block k hk⟩
theorem gb_trans {a b c : World} {row : Option Nat} (h : a.grownBy b row) (k : b.grownBy c row) : a.grownBy c row := World.grownBy.trans h k
theorem gb_drew {w w' : World} {b : Option Nat} (h : w.grownBy w' b) : w.drew.grownBy w' b := ⟨h.os, h.tape, h.output, h.size, h.block⟩
theorem Blk.grown {w w' : World} {B : Nat} {t : TypeId} {cs : List Value} {b : Option Nat} (h : Blk w B t cs) (hg : w.grownBy w' b) (hne : some B ≠ b) : Blk w' B t cs := by
  unfold Blk; rw [hg.block B h.lt hne]; exact h
/-- the row of v lies in its old block or in a new one -/
def Stayed (w : World) (v v' : Value) : Prop := v'.ownBlock = v.ownBlock ∨ ∃ k, v'.ownBlock = some k ∧ w.heap.size ≤ k
theorem Stayed.ne {w : World} {v v' : Value} (h : Stayed w v v') {B : Nat} (hne : some B ≠ v.ownBlock) (hB : B < w.heap.size) : some B ≠ v'.ownBlock := by
  rcases h with h | ⟨k, h, hk⟩ <;> rw [h]
  · exact hne
  · intro e; cases e; omega
theorem run_append_rd_at {P : Program} {w : World} (base : Nat) (t ty e : TypeId) (z : Value) (s bytes : Nat) (ht : P.underlying t = some (.slice e)) (hinfo : (P.info? e).map (fun i => (i.zero, i.size, i.bytes)) = some (some z, s, bytes)) (hzs : z.cells.size = s) (hs0 : 0 < s)
    {v : Value} {n : Nat} {xs : List Value} (hown : w.ownsRow base e s v n xs) {v2 : Value} {m : Nat} {ys : List Value} (hv : Rd w s v2 m ys) (h1 : ∀ u ∈ ys, u.oneCell' = true)
    (h63 : n + m ≤ maxLen) (hbytes : (n + m) * bytes ≤ 140737488355328) (hbase : base ≤ w.heap.size) :
    ∃ v' w', (Builtin.append_ #[t, t] ty #[v, v2]).run P w = .ok v' w' ∧ w'.ownsRow base e s v' (n + m) (xs ++ ys) ∧ w.grownBy w' v.ownBlock ∧ Stayed w v v' := by
  obtain ⟨i, hi, hz, hsz, hby⟩ := info_parts hinfo
  obtain ⟨hl, ad, cap, rfl, g1, g2, g3, g4⟩ := hv
  cases ad with
  | some ad =>
    obtain ⟨v', w', h1, h2, h3, _, h5⟩ := run_append_own_at (P := P) w base t ty e i z s bytes ht hi hz hsz hby hzs hs0 v n xs hown ad m cap ys hl (fun j u hu => by
      obtain ⟨b, of, hab, hc⟩ := g4 j u hu
      obtain rfl := Option.some.inj hab
      rw [Addr.add_lit]; exact hc) h1 h63 hbytes hbase
    exact ⟨v', w', h1, h2, h3, h5.imp id fun h => ⟨_, h, Nat.le_refl _⟩⟩
  | none =>
    have hc0 : cap = 0 := g3 rfl
    subst hc0
    have hm : m = 0 := by omega
    subst hm
    have hy : ys = [] := List.eq_nil_of_length_eq_zero (by simpa using hl)
    subst hy
    have hrun := run_append_owned_none (P := P) w base t ty e i s ht hi v n xs hown
    exact ⟨v, w, hrun, by simpa using hown, World.grownBy.refl _ _, .inl rfl⟩
section
variable {P : Program} {ops : Array Oper} {Q : Exit → Act → World → Prop} {a : Act} {w : World} {rest : List Oper} {o : Oper}
theorem wpList_append_at (x y : Operand) (t : TypeId) (ho : o.op = .call { callee := .builtin .append, args := #[x, y], argTypes := #[t, t] }) (hw : Region.wanted o (yielded ops a.tmps) = true)
    {e : TypeId} {z : Value} {s bytes : Nat} (ht : P.underlying t = some (.slice e)) (hinfo : (P.info? e).map (fun i => (i.zero, i.size, i.bytes)) = some (some z, s, bytes)) (hzs : z.cells.size = s) (hs0 : 0 < s)
    {v : Value} {n : Nat} {xs : List Value} {base : Nat} (hx : a.eval x = v) (hown : w.ownsRow base e s v n xs) {v2 : Value} {m : Nat} {ys : List Value} (hy : a.eval y = v2) (hv : Rd w s v2 m ys) (h1 : ∀ u ∈ ys, u.oneCell' = true)
    (h63 : n + m ≤ maxLen) (hbytes : (n + m) * bytes ≤ 140737488355328) (hbase : base ≤ w.heap.size)
    (h : ∀ v' w', w'.ownsRow base e s v' (n + m) (xs ++ ys) → w.grownBy w' v.ownBlock → Stayed w v v' → wpList P ops Q rest (a.put o.dst v') w') : wpList P ops Q (o :: rest) a w := by
  obtain ⟨v', w', hr, ho', hg, hst⟩ := run_append_rd_at (P := P) base t o.type e z s bytes ht hinfo hzs hs0 hown hv h1 h63 hbytes hbase
  refine wpList_of_run hw (v := v') (w' := w') ?_ (h v' w' ho' hg hst)
  unfold execOp
  simp only [ho, resolve, invoke, builtin, Sem.run_bind, Sem.run_pure, Result.andThen_ok, List.map_toArray, List.map_cons, List.map_nil, hx, hy, hr]
/-- 'append(x, u)': the one element lies in a block of its own -/
theorem wpList_append_one_at (x y : Operand) (t : TypeId) (ho : o.op = .call { callee := .builtin .append, args := #[x, y], argTypes := #[t, t] }) {u : Value} {e : TypeId} (hw : Region.wanted o (yielded ops a.tmps) = true)
    {z : Value} {bytes : Nat} (ht : P.underlying t = some (.slice e)) (hinfo : (P.info? e).map (fun i => (i.zero, i.size, i.bytes)) = some (some z, 1, bytes)) (hzs : z.cells.size = 1)
    {v : Value} {n : Nat} {xs : List Value} {base : Nat} (hx : a.eval x = v) (hown : w.ownsRow base e 1 v n xs) (hy : a.eval y = .slice (some ⟨w.heap.size, 0, none⟩) 1 1) (h1 : u.oneCell' = true)
    (h63 : n + 1 ≤ maxLen) (hbytes : (n + 1) * bytes ≤ 140737488355328) (hbase : base ≤ w.heap.size)
    (h : ∀ v' w', w'.ownsRow base e 1 v' (n + 1) (xs ++ [u]) → w.grownBy w' v.ownBlock → Stayed w v v' → wpList P ops Q rest (a.put o.dst v') w') : wpList P ops Q (o :: rest) a (w.alloc (.cells #[u] e)) := by
  have hrd : Rd (w.alloc (.cells #[u] e)) 1 (.slice (some ⟨w.heap.size, 0, none⟩) 1 1) 1 [u] := by
    refine ⟨rfl, _, _, rfl, Nat.le_refl _, (by unfold maxLen; omega), (fun h => by cases h), fun j u' hu => ⟨_, 0, rfl, ?_⟩⟩
    rw [Nat.zero_add, World.cell?_alloc_new]
    simpa using hu
  refine wpList_append_at x y t ho hw ht hinfo hzs (by omega) hx (hown.alloc _) hy hrd (by intro u' hu'; simp at hu'; subst hu'; exact h1) h63 hbytes (by simp; omega) fun v' w' ho' hg hst => h v' w' ho' ((World.grownBy_alloc _ _ _).trans hg) ?_
  exact hst.imp id fun ⟨k, h1, h2⟩ => ⟨k, h1, by simp at h2; omega⟩

/-- '[]T{x, y, ..}', elements of one cell, with its place -/
theorem wpList_build_at {t : TypeId} {n : Nat} {parts : Array (Nat × Operand)} (ho : o.op = .buildSlice t n parts) (hw : Region.wanted o (yielded ops a.tmps) = true) {e : TypeId} (ht : P.underlying t = some (.slice e)) {z : Value} {bytes : Nat} (hinfo : (P.info? e).map (fun i => (i.zero, i.size, i.bytes)) = some (some z, 1, bytes))
    (hidx : parts.toList.map (·.1) = List.range' 0 n) (hn0 : 0 < n) (hn1 : n ≤ 100000) {cs : List Value} (hcs : parts.toList.map (fun p => a.eval p.2) = cs) (h1 : ∀ u ∈ cs, u.oneCell' = true)
    (h : ∀ w', Blk w' w.heap.size e cs → Below w.heap.size w w' → w'.heap.size = w.heap.size + 1 → wpList P ops Q rest (a.put o.dst (.slice (some ⟨w.heap.size, 0, none⟩) n n)) w') : wpList P ops Q (o :: rest) a w := by
  obtain ⟨i, hi, hz, hsz, hby⟩ := info_parts hinfo
  have hlen : parts.toList.length = n := by have := congrArg List.length hidx; simpa using this
  have hcl : cs.length = n := by rw [← hcs, List.length_map, hlen]
  have hf : Instr.fill (fun i => some (i * 1, 1)) ((Array.range (n * 1)).map (z.cells[· % z.cells.size]!)) (parts.map fun (i, x) => (i, a.eval x)).toList = some cs.toArray := by
    have hzz : ((Array.range (n * 1)).map (z.cells[· % z.cells.size]!)).size = n := by simp
    obtain ⟨zs, hzs'⟩ : ∃ zs : List Value, ((Array.range (n * 1)).map (z.cells[· % z.cells.size]!)) = zs.toArray := ⟨_, (Array.toArray_toList).symm⟩
    rw [hzs'] at hzz ⊢
    have hmap : (parts.map fun (i, x) => (i, a.eval x)).toList = parts.toList.map fun p => (p.1, a.eval p.2) := by simp
    have h2 : (parts.toList.map fun p => (p.1, a.eval p.2)).map (·.2) = cs := by rw [List.map_map]; exact hcs
    have := fill_full (parts.toList.map fun p => (p.1, a.eval p.2)) 0 [] zs rfl (by simp at hzz; rw [List.length_map, hlen]; omega) (by rw [List.map_map, List.length_map, hlen]; exact hidx) (by
      intro p hp
      refine h1 p.2 ?_
      rw [← h2]
      exact List.mem_map_of_mem hp)
    rw [hmap]
    simpa [h2] using this
  refine wpList_of_run hw (v := .slice (some ⟨w.heap.size, 0, none⟩) n n) (w' := w.alloc (.cells cs.toArray e)) ?_ (h _ (heap_alloc_new w _) ((Below.refl _ _).alloc (Nat.le_refl _) _) (by simp))
  have h0' : ¬ n = 0 := by omega
  have h24 : ¬ (16777216 < n) := by omega
  unfold execOp
  simp only [ho, Instr.buildSlice, Sem.run_bind, run_underlying ht, Result.andThen_ok]
  simp only [sizeOf, typeInfo]
  simp only [Nat.mul_one, Array.toList_map] at hf
  simp [hsz, h0', h24, zeroValue, typeInfo, hi, hz, newRow]
  simp [hf]
end
end Go.Proofs.YtdlhkhnoigbhjaaDoor.Lb
namespace Go.Proofs.YtdlhkhnoigbhjaaDoor.Lb
open Go Go.RowKit Pu
/-- blocks of X that were there lie as they lay -/
def Keep (X : Nat → Prop) (w w' : World) : Prop := ∀ b, X b → b < w.heap.size → w'.heap[b]? = w.heap[b]?
theorem Keep.below {X : Nat → Prop} {w w' : World} (h : Below w.heap.size w w') : Keep X w w' := fun b _ hb => h.block b hb
theorem Keep.grown {X : Nat → Prop} {w w' : World} {r : Option Nat} (h : w.grownBy w' r) (hX : ∀ b, X b → some b ≠ r) : Keep X w w' := fun b hx hb => h.block b hb (hX b hx)
theorem Keep.only {X : Nat → Prop} {w w' : World} {B : Nat} (h : Only B w w') (hX : ∀ b, X b → b ≠ B) : Keep X w w' := Keep.grown h fun b hx e => hX b hx (by cases e; rfl)
/-- a readable slice whose cells, if there are any, lie in a block of X -/
def RdX (X : Nat → Prop) (w : World) (s : Nat) (v : Value) (n : Nat) (xs : List Value) : Prop := Rd w s v n xs ∧ ∀ b, v.ownBlock = some b → 0 < n → X b
theorem RdX.mono {X Y : Nat → Prop} {w : World} {s : Nat} {v : Value} {n : Nat} {xs : List Value} (h : RdX X w s v n xs) (hXY : ∀ b, X b → Y b) : RdX Y w s v n xs := ⟨h.1, fun b hb hn => hXY b (h.2 b hb hn)⟩
theorem RdX.keep {X : Nat → Prop} {w w' : World} {s : Nat} {v : Value} {n : Nat} {xs : List Value} (h : RdX X w s v n xs) (hk : Keep X w w') : RdX X w' s v n xs := by
  refine ⟨?_, h.2⟩
  obtain ⟨⟨hl, ad, cap, rfl, h1, h2, h3, h4⟩, hX⟩ := h
  refine ⟨hl, ad, cap, rfl, h1, h2, h3, fun j u hu => ?_⟩
  obtain ⟨b, o, rfl, hc⟩ := h4 j u hu
  refine ⟨b, o, rfl, ?_⟩
  have hj := (List.getElem?_eq_some_iff.1 hu).1
  have hn : 0 < n := by
    rcases Nat.eq_zero_or_pos n with rfl | h
    · omega
    · exact h
  have hlt := World.block_lt_of_cell? _ _ hc
  have hb := hk b (hX b rfl hn) hlt
  unfold World.cell? at hc ⊢
  rw [hb]; exact hc
theorem RdX.lt {X : Nat → Prop} {w : World} {s : Nat} {v : Value} {n : Nat} {xs : List Value} (h : RdX X w s v n xs) (hs : 0 < s) : RdX (fun b => X b ∧ b < w.heap.size) w s v n xs := by
  refine ⟨h.1, fun b hb hn => ⟨h.2 b hb hn, ?_⟩⟩
  obtain ⟨⟨hl, ad, cap, rfl, h1, h2, h3, h4⟩, hX⟩ := h
  have hl0 : 0 < xs.length := by rw [hl]; exact Nat.mul_pos hn hs
  obtain ⟨b', o, rfl, hc⟩ := h4 0 xs[0] (List.getElem?_eq_getElem hl0)
  cases hb
  exact World.block_lt_of_cell? _ _ hc
mutual
def IsTX (X : Nat → Prop) (w : World) : Tree → List Value → Prop
  | .mk k n m ts, cs => ∃ v xs, cs = [.int .i64 k, .int .i64 n, .int .i64 m, v] ∧ RdX X w 4 v ts.length xs ∧ IsTsX X w ts xs
def IsTsX (X : Nat → Prop) (w : World) : List Tree → List Value → Prop
  | [], xs => xs = []
  | t :: ts, xs => ∃ cs ys, xs = cs ++ ys ∧ cs.length = 4 ∧ IsTX X w t cs ∧ IsTsX X w ts ys
end
theorem IsTX.len {X : Nat → Prop} {w : World} {cs : List Value} : ∀ {t : Tree}, IsTX X w t cs → cs.length = 4
  | .mk _ _ _ _, h => by rw [IsTX] at h; obtain ⟨v, xs, rfl, _⟩ := h; rfl
theorem IsTsX.len {X : Nat → Prop} {w : World} : ∀ {ts : List Tree} {xs : List Value}, IsTsX X w ts xs → xs.length = ts.length * 4
  | [], xs, h => by rw [IsTsX] at h; subst h; rfl
  | t :: ts, xs, h => by
    rw [IsTsX] at h
    obtain ⟨cs, ys, rfl, h4, _, h⟩ := h
    rw [List.length_append, h4, IsTsX.len h, List.length_cons]; omega
mutual
theorem IsTX.isT {X : Nat → Prop} {w : World} : ∀ {t : Tree} {cs : List Value}, IsTX X w t cs → IsT w t cs
  | .mk _ _ _ _, _, h => by
    rw [IsTX] at h; rw [IsT]
    obtain ⟨v, xs, e, hr, ht⟩ := h
    exact ⟨v, xs, e, hr.1, IsTsX.isTs ht⟩
theorem IsTsX.isTs {X : Nat → Prop} {w : World} : ∀ {ts : List Tree} {xs : List Value}, IsTsX X w ts xs → IsTs w ts xs
  | [], _, h => by rw [IsTsX] at h; rw [IsTs]; exact h
  | _ :: _, _, h => by
    rw [IsTsX] at h; rw [IsTs]
    obtain ⟨cs, ys, e, h4, hu, h⟩ := h
    exact ⟨cs, ys, e, h4, IsTX.isT hu, IsTsX.isTs h⟩
end
mutual
theorem IsT.isTX {w : World} : ∀ {t : Tree} {cs : List Value}, IsT w t cs → IsTX (fun _ => True) w t cs
  | .mk _ _ _ _, _, h => by
    rw [IsT] at h; rw [IsTX]
    obtain ⟨v, xs, e, hr, ht⟩ := h
    exact ⟨v, xs, e, ⟨hr, fun _ _ _ => trivial⟩, IsTs.isTsX ht⟩
theorem IsTs.isTsX {w : World} : ∀ {ts : List Tree} {xs : List Value}, IsTs w ts xs → IsTsX (fun _ => True) w ts xs
  | [], _, h => by rw [IsTs] at h; rw [IsTsX]; exact h
  | _ :: _, _, h => by
    rw [IsTs] at h; rw [IsTsX]
    obtain ⟨cs, ys, e, h4, hu, h⟩ := h
    exact ⟨cs, ys, e, h4, IsT.isTX hu, IsTs.isTsX h⟩
end
mutual
theorem IsTX.mono {X Y : Nat → Prop} {w : World} (hXY : ∀ b, X b → Y b) : ∀ {t : Tree} {cs : List Value}, IsTX X w t cs → IsTX Y w t cs
  | .mk _ _ _ _, _, h => by
    rw [IsTX] at h ⊢
    obtain ⟨v, xs, e, hr, ht⟩ := h
    exact ⟨v, xs, e, hr.mono hXY, IsTsX.mono hXY ht⟩
theorem IsTsX.mono {X Y : Nat → Prop} {w : World} (hXY : ∀ b, X b → Y b) : ∀ {ts : List Tree} {xs : List Value}, IsTsX X w ts xs → IsTsX Y w ts xs
  | [], _, h => by rw [IsTsX] at h ⊢; exact h
  | _ :: _, _, h => by
    rw [IsTsX] at h ⊢
    obtain ⟨cs, ys, e, h4, hu, h⟩ := h
    exact ⟨cs, ys, e, h4, IsTX.mono hXY hu, IsTsX.mono hXY h⟩
end
mutual
theorem IsTX.keep {X : Nat → Prop} {w w' : World} (hk : Keep X w w') : ∀ {t : Tree} {cs : List Value}, IsTX X w t cs → IsTX X w' t cs
  | .mk _ _ _ _, _, h => by
    rw [IsTX] at h ⊢
    obtain ⟨v, xs, e, hr, ht⟩ := h
    exact ⟨v, xs, e, hr.keep hk, IsTsX.keep hk ht⟩
theorem IsTsX.keep {X : Nat → Prop} {w w' : World} (hk : Keep X w w') : ∀ {ts : List Tree} {xs : List Value}, IsTsX X w ts xs → IsTsX X w' ts xs
  | [], _, h => by rw [IsTsX] at h ⊢; exact h
  | _ :: _, _, h => by
    rw [IsTsX] at h ⊢
    obtain ⟨cs, ys, e, h4, hu, h⟩ := h
    exact ⟨cs, ys, e, h4, IsTX.keep hk hu, IsTsX.keep hk h⟩
end
mutual
theorem IsTX.lt {X : Nat → Prop} {w : World} : ∀ {t : Tree} {cs : List Value}, IsTX X w t cs → IsTX (fun b => X b ∧ b < w.heap.size) w t cs
  | .mk _ _ _ _, _, h => by
    rw [IsTX] at h ⊢
    obtain ⟨v, xs, e, hr, ht⟩ := h
    exact ⟨v, xs, e, hr.lt (by decide), IsTsX.lt ht⟩
theorem IsTsX.lt {X : Nat → Prop} {w : World} : ∀ {ts : List Tree} {xs : List Value}, IsTsX X w ts xs → IsTsX (fun b => X b ∧ b < w.heap.size) w ts xs
  | [], _, h => by rw [IsTsX] at h ⊢; exact h
  | _ :: _, _, h => by
    rw [IsTsX] at h ⊢
    obtain ⟨cs, ys, e, h4, hu, h⟩ := h
    exact ⟨cs, ys, e, h4, IsTX.lt hu, IsTsX.lt h⟩
end
theorem IsTX.below {X : Nat → Prop} {w w' : World} (hb : Below w.heap.size w w') {t : Tree} {cs : List Value} (h : IsTX X w t cs) : IsTX X w' t cs := h.keep (Keep.below hb)
theorem IsTsX.below {X : Nat → Prop} {w w' : World} (hb : Below w.heap.size w w') {t : List Tree} {cs : List Value} (h : IsTsX X w t cs) : IsTsX X w' t cs := h.keep (Keep.below hb)
theorem IsTX.only {X : Nat → Prop} {w w' : World} {B : Nat} (h : Only B w w') (hX : ∀ b, X b → b ≠ B) {t : Tree} {cs : List Value} (hT : IsTX X w t cs) : IsTX X w' t cs := hT.keep (Keep.only h hX)
theorem IsTsX.only {X : Nat → Prop} {w w' : World} {B : Nat} (h : Only B w w') (hX : ∀ b, X b → b ≠ B) {t : List Tree} {cs : List Value} (hT : IsTsX X w t cs) : IsTsX X w' t cs := hT.keep (Keep.only h hX)
theorem IsTsX.app {X : Nat → Prop} {w : World} : ∀ {ts us : List Tree} {xs ys : List Value}, IsTsX X w ts xs → IsTsX X w us ys → IsTsX X w (ts ++ us) (xs ++ ys)
  | [], us, xs, ys, h, h2 => by rw [IsTsX] at h; subst h; exact h2
  | t :: ts, us, xs, ys, h, h2 => by
    rw [IsTsX] at h
    obtain ⟨cs, zs, rfl, h4, hu, h⟩ := h
    rw [List.cons_append, IsTsX]
    exact ⟨cs, zs ++ ys, by rw [List.append_assoc], h4, hu, IsTsX.app h h2⟩
theorem IsTsX.nil {X : Nat → Prop} {w : World} : IsTsX X w [] [] := by rw [IsTsX]
theorem IsTsX.one {X : Nat → Prop} {w : World} {t : Tree} {cs : List Value} (h : IsTX X w t cs) : IsTsX X w [t] cs := by
  rw [IsTsX]; exact ⟨cs, [], by simp, h.len, h, by rw [IsTsX]⟩
theorem IsTsX.snoc {X : Nat → Prop} {w : World} {ts : List Tree} {xs : List Value} {t : Tree} {cs : List Value} (h : IsTsX X w ts xs) (ht : IsTX X w t cs) : IsTsX X w (ts ++ [t]) (xs ++ cs) := h.app (IsTsX.one ht)
theorem IsTsX.get {X : Nat → Prop} {w : World} : ∀ {ts : List Tree} {xs : List Value}, IsTsX X w ts xs → ∀ {i : Nat} {t : Tree}, ts[i]? = some t → IsTX X w t ((xs.drop (i * 4)).take 4)
  | [], _, _, i, t, hi => by simp at hi
  | u :: ts, xs, h, i, t, hi => by
    rw [IsTsX] at h
    obtain ⟨cs, ys, rfl, h4, hu, h⟩ := h
    cases i with
    | zero =>
      simp only [List.getElem?_cons_zero, Option.some.injEq] at hi
      subst hi
      rw [Nat.zero_mul, List.drop_zero, ← h4, List.take_left]; exact hu
    | succ i =>
      rw [List.getElem?_cons_succ] at hi
      rw [show (i + 1) * 4 = cs.length + i * 4 by omega, ← List.drop_drop, List.drop_left]
      exact IsTsX.get h hi
theorem IsTsX.take {X : Nat → Prop} {w : World} : ∀ {ts : List Tree} {xs : List Value}, IsTsX X w ts xs → ∀ (i : Nat), IsTsX X w (ts.take i) (xs.take (i * 4))
  | _, _, _, 0 => by rw [List.take_zero, Nat.zero_mul, List.take_zero, IsTsX]
  | [], xs, h, i + 1 => by rw [IsTsX] at h; subst h; simp [IsTsX]
  | u :: ts, xs, h, i + 1 => by
    rw [IsTsX] at h
    obtain ⟨cs, ys, rfl, h4, hu, h⟩ := h
    rw [List.take_succ_cons, IsTsX, show (i + 1) * 4 = cs.length + i * 4 by omega, List.take_length_add_append]
    exact ⟨cs, _, rfl, h4, hu, IsTsX.take h i⟩
theorem IsTsX.drop {X : Nat → Prop} {w : World} : ∀ {ts : List Tree} {xs : List Value}, IsTsX X w ts xs → ∀ (i : Nat), IsTsX X w (ts.drop i) (xs.drop (i * 4))
  | _, _, h, 0 => by rw [List.drop_zero, Nat.zero_mul, List.drop_zero]; exact h
  | [], xs, h, i + 1 => by rw [IsTsX] at h; subst h; simp [IsTsX]
  | u :: ts, xs, h, i + 1 => by
    rw [IsTsX] at h
    obtain ⟨cs, ys, rfl, h4, hu, h⟩ := h
    rw [List.drop_succ_cons, show (i + 1) * 4 = cs.length + i * 4 by omega, ← List.drop_drop, List.drop_left]
    exact IsTsX.drop h i
theorem IsTsX.ones {X : Nat → Prop} {w : World} : ∀ {ts : List Tree} {xs : List Value}, IsTsX X w ts xs → ∀ u ∈ xs, u.oneCell' = true
  | [], _, h => by rw [IsTsX] at h; subst h; intro u hu; cases hu
  | t :: ts, xs, h => by
    rw [IsTsX] at h
    obtain ⟨cs, ys, rfl, _, hu, h⟩ := h
    intro u hm
    rcases List.mem_append.1 hm with hm | hm
    · exact hu.isT.ones u hm
    · exact IsTsX.ones h u hm
/-- a node over kids -/
theorem IsTX.node {X : Nat → Prop} {w : World} {k n m : Int} {ts : List Tree} {v : Value} {xs : List Value} (hr : Rd w 4 v ts.length xs) (hX : ∀ b, v.ownBlock = some b → 0 < ts.length → X b) (h : IsTsX X w ts xs) : IsTX X w (.mk k n m ts) [.int .i64 k, .int .i64 n, .int .i64 m, v] := by
  rw [IsTX]; exact ⟨v, xs, rfl, ⟨hr, hX⟩, h⟩
theorem IsTX.leaf {X : Nat → Prop} {w : World} {k n m : Int} : IsTX X w (.mk k n m []) [.int .i64 k, .int .i64 n, .int .i64 m, .slice none 0 0] :=
  IsTX.node (rd_nil w 4) (by intro b hb; cases hb) IsTsX.nil
theorem IsTX.open_ {X : Nat → Prop} {w : World} {k n m : Int} {ts : List Tree} {cs : List Value} (h : IsTX X w (.mk k n m ts) cs) : ∃ v xs, cs = [.int .i64 k, .int .i64 n, .int .i64 m, v] ∧ RdX X w 4 v ts.length xs ∧ IsTsX X w ts xs := by rw [IsTX] at h; exact h
end Go.Proofs.YtdlhkhnoigbhjaaDoor.Lb
namespace Go.Proofs.YtdlhkhnoigbhjaaDoor.Lb
open Go Go.RowKit Go.Lib
theorem foldl_place (cs : List Value) : ∀ (k o : Nat) (pre zs post : List Value), pre.length = o + k → zs.length = cs.length →
    (cs.zipIdx k).foldl (fun (acc : Array Value) x => acc.setIfInBounds (o + x.2) x.1) (pre ++ (zs ++ post)).toArray = (pre ++ (cs ++ post)).toArray := by
  induction cs with
  | nil => intro k o pre zs post _ h2; rw [List.eq_nil_of_length_eq_zero h2]; rfl
  | cons c cs ih =>
    intro k o pre zs post h1 h2
    cases zs with
    | nil => simp at h2
    | cons z zs =>
      rw [List.zipIdx_cons, List.foldl_cons]
      have e : (pre ++ (z :: zs ++ post)).toArray.setIfInBounds (o + k) c = ((pre ++ [c]) ++ (zs ++ post)).toArray := by
        rw [List.setIfInBounds_toArray, List.set_append_right _ _ (by omega), h1, Nat.sub_self, List.cons_append, List.set_cons_zero]; simp
      rw [e, ih (k + 1) o (pre ++ [c]) zs post (by simp [h1]; omega) (by simpa using h2)]
      simp
theorem fill_sts (s : Nat) : ∀ (ps : List (Nat × Value)) (css : List (List Value)) (k : Nat) (pre zs : List Value), pre.length = k * s → zs.length = ps.length * s → ps.map (·.1) = List.range' k ps.length →
    ps.map (fun p => p.2.cells) = css.map List.toArray → (∀ c ∈ css, c.length = s) → Instr.fill (fun i => some (i * s, s)) (pre ++ zs).toArray ps = some (pre ++ css.flatten).toArray
  | [], css, k, pre, zs, _, h2, _, h4, _ => by
    have : css = [] := by cases css with | nil => rfl | cons a b => simp at h4
    subst this
    rw [List.eq_nil_of_length_eq_zero (l := zs) (by simpa using h2)]; rfl
  | (i, v) :: ps, css, k, pre, zs, h1, h2, h3, h4, h5 => by
    cases css with
    | nil => simp at h4
    | cons c css =>
      rw [List.map_cons, List.map_cons, List.cons.injEq] at h4
      obtain ⟨hv, h4⟩ := h4
      rw [List.map_cons, List.length_cons, List.range'_succ, List.cons.injEq] at h3
      obtain ⟨rfl, h3⟩ := h3
      have hc := h5 c (by simp)
      simp only at h1
      rw [List.length_cons, Nat.add_mul, Nat.one_mul] at h2
      obtain ⟨z1, z2, rfl, hz1⟩ : ∃ z1 z2, zs = z1 ++ z2 ∧ z1.length = s := ⟨zs.take s, zs.drop s, (List.take_append_drop s zs).symm, by rw [List.length_take]; omega⟩
      have hfold := foldl_place c 0 (i * s) pre z1 z2 (by omega) (by omega)
      have hsz : ¬ ((pre ++ (z1 ++ z2)).length < i * s + c.length) := by rw [List.length_append, List.length_append]; omega
      have ih := fill_sts s ps css (i + 1) (pre ++ c) z2 (by rw [List.length_append, Nat.add_mul]; omega) (by rw [List.length_append] at h2; omega) h3 h4 (fun x hx => h5 x (by simp [hx]))
      simp only at hv
      rw [List.flatten_cons, ← List.append_assoc pre c, ← ih]
      conv => lhs; unfold Instr.fill
      simp only [hv, List.size_toArray, hc, ne_eq, not_true_eq_false, gt_iff_lt]
      rw [if_neg (by rw [hc] at hsz; simpa using hsz)]
      congr 1
      rw [List.append_assoc, ← hfold]
      simp
section
variable {P : Program} {ops : Array Oper} {Q : Exit → Act → World → Prop} {a : Act} {w : World} {rest : List Oper} {o : Oper}
/-- '[]T{x, y, ..}' -/
theorem wpList_build_sts {t : TypeId} {n : Nat} {parts : Array (Nat × Operand)} (ho : o.op = .buildSlice t n parts) (hw : Region.wanted o (yielded ops a.tmps) = true) {e : TypeId} (ht : P.underlying t = some (.slice e)) {z : Value} {s bytes : Nat} (hinfo : (P.info? e).map (fun i => (i.zero, i.size, i.bytes)) = some (some z, s, bytes))
    (hidx : parts.toList.map (·.1) = List.range' 0 n) (hn0 : 0 < n * s) (hn1 : n * s ≤ 100000) {css : List (List Value)} (hcs : parts.toList.map (fun p => (a.eval p.2).cells) = css.map List.toArray) (h1 : ∀ c ∈ css, c.length = s)
    (h : ∀ w', Blk w' w.heap.size e css.flatten → Below w.heap.size w w' → w'.heap.size = w.heap.size + 1 → wpList P ops Q rest (a.put o.dst (.slice (some ⟨w.heap.size, 0, none⟩) n n)) w') : wpList P ops Q (o :: rest) a w := by
  obtain ⟨i, hi, hz, hsz, hby⟩ := info_parts hinfo
  have hlen : parts.toList.length = n := by have := congrArg List.length hidx; simpa using this
  have hf : Instr.fill (fun i => some (i * s, s)) ((Array.range (n * s)).map (z.cells[· % z.cells.size]!)) (parts.map fun (i, x) => (i, a.eval x)).toList = some css.flatten.toArray := by
    have hzz : ((Array.range (n * s)).map (z.cells[· % z.cells.size]!)).size = n * s := by simp
    obtain ⟨zs, hzs'⟩ : ∃ zs : List Value, ((Array.range (n * s)).map (z.cells[· % z.cells.size]!)) = zs.toArray := ⟨_, (Array.toArray_toList).symm⟩
    rw [hzs'] at hzz ⊢
    have hmap : (parts.map fun (i, x) => (i, a.eval x)).toList = parts.toList.map fun p => (p.1, a.eval p.2) := by simp
    rw [hmap]
    have := fill_sts s (parts.toList.map fun p => (p.1, a.eval p.2)) css 0 [] zs (by simp) (by simp at hzz; rw [List.length_map, hlen]; omega) (by rw [List.map_map, List.length_map, hlen]; exact hidx) (by rw [List.map_map]; exact hcs) h1
    simpa using this
  refine wpList_of_run hw (v := .slice (some ⟨w.heap.size, 0, none⟩) n n) (w' := w.alloc (.cells css.flatten.toArray e)) ?_ (h _ (heap_alloc_new w _) ((Below.refl _ _).alloc (Nat.le_refl _) _) (by simp))
  have h0' : ¬ (n * s = 0) := by omega
  have h24 : ¬ (16777216 < n * s) := by omega
  unfold execOp
  simp only [ho, Instr.buildSlice, Sem.run_bind, run_underlying ht, Result.andThen_ok]
  simp only [sizeOf, typeInfo]
  simp only [Array.toList_map] at hf
  simp [hsz, h0', h24, zeroValue, typeInfo, hi, hz, newRow]
  simp [hf]
/-- a whole literal reads as a slice -/
theorem Blk.rdall {w : World} {B : Nat} {t : TypeId} {cs : List Value} (h : Blk w B t cs) (n s : Nat) (hl : cs.length = n * s) (hn : n ≤ maxLen) : Rd w s (.slice (some ⟨B, 0, none⟩) n n) n cs := by
  have hr := h.rd 0 n n s (by omega) (Nat.le_refl _) hn
  rwa [List.drop_zero, List.take_of_length_le (by omega)] at hr
end
end Go.Proofs.YtdlhkhnoigbhjaaDoor.Lb
namespace Go.Proofs.YtdlhkhnoigbhjaaDoor.Lb
open Go Go.RowKit

section
variable {P : Program} {Q : Exit → Act → World → Prop}

theorem monAnyG {l : List Oper} {n : Nat} {a0 : Act} (I : World → Prop) (T : World → World → Prop) (hIT : ∀ w w', I w → T w w' → I w') (S : Nat → Value → World → Prop) (hB : monB .any l n = true)
    (hmono : ∀ i v w w', S i v w → T w w' → S i v w')
    (step : ∀ i o, i < n → l[i]? = some o → ∀ us w, us.length = n → I w → (∀ j, waits .any l.toArray i j = true → S j (us.getD j undef) w) →
      wpList P l.toArray (nextTo fun a' w' => ∃ v, a' = (puts a0 ((l.take n).map (·.dst)) us).put o.dst v ∧ T w w' ∧ S i v w') [o] (puts a0 ((l.take n).map (·.dst)) us) w)
    (fin : ∀ us w, us.length = n → I w → (∀ i, i < n → S i (us.getD i undef) w) → wpList P l.toArray (onlyNormal Q) (l.drop n) (puts a0 ((l.take n).map (·.dst)) us) w) :
    ∀ (k : Nat) (listed : Array Bool) (us : List Value) (w : World), (∀ t o, l[t]? = some o → listed.getD t false = true → ∀ j ∈ deps .any o, listed.getD j false = true) → listed.size = l.length → ((List.range n).filter fun i => !listed.getD i true).length = k → (∀ t, n ≤ t → t < l.length → listed.getD t true = false) →
      us.length = n → I w → (∀ i, i < n → listed.getD i false = true → S i (us.getD i undef) w) →
      wpAny P .any l.toArray (onlyNormal Q) (k + (l.length - n)) listed (puts a0 ((l.take n).map (·.dst)) us) w := by
  simp only [monB, Bool.and_eq_true, decide_eq_true_eq] at hB
  obtain ⟨⟨⟨⟨hn, hap⟩, hanc⟩, hall⟩, hseq⟩ := hB
  have hback : ∀ t o, l[t]? = some o → ∀ e ∈ o.after, Region.binds .any e = true → e.on < t := fun t o ho e he hb => by
    have htl : t < l.length := (List.getElem?_eq_some_iff.1 ho).1
    have h1 := List.all_eq_true.1 hall t (List.mem_range.2 htl)
    rw [ho] at h1
    simp only [Bool.and_eq_true, Array.all_eq_true_iff_forall_mem] at h1
    have h2 := h1.2 e he
    simpa [hb] using h2
  have htail : ∀ t o, n ≤ t → l[t]? = some o → ∀ listed : Array Bool, (∀ t o, l[t]? = some o → listed.getD t false = true → ∀ j ∈ deps .any o, listed.getD j false = true) → (∀ e ∈ o.after, Region.binds .any e = true → listed.getD e.on false = true) → ∀ i, i < n → listed.getD i false = true := fun t o ht ho listed hc hr i hi => by
    have htl : t < l.length := (List.getElem?_eq_some_iff.1 ho).1
    have h1 := List.all_eq_true.1 hall t (List.mem_range.2 htl)
    simp only [Bool.and_eq_true, Bool.or_eq_true, decide_eq_true_eq] at h1
    have h2 := h1.1.resolve_left (by omega)
    have h3 := List.all_eq_true.1 h2 i (List.mem_range.2 hi)
    rw [List.contains_iff_mem] at h3
    exact anc_listed hanc hc t o ho (fun j hj => by obtain ⟨e, h4, h5, rfl⟩ := mem_deps.1 hj; exact hr e h4 h5) i h3
  intro k
  induction k with
  | zero =>
    intro listed us w hcl hsz hk ht hl hw hS
    have hdone : ∀ i, i < n → listed.getD i true = true := fun i hi => by
      have h0 := List.eq_nil_of_length_eq_zero hk
      cases hb : listed.getD i true with
      | true => rfl
      | false =>
        have : i ∈ (List.range n).filter fun i => !listed.getD i true := List.mem_filter.2 ⟨List.mem_range.2 hi, by simp [hb]⟩
        rw [h0] at this; cases this
    have hd2 : ∀ i, i < n → listed.getD i false = true := fun i hi => by
      have h1 := hdone i hi
      have hlt : i < listed.size := by omega
      simp [hlt] at h1 ⊢; exact h1
    have heq : listed = doneUpto n l.length := by
      apply Array.ext (by simp [doneUpto, hsz])
      intro i h1 h2
      by_cases hi : i < n
      · have h3 := hdone i hi
        simp [h1] at h3
        simp [doneUpto, h3, hi]
      · have h3 := ht i (by omega) (by omega)
        simp [h1] at h3
        simp [doneUpto, h3, hi]
    rw [Nat.zero_add, heq]
    have := wpAny_of_seq (P := P) (md := .any) (ops := l.toArray) (Q' := onlyNormal Q) (l.drop n) n (doneUpto n l.length) _ w (fun j => by simp [List.getElem?_drop]) (by rw [List.length_drop]; exact hseq) (fin us w hl hw (fun i hi => hS i hi (hd2 i hi)))
    rw [List.length_drop] at this
    exact this
  | succ k ih =>
    intro listed us w hcl hsz hk ht hl hw hS
    rw [show k + 1 + (l.length - n) = (k + (l.length - n)) + 1 by omega]
    -- some operation ahead of the tail is not done
    have hex : ∃ i, i < n ∧ listed.getD i true = false := by
      obtain ⟨i, hi⟩ := List.exists_mem_of_length_pos (l := (List.range n).filter fun i => !listed.getD i true) (by omega)
      rw [List.mem_filter] at hi
      exact ⟨i, List.mem_range.1 hi.1, by simpa using hi.2⟩
    have hready : ∃ i, i ∈ Region.ready .any l.toArray listed := by
      obtain ⟨i, hi, hun⟩ := hex
      induction i using Nat.strongRecOn with
      | _ i ihi =>
        have hil : i < l.length := by omega
        have ho : l[i]? = some l[i] := by simp [hil]
        by_cases hall2 : ∀ e ∈ (l[i]).after, Region.binds .any e = true → listed.getD e.on false = true
        · exact ⟨i, mem_ready.2 ⟨hun, l[i], by simp [hil], hall2⟩⟩
        · simp only [Classical.not_forall] at hall2
          obtain ⟨e, he, hb, hne⟩ := hall2
          have hlt := hback i _ ho e he hb
          have hun2 : listed.getD e.on true = false := by
            have hes : e.on < listed.size := by omega
            simp [hes] at hne ⊢; exact hne
          exact ihi e.on hlt (by omega) hun2
    refine ⟨fun h => ?_, fun i hi => ?_⟩
    · obtain ⟨i, hi⟩ := hready; rw [h] at hi; cases hi
    · obtain ⟨hun, o, ho, hwt⟩ := mem_ready.1 hi
      rw [List.getElem?_toArray] at ho
      have hin : i < n := by
        rcases Nat.lt_or_ge i n with h | h
        · exact h
        · obtain ⟨j, hj, hjun⟩ := hex
          have := htail i o h ho listed hcl hwt j hj
          rw [getD_false_of hjun] at this
          cases this
      have hst := step i o hin ho us w hl hw (fun j hj => by
        unfold waits at hj
        rw [List.getElem?_toArray, ho] at hj
        obtain ⟨e, he, hb⟩ := Array.any_eq_true'.1 hj
        simp only [Bool.and_eq_true, beq_iff_eq] at hb
        have h1 := hwt e he hb.1
        have h2 := hback i o ho e he hb.1
        rw [hb.2] at h1 h2
        exact hS j (by omega) h1)
      refine wpOp_mono ?_ (wpOp_of_list (by rw [List.getElem?_toArray]; exact ho) hst)
      rintro a' w' ⟨v, rfl, hb', hSi⟩
      have hds : ((l.take n).map (·.dst))[i]? = some o.dst := by
        rw [List.getElem?_map, List.getElem?_take, if_pos hin, ho]; rfl
      have hus : us.length = ((l.take n).map (·.dst)).length := by rw [List.length_map, List.length_take, hl]; omega
      rw [puts_set _ us a0 i o.dst hap hus hds]
      refine ih (listed.setIfInBounds i true) (us.set i v) w' (fun t o' ho' htd j hj => ?_) (by simpa using hsz) ?_ (fun t h1 h2 => by rw [getD_set_ne true (by omega)]; exact ht t h1 h2) (by simpa using hl) (hIT _ _ hw hb') (fun j hj hjl => ?_)
      · have hsj : listed.getD j false = true := by
          by_cases hti : t = i
          · subst hti
            rw [ho] at ho'
            cases ho'
            obtain ⟨e, h4, h5, rfl⟩ := mem_deps.1 hj
            exact hwt e h4 h5
          · rw [getD_set_ne false (Ne.symm hti)] at htd
            exact hcl t o' ho' htd j hj
        by_cases hji : j = i
        · subst hji
          simp [show j < listed.size by omega]
        · rw [getD_set_ne false (Ne.symm hji)]; exact hsj
      · -- one fewer
        have hsub : (List.range n).filter (fun x => !(listed.setIfInBounds i true).getD x true) = ((List.range n).filter fun x => !listed.getD x true).erase i := by
          rw [List.Nodup.erase_eq_filter (List.Pairwise.filter _ List.nodup_range), List.filter_filter]
          apply List.filter_congr
          intro x hx
          by_cases hxi : x = i
          · subst hxi
            have hxs : x < listed.size := by omega
            simp [hxs]
          · rw [getD_set_ne true (Ne.symm hxi)]; simp [hxi]
        rw [hsub, List.length_erase_of_mem (List.mem_filter.2 ⟨List.mem_range.2 hin, by simp [hun]⟩), hk]; omega
      · by_cases hji : j = i
        · subst hji
          have : (us.set j v).getD j undef = v := by simp [List.getD_eq_getElem?_getD, hl, hin]
          rw [this]; exact hSi
        · rw [getD_set_ne false (Ne.symm hji)] at hjl
          have : (us.set i v).getD j undef = us.getD j undef := by simp [List.getD_eq_getElem?_getD, List.getElem?_set_ne (Ne.symm hji)]
          rw [this]; exact hmono _ _ _ _ (hS j hj hjl) hb'

/-- the region's law -/
theorem wp_region_monoG {id : Nat} {a : Act} {w : World} {l : List Oper} (n : Nat) (I : World → Prop) (T : World → World → Prop) (h0 : I w.drew) (hIT : ∀ w w', I w → T w w' → I w') (S : Nat → Value → World → Prop) (hm : P.follows .mixedOrders = true) (hB : monB .any l n = true)
    (hmono : ∀ i v w w', S i v w → T w w' → S i v w')
    (step : ∀ i o, i < n → l[i]? = some o → ∀ us w', us.length = n → I w' → (∀ j, waits .any l.toArray i j = true → S j (us.getD j undef) w') →
      wpList P l.toArray (nextTo fun a' w'' => ∃ v, a' = (puts a ((l.take n).map (·.dst)) us).put o.dst v ∧ T w' w'' ∧ S i v w'') [o] (puts a ((l.take n).map (·.dst)) us) w')
    (fin : ∀ us w', us.length = n → I w' → (∀ i, i < n → S i (us.getD i undef) w') → wpList P l.toArray (onlyNormal Q) (l.drop n) (puts a ((l.take n).map (·.dst)) us) w') :
    (Code.region id l.toArray true).wp P Q a w := by
  have hB' := hB
  simp only [monB, Bool.and_eq_true, decide_eq_true_eq] at hB'
  have hn := hB'.1.1.1.1
  have hsz : ∀ i, (Array.replicate l.length false).getD i false = false := getD_replicate_false _
  refine wp_region_any hm (wpAny_of_N _ _ _ _ ?_)
  have hus : (((l.take n).map (·.dst)).map (cur a)).length = n := by simp; omega
  have := monAnyG (Q := Q) I T hIT S hB hmono (fun i o hi ho us w' hl hw hd => step i o hi ho us w' hl hw hd) (fun us w' hl hw hS => fin us w' hl hw hS)
    n (Array.replicate l.length false) (((l.take n).map (·.dst)).map (cur a)) w.drew (fun t _ _ h => by rw [hsz] at h; cases h) (by simp) (by
      rw [List.filter_eq_self.2 (fun i hi => by
        have : i < l.length := by have := List.mem_range.1 hi; omega
        simp [this])]
      simp) (fun t _ h2 => by simp [h2]) hus h0 (fun i _ hl => by rw [hsz] at hl; cases hl)
  rw [puts_cur, show n + (l.length - n) = l.length by omega] at this
  simpa using this
end
end Go.Proofs.YtdlhkhnoigbhjaaDoor.Lb
