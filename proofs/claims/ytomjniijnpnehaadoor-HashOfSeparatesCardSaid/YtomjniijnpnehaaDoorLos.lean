/-
  The law HashOfSeparates, walked. Conditions: the constants lie as the program's text lays them.
-/
import Derived.Test.YtomjniijnpnehaaDoorLsm
namespace Go.Proofs.YtomjniijnpnehaaDoor.Lb
open Go Go.RowKit Go.Lib
section
variable {P : Program} {ops : Array Oper} {Q : Exit → Act → World → Prop} {a : Act} {w : World} {rest : List Oper} {o : Oper}
theorem wpList_str_neq (x y : Operand) (t r : TypeId) (ho : o.op = .binOp .neq t x y r) (hw : Region.wanted o (yielded ops a.tmps) = true) {l m : List UInt8} (hx : a.eval x = .string ⟨l.toArray⟩) (hy : a.eval y = .string ⟨m.toArray⟩)
    (h : wpList P ops Q rest (a.put o.dst (.bool (!decide (l = m)))) w) : wpList P ops Q (o :: rest) a w := by
  refine wpList_of_run hw (v := .bool (!decide (l = m))) (w' := w) ?_ h
  unfold execOp
  simp only [ho, hx, hy, eqGuard, binOp, Op.stringOp, str_eql]
  simp
end
end Go.Proofs.YtomjniijnpnehaaDoor.Lb
namespace Go.Proofs.YtomjniijnpnehaaDoor.Pu
/-- one part's code is read back off the front -/
theorem encBytes_cut {x y a b : List UInt8} (hx : (x.length : Int) ≤ 9223372036854775807) (hy : (y.length : Int) ≤ 9223372036854775807) (h : encBytes x ++ a = encBytes y ++ b) : x = y ∧ a = b := by
  unfold encBytes at h
  rw [List.append_assoc, List.append_assoc] at h
  have h1 := get_enc x.length (x ++ a) (by omega) hx
  have h2 := get_enc y.length (y ++ b) (by omega) hy
  rw [h] at h1
  have h3 := h1.symm.trans h2
  simp only [Prod.mk.injEq] at h3
  have hl : x.length = y.length := by omega
  rw [hl] at h
  have h4 := List.append_cancel_left h
  exact List.append_inj h4 hl
theorem parts_inj : ∀ {l m : List (List UInt8)}, (∀ s ∈ l, (s.length : Int) ≤ 9223372036854775807) → (∀ s ∈ m, (s.length : Int) ≤ 9223372036854775807) → l.flatMap encBytes = m.flatMap encBytes → l = m
  | [], [], _, _, _ => rfl
  | [], y :: r, _, _, h => by
    rw [List.flatMap_cons] at h
    have h := congrArg List.length h
    rw [List.length_append, encBytes, List.length_append, enc_length] at h
    simp only [List.flatMap_nil, List.length_nil] at h
    omega
  | x :: l, [], _, _, h => by
    rw [List.flatMap_cons] at h
    have h := congrArg List.length h
    rw [List.length_append, encBytes, List.length_append, enc_length] at h
    simp only [List.flatMap_nil, List.length_nil] at h
    omega
  | x :: l, y :: m, hl, hm, h => by
    rw [List.flatMap_cons, List.flatMap_cons] at h
    obtain ⟨rfl, h2⟩ := encBytes_cut (hl x (by simp)) (hm y (by simp)) h
    rw [parts_inj (fun s hs => hl s (by simp [hs])) (fun s hs => hm s (by simp [hs])) h2]
theorem inp_inj {a b : UInt8} {l m : List (List UInt8)} (hl : ∀ s ∈ l, s.length ≤ 400) (hm : ∀ s ∈ m, s.length ≤ 400) : inp (a.toNat : Int) l = inp (b.toNat : Int) m ↔ a = b ∧ l = m := by
  constructor
  · intro h
    unfold inp at h
    rw [List.cons.injEq] at h
    refine ⟨?_, parts_inj (fun s hs => by have := hl s hs; omega) (fun s hs => by have := hm s hs; omega) h.2⟩
    have h1 := bt_toNat (a.toNat : Int)
    have h2 := bt_toNat (b.toNat : Int)
    rw [h.1] at h1
    have ha := a.toNat_lt
    have hb := b.toNat_lt
    apply UInt8.toNat_inj.1
    omega
  · rintro ⟨rfl, rfl⟩; rfl
end Go.Proofs.YtomjniijnpnehaaDoor.Pu
namespace Go.Proofs.YtomjniijnpnehaaDoor.Wi
open Go Go.RowKit Pu Lb
set_option linter.unusedSimpArgs false
set_option linter.unusedVariables false
attribute [local irreducible] comp sched comps sha outS mac digOf hexOf fewB

theorem take_dec {X Y : List UInt8} {t : Nat} {p q : UInt8} (hx : X[t]? = some p) (hy : Y[t]? = some q) : decide (X.take (t + 1) = Y.take (t + 1)) = (decide (X.take t = Y.take t) && decide (p = q)) := by
  rw [Bool.eq_iff_iff, Bool.and_eq_true, decide_eq_true_iff, decide_eq_true_iff, decide_eq_true_iff, List.take_add_one, List.take_add_one, hx, hy]
  constructor
  · intro h
    have := List.append_inj' h rfl
    exact ⟨this.1, by simpa using this.2⟩
  · rintro ⟨h1, rfl⟩; rw [h1]
theorem u8_dec (x y : UInt8) : decide ((x.toNat : Int) = (y.toNat : Int)) = decide (x = y) := by
  rw [Bool.eq_iff_iff]
  simp only [decide_eq_true_eq]
  constructor
  · intro h; exact UInt8.toNat_inj.1 (by omega)
  · rintro rfl; rfl
theorem u8_beq (x y : UInt8) : ((x.toNat : Int) == (y.toNat : Int)) = decide (x = y) := by
  rw [← u8_dec]; rfl
set_option maxRecDepth 100000 in
set_option maxHeartbeats 1600000 in
theorem law_sep_any (a b : UInt8) (x y : Value) (l m : List (List UInt8)) (w : World) (hT : TabH w) (hx : Rd w 1 x l.length (sv l)) (hy : Rd w 1 y m.length (sv m)) (hl : ∀ s ∈ l, s.length ≤ 140737488351232) (hm : ∀ s ∈ m, s.length ≤ 140737488351232) :
    Calls Tryd.prog 8 #[.agg (bv [a, b]).toArray, x, y] w fun e w' => e = .returned (.bool true) ∧ Below w.heap.size w w' := by
  have hb := Below.refl w.heap.size w
  have hx0 := hx
  have hy0 := hy
  have HL := Lib.hid (show ∀ s ∈ l, s.length ≤ 140737488355328 from fun s h => Nat.le_trans (hl s h) (by decide))
  have HM := Lib.hid (show ∀ s ∈ m, s.length ≤ 140737488355328 from fun s h => Nat.le_trans (hm s h) (by decide))
  clear hl hm
  by_cases hf : fewB l = true
  · by_cases hg : fewB m = true
    · have LL := Lib.hid ((fewB_iff l).1 hf)
      have LM := Lib.hid ((fewB_iff m).1 hg)
      have a8 := u8_lt a
      have b8 := u8_lt b
      go_enter Tryd.func8, Tryd.ntmps8
      go_upto_region 4 with (first
        | (((with_reducible refine' wpList_boxa (cs := bv [a, b]) 48 (.tmp 0) rfl ?_ ?_ ?_); exact rfl; exact rfl; intro w1 k1 hN hz1; simp only [Act.put, List.setIfInBounds_toArray, List.set_cons_succ, List.set_cons_zero]); replace hb := hb.trans ((by exact hN : Below _ _ _).mono hb.size); (try replace hx := Rd.below hx hN); (try replace hy := Rd.below hy hN))
        | ((go_at_call 10; (with_reducible refine (sanity_any _ (hT.below hb)).mono ?_); rintro e w' ⟨rfl, hN⟩); replace hb := hb.trans ((by exact hN : Below _ _ _).mono hb.size); (try replace hx := Rd.below hx hN); (try replace hy := Rd.below hy hN); (try replace k1 := Blk.below k1 hN (Blk.lt k1)))
        | ((go_at_call 13; (with_reducible refine (reffew_any x _ l _ hx HL.out).mono ?_); rintro e w' ⟨rfl, rfl⟩); rw [hf])
        | ((go_at_call 13; (with_reducible refine (reffew_any y _ m _ hy HM.out).mono ?_); rintro e w' ⟨rfl, rfl⟩); rw [hg]))
      obtain ⟨wm, hwm⟩ : ∃ wm : World, w' = wm := ⟨_, rfl⟩
      rw [hwm] at hb hx hy k1 ⊢
      clear hwm
      obtain ⟨B, hB⟩ : ∃ B, w.heap.size = B := ⟨_, rfl⟩
      rw [hB] at k1 ⊢
      have T0 := Lib.hid (show (bv [a, b])[0]? = some (.int .u8 (a.toNat : Int)) from rfl)
      have T1 := Lib.hid (show (bv [a, b])[1]? = some (.int .u8 (b.toNat : Int)) from rfl)
      have T2 := Lib.hid (show 0 < (bv [a, b]).length by rw [bv_length]; exact Nat.lt_of_sub_eq_succ rfl)
      have T3 := Lib.hid (show 1 < (bv [a, b]).length by rw [bv_length]; exact Nat.lt_of_sub_eq_succ rfl)
      go_cut [8] from 28 (fun v wr => v = .bool (decide (a = b ∧ l.length = m.length)) ∧ wr = wm)
      case first =>
        by_cases hab : a = b
        · by_cases hlm : l.length = m.length
          · have hd := Lib.hid (show decide (a = b ∧ l.length = m.length) = true from decide_eq_true ⟨hab, hlm⟩)
            subst hab
            go_wp2_with (first | ((with_reducible refine' wpList_at_blk (.tmp 3) (.const (.int .i64 0)) 48 rfl ?_ Tryd.underlying48 sz_u8 ?_ (0) ?_ ?_ ?_); exact rfl; exact rfl; (show (_ : Int) = _; omega); omega; simp only [Act.put, List.setIfInBounds_toArray, List.set_cons_succ, List.set_cons_zero]) | ((with_reducible refine' wpList_load_blk (.tmp 28) 5 rfl ?_ ld_u8 ?_ k1 (T0.out) ?_); exact rfl; exact rfl; simp only [Act.put, List.setIfInBounds_toArray, List.set_cons_succ, List.set_cons_zero]) | ((with_reducible refine' wpList_at_blk (.tmp 3) (.const (.int .i64 1)) 48 rfl ?_ Tryd.underlying48 sz_u8 ?_ (1) ?_ ?_ ?_); exact rfl; exact rfl; (show (_ : Int) = _; omega); omega; simp only [Act.put, List.setIfInBounds_toArray, List.set_cons_succ, List.set_cons_zero]) | ((with_reducible refine' wpList_load_blk (.tmp 30) 5 rfl ?_ ld_u8 ?_ k1 (T1.out) ?_); exact rfl; exact rfl; simp only [Act.put, List.setIfInBounds_toArray, List.set_cons_succ, List.set_cons_zero]) | ((with_reducible refine' wpList_len_rd (.tmp 34) 27 rfl ?_ Tryd.underlying27 ?_ hx ?_); exact rfl; exact rfl; simp only [Act.put, List.setIfInBounds_toArray, List.set_cons_succ, List.set_cons_zero]) | ((with_reducible refine' wpList_len_rd (.tmp 36) 27 rfl ?_ Tryd.underlying27 ?_ hy ?_); exact rfl; exact rfl; simp only [Act.put, List.setIfInBounds_toArray, List.set_cons_succ, List.set_cons_zero]))
            go_meet
            case rel => exact ⟨by rw [hd.out], rfl⟩
          · have hd := Lib.hid (show decide (a = b ∧ l.length = m.length) = false from decide_eq_false (fun h => hlm h.2))
            have hb1 : ((l.length : Int) == (m.length : Int)) = false := by simp; omega
            have hb2 : decide ((l.length : Int) = (m.length : Int)) = false := by simp; omega
            subst hab
            clear hlm
            go_wp2_with (first | ((with_reducible refine' wpList_at_blk (.tmp 3) (.const (.int .i64 0)) 48 rfl ?_ Tryd.underlying48 sz_u8 ?_ (0) ?_ ?_ ?_); exact rfl; exact rfl; (show (_ : Int) = _; omega); omega; simp only [Act.put, List.setIfInBounds_toArray, List.set_cons_succ, List.set_cons_zero]) | ((with_reducible refine' wpList_load_blk (.tmp 28) 5 rfl ?_ ld_u8 ?_ k1 (T0.out) ?_); exact rfl; exact rfl; simp only [Act.put, List.setIfInBounds_toArray, List.set_cons_succ, List.set_cons_zero]) | ((with_reducible refine' wpList_at_blk (.tmp 3) (.const (.int .i64 1)) 48 rfl ?_ Tryd.underlying48 sz_u8 ?_ (1) ?_ ?_ ?_); exact rfl; exact rfl; (show (_ : Int) = _; omega); omega; simp only [Act.put, List.setIfInBounds_toArray, List.set_cons_succ, List.set_cons_zero]) | ((with_reducible refine' wpList_load_blk (.tmp 30) 5 rfl ?_ ld_u8 ?_ k1 (T1.out) ?_); exact rfl; exact rfl; simp only [Act.put, List.setIfInBounds_toArray, List.set_cons_succ, List.set_cons_zero]) | ((with_reducible refine' wpList_len_rd (.tmp 34) 27 rfl ?_ Tryd.underlying27 ?_ hx ?_); exact rfl; exact rfl; simp only [Act.put, List.setIfInBounds_toArray, List.set_cons_succ, List.set_cons_zero]) | ((with_reducible refine' wpList_len_rd (.tmp 36) 27 rfl ?_ Tryd.underlying27 ?_ hy ?_); exact rfl; exact rfl; simp only [Act.put, List.setIfInBounds_toArray, List.set_cons_succ, List.set_cons_zero]))
            go_meet
            case rel => exact ⟨by rw [hd.out], rfl⟩
        · have hd := Lib.hid (show decide (a = b ∧ l.length = m.length) = false from decide_eq_false (fun h => hab h.1))
          have hne : ¬ (a.toNat : Int) = (b.toNat : Int) := by intro h; exact hab (UInt8.toNat_inj.1 (by omega))
          have hb1 : ((a.toNat : Int) == (b.toNat : Int)) = false := by simpa using hne
          have hb2 : decide ((a.toNat : Int) = (b.toNat : Int)) = false := by simpa using hne
          clear hab hne
          go_wp2_with (first | ((with_reducible refine' wpList_at_blk (.tmp 3) (.const (.int .i64 0)) 48 rfl ?_ Tryd.underlying48 sz_u8 ?_ (0) ?_ ?_ ?_); exact rfl; exact rfl; (show (_ : Int) = _; omega); omega; simp only [Act.put, List.setIfInBounds_toArray, List.set_cons_succ, List.set_cons_zero]) | ((with_reducible refine' wpList_load_blk (.tmp 28) 5 rfl ?_ ld_u8 ?_ k1 (T0.out) ?_); exact rfl; exact rfl; simp only [Act.put, List.setIfInBounds_toArray, List.set_cons_succ, List.set_cons_zero]) | ((with_reducible refine' wpList_at_blk (.tmp 3) (.const (.int .i64 1)) 48 rfl ?_ Tryd.underlying48 sz_u8 ?_ (1) ?_ ?_ ?_); exact rfl; exact rfl; (show (_ : Int) = _; omega); omega; simp only [Act.put, List.setIfInBounds_toArray, List.set_cons_succ, List.set_cons_zero]) | ((with_reducible refine' wpList_load_blk (.tmp 30) 5 rfl ?_ ld_u8 ?_ k1 (T1.out) ?_); exact rfl; exact rfl; simp only [Act.put, List.setIfInBounds_toArray, List.set_cons_succ, List.set_cons_zero]) | ((with_reducible refine' wpList_len_rd (.tmp 34) 27 rfl ?_ Tryd.underlying27 ?_ hx ?_); exact rfl; exact rfl; simp only [Act.put, List.setIfInBounds_toArray, List.set_cons_succ, List.set_cons_zero]) | ((with_reducible refine' wpList_len_rd (.tmp 36) 27 rfl ?_ Tryd.underlying27 ?_ hy ?_); exact rfl; exact rfl; simp only [Act.put, List.setIfInBounds_toArray, List.set_cons_succ, List.set_cons_zero]))
          go_meet
          case rel => exact ⟨by rw [hd.out], rfl⟩
      case rest =>
        obtain ⟨rfl, rfl⟩ := hcut
        go_upto_block 0 with fail
        go_cut [8, 9] (fun v i wr => v = .bool (decide (a = b ∧ l = m)) ∧ Below w.heap.size w wr ∧ Blk wr B 48 (bv [a, b]))
        case first =>
          go_upto_region 6 with fail
          go_loopw [9, 8] (fun i v wr => ∃ (j : Nat) (sm : Bool), j ≤ l.length ∧ i = .int .i64 j ∧ v = .bool sm ∧ Hid ((sm = true → a = b ∧ l.length = m.length ∧ l.take j = m.take j) ∧ (sm = false → ¬ (a = b ∧ l = m))) ∧ Below w.heap.size w wr ∧ Blk wr B 48 (bv [a, b])) (fun i _ _ => l.length - (intOf i).toNat)
          case atStart => exact ⟨0, decide (a = b ∧ l.length = m.length), by omega, rfl, rfl, Lib.hid ⟨fun h => by have h := of_decide_eq_true h; exact ⟨h.1, h.2, rfl⟩, fun h => by have h := of_decide_eq_false h; rintro ⟨h1, rfl⟩; exact h ⟨h1, rfl⟩⟩, hb, k1⟩
          case round =>
            obtain ⟨j, sm, hj, rfl, rfl, HS, hbl, k1⟩ := hrel
            have hxr := hx0.below hbl
            have hyr := hy0.below hbl
            have hlm0 := LL.out.1
            have hlB := k1.lt
            by_cases hlt : j < l.length
            · cases sm
              · have HN := Lib.hid (HS.out.2 rfl)
                clear HS
                go_wp2_with (((with_reducible refine' wpList_len_rd (.tmp 41) 27 rfl ?_ Tryd.underlying27 ?_ hxr ?_); exact rfl; exact rfl; simp only [Act.put, List.setIfInBounds_toArray, List.set_cons_succ, List.set_cons_zero]))
                go_meet
                case rel => exact ⟨by rw [decide_eq_false HN.out], hbl, k1⟩
              · obtain ⟨hab, hlm, htk⟩ := HS.out.1 rfl
                obtain ⟨wo, rfl⟩ : ∃ wo : World, wo = wr := ⟨_, rfl⟩
                obtain ⟨p, hp⟩ := get_lt (l := l) (k := j) hlt
                obtain ⟨q, hq⟩ := get_lt (l := m) (k := j) (by omega)
                have SP := Lib.hid (sv_at hp)
                have SQ := Lib.hid (sv_at hq)
                have hjm : j < m.length := by omega
                have KEY := Lib.hid (show ((decide (p = q) = true → a = b ∧ l.length = m.length ∧ l.take (j + 1) = m.take (j + 1)) ∧ (decide (p = q) = false → ¬ (a = b ∧ l = m))) from ⟨fun h => by
                    have h := of_decide_eq_true h
                    refine ⟨hab, hlm, ?_⟩
                    rw [List.take_add_one, List.take_add_one, hp, hq, htk, h], fun h => by
                    have h := of_decide_eq_false h
                    rintro ⟨_, rfl⟩
                    rw [hp] at hq
                    exact h (Option.some.inj hq)⟩)
                have HLM := Lib.hid hlm
                clear htk hp hq hlm hab HS
                go_upto_region 8 with (((with_reducible refine' wpList_len_rd (.tmp 41) 27 rfl ?_ Tryd.underlying27 ?_ hxr ?_); exact rfl; exact rfl; simp only [Act.put, List.setIfInBounds_toArray, List.set_cons_succ, List.set_cons_zero]))
                refine wp_region_mono (w := wo) 9 (fun i => match i with | 0 => fun (vv : Value) (ww : World) => vv = x | 1 => fun (vv : Value) (ww : World) => vv = .int .i64 (j : Int) | 2 => fun (vv : Value) (ww : World) => vv = ep x j | 3 => fun (vv : Value) (ww : World) => vv = .string ⟨p.toArray⟩ | 4 => fun (vv : Value) (ww : World) => vv = y | 5 => fun (vv : Value) (ww : World) => vv = .int .i64 (j : Int) | 6 => fun (vv : Value) (ww : World) => vv = ep y j | 7 => fun (vv : Value) (ww : World) => vv = .string ⟨q.toArray⟩ | 8 => fun (vv : Value) (ww : World) => vv = .bool (decide (p = q)) | _ => fun _ _ => True) (by kernel_rfl) (by kernel_rfl) ?_ ?_ ?_
                · intro i vv w1 w2 h hb
                  rcases i with _ | _ | _ | _ | _ | _ | _ | _ | _ | i
                  all_goals first | exact h | exact Rd.below h hb | exact own_below h hb | (obtain ⟨B, h1, h2, h3⟩ := h; exact ⟨B, h1, h2, Blk.below h3 hb (Blk.lt h3)⟩) | trivial
                · intro i o hi ho us wz hl hbz hd
                  obtain ⟨u0, u1, u2, u3, u4, u5, u6, u7, u8, rfl⟩ := len9 hl
                  rcases i with _ | _ | _ | _ | _ | _ | _ | _ | _ | i
                  · simp only [List.getElem?_cons_succ, List.getElem?_cons_zero, Option.some.injEq] at ho; subst ho; clear hi hl
                    clear hd
                    simp only [List.take_succ_cons, List.take_zero, List.drop_succ_cons, List.drop_zero, List.map_cons, List.map_nil, puts, Act.put, List.setIfInBounds_toArray, List.set_cons_succ, List.set_cons_zero]
                    go_wp2_with (fail)
                    exact ⟨rfl, _, rfl, Below.refl _ _, rfl⟩
                  · simp only [List.getElem?_cons_succ, List.getElem?_cons_zero, Option.some.injEq] at ho; subst ho; clear hi hl
                    clear hd
                    simp only [List.take_succ_cons, List.take_zero, List.drop_succ_cons, List.drop_zero, List.map_cons, List.map_nil, puts, Act.put, List.setIfInBounds_toArray, List.set_cons_succ, List.set_cons_zero]
                    go_wp2_with (fail)
                    exact ⟨rfl, _, rfl, Below.refl _ _, rfl⟩
                  · simp only [List.getElem?_cons_succ, List.getElem?_cons_zero, Option.some.injEq] at ho; subst ho; clear hi hl
                    have s0 : (fun (vv : Value) (ww : World) => vv = x) u0 wz := hd 0 (by kernel_rfl)
                    simp only at s0
                    obtain rfl := s0
                    have s1 : (fun (vv : Value) (ww : World) => vv = .int .i64 (j : Int)) u1 wz := hd 1 (by kernel_rfl)
                    simp only at s1
                    obtain rfl := s1
                    clear hd
                    simp only [List.take_succ_cons, List.take_zero, List.drop_succ_cons, List.drop_zero, List.map_cons, List.map_nil, puts, Act.put, List.setIfInBounds_toArray, List.set_cons_succ, List.set_cons_zero]
                    go_wp2_with (((with_reducible refine' wpList_at1_rd (.tmp 49) (.tmp 50) 27 rfl ?_ Tryd.underlying27 sz_str ?_ (hxr.below hbz) (j) ?_ ?_ ?_); exact rfl; exact rfl; (show (_ : Int) = _; omega); omega; simp only [Act.put, List.setIfInBounds_toArray, List.set_cons_succ, List.set_cons_zero]))
                    exact ⟨rfl, _, rfl, Below.refl _ _, rfl⟩
                  · simp only [List.getElem?_cons_succ, List.getElem?_cons_zero, Option.some.injEq] at ho; subst ho; clear hi hl
                    have s2 : (fun (vv : Value) (ww : World) => vv = ep x j) u2 wz := hd 2 (by kernel_rfl)
                    simp only at s2
                    obtain rfl := s2
                    clear hd
                    simp only [List.take_succ_cons, List.take_zero, List.drop_succ_cons, List.drop_zero, List.map_cons, List.map_nil, puts, Act.put, List.setIfInBounds_toArray, List.set_cons_succ, List.set_cons_zero]
                    go_wp2_with (((with_reducible refine' wpList_load_rd (.tmp 51) 9 rfl ?_ ld_str ?_ (hxr.below hbz) (SP.out) ?_); exact rfl; exact rfl; simp only [Act.put, List.setIfInBounds_toArray, List.set_cons_succ, List.set_cons_zero]))
                    exact ⟨rfl, _, rfl, Below.refl _ _, rfl⟩
                  · simp only [List.getElem?_cons_succ, List.getElem?_cons_zero, Option.some.injEq] at ho; subst ho; clear hi hl
                    clear hd
                    simp only [List.take_succ_cons, List.take_zero, List.drop_succ_cons, List.drop_zero, List.map_cons, List.map_nil, puts, Act.put, List.setIfInBounds_toArray, List.set_cons_succ, List.set_cons_zero]
                    go_wp2_with (fail)
                    exact ⟨rfl, _, rfl, Below.refl _ _, rfl⟩
                  · simp only [List.getElem?_cons_succ, List.getElem?_cons_zero, Option.some.injEq] at ho; subst ho; clear hi hl
                    clear hd
                    simp only [List.take_succ_cons, List.take_zero, List.drop_succ_cons, List.drop_zero, List.map_cons, List.map_nil, puts, Act.put, List.setIfInBounds_toArray, List.set_cons_succ, List.set_cons_zero]
                    go_wp2_with (fail)
                    exact ⟨rfl, _, rfl, Below.refl _ _, rfl⟩
                  · simp only [List.getElem?_cons_succ, List.getElem?_cons_zero, Option.some.injEq] at ho; subst ho; clear hi hl
                    have s4 : (fun (vv : Value) (ww : World) => vv = y) u4 wz := hd 4 (by kernel_rfl)
                    simp only at s4
                    obtain rfl := s4
                    have s5 : (fun (vv : Value) (ww : World) => vv = .int .i64 (j : Int)) u5 wz := hd 5 (by kernel_rfl)
                    simp only at s5
                    obtain rfl := s5
                    clear hd
                    simp only [List.take_succ_cons, List.take_zero, List.drop_succ_cons, List.drop_zero, List.map_cons, List.map_nil, puts, Act.put, List.setIfInBounds_toArray, List.set_cons_succ, List.set_cons_zero]
                    go_wp2_with (((with_reducible refine' wpList_at1_rd (.tmp 53) (.tmp 54) 27 rfl ?_ Tryd.underlying27 sz_str ?_ (hyr.below hbz) (j) ?_ ?_ ?_); exact rfl; exact rfl; (show (_ : Int) = _; omega); omega; simp only [Act.put, List.setIfInBounds_toArray, List.set_cons_succ, List.set_cons_zero]))
                    exact ⟨rfl, _, rfl, Below.refl _ _, rfl⟩
                  · simp only [List.getElem?_cons_succ, List.getElem?_cons_zero, Option.some.injEq] at ho; subst ho; clear hi hl
                    have s6 : (fun (vv : Value) (ww : World) => vv = ep y j) u6 wz := hd 6 (by kernel_rfl)
                    simp only at s6
                    obtain rfl := s6
                    clear hd
                    simp only [List.take_succ_cons, List.take_zero, List.drop_succ_cons, List.drop_zero, List.map_cons, List.map_nil, puts, Act.put, List.setIfInBounds_toArray, List.set_cons_succ, List.set_cons_zero]
                    go_wp2_with (((with_reducible refine' wpList_load_rd (.tmp 55) 9 rfl ?_ ld_str ?_ (hyr.below hbz) (SQ.out) ?_); exact rfl; exact rfl; simp only [Act.put, List.setIfInBounds_toArray, List.set_cons_succ, List.set_cons_zero]))
                    exact ⟨rfl, _, rfl, Below.refl _ _, rfl⟩
                  · simp only [List.getElem?_cons_succ, List.getElem?_cons_zero, Option.some.injEq] at ho; subst ho; clear hi hl
                    have s3 : (fun (vv : Value) (ww : World) => vv = .string ⟨p.toArray⟩) u3 wz := hd 3 (by kernel_rfl)
                    simp only at s3
                    obtain rfl := s3
                    have s7 : (fun (vv : Value) (ww : World) => vv = .string ⟨q.toArray⟩) u7 wz := hd 7 (by kernel_rfl)
                    simp only at s7
                    obtain rfl := s7
                    clear hd
                    simp only [List.take_succ_cons, List.take_zero, List.drop_succ_cons, List.drop_zero, List.map_cons, List.map_nil, puts, Act.put, List.setIfInBounds_toArray, List.set_cons_succ, List.set_cons_zero]
                    go_wp2_with (((with_reducible refine' wpList_str_eql (l := p) (m := q) (.tmp 52) (.tmp 56) 9 _ rfl ?_ ?_ ?_ ?_); exact rfl; exact rfl; exact rfl; simp only [Act.put, List.setIfInBounds_toArray, List.set_cons_succ, List.set_cons_zero]))
                    exact ⟨rfl, _, rfl, Below.refl _ _, rfl⟩
                  · omega
                intro us wz hl hbz hS
                obtain ⟨u0, u1, u2, u3, u4, u5, u6, u7, u8, rfl⟩ := len9 hl
                have s8 : (fun (vv : Value) (ww : World) => vv = .bool (decide (p = q))) u8 wz := hS 8 (by omega)
                simp only at s8
                obtain rfl := s8
                clear hS hl
                simp only [List.take_succ_cons, List.take_zero, List.drop_succ_cons, List.drop_zero, List.map_cons, List.map_nil, puts, Act.put, List.setIfInBounds_toArray, List.set_cons_succ, List.set_cons_zero]
                go_wp2_with fail
                refine onlyN ?_
                go_wp2_with fail
                go_roundw
                case rel => exact ⟨j + 1, decide (p = q), by omega, by go_num, rfl, KEY, hbl.trans (hbz.mono hbl.size), k1.below hbz hlB⟩
                case measure => simp [intOf]; omega
            · cases sm
              · have HN := Lib.hid (HS.out.2 rfl)
                clear HS
                go_wp2_with (((with_reducible refine' wpList_len_rd (.tmp 41) 27 rfl ?_ Tryd.underlying27 ?_ hxr ?_); exact rfl; exact rfl; simp only [Act.put, List.setIfInBounds_toArray, List.set_cons_succ, List.set_cons_zero]))
                go_meet
                case rel => exact ⟨by rw [decide_eq_false HN.out], hbl, k1⟩
              · have hfin : a = b ∧ l = m := by
                  obtain ⟨hab, hlm, htk⟩ := HS.out.1 rfl
                  rw [List.take_of_length_le (by omega), List.take_of_length_le (by omega)] at htk
                  exact ⟨hab, htk⟩
                have HF := Lib.hid hfin
                clear hfin
                go_wp2_with (((with_reducible refine' wpList_len_rd (.tmp 41) 27 rfl ?_ Tryd.underlying27 ?_ hxr ?_); exact rfl; exact rfl; simp only [Act.put, List.setIfInBounds_toArray, List.set_cons_succ, List.set_cons_zero]))
                go_meet
                case rel => exact ⟨by rw [decide_eq_true HF.out], hbl, k1⟩
        case rest =>
          obtain ⟨rfl, hbl, k1⟩ := hcut
          obtain ⟨S, hS⟩ : ∃ S, Hid (decide (a = b ∧ l = m) = S) := ⟨_, Lib.hid rfl⟩
          rw [hS.out]
          clear hx hy hb
          have hxr := hx0.below hbl
          have hyr := hy0.below hbl
          have IX0 := Lib.hid (Nat.le_trans (inp_few (a.toNat : Int) hf) (show 10000 ≤ 70368744177664 by decide))
          have IY0 := Lib.hid (Nat.le_trans (inp_few (b.toNat : Int) hg) (show 10000 ≤ 70368744177664 by decide))
          have INJ := inp_inj (a := a) (b := b) LL.out.2 LM.out.2
          have hb := hbl
          clear hbl hf hg
          have hx := hxr
          have hy := hyr
          clear hxr hyr
          go_upto_region 11 with (first
            | ((with_reducible refine' wpList_at_blk (.tmp 3) (.const (.int .i64 0)) 48 rfl ?_ Tryd.underlying48 sz_u8 ?_ (0) ?_ ?_ ?_); exact rfl; exact rfl; (show (_ : Int) = _; omega); omega; simp only [Act.put, List.setIfInBounds_toArray, List.set_cons_succ, List.set_cons_zero]) | ((with_reducible refine' wpList_load_blk (.tmp 58) 5 rfl ?_ ld_u8 ?_ k1 (T0.out) ?_); exact rfl; exact rfl; simp only [Act.put, List.setIfInBounds_toArray, List.set_cons_succ, List.set_cons_zero]) | ((with_reducible refine' wpList_at_blk (.tmp 3) (.const (.int .i64 1)) 48 rfl ?_ Tryd.underlying48 sz_u8 ?_ (1) ?_ ?_ ?_); exact rfl; exact rfl; (show (_ : Int) = _; omega); omega; simp only [Act.put, List.setIfInBounds_toArray, List.set_cons_succ, List.set_cons_zero]) | ((with_reducible refine' wpList_load_blk (.tmp 63) 5 rfl ?_ ld_u8 ?_ k1 (T1.out) ?_); exact rfl; exact rfl; simp only [Act.put, List.setIfInBounds_toArray, List.set_cons_succ, List.set_cons_zero])
            | ((go_at_call 23; (with_reducible refine (refinput_any (a.toNat : Int) x _ l _ hx (by omega) (by omega) IX0.out).mono ?_); rintro e w' ⟨vx, rfl, ox, hN⟩); have rx := Rd.of_own ox; clear ox; replace hb := hb.trans ((by exact hN : Below _ _ _).mono hb.size); (try replace hx := Rd.below hx hN); (try replace hy := Rd.below hy hN); (try replace k1 := Blk.below k1 hN (Blk.lt k1)))
            | ((go_at_call 23; (with_reducible refine (refinput_any (b.toNat : Int) y _ m _ hy (by omega) (by omega) IY0.out).mono ?_); rintro e w' ⟨vy, rfl, oy, hN⟩); have ry := Rd.of_own oy; clear oy; replace hb := hb.trans ((by exact hN : Below _ _ _).mono hb.size); (try replace hx := Rd.below hx hN); (try replace hy := Rd.below hy hN); (try replace k1 := Blk.below k1 hN (Blk.lt k1)); (try replace rx := Rd.below rx hN)))
          obtain ⟨IX, hIX⟩ : ∃ I, inp (a.toNat : Int) l = I := ⟨_, rfl⟩
          obtain ⟨IY, hIY⟩ : ∃ I, inp (b.toNat : Int) m = I := ⟨_, rfl⟩
          rw [hIX, hIY] at INJ
          rw [hIX] at rx IX0
          rw [hIY] at ry IY0
          have HIX := Lib.hid hIX
          have HIY := Lib.hid hIY
          clear hIX hIY
          have zx := size_str IX
          have zy := size_str IY
          by_cases hsame : a = b ∧ l = m
          · have HE := Lib.hid (INJ.2 hsame)
            obtain rfl : S = true := by rw [← hS.out, decide_eq_true hsame]
            clear hsame INJ
            have D := Lib.hid (show decide (IX = IY) = true from decide_eq_true HE.out)
            go_wp2_with (first | ((with_reducible refine' wpList_str_rd (.tmp 71) 22 9 rfl ?_ Tryd.underlying22 Tryd.underlying5 Tryd.underlying9 ?_ rx ?_); exact rfl; exact rfl; simp only [Act.put, List.setIfInBounds_toArray, List.set_cons_succ, List.set_cons_zero]) | ((with_reducible refine' wpList_str_rd (.tmp 73) 22 9 rfl ?_ Tryd.underlying22 Tryd.underlying5 Tryd.underlying9 ?_ ry ?_); exact rfl; exact rfl; simp only [Act.put, List.setIfInBounds_toArray, List.set_cons_succ, List.set_cons_zero]) | (((with_reducible refine' wpList_str_eql (l := IX) (m := IY) (.tmp 72) (.tmp 74) 9 _ rfl ?_ ?_ ?_ ?_); exact rfl; exact rfl; exact rfl; simp only [Act.put, List.setIfInBounds_toArray, List.set_cons_succ, List.set_cons_zero]); rw [D.out]))
            go_ret
            exact ⟨rfl, hb⟩
          · have D := Lib.hid (show decide (IX = IY) = false from decide_eq_false (fun h => hsame (INJ.1 h)))
            obtain rfl : S = false := by rw [← hS.out, decide_eq_false hsame]
            clear hsame INJ
            obtain ⟨SX, hSX⟩ : ∃ S, Hid (sha IX = S) := ⟨_, Lib.hid rfl⟩
            obtain ⟨SY, hSY⟩ : ∃ S, Hid (sha IY = S) := ⟨_, Lib.hid rfl⟩
            obtain ⟨DX, hDX⟩ : ∃ S, Hid (digOf (a.toNat : Int) l = S) := ⟨_, Lib.hid rfl⟩
            obtain ⟨DY, hDY⟩ : ∃ S, Hid (digOf (b.toNat : Int) m = S) := ⟨_, Lib.hid rfl⟩
            have EX := Lib.hid (show SX.take 16 = DX by rw [← hDX.out, ← hSX.out, ← HIX.out]; unfold digOf; rfl)
            have EY := Lib.hid (show SY.take 16 = DY by rw [← hDY.out, ← hSY.out, ← HIY.out]; unfold digOf; rfl)
            have SXL := Lib.hid (show SX.length = 32 by rw [← hSX.out, sha_len])
            have SYL := Lib.hid (show SY.length = 32 by rw [← hSY.out, sha_len])
            have SXB := Lib.hid (show (bv SX).length = 32 by rw [bv_length, SXL.out])
            have SYB := Lib.hid (show (bv SY).length = 32 by rw [bv_length, SYL.out])
            have DXL := Lib.hid (show DX.length = 16 by rw [← hDX.out, digOf_len])
            have DYL := Lib.hid (show DY.length = 16 by rw [← hDY.out, digOf_len])
            have DXB := Lib.hid (show (bv DX).length = 16 by rw [bv_length, DXL.out])
            have DYB := Lib.hid (show (bv DY).length = 16 by rw [bv_length, DYL.out])
            have IX1 := Lib.hid (show (inp (a.toNat : Int) l).length ≤ 70368744177664 by rw [HIX.out]; exact IX0.out)
            have IY1 := Lib.hid (show (inp (b.toNat : Int) m).length ≤ 70368744177664 by rw [HIY.out]; exact IY0.out)
            go_upto_region 14 with (first
              | ((with_reducible refine' wpList_at_blk (.tmp 3) (.const (.int .i64 0)) 48 rfl ?_ Tryd.underlying48 sz_u8 ?_ (0) ?_ ?_ ?_); exact rfl; exact rfl; (show (_ : Int) = _; omega); omega; simp only [Act.put, List.setIfInBounds_toArray, List.set_cons_succ, List.set_cons_zero]) | ((with_reducible refine' wpList_load_blk (.tmp 77) 5 rfl ?_ ld_u8 ?_ k1 (T0.out) ?_); exact rfl; exact rfl; simp only [Act.put, List.setIfInBounds_toArray, List.set_cons_succ, List.set_cons_zero])
              | ((go_at_call 21; (with_reducible refine (of_any (a.toNat : Int) x _ l _ (hT.below hb) hx (by omega) (by omega) IX1.out).mono ?_); rintro e w' ⟨rfl, hN⟩); rw [hDX.out]; replace hb := hb.trans ((by exact hN : Below _ _ _).mono hb.size); (try replace hx := Rd.below hx hN); (try replace hy := Rd.below hy hN); (try replace k1 := Blk.below k1 hN (Blk.lt k1)); (try replace rx := Rd.below rx hN); (try replace ry := Rd.below ry hN))
              | (((with_reducible refine' wpList_alloc_blk (cs := List.replicate 16 (.int .u8 0)) 44 rfl ?_ zr_dig ?_ ?_); exact rfl; exact zeros_u8 16; intro wa kk0 hNa hza; simp only [Act.put, List.setIfInBounds_toArray, List.set_cons_succ, List.set_cons_zero]))
              | (((with_reducible refine' wpList_store_blk (cs := bv DX) 44 (.tmp 12) (.tmp 81) rfl ?_ ?_ ?_ kk0 sz_dig ?_ ?_ ?_ ?_); exact rfl; exact rfl; exact rfl; exact DXB.out; exact List.length_replicate; exact bv_one _; intro wb q12 hO hzb; simp only [Act.put]); have hN2 := hNa.trans (hO.below (Nat.le_refl _) hNa.size); clear hO hNa; replace hb := hb.trans ((by exact hN2 : Below _ _ _).mono hb.size); (try replace hx := Rd.below hx hN2); (try replace hy := Rd.below hy hN2); (try replace k1 := Blk.below k1 hN2 (Blk.lt k1)); (try replace rx := Rd.below rx hN2); (try replace ry := Rd.below ry hN2)))
            obtain ⟨B12, hB2⟩ : ∃ B, w'.heap.size = B := ⟨_, rfl⟩
            rw [hB2] at q12 ⊢
            clear hB2 kk0 hza hzb hN
            have lB12 := q12.lt
            go_upto_region 15 with (first
              | ((with_reducible refine' wpList_at_blk (.tmp 3) (.const (.int .i64 1)) 48 rfl ?_ Tryd.underlying48 sz_u8 ?_ (1) ?_ ?_ ?_); exact rfl; exact rfl; (show (_ : Int) = _; omega); omega; simp only [Act.put, List.setIfInBounds_toArray, List.set_cons_succ, List.set_cons_zero]) | ((with_reducible refine' wpList_load_blk (.tmp 82) 5 rfl ?_ ld_u8 ?_ k1 (T1.out) ?_); exact rfl; exact rfl; simp only [Act.put, List.setIfInBounds_toArray, List.set_cons_succ, List.set_cons_zero])
              | ((go_at_call 21; (with_reducible refine (of_any (b.toNat : Int) y _ m _ (hT.below hb) hy (by omega) (by omega) IY1.out).mono ?_); rintro e w' ⟨rfl, hN⟩); rw [hDY.out]; replace hb := hb.trans ((by exact hN : Below _ _ _).mono hb.size); (try replace hx := Rd.below hx hN); (try replace hy := Rd.below hy hN); (try replace k1 := Blk.below k1 hN (Blk.lt k1)); (try replace q12 := Blk.below q12 hN (Blk.lt q12)); (try replace rx := Rd.below rx hN); (try replace ry := Rd.below ry hN))
              | (((with_reducible refine' wpList_alloc_blk (cs := List.replicate 16 (.int .u8 0)) 44 rfl ?_ zr_dig ?_ ?_); exact rfl; exact zeros_u8 16; intro wa kk0 hNa hza; simp only [Act.put, List.setIfInBounds_toArray, List.set_cons_succ, List.set_cons_zero]))
              | (((with_reducible refine' wpList_store_blk (cs := bv DY) 44 (.tmp 13) (.tmp 86) rfl ?_ ?_ ?_ kk0 sz_dig ?_ ?_ ?_ ?_); exact rfl; exact rfl; exact rfl; exact DYB.out; exact List.length_replicate; exact bv_one _; intro wb q13 hO hzb; simp only [Act.put]); have hN2 := hNa.trans (hO.below (Nat.le_refl _) hNa.size); clear hO hNa; replace hb := hb.trans ((by exact hN2 : Below _ _ _).mono hb.size); (try replace hx := Rd.below hx hN2); (try replace hy := Rd.below hy hN2); (try replace k1 := Blk.below k1 hN2 (Blk.lt k1)); (try replace q12 := Blk.below q12 hN2 (Blk.lt q12)); (try replace rx := Rd.below rx hN2); (try replace ry := Rd.below ry hN2)))
            obtain ⟨B13, hB2⟩ : ∃ B, w'.heap.size = B := ⟨_, rfl⟩
            rw [hB2] at q13 ⊢
            clear hB2 kk0 hza hzb hN
            have lB13 := q13.lt
            go_upto_region 16 with (first
              | fail
              | ((go_at_call 11; (with_reducible refine (sum_any vx _ IX _ (hT.below hb) rx (Nat.lt_of_le_of_lt IX0.out (by decide))).mono ?_); rintro e w' ⟨rfl, hN⟩); rw [hSX.out]; replace hb := hb.trans ((by exact hN : Below _ _ _).mono hb.size); (try replace hx := Rd.below hx hN); (try replace hy := Rd.below hy hN); (try replace k1 := Blk.below k1 hN (Blk.lt k1)); (try replace q12 := Blk.below q12 hN (Blk.lt q12)); (try replace q13 := Blk.below q13 hN (Blk.lt q13)); (try replace rx := Rd.below rx hN); (try replace ry := Rd.below ry hN))
              | (((with_reducible refine' wpList_alloc_blk (cs := List.replicate 32 (.int .u8 0)) 24 rfl ?_ zr_b32 ?_ ?_); exact rfl; exact zeros_u8 32; intro wa kk0 hNa hza; simp only [Act.put, List.setIfInBounds_toArray, List.set_cons_succ, List.set_cons_zero]))
              | (((with_reducible refine' wpList_store_blk (cs := bv SX) 24 (.tmp 14) (.tmp 88) rfl ?_ ?_ ?_ kk0 sz_b32 ?_ ?_ ?_ ?_); exact rfl; exact rfl; exact rfl; exact SXB.out; exact List.length_replicate; exact bv_one _; intro wb q14 hO hzb; simp only [Act.put]); have hN2 := hNa.trans (hO.below (Nat.le_refl _) hNa.size); clear hO hNa; replace hb := hb.trans ((by exact hN2 : Below _ _ _).mono hb.size); (try replace hx := Rd.below hx hN2); (try replace hy := Rd.below hy hN2); (try replace k1 := Blk.below k1 hN2 (Blk.lt k1)); (try replace q12 := Blk.below q12 hN2 (Blk.lt q12)); (try replace q13 := Blk.below q13 hN2 (Blk.lt q13)); (try replace rx := Rd.below rx hN2); (try replace ry := Rd.below ry hN2)))
            obtain ⟨B14, hB2⟩ : ∃ B, w'.heap.size = B := ⟨_, rfl⟩
            rw [hB2] at q14 ⊢
            clear hB2 kk0 hza hzb hN
            have lB14 := q14.lt
            go_upto_region 17 with (first
              | fail
              | ((go_at_call 11; (with_reducible refine (sum_any vy _ IY _ (hT.below hb) ry (Nat.lt_of_le_of_lt IY0.out (by decide))).mono ?_); rintro e w' ⟨rfl, hN⟩); rw [hSY.out]; replace hb := hb.trans ((by exact hN : Below _ _ _).mono hb.size); (try replace hx := Rd.below hx hN); (try replace hy := Rd.below hy hN); (try replace k1 := Blk.below k1 hN (Blk.lt k1)); (try replace q12 := Blk.below q12 hN (Blk.lt q12)); (try replace q13 := Blk.below q13 hN (Blk.lt q13)); (try replace q14 := Blk.below q14 hN (Blk.lt q14)); (try replace rx := Rd.below rx hN); (try replace ry := Rd.below ry hN))
              | (((with_reducible refine' wpList_alloc_blk (cs := List.replicate 32 (.int .u8 0)) 24 rfl ?_ zr_b32 ?_ ?_); exact rfl; exact zeros_u8 32; intro wa kk0 hNa hza; simp only [Act.put, List.setIfInBounds_toArray, List.set_cons_succ, List.set_cons_zero]))
              | (((with_reducible refine' wpList_store_blk (cs := bv SY) 24 (.tmp 15) (.tmp 90) rfl ?_ ?_ ?_ kk0 sz_b32 ?_ ?_ ?_ ?_); exact rfl; exact rfl; exact rfl; exact SYB.out; exact List.length_replicate; exact bv_one _; intro wb q15 hO hzb; simp only [Act.put]); have hN2 := hNa.trans (hO.below (Nat.le_refl _) hNa.size); clear hO hNa; replace hb := hb.trans ((by exact hN2 : Below _ _ _).mono hb.size); (try replace hx := Rd.below hx hN2); (try replace hy := Rd.below hy hN2); (try replace k1 := Blk.below k1 hN2 (Blk.lt k1)); (try replace q12 := Blk.below q12 hN2 (Blk.lt q12)); (try replace q13 := Blk.below q13 hN2 (Blk.lt q13)); (try replace q14 := Blk.below q14 hN2 (Blk.lt q14)); (try replace rx := Rd.below rx hN2); (try replace ry := Rd.below ry hN2)))
            obtain ⟨B15, hB2⟩ : ∃ B, w'.heap.size = B := ⟨_, rfl⟩
            rw [hB2] at q15 ⊢
            clear hB2 kk0 hza hzb hN
            have lB15 := q15.lt
            clear hx hy k1
            go_upto_region 19 with fail
            go_loopw [17, 16] (fun i v wr => ∃ t : Nat, t ≤ 16 ∧ i = .int .i64 t ∧ v = .bool (decide (SX.take t = SY.take t)) ∧ Below wb.heap.size wb wr) (fun i _ _ => 16 - (intOf i).toNat)
            case atStart => exact ⟨0, by omega, rfl, by rw [List.take_zero, List.take_zero, dec_self], Below.refl _ _⟩
            case round =>
              obtain ⟨t, ht, rfl, rfl, hbl⟩ := hrel
              have r14 := q14.below hbl q14.lt
              have r15 := q15.below hbl q15.lt
              by_cases hlt : t < 16
              · obtain ⟨wo, rfl⟩ : ∃ wo : World, wo = wr := ⟨_, rfl⟩
                have hbx : SX[t]? = some (gb SX t) := by simp [gb, show t < SX.length by rw [SXL.out]; omega]
                have hby : SY[t]? = some (gb SY t) := by simp [gb, show t < SY.length by rw [SYL.out]; omega]
                have XX := Lib.hid (show (bv SX)[t]? = some (.int .u8 ((gb SX t).toNat : Int)) by unfold bv; rw [List.getElem?_map, hbx]; rfl)
                have XY := Lib.hid (show (bv SY)[t]? = some (.int .u8 ((gb SY t).toNat : Int)) by unfold bv; rw [List.getElem?_map, hby]; rfl)
                have STEP := Lib.hid (show decide (SX.take (t + 1) = SY.take (t + 1)) = (decide (SX.take t = SY.take t) && decide (gb SX t = gb SY t)) from take_dec hbx hby)
                obtain ⟨E, hE⟩ : ∃ E, decide (SX.take t = SY.take t) = E := ⟨_, rfl⟩
                rw [hE] at STEP ⊢
                obtain ⟨gx, hgx⟩ : ∃ g, gb SX t = g := ⟨_, rfl⟩
                obtain ⟨gy, hgy⟩ : ∃ g, gb SY t = g := ⟨_, rfl⟩
                rw [hgx] at XX STEP
                rw [hgy] at XY STEP
                clear hgx hgy hbx hby hE
                have lx := r14.lt
                have ly := r15.lt
                have UE := Lib.hid (u8_beq gx gy)
                have UD := Lib.hid (u8_dec gx gy)
                have g1 := u8_lt gx
                have g2 := u8_lt gy
                cases E
                · go_upto_region 21 with fail
                  refine wp_region_mono (w := wo) 10 (fun i => match i with | 0 => fun (vv : Value) (ww : World) => vv = .bool false | 1 => fun (vv : Value) (ww : World) => vv = .bool false | 2 => fun (vv : Value) (ww : World) => True | 3 => fun (vv : Value) (ww : World) => True | 4 => fun (vv : Value) (ww : World) => True | 5 => fun (vv : Value) (ww : World) => True | 6 => fun (vv : Value) (ww : World) => True | 7 => fun (vv : Value) (ww : World) => True | 8 => fun (vv : Value) (ww : World) => True | 9 => fun (vv : Value) (ww : World) => vv = .bool false | _ => fun _ _ => True) (by kernel_rfl) (by kernel_rfl) ?_ ?_ ?_
                  · intro i vv w1 w2 h hb
                    rcases i with _ | _ | _ | _ | _ | _ | _ | _ | _ | _ | i
                    all_goals first | exact h | exact Rd.below h hb | exact own_below h hb | (obtain ⟨B, h1, h2, h3⟩ := h; exact ⟨B, h1, h2, Blk.below h3 hb (Blk.lt h3)⟩) | trivial
                  · intro i o hi ho us wz hl hbz hd
                    obtain ⟨u0, u1, u2, u3, u4, u5, u6, u7, u8, u9, rfl⟩ := len10 hl
                    rcases i with _ | _ | _ | _ | _ | _ | _ | _ | _ | _ | i
                    · simp only [List.getElem?_cons_succ, List.getElem?_cons_zero, Option.some.injEq] at ho; subst ho; clear hi hl
                      clear hd
                      simp only [List.take_succ_cons, List.take_zero, List.drop_succ_cons, List.drop_zero, List.map_cons, List.map_nil, puts, Act.put, List.setIfInBounds_toArray, List.set_cons_succ, List.set_cons_zero]
                      go_wp2_with (fail)
                      exact ⟨rfl, _, rfl, Below.refl _ _, rfl⟩
                    · simp only [List.getElem?_cons_succ, List.getElem?_cons_zero, Option.some.injEq] at ho; subst ho; clear hi hl
                      have s0 : (fun (vv : Value) (ww : World) => vv = .bool false) u0 wz := hd 0 (by kernel_rfl)
                      simp only at s0
                      obtain rfl := s0
                      clear hd
                      simp only [List.take_succ_cons, List.take_zero, List.drop_succ_cons, List.drop_zero, List.map_cons, List.map_nil, puts, Act.put, List.setIfInBounds_toArray, List.set_cons_succ, List.set_cons_zero]
                      go_wp2_with (fail)
                      exact ⟨rfl, _, rfl, Below.refl _ _, rfl⟩
                    · simp only [List.getElem?_cons_succ, List.getElem?_cons_zero, Option.some.injEq] at ho; subst ho; clear hi hl
                      have s1 : (fun (vv : Value) (ww : World) => vv = .bool false) u1 wz := hd 1 (by kernel_rfl)
                      simp only at s1
                      obtain rfl := s1
                      clear hd
                      simp only [List.take_succ_cons, List.take_zero, List.drop_succ_cons, List.drop_zero, List.map_cons, List.map_nil, puts, Act.put, List.setIfInBounds_toArray, List.set_cons_succ, List.set_cons_zero]
                      go_wp2_with (fail)
                      exact ⟨rfl, _, rfl, Below.refl _ _, trivial⟩
                    · simp only [List.getElem?_cons_succ, List.getElem?_cons_zero, Option.some.injEq] at ho; subst ho; clear hi hl
                      have s1 : (fun (vv : Value) (ww : World) => vv = .bool false) u1 wz := hd 1 (by kernel_rfl)
                      simp only at s1
                      obtain rfl := s1
                      clear hd
                      simp only [List.take_succ_cons, List.take_zero, List.drop_succ_cons, List.drop_zero, List.map_cons, List.map_nil, puts, Act.put, List.setIfInBounds_toArray, List.set_cons_succ, List.set_cons_zero]
                      go_wp2_with (fail)
                      exact ⟨rfl, _, rfl, Below.refl _ _, trivial⟩
                    · simp only [List.getElem?_cons_succ, List.getElem?_cons_zero, Option.some.injEq] at ho; subst ho; clear hi hl
                      have s1 : (fun (vv : Value) (ww : World) => vv = .bool false) u1 wz := hd 1 (by kernel_rfl)
                      simp only at s1
                      obtain rfl := s1
                      clear hd
                      simp only [List.take_succ_cons, List.take_zero, List.drop_succ_cons, List.drop_zero, List.map_cons, List.map_nil, puts, Act.put, List.setIfInBounds_toArray, List.set_cons_succ, List.set_cons_zero]
                      go_wp2_with (fail)
                      exact ⟨rfl, _, rfl, Below.refl _ _, trivial⟩
                    · simp only [List.getElem?_cons_succ, List.getElem?_cons_zero, Option.some.injEq] at ho; subst ho; clear hi hl
                      have s1 : (fun (vv : Value) (ww : World) => vv = .bool false) u1 wz := hd 1 (by kernel_rfl)
                      simp only at s1
                      obtain rfl := s1
                      clear hd
                      simp only [List.take_succ_cons, List.take_zero, List.drop_succ_cons, List.drop_zero, List.map_cons, List.map_nil, puts, Act.put, List.setIfInBounds_toArray, List.set_cons_succ, List.set_cons_zero]
                      go_wp2_with (fail)
                      exact ⟨rfl, _, rfl, Below.refl _ _, trivial⟩
                    · simp only [List.getElem?_cons_succ, List.getElem?_cons_zero, Option.some.injEq] at ho; subst ho; clear hi hl
                      have s1 : (fun (vv : Value) (ww : World) => vv = .bool false) u1 wz := hd 1 (by kernel_rfl)
                      simp only at s1
                      obtain rfl := s1
                      clear hd
                      simp only [List.take_succ_cons, List.take_zero, List.drop_succ_cons, List.drop_zero, List.map_cons, List.map_nil, puts, Act.put, List.setIfInBounds_toArray, List.set_cons_succ, List.set_cons_zero]
                      go_wp2_with (fail)
                      exact ⟨rfl, _, rfl, Below.refl _ _, trivial⟩
                    · simp only [List.getElem?_cons_succ, List.getElem?_cons_zero, Option.some.injEq] at ho; subst ho; clear hi hl
                      have s1 : (fun (vv : Value) (ww : World) => vv = .bool false) u1 wz := hd 1 (by kernel_rfl)
                      simp only at s1
                      obtain rfl := s1
                      clear hd
                      simp only [List.take_succ_cons, List.take_zero, List.drop_succ_cons, List.drop_zero, List.map_cons, List.map_nil, puts, Act.put, List.setIfInBounds_toArray, List.set_cons_succ, List.set_cons_zero]
                      go_wp2_with (fail)
                      exact ⟨rfl, _, rfl, Below.refl _ _, trivial⟩
                    · simp only [List.getElem?_cons_succ, List.getElem?_cons_zero, Option.some.injEq] at ho; subst ho; clear hi hl
                      have s1 : (fun (vv : Value) (ww : World) => vv = .bool false) u1 wz := hd 1 (by kernel_rfl)
                      simp only at s1
                      obtain rfl := s1
                      clear hd
                      simp only [List.take_succ_cons, List.take_zero, List.drop_succ_cons, List.drop_zero, List.map_cons, List.map_nil, puts, Act.put, List.setIfInBounds_toArray, List.set_cons_succ, List.set_cons_zero]
                      go_wp2_with (fail)
                      exact ⟨rfl, _, rfl, Below.refl _ _, trivial⟩
                    · simp only [List.getElem?_cons_succ, List.getElem?_cons_zero, Option.some.injEq] at ho; subst ho; clear hi hl
                      have s1 : (fun (vv : Value) (ww : World) => vv = .bool false) u1 wz := hd 1 (by kernel_rfl)
                      simp only at s1
                      obtain rfl := s1
                      clear hd
                      simp only [List.take_succ_cons, List.take_zero, List.drop_succ_cons, List.drop_zero, List.map_cons, List.map_nil, puts, Act.put, List.setIfInBounds_toArray, List.set_cons_succ, List.set_cons_zero]
                      go_wp2_with (fail)
                      exact ⟨rfl, _, rfl, Below.refl _ _, rfl⟩
                    · omega
                  intro us wz hl hbz hS
                  obtain ⟨u0, u1, u2, u3, u4, u5, u6, u7, u8, u9, rfl⟩ := len10 hl
                  have s9 : (fun (vv : Value) (ww : World) => vv = .bool false) u9 wz := hS 9 (by omega)
                  simp only at s9
                  obtain rfl := s9
                  clear hS hl
                  simp only [List.take_succ_cons, List.take_zero, List.drop_succ_cons, List.drop_zero, List.map_cons, List.map_nil, puts, Act.put, List.setIfInBounds_toArray, List.set_cons_succ, List.set_cons_zero]
                  go_wp2_with fail
                  refine onlyN ?_
                  go_wp2_with fail
                  go_roundw
                  case rel => exact ⟨t + 1, by omega, by go_num, by rw [STEP.out, Bool.false_and], hbl.trans (hbz.mono hbl.size)⟩
                  case measure => simp [intOf]; omega
                · go_upto_region 21 with fail
                  refine wp_region_mono (w := wo) 10 (fun i => match i with | 0 => fun (vv : Value) (ww : World) => vv = .bool true | 1 => fun (vv : Value) (ww : World) => vv = .bool true | 2 => fun (vv : Value) (ww : World) => vv = .int .i64 (t : Int) | 3 => fun (vv : Value) (ww : World) => vv = .pointer (some ⟨B14, t, none⟩) | 4 => fun (vv : Value) (ww : World) => vv = .int .u8 (gx.toNat : Int) | 5 => fun (vv : Value) (ww : World) => vv = .int .i64 (t : Int) | 6 => fun (vv : Value) (ww : World) => vv = .pointer (some ⟨B15, t, none⟩) | 7 => fun (vv : Value) (ww : World) => vv = .int .u8 (gy.toNat : Int) | 8 => fun (vv : Value) (ww : World) => vv = .bool (decide (gx = gy)) | 9 => fun (vv : Value) (ww : World) => vv = .bool (decide (gx = gy)) | _ => fun _ _ => True) (by kernel_rfl) (by kernel_rfl) ?_ ?_ ?_
                  · intro i vv w1 w2 h hb
                    rcases i with _ | _ | _ | _ | _ | _ | _ | _ | _ | _ | i
                    all_goals first | exact h | exact Rd.below h hb | exact own_below h hb | (obtain ⟨B, h1, h2, h3⟩ := h; exact ⟨B, h1, h2, Blk.below h3 hb (Blk.lt h3)⟩) | trivial
                  · intro i o hi ho us wz hl hbz hd
                    obtain ⟨u0, u1, u2, u3, u4, u5, u6, u7, u8, u9, rfl⟩ := len10 hl
                    rcases i with _ | _ | _ | _ | _ | _ | _ | _ | _ | _ | i
                    · simp only [List.getElem?_cons_succ, List.getElem?_cons_zero, Option.some.injEq] at ho; subst ho; clear hi hl
                      clear hd
                      simp only [List.take_succ_cons, List.take_zero, List.drop_succ_cons, List.drop_zero, List.map_cons, List.map_nil, puts, Act.put, List.setIfInBounds_toArray, List.set_cons_succ, List.set_cons_zero]
                      go_wp2_with (fail)
                      exact ⟨rfl, _, rfl, Below.refl _ _, rfl⟩
                    · simp only [List.getElem?_cons_succ, List.getElem?_cons_zero, Option.some.injEq] at ho; subst ho; clear hi hl
                      have s0 : (fun (vv : Value) (ww : World) => vv = .bool true) u0 wz := hd 0 (by kernel_rfl)
                      simp only at s0
                      obtain rfl := s0
                      clear hd
                      simp only [List.take_succ_cons, List.take_zero, List.drop_succ_cons, List.drop_zero, List.map_cons, List.map_nil, puts, Act.put, List.setIfInBounds_toArray, List.set_cons_succ, List.set_cons_zero]
                      go_wp2_with (fail)
                      exact ⟨rfl, _, rfl, Below.refl _ _, rfl⟩
                    · simp only [List.getElem?_cons_succ, List.getElem?_cons_zero, Option.some.injEq] at ho; subst ho; clear hi hl
                      have s1 : (fun (vv : Value) (ww : World) => vv = .bool true) u1 wz := hd 1 (by kernel_rfl)
                      simp only at s1
                      obtain rfl := s1
                      clear hd
                      simp only [List.take_succ_cons, List.take_zero, List.drop_succ_cons, List.drop_zero, List.map_cons, List.map_nil, puts, Act.put, List.setIfInBounds_toArray, List.set_cons_succ, List.set_cons_zero]
                      go_wp2_with (fail)
                      exact ⟨rfl, _, rfl, Below.refl _ _, rfl⟩
                    · simp only [List.getElem?_cons_succ, List.getElem?_cons_zero, Option.some.injEq] at ho; subst ho; clear hi hl
                      have s1 : (fun (vv : Value) (ww : World) => vv = .bool true) u1 wz := hd 1 (by kernel_rfl)
                      simp only at s1
                      obtain rfl := s1
                      have s2 : (fun (vv : Value) (ww : World) => vv = .int .i64 (t : Int)) u2 wz := hd 2 (by kernel_rfl)
                      simp only at s2
                      obtain rfl := s2
                      clear hd
                      simp only [List.take_succ_cons, List.take_zero, List.drop_succ_cons, List.drop_zero, List.map_cons, List.map_nil, puts, Act.put, List.setIfInBounds_toArray, List.set_cons_succ, List.set_cons_zero]
                      go_wp2_with (((with_reducible refine' wpList_at_blk (.tmp 14) (.tmp 97) 24 rfl ?_ Tryd.underlying24 sz_u8 ?_ (t) ?_ ?_ ?_); exact rfl; exact rfl; (show (_ : Int) = _; omega); omega; simp only [Act.put, List.setIfInBounds_toArray, List.set_cons_succ, List.set_cons_zero]))
                      exact ⟨rfl, _, rfl, Below.refl _ _, rfl⟩
                    · simp only [List.getElem?_cons_succ, List.getElem?_cons_zero, Option.some.injEq] at ho; subst ho; clear hi hl
                      have s1 : (fun (vv : Value) (ww : World) => vv = .bool true) u1 wz := hd 1 (by kernel_rfl)
                      simp only at s1
                      obtain rfl := s1
                      have s3 : (fun (vv : Value) (ww : World) => vv = .pointer (some ⟨B14, t, none⟩)) u3 wz := hd 3 (by kernel_rfl)
                      simp only at s3
                      obtain rfl := s3
                      clear hd
                      simp only [List.take_succ_cons, List.take_zero, List.drop_succ_cons, List.drop_zero, List.map_cons, List.map_nil, puts, Act.put, List.setIfInBounds_toArray, List.set_cons_succ, List.set_cons_zero]
                      go_wp2_with (((with_reducible refine' wpList_load_blk (.tmp 98) 5 rfl ?_ ld_u8 ?_ (r14.below hbz lx) (XX.out) ?_); exact rfl; exact rfl; simp only [Act.put, List.setIfInBounds_toArray, List.set_cons_succ, List.set_cons_zero]))
                      exact ⟨rfl, _, rfl, Below.refl _ _, rfl⟩
                    · simp only [List.getElem?_cons_succ, List.getElem?_cons_zero, Option.some.injEq] at ho; subst ho; clear hi hl
                      have s1 : (fun (vv : Value) (ww : World) => vv = .bool true) u1 wz := hd 1 (by kernel_rfl)
                      simp only at s1
                      obtain rfl := s1
                      clear hd
                      simp only [List.take_succ_cons, List.take_zero, List.drop_succ_cons, List.drop_zero, List.map_cons, List.map_nil, puts, Act.put, List.setIfInBounds_toArray, List.set_cons_succ, List.set_cons_zero]
                      go_wp2_with (fail)
                      exact ⟨rfl, _, rfl, Below.refl _ _, rfl⟩
                    · simp only [List.getElem?_cons_succ, List.getElem?_cons_zero, Option.some.injEq] at ho; subst ho; clear hi hl
                      have s1 : (fun (vv : Value) (ww : World) => vv = .bool true) u1 wz := hd 1 (by kernel_rfl)
                      simp only at s1
                      obtain rfl := s1
                      have s5 : (fun (vv : Value) (ww : World) => vv = .int .i64 (t : Int)) u5 wz := hd 5 (by kernel_rfl)
                      simp only at s5
                      obtain rfl := s5
                      clear hd
                      simp only [List.take_succ_cons, List.take_zero, List.drop_succ_cons, List.drop_zero, List.map_cons, List.map_nil, puts, Act.put, List.setIfInBounds_toArray, List.set_cons_succ, List.set_cons_zero]
                      go_wp2_with (((with_reducible refine' wpList_at_blk (.tmp 15) (.tmp 100) 24 rfl ?_ Tryd.underlying24 sz_u8 ?_ (t) ?_ ?_ ?_); exact rfl; exact rfl; (show (_ : Int) = _; omega); omega; simp only [Act.put, List.setIfInBounds_toArray, List.set_cons_succ, List.set_cons_zero]))
                      exact ⟨rfl, _, rfl, Below.refl _ _, rfl⟩
                    · simp only [List.getElem?_cons_succ, List.getElem?_cons_zero, Option.some.injEq] at ho; subst ho; clear hi hl
                      have s1 : (fun (vv : Value) (ww : World) => vv = .bool true) u1 wz := hd 1 (by kernel_rfl)
                      simp only at s1
                      obtain rfl := s1
                      have s6 : (fun (vv : Value) (ww : World) => vv = .pointer (some ⟨B15, t, none⟩)) u6 wz := hd 6 (by kernel_rfl)
                      simp only at s6
                      obtain rfl := s6
                      clear hd
                      simp only [List.take_succ_cons, List.take_zero, List.drop_succ_cons, List.drop_zero, List.map_cons, List.map_nil, puts, Act.put, List.setIfInBounds_toArray, List.set_cons_succ, List.set_cons_zero]
                      go_wp2_with (((with_reducible refine' wpList_load_blk (.tmp 101) 5 rfl ?_ ld_u8 ?_ (r15.below hbz ly) (XY.out) ?_); exact rfl; exact rfl; simp only [Act.put, List.setIfInBounds_toArray, List.set_cons_succ, List.set_cons_zero]))
                      exact ⟨rfl, _, rfl, Below.refl _ _, rfl⟩
                    · simp only [List.getElem?_cons_succ, List.getElem?_cons_zero, Option.some.injEq] at ho; subst ho; clear hi hl
                      have s1 : (fun (vv : Value) (ww : World) => vv = .bool true) u1 wz := hd 1 (by kernel_rfl)
                      simp only at s1
                      obtain rfl := s1
                      have s4 : (fun (vv : Value) (ww : World) => vv = .int .u8 (gx.toNat : Int)) u4 wz := hd 4 (by kernel_rfl)
                      simp only at s4
                      obtain rfl := s4
                      have s7 : (fun (vv : Value) (ww : World) => vv = .int .u8 (gy.toNat : Int)) u7 wz := hd 7 (by kernel_rfl)
                      simp only at s7
                      obtain rfl := s7
                      clear hd
                      simp only [List.take_succ_cons, List.take_zero, List.drop_succ_cons, List.drop_zero, List.map_cons, List.map_nil, puts, Act.put, List.setIfInBounds_toArray, List.set_cons_succ, List.set_cons_zero]
                      go_wp2_with (fail)
                      exact ⟨rfl, _, rfl, Below.refl _ _, by first | rw [UE.out] | rw [UD.out]⟩
                    · simp only [List.getElem?_cons_succ, List.getElem?_cons_zero, Option.some.injEq] at ho; subst ho; clear hi hl
                      have s1 : (fun (vv : Value) (ww : World) => vv = .bool true) u1 wz := hd 1 (by kernel_rfl)
                      simp only at s1
                      obtain rfl := s1
                      have s8 : (fun (vv : Value) (ww : World) => vv = .bool (decide (gx = gy))) u8 wz := hd 8 (by kernel_rfl)
                      simp only at s8
                      obtain rfl := s8
                      clear hd
                      simp only [List.take_succ_cons, List.take_zero, List.drop_succ_cons, List.drop_zero, List.map_cons, List.map_nil, puts, Act.put, List.setIfInBounds_toArray, List.set_cons_succ, List.set_cons_zero]
                      go_wp2_with (fail)
                      exact ⟨rfl, _, rfl, Below.refl _ _, rfl⟩
                    · omega
                  intro us wz hl hbz hS
                  obtain ⟨u0, u1, u2, u3, u4, u5, u6, u7, u8, u9, rfl⟩ := len10 hl
                  have s9 : (fun (vv : Value) (ww : World) => vv = .bool (decide (gx = gy))) u9 wz := hS 9 (by omega)
                  simp only at s9
                  obtain rfl := s9
                  clear hS hl
                  simp only [List.take_succ_cons, List.take_zero, List.drop_succ_cons, List.drop_zero, List.map_cons, List.map_nil, puts, Act.put, List.setIfInBounds_toArray, List.set_cons_succ, List.set_cons_zero]
                  go_wp2_with fail
                  refine onlyN ?_
                  go_wp2_with fail
                  go_roundw
                  case rel => exact ⟨t + 1, by omega, by go_num, by rw [STEP.out, Bool.true_and], hbl.trans (hbz.mono hbl.size)⟩
                  case measure => simp [intOf]; omega
              · obtain rfl : t = 16 := by omega
                rw [EX.out, EY.out]
                have r12 := q12.below hbl q12.lt
                have r13 := q13.below hbl q13.lt
                have rxx := rx.below hbl
                have ryy := ry.below hbl
                obtain ⟨E, hE⟩ : ∃ E, Hid (decide (DX = DY) = E) := ⟨_, Lib.hid rfl⟩
                rw [hE.out]
                go_wp2_with (first
                  | ((with_reducible refine' wpList_str_rd (.tmp 107) 22 9 rfl ?_ Tryd.underlying22 Tryd.underlying5 Tryd.underlying9 ?_ rxx ?_); exact rfl; exact rfl; simp only [Act.put, List.setIfInBounds_toArray, List.set_cons_succ, List.set_cons_zero]) | ((with_reducible refine' wpList_str_rd (.tmp 109) 22 9 rfl ?_ Tryd.underlying22 Tryd.underlying5 Tryd.underlying9 ?_ ryy ?_); exact rfl; exact rfl; simp only [Act.put, List.setIfInBounds_toArray, List.set_cons_succ, List.set_cons_zero]) | (((with_reducible refine' wpList_str_neq (l := IX) (m := IY) (.tmp 108) (.tmp 110) 9 _ rfl ?_ ?_ ?_ ?_); exact rfl; exact rfl; exact rfl; simp only [Act.put, List.setIfInBounds_toArray, List.set_cons_succ, List.set_cons_zero]); rw [D.out])
                  | ((with_reducible refine' wpList_loadall_blk (.tmp 12) 44 rfl ?_ Tryd.underlying44 sz_dig ?_ r12 ?_ ?_ ?_); exact rfl; exact rfl; exact DXB.out; omega; simp only [Act.put, List.setIfInBounds_toArray, List.set_cons_succ, List.set_cons_zero]) | ((with_reducible refine' wpList_loadall_blk (.tmp 13) 44 rfl ?_ Tryd.underlying44 sz_dig ?_ r13 ?_ ?_ ?_); exact rfl; exact rfl; exact DYB.out; omega; simp only [Act.put, List.setIfInBounds_toArray, List.set_cons_succ, List.set_cons_zero])
                  | (((with_reducible refine' wpList_arr_eql (l := DX) (m := DY) (.tmp 114) (.tmp 115) 44 _ rfl ?_ Tryd.underlying44 Tryd.underlying5 sz_u8 (by kernel_rfl) ?_ ?_ DXL.out DYL.out ?_); exact rfl; exact rfl; exact rfl; simp only [Act.put, List.setIfInBounds_toArray, List.set_cons_succ, List.set_cons_zero]); rw [hE.out]))
                go_ret
                exact ⟨rfl, hb.trans (hbl.mono hb.size)⟩
    · have hg2 : fewB m = false := by simpa using hg
      go_enter Tryd.func8, Tryd.ntmps8
      go_wp2_with (first
        | (((with_reducible refine' wpList_boxa (cs := bv [a, b]) 48 (.tmp 0) rfl ?_ ?_ ?_); exact rfl; exact rfl; intro w1 k1 hN hz1; simp only [Act.put, List.setIfInBounds_toArray, List.set_cons_succ, List.set_cons_zero]); replace hb := hb.trans ((by exact hN : Below _ _ _).mono hb.size); (try replace hx := Rd.below hx hN); (try replace hy := Rd.below hy hN))
        | ((go_at_call 10; (with_reducible refine (sanity_any _ (hT.below hb)).mono ?_); rintro e w' ⟨rfl, hN⟩); replace hb := hb.trans ((by exact hN : Below _ _ _).mono hb.size); (try replace hx := Rd.below hx hN); (try replace hy := Rd.below hy hN))
        | ((go_at_call 13; (with_reducible refine (reffew_any x _ l _ hx HL.out).mono ?_); rintro e w' ⟨rfl, rfl⟩); rw [hf])
        | ((go_at_call 13; (with_reducible refine (reffew_any y _ m _ hy HM.out).mono ?_); rintro e w' ⟨rfl, rfl⟩); rw [hg2]))
      go_ret
      exact ⟨rfl, hb⟩
  · have hf2 : fewB l = false := by simpa using hf
    go_enter Tryd.func8, Tryd.ntmps8
    go_wp2_with (first
      | (((with_reducible refine' wpList_boxa (cs := bv [a, b]) 48 (.tmp 0) rfl ?_ ?_ ?_); exact rfl; exact rfl; intro w1 k1 hN hz1; simp only [Act.put, List.setIfInBounds_toArray, List.set_cons_succ, List.set_cons_zero]); replace hb := hb.trans ((by exact hN : Below _ _ _).mono hb.size); (try replace hx := Rd.below hx hN); (try replace hy := Rd.below hy hN))
      | ((go_at_call 10; (with_reducible refine (sanity_any _ (hT.below hb)).mono ?_); rintro e w' ⟨rfl, hN⟩); replace hb := hb.trans ((by exact hN : Below _ _ _).mono hb.size); (try replace hx := Rd.below hx hN); (try replace hy := Rd.below hy hN))
      | ((go_at_call 13; (with_reducible refine (reffew_any x _ l _ hx HL.out).mono ?_); rintro e w' ⟨rfl, rfl⟩); rw [hf2]))
    go_ret
    exact ⟨rfl, hb⟩
end Go.Proofs.YtomjniijnpnehaaDoor.Wi
