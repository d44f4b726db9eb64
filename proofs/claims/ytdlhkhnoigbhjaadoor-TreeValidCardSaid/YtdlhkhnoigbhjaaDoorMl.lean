/-
  Tfy, Tvd: my texts of these names, one behind the other. Conditions: those that each law names.
-/
import Derived.Test.YtdlhkhnoigbhjaaDoorMk
namespace Go.Proofs.YtdlhkhnoigbhjaaDoor.Pu
def fOk (s : ShpP) (n m want : Int) : Bool := fIs s.1 want && (decide (s.2.1 ≤ n) && (decide (n ≤ s.2.2.1) && (decide (0 ≤ m) && decide (m ≤ s.2.2.2.1))))
def fLen (s : ShpP) (k n : Int) (len : Nat) : Bool := if k = 26 then decide (n ≤ (len : Int) - 1) && decide ((len : Int) - 1 ≤ 6) else decide (s.2.2.2.2.2.2.1 ≤ (len : Int) - s.2.2.2.2.1.length) && decide ((len : Int) - s.2.2.2.2.1.length ≤ s.2.2.2.2.2.1)
theorem tfits_row {i : Nat} {s : ShpP} (hs : shF[i]? = some s) (n m want : Int) (ts : List Tree) : tfits (.mk (i : Int) n m ts) want = (fOk s n m want && (fLen s (i : Int) n ts.length && tfitsL (fWant (i : Int) n ts.length) 0 ts)) := by
  rw [tfits, fHead, Int.toNat_natCast, hs]
  simp only [fOk, fLen]
  rw [decide_eq_true (show (0 : Int) ≤ (i : Int) by omega), Bool.true_and]
  simp only [Bool.and_assoc]
end Go.Proofs.YtdlhkhnoigbhjaaDoor.Pu
namespace Go.Proofs.YtdlhkhnoigbhjaaDoor.Wi
open Go Go.RowKit Pu Lb
set_option linter.unusedSimpArgs false
set_option linter.unusedVariables false
theorem fo_shp_4 : fieldOf Tryd.prog 105 4 = some 4 := by kernel_rfl
theorem fo_shp_5 : fieldOf Tryd.prog 105 5 = some 5 := by kernel_rfl
theorem fo_shp_6 : fieldOf Tryd.prog 105 6 = some 6 := by kernel_rfl
theorem fo_shp_7 : fieldOf Tryd.prog 105 7 = some 7 := by kernel_rfl
theorem ld_srs (ad : Addr) (u : Value) (w : World) (h : w.cell? ad = some u) : (loadVar 103 ad).run Tryd.prog w = .ok u w := load_one _ _ Tryd.underlying103 rfl ad u w h
theorem sz_srt : (Tryd.prog.info? 71).map (·.size) = some 1 := by kernel_rfl
set_option maxRecDepth 100000 in
set_option maxHeartbeats 3200000 in
theorem fits_any : ∀ t : Tree, FitsC t := by
  refine Tree.ind fun k n m ts ih => ?_
  intro want cs0 w hT hS hz
  have IH := Lib.hid ih
  have HT0 := Lib.hid hT
  have HZ0 := Lib.hid hz
  clear ih
  rw [IsT] at hT
  obtain ⟨v, xs, rfl, hr, hts⟩ := hT
  rw [tsize] at hz
  have CO := Lib.hid (HT0.out.ones)
  have X0 := Lib.hid (show ([.int .i64 k, .int .i64 n, .int .i64 m, v] : List Value)[0]? = some (.int .i64 k) from rfl)
  have X1 := Lib.hid (show ([.int .i64 k, .int .i64 n, .int .i64 m, v] : List Value)[1]? = some (.int .i64 n) from rfl)
  have X2 := Lib.hid (show ([.int .i64 k, .int .i64 n, .int .i64 m, v] : List Value)[2]? = some (.int .i64 m) from rfl)
  have X3 := Lib.hid (show ([.int .i64 k, .int .i64 n, .int .i64 m, v] : List Value)[3]? = some v from rfl)
  have hlen := tsizes_len ts
  by_cases ck : k < 0
  · have HF := Lib.hid (show tfits (.mk k n m ts) want = false by
      rw [tfits, fHead]
      split
      · rfl
      · rw [decide_eq_false (show ¬ (0 : Int) ≤ k by omega), Bool.false_and, Bool.false_and])
    have b1 : decide (k < 0) = true := decide_eq_true ck
    clear ck
    go_enter Tryd.func54, Tryd.ntmps54
    go_wp2_with (first
      | (((with_reducible refine' wpList_boxa (cs := [.int .i64 k, .int .i64 n, .int .i64 m, v]) 25 (.tmp 0) rfl ?_ ?_ ?_); exact rfl; exact rfl; intro w1 kA hN1 hz1; simp only [Act.put, List.setIfInBounds_toArray, List.set_cons_succ, List.set_cons_zero]))
      | ((with_reducible refine' wpList_field_blk (j := 0) (.tmp 2) 25 0 rfl ?_ fo_node_0 ?_ rfl ?_); exact rfl; exact rfl; simp only [Act.put, List.setIfInBounds_toArray, List.set_cons_succ, List.set_cons_zero]) | ((with_reducible refine' wpList_load_blk (.tmp 11) 3 rfl ?_ ld_int ?_ kA (X0.out) ?_); exact rfl; exact rfl; simp only [Act.put, List.setIfInBounds_toArray, List.set_cons_succ, List.set_cons_zero]))
    go_ret
    rw [HF.out]
    exact ⟨rfl, hN1⟩
  have b1 : decide (k < 0) = false := decide_eq_false ck
  by_cases ck2 : 28 ≤ k
  · have HF := Lib.hid (show tfits (.mk k n m ts) want = false by
      rw [tfits, fHead, List.getElem?_eq_none (by simp [shF]; omega)]; rfl)
    have b2 : decide (28 ≤ k) = true := decide_eq_true ck2
    clear ck ck2
    go_enter Tryd.func54, Tryd.ntmps54
    go_wp2_with (first
      | (((with_reducible refine' wpList_boxa (cs := [.int .i64 k, .int .i64 n, .int .i64 m, v]) 25 (.tmp 0) rfl ?_ ?_ ?_); exact rfl; exact rfl; intro w1 kA hN1 hz1; simp only [Act.put, List.setIfInBounds_toArray, List.set_cons_succ, List.set_cons_zero]))
      | ((with_reducible refine' wpList_field_blk (j := 0) (.tmp 2) 25 0 rfl ?_ fo_node_0 ?_ rfl ?_); exact rfl; exact rfl; simp only [Act.put, List.setIfInBounds_toArray, List.set_cons_succ, List.set_cons_zero]) | ((with_reducible refine' wpList_load_blk (.tmp 11) 3 rfl ?_ ld_int ?_ kA (X0.out) ?_); exact rfl; exact rfl; simp only [Act.put, List.setIfInBounds_toArray, List.set_cons_succ, List.set_cons_zero]) | ((with_reducible refine' wpList_load_blk (.tmp 15) 3 rfl ?_ ld_int ?_ kA (X0.out) ?_); exact rfl; exact rfl; simp only [Act.put, List.setIfInBounds_toArray, List.set_cons_succ, List.set_cons_zero]))
    go_ret
    rw [HF.out]
    exact ⟨rfl, hN1⟩
  have b2 : decide (28 ≤ k) = false := decide_eq_false ck2
  obtain ⟨i, rfl⟩ : ∃ i : Nat, k = (i : Int) := ⟨k.toNat, by omega⟩
  obtain ⟨s, hs⟩ : ∃ s, shF[i]? = some s := ⟨_, List.getElem?_eq_getElem (by simp [shF]; omega)⟩
  have TR := Lib.hid (tfits_row hs n m want ts)
  have HS := Lib.hid hs
  have i28 : i < 28 := by omega
  go_enter Tryd.func54, Tryd.ntmps54
  go_upto_region 3 with (first
    | (((with_reducible refine' wpList_boxa (cs := [.int .i64 (i : Int), .int .i64 n, .int .i64 m, v]) 25 (.tmp 0) rfl ?_ ?_ ?_); exact rfl; exact rfl; intro w1 kA hN1 hz1; simp only [Act.put, List.setIfInBounds_toArray, List.set_cons_succ, List.set_cons_zero]))
    | ((with_reducible refine' wpList_field_blk (j := 0) (.tmp 2) 25 0 rfl ?_ fo_node_0 ?_ rfl ?_); exact rfl; exact rfl; simp only [Act.put, List.setIfInBounds_toArray, List.set_cons_succ, List.set_cons_zero]) | ((with_reducible refine' wpList_load_blk (.tmp 11) 3 rfl ?_ ld_int ?_ kA (X0.out) ?_); exact rfl; exact rfl; simp only [Act.put, List.setIfInBounds_toArray, List.set_cons_succ, List.set_cons_zero]) | ((with_reducible refine' wpList_load_blk (.tmp 15) 3 rfl ?_ ld_int ?_ kA (X0.out) ?_); exact rfl; exact rfl; simp only [Act.put, List.setIfInBounds_toArray, List.set_cons_succ, List.set_cons_zero]))
  obtain ⟨vk, hrk, hcell⟩ := hS.below hN1 i s hs
  obtain ⟨s1, s2, s3, s4, ks, s6, s7, s8⟩ := s
  simp only at hrk
  have VO : vk.oneCell' = true := X3one hrk
  obtain ⟨sc, hsc⟩ : ∃ x, shC (s1, s2, s3, s4, ks, s6, s7, s8) vk = x := ⟨_, rfl⟩
  have SO := Lib.hid (show ∀ u ∈ sc, u.oneCell' = true by rw [← hsc]; exact shC_ones VO)
  have SL := Lib.hid (show sc.length = 8 by rw [← hsc]; rfl)
  have S0 := Lib.hid (show sc[0]? = some (.int .i64 s1) by rw [← hsc]; rfl)
  have S1 := Lib.hid (show sc[1]? = some (.int .i64 s2) by rw [← hsc]; rfl)
  have S2 := Lib.hid (show sc[2]? = some (.int .i64 s3) by rw [← hsc]; rfl)
  have S3 := Lib.hid (show sc[3]? = some (.int .i64 s4) by rw [← hsc]; rfl)
  have S4 := Lib.hid (show sc[4]? = some vk by rw [← hsc]; rfl)
  have S5 := Lib.hid (show sc[5]? = some (.int .i64 s6) by rw [← hsc]; rfl)
  have S6 := Lib.hid (show sc[6]? = some (.int .i64 s7) by rw [← hsc]; rfl)
  have S7 := Lib.hid (show sc[7]? = some (.int .i64 s8) by rw [← hsc]; rfl)
  have SH := Lib.hid (show ∀ (j : Nat) (u : Value), sc[j]? = some u → w1.cell? ⟨0, i * 8 + j, none⟩ = some u by rw [← hsc]; exact hcell)
  have lA := kA.lt
  clear hsc hcell hs VO ck ck2
  go_upto_region 4 with (first
    | ((with_reducible refine' wpList_field_blk (j := 0) (.tmp 2) 25 0 rfl ?_ fo_node_0 ?_ rfl ?_); exact rfl; exact rfl; simp only [Act.put, List.setIfInBounds_toArray, List.set_cons_succ, List.set_cons_zero]) | ((with_reducible refine' wpList_load_blk (.tmp 19) 3 rfl ?_ ld_int ?_ kA (X0.out) ?_); exact rfl; exact rfl; simp only [Act.put, List.setIfInBounds_toArray, List.set_cons_succ, List.set_cons_zero])
    | ((with_reducible refine' wpList_at_blks (.global 0) (.tmp 20) 106 rfl ?_ Tryd.underlying106 sz_shp ?_ (i) ?_ ?_ ?_); exact rfl; (show (_ : Int) = _; omega); omega; simp only [Act.put, List.setIfInBounds_toArray, List.set_cons_succ, List.set_cons_zero])
    | ((with_reducible refine' wpList_load_tabat (cs := sc) (.tmp 21) 105 rfl ?_ Tryd.underlying105 rfl sz_shp SL.out ?_ SH.out ?_); exact rfl; exact rfl; simp only [Act.put, List.setIfInBounds_toArray, List.set_cons_succ, List.set_cons_zero])
    | (((with_reducible refine' wpList_alloc_blk (cs := shz) 105 rfl ?_ zr_shp ?_ ?_); exact rfl; exact rfl; intro w2 k2 hN2 hz2; simp only [Act.put, List.setIfInBounds_toArray, List.set_cons_succ, List.set_cons_zero]))
    | ((with_reducible refine' wpList_store_blk (cs := sc) 105 (.tmp 5) (.tmp 22) rfl ?_ ?_ ?_ k2 sz_shp ?_ ?_ ?_ ?_); exact rfl; exact rfl; exact rfl; exact SL.out; exact rfl; exact SO.out; intro w3 k3 hO3 hz3; simp only [Act.put]))
  have hb3 : Below w.heap.size w w3 := hN1.trans ((hN2.mono hN1.size).trans (hO3.below hN1.size (Nat.le_trans hN1.size hN2.size)))
  have b13 : Below w1.heap.size w1 w3 := hN2.trans (hO3.below (Nat.le_refl _) (Nat.le_of_lt k2.lt))
  have kA3 := kA.below b13 lA
  have hr3 := hr.below hb3
  have ht3 := Lib.hid (IsTs.below hb3 hts)
  have hS3 := hS.below hb3
  have hrk3 := hrk.below b13
  obtain ⟨D, hD⟩ : ∃ D, w1.heap.size = D := ⟨_, rfl⟩
  rw [hD] at k3
  rw [hD]
  clear hN1 hN2 hO3 b13 kA hz1 hz2 hz3 k2 hr hts hS hrk hD lA SH
  go_cut [6] from 23 to 44 (fun v wr => v = .bool (fIs s1 want) ∧ w3 = wr)
  case first =>
    by_cases e1 : s1 = want
    · subst e1
      have HV := Lib.hid (show fIs s1 s1 = true by simp [fIs])
      go_wp2_with (first | ((with_reducible refine' wpList_field_blk (j := 0) (.tmp 5) 105 0 rfl ?_ fo_shp_0 ?_ rfl ?_); exact rfl; exact rfl; simp only [Act.put, List.setIfInBounds_toArray, List.set_cons_succ, List.set_cons_zero]) | ((with_reducible refine' wpList_load_blk (.tmp 23) 71 rfl ?_ ld_srt ?_ k3 (S0.out) ?_); exact rfl; exact rfl; simp only [Act.put, List.setIfInBounds_toArray, List.set_cons_succ, List.set_cons_zero]) | ((with_reducible refine' wpList_load_blk (.tmp 28) 71 rfl ?_ ld_srt ?_ k3 (S0.out) ?_); exact rfl; exact rfl; simp only [Act.put, List.setIfInBounds_toArray, List.set_cons_succ, List.set_cons_zero]) | ((with_reducible refine' wpList_load_blk (.tmp 37) 71 rfl ?_ ld_srt ?_ k3 (S0.out) ?_); exact rfl; exact rfl; simp only [Act.put, List.setIfInBounds_toArray, List.set_cons_succ, List.set_cons_zero]))
      go_meet
      case rel => (first | exact ⟨by rw [HV.out], rfl⟩ | ((repeat apply Exists.intro); exact ⟨⟨by rw [HV.out], rfl⟩, rfl⟩))
    · have f1 : (s1 == want) = false := by rw [beq_eq_false_iff_ne]; exact e1
      have g1 : decide (s1 = want) = false := decide_eq_false e1
      by_cases e2 : s1 = 3
      · subst e2
        by_cases e3 : want = 2
        · subst e3
          have HV := Lib.hid (show fIs 3 2 = true by simp [fIs])
          go_wp2_with (first | ((with_reducible refine' wpList_field_blk (j := 0) (.tmp 5) 105 0 rfl ?_ fo_shp_0 ?_ rfl ?_); exact rfl; exact rfl; simp only [Act.put, List.setIfInBounds_toArray, List.set_cons_succ, List.set_cons_zero]) | ((with_reducible refine' wpList_load_blk (.tmp 23) 71 rfl ?_ ld_srt ?_ k3 (S0.out) ?_); exact rfl; exact rfl; simp only [Act.put, List.setIfInBounds_toArray, List.set_cons_succ, List.set_cons_zero]) | ((with_reducible refine' wpList_load_blk (.tmp 28) 71 rfl ?_ ld_srt ?_ k3 (S0.out) ?_); exact rfl; exact rfl; simp only [Act.put, List.setIfInBounds_toArray, List.set_cons_succ, List.set_cons_zero]) | ((with_reducible refine' wpList_load_blk (.tmp 37) 71 rfl ?_ ld_srt ?_ k3 (S0.out) ?_); exact rfl; exact rfl; simp only [Act.put, List.setIfInBounds_toArray, List.set_cons_succ, List.set_cons_zero]))
          go_meet
          case rel => (first | exact ⟨by rw [HV.out], rfl⟩ | ((repeat apply Exists.intro); exact ⟨⟨by rw [HV.out], rfl⟩, rfl⟩))
        · have f3 : (want == 2) = false := by rw [beq_eq_false_iff_ne]; exact e3
          have g3 : decide (want = 2) = false := decide_eq_false e3
          have HV := Lib.hid (show fIs 3 want = false by simp [fIs, f3, e3, Ne.symm e1]; omega)
          go_wp2_with (first | ((with_reducible refine' wpList_field_blk (j := 0) (.tmp 5) 105 0 rfl ?_ fo_shp_0 ?_ rfl ?_); exact rfl; exact rfl; simp only [Act.put, List.setIfInBounds_toArray, List.set_cons_succ, List.set_cons_zero]) | ((with_reducible refine' wpList_load_blk (.tmp 23) 71 rfl ?_ ld_srt ?_ k3 (S0.out) ?_); exact rfl; exact rfl; simp only [Act.put, List.setIfInBounds_toArray, List.set_cons_succ, List.set_cons_zero]) | ((with_reducible refine' wpList_load_blk (.tmp 28) 71 rfl ?_ ld_srt ?_ k3 (S0.out) ?_); exact rfl; exact rfl; simp only [Act.put, List.setIfInBounds_toArray, List.set_cons_succ, List.set_cons_zero]) | ((with_reducible refine' wpList_load_blk (.tmp 37) 71 rfl ?_ ld_srt ?_ k3 (S0.out) ?_); exact rfl; exact rfl; simp only [Act.put, List.setIfInBounds_toArray, List.set_cons_succ, List.set_cons_zero]))
          go_meet
          case rel => (first | exact ⟨by rw [HV.out], rfl⟩ | ((repeat apply Exists.intro); exact ⟨⟨by rw [HV.out], rfl⟩, rfl⟩))
      · have f2 : (s1 == 3) = false := by rw [beq_eq_false_iff_ne]; exact e2
        have g2 : decide (s1 = 3) = false := decide_eq_false e2
        by_cases e4 : s1 = 6
        · subst e4
          by_cases e5 : want = 5
          · subst e5
            have HV := Lib.hid (show fIs 6 5 = true by simp [fIs])
            go_wp2_with (first | ((with_reducible refine' wpList_field_blk (j := 0) (.tmp 5) 105 0 rfl ?_ fo_shp_0 ?_ rfl ?_); exact rfl; exact rfl; simp only [Act.put, List.setIfInBounds_toArray, List.set_cons_succ, List.set_cons_zero]) | ((with_reducible refine' wpList_load_blk (.tmp 23) 71 rfl ?_ ld_srt ?_ k3 (S0.out) ?_); exact rfl; exact rfl; simp only [Act.put, List.setIfInBounds_toArray, List.set_cons_succ, List.set_cons_zero]) | ((with_reducible refine' wpList_load_blk (.tmp 28) 71 rfl ?_ ld_srt ?_ k3 (S0.out) ?_); exact rfl; exact rfl; simp only [Act.put, List.setIfInBounds_toArray, List.set_cons_succ, List.set_cons_zero]) | ((with_reducible refine' wpList_load_blk (.tmp 37) 71 rfl ?_ ld_srt ?_ k3 (S0.out) ?_); exact rfl; exact rfl; simp only [Act.put, List.setIfInBounds_toArray, List.set_cons_succ, List.set_cons_zero]))
            go_meet
            case rel => (first | exact ⟨by rw [HV.out], rfl⟩ | ((repeat apply Exists.intro); exact ⟨⟨by rw [HV.out], rfl⟩, rfl⟩))
          · have f5 : (want == 5) = false := by rw [beq_eq_false_iff_ne]; exact e5
            have g5 : decide (want = 5) = false := decide_eq_false e5
            have HV := Lib.hid (show fIs 6 want = false by simp [fIs, f5, e5]; omega)
            go_wp2_with (first | ((with_reducible refine' wpList_field_blk (j := 0) (.tmp 5) 105 0 rfl ?_ fo_shp_0 ?_ rfl ?_); exact rfl; exact rfl; simp only [Act.put, List.setIfInBounds_toArray, List.set_cons_succ, List.set_cons_zero]) | ((with_reducible refine' wpList_load_blk (.tmp 23) 71 rfl ?_ ld_srt ?_ k3 (S0.out) ?_); exact rfl; exact rfl; simp only [Act.put, List.setIfInBounds_toArray, List.set_cons_succ, List.set_cons_zero]) | ((with_reducible refine' wpList_load_blk (.tmp 28) 71 rfl ?_ ld_srt ?_ k3 (S0.out) ?_); exact rfl; exact rfl; simp only [Act.put, List.setIfInBounds_toArray, List.set_cons_succ, List.set_cons_zero]) | ((with_reducible refine' wpList_load_blk (.tmp 37) 71 rfl ?_ ld_srt ?_ k3 (S0.out) ?_); exact rfl; exact rfl; simp only [Act.put, List.setIfInBounds_toArray, List.set_cons_succ, List.set_cons_zero]))
            go_meet
            case rel => (first | exact ⟨by rw [HV.out], rfl⟩ | ((repeat apply Exists.intro); exact ⟨⟨by rw [HV.out], rfl⟩, rfl⟩))
        · have f4 : (s1 == 6) = false := by rw [beq_eq_false_iff_ne]; exact e4
          have g4 : decide (s1 = 6) = false := decide_eq_false e4
          have HV := Lib.hid (show fIs s1 want = false by simp [fIs, f1, f2, f4, e1, e2, e4])
          go_wp2_with (first | ((with_reducible refine' wpList_field_blk (j := 0) (.tmp 5) 105 0 rfl ?_ fo_shp_0 ?_ rfl ?_); exact rfl; exact rfl; simp only [Act.put, List.setIfInBounds_toArray, List.set_cons_succ, List.set_cons_zero]) | ((with_reducible refine' wpList_load_blk (.tmp 23) 71 rfl ?_ ld_srt ?_ k3 (S0.out) ?_); exact rfl; exact rfl; simp only [Act.put, List.setIfInBounds_toArray, List.set_cons_succ, List.set_cons_zero]) | ((with_reducible refine' wpList_load_blk (.tmp 28) 71 rfl ?_ ld_srt ?_ k3 (S0.out) ?_); exact rfl; exact rfl; simp only [Act.put, List.setIfInBounds_toArray, List.set_cons_succ, List.set_cons_zero]) | ((with_reducible refine' wpList_load_blk (.tmp 37) 71 rfl ?_ ld_srt ?_ k3 (S0.out) ?_); exact rfl; exact rfl; simp only [Act.put, List.setIfInBounds_toArray, List.set_cons_succ, List.set_cons_zero]))
          go_meet
          case rel => (first | exact ⟨by rw [HV.out], rfl⟩ | ((repeat apply Exists.intro); exact ⟨⟨by rw [HV.out], rfl⟩, rfl⟩))
  case rest =>
    obtain ⟨rfl, rfl⟩ := hcut
    have NO : ∀ {X Y : Bool}, X = false → (X && Y) = false := fun h => by rw [h, Bool.false_and]
    by_cases c0 : fIs s1 want = true
    · rw [c0]
      by_cases c1 : n < s2
      · have e1 : decide (n < s2) = true := decide_eq_true c1
        have HF := Lib.hid (show tfits (.mk (i : Int) n m ts) want = false by rw [TR.out]; exact NO (by unfold fOk; rw [decide_eq_false (show ¬ s2 ≤ n by omega), Bool.false_and, Bool.and_false]))
        go_wp2_with (first
          | ((with_reducible refine' wpList_field_blk (j := 1) (.tmp 2) 25 1 rfl ?_ fo_node_1 ?_ rfl ?_); exact rfl; exact rfl; simp only [Act.put, List.setIfInBounds_toArray, List.set_cons_succ, List.set_cons_zero]) | ((with_reducible refine' wpList_field_blk (j := 2) (.tmp 2) 25 2 rfl ?_ fo_node_2 ?_ rfl ?_); exact rfl; exact rfl; simp only [Act.put, List.setIfInBounds_toArray, List.set_cons_succ, List.set_cons_zero]) | ((with_reducible refine' wpList_field_blk (j := 1) (.tmp 5) 105 1 rfl ?_ fo_shp_1 ?_ rfl ?_); exact rfl; exact rfl; simp only [Act.put, List.setIfInBounds_toArray, List.set_cons_succ, List.set_cons_zero]) | ((with_reducible refine' wpList_field_blk (j := 2) (.tmp 5) 105 2 rfl ?_ fo_shp_2 ?_ rfl ?_); exact rfl; exact rfl; simp only [Act.put, List.setIfInBounds_toArray, List.set_cons_succ, List.set_cons_zero]) | ((with_reducible refine' wpList_field_blk (j := 3) (.tmp 5) 105 3 rfl ?_ fo_shp_3 ?_ rfl ?_); exact rfl; exact rfl; simp only [Act.put, List.setIfInBounds_toArray, List.set_cons_succ, List.set_cons_zero])
          | ((with_reducible refine' wpList_load_blk (.tmp 48) 3 rfl ?_ ld_int ?_ kA3 (X1.out) ?_); exact rfl; exact rfl; simp only [Act.put, List.setIfInBounds_toArray, List.set_cons_succ, List.set_cons_zero]) | ((with_reducible refine' wpList_load_blk (.tmp 55) 3 rfl ?_ ld_int ?_ kA3 (X1.out) ?_); exact rfl; exact rfl; simp only [Act.put, List.setIfInBounds_toArray, List.set_cons_succ, List.set_cons_zero]) | ((with_reducible refine' wpList_load_blk (.tmp 62) 3 rfl ?_ ld_int ?_ kA3 (X2.out) ?_); exact rfl; exact rfl; simp only [Act.put, List.setIfInBounds_toArray, List.set_cons_succ, List.set_cons_zero]) | ((with_reducible refine' wpList_load_blk (.tmp 67) 3 rfl ?_ ld_int ?_ kA3 (X2.out) ?_); exact rfl; exact rfl; simp only [Act.put, List.setIfInBounds_toArray, List.set_cons_succ, List.set_cons_zero])
          | ((with_reducible refine' wpList_load_blk (.tmp 50) 3 rfl ?_ ld_int ?_ k3 (S1.out) ?_); exact rfl; exact rfl; simp only [Act.put, List.setIfInBounds_toArray, List.set_cons_succ, List.set_cons_zero]) | ((with_reducible refine' wpList_load_blk (.tmp 57) 3 rfl ?_ ld_int ?_ k3 (S2.out) ?_); exact rfl; exact rfl; simp only [Act.put, List.setIfInBounds_toArray, List.set_cons_succ, List.set_cons_zero]) | ((with_reducible refine' wpList_load_blk (.tmp 69) 3 rfl ?_ ld_int ?_ k3 (S3.out) ?_); exact rfl; exact rfl; simp only [Act.put, List.setIfInBounds_toArray, List.set_cons_succ, List.set_cons_zero]))
        go_ret
        rw [HF.out]
        exact ⟨rfl, hb3⟩
      have e1 : decide (n < s2) = false := decide_eq_false c1
      by_cases c2 : s3 < n
      · have e2 : decide (s3 < n) = true := decide_eq_true c2
        have HF := Lib.hid (show tfits (.mk (i : Int) n m ts) want = false by rw [TR.out]; exact NO (by unfold fOk; rw [decide_eq_false (show ¬ n ≤ s3 by omega), Bool.false_and, Bool.and_false, Bool.and_false]))
        go_wp2_with (first
          | ((with_reducible refine' wpList_field_blk (j := 1) (.tmp 2) 25 1 rfl ?_ fo_node_1 ?_ rfl ?_); exact rfl; exact rfl; simp only [Act.put, List.setIfInBounds_toArray, List.set_cons_succ, List.set_cons_zero]) | ((with_reducible refine' wpList_field_blk (j := 2) (.tmp 2) 25 2 rfl ?_ fo_node_2 ?_ rfl ?_); exact rfl; exact rfl; simp only [Act.put, List.setIfInBounds_toArray, List.set_cons_succ, List.set_cons_zero]) | ((with_reducible refine' wpList_field_blk (j := 1) (.tmp 5) 105 1 rfl ?_ fo_shp_1 ?_ rfl ?_); exact rfl; exact rfl; simp only [Act.put, List.setIfInBounds_toArray, List.set_cons_succ, List.set_cons_zero]) | ((with_reducible refine' wpList_field_blk (j := 2) (.tmp 5) 105 2 rfl ?_ fo_shp_2 ?_ rfl ?_); exact rfl; exact rfl; simp only [Act.put, List.setIfInBounds_toArray, List.set_cons_succ, List.set_cons_zero]) | ((with_reducible refine' wpList_field_blk (j := 3) (.tmp 5) 105 3 rfl ?_ fo_shp_3 ?_ rfl ?_); exact rfl; exact rfl; simp only [Act.put, List.setIfInBounds_toArray, List.set_cons_succ, List.set_cons_zero])
          | ((with_reducible refine' wpList_load_blk (.tmp 48) 3 rfl ?_ ld_int ?_ kA3 (X1.out) ?_); exact rfl; exact rfl; simp only [Act.put, List.setIfInBounds_toArray, List.set_cons_succ, List.set_cons_zero]) | ((with_reducible refine' wpList_load_blk (.tmp 55) 3 rfl ?_ ld_int ?_ kA3 (X1.out) ?_); exact rfl; exact rfl; simp only [Act.put, List.setIfInBounds_toArray, List.set_cons_succ, List.set_cons_zero]) | ((with_reducible refine' wpList_load_blk (.tmp 62) 3 rfl ?_ ld_int ?_ kA3 (X2.out) ?_); exact rfl; exact rfl; simp only [Act.put, List.setIfInBounds_toArray, List.set_cons_succ, List.set_cons_zero]) | ((with_reducible refine' wpList_load_blk (.tmp 67) 3 rfl ?_ ld_int ?_ kA3 (X2.out) ?_); exact rfl; exact rfl; simp only [Act.put, List.setIfInBounds_toArray, List.set_cons_succ, List.set_cons_zero])
          | ((with_reducible refine' wpList_load_blk (.tmp 50) 3 rfl ?_ ld_int ?_ k3 (S1.out) ?_); exact rfl; exact rfl; simp only [Act.put, List.setIfInBounds_toArray, List.set_cons_succ, List.set_cons_zero]) | ((with_reducible refine' wpList_load_blk (.tmp 57) 3 rfl ?_ ld_int ?_ k3 (S2.out) ?_); exact rfl; exact rfl; simp only [Act.put, List.setIfInBounds_toArray, List.set_cons_succ, List.set_cons_zero]) | ((with_reducible refine' wpList_load_blk (.tmp 69) 3 rfl ?_ ld_int ?_ k3 (S3.out) ?_); exact rfl; exact rfl; simp only [Act.put, List.setIfInBounds_toArray, List.set_cons_succ, List.set_cons_zero]))
        go_ret
        rw [HF.out]
        exact ⟨rfl, hb3⟩
      have e2 : decide (s3 < n) = false := decide_eq_false c2
      by_cases c3 : m < 0
      · have e3 : decide (m < 0) = true := decide_eq_true c3
        have HF := Lib.hid (show tfits (.mk (i : Int) n m ts) want = false by rw [TR.out]; exact NO (by unfold fOk; rw [decide_eq_false (show ¬ 0 ≤ m by omega), Bool.false_and, Bool.and_false, Bool.and_false, Bool.and_false]))
        go_wp2_with (first
          | ((with_reducible refine' wpList_field_blk (j := 1) (.tmp 2) 25 1 rfl ?_ fo_node_1 ?_ rfl ?_); exact rfl; exact rfl; simp only [Act.put, List.setIfInBounds_toArray, List.set_cons_succ, List.set_cons_zero]) | ((with_reducible refine' wpList_field_blk (j := 2) (.tmp 2) 25 2 rfl ?_ fo_node_2 ?_ rfl ?_); exact rfl; exact rfl; simp only [Act.put, List.setIfInBounds_toArray, List.set_cons_succ, List.set_cons_zero]) | ((with_reducible refine' wpList_field_blk (j := 1) (.tmp 5) 105 1 rfl ?_ fo_shp_1 ?_ rfl ?_); exact rfl; exact rfl; simp only [Act.put, List.setIfInBounds_toArray, List.set_cons_succ, List.set_cons_zero]) | ((with_reducible refine' wpList_field_blk (j := 2) (.tmp 5) 105 2 rfl ?_ fo_shp_2 ?_ rfl ?_); exact rfl; exact rfl; simp only [Act.put, List.setIfInBounds_toArray, List.set_cons_succ, List.set_cons_zero]) | ((with_reducible refine' wpList_field_blk (j := 3) (.tmp 5) 105 3 rfl ?_ fo_shp_3 ?_ rfl ?_); exact rfl; exact rfl; simp only [Act.put, List.setIfInBounds_toArray, List.set_cons_succ, List.set_cons_zero])
          | ((with_reducible refine' wpList_load_blk (.tmp 48) 3 rfl ?_ ld_int ?_ kA3 (X1.out) ?_); exact rfl; exact rfl; simp only [Act.put, List.setIfInBounds_toArray, List.set_cons_succ, List.set_cons_zero]) | ((with_reducible refine' wpList_load_blk (.tmp 55) 3 rfl ?_ ld_int ?_ kA3 (X1.out) ?_); exact rfl; exact rfl; simp only [Act.put, List.setIfInBounds_toArray, List.set_cons_succ, List.set_cons_zero]) | ((with_reducible refine' wpList_load_blk (.tmp 62) 3 rfl ?_ ld_int ?_ kA3 (X2.out) ?_); exact rfl; exact rfl; simp only [Act.put, List.setIfInBounds_toArray, List.set_cons_succ, List.set_cons_zero]) | ((with_reducible refine' wpList_load_blk (.tmp 67) 3 rfl ?_ ld_int ?_ kA3 (X2.out) ?_); exact rfl; exact rfl; simp only [Act.put, List.setIfInBounds_toArray, List.set_cons_succ, List.set_cons_zero])
          | ((with_reducible refine' wpList_load_blk (.tmp 50) 3 rfl ?_ ld_int ?_ k3 (S1.out) ?_); exact rfl; exact rfl; simp only [Act.put, List.setIfInBounds_toArray, List.set_cons_succ, List.set_cons_zero]) | ((with_reducible refine' wpList_load_blk (.tmp 57) 3 rfl ?_ ld_int ?_ k3 (S2.out) ?_); exact rfl; exact rfl; simp only [Act.put, List.setIfInBounds_toArray, List.set_cons_succ, List.set_cons_zero]) | ((with_reducible refine' wpList_load_blk (.tmp 69) 3 rfl ?_ ld_int ?_ k3 (S3.out) ?_); exact rfl; exact rfl; simp only [Act.put, List.setIfInBounds_toArray, List.set_cons_succ, List.set_cons_zero]))
        go_ret
        rw [HF.out]
        exact ⟨rfl, hb3⟩
      have e3 : decide (m < 0) = false := decide_eq_false c3
      by_cases c4 : s4 < m
      · have e4 : decide (s4 < m) = true := decide_eq_true c4
        have HF := Lib.hid (show tfits (.mk (i : Int) n m ts) want = false by rw [TR.out]; exact NO (by unfold fOk; rw [decide_eq_false (show ¬ m ≤ s4 by omega), Bool.and_false, Bool.and_false, Bool.and_false, Bool.and_false]))
        go_wp2_with (first
          | ((with_reducible refine' wpList_field_blk (j := 1) (.tmp 2) 25 1 rfl ?_ fo_node_1 ?_ rfl ?_); exact rfl; exact rfl; simp only [Act.put, List.setIfInBounds_toArray, List.set_cons_succ, List.set_cons_zero]) | ((with_reducible refine' wpList_field_blk (j := 2) (.tmp 2) 25 2 rfl ?_ fo_node_2 ?_ rfl ?_); exact rfl; exact rfl; simp only [Act.put, List.setIfInBounds_toArray, List.set_cons_succ, List.set_cons_zero]) | ((with_reducible refine' wpList_field_blk (j := 1) (.tmp 5) 105 1 rfl ?_ fo_shp_1 ?_ rfl ?_); exact rfl; exact rfl; simp only [Act.put, List.setIfInBounds_toArray, List.set_cons_succ, List.set_cons_zero]) | ((with_reducible refine' wpList_field_blk (j := 2) (.tmp 5) 105 2 rfl ?_ fo_shp_2 ?_ rfl ?_); exact rfl; exact rfl; simp only [Act.put, List.setIfInBounds_toArray, List.set_cons_succ, List.set_cons_zero]) | ((with_reducible refine' wpList_field_blk (j := 3) (.tmp 5) 105 3 rfl ?_ fo_shp_3 ?_ rfl ?_); exact rfl; exact rfl; simp only [Act.put, List.setIfInBounds_toArray, List.set_cons_succ, List.set_cons_zero])
          | ((with_reducible refine' wpList_load_blk (.tmp 48) 3 rfl ?_ ld_int ?_ kA3 (X1.out) ?_); exact rfl; exact rfl; simp only [Act.put, List.setIfInBounds_toArray, List.set_cons_succ, List.set_cons_zero]) | ((with_reducible refine' wpList_load_blk (.tmp 55) 3 rfl ?_ ld_int ?_ kA3 (X1.out) ?_); exact rfl; exact rfl; simp only [Act.put, List.setIfInBounds_toArray, List.set_cons_succ, List.set_cons_zero]) | ((with_reducible refine' wpList_load_blk (.tmp 62) 3 rfl ?_ ld_int ?_ kA3 (X2.out) ?_); exact rfl; exact rfl; simp only [Act.put, List.setIfInBounds_toArray, List.set_cons_succ, List.set_cons_zero]) | ((with_reducible refine' wpList_load_blk (.tmp 67) 3 rfl ?_ ld_int ?_ kA3 (X2.out) ?_); exact rfl; exact rfl; simp only [Act.put, List.setIfInBounds_toArray, List.set_cons_succ, List.set_cons_zero])
          | ((with_reducible refine' wpList_load_blk (.tmp 50) 3 rfl ?_ ld_int ?_ k3 (S1.out) ?_); exact rfl; exact rfl; simp only [Act.put, List.setIfInBounds_toArray, List.set_cons_succ, List.set_cons_zero]) | ((with_reducible refine' wpList_load_blk (.tmp 57) 3 rfl ?_ ld_int ?_ k3 (S2.out) ?_); exact rfl; exact rfl; simp only [Act.put, List.setIfInBounds_toArray, List.set_cons_succ, List.set_cons_zero]) | ((with_reducible refine' wpList_load_blk (.tmp 69) 3 rfl ?_ ld_int ?_ k3 (S3.out) ?_); exact rfl; exact rfl; simp only [Act.put, List.setIfInBounds_toArray, List.set_cons_succ, List.set_cons_zero]))
        go_ret
        rw [HF.out]
        exact ⟨rfl, hb3⟩
      have e4 : decide (s4 < m) = false := decide_eq_false c4
      have OKB := Lib.hid (show fOk (s1, s2, s3, s4, ks, s6, s7, s8) n m want = true by
        unfold fOk
        simp only
        rw [c0, decide_eq_true (show s2 ≤ n by omega), decide_eq_true (show n ≤ s3 by omega), decide_eq_true (show 0 ≤ m by omega), decide_eq_true (show m ≤ s4 by omega)]; rfl)
      have HN2 := Lib.hid (show s2 ≤ n by omega)
      clear c1 c2 c3 c4 c0
      go_upto_region 7 with (first
          | ((with_reducible refine' wpList_field_blk (j := 1) (.tmp 2) 25 1 rfl ?_ fo_node_1 ?_ rfl ?_); exact rfl; exact rfl; simp only [Act.put, List.setIfInBounds_toArray, List.set_cons_succ, List.set_cons_zero]) | ((with_reducible refine' wpList_field_blk (j := 2) (.tmp 2) 25 2 rfl ?_ fo_node_2 ?_ rfl ?_); exact rfl; exact rfl; simp only [Act.put, List.setIfInBounds_toArray, List.set_cons_succ, List.set_cons_zero]) | ((with_reducible refine' wpList_field_blk (j := 1) (.tmp 5) 105 1 rfl ?_ fo_shp_1 ?_ rfl ?_); exact rfl; exact rfl; simp only [Act.put, List.setIfInBounds_toArray, List.set_cons_succ, List.set_cons_zero]) | ((with_reducible refine' wpList_field_blk (j := 2) (.tmp 5) 105 2 rfl ?_ fo_shp_2 ?_ rfl ?_); exact rfl; exact rfl; simp only [Act.put, List.setIfInBounds_toArray, List.set_cons_succ, List.set_cons_zero]) | ((with_reducible refine' wpList_field_blk (j := 3) (.tmp 5) 105 3 rfl ?_ fo_shp_3 ?_ rfl ?_); exact rfl; exact rfl; simp only [Act.put, List.setIfInBounds_toArray, List.set_cons_succ, List.set_cons_zero])
          | ((with_reducible refine' wpList_load_blk (.tmp 48) 3 rfl ?_ ld_int ?_ kA3 (X1.out) ?_); exact rfl; exact rfl; simp only [Act.put, List.setIfInBounds_toArray, List.set_cons_succ, List.set_cons_zero]) | ((with_reducible refine' wpList_load_blk (.tmp 55) 3 rfl ?_ ld_int ?_ kA3 (X1.out) ?_); exact rfl; exact rfl; simp only [Act.put, List.setIfInBounds_toArray, List.set_cons_succ, List.set_cons_zero]) | ((with_reducible refine' wpList_load_blk (.tmp 62) 3 rfl ?_ ld_int ?_ kA3 (X2.out) ?_); exact rfl; exact rfl; simp only [Act.put, List.setIfInBounds_toArray, List.set_cons_succ, List.set_cons_zero]) | ((with_reducible refine' wpList_load_blk (.tmp 67) 3 rfl ?_ ld_int ?_ kA3 (X2.out) ?_); exact rfl; exact rfl; simp only [Act.put, List.setIfInBounds_toArray, List.set_cons_succ, List.set_cons_zero])
          | ((with_reducible refine' wpList_load_blk (.tmp 50) 3 rfl ?_ ld_int ?_ k3 (S1.out) ?_); exact rfl; exact rfl; simp only [Act.put, List.setIfInBounds_toArray, List.set_cons_succ, List.set_cons_zero]) | ((with_reducible refine' wpList_load_blk (.tmp 57) 3 rfl ?_ ld_int ?_ k3 (S2.out) ?_); exact rfl; exact rfl; simp only [Act.put, List.setIfInBounds_toArray, List.set_cons_succ, List.set_cons_zero]) | ((with_reducible refine' wpList_load_blk (.tmp 69) 3 rfl ?_ ld_int ?_ k3 (S3.out) ?_); exact rfl; exact rfl; simp only [Act.put, List.setIfInBounds_toArray, List.set_cons_succ, List.set_cons_zero]))
      by_cases k26 : (i : Int) = 26
      · have f1 : ((i : Int) == 26) = true := by rw [beq_iff_eq]; exact k26
        have f2 : decide ((i : Int) = 26) = true := decide_eq_true k26
        have f3 : decide (i = 26) = true := decide_eq_true (by omega)
        have n0 : 0 ≤ n := by
          have h := HS.out
          obtain rfl : i = 26 := by omega
          simp only [shF, List.getElem?_cons_succ, List.getElem?_cons_zero, Option.some.injEq, Prod.mk.injEq] at h
          have := HN2.out
          omega
        have HF := Lib.hid (show tfits (.mk (i : Int) n m ts) want = fFun n ts by
          rw [TR.out, OKB.out, Bool.true_and]
          unfold fLen fFun
          rw [if_pos k26, k26, Bool.and_assoc])
        have hT3 := HT0.out.below hb3
        have FF := Lib.hid (ff_step (i : Int) n m ts IH.out _ _ hT3 hS3 HZ0.out n0)
        clear k26
        go_wp2_with (first
          | ((with_reducible refine' wpList_field_blk (j := 0) (.tmp 2) 25 0 rfl ?_ fo_node_0 ?_ rfl ?_); exact rfl; exact rfl; simp only [Act.put, List.setIfInBounds_toArray, List.set_cons_succ, List.set_cons_zero]) | ((with_reducible refine' wpList_load_blk (.tmp 73) 3 rfl ?_ ld_int ?_ kA3 (X0.out) ?_); exact rfl; exact rfl; simp only [Act.put, List.setIfInBounds_toArray, List.set_cons_succ, List.set_cons_zero]) | ((with_reducible refine' wpList_loadst_blk (.tmp 2) 25 rfl ?_ Tryd.underlying25 ?_ sz_node ?_ kA3 ?_ ?_ ?_); exact rfl; exact rfl; exact rfl; exact rfl; decide; simp only [Act.put, List.setIfInBounds_toArray, List.set_cons_succ, List.set_cons_zero])
          | ((go_at_call 75; (with_reducible refine (FF.out).mono ?_); rintro e w' ⟨rfl, hN4⟩)))
        go_ret
        rw [HF.out]
        exact ⟨rfl, hb3.trans (hN4.mono hb3.size)⟩
      have f1 : ((i : Int) == 26) = false := by rw [beq_eq_false_iff_ne]; exact k26
      have f2 : decide ((i : Int) = 26) = false := decide_eq_false k26
      have f3 : decide (i = 26) = false := decide_eq_false (by omega)
      have HL2 := Lib.hid (show fLen (s1, s2, s3, s4, ks, s6, s7, s8) (i : Int) n ts.length = (decide (s7 ≤ (ts.length : Int) - ks.length) && decide ((ts.length : Int) - ks.length ≤ s6)) by unfold fLen; rw [if_neg k26])
      have HW := Lib.hid (show ∀ j, fWant (i : Int) n ts.length j = (ks[j]?).getD s8 from fun j => by unfold fWant; rw [Int.toNat_natCast, HS.out]; simp only [if_neg k26])
      have HKL := Lib.hid (show ks.length ≤ 3 by
        have h : ∀ i, i < 28 → ∀ s, shF[i]? = some s → s.2.2.2.2.1.length ≤ 3 := by
          intro i hi s hs
          have := List.mem_of_getElem? hs
          have hall : ∀ s ∈ shF, s.2.2.2.2.1.length ≤ 3 := by decide
          exact hall s this
        exact h i i28 _ HS.out)
      have hkl := HKL.out
      clear k26
      by_cases d1 : (ts.length : Int) - ks.length < s7
      · have e5 : decide ((ts.length : Int) - ks.length < s7) = true := decide_eq_true d1
        have HF := Lib.hid (show tfits (.mk (i : Int) n m ts) want = false by rw [TR.out, HL2.out, decide_eq_false (show ¬ s7 ≤ (ts.length : Int) - ks.length by omega), Bool.false_and, Bool.false_and, Bool.and_false])
        go_wp2_with (first
          | ((with_reducible refine' wpList_field_blk (j := 0) (.tmp 2) 25 0 rfl ?_ fo_node_0 ?_ rfl ?_); exact rfl; exact rfl; simp only [Act.put, List.setIfInBounds_toArray, List.set_cons_succ, List.set_cons_zero]) | ((with_reducible refine' wpList_load_blk (.tmp 73) 3 rfl ?_ ld_int ?_ kA3 (X0.out) ?_); exact rfl; exact rfl; simp only [Act.put, List.setIfInBounds_toArray, List.set_cons_succ, List.set_cons_zero]) | ((with_reducible refine' wpList_field_blk (j := 3) (.tmp 2) 25 3 rfl ?_ fo_node_3 ?_ rfl ?_); exact rfl; exact rfl; simp only [Act.put, List.setIfInBounds_toArray, List.set_cons_succ, List.set_cons_zero]) | ((with_reducible refine' wpList_load_blk (.tmp 78) 23 rfl ?_ ld_nds ?_ kA3 (X3.out) ?_); exact rfl; exact rfl; simp only [Act.put, List.setIfInBounds_toArray, List.set_cons_succ, List.set_cons_zero]) | ((with_reducible refine' wpList_len_rd (.tmp 79) 23 rfl ?_ Tryd.underlying23 ?_ hr3 ?_); exact rfl; exact rfl; simp only [Act.put, List.setIfInBounds_toArray, List.set_cons_succ, List.set_cons_zero])
          | ((with_reducible refine' wpList_field_blk (j := 4) (.tmp 5) 105 4 rfl ?_ fo_shp_4 ?_ rfl ?_); exact rfl; exact rfl; simp only [Act.put, List.setIfInBounds_toArray, List.set_cons_succ, List.set_cons_zero]) | ((with_reducible refine' wpList_load_blk (.tmp 81) 103 rfl ?_ ld_srs ?_ k3 (S4.out) ?_); exact rfl; exact rfl; simp only [Act.put, List.setIfInBounds_toArray, List.set_cons_succ, List.set_cons_zero]) | ((with_reducible refine' wpList_len_rd (.tmp 82) 103 rfl ?_ Tryd.underlying103 ?_ hrk3 ?_); exact rfl; exact rfl; simp only [Act.put, List.setIfInBounds_toArray, List.set_cons_succ, List.set_cons_zero]) | ((with_reducible refine' wpList_field_blk (j := 6) (.tmp 5) 105 6 rfl ?_ fo_shp_6 ?_ rfl ?_); exact rfl; exact rfl; simp only [Act.put, List.setIfInBounds_toArray, List.set_cons_succ, List.set_cons_zero]) | ((with_reducible refine' wpList_load_blk (.tmp 86) 3 rfl ?_ ld_int ?_ k3 (S6.out) ?_); exact rfl; exact rfl; simp only [Act.put, List.setIfInBounds_toArray, List.set_cons_succ, List.set_cons_zero]))
        go_ret
        rw [HF.out]
        exact ⟨rfl, hb3⟩
      have e5 : decide ((ts.length : Int) - ks.length < s7) = false := decide_eq_false d1
      by_cases d2 : s6 < (ts.length : Int) - ks.length
      · have e6 : decide (s6 < (ts.length : Int) - ks.length) = true := decide_eq_true d2
        have HF := Lib.hid (show tfits (.mk (i : Int) n m ts) want = false by rw [TR.out, HL2.out, decide_eq_false (show ¬ (ts.length : Int) - ks.length ≤ s6 by omega), Bool.and_false, Bool.false_and, Bool.and_false])
        go_wp2_with (first
          | ((with_reducible refine' wpList_field_blk (j := 0) (.tmp 2) 25 0 rfl ?_ fo_node_0 ?_ rfl ?_); exact rfl; exact rfl; simp only [Act.put, List.setIfInBounds_toArray, List.set_cons_succ, List.set_cons_zero]) | ((with_reducible refine' wpList_load_blk (.tmp 73) 3 rfl ?_ ld_int ?_ kA3 (X0.out) ?_); exact rfl; exact rfl; simp only [Act.put, List.setIfInBounds_toArray, List.set_cons_succ, List.set_cons_zero]) | ((with_reducible refine' wpList_field_blk (j := 3) (.tmp 2) 25 3 rfl ?_ fo_node_3 ?_ rfl ?_); exact rfl; exact rfl; simp only [Act.put, List.setIfInBounds_toArray, List.set_cons_succ, List.set_cons_zero]) | ((with_reducible refine' wpList_load_blk (.tmp 78) 23 rfl ?_ ld_nds ?_ kA3 (X3.out) ?_); exact rfl; exact rfl; simp only [Act.put, List.setIfInBounds_toArray, List.set_cons_succ, List.set_cons_zero]) | ((with_reducible refine' wpList_len_rd (.tmp 79) 23 rfl ?_ Tryd.underlying23 ?_ hr3 ?_); exact rfl; exact rfl; simp only [Act.put, List.setIfInBounds_toArray, List.set_cons_succ, List.set_cons_zero])
          | ((with_reducible refine' wpList_field_blk (j := 4) (.tmp 5) 105 4 rfl ?_ fo_shp_4 ?_ rfl ?_); exact rfl; exact rfl; simp only [Act.put, List.setIfInBounds_toArray, List.set_cons_succ, List.set_cons_zero]) | ((with_reducible refine' wpList_load_blk (.tmp 81) 103 rfl ?_ ld_srs ?_ k3 (S4.out) ?_); exact rfl; exact rfl; simp only [Act.put, List.setIfInBounds_toArray, List.set_cons_succ, List.set_cons_zero]) | ((with_reducible refine' wpList_len_rd (.tmp 82) 103 rfl ?_ Tryd.underlying103 ?_ hrk3 ?_); exact rfl; exact rfl; simp only [Act.put, List.setIfInBounds_toArray, List.set_cons_succ, List.set_cons_zero]) | ((with_reducible refine' wpList_field_blk (j := 6) (.tmp 5) 105 6 rfl ?_ fo_shp_6 ?_ rfl ?_); exact rfl; exact rfl; simp only [Act.put, List.setIfInBounds_toArray, List.set_cons_succ, List.set_cons_zero]) | ((with_reducible refine' wpList_load_blk (.tmp 86) 3 rfl ?_ ld_int ?_ k3 (S6.out) ?_); exact rfl; exact rfl; simp only [Act.put, List.setIfInBounds_toArray, List.set_cons_succ, List.set_cons_zero]) | ((with_reducible refine' wpList_field_blk (j := 5) (.tmp 5) 105 5 rfl ?_ fo_shp_5 ?_ rfl ?_); exact rfl; exact rfl; simp only [Act.put, List.setIfInBounds_toArray, List.set_cons_succ, List.set_cons_zero]) | ((with_reducible refine' wpList_load_blk (.tmp 91) 3 rfl ?_ ld_int ?_ k3 (S5.out) ?_); exact rfl; exact rfl; simp only [Act.put, List.setIfInBounds_toArray, List.set_cons_succ, List.set_cons_zero]))
        go_ret
        rw [HF.out]
        exact ⟨rfl, hb3⟩
      have e6 : decide (s6 < (ts.length : Int) - ks.length) = false := decide_eq_false d2
      have HF := Lib.hid (show tfits (.mk (i : Int) n m ts) want = tfitsL (fWant (i : Int) n ts.length) 0 ts by
        rw [TR.out, HL2.out, OKB.out, decide_eq_true (show s7 ≤ (ts.length : Int) - ks.length by omega), decide_eq_true (show (ts.length : Int) - ks.length ≤ s6 by omega)]; rfl)
      clear d1 d2
      go_upto_region 13 with (first
        | ((with_reducible refine' wpList_field_blk (j := 0) (.tmp 2) 25 0 rfl ?_ fo_node_0 ?_ rfl ?_); exact rfl; exact rfl; simp only [Act.put, List.setIfInBounds_toArray, List.set_cons_succ, List.set_cons_zero]) | ((with_reducible refine' wpList_load_blk (.tmp 73) 3 rfl ?_ ld_int ?_ kA3 (X0.out) ?_); exact rfl; exact rfl; simp only [Act.put, List.setIfInBounds_toArray, List.set_cons_succ, List.set_cons_zero]) | ((with_reducible refine' wpList_field_blk (j := 3) (.tmp 2) 25 3 rfl ?_ fo_node_3 ?_ rfl ?_); exact rfl; exact rfl; simp only [Act.put, List.setIfInBounds_toArray, List.set_cons_succ, List.set_cons_zero]) | ((with_reducible refine' wpList_load_blk (.tmp 78) 23 rfl ?_ ld_nds ?_ kA3 (X3.out) ?_); exact rfl; exact rfl; simp only [Act.put, List.setIfInBounds_toArray, List.set_cons_succ, List.set_cons_zero]) | ((with_reducible refine' wpList_len_rd (.tmp 79) 23 rfl ?_ Tryd.underlying23 ?_ hr3 ?_); exact rfl; exact rfl; simp only [Act.put, List.setIfInBounds_toArray, List.set_cons_succ, List.set_cons_zero])
        | ((with_reducible refine' wpList_field_blk (j := 4) (.tmp 5) 105 4 rfl ?_ fo_shp_4 ?_ rfl ?_); exact rfl; exact rfl; simp only [Act.put, List.setIfInBounds_toArray, List.set_cons_succ, List.set_cons_zero]) | ((with_reducible refine' wpList_load_blk (.tmp 81) 103 rfl ?_ ld_srs ?_ k3 (S4.out) ?_); exact rfl; exact rfl; simp only [Act.put, List.setIfInBounds_toArray, List.set_cons_succ, List.set_cons_zero]) | ((with_reducible refine' wpList_len_rd (.tmp 82) 103 rfl ?_ Tryd.underlying103 ?_ hrk3 ?_); exact rfl; exact rfl; simp only [Act.put, List.setIfInBounds_toArray, List.set_cons_succ, List.set_cons_zero]) | ((with_reducible refine' wpList_field_blk (j := 6) (.tmp 5) 105 6 rfl ?_ fo_shp_6 ?_ rfl ?_); exact rfl; exact rfl; simp only [Act.put, List.setIfInBounds_toArray, List.set_cons_succ, List.set_cons_zero]) | ((with_reducible refine' wpList_load_blk (.tmp 86) 3 rfl ?_ ld_int ?_ k3 (S6.out) ?_); exact rfl; exact rfl; simp only [Act.put, List.setIfInBounds_toArray, List.set_cons_succ, List.set_cons_zero]) | ((with_reducible refine' wpList_field_blk (j := 5) (.tmp 5) 105 5 rfl ?_ fo_shp_5 ?_ rfl ?_); exact rfl; exact rfl; simp only [Act.put, List.setIfInBounds_toArray, List.set_cons_succ, List.set_cons_zero]) | ((with_reducible refine' wpList_load_blk (.tmp 91) 3 rfl ?_ ld_int ?_ k3 (S5.out) ?_); exact rfl; exact rfl; simp only [Act.put, List.setIfInBounds_toArray, List.set_cons_succ, List.set_cons_zero])
        | ((with_reducible refine' wpList_load_blk (.tmp 95) 23 rfl ?_ ld_nds ?_ kA3 (X3.out) ?_); exact rfl; exact rfl; simp only [Act.put, List.setIfInBounds_toArray, List.set_cons_succ, List.set_cons_zero]) | ((with_reducible refine' wpList_len_rd (.tmp 96) 23 rfl ?_ Tryd.underlying23 ?_ hr3 ?_); exact rfl; exact rfl; simp only [Act.put, List.setIfInBounds_toArray, List.set_cons_succ, List.set_cons_zero]))
      go_loopw [98] (fun i2 wr => ∃ j : Nat, j ≤ ts.length ∧ i2 = .int .i64 (j : Int) ∧ Hid (∀ r u, r < j → ts[r]? = some u → tfits u (fWant (i : Int) n ts.length r) = true) ∧ Below w3.heap.size w3 wr) (fun i _ => ts.length - (intOf i).toNat)
      case atStart => exact ⟨0, Nat.zero_le _, rfl, Lib.hid (fun r u hr => absurd hr (by omega)), Below.refl _ _⟩
      case round =>
        obtain ⟨j, hj, rfl, HE, hbj⟩ := hrel
        obtain ⟨wo, rfl⟩ : ∃ wo : World, wo = wr := ⟨_, rfl⟩
        by_cases hlt : j < ts.length
        · obtain ⟨t, ht⟩ := kid_at (ts := ts) (i := j) hlt
          obtain ⟨cj, hcj⟩ : ∃ cs, (xs.drop (j * 4)).take 4 = cs := ⟨_, rfl⟩
          have hTj := (IsTs.get ht3.out ht).below hbj
          rw [hcj] at hTj
          have HC := Lib.hid hcj
          have XL := ht3.out.len
          have BD := Lib.hid (show j * 4 + 4 ≤ xs.length by rw [XL]; omega)
          have zj := tsize_mem (List.mem_of_getElem? ht)
          have zj2 : tsize t ≤ 1000000 := by omega
          have CL := Lib.hid hTj.len
          have CO2 := Lib.hid hTj.ones
          have HT1 := Lib.hid ht
          have hrj := hr3.below hbj
          have kDj := k3.below hbj k3.lt
          have hSj := hS3.below hbj
          have hrkj := hrk3.below hbj
          have LJ : decide ((j : Int) < (ts.length : Int)) = true := by rw [decide_eq_true_eq]; omega
          clear hcj ht XL
          by_cases cn : j < ks.length
          · have LN : decide (j < ks.length) = true := decide_eq_true cn
            obtain ⟨wv, hwv⟩ : ∃ x, ks[j]? = some x := ⟨_, List.getElem?_eq_getElem cn⟩
            have KJ := Lib.hid (show (iv ks)[j]? = some (.int .i64 wv) by simp [iv, hwv])
            have WJ : fWant (i : Int) n ts.length j = wv := by rw [HW.out, hwv]; rfl
            have IHj := Lib.hid (IH.out t (List.mem_of_getElem? HT1.out) wv cj)
            by_cases cf : tfits t wv = true
            · have CF := Lib.hid cf
              have HE2 := Lib.hid (show ∀ r u, r < j + 1 → ts[r]? = some u → tfits u (fWant (i : Int) n ts.length r) = true from fun r u hr hu => by
                by_cases hrj2 : r = j
                · subst hrj2; rw [HT1.out] at hu; cases hu; rw [WJ]; exact CF.out
                · exact HE.out r u (by omega) hu)
              clear cf HE WJ
              go_wp2_with (first
                | ((with_reducible refine' wpList_at_rd (.tmp 96) (.tmp 98) 23 rfl ?_ Tryd.underlying23 sz_node ?_ hrj (by decide) (j) ?_ ?_ ?_); exact rfl; exact rfl; (show (_ : Int) = _; omega); omega; simp only [Act.put, List.setIfInBounds_toArray, List.set_cons_succ, List.set_cons_zero]) | ((with_reducible refine' wpList_load_st (cp := cj) (.tmp 101) 25 rfl ?_ Tryd.underlying25 ?_ sz_node ?_ hrj ?_ ?_ HC.out ?_); exact rfl; exact rfl; exact rfl; exact BD.out; decide; simp only [Act.put, List.setIfInBounds_toArray, List.set_cons_succ, List.set_cons_zero])
                | (((with_reducible refine' wpList_alloc_blk (cs := nodz) 25 rfl ?_ zr_node ?_ ?_); exact rfl; exact nodz_cells; intro w4 k4 hN4 hz4; simp only [Act.put, List.setIfInBounds_toArray, List.set_cons_succ, List.set_cons_zero]))
                | (((with_reducible refine' wpList_store_blk (cs := cj) 25 (.tmp 9) (.tmp 102) rfl ?_ ?_ ?_ k4 sz_node ?_ ?_ ?_ ?_); exact rfl; exact rfl; exact rfl; exact CL.out; exact rfl; exact CO2.out; intro w5 k5 hO5 hz5; simp only [Act.put]); have hb5 : Below wo.heap.size wo w5 := (hN4.trans (hO5.below (Nat.le_refl _) (Nat.le_of_lt k4.lt))); have kD5 := kDj.below hb5 kDj.lt; have hT5 := hTj.below hb5; have hS5 := hSj.below hb5; have hrk5 := hrkj.below hb5)
                | ((with_reducible refine' wpList_field_blk (j := 7) (.tmp 5) 105 7 rfl ?_ fo_shp_7 ?_ rfl ?_); exact rfl; exact rfl; simp only [Act.put, List.setIfInBounds_toArray, List.set_cons_succ, List.set_cons_zero]) | ((with_reducible refine' wpList_load_blk (.tmp 103) 71 rfl ?_ ld_srt ?_ kD5 (S7.out) ?_); exact rfl; exact rfl; simp only [Act.put, List.setIfInBounds_toArray, List.set_cons_succ, List.set_cons_zero]) | ((with_reducible refine' wpList_field_blk (j := 4) (.tmp 5) 105 4 rfl ?_ fo_shp_4 ?_ rfl ?_); exact rfl; exact rfl; simp only [Act.put, List.setIfInBounds_toArray, List.set_cons_succ, List.set_cons_zero]) | ((with_reducible refine' wpList_load_blk (.tmp 106) 103 rfl ?_ ld_srs ?_ kD5 (S4.out) ?_); exact rfl; exact rfl; simp only [Act.put, List.setIfInBounds_toArray, List.set_cons_succ, List.set_cons_zero]) | ((with_reducible refine' wpList_len_rd (.tmp 107) 103 rfl ?_ Tryd.underlying103 ?_ hrk5 ?_); exact rfl; exact rfl; simp only [Act.put, List.setIfInBounds_toArray, List.set_cons_succ, List.set_cons_zero])
                | ((with_reducible refine' wpList_load_blk (.tmp 110) 103 rfl ?_ ld_srs ?_ kD5 (S4.out) ?_); exact rfl; exact rfl; simp only [Act.put, List.setIfInBounds_toArray, List.set_cons_succ, List.set_cons_zero]) | ((with_reducible refine' wpList_at1_rd (.tmp 111) (.tmp 112) 103 rfl ?_ Tryd.underlying103 sz_srt ?_ hrk5 (j) ?_ ?_ ?_); exact rfl; exact rfl; (show (_ : Int) = _; omega); omega; simp only [Act.put, List.setIfInBounds_toArray, List.set_cons_succ, List.set_cons_zero]) | ((with_reducible refine' wpList_load_rd (.tmp 113) 71 rfl ?_ ld_srt ?_ hrk5 (KJ.out) ?_); exact rfl; exact rfl; simp only [Act.put, List.setIfInBounds_toArray, List.set_cons_succ, List.set_cons_zero])
                | ((with_reducible refine' wpList_loadst_blk (.tmp 9) 25 rfl ?_ Tryd.underlying25 ?_ sz_node ?_ k5 ?_ ?_ ?_); exact rfl; exact rfl; exact rfl; exact CL.out; decide; simp only [Act.put, List.setIfInBounds_toArray, List.set_cons_succ, List.set_cons_zero])
                | ((go_at_call 54; (with_reducible refine (IHj.out _ hT5 hS5 zj2).mono ?_); rintro e w' ⟨rfl, hN6⟩); rw [CF.out]))
              have hb6 := hb5.trans (hN6.mono hb5.size)
              go_roundw
              case rel => (first | exact ⟨j + 1, by omega, by go_num, HE2, hbj.trans (hb6.mono hbj.size)⟩ | ((repeat apply Exists.intro); exact ⟨⟨j + 1, by omega, by go_num, HE2, hbj.trans (hb6.mono hbj.size)⟩, rfl⟩))
              case measure => simp [intOf]; omega
            · have CF := Lib.hid (show tfits t wv = false by simpa using cf)
              have HF2 := Lib.hid (show tfits (.mk (i : Int) n m ts) want = false by
                rw [HF.out]; exact fitsL_no (f := fWant (i : Int) n ts.length) HT1.out (by rw [WJ]; exact CF.out))
              clear cf HE WJ
              go_wp2_with (first
                | ((with_reducible refine' wpList_at_rd (.tmp 96) (.tmp 98) 23 rfl ?_ Tryd.underlying23 sz_node ?_ hrj (by decide) (j) ?_ ?_ ?_); exact rfl; exact rfl; (show (_ : Int) = _; omega); omega; simp only [Act.put, List.setIfInBounds_toArray, List.set_cons_succ, List.set_cons_zero]) | ((with_reducible refine' wpList_load_st (cp := cj) (.tmp 101) 25 rfl ?_ Tryd.underlying25 ?_ sz_node ?_ hrj ?_ ?_ HC.out ?_); exact rfl; exact rfl; exact rfl; exact BD.out; decide; simp only [Act.put, List.setIfInBounds_toArray, List.set_cons_succ, List.set_cons_zero])
                | (((with_reducible refine' wpList_alloc_blk (cs := nodz) 25 rfl ?_ zr_node ?_ ?_); exact rfl; exact nodz_cells; intro w4 k4 hN4 hz4; simp only [Act.put, List.setIfInBounds_toArray, List.set_cons_succ, List.set_cons_zero]))
                | (((with_reducible refine' wpList_store_blk (cs := cj) 25 (.tmp 9) (.tmp 102) rfl ?_ ?_ ?_ k4 sz_node ?_ ?_ ?_ ?_); exact rfl; exact rfl; exact rfl; exact CL.out; exact rfl; exact CO2.out; intro w5 k5 hO5 hz5; simp only [Act.put]); have hb5 : Below wo.heap.size wo w5 := (hN4.trans (hO5.below (Nat.le_refl _) (Nat.le_of_lt k4.lt))); have kD5 := kDj.below hb5 kDj.lt; have hT5 := hTj.below hb5; have hS5 := hSj.below hb5; have hrk5 := hrkj.below hb5)
                | ((with_reducible refine' wpList_field_blk (j := 7) (.tmp 5) 105 7 rfl ?_ fo_shp_7 ?_ rfl ?_); exact rfl; exact rfl; simp only [Act.put, List.setIfInBounds_toArray, List.set_cons_succ, List.set_cons_zero]) | ((with_reducible refine' wpList_load_blk (.tmp 103) 71 rfl ?_ ld_srt ?_ kD5 (S7.out) ?_); exact rfl; exact rfl; simp only [Act.put, List.setIfInBounds_toArray, List.set_cons_succ, List.set_cons_zero]) | ((with_reducible refine' wpList_field_blk (j := 4) (.tmp 5) 105 4 rfl ?_ fo_shp_4 ?_ rfl ?_); exact rfl; exact rfl; simp only [Act.put, List.setIfInBounds_toArray, List.set_cons_succ, List.set_cons_zero]) | ((with_reducible refine' wpList_load_blk (.tmp 106) 103 rfl ?_ ld_srs ?_ kD5 (S4.out) ?_); exact rfl; exact rfl; simp only [Act.put, List.setIfInBounds_toArray, List.set_cons_succ, List.set_cons_zero]) | ((with_reducible refine' wpList_len_rd (.tmp 107) 103 rfl ?_ Tryd.underlying103 ?_ hrk5 ?_); exact rfl; exact rfl; simp only [Act.put, List.setIfInBounds_toArray, List.set_cons_succ, List.set_cons_zero])
                | ((with_reducible refine' wpList_load_blk (.tmp 110) 103 rfl ?_ ld_srs ?_ kD5 (S4.out) ?_); exact rfl; exact rfl; simp only [Act.put, List.setIfInBounds_toArray, List.set_cons_succ, List.set_cons_zero]) | ((with_reducible refine' wpList_at1_rd (.tmp 111) (.tmp 112) 103 rfl ?_ Tryd.underlying103 sz_srt ?_ hrk5 (j) ?_ ?_ ?_); exact rfl; exact rfl; (show (_ : Int) = _; omega); omega; simp only [Act.put, List.setIfInBounds_toArray, List.set_cons_succ, List.set_cons_zero]) | ((with_reducible refine' wpList_load_rd (.tmp 113) 71 rfl ?_ ld_srt ?_ hrk5 (KJ.out) ?_); exact rfl; exact rfl; simp only [Act.put, List.setIfInBounds_toArray, List.set_cons_succ, List.set_cons_zero])
                | ((with_reducible refine' wpList_loadst_blk (.tmp 9) 25 rfl ?_ Tryd.underlying25 ?_ sz_node ?_ k5 ?_ ?_ ?_); exact rfl; exact rfl; exact rfl; exact CL.out; decide; simp only [Act.put, List.setIfInBounds_toArray, List.set_cons_succ, List.set_cons_zero])
                | ((go_at_call 54; (with_reducible refine (IHj.out _ hT5 hS5 zj2).mono ?_); rintro e w' ⟨rfl, hN6⟩); rw [CF.out]))
              have hb6 := hb5.trans (hN6.mono hb5.size)
              go_ret
              rw [HF2.out]
              exact ⟨rfl, hb3.trans ((hbj.trans (hb6.mono hbj.size)).mono hb3.size)⟩
          · have LN : decide (j < ks.length) = false := decide_eq_false cn
            have hwv : ks[j]? = none := List.getElem?_eq_none (by omega)
            have WJ : fWant (i : Int) n ts.length j = s8 := by rw [HW.out, hwv]; rfl
            have IHj := Lib.hid (IH.out t (List.mem_of_getElem? HT1.out) s8 cj)
            by_cases cf : tfits t s8 = true
            · have CF := Lib.hid cf
              have HE2 := Lib.hid (show ∀ r u, r < j + 1 → ts[r]? = some u → tfits u (fWant (i : Int) n ts.length r) = true from fun r u hr hu => by
                by_cases hrj2 : r = j
                · subst hrj2; rw [HT1.out] at hu; cases hu; rw [WJ]; exact CF.out
                · exact HE.out r u (by omega) hu)
              clear cf HE WJ
              go_wp2_with (first
                | ((with_reducible refine' wpList_at_rd (.tmp 96) (.tmp 98) 23 rfl ?_ Tryd.underlying23 sz_node ?_ hrj (by decide) (j) ?_ ?_ ?_); exact rfl; exact rfl; (show (_ : Int) = _; omega); omega; simp only [Act.put, List.setIfInBounds_toArray, List.set_cons_succ, List.set_cons_zero]) | ((with_reducible refine' wpList_load_st (cp := cj) (.tmp 101) 25 rfl ?_ Tryd.underlying25 ?_ sz_node ?_ hrj ?_ ?_ HC.out ?_); exact rfl; exact rfl; exact rfl; exact BD.out; decide; simp only [Act.put, List.setIfInBounds_toArray, List.set_cons_succ, List.set_cons_zero])
                | (((with_reducible refine' wpList_alloc_blk (cs := nodz) 25 rfl ?_ zr_node ?_ ?_); exact rfl; exact nodz_cells; intro w4 k4 hN4 hz4; simp only [Act.put, List.setIfInBounds_toArray, List.set_cons_succ, List.set_cons_zero]))
                | (((with_reducible refine' wpList_store_blk (cs := cj) 25 (.tmp 9) (.tmp 102) rfl ?_ ?_ ?_ k4 sz_node ?_ ?_ ?_ ?_); exact rfl; exact rfl; exact rfl; exact CL.out; exact rfl; exact CO2.out; intro w5 k5 hO5 hz5; simp only [Act.put]); have hb5 : Below wo.heap.size wo w5 := (hN4.trans (hO5.below (Nat.le_refl _) (Nat.le_of_lt k4.lt))); have kD5 := kDj.below hb5 kDj.lt; have hT5 := hTj.below hb5; have hS5 := hSj.below hb5; have hrk5 := hrkj.below hb5)
                | ((with_reducible refine' wpList_field_blk (j := 7) (.tmp 5) 105 7 rfl ?_ fo_shp_7 ?_ rfl ?_); exact rfl; exact rfl; simp only [Act.put, List.setIfInBounds_toArray, List.set_cons_succ, List.set_cons_zero]) | ((with_reducible refine' wpList_load_blk (.tmp 103) 71 rfl ?_ ld_srt ?_ kD5 (S7.out) ?_); exact rfl; exact rfl; simp only [Act.put, List.setIfInBounds_toArray, List.set_cons_succ, List.set_cons_zero]) | ((with_reducible refine' wpList_field_blk (j := 4) (.tmp 5) 105 4 rfl ?_ fo_shp_4 ?_ rfl ?_); exact rfl; exact rfl; simp only [Act.put, List.setIfInBounds_toArray, List.set_cons_succ, List.set_cons_zero]) | ((with_reducible refine' wpList_load_blk (.tmp 106) 103 rfl ?_ ld_srs ?_ kD5 (S4.out) ?_); exact rfl; exact rfl; simp only [Act.put, List.setIfInBounds_toArray, List.set_cons_succ, List.set_cons_zero]) | ((with_reducible refine' wpList_len_rd (.tmp 107) 103 rfl ?_ Tryd.underlying103 ?_ hrk5 ?_); exact rfl; exact rfl; simp only [Act.put, List.setIfInBounds_toArray, List.set_cons_succ, List.set_cons_zero])
                | ((with_reducible refine' wpList_load_blk (.tmp 110) 103 rfl ?_ ld_srs ?_ kD5 (S4.out) ?_); exact rfl; exact rfl; simp only [Act.put, List.setIfInBounds_toArray, List.set_cons_succ, List.set_cons_zero]) 
                | ((with_reducible refine' wpList_loadst_blk (.tmp 9) 25 rfl ?_ Tryd.underlying25 ?_ sz_node ?_ k5 ?_ ?_ ?_); exact rfl; exact rfl; exact rfl; exact CL.out; decide; simp only [Act.put, List.setIfInBounds_toArray, List.set_cons_succ, List.set_cons_zero])
                | ((go_at_call 54; (with_reducible refine (IHj.out _ hT5 hS5 zj2).mono ?_); rintro e w' ⟨rfl, hN6⟩); rw [CF.out]))
              have hb6 := hb5.trans (hN6.mono hb5.size)
              go_roundw
              case rel => (first | exact ⟨j + 1, by omega, by go_num, HE2, hbj.trans (hb6.mono hbj.size)⟩ | ((repeat apply Exists.intro); exact ⟨⟨j + 1, by omega, by go_num, HE2, hbj.trans (hb6.mono hbj.size)⟩, rfl⟩))
              case measure => simp [intOf]; omega
            · have CF := Lib.hid (show tfits t s8 = false by simpa using cf)
              have HF2 := Lib.hid (show tfits (.mk (i : Int) n m ts) want = false by
                rw [HF.out]; exact fitsL_no (f := fWant (i : Int) n ts.length) HT1.out (by rw [WJ]; exact CF.out))
              clear cf HE WJ
              go_wp2_with (first
                | ((with_reducible refine' wpList_at_rd (.tmp 96) (.tmp 98) 23 rfl ?_ Tryd.underlying23 sz_node ?_ hrj (by decide) (j) ?_ ?_ ?_); exact rfl; exact rfl; (show (_ : Int) = _; omega); omega; simp only [Act.put, List.setIfInBounds_toArray, List.set_cons_succ, List.set_cons_zero]) | ((with_reducible refine' wpList_load_st (cp := cj) (.tmp 101) 25 rfl ?_ Tryd.underlying25 ?_ sz_node ?_ hrj ?_ ?_ HC.out ?_); exact rfl; exact rfl; exact rfl; exact BD.out; decide; simp only [Act.put, List.setIfInBounds_toArray, List.set_cons_succ, List.set_cons_zero])
                | (((with_reducible refine' wpList_alloc_blk (cs := nodz) 25 rfl ?_ zr_node ?_ ?_); exact rfl; exact nodz_cells; intro w4 k4 hN4 hz4; simp only [Act.put, List.setIfInBounds_toArray, List.set_cons_succ, List.set_cons_zero]))
                | (((with_reducible refine' wpList_store_blk (cs := cj) 25 (.tmp 9) (.tmp 102) rfl ?_ ?_ ?_ k4 sz_node ?_ ?_ ?_ ?_); exact rfl; exact rfl; exact rfl; exact CL.out; exact rfl; exact CO2.out; intro w5 k5 hO5 hz5; simp only [Act.put]); have hb5 : Below wo.heap.size wo w5 := (hN4.trans (hO5.below (Nat.le_refl _) (Nat.le_of_lt k4.lt))); have kD5 := kDj.below hb5 kDj.lt; have hT5 := hTj.below hb5; have hS5 := hSj.below hb5; have hrk5 := hrkj.below hb5)
                | ((with_reducible refine' wpList_field_blk (j := 7) (.tmp 5) 105 7 rfl ?_ fo_shp_7 ?_ rfl ?_); exact rfl; exact rfl; simp only [Act.put, List.setIfInBounds_toArray, List.set_cons_succ, List.set_cons_zero]) | ((with_reducible refine' wpList_load_blk (.tmp 103) 71 rfl ?_ ld_srt ?_ kD5 (S7.out) ?_); exact rfl; exact rfl; simp only [Act.put, List.setIfInBounds_toArray, List.set_cons_succ, List.set_cons_zero]) | ((with_reducible refine' wpList_field_blk (j := 4) (.tmp 5) 105 4 rfl ?_ fo_shp_4 ?_ rfl ?_); exact rfl; exact rfl; simp only [Act.put, List.setIfInBounds_toArray, List.set_cons_succ, List.set_cons_zero]) | ((with_reducible refine' wpList_load_blk (.tmp 106) 103 rfl ?_ ld_srs ?_ kD5 (S4.out) ?_); exact rfl; exact rfl; simp only [Act.put, List.setIfInBounds_toArray, List.set_cons_succ, List.set_cons_zero]) | ((with_reducible refine' wpList_len_rd (.tmp 107) 103 rfl ?_ Tryd.underlying103 ?_ hrk5 ?_); exact rfl; exact rfl; simp only [Act.put, List.setIfInBounds_toArray, List.set_cons_succ, List.set_cons_zero])
                | ((with_reducible refine' wpList_load_blk (.tmp 110) 103 rfl ?_ ld_srs ?_ kD5 (S4.out) ?_); exact rfl; exact rfl; simp only [Act.put, List.setIfInBounds_toArray, List.set_cons_succ, List.set_cons_zero]) 
                | ((with_reducible refine' wpList_loadst_blk (.tmp 9) 25 rfl ?_ Tryd.underlying25 ?_ sz_node ?_ k5 ?_ ?_ ?_); exact rfl; exact rfl; exact rfl; exact CL.out; decide; simp only [Act.put, List.setIfInBounds_toArray, List.set_cons_succ, List.set_cons_zero])
                | ((go_at_call 54; (with_reducible refine (IHj.out _ hT5 hS5 zj2).mono ?_); rintro e w' ⟨rfl, hN6⟩); rw [CF.out]))
              have hb6 := hb5.trans (hN6.mono hb5.size)
              go_ret
              rw [HF2.out]
              exact ⟨rfl, hb3.trans ((hbj.trans (hb6.mono hbj.size)).mono hb3.size)⟩
        · obtain rfl : j = ts.length := by omega
          have HF2 := Lib.hid (show tfits (.mk (i : Int) n m ts) want = true by
            rw [HF.out, tfitsL_iff]
            intro r u hu
            rw [Nat.zero_add]
            exact HE.out r u (List.getElem?_eq_some_iff.1 hu).1 hu)
          go_wp2_with fail
          go_ret
          rw [HF2.out]
          exact ⟨rfl, hb3.trans (hbj.mono hb3.size)⟩
    · have c0' : fIs s1 want = false := by simpa using c0
      rw [c0']
      have HF := Lib.hid (show tfits (.mk (i : Int) n m ts) want = false by rw [TR.out]; exact NO (by unfold fOk; simp only; rw [c0', Bool.false_and]))
      go_wp2_with (first
        | ((with_reducible refine' wpList_field_blk (j := 1) (.tmp 2) 25 1 rfl ?_ fo_node_1 ?_ rfl ?_); exact rfl; exact rfl; simp only [Act.put, List.setIfInBounds_toArray, List.set_cons_succ, List.set_cons_zero]) | ((with_reducible refine' wpList_field_blk (j := 2) (.tmp 2) 25 2 rfl ?_ fo_node_2 ?_ rfl ?_); exact rfl; exact rfl; simp only [Act.put, List.setIfInBounds_toArray, List.set_cons_succ, List.set_cons_zero]) | ((with_reducible refine' wpList_field_blk (j := 1) (.tmp 5) 105 1 rfl ?_ fo_shp_1 ?_ rfl ?_); exact rfl; exact rfl; simp only [Act.put, List.setIfInBounds_toArray, List.set_cons_succ, List.set_cons_zero]) | ((with_reducible refine' wpList_field_blk (j := 2) (.tmp 5) 105 2 rfl ?_ fo_shp_2 ?_ rfl ?_); exact rfl; exact rfl; simp only [Act.put, List.setIfInBounds_toArray, List.set_cons_succ, List.set_cons_zero]) | ((with_reducible refine' wpList_field_blk (j := 3) (.tmp 5) 105 3 rfl ?_ fo_shp_3 ?_ rfl ?_); exact rfl; exact rfl; simp only [Act.put, List.setIfInBounds_toArray, List.set_cons_succ, List.set_cons_zero])
        | ((with_reducible refine' wpList_load_blk (.tmp 48) 3 rfl ?_ ld_int ?_ kA3 (X1.out) ?_); exact rfl; exact rfl; simp only [Act.put, List.setIfInBounds_toArray, List.set_cons_succ, List.set_cons_zero]) | ((with_reducible refine' wpList_load_blk (.tmp 55) 3 rfl ?_ ld_int ?_ kA3 (X1.out) ?_); exact rfl; exact rfl; simp only [Act.put, List.setIfInBounds_toArray, List.set_cons_succ, List.set_cons_zero]) | ((with_reducible refine' wpList_load_blk (.tmp 62) 3 rfl ?_ ld_int ?_ kA3 (X2.out) ?_); exact rfl; exact rfl; simp only [Act.put, List.setIfInBounds_toArray, List.set_cons_succ, List.set_cons_zero]) | ((with_reducible refine' wpList_load_blk (.tmp 67) 3 rfl ?_ ld_int ?_ kA3 (X2.out) ?_); exact rfl; exact rfl; simp only [Act.put, List.setIfInBounds_toArray, List.set_cons_succ, List.set_cons_zero])
        | ((with_reducible refine' wpList_load_blk (.tmp 50) 3 rfl ?_ ld_int ?_ k3 (S1.out) ?_); exact rfl; exact rfl; simp only [Act.put, List.setIfInBounds_toArray, List.set_cons_succ, List.set_cons_zero]) | ((with_reducible refine' wpList_load_blk (.tmp 57) 3 rfl ?_ ld_int ?_ k3 (S2.out) ?_); exact rfl; exact rfl; simp only [Act.put, List.setIfInBounds_toArray, List.set_cons_succ, List.set_cons_zero]) | ((with_reducible refine' wpList_load_blk (.tmp 69) 3 rfl ?_ ld_int ?_ k3 (S3.out) ?_); exact rfl; exact rfl; simp only [Act.put, List.setIfInBounds_toArray, List.set_cons_succ, List.set_cons_zero]))
      go_ret
      rw [HF.out]
      exact ⟨rfl, hb3⟩
end Go.Proofs.YtdlhkhnoigbhjaaDoor.Wi
namespace Go.Proofs.YtdlhkhnoigbhjaaDoor.Pu
def tvalid (t : Tree) : Bool := decide (tsize t ≤ 256) && (decide (tdepth t ≤ 16) && tfits t 0)
end Go.Proofs.YtdlhkhnoigbhjaaDoor.Pu
namespace Go.Proofs.YtdlhkhnoigbhjaaDoor.Wi
open Go Go.RowKit Pu Lb
set_option linter.unusedSimpArgs false
set_option linter.unusedVariables false
theorem fits_calls (t : Tree) (want : Int) (cs : List Value) (w : World) (hT : IsT w t cs) (hS : ShF w) (hz : tsize t ≤ 1000000) :
    Calls Tryd.prog 54 #[.agg cs.toArray, .int .i64 want] w fun e w' => e = .returned (.bool (tfits t want)) ∧ Below w.heap.size w w' := fits_any t want cs w hT hS hz
set_option maxRecDepth 100000 in
theorem valid_any (t : Tree) (cs : List Value) (w : World) (hT : IsT w t cs) (hS : ShF w) (hz : tsize t ≤ 1000000) :
    Calls Tryd.prog 22 #[.agg cs.toArray] w fun e w' => e = .returned (.bool (tvalid t)) ∧ Below w.heap.size w w' := by
  have CL := Lib.hid hT.len
  have hdz := tdepth_le t
  obtain ⟨sz, hsz⟩ : ∃ x, tsize t = x := ⟨_, rfl⟩
  obtain ⟨dp, hdp⟩ : ∃ x, tdepth t = x := ⟨_, rfl⟩
  have HZ := Lib.hid hz
  have HSZ := Lib.hid hsz
  have HDP := Lib.hid hdp
  have HV := Lib.hid (show tvalid t = (decide (sz ≤ 256) && (decide (dp ≤ 16) && tfits t 0)) by rw [tvalid, hsz, hdp])
  rw [hsz, hdp] at hdz
  rw [hsz] at hz
  clear hsz hdp
  go_enter Tryd.func22, Tryd.ntmps22
  go_upto_region 1 with (((with_reducible refine' wpList_boxa (cs := cs) 25 (.tmp 0) rfl ?_ ?_ ?_); exact rfl; exact rfl; intro w1 kA hN1 hz1; simp only [Act.put, List.setIfInBounds_toArray, List.set_cons_succ, List.set_cons_zero]))
  have hT1 := hT.below hN1
  have hS1 := hS.below hN1
  clear hz1 hT hS
  by_cases c1 : sz ≤ 256
  · have e1 : decide (sz ≤ 256) = true := decide_eq_true c1
    by_cases c2 : dp ≤ 16
    · have e2 : decide (dp ≤ 16) = true := decide_eq_true c2
      have HV2 := Lib.hid (show tvalid t = tfits t 0 by rw [HV.out, e1, e2]; rfl)
      have b1 : decide ((sz : Int) ≤ 256) = true := decide_eq_true (by omega)
      have b2 : decide ((dp : Int) ≤ 16) = true := decide_eq_true (by omega)
      clear e1 e2 c1 c2
      go_wp2_with (first
        | ((with_reducible refine' wpList_loadst_blk (.tmp 1) 25 rfl ?_ Tryd.underlying25 ?_ sz_node ?_ kA ?_ ?_ ?_); exact rfl; exact rfl; exact rfl; exact CL.out; decide; simp only [Act.put, List.setIfInBounds_toArray, List.set_cons_succ, List.set_cons_zero])
        | ((go_at_call 15; (with_reducible refine (size_any t _ _ hT1 HZ.out).mono ?_); rintro e w' ⟨rfl, hN2⟩); rw [HSZ.out]; have hT2 := hT1.below hN2; have hS2 := hS1.below hN2; have kA2 := kA.below hN2 kA.lt; have hb2 := hN1.trans (hN2.mono hN1.size))
        | ((with_reducible refine' wpList_loadst_blk (.tmp 1) 25 rfl ?_ Tryd.underlying25 ?_ sz_node ?_ kA2 ?_ ?_ ?_); exact rfl; exact rfl; exact rfl; exact CL.out; decide; simp only [Act.put, List.setIfInBounds_toArray, List.set_cons_succ, List.set_cons_zero])
        | ((go_at_call 17; (with_reducible refine (depth_any t _ _ hT2 HZ.out).mono ?_); rintro e w' ⟨rfl, hN3⟩); rw [HDP.out]; have hT3 := hT2.below hN3; have hS3 := hS2.below hN3; have kA3 := kA2.below hN3 kA2.lt; have hb3 := hb2.trans (hN3.mono hb2.size))
        | ((with_reducible refine' wpList_loadst_blk (.tmp 1) 25 rfl ?_ Tryd.underlying25 ?_ sz_node ?_ kA3 ?_ ?_ ?_); exact rfl; exact rfl; exact rfl; exact CL.out; decide; simp only [Act.put, List.setIfInBounds_toArray, List.set_cons_succ, List.set_cons_zero])
        | ((go_at_call 54; (with_reducible refine (fits_calls t 0 cs _ hT3 hS3 HZ.out).mono ?_); rintro e w' ⟨rfl, hN4⟩)))
      go_ret
      rw [HV2.out]
      exact ⟨rfl, hb3.trans (hN4.mono hb3.size)⟩
    · have e2 : decide (dp ≤ 16) = false := decide_eq_false c2
      have HV2 := Lib.hid (show tvalid t = false by rw [HV.out, e1, e2]; rfl)
      have b1 : decide ((sz : Int) ≤ 256) = true := decide_eq_true (by omega)
      have b2 : decide ((dp : Int) ≤ 16) = false := decide_eq_false (by omega)
      clear e1 e2 c1 c2
      go_wp2_with (first
        | ((with_reducible refine' wpList_loadst_blk (.tmp 1) 25 rfl ?_ Tryd.underlying25 ?_ sz_node ?_ kA ?_ ?_ ?_); exact rfl; exact rfl; exact rfl; exact CL.out; decide; simp only [Act.put, List.setIfInBounds_toArray, List.set_cons_succ, List.set_cons_zero])
        | ((go_at_call 15; (with_reducible refine (size_any t _ _ hT1 HZ.out).mono ?_); rintro e w' ⟨rfl, hN2⟩); rw [HSZ.out]; have hT2 := hT1.below hN2; have kA2 := kA.below hN2 kA.lt; have hb2 := hN1.trans (hN2.mono hN1.size))
        | ((with_reducible refine' wpList_loadst_blk (.tmp 1) 25 rfl ?_ Tryd.underlying25 ?_ sz_node ?_ kA2 ?_ ?_ ?_); exact rfl; exact rfl; exact rfl; exact CL.out; decide; simp only [Act.put, List.setIfInBounds_toArray, List.set_cons_succ, List.set_cons_zero])
        | ((go_at_call 17; (with_reducible refine (depth_any t _ _ hT2 HZ.out).mono ?_); rintro e w' ⟨rfl, hN3⟩); rw [HDP.out]; have hb3 := hb2.trans (hN3.mono hb2.size)))
      go_ret
      rw [HV2.out]
      exact ⟨rfl, hb3⟩
  · have e1 : decide (sz ≤ 256) = false := decide_eq_false c1
    have HV2 := Lib.hid (show tvalid t = false by rw [HV.out, e1]; rfl)
    have b1 : decide ((sz : Int) ≤ 256) = false := decide_eq_false (by omega)
    clear e1 c1
    go_wp2_with (first
      | ((with_reducible refine' wpList_loadst_blk (.tmp 1) 25 rfl ?_ Tryd.underlying25 ?_ sz_node ?_ kA ?_ ?_ ?_); exact rfl; exact rfl; exact rfl; exact CL.out; decide; simp only [Act.put, List.setIfInBounds_toArray, List.set_cons_succ, List.set_cons_zero])
      | ((go_at_call 15; (with_reducible refine (size_any t _ _ hT1 HZ.out).mono ?_); rintro e w' ⟨rfl, hN2⟩); rw [HSZ.out]; have hb2 := hN1.trans (hN2.mono hN1.size)))
    go_ret
    rw [HV2.out]
    exact ⟨rfl, hb2⟩
end Go.Proofs.YtdlhkhnoigbhjaaDoor.Wi
