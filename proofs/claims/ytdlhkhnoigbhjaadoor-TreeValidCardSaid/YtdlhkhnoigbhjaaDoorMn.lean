/-
  Tvw, Tvx: my texts of these names, one behind the other. Conditions: those that each law names.
-/
import Derived.Test.YtdlhkhnoigbhjaaDoorMm
namespace Go.Proofs.YtdlhkhnoigbhjaaDoor.Wi
open Go Go.RowKit Pu Lb
set_option linter.unusedSimpArgs false
set_option linter.unusedVariables false
/-- what the reference's Stmt promises of a tree -/
def StmtC (t : Tree) : Prop := ∀ (cs : List Value) (w : World), IsT w t cs →
    Calls Tryd.prog 93 #[.agg cs.toArray] w fun e w' => e = .returned (.bool (tfits t 5)) ∧ Below w.heap.size w w'
/-- what the reference's Block promises of a tree -/
def BlockC (t : Tree) : Prop := ∀ (cs : List Value) (w : World), IsT w t cs →
    Calls Tryd.prog 78 #[.agg cs.toArray] w fun e w' => e = .returned (.bool (tfits t 6)) ∧ Below w.heap.size w w'
theorem tfits_b (n m : Int) (ts : List Tree) : tfits (.mk 13 n m ts) 6 = (btw n m ts.length 0 0 0 8 && tall 5 ts) :=
  tfits_same (i := 13) rfl (by decide) 6 5 0 8 rfl rfl rfl (by decide) n m ts
theorem tfits_b5 (n m : Int) (ts : List Tree) : tfits (.mk 13 n m ts) 5 = tfits (.mk 13 n m ts) 6 := by
  rw [tfits_b]
  exact tfits_same (i := 13) rfl (by decide) 5 5 0 8 rfl rfl rfl (by decide) n m ts
theorem tfits_bno (k n m : Int) (ts : List Tree) (h : k ≠ 13) : tfits (.mk k n m ts) 6 = false :=
  kind_cases (P := fun k => k ≠ 13 → tfits (.mk k n m ts) 6 = false)
    (fun i hi _ => fIs_only (P := fun j => j = 13) (by decide) hi (by omega) n m ts)
    (fun k hk _ => tfits_out 6 hk) k h
theorem tfits_s14 (n m : Int) (ts : List Tree) : tfits (.mk 14 n m ts) 5 = (btw n m ts.length 5 0 1 1 && tall 4 ts) :=
  tfits_same (i := 14) rfl (by decide) 5 4 1 1 rfl rfl rfl (by decide) n m ts
theorem tfits_s15 (n m : Int) (ts : List Tree) : tfits (.mk 15 n m ts) 5 = (btw n m ts.length 5 0 2 2 && tall 4 ts) :=
  tfits_same (i := 15) rfl (by decide) 5 4 2 2 rfl rfl rfl (by decide) n m ts
theorem tfits_s16 (n m : Int) (ts : List Tree) : tfits (.mk 16 n m ts) 5 = (btw n m ts.length 5 2 1 1 && tall 4 ts) :=
  tfits_same (i := 16) rfl (by decide) 5 4 1 1 rfl rfl rfl (by decide) n m ts
theorem tfits_s19 (n m : Int) (ts : List Tree) : tfits (.mk 19 n m ts) 5 = (btw n m ts.length 0 0 1 1 && tall 4 ts) :=
  tfits_same (i := 19) rfl (by decide) 5 4 1 1 rfl rfl rfl (by decide) n m ts
theorem tfits_s20 (n m : Int) (ts : List Tree) : tfits (.mk 20 n m ts) 5 = (btw n m ts.length 0 0 1 1 && tall 4 ts) :=
  tfits_same (i := 20) rfl (by decide) 5 4 1 1 rfl rfl rfl (by decide) n m ts
theorem tfits_s24 (n m : Int) (ts : List Tree) : tfits (.mk 24 n m ts) 5 = (btw n m ts.length 0 0 1 1 && tall 4 ts) :=
  tfits_same (i := 24) rfl (by decide) 5 4 1 1 rfl rfl rfl (by decide) n m ts
theorem tfits_s22 (n m : Int) (ts : List Tree) : tfits (.mk 22 n m ts) 5 = (btw n m ts.length 2 0 1 1 && tall 4 ts) :=
  tfits_same (i := 22) rfl (by decide) 5 4 1 1 rfl rfl rfl (by decide) n m ts
theorem tfits_s23 (n m : Int) (ts : List Tree) : tfits (.mk 23 n m ts) 5 = (btw n m ts.length 5 0 0 3 && tall 4 ts) :=
  tfits_same (i := 23) rfl (by decide) 5 4 0 3 rfl rfl rfl (by decide) n m ts
theorem tfits_s25 (n m : Int) (ts : List Tree) : tfits (.mk 25 n m ts) 5 = btw n m ts.length 0 0 0 0 := by
  rw [show (25 : Int) = ((25 : Nat) : Int) from rfl, tfits_same (i := 25) rfl (by decide) 5 0 0 0 rfl rfl rfl (by decide) n m ts]
  cases ts with
  | nil => simp [tall, tfitsL]
  | cons t ts =>
    have : btw n m (t :: ts).length 0 0 ((0 : Nat) : Int) ((0 : Nat) : Int) = false := by unfold btw; rw [decide_eq_false (show ¬ (((t :: ts).length : Nat) : Int) ≤ ((0 : Nat) : Int) by simp only [List.length_cons]; omega)]; simp
    rw [this]; exact this.symm
theorem tfits_s17 (n m : Int) (a b c : Tree) : tfits (.mk 17 n m [a, b, c]) 5 = (btw n m 3 0 0 3 3 && (tfits a 4 && (tfits b 6 && tfits c 6))) := by
  rw [show (17 : Int) = ((17 : Nat) : Int) from rfl, tfits_btw (i := 17) rfl (by decide)]
  simp only [tfitsL, fWant_row (i := 17) rfl (by decide)]
  rw [Bool.and_true]; rfl
theorem tfits_s18 (n m : Int) (a b : Tree) : tfits (.mk 18 n m [a, b]) 5 = (btw n m 2 0 0 2 2 && (tfits a 4 && tfits b 6)) := by
  rw [show (18 : Int) = ((18 : Nat) : Int) from rfl, tfits_btw (i := 18) rfl (by decide)]
  simp only [tfitsL, fWant_row (i := 18) rfl (by decide)]
  rw [Bool.and_true]; rfl
theorem tfits_s21 (n m : Int) (a b : Tree) : tfits (.mk 21 n m [a, b]) 5 = (btw n m 2 5 0 2 2 && (tfits a 6 && tfits b 6)) := by
  rw [show (21 : Int) = ((21 : Nat) : Int) from rfl, tfits_btw (i := 21) rfl (by decide)]
  simp only [tfitsL, fWant_row (i := 21) rfl (by decide)]
  rw [Bool.and_true]; rfl
theorem tfits_sno17 (n m : Int) (ts : List Tree) (h : btw n m ts.length 0 0 3 3 = false) : tfits (.mk 17 n m ts) 5 = false := by
  rw [show (17 : Int) = ((17 : Nat) : Int) from rfl, tfits_btw (i := 17) rfl (by decide)]
  rw [show (([4, 6, 6] : List Int).length + (0 : Int)) = 3 from rfl, h]; simp
theorem tfits_sno18 (n m : Int) (ts : List Tree) (h : btw n m ts.length 0 0 2 2 = false) : tfits (.mk 18 n m ts) 5 = false := by
  rw [show (18 : Int) = ((18 : Nat) : Int) from rfl, tfits_btw (i := 18) rfl (by decide)]
  rw [show (([4, 6] : List Int).length + (0 : Int)) = 2 from rfl, h]; simp
theorem tfits_sno21 (n m : Int) (ts : List Tree) (h : btw n m ts.length 5 0 2 2 = false) : tfits (.mk 21 n m ts) 5 = false := by
  rw [show (21 : Int) = ((21 : Nat) : Int) from rfl, tfits_btw (i := 21) rfl (by decide)]
  rw [show (([6, 6] : List Int).length + (0 : Int)) = 2 from rfl, h]; simp
theorem kids2_of {ts : List Tree} (h : ts.length = 2) : ∃ a b, ts = [a, b] := by
  match ts, h with
  | [a, b], _ => exact ⟨a, b, rfl⟩
theorem kids3_of {ts : List Tree} (h : ts.length = 3) : ∃ a b c, ts = [a, b, c] := by
  match ts, h with
  | [a, b, c], _ => exact ⟨a, b, c, rfl⟩
theorem btw_len {n m : Int} {L : Nat} {a b : Int} {c : Nat} (h : btw n m L a b c c = true) : L = c := by
  simp only [btw, Bool.and_eq_true, decide_eq_true_eq] at h; omega
set_option maxRecDepth 100000 in
set_option maxHeartbeats 1600000 in
theorem block_step (k n m : Int) (ts : List Tree) (ih : ∀ t ∈ ts, StmtC t) : BlockC (.mk k n m ts) := by
  intro cs w hT
  have IH := Lib.hid ih
  clear ih
  have HT0 := Lib.hid hT
  rw [IsT] at hT
  obtain ⟨v, xs, rfl, hr, hts⟩ := hT
  have CO := Lib.hid (HT0.out.ones)
  have CL := Lib.hid (HT0.out.len)
  have X0 := Lib.hid (show ([.int .i64 k, .int .i64 n, .int .i64 m, v] : List Value)[0]? = some (.int .i64 k) from rfl)
  have X1 := Lib.hid (show ([.int .i64 k, .int .i64 n, .int .i64 m, v] : List Value)[1]? = some (.int .i64 n) from rfl)
  have X2 := Lib.hid (show ([.int .i64 k, .int .i64 n, .int .i64 m, v] : List Value)[2]? = some (.int .i64 m) from rfl)
  have X3 := Lib.hid (show ([.int .i64 k, .int .i64 n, .int .i64 m, v] : List Value)[3]? = some v from rfl)
  go_enter Tryd.func78, Tryd.ntmps78
  go_upto_region 1 with (((with_reducible refine' wpList_boxa (cs := [.int .i64 k, .int .i64 n, .int .i64 m, v]) 25 (.tmp 0) rfl ?_ ?_ ?_); exact rfl; exact rfl; intro w1 kA hN1 hz1; simp only [Act.put, List.setIfInBounds_toArray, List.set_cons_succ, List.set_cons_zero]))
  have hr1 := hr.below hN1
  have ht1 := Lib.hid (IsTs.below hN1 hts)
  have hT1 := HT0.out.below hN1
  clear hr hz1 hts
  by_cases k13 : k = 13
  rotate_left
  · have q13 : decide (k = 13) = false := decide_eq_false k13
    have p13 : (k == 13) = false := by rw [beq_eq_false_iff_ne]; exact k13
    have r13 : (k != 13) = true := by rw [bne_iff_ne]; exact k13
    have HV := Lib.hid (tfits_bno k n m ts k13)
    clear k13
    go_wp2_with (first
      | ((with_reducible refine' wpList_field_blk (j := 0) (.tmp 1) 25 0 rfl ?_ fo_node_0 ?_ rfl ?_); exact rfl; exact rfl; simp only [Act.put, List.setIfInBounds_toArray, List.set_cons_succ, List.set_cons_zero])
      | ((with_reducible refine' wpList_load_blk (.tmp 4) 3 rfl ?_ ld_int ?_ kA (X0.out) ?_); exact rfl; exact rfl; simp only [Act.put, List.setIfInBounds_toArray, List.set_cons_succ, List.set_cons_zero]))
    go_ret
    rw [HV.out]
    exact ⟨rfl, hN1⟩
  subst k13
  cases hb : btw n m ts.length 0 0 0 8 with
  | false =>
    have HB := Lib.hid hb
    have HV := Lib.hid (show tfits (.mk 13 n m ts) 6 = false by rw [tfits_b, hb]; rfl)
    clear hb
    go_wp2_with (first
      | ((with_reducible refine' wpList_field_blk (j := 0) (.tmp 1) 25 0 rfl ?_ fo_node_0 ?_ rfl ?_); exact rfl; exact rfl; simp only [Act.put, List.setIfInBounds_toArray, List.set_cons_succ, List.set_cons_zero])
      | ((with_reducible refine' wpList_load_blk (.tmp 4) 3 rfl ?_ ld_int ?_ kA (X0.out) ?_); exact rfl; exact rfl; simp only [Act.put, List.setIfInBounds_toArray, List.set_cons_succ, List.set_cons_zero])
      | ((with_reducible refine' wpList_loadst_blk (.tmp 1) 25 rfl ?_ Tryd.underlying25 ?_ sz_node ?_ kA ?_ ?_ ?_); exact rfl; exact rfl; exact rfl; exact CL.out; decide; simp only [Act.put, List.setIfInBounds_toArray, List.set_cons_succ, List.set_cons_zero])
      | ((go_at_call 55; (with_reducible refine (between_any 13 n m ts 0 0 0 8 _ _ hT1).mono ?_); rintro e w' ⟨rfl, hN2⟩); rw [HB.out]; have kA2 := kA.below hN2 kA.lt; have hr2 := hr1.below hN2; have ht2 := Lib.hid (IsTs.below hN2 ht1.out); have hb2 := hN1.trans (hN2.mono hN1.size)))
    go_ret
    rw [HV.out]
    exact ⟨rfl, hb2⟩
  | true =>
    have HB := Lib.hid hb
    have HV := Lib.hid (show tfits (.mk 13 n m ts) 6 = tall 5 ts by rw [tfits_b, hb]; rfl)
    have HL := Lib.hid (show ts.length ≤ 8 by simp only [btw, Bool.and_eq_true, decide_eq_true_eq] at hb; omega)
    clear hb
    go_upto_region 4 with (first
      | ((with_reducible refine' wpList_field_blk (j := 0) (.tmp 1) 25 0 rfl ?_ fo_node_0 ?_ rfl ?_); exact rfl; exact rfl; simp only [Act.put, List.setIfInBounds_toArray, List.set_cons_succ, List.set_cons_zero])
      | ((with_reducible refine' wpList_load_blk (.tmp 4) 3 rfl ?_ ld_int ?_ kA (X0.out) ?_); exact rfl; exact rfl; simp only [Act.put, List.setIfInBounds_toArray, List.set_cons_succ, List.set_cons_zero])
      | ((with_reducible refine' wpList_loadst_blk (.tmp 1) 25 rfl ?_ Tryd.underlying25 ?_ sz_node ?_ kA ?_ ?_ ?_); exact rfl; exact rfl; exact rfl; exact CL.out; decide; simp only [Act.put, List.setIfInBounds_toArray, List.set_cons_succ, List.set_cons_zero])
      | ((go_at_call 55; (with_reducible refine (between_any 13 n m ts 0 0 0 8 _ _ hT1).mono ?_); rintro e w' ⟨rfl, hN2⟩); rw [HB.out]; have kA2 := kA.below hN2 kA.lt; have hr2 := hr1.below hN2; have ht2 := Lib.hid (IsTs.below hN2 ht1.out); have hb2 := hN1.trans (hN2.mono hN1.size)))
    have XL := ht2.out.len
    have hl8 := HL.out
    obtain ⟨w2, rfl⟩ : ∃ w2 : World, w2 = w' := ⟨_, rfl⟩
    go_loopw [3] (fun i wr => ∃ j : Nat, j ≤ ts.length ∧ i = .int .i64 (j : Int) ∧ Hid (∀ r u, r < j → ts[r]? = some u → tfits u 5 = true) ∧ Below w2.heap.size w2 wr) (fun i _ => ts.length - (intOf i).toNat)
    case atStart => exact ⟨0, Nat.zero_le _, rfl, Lib.hid (fun r u hr => absurd hr (by omega)), Below.refl _ _⟩
    case round =>
      obtain ⟨j, hj, rfl, HE, hbj⟩ := hrel
      obtain ⟨wo, rfl⟩ : ∃ wo : World, wo = wr := ⟨_, rfl⟩
      have hrj := hr2.below hbj
      have kAj := kA2.below hbj kA2.lt
      have hbw := hb2.trans (hbj.mono hb2.size)
      by_cases hlt : j < ts.length
      · obtain ⟨t, ht⟩ := kid_at (ts := ts) (i := j) (by omega)
        obtain ⟨cj, hcj⟩ : ∃ cs, (xs.drop (j * 4)).take 4 = cs := ⟨_, rfl⟩
        have hTj := (IsTs.get ht2.out ht).below hbj
        rw [hcj] at hTj
        have HC := Lib.hid hcj
        have BD := Lib.hid (show j * 4 + 4 ≤ xs.length by rw [XL]; omega)
        have HT1 := Lib.hid ht
        have IHj := Lib.hid (IH.out t (List.mem_of_getElem? ht) cj _ hTj)
        have LJ : decide ((j : Int) < (ts.length : Int)) = true := by rw [decide_eq_true_eq]; omega
        clear hcj ht
        by_cases cf : tfits t 5 = true
        · have CF := Lib.hid cf
          have HE2 := Lib.hid (show ∀ r u, r < j + 1 → ts[r]? = some u → tfits u 5 = true from fun r u hr hu => by
            by_cases hrj : r = j
            · subst hrj; rw [HT1.out] at hu; cases hu; exact CF.out
            · exact HE.out r u (by omega) hu)
          clear cf HE
          go_wp2_with (first
            | ((with_reducible refine' wpList_field_blk (j := 3) (.tmp 1) 25 3 rfl ?_ fo_node_3 ?_ rfl ?_); exact rfl; exact rfl; simp only [Act.put, List.setIfInBounds_toArray, List.set_cons_succ, List.set_cons_zero])
            | ((with_reducible refine' wpList_load_blk (.tmp 13) 23 rfl ?_ ld_nds ?_ kAj (X3.out) ?_); exact rfl; exact rfl; simp only [Act.put, List.setIfInBounds_toArray, List.set_cons_succ, List.set_cons_zero])
            | ((with_reducible refine' wpList_len_rd (.tmp 14) 23 rfl ?_ Tryd.underlying23 ?_ hrj ?_); exact rfl; exact rfl; simp only [Act.put, List.setIfInBounds_toArray, List.set_cons_succ, List.set_cons_zero])
            | ((with_reducible refine' wpList_load_blk (.tmp 19) 23 rfl ?_ ld_nds ?_ kAj (X3.out) ?_); exact rfl; exact rfl; simp only [Act.put, List.setIfInBounds_toArray, List.set_cons_succ, List.set_cons_zero])
            | ((with_reducible refine' wpList_at_rd (.tmp 20) (.tmp 21) 23 rfl ?_ Tryd.underlying23 sz_node ?_ hrj (by decide) (j) ?_ ?_ ?_); exact rfl; exact rfl; (show (_ : Int) = _; omega); omega; simp only [Act.put, List.setIfInBounds_toArray, List.set_cons_succ, List.set_cons_zero]) | ((with_reducible refine' wpList_load_st (cp := cj) (.tmp 22) 25 rfl ?_ Tryd.underlying25 ?_ sz_node ?_ hrj ?_ ?_ HC.out ?_); exact rfl; exact rfl; exact rfl; exact BD.out; decide; simp only [Act.put, List.setIfInBounds_toArray, List.set_cons_succ, List.set_cons_zero])
            | ((go_at_call 93; (with_reducible refine (IHj.out).mono ?_); rintro e w' ⟨rfl, hN6⟩); rw [CF.out]))
          go_roundw
          case rel => (first | exact ⟨j + 1, by omega, by go_num, HE2, hbj.trans (hN6.mono hbj.size)⟩ | ((repeat apply Exists.intro); exact ⟨⟨j + 1, by omega, by go_num, HE2, hbj.trans (hN6.mono hbj.size)⟩, rfl⟩))
          case measure => simp [intOf]; omega
        · have CF := Lib.hid (show tfits t 5 = false by simpa using cf)
          have HF := Lib.hid (show tall 5 ts = false from tall_no (List.mem_of_getElem? HT1.out) CF.out)
          clear cf HE
          go_wp2_with (first
            | ((with_reducible refine' wpList_field_blk (j := 3) (.tmp 1) 25 3 rfl ?_ fo_node_3 ?_ rfl ?_); exact rfl; exact rfl; simp only [Act.put, List.setIfInBounds_toArray, List.set_cons_succ, List.set_cons_zero])
            | ((with_reducible refine' wpList_load_blk (.tmp 13) 23 rfl ?_ ld_nds ?_ kAj (X3.out) ?_); exact rfl; exact rfl; simp only [Act.put, List.setIfInBounds_toArray, List.set_cons_succ, List.set_cons_zero])
            | ((with_reducible refine' wpList_len_rd (.tmp 14) 23 rfl ?_ Tryd.underlying23 ?_ hrj ?_); exact rfl; exact rfl; simp only [Act.put, List.setIfInBounds_toArray, List.set_cons_succ, List.set_cons_zero])
            | ((with_reducible refine' wpList_load_blk (.tmp 19) 23 rfl ?_ ld_nds ?_ kAj (X3.out) ?_); exact rfl; exact rfl; simp only [Act.put, List.setIfInBounds_toArray, List.set_cons_succ, List.set_cons_zero])
            | ((with_reducible refine' wpList_at_rd (.tmp 20) (.tmp 21) 23 rfl ?_ Tryd.underlying23 sz_node ?_ hrj (by decide) (j) ?_ ?_ ?_); exact rfl; exact rfl; (show (_ : Int) = _; omega); omega; simp only [Act.put, List.setIfInBounds_toArray, List.set_cons_succ, List.set_cons_zero]) | ((with_reducible refine' wpList_load_st (cp := cj) (.tmp 22) 25 rfl ?_ Tryd.underlying25 ?_ sz_node ?_ hrj ?_ ?_ HC.out ?_); exact rfl; exact rfl; exact rfl; exact BD.out; decide; simp only [Act.put, List.setIfInBounds_toArray, List.set_cons_succ, List.set_cons_zero])
            | ((go_at_call 93; (with_reducible refine (IHj.out).mono ?_); rintro e w' ⟨rfl, hN6⟩); rw [CF.out]))
          go_ret
          rw [HV.out, HF.out]
          exact ⟨rfl, hbw.trans (hN6.mono hbw.size)⟩
      · obtain rfl : j = ts.length := by omega
        have HF := Lib.hid (show tall 5 ts = true from (tall_iff 5 ts).2 fun u hu => by
          obtain ⟨r, hr, rfl⟩ := List.mem_iff_getElem.1 hu
          exact HE.out r _ hr (List.getElem?_eq_getElem hr))
        go_wp2_with (first
          | ((with_reducible refine' wpList_field_blk (j := 3) (.tmp 1) 25 3 rfl ?_ fo_node_3 ?_ rfl ?_); exact rfl; exact rfl; simp only [Act.put, List.setIfInBounds_toArray, List.set_cons_succ, List.set_cons_zero])
          | ((with_reducible refine' wpList_load_blk (.tmp 13) 23 rfl ?_ ld_nds ?_ kAj (X3.out) ?_); exact rfl; exact rfl; simp only [Act.put, List.setIfInBounds_toArray, List.set_cons_succ, List.set_cons_zero])
          | ((with_reducible refine' wpList_len_rd (.tmp 14) 23 rfl ?_ Tryd.underlying23 ?_ hrj ?_); exact rfl; exact rfl; simp only [Act.put, List.setIfInBounds_toArray, List.set_cons_succ, List.set_cons_zero]))
        go_ret
        rw [HV.out, HF.out]
        exact ⟨rfl, hbw⟩
end Go.Proofs.YtdlhkhnoigbhjaaDoor.Wi
namespace Go.Proofs.YtdlhkhnoigbhjaaDoor.Wi
open Go Go.RowKit Pu Lb
set_option linter.unusedSimpArgs false
set_option linter.unusedVariables false
set_option maxRecDepth 100000 in
set_option maxHeartbeats 6400000 in
theorem refstmt_step (k n m : Int) (ts : List Tree) (hB : BlockC (.mk k n m ts)) (ihb : ∀ t ∈ ts, BlockC t) : StmtC (.mk k n m ts) := by
  intro cs w hT
  have IHB := Lib.hid ihb
  have HBL := Lib.hid hB
  clear ihb hB
  have HT0 := Lib.hid hT
  rw [IsT] at hT
  obtain ⟨v, xs, rfl, hr, hts⟩ := hT
  have CO := Lib.hid (HT0.out.ones)
  have CL := Lib.hid (HT0.out.len)
  have X0 := Lib.hid (show ([.int .i64 k, .int .i64 n, .int .i64 m, v] : List Value)[0]? = some (.int .i64 k) from rfl)
  have X1 := Lib.hid (show ([.int .i64 k, .int .i64 n, .int .i64 m, v] : List Value)[1]? = some (.int .i64 n) from rfl)
  have X2 := Lib.hid (show ([.int .i64 k, .int .i64 n, .int .i64 m, v] : List Value)[2]? = some (.int .i64 m) from rfl)
  have X3 := Lib.hid (show ([.int .i64 k, .int .i64 n, .int .i64 m, v] : List Value)[3]? = some v from rfl)
  go_enter Tryd.func93, Tryd.ntmps93
  go_upto_region 1 with (((with_reducible refine' wpList_boxa (cs := [.int .i64 k, .int .i64 n, .int .i64 m, v]) 25 (.tmp 0) rfl ?_ ?_ ?_); exact rfl; exact rfl; intro w1 kA hN1 hz1; simp only [Act.put, List.setIfInBounds_toArray, List.set_cons_succ, List.set_cons_zero]))
  have hr1 := hr.below hN1
  have ht1 := Lib.hid (IsTs.below hN1 hts)
  have hT1 := HT0.out.below hN1
  clear hr hz1 hts
  by_cases k13 : k = 13
  · subst k13
    have HV := Lib.hid (tfits_b5 n m ts)
    have HB1 := Lib.hid (HBL.out _ _ hT1)
    go_wp2_with (first
      | ((with_reducible refine' wpList_field_blk (j := 0) (.tmp 1) 25 0 rfl ?_ fo_node_0 ?_ rfl ?_); exact rfl; exact rfl; simp only [Act.put, List.setIfInBounds_toArray, List.set_cons_succ, List.set_cons_zero])
      | ((with_reducible refine' wpList_load_blk (.tmp 3) 3 rfl ?_ ld_int ?_ kA (X0.out) ?_); exact rfl; exact rfl; simp only [Act.put, List.setIfInBounds_toArray, List.set_cons_succ, List.set_cons_zero])
      | ((with_reducible refine' wpList_loadst_blk (.tmp 1) 25 rfl ?_ Tryd.underlying25 ?_ sz_node ?_ kA ?_ ?_ ?_); exact rfl; exact rfl; exact rfl; exact CL.out; decide; simp only [Act.put, List.setIfInBounds_toArray, List.set_cons_succ, List.set_cons_zero])
      | ((go_at_call 78; (with_reducible refine (HB1.out).mono ?_); rintro e w' ⟨rfl, hN2⟩)))
    go_ret
    rw [HV.out]
    exact ⟨rfl, hN1.trans (hN2.mono hN1.size)⟩
  by_cases k17 : k = 17
  · subst k17
    cases hb : btw n m ts.length 0 0 3 3 with
    | false =>
      have HB := Lib.hid hb
      have HV := Lib.hid (tfits_sno17 n m ts hb)
      clear hb
      go_wp2_with (first
        | ((with_reducible refine' wpList_field_blk (j := 0) (.tmp 1) 25 0 rfl ?_ fo_node_0 ?_ rfl ?_); exact rfl; exact rfl; simp only [Act.put, List.setIfInBounds_toArray, List.set_cons_succ, List.set_cons_zero])
        | ((with_reducible refine' wpList_load_blk (.tmp 3) 3 rfl ?_ ld_int ?_ kA (X0.out) ?_); exact rfl; exact rfl; simp only [Act.put, List.setIfInBounds_toArray, List.set_cons_succ, List.set_cons_zero])
        | ((with_reducible refine' wpList_loadst_blk (.tmp 1) 25 rfl ?_ Tryd.underlying25 ?_ sz_node ?_ kA ?_ ?_ ?_); exact rfl; exact rfl; exact rfl; exact CL.out; decide; simp only [Act.put, List.setIfInBounds_toArray, List.set_cons_succ, List.set_cons_zero])
        | ((go_at_call 55; (with_reducible refine (between_any 17 n m ts 0 0 3 3 _ _ hT1).mono ?_); rintro e w' ⟨rfl, hN2⟩); rw [HB.out]; have kA2 := kA.below hN2 kA.lt; have hr2 := hr1.below hN2; have ht2 := Lib.hid (IsTs.below hN2 ht1.out); have hb2 := hN1.trans (hN2.mono hN1.size)))
      go_ret
      rw [HV.out]
      exact ⟨rfl, hb2⟩
    | true =>
      obtain ⟨a, b, c, rfl⟩ := kids3_of (btw_len (c := 3) hb)
      have HB := Lib.hid hb
      have HR := Lib.hid (show tfits (.mk 17 n m [a, b, c]) 5 = (tfits a 4 && (tfits b 6 && tfits c 6)) by rw [tfits_s17, show btw n m 3 0 0 3 3 = true from hb]; rfl)
      have hr1 : Rd _ 4 v 3 xs := hr1
      clear hb
      have XL := ht1.out.len
      obtain ⟨ca, hca⟩ : ∃ cs, (xs.drop (0 * 4)).take 4 = cs := ⟨_, rfl⟩
      have hTa := IsTs.get (i := 0) ht1.out (show ([a, b, c] : List Tree)[0]? = some a from rfl)
      rw [hca] at hTa
      have HCa := Lib.hid hca
      have BDa := Lib.hid (show 0 * 4 + 4 ≤ xs.length by rw [XL]; simp)
      clear hca
      obtain ⟨cb, hcb⟩ : ∃ cs, (xs.drop (1 * 4)).take 4 = cs := ⟨_, rfl⟩
      have hTb := IsTs.get (i := 1) ht1.out (show ([a, b, c] : List Tree)[1]? = some b from rfl)
      rw [hcb] at hTb
      have HCb := Lib.hid hcb
      have BDb := Lib.hid (show 1 * 4 + 4 ≤ xs.length by rw [XL]; simp)
      clear hcb
      obtain ⟨cc, hcc⟩ : ∃ cs, (xs.drop (2 * 4)).take 4 = cs := ⟨_, rfl⟩
      have hTc := IsTs.get (i := 2) ht1.out (show ([a, b, c] : List Tree)[2]? = some c from rfl)
      rw [hcc] at hTc
      have HCc := Lib.hid hcc
      have BDc := Lib.hid (show 2 * 4 + 4 ≤ xs.length by rw [XL]; simp)
      clear hcc
      have Ia := Lib.hid (fun wz h => refexpr_any a ca wz h)
      have Ib := Lib.hid (fun wz h => IHB.out b (by simp) cb wz h)
      have Ic := Lib.hid (fun wz h => IHB.out c (by simp) cc wz h)
      by_cases cf : tfits a 4 = true
      rotate_left
      · have CFa := Lib.hid (show tfits a 4 = false by simpa using cf)
        have HV := Lib.hid (HR.out.trans (show _ = false by rw [CFa.out]; rfl))
        clear cf
        go_wp2_with (first
          | ((with_reducible refine' wpList_field_blk (j := 0) (.tmp 1) 25 0 rfl ?_ fo_node_0 ?_ rfl ?_); exact rfl; exact rfl; simp only [Act.put, List.setIfInBounds_toArray, List.set_cons_succ, List.set_cons_zero])
          | ((with_reducible refine' wpList_load_blk (.tmp 3) 3 rfl ?_ ld_int ?_ kA (X0.out) ?_); exact rfl; exact rfl; simp only [Act.put, List.setIfInBounds_toArray, List.set_cons_succ, List.set_cons_zero])
          | ((with_reducible refine' wpList_loadst_blk (.tmp 1) 25 rfl ?_ Tryd.underlying25 ?_ sz_node ?_ kA ?_ ?_ ?_); exact rfl; exact rfl; exact rfl; exact CL.out; decide; simp only [Act.put, List.setIfInBounds_toArray, List.set_cons_succ, List.set_cons_zero])
          | ((go_at_call 55; (with_reducible refine (between_any 17 n m [a, b, c] 0 0 3 3 _ _ hT1).mono ?_); rintro e w' ⟨rfl, hN2⟩); rw [HB.out]; have kA2 := kA.below hN2 kA.lt; have hr2 := hr1.below hN2; have ht2 := Lib.hid (IsTs.below hN2 ht1.out); have hb2 := hN1.trans (hN2.mono hN1.size); have h2a := hTa.below hN2)
          | ((with_reducible refine' wpList_field_blk (j := 3) (.tmp 1) 25 3 rfl ?_ fo_node_3 ?_ rfl ?_); exact rfl; exact rfl; simp only [Act.put, List.setIfInBounds_toArray, List.set_cons_succ, List.set_cons_zero])
          | ((with_reducible refine' wpList_load_blk (.tmp 14) 23 rfl ?_ ld_nds ?_ kA2 (X3.out) ?_); exact rfl; exact rfl; simp only [Act.put, List.setIfInBounds_toArray, List.set_cons_succ, List.set_cons_zero])
          | ((with_reducible refine' wpList_at_rd (.tmp 15) (.const (.int .i64 0)) 23 rfl ?_ Tryd.underlying23 sz_node ?_ hr2 (by decide) (0) ?_ ?_ ?_); exact rfl; exact rfl; (show (_ : Int) = _; omega); omega; simp only [Act.put, List.setIfInBounds_toArray, List.set_cons_succ, List.set_cons_zero])
          | ((with_reducible refine' wpList_load_st (cp := ca) (.tmp 16) 25 rfl ?_ Tryd.underlying25 ?_ sz_node ?_ hr2 ?_ ?_ HCa.out ?_); exact rfl; exact rfl; exact rfl; exact BDa.out; decide; simp only [Act.put, List.setIfInBounds_toArray, List.set_cons_succ, List.set_cons_zero])
          | ((go_at_call 100; (with_reducible refine (Ia.out _ h2a).mono ?_); rintro e w' ⟨rfl, hN3⟩); rw [CFa.out]; have hb3 := hb2.trans (hN3.mono hb2.size); have kA3 := kA2.below hN3 kA2.lt; have hr3 := hr2.below hN3))
        go_ret
        rw [HV.out]
        exact ⟨rfl, hb3⟩
      have CFa := Lib.hid cf
      clear cf
      by_cases cf : tfits b 6 = true
      rotate_left
      · have CFb := Lib.hid (show tfits b 6 = false by simpa using cf)
        have HV := Lib.hid (HR.out.trans (show _ = false by rw [CFa.out, CFb.out]; rfl))
        clear cf
        go_wp2_with (first
          | ((with_reducible refine' wpList_field_blk (j := 0) (.tmp 1) 25 0 rfl ?_ fo_node_0 ?_ rfl ?_); exact rfl; exact rfl; simp only [Act.put, List.setIfInBounds_toArray, List.set_cons_succ, List.set_cons_zero])
          | ((with_reducible refine' wpList_load_blk (.tmp 3) 3 rfl ?_ ld_int ?_ kA (X0.out) ?_); exact rfl; exact rfl; simp only [Act.put, List.setIfInBounds_toArray, List.set_cons_succ, List.set_cons_zero])
          | ((with_reducible refine' wpList_loadst_blk (.tmp 1) 25 rfl ?_ Tryd.underlying25 ?_ sz_node ?_ kA ?_ ?_ ?_); exact rfl; exact rfl; exact rfl; exact CL.out; decide; simp only [Act.put, List.setIfInBounds_toArray, List.set_cons_succ, List.set_cons_zero])
          | ((go_at_call 55; (with_reducible refine (between_any 17 n m [a, b, c] 0 0 3 3 _ _ hT1).mono ?_); rintro e w' ⟨rfl, hN2⟩); rw [HB.out]; have kA2 := kA.below hN2 kA.lt; have hr2 := hr1.below hN2; have ht2 := Lib.hid (IsTs.below hN2 ht1.out); have hb2 := hN1.trans (hN2.mono hN1.size); have h2a := hTa.below hN2; have h2b := hTb.below hN2)
          | ((with_reducible refine' wpList_field_blk (j := 3) (.tmp 1) 25 3 rfl ?_ fo_node_3 ?_ rfl ?_); exact rfl; exact rfl; simp only [Act.put, List.setIfInBounds_toArray, List.set_cons_succ, List.set_cons_zero])
          | ((with_reducible refine' wpList_load_blk (.tmp 14) 23 rfl ?_ ld_nds ?_ kA2 (X3.out) ?_); exact rfl; exact rfl; simp only [Act.put, List.setIfInBounds_toArray, List.set_cons_succ, List.set_cons_zero])
          | ((with_reducible refine' wpList_at_rd (.tmp 15) (.const (.int .i64 0)) 23 rfl ?_ Tryd.underlying23 sz_node ?_ hr2 (by decide) (0) ?_ ?_ ?_); exact rfl; exact rfl; (show (_ : Int) = _; omega); omega; simp only [Act.put, List.setIfInBounds_toArray, List.set_cons_succ, List.set_cons_zero])
          | ((with_reducible refine' wpList_load_st (cp := ca) (.tmp 16) 25 rfl ?_ Tryd.underlying25 ?_ sz_node ?_ hr2 ?_ ?_ HCa.out ?_); exact rfl; exact rfl; exact rfl; exact BDa.out; decide; simp only [Act.put, List.setIfInBounds_toArray, List.set_cons_succ, List.set_cons_zero])
          | ((go_at_call 100; (with_reducible refine (Ia.out _ h2a).mono ?_); rintro e w' ⟨rfl, hN3⟩); rw [CFa.out]; have hb3 := hb2.trans (hN3.mono hb2.size); have kA3 := kA2.below hN3 kA2.lt; have hr3 := hr2.below hN3; have h3b := h2b.below hN3)
          | ((with_reducible refine' wpList_load_blk (.tmp 21) 23 rfl ?_ ld_nds ?_ kA3 (X3.out) ?_); exact rfl; exact rfl; simp only [Act.put, List.setIfInBounds_toArray, List.set_cons_succ, List.set_cons_zero])
          | ((with_reducible refine' wpList_at_rd (.tmp 22) (.const (.int .i64 1)) 23 rfl ?_ Tryd.underlying23 sz_node ?_ hr3 (by decide) (1) ?_ ?_ ?_); exact rfl; exact rfl; (show (_ : Int) = _; omega); omega; simp only [Act.put, List.setIfInBounds_toArray, List.set_cons_succ, List.set_cons_zero])
          | ((with_reducible refine' wpList_load_st (cp := cb) (.tmp 23) 25 rfl ?_ Tryd.underlying25 ?_ sz_node ?_ hr3 ?_ ?_ HCb.out ?_); exact rfl; exact rfl; exact rfl; exact BDb.out; decide; simp only [Act.put, List.setIfInBounds_toArray, List.set_cons_succ, List.set_cons_zero])
          | ((go_at_call 78; (with_reducible refine (Ib.out _ h3b).mono ?_); rintro e w' ⟨rfl, hN4⟩); rw [CFb.out]; have hb4 := hb3.trans (hN4.mono hb3.size); have kA4 := kA3.below hN4 kA3.lt; have hr4 := hr3.below hN4))
        go_ret
        rw [HV.out]
        exact ⟨rfl, hb4⟩
      have CFb := Lib.hid cf
      clear cf
      have HV := Lib.hid (HR.out.trans (show _ = tfits c 6 by rw [CFa.out, CFb.out]; rfl))
      go_wp2_with (first
        | ((with_reducible refine' wpList_field_blk (j := 0) (.tmp 1) 25 0 rfl ?_ fo_node_0 ?_ rfl ?_); exact rfl; exact rfl; simp only [Act.put, List.setIfInBounds_toArray, List.set_cons_succ, List.set_cons_zero])
        | ((with_reducible refine' wpList_load_blk (.tmp 3) 3 rfl ?_ ld_int ?_ kA (X0.out) ?_); exact rfl; exact rfl; simp only [Act.put, List.setIfInBounds_toArray, List.set_cons_succ, List.set_cons_zero])
        | ((with_reducible refine' wpList_loadst_blk (.tmp 1) 25 rfl ?_ Tryd.underlying25 ?_ sz_node ?_ kA ?_ ?_ ?_); exact rfl; exact rfl; exact rfl; exact CL.out; decide; simp only [Act.put, List.setIfInBounds_toArray, List.set_cons_succ, List.set_cons_zero])
        | ((go_at_call 55; (with_reducible refine (between_any 17 n m [a, b, c] 0 0 3 3 _ _ hT1).mono ?_); rintro e w' ⟨rfl, hN2⟩); rw [HB.out]; have kA2 := kA.below hN2 kA.lt; have hr2 := hr1.below hN2; have ht2 := Lib.hid (IsTs.below hN2 ht1.out); have hb2 := hN1.trans (hN2.mono hN1.size); have h2a := hTa.below hN2; have h2b := hTb.below hN2; have h2c := hTc.below hN2)
        | ((with_reducible refine' wpList_field_blk (j := 3) (.tmp 1) 25 3 rfl ?_ fo_node_3 ?_ rfl ?_); exact rfl; exact rfl; simp only [Act.put, List.setIfInBounds_toArray, List.set_cons_succ, List.set_cons_zero])
        | ((with_reducible refine' wpList_load_blk (.tmp 14) 23 rfl ?_ ld_nds ?_ kA2 (X3.out) ?_); exact rfl; exact rfl; simp only [Act.put, List.setIfInBounds_toArray, List.set_cons_succ, List.set_cons_zero])
        | ((with_reducible refine' wpList_at_rd (.tmp 15) (.const (.int .i64 0)) 23 rfl ?_ Tryd.underlying23 sz_node ?_ hr2 (by decide) (0) ?_ ?_ ?_); exact rfl; exact rfl; (show (_ : Int) = _; omega); omega; simp only [Act.put, List.setIfInBounds_toArray, List.set_cons_succ, List.set_cons_zero])
        | ((with_reducible refine' wpList_load_st (cp := ca) (.tmp 16) 25 rfl ?_ Tryd.underlying25 ?_ sz_node ?_ hr2 ?_ ?_ HCa.out ?_); exact rfl; exact rfl; exact rfl; exact BDa.out; decide; simp only [Act.put, List.setIfInBounds_toArray, List.set_cons_succ, List.set_cons_zero])
        | ((go_at_call 100; (with_reducible refine (Ia.out _ h2a).mono ?_); rintro e w' ⟨rfl, hN3⟩); rw [CFa.out]; have hb3 := hb2.trans (hN3.mono hb2.size); have kA3 := kA2.below hN3 kA2.lt; have hr3 := hr2.below hN3; have h3b := h2b.below hN3; have h3c := h2c.below hN3)
        | ((with_reducible refine' wpList_load_blk (.tmp 21) 23 rfl ?_ ld_nds ?_ kA3 (X3.out) ?_); exact rfl; exact rfl; simp only [Act.put, List.setIfInBounds_toArray, List.set_cons_succ, List.set_cons_zero])
        | ((with_reducible refine' wpList_at_rd (.tmp 22) (.const (.int .i64 1)) 23 rfl ?_ Tryd.underlying23 sz_node ?_ hr3 (by decide) (1) ?_ ?_ ?_); exact rfl; exact rfl; (show (_ : Int) = _; omega); omega; simp only [Act.put, List.setIfInBounds_toArray, List.set_cons_succ, List.set_cons_zero])
        | ((with_reducible refine' wpList_load_st (cp := cb) (.tmp 23) 25 rfl ?_ Tryd.underlying25 ?_ sz_node ?_ hr3 ?_ ?_ HCb.out ?_); exact rfl; exact rfl; exact rfl; exact BDb.out; decide; simp only [Act.put, List.setIfInBounds_toArray, List.set_cons_succ, List.set_cons_zero])
        | ((go_at_call 78; (with_reducible refine (Ib.out _ h3b).mono ?_); rintro e w' ⟨rfl, hN4⟩); rw [CFb.out]; have hb4 := hb3.trans (hN4.mono hb3.size); have kA4 := kA3.below hN4 kA3.lt; have hr4 := hr3.below hN4; have h4c := h3c.below hN4)
        | ((with_reducible refine' wpList_load_blk (.tmp 28) 23 rfl ?_ ld_nds ?_ kA4 (X3.out) ?_); exact rfl; exact rfl; simp only [Act.put, List.setIfInBounds_toArray, List.set_cons_succ, List.set_cons_zero])
        | ((with_reducible refine' wpList_at_rd (.tmp 29) (.const (.int .i64 2)) 23 rfl ?_ Tryd.underlying23 sz_node ?_ hr4 (by decide) (2) ?_ ?_ ?_); exact rfl; exact rfl; (show (_ : Int) = _; omega); omega; simp only [Act.put, List.setIfInBounds_toArray, List.set_cons_succ, List.set_cons_zero])
        | ((with_reducible refine' wpList_load_st (cp := cc) (.tmp 30) 25 rfl ?_ Tryd.underlying25 ?_ sz_node ?_ hr4 ?_ ?_ HCc.out ?_); exact rfl; exact rfl; exact rfl; exact BDc.out; decide; simp only [Act.put, List.setIfInBounds_toArray, List.set_cons_succ, List.set_cons_zero])
        | ((go_at_call 78; (with_reducible refine (Ic.out _ h4c).mono ?_); rintro e w' ⟨rfl, hN5⟩); have hb5 := hb4.trans (hN5.mono hb4.size); have kA5 := kA4.below hN5 kA4.lt; have hr5 := hr4.below hN5))
      go_ret
      rw [HV.out]
      exact ⟨rfl, hb5⟩
  by_cases k18 : k = 18
  · subst k18
    cases hb : btw n m ts.length 0 0 2 2 with
    | false =>
      have HB := Lib.hid hb
      have HV := Lib.hid (tfits_sno18 n m ts hb)
      clear hb
      go_wp2_with (first
        | ((with_reducible refine' wpList_field_blk (j := 0) (.tmp 1) 25 0 rfl ?_ fo_node_0 ?_ rfl ?_); exact rfl; exact rfl; simp only [Act.put, List.setIfInBounds_toArray, List.set_cons_succ, List.set_cons_zero])
        | ((with_reducible refine' wpList_load_blk (.tmp 3) 3 rfl ?_ ld_int ?_ kA (X0.out) ?_); exact rfl; exact rfl; simp only [Act.put, List.setIfInBounds_toArray, List.set_cons_succ, List.set_cons_zero])
        | ((with_reducible refine' wpList_loadst_blk (.tmp 1) 25 rfl ?_ Tryd.underlying25 ?_ sz_node ?_ kA ?_ ?_ ?_); exact rfl; exact rfl; exact rfl; exact CL.out; decide; simp only [Act.put, List.setIfInBounds_toArray, List.set_cons_succ, List.set_cons_zero])
        | ((go_at_call 55; (with_reducible refine (between_any 18 n m ts 0 0 2 2 _ _ hT1).mono ?_); rintro e w' ⟨rfl, hN2⟩); rw [HB.out]; have kA2 := kA.below hN2 kA.lt; have hr2 := hr1.below hN2; have ht2 := Lib.hid (IsTs.below hN2 ht1.out); have hb2 := hN1.trans (hN2.mono hN1.size)))
      go_ret
      rw [HV.out]
      exact ⟨rfl, hb2⟩
    | true =>
      obtain ⟨a, b, rfl⟩ := kids2_of (btw_len (c := 2) hb)
      have HB := Lib.hid hb
      have HR := Lib.hid (show tfits (.mk 18 n m [a, b]) 5 = (tfits a 4 && tfits b 6) by rw [tfits_s18, show btw n m 2 0 0 2 2 = true from hb]; rfl)
      have hr1 : Rd _ 4 v 2 xs := hr1
      clear hb
      have XL := ht1.out.len
      obtain ⟨ca, hca⟩ : ∃ cs, (xs.drop (0 * 4)).take 4 = cs := ⟨_, rfl⟩
      have hTa := IsTs.get (i := 0) ht1.out (show ([a, b] : List Tree)[0]? = some a from rfl)
      rw [hca] at hTa
      have HCa := Lib.hid hca
      have BDa := Lib.hid (show 0 * 4 + 4 ≤ xs.length by rw [XL]; simp)
      clear hca
      obtain ⟨cb, hcb⟩ : ∃ cs, (xs.drop (1 * 4)).take 4 = cs := ⟨_, rfl⟩
      have hTb := IsTs.get (i := 1) ht1.out (show ([a, b] : List Tree)[1]? = some b from rfl)
      rw [hcb] at hTb
      have HCb := Lib.hid hcb
      have BDb := Lib.hid (show 1 * 4 + 4 ≤ xs.length by rw [XL]; simp)
      clear hcb
      have Ia := Lib.hid (fun wz h => refexpr_any a ca wz h)
      have Ib := Lib.hid (fun wz h => IHB.out b (by simp) cb wz h)
      by_cases cf : tfits a 4 = true
      rotate_left
      · have CFa := Lib.hid (show tfits a 4 = false by simpa using cf)
        have HV := Lib.hid (HR.out.trans (show _ = false by rw [CFa.out]; rfl))
        clear cf
        go_wp2_with (first
          | ((with_reducible refine' wpList_field_blk (j := 0) (.tmp 1) 25 0 rfl ?_ fo_node_0 ?_ rfl ?_); exact rfl; exact rfl; simp only [Act.put, List.setIfInBounds_toArray, List.set_cons_succ, List.set_cons_zero])
          | ((with_reducible refine' wpList_load_blk (.tmp 3) 3 rfl ?_ ld_int ?_ kA (X0.out) ?_); exact rfl; exact rfl; simp only [Act.put, List.setIfInBounds_toArray, List.set_cons_succ, List.set_cons_zero])
          | ((with_reducible refine' wpList_loadst_blk (.tmp 1) 25 rfl ?_ Tryd.underlying25 ?_ sz_node ?_ kA ?_ ?_ ?_); exact rfl; exact rfl; exact rfl; exact CL.out; decide; simp only [Act.put, List.setIfInBounds_toArray, List.set_cons_succ, List.set_cons_zero])
          | ((go_at_call 55; (with_reducible refine (between_any 18 n m [a, b] 0 0 2 2 _ _ hT1).mono ?_); rintro e w' ⟨rfl, hN2⟩); rw [HB.out]; have kA2 := kA.below hN2 kA.lt; have hr2 := hr1.below hN2; have ht2 := Lib.hid (IsTs.below hN2 ht1.out); have hb2 := hN1.trans (hN2.mono hN1.size); have h2a := hTa.below hN2)
          | ((with_reducible refine' wpList_field_blk (j := 3) (.tmp 1) 25 3 rfl ?_ fo_node_3 ?_ rfl ?_); exact rfl; exact rfl; simp only [Act.put, List.setIfInBounds_toArray, List.set_cons_succ, List.set_cons_zero])
          | ((with_reducible refine' wpList_load_blk (.tmp 39) 23 rfl ?_ ld_nds ?_ kA2 (X3.out) ?_); exact rfl; exact rfl; simp only [Act.put, List.setIfInBounds_toArray, List.set_cons_succ, List.set_cons_zero])
          | ((with_reducible refine' wpList_at_rd (.tmp 40) (.const (.int .i64 0)) 23 rfl ?_ Tryd.underlying23 sz_node ?_ hr2 (by decide) (0) ?_ ?_ ?_); exact rfl; exact rfl; (show (_ : Int) = _; omega); omega; simp only [Act.put, List.setIfInBounds_toArray, List.set_cons_succ, List.set_cons_zero])
          | ((with_reducible refine' wpList_load_st (cp := ca) (.tmp 41) 25 rfl ?_ Tryd.underlying25 ?_ sz_node ?_ hr2 ?_ ?_ HCa.out ?_); exact rfl; exact rfl; exact rfl; exact BDa.out; decide; simp only [Act.put, List.setIfInBounds_toArray, List.set_cons_succ, List.set_cons_zero])
          | ((go_at_call 100; (with_reducible refine (Ia.out _ h2a).mono ?_); rintro e w' ⟨rfl, hN3⟩); rw [CFa.out]; have hb3 := hb2.trans (hN3.mono hb2.size); have kA3 := kA2.below hN3 kA2.lt; have hr3 := hr2.below hN3))
        go_ret
        rw [HV.out]
        exact ⟨rfl, hb3⟩
      have CFa := Lib.hid cf
      clear cf
      have HV := Lib.hid (HR.out.trans (show _ = tfits b 6 by rw [CFa.out]; rfl))
      go_wp2_with (first
        | ((with_reducible refine' wpList_field_blk (j := 0) (.tmp 1) 25 0 rfl ?_ fo_node_0 ?_ rfl ?_); exact rfl; exact rfl; simp only [Act.put, List.setIfInBounds_toArray, List.set_cons_succ, List.set_cons_zero])
        | ((with_reducible refine' wpList_load_blk (.tmp 3) 3 rfl ?_ ld_int ?_ kA (X0.out) ?_); exact rfl; exact rfl; simp only [Act.put, List.setIfInBounds_toArray, List.set_cons_succ, List.set_cons_zero])
        | ((with_reducible refine' wpList_loadst_blk (.tmp 1) 25 rfl ?_ Tryd.underlying25 ?_ sz_node ?_ kA ?_ ?_ ?_); exact rfl; exact rfl; exact rfl; exact CL.out; decide; simp only [Act.put, List.setIfInBounds_toArray, List.set_cons_succ, List.set_cons_zero])
        | ((go_at_call 55; (with_reducible refine (between_any 18 n m [a, b] 0 0 2 2 _ _ hT1).mono ?_); rintro e w' ⟨rfl, hN2⟩); rw [HB.out]; have kA2 := kA.below hN2 kA.lt; have hr2 := hr1.below hN2; have ht2 := Lib.hid (IsTs.below hN2 ht1.out); have hb2 := hN1.trans (hN2.mono hN1.size); have h2a := hTa.below hN2; have h2b := hTb.below hN2)
        | ((with_reducible refine' wpList_field_blk (j := 3) (.tmp 1) 25 3 rfl ?_ fo_node_3 ?_ rfl ?_); exact rfl; exact rfl; simp only [Act.put, List.setIfInBounds_toArray, List.set_cons_succ, List.set_cons_zero])
        | ((with_reducible refine' wpList_load_blk (.tmp 39) 23 rfl ?_ ld_nds ?_ kA2 (X3.out) ?_); exact rfl; exact rfl; simp only [Act.put, List.setIfInBounds_toArray, List.set_cons_succ, List.set_cons_zero])
        | ((with_reducible refine' wpList_at_rd (.tmp 40) (.const (.int .i64 0)) 23 rfl ?_ Tryd.underlying23 sz_node ?_ hr2 (by decide) (0) ?_ ?_ ?_); exact rfl; exact rfl; (show (_ : Int) = _; omega); omega; simp only [Act.put, List.setIfInBounds_toArray, List.set_cons_succ, List.set_cons_zero])
        | ((with_reducible refine' wpList_load_st (cp := ca) (.tmp 41) 25 rfl ?_ Tryd.underlying25 ?_ sz_node ?_ hr2 ?_ ?_ HCa.out ?_); exact rfl; exact rfl; exact rfl; exact BDa.out; decide; simp only [Act.put, List.setIfInBounds_toArray, List.set_cons_succ, List.set_cons_zero])
        | ((go_at_call 100; (with_reducible refine (Ia.out _ h2a).mono ?_); rintro e w' ⟨rfl, hN3⟩); rw [CFa.out]; have hb3 := hb2.trans (hN3.mono hb2.size); have kA3 := kA2.below hN3 kA2.lt; have hr3 := hr2.below hN3; have h3b := h2b.below hN3)
        | ((with_reducible refine' wpList_load_blk (.tmp 46) 23 rfl ?_ ld_nds ?_ kA3 (X3.out) ?_); exact rfl; exact rfl; simp only [Act.put, List.setIfInBounds_toArray, List.set_cons_succ, List.set_cons_zero])
        | ((with_reducible refine' wpList_at_rd (.tmp 47) (.const (.int .i64 1)) 23 rfl ?_ Tryd.underlying23 sz_node ?_ hr3 (by decide) (1) ?_ ?_ ?_); exact rfl; exact rfl; (show (_ : Int) = _; omega); omega; simp only [Act.put, List.setIfInBounds_toArray, List.set_cons_succ, List.set_cons_zero])
        | ((with_reducible refine' wpList_load_st (cp := cb) (.tmp 48) 25 rfl ?_ Tryd.underlying25 ?_ sz_node ?_ hr3 ?_ ?_ HCb.out ?_); exact rfl; exact rfl; exact rfl; exact BDb.out; decide; simp only [Act.put, List.setIfInBounds_toArray, List.set_cons_succ, List.set_cons_zero])
        | ((go_at_call 78; (with_reducible refine (Ib.out _ h3b).mono ?_); rintro e w' ⟨rfl, hN4⟩); have hb4 := hb3.trans (hN4.mono hb3.size); have kA4 := kA3.below hN4 kA3.lt; have hr4 := hr3.below hN4))
      go_ret
      rw [HV.out]
      exact ⟨rfl, hb4⟩
  by_cases k21 : k = 21
  · subst k21
    cases hb : btw n m ts.length 5 0 2 2 with
    | false =>
      have HB := Lib.hid hb
      have HV := Lib.hid (tfits_sno21 n m ts hb)
      clear hb
      go_wp2_with (first
        | ((with_reducible refine' wpList_field_blk (j := 0) (.tmp 1) 25 0 rfl ?_ fo_node_0 ?_ rfl ?_); exact rfl; exact rfl; simp only [Act.put, List.setIfInBounds_toArray, List.set_cons_succ, List.set_cons_zero])
        | ((with_reducible refine' wpList_load_blk (.tmp 3) 3 rfl ?_ ld_int ?_ kA (X0.out) ?_); exact rfl; exact rfl; simp only [Act.put, List.setIfInBounds_toArray, List.set_cons_succ, List.set_cons_zero])
        | ((with_reducible refine' wpList_loadst_blk (.tmp 1) 25 rfl ?_ Tryd.underlying25 ?_ sz_node ?_ kA ?_ ?_ ?_); exact rfl; exact rfl; exact rfl; exact CL.out; decide; simp only [Act.put, List.setIfInBounds_toArray, List.set_cons_succ, List.set_cons_zero])
        | ((go_at_call 55; (with_reducible refine (between_any 21 n m ts 5 0 2 2 _ _ hT1).mono ?_); rintro e w' ⟨rfl, hN2⟩); rw [HB.out]; have kA2 := kA.below hN2 kA.lt; have hr2 := hr1.below hN2; have ht2 := Lib.hid (IsTs.below hN2 ht1.out); have hb2 := hN1.trans (hN2.mono hN1.size)))
      go_ret
      rw [HV.out]
      exact ⟨rfl, hb2⟩
    | true =>
      obtain ⟨a, b, rfl⟩ := kids2_of (btw_len (c := 2) hb)
      have HB := Lib.hid hb
      have HR := Lib.hid (show tfits (.mk 21 n m [a, b]) 5 = (tfits a 6 && tfits b 6) by rw [tfits_s21, show btw n m 2 5 0 2 2 = true from hb]; rfl)
      have hr1 : Rd _ 4 v 2 xs := hr1
      clear hb
      have XL := ht1.out.len
      obtain ⟨ca, hca⟩ : ∃ cs, (xs.drop (0 * 4)).take 4 = cs := ⟨_, rfl⟩
      have hTa := IsTs.get (i := 0) ht1.out (show ([a, b] : List Tree)[0]? = some a from rfl)
      rw [hca] at hTa
      have HCa := Lib.hid hca
      have BDa := Lib.hid (show 0 * 4 + 4 ≤ xs.length by rw [XL]; simp)
      clear hca
      obtain ⟨cb, hcb⟩ : ∃ cs, (xs.drop (1 * 4)).take 4 = cs := ⟨_, rfl⟩
      have hTb := IsTs.get (i := 1) ht1.out (show ([a, b] : List Tree)[1]? = some b from rfl)
      rw [hcb] at hTb
      have HCb := Lib.hid hcb
      have BDb := Lib.hid (show 1 * 4 + 4 ≤ xs.length by rw [XL]; simp)
      clear hcb
      have Ia := Lib.hid (fun wz h => IHB.out a (by simp) ca wz h)
      have Ib := Lib.hid (fun wz h => IHB.out b (by simp) cb wz h)
      by_cases cf : tfits a 6 = true
      rotate_left
      · have CFa := Lib.hid (show tfits a 6 = false by simpa using cf)
        have HV := Lib.hid (HR.out.trans (show _ = false by rw [CFa.out]; rfl))
        clear cf
        go_wp2_with (first
          | ((with_reducible refine' wpList_field_blk (j := 0) (.tmp 1) 25 0 rfl ?_ fo_node_0 ?_ rfl ?_); exact rfl; exact rfl; simp only [Act.put, List.setIfInBounds_toArray, List.set_cons_succ, List.set_cons_zero])
          | ((with_reducible refine' wpList_load_blk (.tmp 3) 3 rfl ?_ ld_int ?_ kA (X0.out) ?_); exact rfl; exact rfl; simp only [Act.put, List.setIfInBounds_toArray, List.set_cons_succ, List.set_cons_zero])
          | ((with_reducible refine' wpList_loadst_blk (.tmp 1) 25 rfl ?_ Tryd.underlying25 ?_ sz_node ?_ kA ?_ ?_ ?_); exact rfl; exact rfl; exact rfl; exact CL.out; decide; simp only [Act.put, List.setIfInBounds_toArray, List.set_cons_succ, List.set_cons_zero])
          | ((go_at_call 55; (with_reducible refine (between_any 21 n m [a, b] 5 0 2 2 _ _ hT1).mono ?_); rintro e w' ⟨rfl, hN2⟩); rw [HB.out]; have kA2 := kA.below hN2 kA.lt; have hr2 := hr1.below hN2; have ht2 := Lib.hid (IsTs.below hN2 ht1.out); have hb2 := hN1.trans (hN2.mono hN1.size); have h2a := hTa.below hN2)
          | ((with_reducible refine' wpList_field_blk (j := 3) (.tmp 1) 25 3 rfl ?_ fo_node_3 ?_ rfl ?_); exact rfl; exact rfl; simp only [Act.put, List.setIfInBounds_toArray, List.set_cons_succ, List.set_cons_zero])
          | ((with_reducible refine' wpList_load_blk (.tmp 57) 23 rfl ?_ ld_nds ?_ kA2 (X3.out) ?_); exact rfl; exact rfl; simp only [Act.put, List.setIfInBounds_toArray, List.set_cons_succ, List.set_cons_zero])
          | ((with_reducible refine' wpList_at_rd (.tmp 58) (.const (.int .i64 0)) 23 rfl ?_ Tryd.underlying23 sz_node ?_ hr2 (by decide) (0) ?_ ?_ ?_); exact rfl; exact rfl; (show (_ : Int) = _; omega); omega; simp only [Act.put, List.setIfInBounds_toArray, List.set_cons_succ, List.set_cons_zero])
          | ((with_reducible refine' wpList_load_st (cp := ca) (.tmp 59) 25 rfl ?_ Tryd.underlying25 ?_ sz_node ?_ hr2 ?_ ?_ HCa.out ?_); exact rfl; exact rfl; exact rfl; exact BDa.out; decide; simp only [Act.put, List.setIfInBounds_toArray, List.set_cons_succ, List.set_cons_zero])
          | ((go_at_call 78; (with_reducible refine (Ia.out _ h2a).mono ?_); rintro e w' ⟨rfl, hN3⟩); rw [CFa.out]; have hb3 := hb2.trans (hN3.mono hb2.size); have kA3 := kA2.below hN3 kA2.lt; have hr3 := hr2.below hN3))
        go_ret
        rw [HV.out]
        exact ⟨rfl, hb3⟩
      have CFa := Lib.hid cf
      clear cf
      have HV := Lib.hid (HR.out.trans (show _ = tfits b 6 by rw [CFa.out]; rfl))
      go_wp2_with (first
        | ((with_reducible refine' wpList_field_blk (j := 0) (.tmp 1) 25 0 rfl ?_ fo_node_0 ?_ rfl ?_); exact rfl; exact rfl; simp only [Act.put, List.setIfInBounds_toArray, List.set_cons_succ, List.set_cons_zero])
        | ((with_reducible refine' wpList_load_blk (.tmp 3) 3 rfl ?_ ld_int ?_ kA (X0.out) ?_); exact rfl; exact rfl; simp only [Act.put, List.setIfInBounds_toArray, List.set_cons_succ, List.set_cons_zero])
        | ((with_reducible refine' wpList_loadst_blk (.tmp 1) 25 rfl ?_ Tryd.underlying25 ?_ sz_node ?_ kA ?_ ?_ ?_); exact rfl; exact rfl; exact rfl; exact CL.out; decide; simp only [Act.put, List.setIfInBounds_toArray, List.set_cons_succ, List.set_cons_zero])
        | ((go_at_call 55; (with_reducible refine (between_any 21 n m [a, b] 5 0 2 2 _ _ hT1).mono ?_); rintro e w' ⟨rfl, hN2⟩); rw [HB.out]; have kA2 := kA.below hN2 kA.lt; have hr2 := hr1.below hN2; have ht2 := Lib.hid (IsTs.below hN2 ht1.out); have hb2 := hN1.trans (hN2.mono hN1.size); have h2a := hTa.below hN2; have h2b := hTb.below hN2)
        | ((with_reducible refine' wpList_field_blk (j := 3) (.tmp 1) 25 3 rfl ?_ fo_node_3 ?_ rfl ?_); exact rfl; exact rfl; simp only [Act.put, List.setIfInBounds_toArray, List.set_cons_succ, List.set_cons_zero])
        | ((with_reducible refine' wpList_load_blk (.tmp 57) 23 rfl ?_ ld_nds ?_ kA2 (X3.out) ?_); exact rfl; exact rfl; simp only [Act.put, List.setIfInBounds_toArray, List.set_cons_succ, List.set_cons_zero])
        | ((with_reducible refine' wpList_at_rd (.tmp 58) (.const (.int .i64 0)) 23 rfl ?_ Tryd.underlying23 sz_node ?_ hr2 (by decide) (0) ?_ ?_ ?_); exact rfl; exact rfl; (show (_ : Int) = _; omega); omega; simp only [Act.put, List.setIfInBounds_toArray, List.set_cons_succ, List.set_cons_zero])
        | ((with_reducible refine' wpList_load_st (cp := ca) (.tmp 59) 25 rfl ?_ Tryd.underlying25 ?_ sz_node ?_ hr2 ?_ ?_ HCa.out ?_); exact rfl; exact rfl; exact rfl; exact BDa.out; decide; simp only [Act.put, List.setIfInBounds_toArray, List.set_cons_succ, List.set_cons_zero])
        | ((go_at_call 78; (with_reducible refine (Ia.out _ h2a).mono ?_); rintro e w' ⟨rfl, hN3⟩); rw [CFa.out]; have hb3 := hb2.trans (hN3.mono hb2.size); have kA3 := kA2.below hN3 kA2.lt; have hr3 := hr2.below hN3; have h3b := h2b.below hN3)
        | ((with_reducible refine' wpList_load_blk (.tmp 64) 23 rfl ?_ ld_nds ?_ kA3 (X3.out) ?_); exact rfl; exact rfl; simp only [Act.put, List.setIfInBounds_toArray, List.set_cons_succ, List.set_cons_zero])
        | ((with_reducible refine' wpList_at_rd (.tmp 65) (.const (.int .i64 1)) 23 rfl ?_ Tryd.underlying23 sz_node ?_ hr3 (by decide) (1) ?_ ?_ ?_); exact rfl; exact rfl; (show (_ : Int) = _; omega); omega; simp only [Act.put, List.setIfInBounds_toArray, List.set_cons_succ, List.set_cons_zero])
        | ((with_reducible refine' wpList_load_st (cp := cb) (.tmp 66) 25 rfl ?_ Tryd.underlying25 ?_ sz_node ?_ hr3 ?_ ?_ HCb.out ?_); exact rfl; exact rfl; exact rfl; exact BDb.out; decide; simp only [Act.put, List.setIfInBounds_toArray, List.set_cons_succ, List.set_cons_zero])
        | ((go_at_call 78; (with_reducible refine (Ib.out _ h3b).mono ?_); rintro e w' ⟨rfl, hN4⟩); have hb4 := hb3.trans (hN4.mono hb3.size); have kA4 := kA3.below hN4 kA3.lt; have hr4 := hr3.below hN4))
      go_ret
      rw [HV.out]
      exact ⟨rfl, hb4⟩
  by_cases k14 : k = 14
  · subst k14
    cases hb : btw n m ts.length 5 0 1 1 with
    | false =>
      have HB := Lib.hid hb
      have HV := Lib.hid (show tfits (.mk 14 n m ts) 5 = false by rw [tfits_s14, hb]; rfl)
      clear hb
      go_wp2_with (first
        | ((with_reducible refine' wpList_field_blk (j := 0) (.tmp 1) 25 0 rfl ?_ fo_node_0 ?_ rfl ?_); exact rfl; exact rfl; simp only [Act.put, List.setIfInBounds_toArray, List.set_cons_succ, List.set_cons_zero])
        | ((with_reducible refine' wpList_load_blk (.tmp 3) 3 rfl ?_ ld_int ?_ kA (X0.out) ?_); exact rfl; exact rfl; simp only [Act.put, List.setIfInBounds_toArray, List.set_cons_succ, List.set_cons_zero])
        | ((with_reducible refine' wpList_loadst_blk (.tmp 1) 25 rfl ?_ Tryd.underlying25 ?_ sz_node ?_ kA ?_ ?_ ?_); exact rfl; exact rfl; exact rfl; exact CL.out; decide; simp only [Act.put, List.setIfInBounds_toArray, List.set_cons_succ, List.set_cons_zero])
        | ((go_at_call 55; (with_reducible refine (between_any 14 n m ts 5 0 1 1 _ _ hT1).mono ?_); rintro e w' ⟨rfl, hN2⟩); rw [HB.out]; have kA2 := kA.below hN2 kA.lt; have hr2 := hr1.below hN2; have ht2 := Lib.hid (IsTs.below hN2 ht1.out); have hb2 := hN1.trans (hN2.mono hN1.size)))
      go_ret
      rw [HV.out]
      exact ⟨rfl, hb2⟩
    | true =>
      have HB := Lib.hid hb
      have HV := Lib.hid (show tfits (.mk 14 n m ts) 5 = tall 4 ts by rw [tfits_s14, hb]; rfl)
      have HL := Lib.hid (show ts.length ≤ 1000000 by simp only [btw, Bool.and_eq_true, decide_eq_true_eq] at hb; omega)
      clear hb
      go_wp2_with (first
        | ((with_reducible refine' wpList_field_blk (j := 0) (.tmp 1) 25 0 rfl ?_ fo_node_0 ?_ rfl ?_); exact rfl; exact rfl; simp only [Act.put, List.setIfInBounds_toArray, List.set_cons_succ, List.set_cons_zero])
        | ((with_reducible refine' wpList_load_blk (.tmp 3) 3 rfl ?_ ld_int ?_ kA (X0.out) ?_); exact rfl; exact rfl; simp only [Act.put, List.setIfInBounds_toArray, List.set_cons_succ, List.set_cons_zero])
        | ((with_reducible refine' wpList_loadst_blk (.tmp 1) 25 rfl ?_ Tryd.underlying25 ?_ sz_node ?_ kA ?_ ?_ ?_); exact rfl; exact rfl; exact rfl; exact CL.out; decide; simp only [Act.put, List.setIfInBounds_toArray, List.set_cons_succ, List.set_cons_zero])
        | ((go_at_call 55; (with_reducible refine (between_any 14 n m ts 5 0 1 1 _ _ hT1).mono ?_); rintro e w' ⟨rfl, hN2⟩); rw [HB.out]; have kA2 := kA.below hN2 kA.lt; have hr2 := hr1.below hN2; have ht2 := Lib.hid (IsTs.below hN2 ht1.out); have hb2 := hN1.trans (hN2.mono hN1.size))
        | ((with_reducible refine' wpList_field_blk (j := 3) (.tmp 1) 25 3 rfl ?_ fo_node_3 ?_ rfl ?_); exact rfl; exact rfl; simp only [Act.put, List.setIfInBounds_toArray, List.set_cons_succ, List.set_cons_zero])
        | ((with_reducible refine' wpList_load_blk (.tmp 75) 23 rfl ?_ ld_nds ?_ kA2 (X3.out) ?_); exact rfl; exact rfl; simp only [Act.put, List.setIfInBounds_toArray, List.set_cons_succ, List.set_cons_zero])
        | ((go_at_call 101; (with_reducible refine (exprs_step ts (fun t _ => refexpr_any t) v xs _ hr2 ht2.out HL.out).mono ?_); rintro e w' ⟨rfl, hN3⟩)))
      go_ret
      rw [HV.out]
      exact ⟨rfl, hb2.trans (hN3.mono hb2.size)⟩
  by_cases k15 : k = 15
  · subst k15
    cases hb : btw n m ts.length 5 0 2 2 with
    | false =>
      have HB := Lib.hid hb
      have HV := Lib.hid (show tfits (.mk 15 n m ts) 5 = false by rw [tfits_s15, hb]; rfl)
      clear hb
      go_wp2_with (first
        | ((with_reducible refine' wpList_field_blk (j := 0) (.tmp 1) 25 0 rfl ?_ fo_node_0 ?_ rfl ?_); exact rfl; exact rfl; simp only [Act.put, List.setIfInBounds_toArray, List.set_cons_succ, List.set_cons_zero])
        | ((with_reducible refine' wpList_load_blk (.tmp 3) 3 rfl ?_ ld_int ?_ kA (X0.out) ?_); exact rfl; exact rfl; simp only [Act.put, List.setIfInBounds_toArray, List.set_cons_succ, List.set_cons_zero])
        | ((with_reducible refine' wpList_loadst_blk (.tmp 1) 25 rfl ?_ Tryd.underlying25 ?_ sz_node ?_ kA ?_ ?_ ?_); exact rfl; exact rfl; exact rfl; exact CL.out; decide; simp only [Act.put, List.setIfInBounds_toArray, List.set_cons_succ, List.set_cons_zero])
        | ((go_at_call 55; (with_reducible refine (between_any 15 n m ts 5 0 2 2 _ _ hT1).mono ?_); rintro e w' ⟨rfl, hN2⟩); rw [HB.out]; have kA2 := kA.below hN2 kA.lt; have hr2 := hr1.below hN2; have ht2 := Lib.hid (IsTs.below hN2 ht1.out); have hb2 := hN1.trans (hN2.mono hN1.size)))
      go_ret
      rw [HV.out]
      exact ⟨rfl, hb2⟩
    | true =>
      have HB := Lib.hid hb
      have HV := Lib.hid (show tfits (.mk 15 n m ts) 5 = tall 4 ts by rw [tfits_s15, hb]; rfl)
      have HL := Lib.hid (show ts.length ≤ 1000000 by simp only [btw, Bool.and_eq_true, decide_eq_true_eq] at hb; omega)
      clear hb
      go_wp2_with (first
        | ((with_reducible refine' wpList_field_blk (j := 0) (.tmp 1) 25 0 rfl ?_ fo_node_0 ?_ rfl ?_); exact rfl; exact rfl; simp only [Act.put, List.setIfInBounds_toArray, List.set_cons_succ, List.set_cons_zero])
        | ((with_reducible refine' wpList_load_blk (.tmp 3) 3 rfl ?_ ld_int ?_ kA (X0.out) ?_); exact rfl; exact rfl; simp only [Act.put, List.setIfInBounds_toArray, List.set_cons_succ, List.set_cons_zero])
        | ((with_reducible refine' wpList_loadst_blk (.tmp 1) 25 rfl ?_ Tryd.underlying25 ?_ sz_node ?_ kA ?_ ?_ ?_); exact rfl; exact rfl; exact rfl; exact CL.out; decide; simp only [Act.put, List.setIfInBounds_toArray, List.set_cons_succ, List.set_cons_zero])
        | ((go_at_call 55; (with_reducible refine (between_any 15 n m ts 5 0 2 2 _ _ hT1).mono ?_); rintro e w' ⟨rfl, hN2⟩); rw [HB.out]; have kA2 := kA.below hN2 kA.lt; have hr2 := hr1.below hN2; have ht2 := Lib.hid (IsTs.below hN2 ht1.out); have hb2 := hN1.trans (hN2.mono hN1.size))
        | ((with_reducible refine' wpList_field_blk (j := 3) (.tmp 1) 25 3 rfl ?_ fo_node_3 ?_ rfl ?_); exact rfl; exact rfl; simp only [Act.put, List.setIfInBounds_toArray, List.set_cons_succ, List.set_cons_zero])
        | ((with_reducible refine' wpList_load_blk (.tmp 84) 23 rfl ?_ ld_nds ?_ kA2 (X3.out) ?_); exact rfl; exact rfl; simp only [Act.put, List.setIfInBounds_toArray, List.set_cons_succ, List.set_cons_zero])
        | ((go_at_call 101; (with_reducible refine (exprs_step ts (fun t _ => refexpr_any t) v xs _ hr2 ht2.out HL.out).mono ?_); rintro e w' ⟨rfl, hN3⟩)))
      go_ret
      rw [HV.out]
      exact ⟨rfl, hb2.trans (hN3.mono hb2.size)⟩
  by_cases k16 : k = 16
  · subst k16
    cases hb : btw n m ts.length 5 2 1 1 with
    | false =>
      have HB := Lib.hid hb
      have HV := Lib.hid (show tfits (.mk 16 n m ts) 5 = false by rw [tfits_s16, hb]; rfl)
      clear hb
      go_wp2_with (first
        | ((with_reducible refine' wpList_field_blk (j := 0) (.tmp 1) 25 0 rfl ?_ fo_node_0 ?_ rfl ?_); exact rfl; exact rfl; simp only [Act.put, List.setIfInBounds_toArray, List.set_cons_succ, List.set_cons_zero])
        | ((with_reducible refine' wpList_load_blk (.tmp 3) 3 rfl ?_ ld_int ?_ kA (X0.out) ?_); exact rfl; exact rfl; simp only [Act.put, List.setIfInBounds_toArray, List.set_cons_succ, List.set_cons_zero])
        | ((with_reducible refine' wpList_loadst_blk (.tmp 1) 25 rfl ?_ Tryd.underlying25 ?_ sz_node ?_ kA ?_ ?_ ?_); exact rfl; exact rfl; exact rfl; exact CL.out; decide; simp only [Act.put, List.setIfInBounds_toArray, List.set_cons_succ, List.set_cons_zero])
        | ((go_at_call 55; (with_reducible refine (between_any 16 n m ts 5 2 1 1 _ _ hT1).mono ?_); rintro e w' ⟨rfl, hN2⟩); rw [HB.out]; have kA2 := kA.below hN2 kA.lt; have hr2 := hr1.below hN2; have ht2 := Lib.hid (IsTs.below hN2 ht1.out); have hb2 := hN1.trans (hN2.mono hN1.size)))
      go_ret
      rw [HV.out]
      exact ⟨rfl, hb2⟩
    | true =>
      have HB := Lib.hid hb
      have HV := Lib.hid (show tfits (.mk 16 n m ts) 5 = tall 4 ts by rw [tfits_s16, hb]; rfl)
      have HL := Lib.hid (show ts.length ≤ 1000000 by simp only [btw, Bool.and_eq_true, decide_eq_true_eq] at hb; omega)
      clear hb
      go_wp2_with (first
        | ((with_reducible refine' wpList_field_blk (j := 0) (.tmp 1) 25 0 rfl ?_ fo_node_0 ?_ rfl ?_); exact rfl; exact rfl; simp only [Act.put, List.setIfInBounds_toArray, List.set_cons_succ, List.set_cons_zero])
        | ((with_reducible refine' wpList_load_blk (.tmp 3) 3 rfl ?_ ld_int ?_ kA (X0.out) ?_); exact rfl; exact rfl; simp only [Act.put, List.setIfInBounds_toArray, List.set_cons_succ, List.set_cons_zero])
        | ((with_reducible refine' wpList_loadst_blk (.tmp 1) 25 rfl ?_ Tryd.underlying25 ?_ sz_node ?_ kA ?_ ?_ ?_); exact rfl; exact rfl; exact rfl; exact CL.out; decide; simp only [Act.put, List.setIfInBounds_toArray, List.set_cons_succ, List.set_cons_zero])
        | ((go_at_call 55; (with_reducible refine (between_any 16 n m ts 5 2 1 1 _ _ hT1).mono ?_); rintro e w' ⟨rfl, hN2⟩); rw [HB.out]; have kA2 := kA.below hN2 kA.lt; have hr2 := hr1.below hN2; have ht2 := Lib.hid (IsTs.below hN2 ht1.out); have hb2 := hN1.trans (hN2.mono hN1.size))
        | ((with_reducible refine' wpList_field_blk (j := 3) (.tmp 1) 25 3 rfl ?_ fo_node_3 ?_ rfl ?_); exact rfl; exact rfl; simp only [Act.put, List.setIfInBounds_toArray, List.set_cons_succ, List.set_cons_zero])
        | ((with_reducible refine' wpList_load_blk (.tmp 93) 23 rfl ?_ ld_nds ?_ kA2 (X3.out) ?_); exact rfl; exact rfl; simp only [Act.put, List.setIfInBounds_toArray, List.set_cons_succ, List.set_cons_zero])
        | ((go_at_call 101; (with_reducible refine (exprs_step ts (fun t _ => refexpr_any t) v xs _ hr2 ht2.out HL.out).mono ?_); rintro e w' ⟨rfl, hN3⟩)))
      go_ret
      rw [HV.out]
      exact ⟨rfl, hb2.trans (hN3.mono hb2.size)⟩
  by_cases k19 : k = 19
  · subst k19
    cases hb : btw n m ts.length 0 0 1 1 with
    | false =>
      have HB := Lib.hid hb
      have HV := Lib.hid (show tfits (.mk 19 n m ts) 5 = false by rw [tfits_s19, hb]; rfl)
      clear hb
      go_wp2_with (first
        | ((with_reducible refine' wpList_field_blk (j := 0) (.tmp 1) 25 0 rfl ?_ fo_node_0 ?_ rfl ?_); exact rfl; exact rfl; simp only [Act.put, List.setIfInBounds_toArray, List.set_cons_succ, List.set_cons_zero])
        | ((with_reducible refine' wpList_load_blk (.tmp 3) 3 rfl ?_ ld_int ?_ kA (X0.out) ?_); exact rfl; exact rfl; simp only [Act.put, List.setIfInBounds_toArray, List.set_cons_succ, List.set_cons_zero])
        | ((with_reducible refine' wpList_loadst_blk (.tmp 1) 25 rfl ?_ Tryd.underlying25 ?_ sz_node ?_ kA ?_ ?_ ?_); exact rfl; exact rfl; exact rfl; exact CL.out; decide; simp only [Act.put, List.setIfInBounds_toArray, List.set_cons_succ, List.set_cons_zero])
        | ((go_at_call 55; (with_reducible refine (between_any 19 n m ts 0 0 1 1 _ _ hT1).mono ?_); rintro e w' ⟨rfl, hN2⟩); rw [HB.out]; have kA2 := kA.below hN2 kA.lt; have hr2 := hr1.below hN2; have ht2 := Lib.hid (IsTs.below hN2 ht1.out); have hb2 := hN1.trans (hN2.mono hN1.size)))
      go_ret
      rw [HV.out]
      exact ⟨rfl, hb2⟩
    | true =>
      have HB := Lib.hid hb
      have HV := Lib.hid (show tfits (.mk 19 n m ts) 5 = tall 4 ts by rw [tfits_s19, hb]; rfl)
      have HL := Lib.hid (show ts.length ≤ 1000000 by simp only [btw, Bool.and_eq_true, decide_eq_true_eq] at hb; omega)
      clear hb
      go_wp2_with (first
        | ((with_reducible refine' wpList_field_blk (j := 0) (.tmp 1) 25 0 rfl ?_ fo_node_0 ?_ rfl ?_); exact rfl; exact rfl; simp only [Act.put, List.setIfInBounds_toArray, List.set_cons_succ, List.set_cons_zero])
        | ((with_reducible refine' wpList_load_blk (.tmp 3) 3 rfl ?_ ld_int ?_ kA (X0.out) ?_); exact rfl; exact rfl; simp only [Act.put, List.setIfInBounds_toArray, List.set_cons_succ, List.set_cons_zero])
        | ((with_reducible refine' wpList_loadst_blk (.tmp 1) 25 rfl ?_ Tryd.underlying25 ?_ sz_node ?_ kA ?_ ?_ ?_); exact rfl; exact rfl; exact rfl; exact CL.out; decide; simp only [Act.put, List.setIfInBounds_toArray, List.set_cons_succ, List.set_cons_zero])
        | ((go_at_call 55; (with_reducible refine (between_any 19 n m ts 0 0 1 1 _ _ hT1).mono ?_); rintro e w' ⟨rfl, hN2⟩); rw [HB.out]; have kA2 := kA.below hN2 kA.lt; have hr2 := hr1.below hN2; have ht2 := Lib.hid (IsTs.below hN2 ht1.out); have hb2 := hN1.trans (hN2.mono hN1.size))
        | ((with_reducible refine' wpList_field_blk (j := 3) (.tmp 1) 25 3 rfl ?_ fo_node_3 ?_ rfl ?_); exact rfl; exact rfl; simp only [Act.put, List.setIfInBounds_toArray, List.set_cons_succ, List.set_cons_zero])
        | ((with_reducible refine' wpList_load_blk (.tmp 104) 23 rfl ?_ ld_nds ?_ kA2 (X3.out) ?_); exact rfl; exact rfl; simp only [Act.put, List.setIfInBounds_toArray, List.set_cons_succ, List.set_cons_zero])
        | ((go_at_call 101; (with_reducible refine (exprs_step ts (fun t _ => refexpr_any t) v xs _ hr2 ht2.out HL.out).mono ?_); rintro e w' ⟨rfl, hN3⟩)))
      go_ret
      rw [HV.out]
      exact ⟨rfl, hb2.trans (hN3.mono hb2.size)⟩
  by_cases k20 : k = 20
  · subst k20
    cases hb : btw n m ts.length 0 0 1 1 with
    | false =>
      have HB := Lib.hid hb
      have HV := Lib.hid (show tfits (.mk 20 n m ts) 5 = false by rw [tfits_s20, hb]; rfl)
      clear hb
      go_wp2_with (first
        | ((with_reducible refine' wpList_field_blk (j := 0) (.tmp 1) 25 0 rfl ?_ fo_node_0 ?_ rfl ?_); exact rfl; exact rfl; simp only [Act.put, List.setIfInBounds_toArray, List.set_cons_succ, List.set_cons_zero])
        | ((with_reducible refine' wpList_load_blk (.tmp 3) 3 rfl ?_ ld_int ?_ kA (X0.out) ?_); exact rfl; exact rfl; simp only [Act.put, List.setIfInBounds_toArray, List.set_cons_succ, List.set_cons_zero])
        | ((with_reducible refine' wpList_loadst_blk (.tmp 1) 25 rfl ?_ Tryd.underlying25 ?_ sz_node ?_ kA ?_ ?_ ?_); exact rfl; exact rfl; exact rfl; exact CL.out; decide; simp only [Act.put, List.setIfInBounds_toArray, List.set_cons_succ, List.set_cons_zero])
        | ((go_at_call 55; (with_reducible refine (between_any 20 n m ts 0 0 1 1 _ _ hT1).mono ?_); rintro e w' ⟨rfl, hN2⟩); rw [HB.out]; have kA2 := kA.below hN2 kA.lt; have hr2 := hr1.below hN2; have ht2 := Lib.hid (IsTs.below hN2 ht1.out); have hb2 := hN1.trans (hN2.mono hN1.size)))
      go_ret
      rw [HV.out]
      exact ⟨rfl, hb2⟩
    | true =>
      have HB := Lib.hid hb
      have HV := Lib.hid (show tfits (.mk 20 n m ts) 5 = tall 4 ts by rw [tfits_s20, hb]; rfl)
      have HL := Lib.hid (show ts.length ≤ 1000000 by simp only [btw, Bool.and_eq_true, decide_eq_true_eq] at hb; omega)
      clear hb
      go_wp2_with (first
        | ((with_reducible refine' wpList_field_blk (j := 0) (.tmp 1) 25 0 rfl ?_ fo_node_0 ?_ rfl ?_); exact rfl; exact rfl; simp only [Act.put, List.setIfInBounds_toArray, List.set_cons_succ, List.set_cons_zero])
        | ((with_reducible refine' wpList_load_blk (.tmp 3) 3 rfl ?_ ld_int ?_ kA (X0.out) ?_); exact rfl; exact rfl; simp only [Act.put, List.setIfInBounds_toArray, List.set_cons_succ, List.set_cons_zero])
        | ((with_reducible refine' wpList_loadst_blk (.tmp 1) 25 rfl ?_ Tryd.underlying25 ?_ sz_node ?_ kA ?_ ?_ ?_); exact rfl; exact rfl; exact rfl; exact CL.out; decide; simp only [Act.put, List.setIfInBounds_toArray, List.set_cons_succ, List.set_cons_zero])
        | ((go_at_call 55; (with_reducible refine (between_any 20 n m ts 0 0 1 1 _ _ hT1).mono ?_); rintro e w' ⟨rfl, hN2⟩); rw [HB.out]; have kA2 := kA.below hN2 kA.lt; have hr2 := hr1.below hN2; have ht2 := Lib.hid (IsTs.below hN2 ht1.out); have hb2 := hN1.trans (hN2.mono hN1.size))
        | ((with_reducible refine' wpList_field_blk (j := 3) (.tmp 1) 25 3 rfl ?_ fo_node_3 ?_ rfl ?_); exact rfl; exact rfl; simp only [Act.put, List.setIfInBounds_toArray, List.set_cons_succ, List.set_cons_zero])
        | ((with_reducible refine' wpList_load_blk (.tmp 104) 23 rfl ?_ ld_nds ?_ kA2 (X3.out) ?_); exact rfl; exact rfl; simp only [Act.put, List.setIfInBounds_toArray, List.set_cons_succ, List.set_cons_zero])
        | ((go_at_call 101; (with_reducible refine (exprs_step ts (fun t _ => refexpr_any t) v xs _ hr2 ht2.out HL.out).mono ?_); rintro e w' ⟨rfl, hN3⟩)))
      go_ret
      rw [HV.out]
      exact ⟨rfl, hb2.trans (hN3.mono hb2.size)⟩
  by_cases k24 : k = 24
  · subst k24
    cases hb : btw n m ts.length 0 0 1 1 with
    | false =>
      have HB := Lib.hid hb
      have HV := Lib.hid (show tfits (.mk 24 n m ts) 5 = false by rw [tfits_s24, hb]; rfl)
      clear hb
      go_wp2_with (first
        | ((with_reducible refine' wpList_field_blk (j := 0) (.tmp 1) 25 0 rfl ?_ fo_node_0 ?_ rfl ?_); exact rfl; exact rfl; simp only [Act.put, List.setIfInBounds_toArray, List.set_cons_succ, List.set_cons_zero])
        | ((with_reducible refine' wpList_load_blk (.tmp 3) 3 rfl ?_ ld_int ?_ kA (X0.out) ?_); exact rfl; exact rfl; simp only [Act.put, List.setIfInBounds_toArray, List.set_cons_succ, List.set_cons_zero])
        | ((with_reducible refine' wpList_loadst_blk (.tmp 1) 25 rfl ?_ Tryd.underlying25 ?_ sz_node ?_ kA ?_ ?_ ?_); exact rfl; exact rfl; exact rfl; exact CL.out; decide; simp only [Act.put, List.setIfInBounds_toArray, List.set_cons_succ, List.set_cons_zero])
        | ((go_at_call 55; (with_reducible refine (between_any 24 n m ts 0 0 1 1 _ _ hT1).mono ?_); rintro e w' ⟨rfl, hN2⟩); rw [HB.out]; have kA2 := kA.below hN2 kA.lt; have hr2 := hr1.below hN2; have ht2 := Lib.hid (IsTs.below hN2 ht1.out); have hb2 := hN1.trans (hN2.mono hN1.size)))
      go_ret
      rw [HV.out]
      exact ⟨rfl, hb2⟩
    | true =>
      have HB := Lib.hid hb
      have HV := Lib.hid (show tfits (.mk 24 n m ts) 5 = tall 4 ts by rw [tfits_s24, hb]; rfl)
      have HL := Lib.hid (show ts.length ≤ 1000000 by simp only [btw, Bool.and_eq_true, decide_eq_true_eq] at hb; omega)
      clear hb
      go_wp2_with (first
        | ((with_reducible refine' wpList_field_blk (j := 0) (.tmp 1) 25 0 rfl ?_ fo_node_0 ?_ rfl ?_); exact rfl; exact rfl; simp only [Act.put, List.setIfInBounds_toArray, List.set_cons_succ, List.set_cons_zero])
        | ((with_reducible refine' wpList_load_blk (.tmp 3) 3 rfl ?_ ld_int ?_ kA (X0.out) ?_); exact rfl; exact rfl; simp only [Act.put, List.setIfInBounds_toArray, List.set_cons_succ, List.set_cons_zero])
        | ((with_reducible refine' wpList_loadst_blk (.tmp 1) 25 rfl ?_ Tryd.underlying25 ?_ sz_node ?_ kA ?_ ?_ ?_); exact rfl; exact rfl; exact rfl; exact CL.out; decide; simp only [Act.put, List.setIfInBounds_toArray, List.set_cons_succ, List.set_cons_zero])
        | ((go_at_call 55; (with_reducible refine (between_any 24 n m ts 0 0 1 1 _ _ hT1).mono ?_); rintro e w' ⟨rfl, hN2⟩); rw [HB.out]; have kA2 := kA.below hN2 kA.lt; have hr2 := hr1.below hN2; have ht2 := Lib.hid (IsTs.below hN2 ht1.out); have hb2 := hN1.trans (hN2.mono hN1.size))
        | ((with_reducible refine' wpList_field_blk (j := 3) (.tmp 1) 25 3 rfl ?_ fo_node_3 ?_ rfl ?_); exact rfl; exact rfl; simp only [Act.put, List.setIfInBounds_toArray, List.set_cons_succ, List.set_cons_zero])
        | ((with_reducible refine' wpList_load_blk (.tmp 104) 23 rfl ?_ ld_nds ?_ kA2 (X3.out) ?_); exact rfl; exact rfl; simp only [Act.put, List.setIfInBounds_toArray, List.set_cons_succ, List.set_cons_zero])
        | ((go_at_call 101; (with_reducible refine (exprs_step ts (fun t _ => refexpr_any t) v xs _ hr2 ht2.out HL.out).mono ?_); rintro e w' ⟨rfl, hN3⟩)))
      go_ret
      rw [HV.out]
      exact ⟨rfl, hb2.trans (hN3.mono hb2.size)⟩
  by_cases k22 : k = 22
  · subst k22
    cases hb : btw n m ts.length 2 0 1 1 with
    | false =>
      have HB := Lib.hid hb
      have HV := Lib.hid (show tfits (.mk 22 n m ts) 5 = false by rw [tfits_s22, hb]; rfl)
      clear hb
      go_wp2_with (first
        | ((with_reducible refine' wpList_field_blk (j := 0) (.tmp 1) 25 0 rfl ?_ fo_node_0 ?_ rfl ?_); exact rfl; exact rfl; simp only [Act.put, List.setIfInBounds_toArray, List.set_cons_succ, List.set_cons_zero])
        | ((with_reducible refine' wpList_load_blk (.tmp 3) 3 rfl ?_ ld_int ?_ kA (X0.out) ?_); exact rfl; exact rfl; simp only [Act.put, List.setIfInBounds_toArray, List.set_cons_succ, List.set_cons_zero])
        | ((with_reducible refine' wpList_loadst_blk (.tmp 1) 25 rfl ?_ Tryd.underlying25 ?_ sz_node ?_ kA ?_ ?_ ?_); exact rfl; exact rfl; exact rfl; exact CL.out; decide; simp only [Act.put, List.setIfInBounds_toArray, List.set_cons_succ, List.set_cons_zero])
        | ((go_at_call 55; (with_reducible refine (between_any 22 n m ts 2 0 1 1 _ _ hT1).mono ?_); rintro e w' ⟨rfl, hN2⟩); rw [HB.out]; have kA2 := kA.below hN2 kA.lt; have hr2 := hr1.below hN2; have ht2 := Lib.hid (IsTs.below hN2 ht1.out); have hb2 := hN1.trans (hN2.mono hN1.size)))
      go_ret
      rw [HV.out]
      exact ⟨rfl, hb2⟩
    | true =>
      have HB := Lib.hid hb
      have HV := Lib.hid (show tfits (.mk 22 n m ts) 5 = tall 4 ts by rw [tfits_s22, hb]; rfl)
      have HL := Lib.hid (show ts.length ≤ 1000000 by simp only [btw, Bool.and_eq_true, decide_eq_true_eq] at hb; omega)
      clear hb
      go_wp2_with (first
        | ((with_reducible refine' wpList_field_blk (j := 0) (.tmp 1) 25 0 rfl ?_ fo_node_0 ?_ rfl ?_); exact rfl; exact rfl; simp only [Act.put, List.setIfInBounds_toArray, List.set_cons_succ, List.set_cons_zero])
        | ((with_reducible refine' wpList_load_blk (.tmp 3) 3 rfl ?_ ld_int ?_ kA (X0.out) ?_); exact rfl; exact rfl; simp only [Act.put, List.setIfInBounds_toArray, List.set_cons_succ, List.set_cons_zero])
        | ((with_reducible refine' wpList_loadst_blk (.tmp 1) 25 rfl ?_ Tryd.underlying25 ?_ sz_node ?_ kA ?_ ?_ ?_); exact rfl; exact rfl; exact rfl; exact CL.out; decide; simp only [Act.put, List.setIfInBounds_toArray, List.set_cons_succ, List.set_cons_zero])
        | ((go_at_call 55; (with_reducible refine (between_any 22 n m ts 2 0 1 1 _ _ hT1).mono ?_); rintro e w' ⟨rfl, hN2⟩); rw [HB.out]; have kA2 := kA.below hN2 kA.lt; have hr2 := hr1.below hN2; have ht2 := Lib.hid (IsTs.below hN2 ht1.out); have hb2 := hN1.trans (hN2.mono hN1.size))
        | ((with_reducible refine' wpList_field_blk (j := 3) (.tmp 1) 25 3 rfl ?_ fo_node_3 ?_ rfl ?_); exact rfl; exact rfl; simp only [Act.put, List.setIfInBounds_toArray, List.set_cons_succ, List.set_cons_zero])
        | ((with_reducible refine' wpList_load_blk (.tmp 113) 23 rfl ?_ ld_nds ?_ kA2 (X3.out) ?_); exact rfl; exact rfl; simp only [Act.put, List.setIfInBounds_toArray, List.set_cons_succ, List.set_cons_zero])
        | ((go_at_call 101; (with_reducible refine (exprs_step ts (fun t _ => refexpr_any t) v xs _ hr2 ht2.out HL.out).mono ?_); rintro e w' ⟨rfl, hN3⟩)))
      go_ret
      rw [HV.out]
      exact ⟨rfl, hb2.trans (hN3.mono hb2.size)⟩
  by_cases k23 : k = 23
  · subst k23
    cases hb : btw n m ts.length 5 0 0 3 with
    | false =>
      have HB := Lib.hid hb
      have HV := Lib.hid (show tfits (.mk 23 n m ts) 5 = false by rw [tfits_s23, hb]; rfl)
      clear hb
      go_wp2_with (first
        | ((with_reducible refine' wpList_field_blk (j := 0) (.tmp 1) 25 0 rfl ?_ fo_node_0 ?_ rfl ?_); exact rfl; exact rfl; simp only [Act.put, List.setIfInBounds_toArray, List.set_cons_succ, List.set_cons_zero])
        | ((with_reducible refine' wpList_load_blk (.tmp 3) 3 rfl ?_ ld_int ?_ kA (X0.out) ?_); exact rfl; exact rfl; simp only [Act.put, List.setIfInBounds_toArray, List.set_cons_succ, List.set_cons_zero])
        | ((with_reducible refine' wpList_loadst_blk (.tmp 1) 25 rfl ?_ Tryd.underlying25 ?_ sz_node ?_ kA ?_ ?_ ?_); exact rfl; exact rfl; exact rfl; exact CL.out; decide; simp only [Act.put, List.setIfInBounds_toArray, List.set_cons_succ, List.set_cons_zero])
        | ((go_at_call 55; (with_reducible refine (between_any 23 n m ts 5 0 0 3 _ _ hT1).mono ?_); rintro e w' ⟨rfl, hN2⟩); rw [HB.out]; have kA2 := kA.below hN2 kA.lt; have hr2 := hr1.below hN2; have ht2 := Lib.hid (IsTs.below hN2 ht1.out); have hb2 := hN1.trans (hN2.mono hN1.size)))
      go_ret
      rw [HV.out]
      exact ⟨rfl, hb2⟩
    | true =>
      have HB := Lib.hid hb
      have HV := Lib.hid (show tfits (.mk 23 n m ts) 5 = tall 4 ts by rw [tfits_s23, hb]; rfl)
      have HL := Lib.hid (show ts.length ≤ 1000000 by simp only [btw, Bool.and_eq_true, decide_eq_true_eq] at hb; omega)
      clear hb
      go_wp2_with (first
        | ((with_reducible refine' wpList_field_blk (j := 0) (.tmp 1) 25 0 rfl ?_ fo_node_0 ?_ rfl ?_); exact rfl; exact rfl; simp only [Act.put, List.setIfInBounds_toArray, List.set_cons_succ, List.set_cons_zero])
        | ((with_reducible refine' wpList_load_blk (.tmp 3) 3 rfl ?_ ld_int ?_ kA (X0.out) ?_); exact rfl; exact rfl; simp only [Act.put, List.setIfInBounds_toArray, List.set_cons_succ, List.set_cons_zero])
        | ((with_reducible refine' wpList_loadst_blk (.tmp 1) 25 rfl ?_ Tryd.underlying25 ?_ sz_node ?_ kA ?_ ?_ ?_); exact rfl; exact rfl; exact rfl; exact CL.out; decide; simp only [Act.put, List.setIfInBounds_toArray, List.set_cons_succ, List.set_cons_zero])
        | ((go_at_call 55; (with_reducible refine (between_any 23 n m ts 5 0 0 3 _ _ hT1).mono ?_); rintro e w' ⟨rfl, hN2⟩); rw [HB.out]; have kA2 := kA.below hN2 kA.lt; have hr2 := hr1.below hN2; have ht2 := Lib.hid (IsTs.below hN2 ht1.out); have hb2 := hN1.trans (hN2.mono hN1.size))
        | ((with_reducible refine' wpList_field_blk (j := 3) (.tmp 1) 25 3 rfl ?_ fo_node_3 ?_ rfl ?_); exact rfl; exact rfl; simp only [Act.put, List.setIfInBounds_toArray, List.set_cons_succ, List.set_cons_zero])
        | ((with_reducible refine' wpList_load_blk (.tmp 122) 23 rfl ?_ ld_nds ?_ kA2 (X3.out) ?_); exact rfl; exact rfl; simp only [Act.put, List.setIfInBounds_toArray, List.set_cons_succ, List.set_cons_zero])
        | ((go_at_call 101; (with_reducible refine (exprs_step ts (fun t _ => refexpr_any t) v xs _ hr2 ht2.out HL.out).mono ?_); rintro e w' ⟨rfl, hN3⟩)))
      go_ret
      rw [HV.out]
      exact ⟨rfl, hb2.trans (hN3.mono hb2.size)⟩
  by_cases k25 : k = 25
  · subst k25
    have HV := Lib.hid (tfits_s25 n m ts)
    obtain ⟨bv, hbv⟩ : ∃ bv, btw n m ts.length 0 0 0 0 = bv := ⟨_, rfl⟩
    have HB := Lib.hid hbv
    clear hbv
    go_wp2_with (first
        | ((with_reducible refine' wpList_field_blk (j := 0) (.tmp 1) 25 0 rfl ?_ fo_node_0 ?_ rfl ?_); exact rfl; exact rfl; simp only [Act.put, List.setIfInBounds_toArray, List.set_cons_succ, List.set_cons_zero])
        | ((with_reducible refine' wpList_load_blk (.tmp 3) 3 rfl ?_ ld_int ?_ kA (X0.out) ?_); exact rfl; exact rfl; simp only [Act.put, List.setIfInBounds_toArray, List.set_cons_succ, List.set_cons_zero])
        | ((with_reducible refine' wpList_loadst_blk (.tmp 1) 25 rfl ?_ Tryd.underlying25 ?_ sz_node ?_ kA ?_ ?_ ?_); exact rfl; exact rfl; exact rfl; exact CL.out; decide; simp only [Act.put, List.setIfInBounds_toArray, List.set_cons_succ, List.set_cons_zero])
        | ((go_at_call 55; (with_reducible refine (between_any 25 n m ts 0 0 0 0 _ _ hT1).mono ?_); rintro e w' ⟨rfl, hN2⟩); rw [HB.out]; have kA2 := kA.below hN2 kA.lt; have hr2 := hr1.below hN2; have ht2 := Lib.hid (IsTs.below hN2 ht1.out); have hb2 := hN1.trans (hN2.mono hN1.size))
        | ((with_reducible refine' wpList_load_blk (.tmp 126) 3 rfl ?_ ld_int ?_ kA (X0.out) ?_); exact rfl; exact rfl; simp only [Act.put, List.setIfInBounds_toArray, List.set_cons_succ, List.set_cons_zero]))
    go_ret
    rw [HV.out, HB.out]
    exact ⟨rfl, hb2⟩
  have HV := Lib.hid (show tfits (.mk k n m ts) 5 = false from
    kind_cases (P := fun k => k ≠ 13 → k ≠ 14 → k ≠ 15 → k ≠ 16 → k ≠ 17 → k ≠ 18 → k ≠ 19 → k ≠ 20 → k ≠ 21 → k ≠ 22 → k ≠ 23 → k ≠ 24 → k ≠ 25 → tfits (.mk k n m ts) 5 = false)
      (fun i hi _ _ _ _ _ _ _ _ _ _ _ _ _ => fIs_only (P := fun j => 13 ≤ j ∧ j ≤ 25) (by decide) hi (by omega) n m ts)
      (fun k hk _ _ _ _ _ _ _ _ _ _ _ _ _ => tfits_out 5 hk) k k13 k14 k15 k16 k17 k18 k19 k20 k21 k22 k23 k24 k25)
  have q13 : decide (k = 13) = false := decide_eq_false k13
  have p13 : (k == 13) = false := by rw [beq_eq_false_iff_ne]; exact k13
  have q14 : decide (k = 14) = false := decide_eq_false k14
  have p14 : (k == 14) = false := by rw [beq_eq_false_iff_ne]; exact k14
  have q15 : decide (k = 15) = false := decide_eq_false k15
  have p15 : (k == 15) = false := by rw [beq_eq_false_iff_ne]; exact k15
  have q16 : decide (k = 16) = false := decide_eq_false k16
  have p16 : (k == 16) = false := by rw [beq_eq_false_iff_ne]; exact k16
  have q17 : decide (k = 17) = false := decide_eq_false k17
  have p17 : (k == 17) = false := by rw [beq_eq_false_iff_ne]; exact k17
  have q18 : decide (k = 18) = false := decide_eq_false k18
  have p18 : (k == 18) = false := by rw [beq_eq_false_iff_ne]; exact k18
  have q19 : decide (k = 19) = false := decide_eq_false k19
  have p19 : (k == 19) = false := by rw [beq_eq_false_iff_ne]; exact k19
  have q20 : decide (k = 20) = false := decide_eq_false k20
  have p20 : (k == 20) = false := by rw [beq_eq_false_iff_ne]; exact k20
  have q21 : decide (k = 21) = false := decide_eq_false k21
  have p21 : (k == 21) = false := by rw [beq_eq_false_iff_ne]; exact k21
  have q22 : decide (k = 22) = false := decide_eq_false k22
  have p22 : (k == 22) = false := by rw [beq_eq_false_iff_ne]; exact k22
  have q23 : decide (k = 23) = false := decide_eq_false k23
  have p23 : (k == 23) = false := by rw [beq_eq_false_iff_ne]; exact k23
  have q24 : decide (k = 24) = false := decide_eq_false k24
  have p24 : (k == 24) = false := by rw [beq_eq_false_iff_ne]; exact k24
  have q25 : decide (k = 25) = false := decide_eq_false k25
  have p25 : (k == 25) = false := by rw [beq_eq_false_iff_ne]; exact k25
  clear k13 k14 k15 k16 k17 k18 k19 k20 k21 k22 k23 k24 k25
  go_wp2_with (first | ((with_reducible refine' wpList_field_blk (j := 0) (.tmp 1) 25 0 rfl ?_ fo_node_0 ?_ rfl ?_); exact rfl; exact rfl; simp only [Act.put, List.setIfInBounds_toArray, List.set_cons_succ, List.set_cons_zero]) | ((with_reducible refine' wpList_load_blk (.tmp 3) 3 rfl ?_ ld_int ?_ kA (X0.out) ?_); exact rfl; exact rfl; simp only [Act.put, List.setIfInBounds_toArray, List.set_cons_succ, List.set_cons_zero]) | ((with_reducible refine' wpList_load_blk (.tmp 126) 3 rfl ?_ ld_int ?_ kA (X0.out) ?_); exact rfl; exact rfl; simp only [Act.put, List.setIfInBounds_toArray, List.set_cons_succ, List.set_cons_zero]))
  go_ret
  rw [HV.out]
  exact ⟨rfl, hN1⟩
theorem block_stmt : ∀ t : Tree, BlockC t ∧ StmtC t := by
  refine Tree.ind fun k n m ts ih => ?_
  have hb := block_step k n m ts fun t ht => (ih t ht).2
  exact ⟨hb, refstmt_step k n m ts hb fun t ht => (ih t ht).1⟩
theorem block_any (t : Tree) (cs : List Value) (w : World) (hT : IsT w t cs) :
    Calls Tryd.prog 78 #[.agg cs.toArray] w fun e w' => e = .returned (.bool (tfits t 6)) ∧ Below w.heap.size w w' := (block_stmt t).1 cs w hT
end Go.Proofs.YtdlhkhnoigbhjaaDoor.Wi
