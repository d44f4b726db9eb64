/-
  Tge, Tgx, Tgb, Tdw, Tgs: my texts of these names, one behind the other. Conditions: those that each law names.
-/
import Derived.Test.YtdlhkhnoigbhjaaDoorMi
import Derived.Test.YtdlhkhnoigbhjaaDoorMe
import Derived.Test.YtdlhkhnoigbhjaaDoorMd
namespace Go.Proofs.YtdlhkhnoigbhjaaDoor.Wi
open Go Go.RowKit Pu Lb
set_option linter.unusedSimpArgs false
set_option linter.unusedVariables false
theorem num_ex (w0 : World) (B : Nat) (l : List Int) (a : Nat) (left n : Int) (w : World) (hM : Mk w0 w B l a left) (hl : ∀ x ∈ l, I64 x) (ha : a ≤ 1000000000) (h0 : 0 < n) (hn : I64 n) :
    Calls Tryd.prog 47 #[.pointer (some ⟨B, 0, none⟩), .int .i64 n] w fun e w' => ∃ x, e = .returned (.int .i64 x) ∧ 0 ≤ x ∧ x < n ∧ Mk w0 w' B l (a + 1) left ∧ Only B w w' := by
  refine (num_any w0 B l a left n w hM hl ha h0 hn).mono ?_
  rintro e w' ⟨rfl, h1, h2⟩
  have := atV_bd l (a : Int) h0
  exact ⟨_, rfl, this.1, this.2, h1, h2⟩
/-- a tree made by a generator that stood at (a, L) -/
def MadeE (w0 w : World) (B : Nat) (l : List Int) (s : Int) (ov dm a : Nat) (L : Int) (e : Ending) (w' : World) : Prop :=
  ∃ t cs a' L', e = .returned (.agg cs.toArray) ∧ IsTX (fun b => w.heap.size ≤ b) w' t cs ∧ Mk w0 w' B l a' L' ∧ Only B w w' ∧ tfits t s = true ∧ Ran ov dm a L a' L' (tsize t) (tdepth t)
def MadeL (w0 w : World) (B : Nat) (l : List Int) (s : Int) (n ov dm a : Nat) (L : Int) (e : Ending) (w' : World) : Prop :=
  ∃ v ts xs a' L', e = .returned v ∧ ts.length = n ∧ w'.ownsRow w.heap.size 25 4 v n xs ∧ IsTsX (fun b => w.heap.size ≤ b ∧ v.ownBlock ≠ some b) w' ts xs ∧ Mk w0 w' B l a' L' ∧ Only B w w' ∧ (∀ t ∈ ts, tfits t s = true) ∧ Ran (n * ov) dm a L a' L' (tsizes ts) (tdepths ts)
set_option maxRecDepth 100000 in
theorem some_of (l : List Int) (w0 : World) (B : Nat) (D : Int) (ov dm : Nat) (hov : ov ≤ 1000)
    (EX : ∀ (a : Nat) (L : Int) (w : World), (a : Int) + 3 * L ≤ 10000 → -10000 + (ov : Int) ≤ L → L ≤ 1000 → Mk w0 w B l a L → Calls Tryd.prog 92 #[.pointer (some ⟨B, 0, none⟩), .int .i64 D] w fun e w' => MadeE w0 w B l 4 ov dm a L e w')
    (n : Nat) (hn : n ≤ 3) (a : Nat) (L : Int) (w : World) (h1 : (a : Int) + 3 * L ≤ 10000) (h2 : -10000 + (n * ov : Int) ≤ L) (h3 : L ≤ 1000) (hM : Mk w0 w B l a L) :
    Calls Tryd.prog 91 #[.pointer (some ⟨B, 0, none⟩), .int .i64 (n : Int), .int .i64 D] w fun e w' => MadeL w0 w B l 4 n ov dm a L e w' := by
  have EX' := Lib.hid EX
  clear EX
  have lB : B < w.heap.size := by obtain ⟨lv, h, _⟩ := hM; exact h.lt
  have hBw : w0.heap.size ≤ w.heap.size := by obtain ⟨lv, _, _, _, h⟩ := hM; exact h.size
  go_enter Tryd.func91, Tryd.ntmps91
  go_upto_region 3 with fail
  go_loopw [7, 8] (fun v0 i wr => ∃ (v : Value) (j a' : Nat) (ts : List Tree) (L' : Int) (xs : List Value), v = v0 ∧ i = .int .i64 (j : Int) ∧ ts.length = j ∧ j ≤ n ∧ wr.ownsRow w.heap.size 25 4 v j xs ∧ Hid (IsTsX (fun b => w.heap.size ≤ b ∧ v.ownBlock ≠ some b) wr ts xs) ∧ Mk w0 wr B l a' L' ∧ Only B w wr ∧ Hid (∀ t ∈ ts, tfits t 4 = true) ∧ Ran (j * ov) dm a L a' L' (tsizes ts) (tdepths ts)) (fun _ i _ => n - (intOf i).toNat)
  case atStart => exact ⟨_, 0, a, [], L, [], rfl, rfl, rfl, Nat.zero_le _, World.ownsRow_nil _ _ _ _, Lib.hid IsTsX.nil, hM, Only.refl _ _, Lib.hid (by intro t ht; cases ht), by unfold Ran; rw [tsizes, tdepths]; omega⟩
  case round =>
    obtain ⟨v, j, a', ts, L', xs, rfl, rfl, hts, hj, hown, HT, hMo, hO, HF, hR⟩ := hrel
    obtain ⟨wo, rfl⟩ : ∃ wo : World, wo = wr := ⟨_, rfl⟩
    by_cases hlt : j < n
    · have hR' := Lib.hid hR
      unfold Ran at hR
      have hjn : j * ov + ov ≤ n * ov := by rw [← Nat.succ_mul]; exact Nat.mul_le_mul_right _ hlt
      obtain ⟨jo, hjo⟩ : ∃ jo, j * ov = jo := ⟨_, rfl⟩
      obtain ⟨no, hno⟩ : ∃ no, n * ov = no := ⟨_, rfl⟩
      have h2' : -10000 + (no : Int) ≤ L := by rw [← hno]; push_cast; exact h2
      rw [hjo] at hR hjn
      rw [hno] at hjn
      have vB : v.ownBlock ≠ some B := own_ne hown lB
      have hno3 : no ≤ 3000 := by rw [← hno]; exact (Nat.mul_le_mul hn hov)
      have Q1 := Lib.hid (show (a' : Int) + 3 * L' ≤ 10000 by omega)
      have Q2 := Lib.hid (show -10000 + (ov : Int) ≤ L' by omega)
      have Q3 := Lib.hid (show L' ≤ 1000 by omega)
      clear hR h2'
      go_wp2_with (first
        | ((go_at_call 92; (with_reducible refine (EX'.out _ _ _ Q1.out Q2.out Q3.out hMo).mono ?_); rintro e w' ⟨t1, cs1, a1, L1, rfl, hT1, hM1, hO1, hf1, hR1⟩); have CL := Lib.hid hT1.len; have CO := Lib.hid hT1.isT.ones; have o10 := own_only hown hO1 vB)
        | (((with_reducible refine' wpList_build_sts (css := [cs1]) rfl ?_ Tryd.underlying23 inf_node ?_ ?_ ?_ ?_ ?_ ?_); exact rfl; exact rfl; (first | omega | decide); (first | omega | decide); exact rfl; (intro c hc; simp at hc; subst hc; exact CL.out); intro w11 k11 hN11 hz11; simp only [Act.put, List.setIfInBounds_toArray, List.set_cons_succ, List.set_cons_zero]); rw [show [cs1].flatten = cs1 by simp] at k11; have o11 := own_below o10 hN11; have r11 := k11.rdall 1 4 CL.out (by unfold maxLen; omega); have sz11 := hO1.size; have sz12 := hN11.size; have szw := hO.size)
        | (((with_reducible refine' wpList_append_at (.tmp 14) (.tmp 18) 23 rfl ?_ Tryd.underlying23 inf_node ?_ ?_ ?_ o11 ?_ r11 CO.out ?_ ?_ (by omega) ?_); exact rfl; exact rfl; omega; exact rfl; exact rfl; (first | omega | (unfold maxLen; omega)); omega; intro v' w12 o12 hg12 hst; simp only [Act.put, List.setIfInBounds_toArray, List.set_cons_succ, List.set_cons_zero])))
      have HT12 := Lib.hid (kids_next hown HT.out hO1 hT1 hN11 hg12 hst (fun b h => by omega) (fun b h => by omega))
      have hM12 := (hM1.below hN11).grown hg12 (fun e => vB e.symm) (fun b hb => by have := (hown.lt b hb).1; omega)
      have hO12 := (hO.trans' hO1 |>.belows hN11).past hg12 (fun b hb => by have := (hown.lt b hb).1; omega)
      have HF12 := Lib.hid (show ∀ t ∈ ts ++ [t1], tfits t 4 = true from fun t ht => by
        rcases List.mem_append.1 ht with ht | ht
        · exact HF.out t ht
        · obtain rfl := List.mem_singleton.1 ht; exact hf1)
      have hR12 : Ran ((j + 1) * ov) dm a L a1 L1 (tsizes (ts ++ [t1])) (tdepths (ts ++ [t1])) := by
        have h1 := hR'.out
        unfold Ran at h1 hR1 ⊢
        rw [Nat.succ_mul, tsizes_snoc, tdepths_snoc]
        omega
      clear HT hM1 hO1 o10 o11 r11 k11 hT1 hown hN11 hg12 hst hO hMo HF
      go_wp2_with fail
      go_roundw
      case rel => (first | exact ⟨v', j + 1, a1, ts ++ [t1], L1, xs ++ cs1, rfl, by go_num, by simp [hts], by omega, o12, HT12, hM12, hO12, HF12, hR12⟩ | ((repeat apply Exists.intro); exact ⟨⟨v', j + 1, a1, ts ++ [t1], L1, xs ++ cs1, rfl, by go_num, by simp [hts], by omega, o12, HT12, hM12, hO12, HF12, hR12⟩, rfl⟩))
      case measure => simp [intOf]; omega
    · obtain rfl : j = n := by omega
      have h7 := Lib.hid (show True from trivial)
      go_wp2_with fail
      go_ret
      exact ⟨v, ts, xs, a', L', rfl, hts, hown, HT.out, hMo, hO, HF.out, hR⟩
end Go.Proofs.YtdlhkhnoigbhjaaDoor.Wi
namespace Go.Proofs.YtdlhkhnoigbhjaaDoor.Wi
open Go Go.RowKit Pu Lb
set_option linter.unusedSimpArgs false
set_option linter.unusedVariables false
theorem own_sl {w : World} {base : Nat} {e : TypeId} {s : Nat} {v : Value} {n : Nat} {xs : List Value} (h : w.ownsRow base e s v n xs) : ∃ a m c, v = .slice a m c := by
  rcases h.2 with ⟨rfl, _⟩ | ⟨g, cap, cur, rfl, _⟩
  · exact ⟨_, _, _, rfl⟩
  · exact ⟨_, _, _, rfl⟩
set_option maxRecDepth 100000 in
set_option maxHeartbeats 1600000 in
theorem expr_step (l : List Int) (hl : ∀ x ∈ l, I64 x) (w0 : World) (B : Nat) (d : Nat) (hd : d ≤ 5)
    (SM : 0 < d → ∀ (n : Nat), n ≤ 3 → ∀ (a : Nat) (L : Int) (w : World), (a : Int) + 3 * L ≤ 10000 → -10000 + (n * eov (d - 1) : Int) ≤ L → L ≤ 1000 → Mk w0 w B l a L →
      Calls Tryd.prog 91 #[.pointer (some ⟨B, 0, none⟩), .int .i64 (n : Int), .int .i64 ((d : Int) - 1)] w fun e w' => MadeL w0 w B l 4 n (eov (d - 1)) d a L e w')
    (a : Nat) (L : Int) (w : World) (h1 : (a : Int) + 3 * L ≤ 10000) (h2 : -10000 + (eov d : Int) ≤ L) (h3 : L ≤ 1000) (hM : Mk w0 w B l a L) :
    Calls Tryd.prog 92 #[.pointer (some ⟨B, 0, none⟩), .int .i64 (d : Int)] w fun e w' => MadeE w0 w B l 4 (eov d) (d + 1) a L e w' := by
  have HL := Lib.hid hl
  have SM' := Lib.hid SM
  have SM1 := Lib.hid (show 0 < d → _ from fun h => SM h 1 (by omega))
  have SM2 := Lib.hid (show 0 < d → _ from fun h => SM h 2 (by omega))
  rw [show ((1 : Nat) : Int) = 1 from rfl] at SM1
  rw [show ((2 : Nat) : Int) = 2 from rfl] at SM2
  clear hl SM
  have lB : B < w.heap.size := by obtain ⟨lv, h, _⟩ := hM; exact h.lt
  have hBw : w0.heap.size ≤ w.heap.size := by obtain ⟨lv, _, _, _, h⟩ := hM; exact h.size
  have hB0 : w0.heap.size ≤ B := by obtain ⟨lv, _, _, h, _⟩ := hM; exact h
  have ev := eov_pos d
  have ev2 : 0 < d → eov d = 3 * eov (d - 1) + 1 := fun h => by
    obtain ⟨d', rfl⟩ : ∃ d', d = d' + 1 := ⟨d - 1, by omega⟩
    rw [eov]; rfl
  obtain ⟨o1, ho1⟩ : ∃ o1, eov d = o1 := ⟨_, rfl⟩
  obtain ⟨o2, ho2⟩ : ∃ o2, eov (d - 1) = o2 := ⟨_, rfl⟩
  have ev3 := eov_pos (d - 1)
  rw [ho1] at h2 ev ev2
  rw [ho2] at ev2 ev3
  have HO1 := Lib.hid ho1
  rw [ho2] at SM' SM1 SM2
  clear ho1 ho2
  go_enter Tryd.func92, Tryd.ntmps92
  go_upto_region 1 with (((with_reducible refine' wpList_alloc_blk (cs := nodz) 25 rfl ?_ zr_node ?_ ?_); exact rfl; exact nodz_cells; intro w1 kR hN1 hz1; simp only [Act.put, List.setIfInBounds_toArray, List.set_cons_succ, List.set_cons_zero]))
  obtain ⟨R, hR⟩ : ∃ R, w.heap.size = R := ⟨_, rfl⟩
  rw [hR] at kR ⊢
  have hRB : R ≠ B := by omega
  replace hM := hM.below hN1
  have hO : Only B w w1 := (Only.refl B w).belows hN1
  have lR := kR.lt
  clear hN1 hz1
  go_upto_region 2 with (first
    | ((go_at_call 47; (with_reducible refine (num_ex w0 B l _ _ _ _ hM HL.out (by omega) (by omega) (by unfold I64; omega)).mono ?_); rintro e w' ⟨x0, rfl, hxa, hxb, hM2, hO2⟩); replace hM := hM2; replace hO := hO.trans' hO2; replace kR := hO2.blk kR hRB; clear hM2 hO2)
    )
  obtain ⟨lv, hB, hr, hB0', hb0⟩ := hM
  have X1 := Lib.hid (show ([lv, .int .i64 ((a + 1 : Nat) : Int), .int .i64 L] : List Value)[2]? = some (.int .i64 L) from rfl)
  have LN := Lib.hid (show 2 < ([lv, .int .i64 ((a + 1 : Nat) : Int), .int .i64 L] : List Value).length by simp)
  go_upto_region 3 with (first
    | (((with_reducible refine' wpList_field_blk (j := 2) (.tmp 9) 66 2 rfl ?_ fo_mk_2 ?_ rfl ?_); exact rfl; exact rfl; simp only [Act.put, List.setIfInBounds_toArray, List.set_cons_succ, List.set_cons_zero])) | (((with_reducible refine' wpList_field_blk (j := 2) (.tmp 13) 66 2 rfl ?_ fo_mk_2 ?_ rfl ?_); exact rfl; exact rfl; simp only [Act.put, List.setIfInBounds_toArray, List.set_cons_succ, List.set_cons_zero])) | ((with_reducible refine' wpList_load_blk (.tmp 10) 3 rfl ?_ ld_int ?_ hB (X1.out) ?_); exact rfl; exact rfl; simp only [Act.put, List.setIfInBounds_toArray, List.set_cons_succ, List.set_cons_zero])
    | (((with_reducible refine' wpList_set_blk (u := .int .i64 (L - 1)) 3 (.tmp 14) (.tmp 12) rfl ?_ sz_int ?_ ?_ hB (LN.out) ?_ ?_); exact rfl; exact rfl; exact rfl; exact rfl; intro w2 k2 hO2 hz2; simp only [Act.put])))
  have X2 := Lib.hid (show ([lv, .int .i64 ((a + 1 : Nat) : Int), .int .i64 (L - 1)] : List Value)[2]? = some (.int .i64 (L - 1)) from rfl)
  replace kR := hO2.blk kR hRB
  replace hO := hO.trans' hO2
  have hM : Mk w0 w2 B l (a + 1) (L - 1) := ⟨lv, k2, hr, hB0, hb0.trans (hO2.below hB0 hb0.size)⟩
  clear hB hr hb0 hO2 hz2 X1 LN
  go_cut [23] from 15 to 23 (fun v wr => v = .bool (decide ((d : Int) ≤ 0 ∨ L - 1 ≤ 0)) ∧ w2 = wr)
  case first =>
    by_cases c1 : (d : Int) ≤ 0
    · have e1 : decide ((d : Int) ≤ 0 ∨ L - 1 ≤ 0) = true := decide_eq_true (.inl c1)
      obtain rfl : d = 0 := by omega
      clear c1
      go_wp2_with (first | (((with_reducible refine' wpList_field_blk (j := 2) (.tmp 19) 66 2 rfl ?_ fo_mk_2 ?_ rfl ?_); exact rfl; exact rfl; simp only [Act.put, List.setIfInBounds_toArray, List.set_cons_succ, List.set_cons_zero])) | ((with_reducible refine' wpList_load_blk (.tmp 20) 3 rfl ?_ ld_int ?_ k2 (X2.out) ?_); exact rfl; exact rfl; simp only [Act.put, List.setIfInBounds_toArray, List.set_cons_succ, List.set_cons_zero]))
      go_meet
      case rel => (first | exact ⟨by rw [e1], rfl⟩ | ((repeat apply Exists.intro); exact ⟨⟨by rw [e1], rfl⟩, rfl⟩))
    · by_cases c2 : L - 1 ≤ 0
      · have e1 : decide ((d : Int) ≤ 0 ∨ L - 1 ≤ 0) = true := decide_eq_true (.inr c2)
        go_wp2_with (first | (((with_reducible refine' wpList_field_blk (j := 2) (.tmp 19) 66 2 rfl ?_ fo_mk_2 ?_ rfl ?_); exact rfl; exact rfl; simp only [Act.put, List.setIfInBounds_toArray, List.set_cons_succ, List.set_cons_zero])) | ((with_reducible refine' wpList_load_blk (.tmp 20) 3 rfl ?_ ld_int ?_ k2 (X2.out) ?_); exact rfl; exact rfl; simp only [Act.put, List.setIfInBounds_toArray, List.set_cons_succ, List.set_cons_zero]))
        go_meet
        case rel => (first | exact ⟨by rw [e1], rfl⟩ | ((repeat apply Exists.intro); exact ⟨⟨by rw [e1], rfl⟩, rfl⟩))
      · have e1 : decide ((d : Int) ≤ 0 ∨ L - 1 ≤ 0) = false := decide_eq_false (fun h => h.elim c1 c2)
        go_wp2_with (first | (((with_reducible refine' wpList_field_blk (j := 2) (.tmp 19) 66 2 rfl ?_ fo_mk_2 ?_ rfl ?_); exact rfl; exact rfl; simp only [Act.put, List.setIfInBounds_toArray, List.set_cons_succ, List.set_cons_zero])) | ((with_reducible refine' wpList_load_blk (.tmp 20) 3 rfl ?_ ld_int ?_ k2 (X2.out) ?_); exact rfl; exact rfl; simp only [Act.put, List.setIfInBounds_toArray, List.set_cons_succ, List.set_cons_zero]))
        go_meet
        case rel => (first | exact ⟨by rw [e1], rfl⟩ | ((repeat apply Exists.intro); exact ⟨⟨by rw [e1], rfl⟩, rfl⟩))
  case rest =>
    obtain ⟨rfl, rfl⟩ := hcut
    go_upto_if 23 with fail
    go_cut [5] from 24 to 25 (fun v wr => ∃ y : Int, v = .int .i64 y ∧ 0 ≤ y ∧ y < 12 ∧ (y < 4 ∨ (0 < d ∧ 1 < L)) ∧ w2 = wr)
    case first =>
      by_cases c1 : ((d : Int) ≤ 0 ∨ L - 1 ≤ 0)
      · have e1 : decide ((d : Int) ≤ 0 ∨ L - 1 ≤ 0) = true := decide_eq_true c1
        go_wp2_with fail
        go_meet
        case rel => exact ⟨x0 % 4, rfl, by omega, by omega, .inl (by omega), rfl⟩
      · have e1 : decide ((d : Int) ≤ 0 ∨ L - 1 ≤ 0) = false := decide_eq_false c1
        go_wp2_with fail
        go_meet
        case rel => exact ⟨x0, rfl, by omega, by omega, .inr (by omega), rfl⟩
    case rest =>
      clear hxa hxb
      obtain ⟨x0, rfl, hxa, hxb, hxl, rfl⟩ := hcut
      have hx12 : x0 = 0 ∨ x0 = 1 ∨ x0 = 2 ∨ x0 = 3 ∨ x0 = 4 ∨ x0 = 5 ∨ x0 = 6 ∨ x0 = 7 ∨ x0 = 8 ∨ x0 = 9 ∨ x0 = 10 ∨ x0 = 11 := by omega
      have SZ := hO.size
      replace hM : Mk w0 w2 B l (a + 1) (L - 1) := hM
      rcases hx12 with rfl | rfl | rfl | rfl | rfl | rfl | rfl | rfl | rfl | rfl | rfl | rfl
      ·
        go_wp2_with (first
          | ((go_at_call 47; (with_reducible refine (num_ex w0 B l _ _ _ _ hM HL.out (by omega) (by omega) (by unfold I64; omega)).mono ?_); rintro e w' ⟨x, rfl, hx0, hx1, hM2, hO2⟩); replace hM := hM2; replace hO := hO.trans' hO2; replace kR := hO2.blk kR hRB; clear hM2 hO2)
          | ((with_reducible refine' wpList_of_run (o := ⟨_, .build _ _, _, _, _, _⟩) (v := .agg #[.int .i64 4, .int .i64 (x - 8), .int .i64 0, .slice none 0 0]) (w' := _) ?_ ?_ ?_); exact rfl; kernel_rfl; simp only [Act.put, List.setIfInBounds_toArray, List.set_cons_succ, List.set_cons_zero])
          | ((with_reducible refine' wpList_store_blk (cs := [.int .i64 4, .int .i64 (x - 8), .int .i64 0, .slice none 0 0]) 25 (.tmp 4) (.tmp 32) rfl ?_ ?_ ?_ kR sz_node ?_ ?_ ?_ ?_); exact rfl; exact rfl; exact rfl; exact rfl; exact rfl; exact node_ones rfl; intro w3 kR3 hO3 hz3; simp only [Act.put]))
        have hMf := hM.only hO3 (by omega) (by omega)
        have hOf := hO.far hO3 (by omega)
        ((try simp only [Exit.inBlock, Exit.then]); refine bodyPost_ret (results_cell_row rfl _ _ _ _ _ _ _ rfl kR3 Tryd.underlying25 rfl (by rw [sz_node]; rfl)) rfl ?_)
        exact ⟨_, _, _, _, rfl, IsTX.leaf, hMf, hOf, fit_leaf (by simp [fHead, shF, fIs]; omega), by unfold Ran; rw [tsize, tdepth, tsizes, tdepths, HO1.out]; omega⟩
      ·
        go_wp2_with (first
          | ((go_at_call 47; (with_reducible refine (num_ex w0 B l _ _ _ _ hM HL.out (by omega) (by omega) (by unfold I64; omega)).mono ?_); rintro e w' ⟨x, rfl, hx0, hx1, hM2, hO2⟩); replace hM := hM2; replace hO := hO.trans' hO2; replace kR := hO2.blk kR hRB; clear hM2 hO2)
          | ((with_reducible refine' wpList_of_run (o := ⟨_, .build _ _, _, _, _, _⟩) (v := .agg #[.int .i64 5, .int .i64 x, .int .i64 0, .slice none 0 0]) (w' := _) ?_ ?_ ?_); exact rfl; kernel_rfl; simp only [Act.put, List.setIfInBounds_toArray, List.set_cons_succ, List.set_cons_zero])
          | ((with_reducible refine' wpList_store_blk (cs := [.int .i64 5, .int .i64 x, .int .i64 0, .slice none 0 0]) 25 (.tmp 4) (.tmp 37) rfl ?_ ?_ ?_ kR sz_node ?_ ?_ ?_ ?_); exact rfl; exact rfl; exact rfl; exact rfl; exact rfl; exact node_ones rfl; intro w3 kR3 hO3 hz3; simp only [Act.put]))
        have hMf := hM.only hO3 (by omega) (by omega)
        have hOf := hO.far hO3 (by omega)
        ((try simp only [Exit.inBlock, Exit.then]); refine bodyPost_ret (results_cell_row rfl _ _ _ _ _ _ _ rfl kR3 Tryd.underlying25 rfl (by rw [sz_node]; rfl)) rfl ?_)
        exact ⟨_, _, _, _, rfl, IsTX.leaf, hMf, hOf, fit_leaf (by simp [fHead, shF, fIs]; omega), by unfold Ran; rw [tsize, tdepth, tsizes, tdepths, HO1.out]; omega⟩
      ·
        go_wp2_with (first
          | ((go_at_call 47; (with_reducible refine (num_ex w0 B l _ _ 6 _ hM HL.out (by omega) (by omega) (by unfold I64; omega)).mono ?_); rintro e w' ⟨x, rfl, hx0, hx1, hM2, hO2⟩); replace hM := hM2; replace hO := hO.trans' hO2; replace kR := hO2.blk kR hRB; clear hM2 hO2)
          | ((go_at_call 47; (with_reducible refine (num_ex w0 B l _ _ 3 _ hM HL.out (by omega) (by omega) (by unfold I64; omega)).mono ?_); rintro e w' ⟨x2, rfl, hx2, hx3, hM2, hO2⟩); replace hM := hM2; replace hO := hO.trans' hO2; replace kR := hO2.blk kR hRB; clear hM2 hO2)
          | ((with_reducible refine' wpList_of_run (o := ⟨_, .build _ _, _, _, _, _⟩) (v := .agg #[.int .i64 8, .int .i64 x, .int .i64 x2, .slice none 0 0]) (w' := _) ?_ ?_ ?_); exact rfl; kernel_rfl; simp only [Act.put, List.setIfInBounds_toArray, List.set_cons_succ, List.set_cons_zero])
          | ((with_reducible refine' wpList_store_blk (cs := [.int .i64 8, .int .i64 x, .int .i64 x2, .slice none 0 0]) 25 (.tmp 4) (.tmp 44) rfl ?_ ?_ ?_ kR sz_node ?_ ?_ ?_ ?_); exact rfl; exact rfl; exact rfl; exact rfl; exact rfl; exact node_ones rfl; intro w3 kR3 hO3 hz3; simp only [Act.put]))
        have hMf := hM.only hO3 (by omega) (by omega)
        have hOf := hO.far hO3 (by omega)
        ((try simp only [Exit.inBlock, Exit.then]); refine bodyPost_ret (results_cell_row rfl _ _ _ _ _ _ _ rfl kR3 Tryd.underlying25 rfl (by rw [sz_node]; rfl)) rfl ?_)
        exact ⟨_, _, _, _, rfl, IsTX.leaf, hMf, hOf, fit_leaf (by simp [fHead, shF, fIs]; omega), by unfold Ran; rw [tsize, tdepth, tsizes, tdepths, HO1.out]; omega⟩
      · go_wp2_with (first
          | ((go_at_call 47; (with_reducible refine (num_ex w0 B l _ _ _ _ hM HL.out (by omega) (by omega) (by unfold I64; omega)).mono ?_); rintro e w' ⟨x, rfl, hx0, hx1, hM2, hO2⟩); replace hM := hM2; replace hO := hO.trans' hO2; replace kR := hO2.blk kR hRB; clear hM2 hO2)
          | ((with_reducible refine' wpList_of_run (o := ⟨_, .build _ _, _, _, _, _⟩) (v := .agg #[.int .i64 6, .int .i64 x, .int .i64 0, .slice none 0 0]) (w' := _) ?_ ?_ ?_); exact rfl; kernel_rfl; simp only [Act.put, List.setIfInBounds_toArray, List.set_cons_succ, List.set_cons_zero])
          | ((with_reducible refine' wpList_store_blk (cs := [.int .i64 6, .int .i64 x, .int .i64 0, .slice none 0 0]) 25 (.tmp 4) (.tmp 90) rfl ?_ ?_ ?_ kR sz_node ?_ ?_ ?_ ?_); exact rfl; exact rfl; exact rfl; exact rfl; exact rfl; exact node_ones rfl; intro w3 kR3 hO3 hz3; simp only [Act.put]))
        have hMf := hM.only hO3 (by omega) (by omega)
        have hOf := hO.far hO3 (by omega)
        ((try simp only [Exit.inBlock, Exit.then]); refine bodyPost_ret (results_cell_row rfl _ _ _ _ _ _ _ rfl kR3 Tryd.underlying25 rfl (by rw [sz_node]; rfl)) rfl ?_)
        exact ⟨_, _, _, _, rfl, IsTX.leaf, hMf, hOf, fit_leaf (by simp [fHead, shF, fIs]; omega), by unfold Ran; rw [tsize, tdepth, tsizes, tdepths, HO1.out]; omega⟩
      ·
        have hd0 : 0 < d := by omega
        have ev4 := ev2 hd0
        go_wp2_with (first
          | ((go_at_call 47; (with_reducible refine (num_ex w0 B l _ _ _ _ hM HL.out (by omega) (by omega) (by unfold I64; omega)).mono ?_); rintro e w' ⟨x, rfl, hx0, hx1, hM2, hO2⟩); replace hM := hM2; replace hO := hO.trans' hO2; replace kR := hO2.blk kR hRB; clear hM2 hO2)
          | ((go_at_call 91; (with_reducible refine (SM1.out hd0 _ _ _ (by omega) (by omega) (by omega) hM).mono ?_); rintro e w' ⟨v, ts, xs, a2, L2, rfl, hts, hown, HT, hM2, hO2, hf, hRn⟩); have hRl := kR.lt; replace hM := hM2; replace hO := hO.trans' hO2; replace kR := hO2.blk kR hRB; clear hM2 hO2; obtain ⟨va, vn, vc, rfl⟩ := own_sl hown)
          | ((with_reducible refine' wpList_of_run (o := ⟨_, .build _ _, _, _, _, _⟩) (v := .agg #[.int .i64 7, .int .i64 x, .int .i64 0, .slice va vn vc]) (w' := _) ?_ ?_ ?_); exact rfl; kernel_rfl; simp only [Act.put, List.setIfInBounds_toArray, List.set_cons_succ, List.set_cons_zero])
          | ((with_reducible refine' wpList_store_blk (cs := [.int .i64 7, .int .i64 x, .int .i64 0, .slice va vn vc]) 25 (.tmp 4) (.tmp 53) rfl ?_ ?_ ?_ kR sz_node ?_ ?_ ?_ ?_); exact rfl; exact rfl; exact rfl; exact rfl; exact rfl; exact node_ones rfl; intro w3 kR3 hO3 hz3; simp only [Act.put]))
        have hMf := hM.only hO3 (by omega) (by omega)
        have hOf := hO.far hO3 (by omega)
        have hownf := own_only hown hO3 (own_ne hown (by omega))
        have HTf := HT.only hO3 (fun b h => by omega)
        ((try simp only [Exit.inBlock, Exit.then]); refine bodyPost_ret (results_cell_row rfl _ _ _ _ _ _ _ rfl kR3 Tryd.underlying25 rfl (by rw [sz_node]; rfl)) rfl ?_)
        refine ⟨_, _, _, _, rfl, IsTX.node (by rw [hts]; exact Rd.of_own hownf) (fun b hb _ => by have := (hown.lt b hb).1; omega) (HTf.mono fun b h => by omega), hMf, hOf, fit_of (by rw [hts]; first | (simp [fHead, shF, fIs]; done) | (simp [fHead, shF, fIs]; omega)) (kidsA (s := 4) hf (fun j hj => by rw [hts] at hj ⊢; obtain rfl : j = 0 := (by omega); simp [fWant, shF])), ?_⟩
        unfold Ran at hRn ⊢
        rw [tsize, tdepth, HO1.out]
        rw [Nat.one_mul] at hRn
        omega
      ·
        have hd0 : 0 < d := by omega
        have ev4 := ev2 hd0
        go_wp2_with (first
          | ((go_at_call 47; (with_reducible refine (num_ex w0 B l _ _ _ _ hM HL.out (by omega) (by omega) (by unfold I64; omega)).mono ?_); rintro e w' ⟨x, rfl, hx0, hx1, hM2, hO2⟩); replace hM := hM2; replace hO := hO.trans' hO2; replace kR := hO2.blk kR hRB; clear hM2 hO2)
          | ((go_at_call 91; (with_reducible refine (SM1.out hd0 _ _ _ (by omega) (by omega) (by omega) hM).mono ?_); rintro e w' ⟨v, ts, xs, a2, L2, rfl, hts, hown, HT, hM2, hO2, hf, hRn⟩); have hRl := kR.lt; replace hM := hM2; replace hO := hO.trans' hO2; replace kR := hO2.blk kR hRB; clear hM2 hO2; obtain ⟨va, vn, vc, rfl⟩ := own_sl hown)
          | ((with_reducible refine' wpList_of_run (o := ⟨_, .build _ _, _, _, _, _⟩) (v := .agg #[.int .i64 10, .int .i64 0, .int .i64 0, .slice va vn vc]) (w' := _) ?_ ?_ ?_); exact rfl; kernel_rfl; simp only [Act.put, List.setIfInBounds_toArray, List.set_cons_succ, List.set_cons_zero])
          | ((with_reducible refine' wpList_store_blk (cs := [.int .i64 10, .int .i64 0, .int .i64 0, .slice va vn vc]) 25 (.tmp 4) (.tmp 60) rfl ?_ ?_ ?_ kR sz_node ?_ ?_ ?_ ?_); exact rfl; exact rfl; exact rfl; exact rfl; exact rfl; exact node_ones rfl; intro w3 kR3 hO3 hz3; simp only [Act.put]))
        have hMf := hM.only hO3 (by omega) (by omega)
        have hOf := hO.far hO3 (by omega)
        have hownf := own_only hown hO3 (own_ne hown (by omega))
        have HTf := HT.only hO3 (fun b h => by omega)
        ((try simp only [Exit.inBlock, Exit.then]); refine bodyPost_ret (results_cell_row rfl _ _ _ _ _ _ _ rfl kR3 Tryd.underlying25 rfl (by rw [sz_node]; rfl)) rfl ?_)
        refine ⟨_, _, _, _, rfl, IsTX.node (by rw [hts]; exact Rd.of_own hownf) (fun b hb _ => by have := (hown.lt b hb).1; omega) (HTf.mono fun b h => by omega), hMf, hOf, fit_of (by rw [hts]; first | (simp [fHead, shF, fIs]; done) | (simp [fHead, shF, fIs]; omega)) (kidsA (s := 4) hf (fun j hj => by rw [hts] at hj ⊢; obtain rfl : j = 0 := (by omega); simp [fWant, shF])), ?_⟩
        unfold Ran at hRn ⊢
        rw [tsize, tdepth, HO1.out]
        rw [Nat.one_mul] at hRn
        omega
      · have hd0 : 0 < d := by omega
        have ev4 := ev2 hd0
        go_wp2_with (first
          | ((go_at_call 47; (with_reducible refine (num_ex w0 B l _ _ 6 _ hM HL.out (by omega) (by omega) (by unfold I64; omega)).mono ?_); rintro e w' ⟨x, rfl, hx0, hx1, hM2, hO2⟩); replace hM := hM2; replace hO := hO.trans' hO2; replace kR := hO2.blk kR hRB; clear hM2 hO2)
          | ((go_at_call 47; (with_reducible refine (num_ex w0 B l _ _ 4 _ hM HL.out (by omega) (by omega) (by unfold I64; omega)).mono ?_); rintro e w' ⟨x2, rfl, hx2, hx3, hM2, hO2⟩); replace hM := hM2; replace hO := hO.trans' hO2; replace kR := hO2.blk kR hRB; clear hM2 hO2; obtain ⟨K, hK⟩ : ∃ K : Nat, x2 = (K : Int) := ⟨x2.toNat, by omega⟩; subst hK; obtain ⟨ko, hko⟩ : ∃ ko, K * o2 = ko := ⟨_, rfl⟩; have hk3 : ko ≤ 3 * o2 := (by rw [← hko]; exact Nat.mul_le_mul_right _ (by omega)); have hkc : (K : Int) * (o2 : Int) = (ko : Int) := (by rw [← hko]; push_cast; rfl))
          | ((go_at_call 91; (with_reducible refine (SM'.out hd0 K (by omega) _ _ _ (by omega) (by rw [hkc]; omega) (by omega) hM).mono ?_); rintro e w' ⟨v, ts, xs, a2, L2, rfl, hts, hown, HT, hM2, hO2, hf, hRn⟩); have hRl := kR.lt; replace hM := hM2; replace hO := hO.trans' hO2; replace kR := hO2.blk kR hRB; clear hM2 hO2; obtain ⟨va, vn, vc, rfl⟩ := own_sl hown)
          | ((with_reducible refine' wpList_of_run (o := ⟨_, .build _ _, _, _, _, _⟩) (v := .agg #[.int .i64 11, .int .i64 x, .int .i64 0, .slice va vn vc]) (w' := _) ?_ ?_ ?_); exact rfl; kernel_rfl; simp only [Act.put, List.setIfInBounds_toArray, List.set_cons_succ, List.set_cons_zero])
          | ((with_reducible refine' wpList_store_blk (cs := [.int .i64 11, .int .i64 x, .int .i64 0, .slice va vn vc]) 25 (.tmp 4) (.tmp 71) rfl ?_ ?_ ?_ kR sz_node ?_ ?_ ?_ ?_); exact rfl; exact rfl; exact rfl; exact rfl; exact rfl; exact node_ones rfl; intro w3 kR3 hO3 hz3; simp only [Act.put]))
        have hMf := hM.only hO3 (by omega) (by omega)
        have hOf := hO.far hO3 (by omega)
        have hownf := own_only hown hO3 (own_ne hown (by omega))
        have HTf := HT.only hO3 (fun b h => by omega)
        ((try simp only [Exit.inBlock, Exit.then]); refine bodyPost_ret (results_cell_row rfl _ _ _ _ _ _ _ rfl kR3 Tryd.underlying25 rfl (by rw [sz_node]; rfl)) rfl ?_)
        refine ⟨_, _, _, _, rfl, IsTX.node (by rw [hts]; exact Rd.of_own hownf) (fun b hb _ => by have := (hown.lt b hb).1; omega) (HTf.mono fun b h => by omega), hMf, hOf, fit_of (by rw [hts]; first | (simp [fHead, shF, fIs]; done) | (simp [fHead, shF, fIs]; omega)) (kidsA (s := 4) hf (fun j hj => by rw [hts] at hj ⊢; simp [fWant, shF])), ?_⟩
        unfold Ran at hRn ⊢
        rw [tsize, tdepth, HO1.out]
        rw [hko] at hRn
        omega
      ·
        go_wp2_with (first
          | ((go_at_call 47; (with_reducible refine (num_ex w0 B l _ _ _ _ hM HL.out (by omega) (by omega) (by unfold I64; omega)).mono ?_); rintro e w' ⟨x, rfl, hx0, hx1, hM2, hO2⟩); replace hM := hM2; replace hO := hO.trans' hO2; replace kR := hO2.blk kR hRB; clear hM2 hO2)
          | ((with_reducible refine' wpList_of_run (o := ⟨_, .build _ _, _, _, _, _⟩) (v := .agg #[.int .i64 12, .int .i64 x, .int .i64 0, .slice none 0 0]) (w' := _) ?_ ?_ ?_); exact rfl; kernel_rfl; simp only [Act.put, List.setIfInBounds_toArray, List.set_cons_succ, List.set_cons_zero])
          | ((with_reducible refine' wpList_store_blk (cs := [.int .i64 12, .int .i64 x, .int .i64 0, .slice none 0 0]) 25 (.tmp 4) (.tmp 76) rfl ?_ ?_ ?_ kR sz_node ?_ ?_ ?_ ?_); exact rfl; exact rfl; exact rfl; exact rfl; exact rfl; exact node_ones rfl; intro w3 kR3 hO3 hz3; simp only [Act.put]))
        have hMf := hM.only hO3 (by omega) (by omega)
        have hOf := hO.far hO3 (by omega)
        ((try simp only [Exit.inBlock, Exit.then]); refine bodyPost_ret (results_cell_row rfl _ _ _ _ _ _ _ rfl kR3 Tryd.underlying25 rfl (by rw [sz_node]; rfl)) rfl ?_)
        exact ⟨_, _, _, _, rfl, IsTX.leaf, hMf, hOf, fit_leaf (by simp [fHead, shF, fIs]; omega), by unfold Ran; rw [tsize, tdepth, tsizes, tdepths, HO1.out]; omega⟩
      ·
        have hd0 : 0 < d := by omega
        have ev4 := ev2 hd0
        go_wp2_with (first
          | ((go_at_call 47; (with_reducible refine (num_ex w0 B l _ _ _ _ hM HL.out (by omega) (by omega) (by unfold I64; omega)).mono ?_); rintro e w' ⟨x, rfl, hx0, hx1, hM2, hO2⟩); replace hM := hM2; replace hO := hO.trans' hO2; replace kR := hO2.blk kR hRB; clear hM2 hO2)
          | ((go_at_call 91; (with_reducible refine (SM2.out hd0 _ _ _ (by omega) (by omega) (by omega) hM).mono ?_); rintro e w' ⟨v, ts, xs, a2, L2, rfl, hts, hown, HT, hM2, hO2, hf, hRn⟩); have hRl := kR.lt; replace hM := hM2; replace hO := hO.trans' hO2; replace kR := hO2.blk kR hRB; clear hM2 hO2; obtain ⟨va, vn, vc, rfl⟩ := own_sl hown)
          | ((with_reducible refine' wpList_of_run (o := ⟨_, .build _ _, _, _, _, _⟩) (v := .agg #[.int .i64 9, .int .i64 x, .int .i64 0, .slice va vn vc]) (w' := _) ?_ ?_ ?_); exact rfl; kernel_rfl; simp only [Act.put, List.setIfInBounds_toArray, List.set_cons_succ, List.set_cons_zero])
          | ((with_reducible refine' wpList_store_blk (cs := [.int .i64 9, .int .i64 x, .int .i64 0, .slice va vn vc]) 25 (.tmp 4) (.tmp 87) rfl ?_ ?_ ?_ kR sz_node ?_ ?_ ?_ ?_); exact rfl; exact rfl; exact rfl; exact rfl; exact rfl; exact node_ones rfl; intro w3 kR3 hO3 hz3; simp only [Act.put]))
        have hMf := hM.only hO3 (by omega) (by omega)
        have hOf := hO.far hO3 (by omega)
        have hownf := own_only hown hO3 (own_ne hown (by omega))
        have HTf := HT.only hO3 (fun b h => by omega)
        ((try simp only [Exit.inBlock, Exit.then]); refine bodyPost_ret (results_cell_row rfl _ _ _ _ _ _ _ rfl kR3 Tryd.underlying25 rfl (by rw [sz_node]; rfl)) rfl ?_)
        refine ⟨_, _, _, _, rfl, IsTX.node (by rw [hts]; exact Rd.of_own hownf) (fun b hb _ => by have := (hown.lt b hb).1; omega) (HTf.mono fun b h => by omega), hMf, hOf, fit_of (by rw [hts]; first | (simp [fHead, shF, fIs]; done) | (simp [fHead, shF, fIs]; omega)) (kidsA (s := 4) hf (fun j hj => by rw [hts] at hj ⊢; rcases (show j = 0 ∨ j = 1 by omega) with rfl | rfl <;> simp [fWant, shF])), ?_⟩
        unfold Ran at hRn ⊢
        rw [tsize, tdepth, HO1.out]
        skip
        omega
      ·
        have hd0 : 0 < d := by omega
        have ev4 := ev2 hd0
        go_wp2_with (first
          | ((go_at_call 47; (with_reducible refine (num_ex w0 B l _ _ _ _ hM HL.out (by omega) (by omega) (by unfold I64; omega)).mono ?_); rintro e w' ⟨x, rfl, hx0, hx1, hM2, hO2⟩); replace hM := hM2; replace hO := hO.trans' hO2; replace kR := hO2.blk kR hRB; clear hM2 hO2)
          | ((go_at_call 91; (with_reducible refine (SM2.out hd0 _ _ _ (by omega) (by omega) (by omega) hM).mono ?_); rintro e w' ⟨v, ts, xs, a2, L2, rfl, hts, hown, HT, hM2, hO2, hf, hRn⟩); have hRl := kR.lt; replace hM := hM2; replace hO := hO.trans' hO2; replace kR := hO2.blk kR hRB; clear hM2 hO2; obtain ⟨va, vn, vc, rfl⟩ := own_sl hown)
          | ((with_reducible refine' wpList_of_run (o := ⟨_, .build _ _, _, _, _, _⟩) (v := .agg #[.int .i64 9, .int .i64 x, .int .i64 0, .slice va vn vc]) (w' := _) ?_ ?_ ?_); exact rfl; kernel_rfl; simp only [Act.put, List.setIfInBounds_toArray, List.set_cons_succ, List.set_cons_zero])
          | ((with_reducible refine' wpList_store_blk (cs := [.int .i64 9, .int .i64 x, .int .i64 0, .slice va vn vc]) 25 (.tmp 4) (.tmp 87) rfl ?_ ?_ ?_ kR sz_node ?_ ?_ ?_ ?_); exact rfl; exact rfl; exact rfl; exact rfl; exact rfl; exact node_ones rfl; intro w3 kR3 hO3 hz3; simp only [Act.put]))
        have hMf := hM.only hO3 (by omega) (by omega)
        have hOf := hO.far hO3 (by omega)
        have hownf := own_only hown hO3 (own_ne hown (by omega))
        have HTf := HT.only hO3 (fun b h => by omega)
        ((try simp only [Exit.inBlock, Exit.then]); refine bodyPost_ret (results_cell_row rfl _ _ _ _ _ _ _ rfl kR3 Tryd.underlying25 rfl (by rw [sz_node]; rfl)) rfl ?_)
        refine ⟨_, _, _, _, rfl, IsTX.node (by rw [hts]; exact Rd.of_own hownf) (fun b hb _ => by have := (hown.lt b hb).1; omega) (HTf.mono fun b h => by omega), hMf, hOf, fit_of (by rw [hts]; first | (simp [fHead, shF, fIs]; done) | (simp [fHead, shF, fIs]; omega)) (kidsA (s := 4) hf (fun j hj => by rw [hts] at hj ⊢; rcases (show j = 0 ∨ j = 1 by omega) with rfl | rfl <;> simp [fWant, shF])), ?_⟩
        unfold Ran at hRn ⊢
        rw [tsize, tdepth, HO1.out]
        skip
        omega
      ·
        have hd0 : 0 < d := by omega
        have ev4 := ev2 hd0
        go_wp2_with (first
          | ((go_at_call 47; (with_reducible refine (num_ex w0 B l _ _ _ _ hM HL.out (by omega) (by omega) (by unfold I64; omega)).mono ?_); rintro e w' ⟨x, rfl, hx0, hx1, hM2, hO2⟩); replace hM := hM2; replace hO := hO.trans' hO2; replace kR := hO2.blk kR hRB; clear hM2 hO2)
          | ((go_at_call 91; (with_reducible refine (SM2.out hd0 _ _ _ (by omega) (by omega) (by omega) hM).mono ?_); rintro e w' ⟨v, ts, xs, a2, L2, rfl, hts, hown, HT, hM2, hO2, hf, hRn⟩); have hRl := kR.lt; replace hM := hM2; replace hO := hO.trans' hO2; replace kR := hO2.blk kR hRB; clear hM2 hO2; obtain ⟨va, vn, vc, rfl⟩ := own_sl hown)
          | ((with_reducible refine' wpList_of_run (o := ⟨_, .build _ _, _, _, _, _⟩) (v := .agg #[.int .i64 9, .int .i64 x, .int .i64 0, .slice va vn vc]) (w' := _) ?_ ?_ ?_); exact rfl; kernel_rfl; simp only [Act.put, List.setIfInBounds_toArray, List.set_cons_succ, List.set_cons_zero])
          | ((with_reducible refine' wpList_store_blk (cs := [.int .i64 9, .int .i64 x, .int .i64 0, .slice va vn vc]) 25 (.tmp 4) (.tmp 87) rfl ?_ ?_ ?_ kR sz_node ?_ ?_ ?_ ?_); exact rfl; exact rfl; exact rfl; exact rfl; exact rfl; exact node_ones rfl; intro w3 kR3 hO3 hz3; simp only [Act.put]))
        have hMf := hM.only hO3 (by omega) (by omega)
        have hOf := hO.far hO3 (by omega)
        have hownf := own_only hown hO3 (own_ne hown (by omega))
        have HTf := HT.only hO3 (fun b h => by omega)
        ((try simp only [Exit.inBlock, Exit.then]); refine bodyPost_ret (results_cell_row rfl _ _ _ _ _ _ _ rfl kR3 Tryd.underlying25 rfl (by rw [sz_node]; rfl)) rfl ?_)
        refine ⟨_, _, _, _, rfl, IsTX.node (by rw [hts]; exact Rd.of_own hownf) (fun b hb _ => by have := (hown.lt b hb).1; omega) (HTf.mono fun b h => by omega), hMf, hOf, fit_of (by rw [hts]; first | (simp [fHead, shF, fIs]; done) | (simp [fHead, shF, fIs]; omega)) (kidsA (s := 4) hf (fun j hj => by rw [hts] at hj ⊢; rcases (show j = 0 ∨ j = 1 by omega) with rfl | rfl <;> simp [fWant, shF])), ?_⟩
        unfold Ran at hRn ⊢
        rw [tsize, tdepth, HO1.out]
        skip
        omega
      · go_wp2_with (first
          | ((go_at_call 47; (with_reducible refine (num_ex w0 B l _ _ _ _ hM HL.out (by omega) (by omega) (by unfold I64; omega)).mono ?_); rintro e w' ⟨x, rfl, hx0, hx1, hM2, hO2⟩); replace hM := hM2; replace hO := hO.trans' hO2; replace kR := hO2.blk kR hRB; clear hM2 hO2)
          | ((with_reducible refine' wpList_of_run (o := ⟨_, .build _ _, _, _, _, _⟩) (v := .agg #[.int .i64 6, .int .i64 x, .int .i64 0, .slice none 0 0]) (w' := _) ?_ ?_ ?_); exact rfl; kernel_rfl; simp only [Act.put, List.setIfInBounds_toArray, List.set_cons_succ, List.set_cons_zero])
          | ((with_reducible refine' wpList_store_blk (cs := [.int .i64 6, .int .i64 x, .int .i64 0, .slice none 0 0]) 25 (.tmp 4) (.tmp 90) rfl ?_ ?_ ?_ kR sz_node ?_ ?_ ?_ ?_); exact rfl; exact rfl; exact rfl; exact rfl; exact rfl; exact node_ones rfl; intro w3 kR3 hO3 hz3; simp only [Act.put]))
        have hMf := hM.only hO3 (by omega) (by omega)
        have hOf := hO.far hO3 (by omega)
        ((try simp only [Exit.inBlock, Exit.then]); refine bodyPost_ret (results_cell_row rfl _ _ _ _ _ _ _ rfl kR3 Tryd.underlying25 rfl (by rw [sz_node]; rfl)) rfl ?_)
        exact ⟨_, _, _, _, rfl, IsTX.leaf, hMf, hOf, fit_leaf (by simp [fHead, shF, fIs]; omega), by unfold Ran; rw [tsize, tdepth, tsizes, tdepths, HO1.out]; omega⟩
theorem expr_any (l : List Int) (hl : ∀ x ∈ l, I64 x) (w0 : World) (B : Nat) : ∀ (d : Nat), d ≤ 5 → ∀ (a : Nat) (L : Int) (w : World), (a : Int) + 3 * L ≤ 10000 → -10000 + (eov d : Int) ≤ L → L ≤ 1000 → Mk w0 w B l a L →
    Calls Tryd.prog 92 #[.pointer (some ⟨B, 0, none⟩), .int .i64 (d : Int)] w fun e w' => MadeE w0 w B l 4 (eov d) (d + 1) a L e w' := by
  intro d
  induction d with
  | zero => exact fun hd a L w h1 h2 h3 hM => expr_step l hl w0 B 0 hd (fun h => absurd h (by omega)) a L w h1 h2 h3 hM
  | succ d ih =>
    intro hd a L w h1 h2 h3 hM
    have he : eov d ≤ 1000 := by
      have : ∀ d, d ≤ 5 → eov d ≤ 1000 := by decide
      exact this d (by omega)
    refine expr_step l hl w0 B (d + 1) hd (fun _ n hn a L w h1 h2 h3 hM => ?_) a L w h1 h2 h3 hM
    rw [show ((d + 1 : Nat) : Int) - 1 = (d : Int) by omega]
    exact some_of l w0 B d (eov d) (d + 1) he (ih (by omega)) n hn a L w h1 h2 h3 hM
end Go.Proofs.YtdlhkhnoigbhjaaDoor.Wi
namespace Go.Proofs.YtdlhkhnoigbhjaaDoor.Pu
def sov : Nat → Nat
  | 0 => 14
  | 1 => 14
  | e + 2 => max (2 * sov e + 16) (sov (e + 1) + 2)
theorem fit65 {t : Tree} (h : tfits t 6 = true) : tfits t 5 = true := by
  obtain ⟨k, n, m, ts⟩ := t
  rw [tfits, Bool.and_eq_true] at h ⊢
  refine ⟨?_, h.2⟩
  have h1 := h.1
  unfold fHead at h1 ⊢
  split at h1
  · cases h1
  · rename_i s hs
    simp only [Bool.and_eq_true] at h1 ⊢
    refine ⟨h1.1, ?_, h1.2.2⟩
    have h2 := h1.2.1
    simp [fIs] at h2 ⊢
    omega
end Go.Proofs.YtdlhkhnoigbhjaaDoor.Pu
namespace Go.Proofs.YtdlhkhnoigbhjaaDoor.Wi
open Go Go.RowKit Pu Lb
set_option linter.unusedSimpArgs false
set_option linter.unusedVariables false
/-- a block; with no nodes left it is one node -/
def MadeB (w0 w : World) (B : Nat) (l : List Int) (ov dm a : Nat) (L : Int) (e : Ending) (w' : World) : Prop :=
  ∃ t cs a' L', e = .returned (.agg cs.toArray) ∧ IsTX (fun b => w.heap.size ≤ b) w' t cs ∧ Mk w0 w' B l a' L' ∧ Only B w w' ∧ tfits t 6 = true ∧ Ran ov dm a L a' L' (tsize t) (tdepth t) ∧ (L ≤ 1 → L' = L - 1)
theorem MadeB.e {w0 w : World} {B : Nat} {l : List Int} {ov dm a : Nat} {L : Int} {e : Ending} {w' : World} (h : MadeB w0 w B l ov dm a L e w') : MadeE w0 w B l 6 ov dm a L e w' := by
  obtain ⟨t, cs, a', L', h1, h2, h3, h4, h5, h6, _⟩ := h
  exact ⟨t, cs, a', L', h1, h2, h3, h4, h5, h6⟩
set_option maxRecDepth 100000 in
set_option maxHeartbeats 1600000 in
theorem block_of (l : List Int) (hl : ∀ x ∈ l, I64 x) (w0 : World) (B : Nat) (D : Int) (hD : 0 ≤ D) (hD2 : D ≤ 100) (ov dm : Nat) (hov : ov ≤ 1000)
    (ST : ∀ (a : Nat) (L : Int) (w : World), (a : Int) + 3 * L ≤ 10000 → -10000 + (ov : Int) ≤ L → L ≤ 1000 → Mk w0 w B l a L → Calls Tryd.prog 73 #[.pointer (some ⟨B, 0, none⟩), .int .i64 (D - 1)] w fun e w' => MadeE w0 w B l 5 ov dm a L e w')
    (a : Nat) (L : Int) (w : World) (h1 : (a : Int) + 3 * L ≤ 10000) (h2 : -10000 + (ov + 1 : Int) ≤ L) (h3 : L ≤ 1000) (hM : Mk w0 w B l a L) :
    Calls Tryd.prog 48 #[.pointer (some ⟨B, 0, none⟩), .int .i64 D] w fun e w' => MadeB w0 w B l (ov + 1) (dm + 1) a L e w' := by
  have HL := Lib.hid hl
  have ST' := Lib.hid ST
  clear hl ST
  have lB : B < w.heap.size := by obtain ⟨lv, h, _⟩ := hM; exact h.lt
  have hBw : w0.heap.size ≤ w.heap.size := by obtain ⟨lv, _, _, _, h⟩ := hM; exact h.size
  have hB0 : w0.heap.size ≤ B := by obtain ⟨lv, _, _, h, _⟩ := hM; exact h
  go_enter Tryd.func48, Tryd.ntmps48
  go_upto_region 1 with (((with_reducible refine' wpList_alloc_blk (cs := nodz) 25 rfl ?_ zr_node ?_ ?_); exact rfl; exact nodz_cells; intro w1 kR hN1 hz1; simp only [Act.put, List.setIfInBounds_toArray, List.set_cons_succ, List.set_cons_zero]))
  obtain ⟨R, hR⟩ : ∃ R, w.heap.size = R := ⟨_, rfl⟩
  rw [hR] at kR ⊢
  have hRB : R ≠ B := by omega
  replace hM := hM.below hN1
  have hO : Only B w w1 := (Only.refl B w).belows hN1
  have lR := kR.lt
  clear hN1 hz1
  go_upto_region 2 with (first
    | ((with_reducible refine' wpList_of_run (o := ⟨_, .build _ _, _, _, _, _⟩) (v := .agg #[.int .i64 13, .int .i64 0, .int .i64 0, .slice none 0 0]) (w' := _) ?_ ?_ ?_); exact rfl; kernel_rfl; simp only [Act.put, List.setIfInBounds_toArray, List.set_cons_succ, List.set_cons_zero])
    | (((with_reducible refine' wpList_alloc_blk (cs := nodz) 25 rfl ?_ zr_node ?_ ?_); exact rfl; exact nodz_cells; intro w2 kN hN2 hz2; simp only [Act.put, List.setIfInBounds_toArray, List.set_cons_succ, List.set_cons_zero]))
    | ((with_reducible refine' wpList_store_blk (cs := [.int .i64 13, .int .i64 0, .int .i64 0, .slice none 0 0]) 25 (.tmp 5) (.tmp 8) rfl ?_ ?_ ?_ kN sz_node ?_ ?_ ?_ ?_); exact rfl; exact rfl; exact rfl; exact rfl; exact rfl; exact node_ones rfl; intro w3 kN3 hO3 hz3; simp only [Act.put]))
  obtain ⟨N, hN⟩ : ∃ N, w1.heap.size = N := ⟨_, rfl⟩
  rw [hN] at kN3 hO3 ⊢
  have hRN : R < N := by omega
  have hBN : B < N := by have := hO.size; omega
  replace hM := (hM.below hN2).only hO3 (by omega) (by omega)
  replace hO := (hO.belows hN2).far hO3 (by omega)
  replace kR := hO3.blk (kR.below hN2 lR) (by omega)
  have lN := kN3.lt
  clear hN2 hO3 hz2 hz3 kN hN lR
  go_upto_region 3 with (first
    | ((go_at_call 47; (with_reducible refine (num_ex w0 B l _ _ 4 _ hM HL.out (by omega) (by omega) (by unfold I64; omega)).mono ?_); rintro e w' ⟨x, rfl, hx0, hx1, hM2, hO2⟩); replace hM := hM2; replace hO := hO.trans' hO2; replace kR := hO2.blk kR hRB; replace kN3 := hO2.blk kN3 (by omega); clear hM2 hO2))
  obtain ⟨K, hK⟩ : ∃ K : Nat, x = (K : Int) := ⟨x.toNat, by omega⟩
  subst hK
  obtain ⟨lv, hB, hr, hB0', hb0⟩ := hM
  have X1 := Lib.hid (show ([lv, .int .i64 ((a + 1 : Nat) : Int), .int .i64 L] : List Value)[2]? = some (.int .i64 L) from rfl)
  have LN := Lib.hid (show 2 < ([lv, .int .i64 ((a + 1 : Nat) : Int), .int .i64 L] : List Value).length by simp)
  go_upto_region 4 with (first
    | (((with_reducible refine' wpList_field_blk (j := 2) (.tmp 12) 66 2 rfl ?_ fo_mk_2 ?_ rfl ?_); exact rfl; exact rfl; simp only [Act.put, List.setIfInBounds_toArray, List.set_cons_succ, List.set_cons_zero])) | (((with_reducible refine' wpList_field_blk (j := 2) (.tmp 16) 66 2 rfl ?_ fo_mk_2 ?_ rfl ?_); exact rfl; exact rfl; simp only [Act.put, List.setIfInBounds_toArray, List.set_cons_succ, List.set_cons_zero])) | ((with_reducible refine' wpList_load_blk (.tmp 13) 3 rfl ?_ ld_int ?_ hB (X1.out) ?_); exact rfl; exact rfl; simp only [Act.put, List.setIfInBounds_toArray, List.set_cons_succ, List.set_cons_zero])
    | (((with_reducible refine' wpList_set_blk (u := .int .i64 (L - 1)) 3 (.tmp 17) (.tmp 15) rfl ?_ sz_int ?_ ?_ hB (LN.out) ?_ ?_); exact rfl; exact rfl; exact rfl; exact rfl; intro w4 k4 hO4 hz4; simp only [Act.put])))
  rw [show ([lv, .int .i64 ((a + 1 : Nat) : Int), .int .i64 L] : List Value).set 2 (.int .i64 (L - 1)) = [lv, .int .i64 ((a + 1 : Nat) : Int), .int .i64 (L - 1)] from rfl] at k4
  have hM : Mk w0 w4 B l (a + 1) (L - 1) := ⟨lv, k4, hr, hB0, hb0.trans (hO4.below hB0 hb0.size)⟩
  replace kR := hO4.blk kR hRB
  replace kN3 := hO4.blk kN3 (by omega)
  replace hO := hO.trans' hO4
  clear hr k4 hB hO4 hz4 hb0 X1 LN
  have lN4 := kN3.lt
  go_upto_region 5 with fail
  go_loopw [7] (fun i wr => ∃ (j a' : Nat) (ts : List Tree) (L' : Int) (v : Value) (xs : List Value), i = .int .i64 (j : Int) ∧ ts.length = j ∧ j ≤ K ∧ wr.ownsRow (N + 1) 25 4 v j xs ∧ Hid (IsTsX (fun b => (w.heap.size ≤ b ∧ b ≠ N ∧ b ≠ R) ∧ v.ownBlock ≠ some b) wr ts xs) ∧
    Blk wr N 25 [.int .i64 13, .int .i64 0, .int .i64 0, v] ∧ Blk wr R 25 nodz ∧ Mk w0 wr B l a' L' ∧ Only B w wr ∧ Hid (∀ t ∈ ts, tfits t 5 = true) ∧ tdepths ts ≤ dm ∧ (tsizes ts : Int) ≤ L - 1 - L' ∧ a + 1 ≤ a' ∧ (a' : Int) + 3 * L' ≤ a + 3 * L - 2 ∧ (L - (ov + 1 : Int) ≤ L' ∨ 1 - (ov + 1 : Int) ≤ L') ∧ (L ≤ 1 → L' = L - 1)) (fun i _ => K - (intOf i).toNat)
  case atStart => exact ⟨0, a + 1, [], L - 1, .slice none 0 0, [], rfl, rfl, Nat.zero_le _, World.ownsRow_nil _ _ _ _, Lib.hid IsTsX.nil, kN3, kR, hM, hO, Lib.hid (by intro t ht; cases ht), by rw [tdepths]; omega, by rw [tsizes]; omega, by omega, by omega, by omega, fun _ => rfl⟩
  case round =>
    obtain ⟨j, a', ts, L', v, xs, rfl, hts, hj, hown, HT, qN, qR, hM, hO, HF, hd1, hd2, hd3, hd4, hd5, hd6⟩ := hrel
    obtain ⟨wo, rfl⟩ : ∃ wo : World, wo = wr := ⟨_, rfl⟩
    obtain ⟨lv2, hB, hr, hB0, hb0⟩ := hM
    have X2 := Lib.hid (show ([lv2, .int .i64 (a' : Int), .int .i64 L'] : List Value)[2]? = some (.int .i64 L') from rfl)
    by_cases h4 : j < K
    · by_cases h5 : 0 < L'
      · go_upto_region 7 with (first | (((with_reducible refine' wpList_field_blk (j := 2) (.tmp 23) 66 2 rfl ?_ fo_mk_2 ?_ rfl ?_); exact rfl; exact rfl; simp only [Act.put, List.setIfInBounds_toArray, List.set_cons_succ, List.set_cons_zero])) | ((with_reducible refine' wpList_load_blk (.tmp 24) 3 rfl ?_ ld_int ?_ hB (X2.out) ?_); exact rfl; exact rfl; simp only [Act.put, List.setIfInBounds_toArray, List.set_cons_succ, List.set_cons_zero]))
        have hMo : Mk w0 wo B l a' L' := ⟨lv2, hB, hr, hB0, hb0⟩
        have X3 := Lib.hid (show ([.int .i64 13, .int .i64 0, .int .i64 0, v] : List Value)[3]? = some v from rfl)
        have vN : v.ownBlock ≠ some N := own_ne hown (by omega)
        have vR : v.ownBlock ≠ some R := own_ne hown (by omega)
        have vB : v.ownBlock ≠ some B := own_ne hown (by omega)
        clear hB hr
        have hbd : Below wo.heap.size wo wo.drew := (Below.refl _ _).drew
        have BA := Lib.hid (show (a' : Int) + 3 * L' ≤ 10000 by omega)
        have BB := Lib.hid (show -10000 + (ov : Int) ≤ L' by omega)
        have BC := Lib.hid (show L' ≤ 1000 by omega)
        (refine wp_region_mid (fun w2 => Blk w2 N 25 [.int .i64 13, .int .i64 0, .int .i64 0, v]) [.h, .h, .h, .h, .h, .m, .m, .m, .t, .t] (by kernel_rfl) (by kernel_rfl) (qN) ?_; simp only [pickH, pickM, pickT]; (repeat (first | (((with_reducible refine' wpQuietM_field (k := 0) (j := 3) (.tmp 5) 25 3 rfl ?_ fo_node_3 ?_ rfl ?_); exact rfl; rotate_left; exact rfl; simp only [Act.put, List.setIfInBounds_toArray, List.set_cons_succ, List.set_cons_zero])) | (((with_reducible refine' wpQuietB_load_blk (.tmp 30) 23 rfl ?_ ld_nds ?_ X3.out ?_); exact rfl; exact rfl; simp only [Act.put, List.setIfInBounds_toArray, List.set_cons_succ, List.set_cons_zero])) | go_big_quiet_step (fail) | (go_big_quiet_want; go_big_quiet_op; refine ⟨_, fun _ _ => rfl, ?_⟩; go_big_quiet_on))); refine wpQuiet_nil ?_)
        obtain ⟨wd, hwd⟩ : ∃ wd, wo.drew = wd := ⟨_, rfl⟩
        rw [hwd] at hbd ⊢
        clear hwd
        have lN := qN.lt
        have lR := qR.lt
        replace hown := own_below hown hbd
        have HTd := Lib.hid (HT.out.below hbd)
        replace qN := qN.below hbd lN
        replace qR := qR.below hbd lR
        replace hMo := hMo.below hbd
        replace hO := hO.belows hbd
        have sO := hO.size
        clear HT hbd lN lR
        have lN := qN.lt
        have lR := qR.lt
        refine wpMid_of_list ?_
        go_wp2_with ((go_at_call 73; (with_reducible refine (ST'.out _ _ _ BA.out BB.out BC.out hMo).mono ?_); rintro e w' ⟨t1, cs1, a1, L1, rfl, hT1, hM1, hO1, hf1, hR1⟩))
        obtain ⟨w10, rfl⟩ : ∃ x, x = w' := ⟨_, rfl⟩
        replace qN := hO1.blk qN (by omega)
        replace qR := hO1.blk qR (by omega)
        have CL := Lib.hid hT1.len
        have CO := Lib.hid hT1.isT.ones
        have o10 := own_only hown hO1 vB
        refine ⟨rfl, qN, ?_⟩
        clear hMo BA BB BC
        have lN1 := qN.lt
        have lR1 := qR.lt
        refine wpMid_of_list ?_
        go_wp2_with (((with_reducible refine' wpList_build_sts (css := [cs1]) rfl ?_ Tryd.underlying23 inf_node ?_ ?_ ?_ ?_ ?_ ?_); exact rfl; exact rfl; (first | omega | decide); (first | omega | decide); exact rfl; (intro c hc; simp at hc; subst hc; exact CL.out); intro w11 k11 hN11 hz11; simp only [Act.put, List.setIfInBounds_toArray, List.set_cons_succ, List.set_cons_zero]))
        rw [show [cs1].flatten = cs1 by simp] at k11
        replace qN := qN.below hN11 lN1
        replace qR := qR.below hN11 lR1
        refine ⟨rfl, qN, ?_⟩
        have o11 := own_below o10 hN11
        have r11 := k11.rdall 1 4 CL.out (by unfold maxLen; omega)
        have sz11 := hO1.size
        have sz12 := hN11.size
        refine wpMid_of_list ?_
        go_wp2_with (((with_reducible refine' wpList_append_at (.tmp 31) (.tmp 36) 23 rfl ?_ Tryd.underlying23 inf_node ?_ ?_ ?_ o11 ?_ r11 CO.out ?_ ?_ (by omega) ?_); exact rfl; exact rfl; omega; exact rfl; exact rfl; (first | omega | (unfold maxLen; omega)); omega; intro v' w12 o12 hg12 hst; simp only [Act.put, List.setIfInBounds_toArray, List.set_cons_succ, List.set_cons_zero]))
        have HT12 := Lib.hid (kids_next hown HTd.out hO1 hT1 hN11 hg12 hst (fun b h => by have := h.1; omega) (fun b h => ⟨by omega, by omega, by omega⟩))
        replace qN := qN.grown hg12 (fun e => vN e.symm)
        replace qR := qR.grown hg12 (fun e => vR e.symm)
        have hM12 := (hM1.below hN11).grown hg12 (fun e => vB e.symm) (fun b hb => by have := (hown.lt b hb).1; omega)
        have hO12 := (hO.trans' hO1 |>.belows hN11).past hg12 (fun b hb => by have := (hown.lt b hb).1; omega)
        refine ⟨rfl, qN, ?_⟩
        clear hown HTd hT1 hN11 hg12 hst hO1 o10 o11 r11 k11 hM1 hO vN vR vB
        refine wpMid_nil ?_
        have l3 := Lib.hid (show 3 < ([.int .i64 13, .int .i64 0, .int .i64 0, v] : List Value).length by simp)
        go_wp2_with (first | ((with_reducible refine' wpList_field_blk (j := 3) (.tmp 5) 25 3 rfl ?_ fo_node_3 ?_ rfl ?_); exact rfl; exact rfl; simp only [Act.put, List.setIfInBounds_toArray, List.set_cons_succ, List.set_cons_zero]) | ((with_reducible refine' wpList_set_blk (u := v') 23 (.tmp 38) (.tmp 37) rfl ?_ sz_nds ?_ ?_ qN (l3.out) ?_ ?_); exact rfl; exact rfl; exact rfl; exact (own_one o12); intro w13 k13 hO13 hz13; simp only [Act.put, List.setIfInBounds_toArray, List.set_cons_succ, List.set_cons_zero]))
        refine onlyN ?_
        have HT13 := Lib.hid (HT12.out.only hO13 (fun b h => h.1.2.1))
        have o13 := own_only o12 hO13 (own_ne o12 (by omega))
        have qR13 := hO13.blk qR (by omega)
        have hM13 := hM12.only hO13 (by omega) (by omega)
        have hO14 := hO12.far hO13 (by omega)
        have HF12 := Lib.hid (show ∀ t ∈ ts ++ [t1], tfits t 5 = true from fun t ht => by
          rcases List.mem_append.1 ht with ht | ht
          · exact HF.out t ht
          · obtain rfl := List.mem_singleton.1 ht; exact hf1)
        unfold Ran at hR1
        have g1 : tdepths (ts ++ [t1]) ≤ dm := by rw [tdepths_snoc]; omega
        have g2 : (tsizes (ts ++ [t1]) : Int) ≤ L - 1 - L1 := by rw [tsizes_snoc]; omega
        clear HT12 o12 qR qN hM12 hO12 hO13 X2 X3 hb0 HF
        go_wp2_with fail
        go_roundw
        case rel => (first | exact ⟨j + 1, a1, ts ++ [t1], L1, v', xs ++ cs1, by go_num, by simp [hts], by omega, o13, HT13, k13, qR13, hM13, hO14, HF12, g1, g2, by omega, by omega, by omega, fun h => by have := hd6 h; omega⟩ | ((repeat apply Exists.intro); exact ⟨⟨j + 1, a1, ts ++ [t1], L1, v', xs ++ cs1, by go_num, by simp [hts], by omega, o13, HT13, k13, qR13, hM13, hO14, HF12, g1, g2, by omega, by omega, by omega, fun h => by have := hd6 h; omega⟩, rfl⟩))
        case measure => simp [intOf]; omega
      ·
        have hMo : Mk w0 wo B l a' L' := ⟨lv2, hB, hr, hB0, hb0⟩
        go_wp2_with (first | (((with_reducible refine' wpList_field_blk (j := 2) (.tmp 23) 66 2 rfl ?_ fo_mk_2 ?_ rfl ?_); exact rfl; exact rfl; simp only [Act.put, List.setIfInBounds_toArray, List.set_cons_succ, List.set_cons_zero])) | ((with_reducible refine' wpList_load_blk (.tmp 24) 3 rfl ?_ ld_int ?_ hB (X2.out) ?_); exact rfl; exact rfl; simp only [Act.put, List.setIfInBounds_toArray, List.set_cons_succ, List.set_cons_zero]) | ((with_reducible refine' wpList_loadst_blk (.tmp 5) 25 rfl ?_ Tryd.underlying25 ?_ sz_node ?_ qN ?_ ?_ ?_); exact rfl; exact rfl; exact rfl; exact rfl; decide; simp only [Act.put, List.setIfInBounds_toArray, List.set_cons_succ, List.set_cons_zero]) | ((with_reducible refine' wpList_store_blk (cs := [.int .i64 13, .int .i64 0, .int .i64 0, v]) 25 (.tmp 4) (.tmp 39) rfl ?_ ?_ ?_ qR sz_node ?_ ?_ ?_ ?_); exact rfl; exact rfl; exact rfl; exact rfl; exact rfl; exact node_ones (own_one hown); intro w13 k13 hO13 hz13; simp only [Act.put]))
        have HT13 := HT.out.only hO13 (fun b h => h.1.2.2)
        have r13 := Rd.of_own (own_only hown hO13 (own_ne hown (by omega)))
        have hM13 := hMo.only hO13 (by omega) (by omega)
        have hO14 := hO.far hO13 (by omega)
        ((try simp only [Exit.inBlock, Exit.then]); refine bodyPost_ret (results_cell_row rfl _ _ _ _ _ _ _ rfl k13 Tryd.underlying25 rfl (by rw [sz_node]; simp)) rfl ?_)
        subst hts
        exact ⟨_, _, _, _, rfl, IsTX.node r13 (fun b hb _ => by have := (hown.lt b hb).1; omega) (HT13.mono fun b h => h.1.1), hM13, hO14, fit_of (by have hj8 : ts.length ≤ 8 := (by omega); simp [fHead, shF, fIs]; omega) (kidsA (s := 5) HF.out (fun j hj => by simp [fWant, shF])), by unfold Ran; rw [tsize, tdepth]; omega, hd6⟩
    ·
      have hMo : Mk w0 wo B l a' L' := ⟨lv2, hB, hr, hB0, hb0⟩
      go_wp2_with (first | (((with_reducible refine' wpList_field_blk (j := 2) (.tmp 23) 66 2 rfl ?_ fo_mk_2 ?_ rfl ?_); exact rfl; exact rfl; simp only [Act.put, List.setIfInBounds_toArray, List.set_cons_succ, List.set_cons_zero])) | ((with_reducible refine' wpList_load_blk (.tmp 24) 3 rfl ?_ ld_int ?_ hB (X2.out) ?_); exact rfl; exact rfl; simp only [Act.put, List.setIfInBounds_toArray, List.set_cons_succ, List.set_cons_zero]) | ((with_reducible refine' wpList_loadst_blk (.tmp 5) 25 rfl ?_ Tryd.underlying25 ?_ sz_node ?_ qN ?_ ?_ ?_); exact rfl; exact rfl; exact rfl; exact rfl; decide; simp only [Act.put, List.setIfInBounds_toArray, List.set_cons_succ, List.set_cons_zero]) | ((with_reducible refine' wpList_store_blk (cs := [.int .i64 13, .int .i64 0, .int .i64 0, v]) 25 (.tmp 4) (.tmp 39) rfl ?_ ?_ ?_ qR sz_node ?_ ?_ ?_ ?_); exact rfl; exact rfl; exact rfl; exact rfl; exact rfl; exact node_ones (own_one hown); intro w13 k13 hO13 hz13; simp only [Act.put]))
      have HT13 := HT.out.only hO13 (fun b h => h.1.2.2)
      have r13 := Rd.of_own (own_only hown hO13 (own_ne hown (by omega)))
      have hM13 := hMo.only hO13 (by omega) (by omega)
      have hO14 := hO.far hO13 (by omega)
      ((try simp only [Exit.inBlock, Exit.then]); refine bodyPost_ret (results_cell_row rfl _ _ _ _ _ _ _ rfl k13 Tryd.underlying25 rfl (by rw [sz_node]; simp)) rfl ?_)
      subst hts
      exact ⟨_, _, _, _, rfl, IsTX.node r13 (fun b hb _ => by have := (hown.lt b hb).1; omega) (HT13.mono fun b h => h.1.1), hM13, hO14, fit_of (by have hj8 : ts.length ≤ 8 := (by omega); simp [fHead, shF, fIs]; omega) (kidsA (s := 5) HF.out (fun j hj => by simp [fWant, shF])), by unfold Ran; rw [tsize, tdepth]; omega, hd6⟩
end Go.Proofs.YtdlhkhnoigbhjaaDoor.Wi
namespace Go.Proofs.YtdlhkhnoigbhjaaDoor.Wi
open Go Go.RowKit Pu Lb
set_option linter.unusedSimpArgs false
set_option linter.unusedVariables false
theorem own_eq {B b o n c : Nat} (h : (Value.slice (some ⟨B, o, none⟩) n c).ownBlock = some b) : B = b := by simpa [Value.ownBlock] using h
theorem deep_zeroX {X : Nat → Prop} (w : World) : IsTX X w (deepT 0) [.int .i64 25, .int .i64 0, .int .i64 0, .slice none 0 0] := by rw [deepT]; exact IsTX.leaf
set_option maxRecDepth 100000 in
theorem deep_any (n : Nat) (w : World) (hn : n ≤ 1000) :
    Calls Tryd.prog 13 #[.int .i64 (n : Int)] w fun e w' => ∃ cs, e = .returned (.agg cs.toArray) ∧ IsTX (fun b => w.heap.size ≤ b) w' (deepT (n - 1)) cs ∧ Below w.heap.size w w' := by
  go_enter Tryd.func13, Tryd.ntmps13
  go_upto_region 1 with (((with_reducible refine' wpList_alloc_blk (cs := nodz) 25 rfl ?_ zr_node ?_ ?_); exact rfl; exact nodz_cells; intro w1 k2 hN1 hz1; simp only [Act.put, List.setIfInBounds_toArray, List.set_cons_succ, List.set_cons_zero]))
  obtain ⟨B2, hB2⟩ : ∃ B, w.heap.size = B := ⟨_, rfl⟩
  rw [hB2] at k2 ⊢
  have HB2 := Lib.hid hB2
  have l2 := k2.lt
  go_upto_region 3 with (first
    | ((with_reducible refine' wpList_of_run (o := ⟨_, .build _ _, _, _, _, _⟩) (v := .agg #[.int .i64 25, .int .i64 0, .int .i64 0, .slice none 0 0]) (w' := w1) ?_ ?_ ?_); exact rfl; kernel_rfl; simp only [Act.put, List.setIfInBounds_toArray, List.set_cons_succ, List.set_cons_zero])
    | (((with_reducible refine' wpList_alloc_blk (cs := nodz) 25 rfl ?_ zr_node ?_ ?_); exact rfl; exact nodz_cells; intro w2 k3 hN2 hz2; simp only [Act.put, List.setIfInBounds_toArray, List.set_cons_succ, List.set_cons_zero]))
    | (((with_reducible refine' wpList_store_blk (cs := [.int .i64 25, .int .i64 0, .int .i64 0, .slice none 0 0]) 25 (.tmp 3) (.tmp 5) rfl ?_ ?_ ?_ k3 sz_node ?_ ?_ ?_ ?_); exact rfl; exact rfl; exact rfl; exact rfl; exact rfl; exact (deep_zero w).ones; intro w3 k3b hO hz3; simp only [Act.put]); replace k3 := k3b))
  obtain ⟨B3, hB3⟩ : ∃ B, w1.heap.size = B := ⟨_, rfl⟩
  rw [hB3] at k3 ⊢
  have HB3 := Lib.hid hB3
  have hb3 : Below w.heap.size w w3 := (hN1.trans (hN2.mono hN1.size)).trans (hO.below hN1.size (by have := hN1.size; have := hN2.size; omega))
  have k2c : Blk w3 B2 25 nodz := hO.blk (k2.below hN2 l2) (by omega)
  have l3 := k3.lt
  have hB23 : B2 < B3 := by omega
  have hB0 : w.heap.size ≤ B2 := by omega
  clear hB3 hB2
  go_loopw [4] (fun i wr => ∃ (j : Nat) (cs : List Value), 1 ≤ j ∧ (j ≤ n ∨ j = 1) ∧ i = .int .i64 (j : Int) ∧ Hid (IsTX (fun b => w.heap.size ≤ b ∧ b ≠ B3 ∧ b ≠ B2) wr (deepT (j - 1)) cs) ∧ Blk wr B3 25 cs ∧ Blk wr B2 25 nodz ∧ Below w.heap.size w wr) (fun i _ => n - (intOf i).toNat)
  case atStart => exact ⟨1, _, by omega, .inr rfl, rfl, Lib.hid (deep_zeroX _), k3, k2c, hb3⟩
  case round =>
    obtain ⟨j, cs, hj, hjn, rfl, HT, q3, q2, hb⟩ := hrel
    have CL := Lib.hid HT.out.len
    have CO := Lib.hid HT.out.isT.ones
    have o3 := q3.lt
    have o2 := q2.lt
    obtain ⟨wo, rfl⟩ : ∃ wo : World, wo = wr := ⟨_, rfl⟩
    by_cases hlt : j < n
    · go_upto_region 4 with (first
        | ((with_reducible refine' wpList_loadst_blk (.tmp 3) 25 rfl ?_ Tryd.underlying25 ?_ sz_node ?_ q3 ?_ ?_ ?_); exact rfl; exact rfl; exact rfl; exact CL.out; decide; simp only [Act.put, List.setIfInBounds_toArray, List.set_cons_succ, List.set_cons_zero])
        | (((with_reducible refine' wpList_build_sts (css := [cs]) rfl ?_ Tryd.underlying23 inf_node ?_ ?_ ?_ ?_ ?_ ?_); exact rfl; exact rfl; (first | omega | decide); (first | omega | decide); exact rfl; (intro c hc; simp at hc; subst hc; exact CL.out); intro w5 k5 hN5 hz5; simp only [Act.put, List.setIfInBounds_toArray, List.set_cons_succ, List.set_cons_zero]))
        | ((with_reducible refine' wpList_of_run (o := ⟨_, .build _ _, _, _, _, _⟩) (v := .agg #[.int .i64 13, .int .i64 0, .int .i64 0, .slice (some ⟨wo.heap.size, 0, none⟩) 1 1]) (w' := w5) ?_ ?_ ?_); exact rfl; kernel_rfl; simp only [Act.put, List.setIfInBounds_toArray, List.set_cons_succ, List.set_cons_zero])
        | ((with_reducible refine' wpList_store_blk (cs := [.int .i64 13, .int .i64 0, .int .i64 0, .slice (some ⟨wo.heap.size, 0, none⟩) 1 1]) 25 (.tmp 3) (.tmp 13) rfl ?_ ?_ ?_ (q3.below hN5 o3) sz_node ?_ ?_ ?_ ?_); exact rfl; exact rfl; exact rfl; exact rfl; exact CL.out; (intro u hu; simp at hu; rcases hu with rfl | rfl | rfl | rfl <;> rfl); intro w6 k6 hO6 hz6; simp only [Act.put]))
      have hs := hb.size
      have hs5 := hN5.size
      have hb6 : Below w.heap.size wo w6 := (hN5.mono hs).trans (hO6.below (by omega) (by omega))
      have HK : Hid (IsTX (fun b => w.heap.size ≤ b ∧ b ≠ B3 ∧ b ≠ B2) w6 (deepT (j + 1 - 1)) [.int .i64 13, .int .i64 0, .int .i64 0, .slice (some ⟨wo.heap.size, 0, none⟩) 1 1]) := Lib.hid (by
        rw [show j + 1 - 1 = (j - 1) + 1 by omega, deepT]
        have k6' : Blk w6 wo.heap.size 25 cs := by have := hO6.blk k5 (by omega); simpa using this
        exact IsTX.node (xs := cs) (k6'.rdall 1 4 CL.out (by unfold maxLen; omega)) (fun b hb _ => by obtain rfl := own_eq hb; exact ⟨hs, by omega, by omega⟩) (IsTsX.one ((HT.out.below hN5).only hO6 (fun b h => h.2.1))))
      have q2' := hO6.blk (q2.below hN5 o2) (by omega)
      clear HT k5 q3 q2
      go_wp2_with fail
      go_roundw
      case rel => exact ⟨j + 1, _, by omega, by omega, by go_num, HK, k6, q2', hb.trans hb6⟩
      case measure => simp [intOf]; omega
    · go_wp2_with (first | ((with_reducible refine' wpList_loadst_blk (.tmp 3) 25 rfl ?_ Tryd.underlying25 ?_ sz_node ?_ q3 ?_ ?_ ?_); exact rfl; exact rfl; exact rfl; exact CL.out; decide; simp only [Act.put, List.setIfInBounds_toArray, List.set_cons_succ, List.set_cons_zero]) | ((with_reducible refine' wpList_store_blk (cs := cs) 25 (.tmp 2) (.tmp 14) rfl ?_ ?_ ?_ q2 sz_node ?_ ?_ ?_ ?_); exact rfl; exact rfl; exact rfl; exact CL.out; exact rfl; exact CO.out; intro w6 k6 hO6 hz6; simp only [Act.put]))
      have hs := hb.size
      have hb6 : Below w.heap.size w w6 := hb.trans (hO6.below (by omega) (by omega))
      have HK := HT.out.only hO6 (fun b h => h.2.2)
      rw [show j - 1 = n - 1 by omega] at HK
      ((try simp only [Exit.inBlock, Exit.then]); refine bodyPost_ret (results_cell_row rfl _ _ _ _ _ _ _ rfl k6 Tryd.underlying25 rfl (by rw [sz_node]; simp [CL.out])) rfl ?_)
      exact ⟨cs, rfl, HK.mono (fun b h => h.1), hb6⟩
end Go.Proofs.YtdlhkhnoigbhjaaDoor.Wi
namespace Go.Proofs.YtdlhkhnoigbhjaaDoor.Wi
open Go Go.RowKit Pu Lb
set_option linter.unusedSimpArgs false
set_option linter.unusedVariables false
theorem some_any (l : List Int) (hl : ∀ x ∈ l, I64 x) (w0 : World) (B d : Nat) (hd : d ≤ 5) (n : Nat) (hn : n ≤ 3) (a : Nat) (L : Int) (w : World) (h1 : (a : Int) + 3 * L ≤ 10000) (h2 : -10000 + (n * eov d : Int) ≤ L) (h3 : L ≤ 1000) (hM : Mk w0 w B l a L) :
    Calls Tryd.prog 91 #[.pointer (some ⟨B, 0, none⟩), .int .i64 (n : Int), .int .i64 (d : Int)] w fun e w' => MadeL w0 w B l 4 n (eov d) (d + 1) a L e w' := by
  have he : eov d ≤ 1000 := by
    have : ∀ d, d ≤ 5 → eov d ≤ 1000 := by decide
    exact this d hd
  exact some_of l w0 B d (eov d) (d + 1) he (expr_any l hl w0 B d hd) n hn a L w h1 h2 h3 hM
set_option maxRecDepth 100000 in
set_option maxHeartbeats 3200000 in
theorem stmt_step (l : List Int) (hl : ∀ x ∈ l, I64 x) (w0 : World) (B : Nat) (D : Int) (hDm : -1 ≤ D) (hDx : D ≤ 100) (ov dm : Nat) (hov : 14 ≤ ov) (hov2 : ov ≤ 1000) (hdm : 4 ≤ dm)
    (BL : 0 < D → ∃ o1 d1 : Nat, 2 * o1 + 14 ≤ ov ∧ d1 + 1 ≤ dm ∧ ∀ (a : Nat) (L : Int) (w : World), (a : Int) + 3 * L ≤ 10000 → -10000 + (o1 : Int) ≤ L → L ≤ 1000 → Mk w0 w B l a L → Calls Tryd.prog 48 #[.pointer (some ⟨B, 0, none⟩), .int .i64 (D - 1)] w fun e w' => MadeE w0 w B l 6 o1 d1 a L e w')
    (BD : 0 < D → ∃ o2 d2 : Nat, o2 + 1 ≤ ov ∧ d2 ≤ dm ∧ ∀ (a : Nat) (L : Int) (w : World), (a : Int) + 3 * L ≤ 10000 → -10000 + (o2 : Int) ≤ L → L ≤ 1000 → Mk w0 w B l a L → Calls Tryd.prog 48 #[.pointer (some ⟨B, 0, none⟩), .int .i64 D] w fun e w' => MadeE w0 w B l 6 o2 d2 a L e w')
    (a : Nat) (L : Int) (w : World) (h1 : (a : Int) + 3 * L ≤ 10000) (h2 : -10000 + (ov : Int) ≤ L) (h3 : L ≤ 1000) (hM : Mk w0 w B l a L) :
    Calls Tryd.prog 73 #[.pointer (some ⟨B, 0, none⟩), .int .i64 D] w fun e w' => MadeE w0 w B l 5 ov dm a L e w' := by
  have HL := Lib.hid hl
  have S11 := Lib.hid (some_any l hl w0 B 1 (by omega) 1 (by omega))
  have S12 := Lib.hid (some_any l hl w0 B 2 (by omega) 1 (by omega))
  have S21 := Lib.hid (some_any l hl w0 B 1 (by omega) 2 (by omega))
  have SK1 := Lib.hid (some_any l hl w0 B 1 (by omega))
  have EX := Lib.hid (expr_any l hl w0 B 2 (by omega))
  rw [show eov 2 = 13 from rfl, show ((2 : Nat) : Int) = 2 from rfl] at EX
  rw [show eov 1 = 4 from rfl, show ((1 : Nat) : Int) = 1 from rfl] at S11 SK1
  rw [show eov 2 = 13 from rfl, show ((1 : Nat) : Int) = 1 from rfl, show ((2 : Nat) : Int) = 2 from rfl] at S12
  rw [show eov 1 = 4 from rfl, show ((1 : Nat) : Int) = 1 from rfl, show ((2 : Nat) : Int) = 2 from rfl] at S21
  clear hl
  have lB : B < w.heap.size := by obtain ⟨lv, h, _⟩ := hM; exact h.lt
  have hBw : w0.heap.size ≤ w.heap.size := by obtain ⟨lv, _, _, _, h⟩ := hM; exact h.size
  have hB0 : w0.heap.size ≤ B := by obtain ⟨lv, _, _, h, _⟩ := hM; exact h
  go_enter Tryd.func73, Tryd.ntmps73
  go_upto_region 1 with (((with_reducible refine' wpList_alloc_blk (cs := nodz) 25 rfl ?_ zr_node ?_ ?_); exact rfl; exact nodz_cells; intro w1 kR hN1 hz1; simp only [Act.put, List.setIfInBounds_toArray, List.set_cons_succ, List.set_cons_zero]))
  obtain ⟨R, hR⟩ : ∃ R, w.heap.size = R := ⟨_, rfl⟩
  rw [hR] at kR ⊢
  have hRB : R ≠ B := by omega
  replace hM := hM.below hN1
  have hO : Only B w w1 := (Only.refl B w).belows hN1
  have lR := kR.lt
  clear hN1 hz1
  go_upto_region 2 with (first
    | ((go_at_call 47; (with_reducible refine (num_ex w0 B l _ _ 14 _ hM HL.out (by omega) (by omega) (by unfold I64; omega)).mono ?_); rintro e w' ⟨x0, rfl, hxa0, hxa1, hM2, hO2⟩); replace hM := hM2; replace hO := hO.trans' hO2; replace kR := hO2.blk kR hRB; have sqhxa := hO2.size; clear hM2 hO2))
  obtain ⟨lv, hB, hr, hB0', hb0⟩ := hM
  have X1 := Lib.hid (show ([lv, .int .i64 ((a + 1 : Nat) : Int), .int .i64 L] : List Value)[2]? = some (.int .i64 L) from rfl)
  have LN := Lib.hid (show 2 < ([lv, .int .i64 ((a + 1 : Nat) : Int), .int .i64 L] : List Value).length by simp)
  go_upto_region 3 with (first
    | (((with_reducible refine' wpList_field_blk (j := 2) (.tmp 9) 66 2 rfl ?_ fo_mk_2 ?_ rfl ?_); exact rfl; exact rfl; simp only [Act.put, List.setIfInBounds_toArray, List.set_cons_succ, List.set_cons_zero])) | (((with_reducible refine' wpList_field_blk (j := 2) (.tmp 13) 66 2 rfl ?_ fo_mk_2 ?_ rfl ?_); exact rfl; exact rfl; simp only [Act.put, List.setIfInBounds_toArray, List.set_cons_succ, List.set_cons_zero])) | ((with_reducible refine' wpList_load_blk (.tmp 10) 3 rfl ?_ ld_int ?_ hB (X1.out) ?_); exact rfl; exact rfl; simp only [Act.put, List.setIfInBounds_toArray, List.set_cons_succ, List.set_cons_zero])
    | (((with_reducible refine' wpList_set_blk (u := .int .i64 (L - 1)) 3 (.tmp 14) (.tmp 12) rfl ?_ sz_int ?_ ?_ hB (LN.out) ?_ ?_); exact rfl; exact rfl; exact rfl; exact rfl; intro w2 k2 hO2 hz2; simp only [Act.put])))
  have X2 := Lib.hid (show ([lv, .int .i64 ((a + 1 : Nat) : Int), .int .i64 (L - 1)] : List Value)[2]? = some (.int .i64 (L - 1)) from rfl)
  replace kR := hO2.blk kR hRB
  replace hO := hO.trans' hO2
  have hM : Mk w0 w2 B l (a + 1) (L - 1) := ⟨lv, k2, hr, hB0, hb0.trans (hO2.below hB0 hb0.size)⟩
  clear hB hr hb0 hO2 hz2 X1 LN
  go_cut [23] from 15 to 23 (fun v wr => v = .bool (decide (D ≤ 0 ∨ L - 1 ≤ 0)) ∧ w2 = wr)
  case first =>
    by_cases c1 : D ≤ 0
    · have e1 : decide (D ≤ 0 ∨ L - 1 ≤ 0) = true := decide_eq_true (.inl c1)
      go_wp2_with (first | (((with_reducible refine' wpList_field_blk (j := 2) (.tmp 19) 66 2 rfl ?_ fo_mk_2 ?_ rfl ?_); exact rfl; exact rfl; simp only [Act.put, List.setIfInBounds_toArray, List.set_cons_succ, List.set_cons_zero])) | ((with_reducible refine' wpList_load_blk (.tmp 20) 3 rfl ?_ ld_int ?_ k2 (X2.out) ?_); exact rfl; exact rfl; simp only [Act.put, List.setIfInBounds_toArray, List.set_cons_succ, List.set_cons_zero]))
      go_meet
      case rel => (first | exact ⟨by rw [e1], rfl⟩ | ((repeat apply Exists.intro); exact ⟨⟨by rw [e1], rfl⟩, rfl⟩))
    · by_cases c2 : L - 1 ≤ 0
      · have e1 : decide (D ≤ 0 ∨ L - 1 ≤ 0) = true := decide_eq_true (.inr c2)
        go_wp2_with (first | (((with_reducible refine' wpList_field_blk (j := 2) (.tmp 19) 66 2 rfl ?_ fo_mk_2 ?_ rfl ?_); exact rfl; exact rfl; simp only [Act.put, List.setIfInBounds_toArray, List.set_cons_succ, List.set_cons_zero])) | ((with_reducible refine' wpList_load_blk (.tmp 20) 3 rfl ?_ ld_int ?_ k2 (X2.out) ?_); exact rfl; exact rfl; simp only [Act.put, List.setIfInBounds_toArray, List.set_cons_succ, List.set_cons_zero]))
        go_meet
        case rel => (first | exact ⟨by rw [e1], rfl⟩ | ((repeat apply Exists.intro); exact ⟨⟨by rw [e1], rfl⟩, rfl⟩))
      · have e1 : decide (D ≤ 0 ∨ L - 1 ≤ 0) = false := decide_eq_false (fun h => h.elim c1 c2)
        go_wp2_with (first | (((with_reducible refine' wpList_field_blk (j := 2) (.tmp 19) 66 2 rfl ?_ fo_mk_2 ?_ rfl ?_); exact rfl; exact rfl; simp only [Act.put, List.setIfInBounds_toArray, List.set_cons_succ, List.set_cons_zero])) | ((with_reducible refine' wpList_load_blk (.tmp 20) 3 rfl ?_ ld_int ?_ k2 (X2.out) ?_); exact rfl; exact rfl; simp only [Act.put, List.setIfInBounds_toArray, List.set_cons_succ, List.set_cons_zero]))
        go_meet
        case rel => (first | exact ⟨by rw [e1], rfl⟩ | ((repeat apply Exists.intro); exact ⟨⟨by rw [e1], rfl⟩, rfl⟩))
  case rest =>
    obtain ⟨rfl, rfl⟩ := hcut
    go_upto_if 23 with fail
    go_cut [5] from 24 to 25 (fun v wr => ∃ y : Int, v = .int .i64 y ∧ 0 ≤ y ∧ y < 14 ∧ (y < 8 ∨ (0 < D ∧ 1 < L)) ∧ w2 = wr)
    case first =>
      by_cases c1 : (D ≤ 0 ∨ L - 1 ≤ 0)
      · have e1 : decide (D ≤ 0 ∨ L - 1 ≤ 0) = true := decide_eq_true c1
        go_wp2_with fail
        go_meet
        case rel => exact ⟨x0 % 8, rfl, by omega, by omega, .inl (by omega), rfl⟩
      · have e1 : decide (D ≤ 0 ∨ L - 1 ≤ 0) = false := decide_eq_false c1
        go_wp2_with fail
        go_meet
        case rel => exact ⟨x0, rfl, by omega, by omega, .inr (by omega), rfl⟩
    case rest =>
      clear hxa0 hxa1
      obtain ⟨x0, rfl, hxa, hxb, hxl, rfl⟩ := hcut
      have hx12 : x0 = 0 ∨ x0 = 1 ∨ x0 = 2 ∨ x0 = 3 ∨ x0 = 4 ∨ x0 = 5 ∨ x0 = 6 ∨ x0 = 7 ∨ x0 = 8 ∨ x0 = 9 ∨ x0 = 10 ∨ x0 = 11 ∨ x0 = 12 ∨ x0 = 13 := by omega
      have SZ := hO.size
      replace hM : Mk w0 w2 B l (a + 1) (L - 1) := hM
      have lR2 := kR.lt
      clear X2 k2
      rcases hx12 with rfl | rfl | rfl | rfl | rfl | rfl | rfl | rfl | rfl | rfl | rfl | rfl | rfl | rfl
      ·
        go_wp2_with (first
          | ((go_at_call 47; (with_reducible refine (num_ex w0 B l _ _ 6 _ hM HL.out (by omega) (by omega) (by unfold I64; omega)).mono ?_); rintro e w' ⟨x, rfl, hx0, hx1, hM2, hO2⟩); replace hM := hM2; replace hO := hO.trans' hO2; replace kR := hO2.blk kR hRB; have sqhx := hO2.size; clear hM2 hO2)
          | ((go_at_call 91; (with_reducible refine (S12.out _ _ _ (by omega) (by omega) (by omega) hM).mono ?_); rintro e w' ⟨v, ts, xs, a2, L2, rfl, hts, hown, HT, hM2, hO2, hf, hRn⟩); have hRl := kR.lt; replace hM := hM2; replace hO := hO.trans' hO2; replace kR := hO2.blk kR hRB; clear hM2 hO2; obtain ⟨va, vn, vc, rfl⟩ := own_sl hown)
          | ((with_reducible refine' wpList_of_run (o := ⟨_, .build _ _, _, _, _, _⟩) (v := .agg #[.int .i64 14, .int .i64 x, .int .i64 0, .slice va vn vc]) (w' := _) ?_ ?_ ?_); exact rfl; kernel_rfl; simp only [Act.put, List.setIfInBounds_toArray, List.set_cons_succ, List.set_cons_zero])
          | ((with_reducible refine' wpList_store_blk (cs := [.int .i64 14, .int .i64 x, .int .i64 0, .slice va vn vc]) 25 (.tmp 4) (.tmp 125) rfl ?_ ?_ ?_ kR sz_node ?_ ?_ ?_ ?_); exact rfl; exact rfl; exact rfl; exact rfl; exact rfl; exact node_ones rfl; intro w3 kR3 hO3 hz3; simp only [Act.put]))
        have hMf := hM.only hO3 (by omega) (by omega)
        have hOf := hO.far hO3 (by omega)
        have hownf := own_only hown hO3 (own_ne hown (by omega))
        have HTf := HT.only hO3 (fun b h => by omega)
        ((try simp only [Exit.inBlock, Exit.then]); refine bodyPost_ret (results_cell_row rfl _ _ _ _ _ _ _ rfl kR3 Tryd.underlying25 rfl (by rw [sz_node]; rfl)) rfl ?_)
        refine ⟨_, _, _, _, rfl, IsTX.node (by rw [hts]; exact Rd.of_own hownf) (fun b hb _ => by have := (hown.lt b hb).1; omega) (HTf.mono fun b h => by omega), hMf, hOf, fit_of (by rw [hts]; first | (simp [fHead, shF, fIs]; done) | (simp [fHead, shF, fIs]; omega)) (kidsA (s := 4) hf (fun j hj => by rw [hts] at hj ⊢; obtain rfl : j = 0 := (by omega); simp [fWant, shF])), ?_⟩
        unfold Ran at hRn ⊢
        rw [tsize, tdepth]
        omega
      ·
        go_wp2_with (first
          | ((go_at_call 91; (with_reducible refine (S12.out _ _ _ (by omega) (by omega) (by omega) hM).mono ?_); rintro e w' ⟨v, ts, xs, a2, L2, rfl, hts, hown, HT, hM2, hO2, hf, hRn⟩); have hRl := kR.lt; replace hM := hM2; replace hO := hO.trans' hO2; replace kR := hO2.blk kR hRB; clear hM2 hO2; obtain ⟨va, vn, vc, rfl⟩ := own_sl hown)
          | ((with_reducible refine' wpList_of_run (o := ⟨_, .build _ _, _, _, _, _⟩) (v := .agg #[.int .i64 19, .int .i64 0, .int .i64 0, .slice va vn vc]) (w' := _) ?_ ?_ ?_); exact rfl; kernel_rfl; simp only [Act.put, List.setIfInBounds_toArray, List.set_cons_succ, List.set_cons_zero])
          | ((with_reducible refine' wpList_store_blk (cs := [.int .i64 19, .int .i64 0, .int .i64 0, .slice va vn vc]) 25 (.tmp 4) (.tmp 31) rfl ?_ ?_ ?_ kR sz_node ?_ ?_ ?_ ?_); exact rfl; exact rfl; exact rfl; exact rfl; exact rfl; exact node_ones rfl; intro w3 kR3 hO3 hz3; simp only [Act.put]))
        have hMf := hM.only hO3 (by omega) (by omega)
        have hOf := hO.far hO3 (by omega)
        have hownf := own_only hown hO3 (own_ne hown (by omega))
        have HTf := HT.only hO3 (fun b h => by omega)
        ((try simp only [Exit.inBlock, Exit.then]); refine bodyPost_ret (results_cell_row rfl _ _ _ _ _ _ _ rfl kR3 Tryd.underlying25 rfl (by rw [sz_node]; rfl)) rfl ?_)
        refine ⟨_, _, _, _, rfl, IsTX.node (by rw [hts]; exact Rd.of_own hownf) (fun b hb _ => by have := (hown.lt b hb).1; omega) (HTf.mono fun b h => by omega), hMf, hOf, fit_of (by rw [hts]; first | (simp [fHead, shF, fIs]; done) | (simp [fHead, shF, fIs]; omega)) (kidsA (s := 4) hf (fun j hj => by rw [hts] at hj ⊢; obtain rfl : j = 0 := (by omega); simp [fWant, shF])), ?_⟩
        unfold Ran at hRn ⊢
        rw [tsize, tdepth]
        omega
      ·
        go_wp2_with (first
          | ((go_at_call 91; (with_reducible refine (S11.out _ _ _ (by omega) (by omega) (by omega) hM).mono ?_); rintro e w' ⟨v, ts, xs, a2, L2, rfl, hts, hown, HT, hM2, hO2, hf, hRn⟩); have hRl := kR.lt; replace hM := hM2; replace hO := hO.trans' hO2; replace kR := hO2.blk kR hRB; clear hM2 hO2; obtain ⟨va, vn, vc, rfl⟩ := own_sl hown)
          | ((with_reducible refine' wpList_of_run (o := ⟨_, .build _ _, _, _, _, _⟩) (v := .agg #[.int .i64 20, .int .i64 0, .int .i64 0, .slice va vn vc]) (w' := _) ?_ ?_ ?_); exact rfl; kernel_rfl; simp only [Act.put, List.setIfInBounds_toArray, List.set_cons_succ, List.set_cons_zero])
          | ((with_reducible refine' wpList_store_blk (cs := [.int .i64 20, .int .i64 0, .int .i64 0, .slice va vn vc]) 25 (.tmp 4) (.tmp 36) rfl ?_ ?_ ?_ kR sz_node ?_ ?_ ?_ ?_); exact rfl; exact rfl; exact rfl; exact rfl; exact rfl; exact node_ones rfl; intro w3 kR3 hO3 hz3; simp only [Act.put]))
        have hMf := hM.only hO3 (by omega) (by omega)
        have hOf := hO.far hO3 (by omega)
        have hownf := own_only hown hO3 (own_ne hown (by omega))
        have HTf := HT.only hO3 (fun b h => by omega)
        ((try simp only [Exit.inBlock, Exit.then]); refine bodyPost_ret (results_cell_row rfl _ _ _ _ _ _ _ rfl kR3 Tryd.underlying25 rfl (by rw [sz_node]; rfl)) rfl ?_)
        refine ⟨_, _, _, _, rfl, IsTX.node (by rw [hts]; exact Rd.of_own hownf) (fun b hb _ => by have := (hown.lt b hb).1; omega) (HTf.mono fun b h => by omega), hMf, hOf, fit_of (by rw [hts]; first | (simp [fHead, shF, fIs]; done) | (simp [fHead, shF, fIs]; omega)) (kidsA (s := 4) hf (fun j hj => by rw [hts] at hj ⊢; obtain rfl : j = 0 := (by omega); simp [fWant, shF])), ?_⟩
        unfold Ran at hRn ⊢
        rw [tsize, tdepth]
        omega
      ·
        go_wp2_with (first
          | ((go_at_call 47; (with_reducible refine (num_ex w0 B l _ _ 3 _ hM HL.out (by omega) (by omega) (by unfold I64; omega)).mono ?_); rintro e w' ⟨x, rfl, hx0, hx1, hM2, hO2⟩); replace hM := hM2; replace hO := hO.trans' hO2; replace kR := hO2.blk kR hRB; have sqhx := hO2.size; clear hM2 hO2)
          | ((go_at_call 91; (with_reducible refine (S12.out _ _ _ (by omega) (by omega) (by omega) hM).mono ?_); rintro e w' ⟨v, ts, xs, a2, L2, rfl, hts, hown, HT, hM2, hO2, hf, hRn⟩); have hRl := kR.lt; replace hM := hM2; replace hO := hO.trans' hO2; replace kR := hO2.blk kR hRB; clear hM2 hO2; obtain ⟨va, vn, vc, rfl⟩ := own_sl hown)
          | ((with_reducible refine' wpList_of_run (o := ⟨_, .build _ _, _, _, _, _⟩) (v := .agg #[.int .i64 22, .int .i64 x, .int .i64 0, .slice va vn vc]) (w' := _) ?_ ?_ ?_); exact rfl; kernel_rfl; simp only [Act.put, List.setIfInBounds_toArray, List.set_cons_succ, List.set_cons_zero])
          | ((with_reducible refine' wpList_store_blk (cs := [.int .i64 22, .int .i64 x, .int .i64 0, .slice va vn vc]) 25 (.tmp 4) (.tmp 43) rfl ?_ ?_ ?_ kR sz_node ?_ ?_ ?_ ?_); exact rfl; exact rfl; exact rfl; exact rfl; exact rfl; exact node_ones rfl; intro w3 kR3 hO3 hz3; simp only [Act.put]))
        have hMf := hM.only hO3 (by omega) (by omega)
        have hOf := hO.far hO3 (by omega)
        have hownf := own_only hown hO3 (own_ne hown (by omega))
        have HTf := HT.only hO3 (fun b h => by omega)
        ((try simp only [Exit.inBlock, Exit.then]); refine bodyPost_ret (results_cell_row rfl _ _ _ _ _ _ _ rfl kR3 Tryd.underlying25 rfl (by rw [sz_node]; rfl)) rfl ?_)
        refine ⟨_, _, _, _, rfl, IsTX.node (by rw [hts]; exact Rd.of_own hownf) (fun b hb _ => by have := (hown.lt b hb).1; omega) (HTf.mono fun b h => by omega), hMf, hOf, fit_of (by rw [hts]; first | (simp [fHead, shF, fIs]; done) | (simp [fHead, shF, fIs]; omega)) (kidsA (s := 4) hf (fun j hj => by rw [hts] at hj ⊢; obtain rfl : j = 0 := (by omega); simp [fWant, shF])), ?_⟩
        unfold Ran at hRn ⊢
        rw [tsize, tdepth]
        omega
      ·
        go_wp2_with (first
          | ((go_at_call 91; (with_reducible refine (S12.out _ _ _ (by omega) (by omega) (by omega) hM).mono ?_); rintro e w' ⟨v, ts, xs, a2, L2, rfl, hts, hown, HT, hM2, hO2, hf, hRn⟩); have hRl := kR.lt; replace hM := hM2; replace hO := hO.trans' hO2; replace kR := hO2.blk kR hRB; clear hM2 hO2; obtain ⟨va, vn, vc, rfl⟩ := own_sl hown)
          | ((with_reducible refine' wpList_of_run (o := ⟨_, .build _ _, _, _, _, _⟩) (v := .agg #[.int .i64 24, .int .i64 0, .int .i64 0, .slice va vn vc]) (w' := _) ?_ ?_ ?_); exact rfl; kernel_rfl; simp only [Act.put, List.setIfInBounds_toArray, List.set_cons_succ, List.set_cons_zero])
          | ((with_reducible refine' wpList_store_blk (cs := [.int .i64 24, .int .i64 0, .int .i64 0, .slice va vn vc]) 25 (.tmp 4) (.tmp 48) rfl ?_ ?_ ?_ kR sz_node ?_ ?_ ?_ ?_); exact rfl; exact rfl; exact rfl; exact rfl; exact rfl; exact node_ones rfl; intro w3 kR3 hO3 hz3; simp only [Act.put]))
        have hMf := hM.only hO3 (by omega) (by omega)
        have hOf := hO.far hO3 (by omega)
        have hownf := own_only hown hO3 (own_ne hown (by omega))
        have HTf := HT.only hO3 (fun b h => by omega)
        ((try simp only [Exit.inBlock, Exit.then]); refine bodyPost_ret (results_cell_row rfl _ _ _ _ _ _ _ rfl kR3 Tryd.underlying25 rfl (by rw [sz_node]; rfl)) rfl ?_)
        refine ⟨_, _, _, _, rfl, IsTX.node (by rw [hts]; exact Rd.of_own hownf) (fun b hb _ => by have := (hown.lt b hb).1; omega) (HTf.mono fun b h => by omega), hMf, hOf, fit_of (by rw [hts]; first | (simp [fHead, shF, fIs]; done) | (simp [fHead, shF, fIs]; omega)) (kidsA (s := 4) hf (fun j hj => by rw [hts] at hj ⊢; obtain rfl : j = 0 := (by omega); simp [fWant, shF])), ?_⟩
        unfold Ran at hRn ⊢
        rw [tsize, tdepth]
        omega
      ·
        go_wp2_with (first
          | ((go_at_call 47; (with_reducible refine (num_ex w0 B l _ _ 6 _ hM HL.out (by omega) (by omega) (by unfold I64; omega)).mono ?_); rintro e w' ⟨x, rfl, hx0, hx1, hM2, hO2⟩); replace hM := hM2; replace hO := hO.trans' hO2; replace kR := hO2.blk kR hRB; have sqhx := hO2.size; clear hM2 hO2)
          | ((go_at_call 91; (with_reducible refine (S21.out _ _ _ (by omega) (by omega) (by omega) hM).mono ?_); rintro e w' ⟨v, ts, xs, a2, L2, rfl, hts, hown, HT, hM2, hO2, hf, hRn⟩); have hRl := kR.lt; replace hM := hM2; replace hO := hO.trans' hO2; replace kR := hO2.blk kR hRB; clear hM2 hO2; obtain ⟨va, vn, vc, rfl⟩ := own_sl hown)
          | ((with_reducible refine' wpList_of_run (o := ⟨_, .build _ _, _, _, _, _⟩) (v := .agg #[.int .i64 15, .int .i64 x, .int .i64 0, .slice va vn vc]) (w' := _) ?_ ?_ ?_); exact rfl; kernel_rfl; simp only [Act.put, List.setIfInBounds_toArray, List.set_cons_succ, List.set_cons_zero])
          | ((with_reducible refine' wpList_store_blk (cs := [.int .i64 15, .int .i64 x, .int .i64 0, .slice va vn vc]) 25 (.tmp 4) (.tmp 55) rfl ?_ ?_ ?_ kR sz_node ?_ ?_ ?_ ?_); exact rfl; exact rfl; exact rfl; exact rfl; exact rfl; exact node_ones rfl; intro w3 kR3 hO3 hz3; simp only [Act.put]))
        have hMf := hM.only hO3 (by omega) (by omega)
        have hOf := hO.far hO3 (by omega)
        have hownf := own_only hown hO3 (own_ne hown (by omega))
        have HTf := HT.only hO3 (fun b h => by omega)
        ((try simp only [Exit.inBlock, Exit.then]); refine bodyPost_ret (results_cell_row rfl _ _ _ _ _ _ _ rfl kR3 Tryd.underlying25 rfl (by rw [sz_node]; rfl)) rfl ?_)
        refine ⟨_, _, _, _, rfl, IsTX.node (by rw [hts]; exact Rd.of_own hownf) (fun b hb _ => by have := (hown.lt b hb).1; omega) (HTf.mono fun b h => by omega), hMf, hOf, fit_of (by rw [hts]; first | (simp [fHead, shF, fIs]; done) | (simp [fHead, shF, fIs]; omega)) (kidsA (s := 4) hf (fun j hj => by rw [hts] at hj ⊢; rcases (show j = 0 ∨ j = 1 by omega) with rfl | rfl <;> simp [fWant, shF])), ?_⟩
        unfold Ran at hRn ⊢
        rw [tsize, tdepth]
        omega
      ·
        go_wp2_with (first
          | ((go_at_call 47; (with_reducible refine (num_ex w0 B l _ _ 6 _ hM HL.out (by omega) (by omega) (by unfold I64; omega)).mono ?_); rintro e w' ⟨x, rfl, hx0, hx1, hM2, hO2⟩); replace hM := hM2; replace hO := hO.trans' hO2; replace kR := hO2.blk kR hRB; have sqhx := hO2.size; clear hM2 hO2)
          | ((go_at_call 47; (with_reducible refine (num_ex w0 B l _ _ 3 _ hM HL.out (by omega) (by omega) (by unfold I64; omega)).mono ?_); rintro e w' ⟨y, rfl, hy0, hy1, hM2, hO2⟩); replace hM := hM2; replace hO := hO.trans' hO2; replace kR := hO2.blk kR hRB; have sqhy := hO2.size; clear hM2 hO2)
          | ((go_at_call 91; (with_reducible refine (S12.out _ _ _ (by omega) (by omega) (by omega) hM).mono ?_); rintro e w' ⟨v, ts, xs, a2, L2, rfl, hts, hown, HT, hM2, hO2, hf, hRn⟩); have hRl := kR.lt; replace hM := hM2; replace hO := hO.trans' hO2; replace kR := hO2.blk kR hRB; clear hM2 hO2; obtain ⟨va, vn, vc, rfl⟩ := own_sl hown)
          | ((with_reducible refine' wpList_of_run (o := ⟨_, .build _ _, _, _, _, _⟩) (v := .agg #[.int .i64 16, .int .i64 x, .int .i64 y, .slice va vn vc]) (w' := _) ?_ ?_ ?_); exact rfl; kernel_rfl; simp only [Act.put, List.setIfInBounds_toArray, List.set_cons_succ, List.set_cons_zero])
          | ((with_reducible refine' wpList_store_blk (cs := [.int .i64 16, .int .i64 x, .int .i64 y, .slice va vn vc]) 25 (.tmp 4) (.tmp 64) rfl ?_ ?_ ?_ kR sz_node ?_ ?_ ?_ ?_); exact rfl; exact rfl; exact rfl; exact rfl; exact rfl; exact node_ones rfl; intro w3 kR3 hO3 hz3; simp only [Act.put]))
        have hMf := hM.only hO3 (by omega) (by omega)
        have hOf := hO.far hO3 (by omega)
        have hownf := own_only hown hO3 (own_ne hown (by omega))
        have HTf := HT.only hO3 (fun b h => by omega)
        ((try simp only [Exit.inBlock, Exit.then]); refine bodyPost_ret (results_cell_row rfl _ _ _ _ _ _ _ rfl kR3 Tryd.underlying25 rfl (by rw [sz_node]; rfl)) rfl ?_)
        refine ⟨_, _, _, _, rfl, IsTX.node (by rw [hts]; exact Rd.of_own hownf) (fun b hb _ => by have := (hown.lt b hb).1; omega) (HTf.mono fun b h => by omega), hMf, hOf, fit_of (by rw [hts]; first | (simp [fHead, shF, fIs]; done) | (simp [fHead, shF, fIs]; omega)) (kidsA (s := 4) hf (fun j hj => by rw [hts] at hj ⊢; obtain rfl : j = 0 := (by omega); simp [fWant, shF])), ?_⟩
        unfold Ran at hRn ⊢
        rw [tsize, tdepth]
        omega
      ·
        go_wp2_with (first
          | ((with_reducible refine' wpList_of_run (o := ⟨_, .build _ _, _, _, _, _⟩) (v := .agg #[.int .i64 25, .int .i64 0, .int .i64 0, .slice none 0 0]) (w' := _) ?_ ?_ ?_); exact rfl; kernel_rfl; simp only [Act.put, List.setIfInBounds_toArray, List.set_cons_succ, List.set_cons_zero])
          | ((with_reducible refine' wpList_store_blk (cs := [.int .i64 25, .int .i64 0, .int .i64 0, .slice none 0 0]) 25 (.tmp 4) (.tmp 67) rfl ?_ ?_ ?_ kR sz_node ?_ ?_ ?_ ?_); exact rfl; exact rfl; exact rfl; exact rfl; exact rfl; exact node_ones rfl; intro w3 kR3 hO3 hz3; simp only [Act.put]))
        have hMf := hM.only hO3 (by omega) (by omega)
        have hOf := hO.far hO3 (by omega)
        ((try simp only [Exit.inBlock, Exit.then]); refine bodyPost_ret (results_cell_row rfl _ _ _ _ _ _ _ rfl kR3 Tryd.underlying25 rfl (by rw [sz_node]; rfl)) rfl ?_)
        exact ⟨_, _, _, _, rfl, IsTX.leaf, hMf, hOf, fit_leaf (by simp [fHead, shF, fIs]), by unfold Ran; rw [tsize, tdepth, tsizes, tdepths]; omega⟩
      ·
        go_wp2_with (first
          | ((go_at_call 47; (with_reducible refine (num_ex w0 B l _ _ 6 _ hM HL.out (by omega) (by omega) (by unfold I64; omega)).mono ?_); rintro e w' ⟨x, rfl, hx0, hx1, hM2, hO2⟩); replace hM := hM2; replace hO := hO.trans' hO2; replace kR := hO2.blk kR hRB; have sqhx := hO2.size; clear hM2 hO2)
          | ((go_at_call 47; (with_reducible refine (num_ex w0 B l _ _ 4 _ hM HL.out (by omega) (by omega) (by unfold I64; omega)).mono ?_); rintro e w' ⟨x2, rfl, hx2, hx3, hM2, hO2⟩); replace hM := hM2; replace hO := hO.trans' hO2; replace kR := hO2.blk kR hRB; clear hM2 hO2; obtain ⟨K, hK⟩ : ∃ K : Nat, x2 = (K : Int) := ⟨x2.toNat, by omega⟩; subst hK)
          | ((go_at_call 91; (with_reducible refine (SK1.out K (by omega) _ _ _ (by omega) (by omega) (by omega) hM).mono ?_); rintro e w' ⟨v, ts, xs, a2, L2, rfl, hts, hown, HT, hM2, hO2, hf, hRn⟩); have hRl := kR.lt; replace hM := hM2; replace hO := hO.trans' hO2; replace kR := hO2.blk kR hRB; clear hM2 hO2; obtain ⟨va, vn, vc, rfl⟩ := own_sl hown)
          | ((with_reducible refine' wpList_of_run (o := ⟨_, .build _ _, _, _, _, _⟩) (v := .agg #[.int .i64 23, .int .i64 x, .int .i64 0, .slice va vn vc]) (w' := _) ?_ ?_ ?_); exact rfl; kernel_rfl; simp only [Act.put, List.setIfInBounds_toArray, List.set_cons_succ, List.set_cons_zero])
          | ((with_reducible refine' wpList_store_blk (cs := [.int .i64 23, .int .i64 x, .int .i64 0, .slice va vn vc]) 25 (.tmp 4) (.tmp 76) rfl ?_ ?_ ?_ kR sz_node ?_ ?_ ?_ ?_); exact rfl; exact rfl; exact rfl; exact rfl; exact rfl; exact node_ones rfl; intro w3 kR3 hO3 hz3; simp only [Act.put]))
        have hMf := hM.only hO3 (by omega) (by omega)
        have hOf := hO.far hO3 (by omega)
        have hownf := own_only hown hO3 (own_ne hown (by omega))
        have HTf := HT.only hO3 (fun b h => by omega)
        ((try simp only [Exit.inBlock, Exit.then]); refine bodyPost_ret (results_cell_row rfl _ _ _ _ _ _ _ rfl kR3 Tryd.underlying25 rfl (by rw [sz_node]; rfl)) rfl ?_)
        refine ⟨_, _, _, _, rfl, IsTX.node (by rw [hts]; exact Rd.of_own hownf) (fun b hb _ => by have := (hown.lt b hb).1; omega) (HTf.mono fun b h => by omega), hMf, hOf, fit_of (by rw [hts]; first | (simp [fHead, shF, fIs]; done) | (simp [fHead, shF, fIs]; omega)) (kidsA (s := 4) hf (fun j hj => by rw [hts] at hj ⊢; simp [fWant, shF])), ?_⟩
        unfold Ran at hRn ⊢
        rw [tsize, tdepth]
        omega
      ·
        have hD0 : 0 < D := by omega
        obtain ⟨o1, d1, ho1, hd1, BLx⟩ := BL hD0
        have BL1 := Lib.hid BLx
        have BL2 := Lib.hid BLx
        clear BLx BL BD
        go_wp2_with (first
          | ((go_at_call 92; (with_reducible refine (EX.out _ _ _ (by omega) (by omega) (by omega) hM).mono ?_); rintro e w' ⟨t5, cs5, a5, L5, rfl, hT5, hM2, hO5, hf5, hR5⟩); have hRl5 := kR.lt; have CL5 := Lib.hid hT5.len; unfold Ran at hR5; have sz5 := hO5.size; replace hM := hM2; replace hO := hO.trans' hO5; replace kR := hO5.blk kR hRB; clear hM2)
          | ((go_at_call 48; (with_reducible refine (BL1.out _ _ _ (by omega) (by omega) (by omega) hM).mono ?_); rintro e w' ⟨t6, cs6, a6, L6, rfl, hT6, hM2, hO6, hf6, hR6⟩); clear BL1; have hRl6 := kR.lt; have CL6 := Lib.hid hT6.len; unfold Ran at hR6; have sz6 := hO6.size; replace hM := hM2; replace hO := hO.trans' hO6; replace kR := hO6.blk kR hRB; clear hM2)
          | ((go_at_call 48; (with_reducible refine (BL2.out _ _ _ (by omega) (by omega) (by omega) hM).mono ?_); rintro e w' ⟨t7, cs7, a7, L7, rfl, hT7, hM2, hO7, hf7, hR7⟩); clear BL2; have hRl7 := kR.lt; have CL7 := Lib.hid hT7.len; unfold Ran at hR7; have sz7 := hO7.size; replace hM := hM2; replace hO := hO.trans' hO7; replace kR := hO7.blk kR hRB; clear hM2)
          | (((with_reducible refine' wpList_build_sts (css := [cs5, cs6, cs7]) rfl ?_ Tryd.underlying23 inf_node ?_ ?_ ?_ ?_ ?_ ?_); exact rfl; exact rfl; (first | omega | decide); (first | omega | decide); exact rfl; (intro c hc; simp at hc; rcases hc with rfl | rfl | rfl <;> first | exact CL5.out | exact CL6.out | exact CL7.out); intro w11 k11 hN11 hz11; simp only [Act.put, List.setIfInBounds_toArray, List.set_cons_succ, List.set_cons_zero]); have l9 := kR.lt; replace kR := kR.below hN11 l9; have hMb := hM.below hN11; obtain ⟨P, hP⟩ : ∃ P, w'.heap.size = P := ⟨_, rfl⟩; rw [hP] at k11 hz11 ⊢; have hOb := hO.belows hN11)
          | ((with_reducible refine' wpList_of_run (o := ⟨_, .build _ _, _, _, _, _⟩) (v := .agg #[.int .i64 17, .int .i64 0, .int .i64 0, .slice (some ⟨P, 0, none⟩) 3 3]) (w' := _) ?_ ?_ ?_); exact rfl; kernel_rfl; simp only [Act.put, List.setIfInBounds_toArray, List.set_cons_succ, List.set_cons_zero])
          | ((with_reducible refine' wpList_store_blk (cs := [.int .i64 17, .int .i64 0, .int .i64 0, .slice (some ⟨P, 0, none⟩) 3 3]) 25 (.tmp 4) (.tmp 91) rfl ?_ ?_ ?_ kR sz_node ?_ ?_ ?_ ?_); exact rfl; exact rfl; exact rfl; exact rfl; exact rfl; exact node_ones rfl; intro w3 kR3 hO3 hz3; simp only [Act.put]))
        have hMf := hMb.only hO3 (by omega) (by omega)
        have hOf := hOb.far hO3 (by omega)
        have hU5 := ((((hT5.only hO6 (fun b h => by omega)).only hO7 (fun b h => by omega)).below hN11).only hO3 (fun b h => by omega)).mono (Y := fun b => w.heap.size ≤ b) (fun b h => by omega)
        have hU6 := (((hT6.only hO7 (fun b h => by omega)).below hN11).only hO3 (fun b h => by omega)).mono (Y := fun b => w.heap.size ≤ b) (fun b h => by omega)
        have hU7 := ((hT7.below hN11).only hO3 (fun b h => by omega)).mono (Y := fun b => w.heap.size ≤ b) (fun b h => by omega)
        have k11f := hO3.blk k11 (by omega)
        ((try simp only [Exit.inBlock, Exit.then]); refine bodyPost_ret (results_cell_row rfl _ _ _ _ _ _ _ rfl kR3 Tryd.underlying25 rfl (by rw [sz_node]; rfl)) rfl ?_)
        rw [show [cs5, cs6, cs7].flatten = cs5 ++ cs6 ++ cs7 by simp] at k11f
        refine ⟨_, _, _, _, rfl, IsTX.node (ts := [t5, t6, t7]) (k11f.rdall 3 4 (by simp [CL5.out, CL6.out, CL7.out]) (by unfold maxLen; omega)) (fun b hb _ => by obtain rfl := own_eq hb; omega) (((IsTsX.one hU5).snoc hU6).snoc hU7), hMf, hOf, fit_of (by first | (simp [fHead, shF, List.length_cons, List.length_nil, fIs]; done) | (simp [fHead, shF, List.length_cons, List.length_nil, fIs]; omega)) (kids3 (by simpa [fWant, shF] using hf5) (by simpa [fWant, shF] using hf6) (by simpa [fWant, shF] using hf7)), ?_⟩
        unfold Ran
        rw [tsize, tdepth]
        simp only [tsizes, tdepths]
        omega
      ·
        have hD0 : 0 < D := by omega
        obtain ⟨o1, d1, ho1, hd1, BLx⟩ := BL hD0
        have BL1 := Lib.hid BLx
        have BL2 := Lib.hid BLx
        clear BLx BL BD
        go_wp2_with (first
          | ((go_at_call 92; (with_reducible refine (EX.out _ _ _ (by omega) (by omega) (by omega) hM).mono ?_); rintro e w' ⟨t5, cs5, a5, L5, rfl, hT5, hM2, hO5, hf5, hR5⟩); have hRl5 := kR.lt; have CL5 := Lib.hid hT5.len; unfold Ran at hR5; have sz5 := hO5.size; replace hM := hM2; replace hO := hO.trans' hO5; replace kR := hO5.blk kR hRB; clear hM2)
          | ((go_at_call 48; (with_reducible refine (BL1.out _ _ _ (by omega) (by omega) (by omega) hM).mono ?_); rintro e w' ⟨t6, cs6, a6, L6, rfl, hT6, hM2, hO6, hf6, hR6⟩); clear BL1; have hRl6 := kR.lt; have CL6 := Lib.hid hT6.len; unfold Ran at hR6; have sz6 := hO6.size; replace hM := hM2; replace hO := hO.trans' hO6; replace kR := hO6.blk kR hRB; clear hM2)
          | ((go_at_call 48; (with_reducible refine (BL2.out _ _ _ (by omega) (by omega) (by omega) hM).mono ?_); rintro e w' ⟨t7, cs7, a7, L7, rfl, hT7, hM2, hO7, hf7, hR7⟩); clear BL2; have hRl7 := kR.lt; have CL7 := Lib.hid hT7.len; unfold Ran at hR7; have sz7 := hO7.size; replace hM := hM2; replace hO := hO.trans' hO7; replace kR := hO7.blk kR hRB; clear hM2)
          | (((with_reducible refine' wpList_build_sts (css := [cs5, cs6, cs7]) rfl ?_ Tryd.underlying23 inf_node ?_ ?_ ?_ ?_ ?_ ?_); exact rfl; exact rfl; (first | omega | decide); (first | omega | decide); exact rfl; (intro c hc; simp at hc; rcases hc with rfl | rfl | rfl <;> first | exact CL5.out | exact CL6.out | exact CL7.out); intro w11 k11 hN11 hz11; simp only [Act.put, List.setIfInBounds_toArray, List.set_cons_succ, List.set_cons_zero]); have l9 := kR.lt; replace kR := kR.below hN11 l9; have hMb := hM.below hN11; obtain ⟨P, hP⟩ : ∃ P, w'.heap.size = P := ⟨_, rfl⟩; rw [hP] at k11 hz11 ⊢; have hOb := hO.belows hN11)
          | ((with_reducible refine' wpList_of_run (o := ⟨_, .build _ _, _, _, _, _⟩) (v := .agg #[.int .i64 17, .int .i64 0, .int .i64 0, .slice (some ⟨P, 0, none⟩) 3 3]) (w' := _) ?_ ?_ ?_); exact rfl; kernel_rfl; simp only [Act.put, List.setIfInBounds_toArray, List.set_cons_succ, List.set_cons_zero])
          | ((with_reducible refine' wpList_store_blk (cs := [.int .i64 17, .int .i64 0, .int .i64 0, .slice (some ⟨P, 0, none⟩) 3 3]) 25 (.tmp 4) (.tmp 91) rfl ?_ ?_ ?_ kR sz_node ?_ ?_ ?_ ?_); exact rfl; exact rfl; exact rfl; exact rfl; exact rfl; exact node_ones rfl; intro w3 kR3 hO3 hz3; simp only [Act.put]))
        have hMf := hMb.only hO3 (by omega) (by omega)
        have hOf := hOb.far hO3 (by omega)
        have hU5 := ((((hT5.only hO6 (fun b h => by omega)).only hO7 (fun b h => by omega)).below hN11).only hO3 (fun b h => by omega)).mono (Y := fun b => w.heap.size ≤ b) (fun b h => by omega)
        have hU6 := (((hT6.only hO7 (fun b h => by omega)).below hN11).only hO3 (fun b h => by omega)).mono (Y := fun b => w.heap.size ≤ b) (fun b h => by omega)
        have hU7 := ((hT7.below hN11).only hO3 (fun b h => by omega)).mono (Y := fun b => w.heap.size ≤ b) (fun b h => by omega)
        have k11f := hO3.blk k11 (by omega)
        ((try simp only [Exit.inBlock, Exit.then]); refine bodyPost_ret (results_cell_row rfl _ _ _ _ _ _ _ rfl kR3 Tryd.underlying25 rfl (by rw [sz_node]; rfl)) rfl ?_)
        rw [show [cs5, cs6, cs7].flatten = cs5 ++ cs6 ++ cs7 by simp] at k11f
        refine ⟨_, _, _, _, rfl, IsTX.node (ts := [t5, t6, t7]) (k11f.rdall 3 4 (by simp [CL5.out, CL6.out, CL7.out]) (by unfold maxLen; omega)) (fun b hb _ => by obtain rfl := own_eq hb; omega) (((IsTsX.one hU5).snoc hU6).snoc hU7), hMf, hOf, fit_of (by first | (simp [fHead, shF, List.length_cons, List.length_nil, fIs]; done) | (simp [fHead, shF, List.length_cons, List.length_nil, fIs]; omega)) (kids3 (by simpa [fWant, shF] using hf5) (by simpa [fWant, shF] using hf6) (by simpa [fWant, shF] using hf7)), ?_⟩
        unfold Ran
        rw [tsize, tdepth]
        simp only [tsizes, tdepths]
        omega
      ·
        have hD0 : 0 < D := by omega
        obtain ⟨o1, d1, ho1, hd1, BLx⟩ := BL hD0
        have BL1 := Lib.hid BLx
        have BL2 := Lib.hid BLx
        clear BLx BL BD
        go_wp2_with (first
          | ((go_at_call 92; (with_reducible refine (EX.out _ _ _ (by omega) (by omega) (by omega) hM).mono ?_); rintro e w' ⟨t5, cs5, a5, L5, rfl, hT5, hM2, hO5, hf5, hR5⟩); have hRl5 := kR.lt; have CL5 := Lib.hid hT5.len; unfold Ran at hR5; have sz5 := hO5.size; replace hM := hM2; replace hO := hO.trans' hO5; replace kR := hO5.blk kR hRB; clear hM2)
          | ((go_at_call 48; (with_reducible refine (BL1.out _ _ _ (by omega) (by omega) (by omega) hM).mono ?_); rintro e w' ⟨t6, cs6, a6, L6, rfl, hT6, hM2, hO6, hf6, hR6⟩); clear BL1; have hRl6 := kR.lt; have CL6 := Lib.hid hT6.len; unfold Ran at hR6; have sz6 := hO6.size; replace hM := hM2; replace hO := hO.trans' hO6; replace kR := hO6.blk kR hRB; clear hM2)
          | (((with_reducible refine' wpList_build_sts (css := [cs5, cs6]) rfl ?_ Tryd.underlying23 inf_node ?_ ?_ ?_ ?_ ?_ ?_); exact rfl; exact rfl; (first | omega | decide); (first | omega | decide); exact rfl; (intro c hc; simp at hc; rcases hc with rfl | rfl <;> first | exact CL5.out | exact CL6.out); intro w11 k11 hN11 hz11; simp only [Act.put, List.setIfInBounds_toArray, List.set_cons_succ, List.set_cons_zero]); have l9 := kR.lt; replace kR := kR.below hN11 l9; have hMb := hM.below hN11; obtain ⟨P, hP⟩ : ∃ P, w'.heap.size = P := ⟨_, rfl⟩; rw [hP] at k11 hz11 ⊢; have hOb := hO.belows hN11)
          | ((with_reducible refine' wpList_of_run (o := ⟨_, .build _ _, _, _, _, _⟩) (v := .agg #[.int .i64 18, .int .i64 0, .int .i64 0, .slice (some ⟨P, 0, none⟩) 2 2]) (w' := _) ?_ ?_ ?_); exact rfl; kernel_rfl; simp only [Act.put, List.setIfInBounds_toArray, List.set_cons_succ, List.set_cons_zero])
          | ((with_reducible refine' wpList_store_blk (cs := [.int .i64 18, .int .i64 0, .int .i64 0, .slice (some ⟨P, 0, none⟩) 2 2]) 25 (.tmp 4) (.tmp 101) rfl ?_ ?_ ?_ kR sz_node ?_ ?_ ?_ ?_); exact rfl; exact rfl; exact rfl; exact rfl; exact rfl; exact node_ones rfl; intro w3 kR3 hO3 hz3; simp only [Act.put]))
        have hMf := hMb.only hO3 (by omega) (by omega)
        have hOf := hOb.far hO3 (by omega)
        have hU5 := (((hT5.only hO6 (fun b h => by omega)).below hN11).only hO3 (fun b h => by omega)).mono (Y := fun b => w.heap.size ≤ b) (fun b h => by omega)
        have hU6 := ((hT6.below hN11).only hO3 (fun b h => by omega)).mono (Y := fun b => w.heap.size ≤ b) (fun b h => by omega)
        have k11f := hO3.blk k11 (by omega)
        ((try simp only [Exit.inBlock, Exit.then]); refine bodyPost_ret (results_cell_row rfl _ _ _ _ _ _ _ rfl kR3 Tryd.underlying25 rfl (by rw [sz_node]; rfl)) rfl ?_)
        rw [show [cs5, cs6].flatten = cs5 ++ cs6 by simp] at k11f
        refine ⟨_, _, _, _, rfl, IsTX.node (ts := [t5, t6]) (k11f.rdall 2 4 (by simp [CL5.out, CL6.out]) (by unfold maxLen; omega)) (fun b hb _ => by obtain rfl := own_eq hb; omega) ((IsTsX.one hU5).snoc hU6), hMf, hOf, fit_of (by first | (simp [fHead, shF, List.length_cons, List.length_nil, fIs]; done) | (simp [fHead, shF, List.length_cons, List.length_nil, fIs]; omega)) (kids2 (by simpa [fWant, shF] using hf5) (by simpa [fWant, shF] using hf6)), ?_⟩
        unfold Ran
        rw [tsize, tdepth]
        simp only [tsizes, tdepths]
        omega
      ·
        have hD0 : 0 < D := by omega
        obtain ⟨o1, d1, ho1, hd1, BLx⟩ := BL hD0
        have BL1 := Lib.hid BLx
        have BL2 := Lib.hid BLx
        clear BLx BL BD
        go_wp2_with (first
          | ((go_at_call 47; (with_reducible refine (num_ex w0 B l _ _ 6 _ hM HL.out (by omega) (by omega) (by unfold I64; omega)).mono ?_); rintro e w' ⟨x, rfl, hx0, hx1, hM2, hO2⟩); replace hM := hM2; replace hO := hO.trans' hO2; replace kR := hO2.blk kR hRB; have sqhx := hO2.size; clear hM2 hO2)
          | ((go_at_call 48; (with_reducible refine (BL1.out _ _ _ (by omega) (by omega) (by omega) hM).mono ?_); rintro e w' ⟨t6, cs6, a6, L6, rfl, hT6, hM2, hO6, hf6, hR6⟩); clear BL1; have hRl6 := kR.lt; have CL6 := Lib.hid hT6.len; unfold Ran at hR6; have sz6 := hO6.size; replace hM := hM2; replace hO := hO.trans' hO6; replace kR := hO6.blk kR hRB; clear hM2)
          | ((go_at_call 48; (with_reducible refine (BL2.out _ _ _ (by omega) (by omega) (by omega) hM).mono ?_); rintro e w' ⟨t7, cs7, a7, L7, rfl, hT7, hM2, hO7, hf7, hR7⟩); clear BL2; have hRl7 := kR.lt; have CL7 := Lib.hid hT7.len; unfold Ran at hR7; have sz7 := hO7.size; replace hM := hM2; replace hO := hO.trans' hO7; replace kR := hO7.blk kR hRB; clear hM2)
          | (((with_reducible refine' wpList_build_sts (css := [cs6, cs7]) rfl ?_ Tryd.underlying23 inf_node ?_ ?_ ?_ ?_ ?_ ?_); exact rfl; exact rfl; (first | omega | decide); (first | omega | decide); exact rfl; (intro c hc; simp at hc; rcases hc with rfl | rfl <;> first | exact CL6.out | exact CL7.out); intro w11 k11 hN11 hz11; simp only [Act.put, List.setIfInBounds_toArray, List.set_cons_succ, List.set_cons_zero]); have l9 := kR.lt; replace kR := kR.below hN11 l9; have hMb := hM.below hN11; obtain ⟨P, hP⟩ : ∃ P, w'.heap.size = P := ⟨_, rfl⟩; rw [hP] at k11 hz11 ⊢; have hOb := hO.belows hN11)
          | ((with_reducible refine' wpList_of_run (o := ⟨_, .build _ _, _, _, _, _⟩) (v := .agg #[.int .i64 21, .int .i64 x, .int .i64 0, .slice (some ⟨P, 0, none⟩) 2 2]) (w' := _) ?_ ?_ ?_); exact rfl; kernel_rfl; simp only [Act.put, List.setIfInBounds_toArray, List.set_cons_succ, List.set_cons_zero])
          | ((with_reducible refine' wpList_store_blk (cs := [.int .i64 21, .int .i64 x, .int .i64 0, .slice (some ⟨P, 0, none⟩) 2 2]) 25 (.tmp 4) (.tmp 115) rfl ?_ ?_ ?_ kR sz_node ?_ ?_ ?_ ?_); exact rfl; exact rfl; exact rfl; exact rfl; exact rfl; exact node_ones rfl; intro w3 kR3 hO3 hz3; simp only [Act.put]))
        have hMf := hMb.only hO3 (by omega) (by omega)
        have hOf := hOb.far hO3 (by omega)
        have hU6 := (((hT6.only hO7 (fun b h => by omega)).below hN11).only hO3 (fun b h => by omega)).mono (Y := fun b => w.heap.size ≤ b) (fun b h => by omega)
        have hU7 := ((hT7.below hN11).only hO3 (fun b h => by omega)).mono (Y := fun b => w.heap.size ≤ b) (fun b h => by omega)
        have k11f := hO3.blk k11 (by omega)
        ((try simp only [Exit.inBlock, Exit.then]); refine bodyPost_ret (results_cell_row rfl _ _ _ _ _ _ _ rfl kR3 Tryd.underlying25 rfl (by rw [sz_node]; rfl)) rfl ?_)
        rw [show [cs6, cs7].flatten = cs6 ++ cs7 by simp] at k11f
        refine ⟨_, _, _, _, rfl, IsTX.node (ts := [t6, t7]) (k11f.rdall 2 4 (by simp [CL6.out, CL7.out]) (by unfold maxLen; omega)) (fun b hb _ => by obtain rfl := own_eq hb; omega) ((IsTsX.one hU6).snoc hU7), hMf, hOf, fit_of (by first | (simp [fHead, shF, List.length_cons, List.length_nil, fIs]; done) | (simp [fHead, shF, List.length_cons, List.length_nil, fIs]; omega)) (kids2 (by simpa [fWant, shF] using hf6) (by simpa [fWant, shF] using hf7)), ?_⟩
        unfold Ran
        rw [tsize, tdepth]
        simp only [tsizes, tdepths]
        omega
      ·
        have hD0 : 0 < D := by omega
        obtain ⟨o2, d2, ho2, hd2, BDx⟩ := BD hD0
        have BD1 := Lib.hid BDx
        clear BDx BL BD
        go_wp2_with (first
          | ((go_at_call 48; (with_reducible refine (BD1.out _ _ _ (by omega) (by omega) (by omega) hM).mono ?_); rintro e w' ⟨t6, cs6, a6, L6, rfl, hT6, hM2, hO6, hf6, hR6⟩); have hRl := kR.lt; have CL6 := Lib.hid hT6.len; have CO6 := Lib.hid hT6.isT.ones; unfold Ran at hR6; replace hM := hM2; replace hO := hO.trans' hO6; replace kR := hO6.blk kR hRB; clear hM2)
          | ((with_reducible refine' wpList_store_blk (cs := cs6) 25 (.tmp 4) (.tmp 120) rfl ?_ ?_ ?_ kR sz_node ?_ ?_ ?_ ?_); exact rfl; exact rfl; exact rfl; exact CL6.out; exact rfl; exact CO6.out; intro w3 kR3 hO3 hz3; simp only [Act.put]))
        have hMf := hM.only hO3 (by omega) (by omega)
        have hOf := hO.far hO3 (by omega)
        have hU6 := (hT6.only hO3 (fun b h => by omega)).mono (Y := fun b => w.heap.size ≤ b) (fun b h => by omega)
        ((try simp only [Exit.inBlock, Exit.then]); refine bodyPost_ret (results_cell_row rfl _ _ _ _ _ _ _ rfl kR3 Tryd.underlying25 rfl (by rw [sz_node]; simp [CL6.out])) rfl ?_)
        exact ⟨_, _, _, _, rfl, hU6, hMf, hOf, fit65 hf6, by unfold Ran; omega⟩
theorem stmt_any (l : List Int) (hl : ∀ x ∈ l, I64 x) (w0 : World) (B : Nat) : ∀ e : Nat, e ≤ 6 → ∀ (a : Nat) (L : Int) (w : World), (a : Int) + 3 * L ≤ 10000 → -10000 + (sov e : Int) ≤ L → L ≤ 1000 → Mk w0 w B l a L →
    Calls Tryd.prog 73 #[.pointer (some ⟨B, 0, none⟩), .int .i64 ((e : Int) - 1)] w fun ed w' => MadeE w0 w B l 5 (sov e) (e + 4) a L ed w' := by
  intro e
  induction e using Nat.strongRecOn with
  | _ e ih =>
    intro he a L w h1 h2 h3 hM
    have hs : ∀ e, e ≤ 6 → 14 ≤ sov e ∧ sov e ≤ 1000 := by decide
    have blk : ∀ e', e' < e → ∀ (a : Nat) (L : Int) (w : World), (a : Int) + 3 * L ≤ 10000 → -10000 + ((sov e' + 1 : Nat) : Int) ≤ L → L ≤ 1000 → Mk w0 w B l a L →
        Calls Tryd.prog 48 #[.pointer (some ⟨B, 0, none⟩), .int .i64 (e' : Int)] w fun ed w' => MadeE w0 w B l 6 (sov e' + 1) (e' + 4 + 1) a L ed w' := fun e' h' a L w h1 h2 h3 hM =>
      (block_of l hl w0 B e' (by omega) (by omega) (sov e') (e' + 4) (hs e' (by omega)).2 (ih e' h' (by omega)) a L w h1 (by push_cast at h2; exact h2) h3 hM).mono fun _ _ h => h.e
    refine stmt_step l hl w0 B _ (by omega) (by omega) (sov e) (e + 4) (hs e he).1 (hs e he).2 (by omega) (fun hD => ?_) (fun hD => ?_) a L w h1 h2 h3 hM
    · obtain ⟨e', rfl⟩ : ∃ e', e = e' + 2 := ⟨e - 2, by omega⟩
      refine ⟨sov e' + 1, e' + 4 + 1, by rw [sov]; omega, by omega, fun a L w h1 h2 h3 hM => ?_⟩
      rw [show ((e' + 2 : Nat) : Int) - 1 - 1 = (e' : Int) by omega]
      exact blk e' (by omega) a L w h1 h2 h3 hM
    · obtain ⟨e', rfl⟩ : ∃ e', e = e' + 2 := ⟨e - 2, by omega⟩
      refine ⟨sov (e' + 1) + 1, e' + 1 + 4 + 1, by conv => rhs; rw [sov]
                                                   omega, by omega, fun a L w h1 h2 h3 hM => ?_⟩
      rw [show ((e' + 2 : Nat) : Int) - 1 = ((e' + 1 : Nat) : Int) by omega]
      exact blk (e' + 1) (by omega) a L w h1 h2 h3 hM
theorem block4 (l : List Int) (hl : ∀ x ∈ l, I64 x) (w0 : World) (B : Nat) (a : Nat) (L : Int) (w : World) (h1 : (a : Int) + 3 * L ≤ 10000) (h2 : -9000 ≤ L) (h3 : L ≤ 1000) (hM : Mk w0 w B l a L) :
    Calls Tryd.prog 48 #[.pointer (some ⟨B, 0, none⟩), .int .i64 4] w fun ed w' => MadeB w0 w B l 105 9 a L ed w' := by
  have := block_of l hl w0 B 4 (by omega) (by omega) (sov 4) 8 (by decide) (stmt_any l hl w0 B 4 (by omega)) a L w h1 (by rw [show sov 4 = 104 from by decide]; omega) h3 hM
  rwa [show sov 4 = 104 from by decide] at this
end Go.Proofs.YtdlhkhnoigbhjaaDoor.Wi
