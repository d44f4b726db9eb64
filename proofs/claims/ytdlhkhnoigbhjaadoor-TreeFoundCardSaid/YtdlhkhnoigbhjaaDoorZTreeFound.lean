/-
  Tor, Tfw, Gtfw: my texts of these names, one behind the other. Conditions: those that each law names.
-/
import Derived.Test.YtdlhkhnoigbhjaaDoorMi
import Derived.Test.YtdlhkhnoigbhjaaDoorMe
import Derived.Test.YtdlhkhnoigbhjaaDoorMd
import Derived.Test.YtdlhkhnoigbhjaaDoorMk
import Derived.Test.YtdlhkhnoigbhjaaDoorMh
import Derived.Test.YtdlhkhnoigbhjaaDoorMa
import Derived.WalkKit
import Derived.ProofKit
import Derived.OpenShut
import Derived.ShutString
import Derived.JoinedCond
import Derived.SizedLaws
import Derived.Deep.CondSized
import Derived.Test.YtdlhkhnoigbhjaaDoorTie
import Derived.Test.YtdlhkhnoigbhjaaDoorCards
import Derived.SevenTiedAt
import Derived.Stop.Joined
import Derived.LaidMore
import Derived.WideKeyPair
namespace Go.Proofs.YtdlhkhnoigbhjaaDoor.Pu
theorem gkids_size (g : GS → Tree × GS) (c : Nat) (hg : ∀ s, tsize (g s).1 ≤ c) : ∀ (k : Nat) (s : GS), tsizes (gkids g k s).1 ≤ k * c
  | 0, s => by rw [gkids, tsizes]; omega
  | k + 1, s => by
    rw [gkids]
    split
    · have h1 := hg s
      have h2 := gkids_size g c hg k (g s).2
      simp only [tsizes]
      rw [Nat.add_mul]; omega
    · simp only [tsizes]; omega
theorem gtree_size (l : List Int) : ∀ (d : Nat) (s : GS), tsize (gtree l d s).1 ≤ 4 ^ d
  | 0, s => by rw [gtree_eq, gsub, tsize, tsizes]; decide
  | d + 1, s => by
    rw [gtree_eq, gsub, tsize]
    have h1 := gkids_size (gtree l d) (4 ^ d) (gtree_size l d) (atV l ((s.1 + 1 + 1 + 1 : Nat) : Int) 4).toNat (s.1 + 1 + 1 + 1 + 1, s.2 - 1)
    have h2 : (atV l ((s.1 + 1 + 1 + 1 : Nat) : Int) 4).toNat ≤ 3 := by have := atV_bd l ((s.1 + 1 + 1 + 1 : Nat) : Int) (most := 4) (by omega); omega
    have h3 := Nat.mul_le_mul_right (4 ^ d) h2
    have h4 : 0 < 4 ^ d := Nat.pow_pos (by omega)
    rw [Nat.pow_succ]; omega
theorem gTree_size (l : List Int) : tsize (gTree l) ≤ 1024 := gtree_size l 5 (0, 29)
end Go.Proofs.YtdlhkhnoigbhjaaDoor.Pu
namespace Go.Proofs.YtdlhkhnoigbhjaaDoor.Wi
open Go Go.RowKit Pu Lb
set_option linter.unusedSimpArgs false
set_option linter.unusedVariables false
theorem tdiv6 (h : Int) : I64 (wrap64 (h.tdiv 6)) := by unfold I64 wrap64; omega
set_option maxRecDepth 100000 in
set_option maxHeartbeats 3200000 in
theorem law_order (l m : List Int) (a h b : Int) (v1 v2 : Value) (w : World) (hl : ∀ x ∈ l, I64 x) (hm : ∀ x ∈ m, I64 x) (ha : I64 a) (hh : I64 h) (hb : I64 b) (r1 : Rd w 1 v1 l.length (iv l)) (r2 : Rd w 1 v2 m.length (iv m)) (hS : ShT w) :
    Calls Tryd.prog 5 #[v1, v2, .int .i64 a, .int .i64 h, .int .i64 b] w fun e w' => e = .returned (.bool true) ∧ Below w.heap.size w w' := by
  have HL := Lib.hid hl; have HM := Lib.hid hm; have HA := Lib.hid ha; have HH := Lib.hid hh; have HB := Lib.hid hb; have HH6 := Lib.hid (tdiv6 h)
  have ZL := gTree_size l
  have ZM := gTree_size m
  obtain ⟨ta, hta⟩ : ∃ t, gTree l = t := ⟨_, rfl⟩
  obtain ⟨tc, htc⟩ : ∃ t, gTree m = t := ⟨_, rfl⟩
  have C1 : ∀ w', Rd w' 1 v1 l.length (iv l) → Calls Tryd.prog 10 #[v1] w' fun e w'' => ∃ cs, e = .returned (.agg cs.toArray) ∧ IsTX (fun b => w'.heap.size ≤ b) w'' ta cs ∧ Below w'.heap.size w' w'' := fun w' h => by rw [← hta]; exact gtree0_any l hl v1 w' h
  have C2 : ∀ w', Rd w' 1 v2 m.length (iv m) → Calls Tryd.prog 10 #[v2] w' fun e w'' => ∃ cs, e = .returned (.agg cs.toArray) ∧ IsTX (fun b => w'.heap.size ≤ b) w'' tc cs ∧ Below w'.heap.size w' w'' := fun w' h => by rw [← htc]; exact gtree0_any m hm v2 w' h
  rw [hta] at ZL
  rw [htc] at ZM
  have ZL2 : tsize ta ≤ 100000 := by omega
  clear hta htc hl hm ha hh hb
  go_enter Tryd.func5, Tryd.ntmps5
  go_upto_region 2 with (first
    | ((go_at_call 10; (with_reducible refine (C1 _ r1).mono ?_); rintro e w' ⟨cs, rfl, hE, hN1⟩); have CL := Lib.hid hE.len; have CO := Lib.hid hE.isT.ones)
    | (((with_reducible refine' wpList_alloc_blk (cs := nodz) 25 rfl ?_ zr_node ?_ ?_); exact rfl; exact nodz_cells; intro w2 k2 hN2 hz2; simp only [Act.put, List.setIfInBounds_toArray, List.set_cons_succ, List.set_cons_zero]))
    | (((with_reducible refine' wpList_store_blk (cs := cs) 25 (.tmp 11) (.tmp 26) rfl ?_ ?_ ?_ k2 sz_node ?_ ?_ ?_ ?_); exact rfl; exact rfl; exact rfl; exact CL.out; exact rfl; exact CO.out; intro w3 k3 hO3 hz3; simp only [Act.put])))
  obtain ⟨A, hA⟩ : ∃ A, w'.heap.size = A := ⟨_, rfl⟩
  have hT3 : IsT w3 ta cs := ((hE.lt.below hN2).only hO3 (fun b h => by have := h.2; omega)).isT
  have hs1 := hN1.size
  have l2 := k2.lt
  have hb3 : Below w.heap.size w w3 := (hN1.trans (hN2.mono hs1)).trans (hO3.below hs1 (by omega))
  have s3 := k3.lt
  rw [hA] at k3 s3
  simp only [hA]
  have r23 := r2.below hb3
  clear hz2 hz3 hO3 hN2 hN1 hE k2 l2 hA C1 r1 r2
  go_upto_region 3 with (first
    | ((with_reducible refine' wpList_loadst_blk (.tmp 11) 25 rfl ?_ Tryd.underlying25 ?_ sz_node ?_ k3 ?_ ?_ ?_); exact rfl; exact rfl; exact rfl; exact CL.out; decide; simp only [Act.put, List.setIfInBounds_toArray, List.set_cons_succ, List.set_cons_zero])
    | ((go_at_call 11; (with_reducible refine (spoilt_any ta cs a h b _ hT3 ZL2 HA.out HH.out HB.out).mono ?_); rintro e w' ⟨tb, ds, rfl, hD, hzb, hN4⟩); have DL := Lib.hid hD.len; have DO := Lib.hid hD.ones)
    | (((with_reducible refine' wpList_alloc_blk (cs := nodz) 25 rfl ?_ zr_node ?_ ?_); exact rfl; exact nodz_cells; intro w5 k5 hN5 hz5; simp only [Act.put, List.setIfInBounds_toArray, List.set_cons_succ, List.set_cons_zero]))
    | (((with_reducible refine' wpList_store_blk (cs := ds) 25 (.tmp 12) (.tmp 31) rfl ?_ ?_ ?_ k5 sz_node ?_ ?_ ?_ ?_); exact rfl; exact rfl; exact rfl; exact DL.out; exact rfl; exact DO.out; intro w6 k6 hO6 hz6; simp only [Act.put])))
  obtain ⟨B, hB⟩ : ∃ B, w'.heap.size = B := ⟨_, rfl⟩
  have hb36 : Below w3.heap.size w3 w6 := (hN4.trans (hN5.mono hN4.size)).trans (hO6.below hN4.size (Nat.le_trans hN4.size hN5.size))
  have hD6 : IsT w6 tb ds := ((hD.isTX.lt.below hN5).only hO6 (fun b h => by have := h.2; omega)).isT
  have s6 := k6.lt
  have kA6 := k3.below hb36 s3
  have hT6 := hT3.below hb36
  have r26 := r23.below hb36
  have hb6 := hb3.trans (hb36.mono hb3.size)
  rw [hB] at k6 s6
  simp only [hB]
  clear hz5 hz6 hO6 hN5 hN4 hD k5 hb36 k3 hT3 r23 hB
  have ZB2 : tsize tb ≤ 100000 := by omega
  go_upto_region 4 with (first
    | ((go_at_call 10; (with_reducible refine (C2 _ r26).mono ?_); rintro e w' ⟨es, rfl, hE, hN7⟩); have EL := Lib.hid hE.len; have EO := Lib.hid hE.isT.ones)
    | (((with_reducible refine' wpList_alloc_blk (cs := nodz) 25 rfl ?_ zr_node ?_ ?_); exact rfl; exact nodz_cells; intro w8 k8 hN8 hz8; simp only [Act.put, List.setIfInBounds_toArray, List.set_cons_succ, List.set_cons_zero]))
    | (((with_reducible refine' wpList_store_blk (cs := es) 25 (.tmp 13) (.tmp 33) rfl ?_ ?_ ?_ k8 sz_node ?_ ?_ ?_ ?_); exact rfl; exact rfl; exact rfl; exact EL.out; exact rfl; exact EO.out; intro w9 k9 hO9 hz9; simp only [Act.put])))
  obtain ⟨G, hG⟩ : ∃ G, w'.heap.size = G := ⟨_, rfl⟩
  have hb69 : Below w6.heap.size w6 w9 := (hN7.trans (hN8.mono hN7.size)).trans (hO9.below hN7.size (Nat.le_trans hN7.size hN8.size))
  have hE9 : IsT w9 tc es := ((hE.lt.below hN8).only hO9 (fun b h => by have := h.2; omega)).isT
  have s9 := k9.lt
  have kA9 := kA6.below hb69 kA6.lt
  have kB9 := k6.below hb69 s6
  have hT9 := hT6.below hb69
  have hD9 := hD6.below hb69
  have hb9 := hb6.trans (hb69.mono hb6.size)
  have hS9 := hS.below hb9
  rw [hG] at k9 s9
  simp only [hG]
  clear hz8 hz9 hO9 hN8 hN7 hE k8 hb69 kA6 k6 hT6 hD6 r26 hG C2 hb6 hb3 hs1
  have CA : ∀ w', Below w9.heap.size w9 w' → Blk w' A 25 cs := fun w' h => kA9.below h kA9.lt
  have CB : ∀ w', Below w9.heap.size w9 w' → Blk w' B 25 ds := fun w' h => kB9.below h kB9.lt
  have CG : ∀ w', Below w9.heap.size w9 w' → Blk w' G 25 es := fun w' h => k9.below h k9.lt
  have hd : Below w9.heap.size w9 w9.drew := (Below.refl _ _).drew
  (refine wp_region_plan (fun w' => Below w9.heap.size w9 w') (.f 0 (.f 1 (.f 2 (.f 3 (.f 4 (.f 5 (.f 6 (.f 7 (.o 8 (.o 9 (.f 10 .tail))))))))))) 11 (by kernel_rfl) (by kernel_rfl) (hd) ?_)
  (repeat (refine wpPlan_f rfl ?_; (first | ((with_reducible refine' wpQuietH_loadst_blk (.tmp 11) 25 rfl ?_ Tryd.underlying25 ?_ sz_node ?_ (CA) ?_ ?_ ?_); exact rfl; exact rfl; exact rfl; exact CL.out; decide; simp only [Act.put, List.setIfInBounds_toArray, List.set_cons_succ, List.set_cons_zero]) | ((with_reducible refine' wpQuietH_loadst_blk (.tmp 12) 25 rfl ?_ Tryd.underlying25 ?_ sz_node ?_ (CB) ?_ ?_ ?_); exact rfl; exact rfl; exact rfl; exact DL.out; decide; simp only [Act.put, List.setIfInBounds_toArray, List.set_cons_succ, List.set_cons_zero]) | ((with_reducible refine' wpQuietH_loadst_blk (.tmp 13) 25 rfl ?_ Tryd.underlying25 ?_ sz_node ?_ (CG) ?_ ?_ ?_); exact rfl; exact rfl; exact rfl; exact EL.out; decide; simp only [Act.put, List.setIfInBounds_toArray, List.set_cons_succ, List.set_cons_zero]) | go_big_quiet_step (fail) | (go_big_quiet_want; go_big_quiet_op; refine ⟨_, fun _ _ => rfl, ?_⟩; go_big_quiet_on)); refine wpQuiet_nil ?_))
  refine wpPlan_o rfl ?_
  have hD10 := hD9.below hd
  go_wp2_with ((go_at_call 11; (with_reducible refine (spoilt_any tb ds b _ a _ hD10 ZB2 HB.out HH6.out HA.out).mono ?_); rintro e w' ⟨td, fs, rfl, hF, hzd, hN10⟩))
  have FL := Lib.hid hF.len
  have FO := Lib.hid hF.ones
  have hc10 := hd.trans hN10
  refine ⟨rfl, hc10, ?_⟩
  refine wpPlan_o rfl ?_
  have LEN4 : ∀ c ∈ [cs, ds, es, fs], c.length = 4 := by
    intro c hc
    simp only [List.mem_cons, List.not_mem_nil, or_false] at hc
    rcases hc with rfl | rfl | rfl | rfl
    · exact CL.out
    · exact DL.out
    · exact EL.out
    · exact FL.out
  go_wp2_with (((with_reducible refine' wpList_build_sts (css := [cs, ds, es, fs]) rfl ?_ Tryd.underlying23 inf_node ?_ ?_ ?_ ?_ ?_ ?_); exact rfl; exact rfl; (first | omega | decide); (first | omega | decide); exact rfl; exact LEN4; intro w11 k11 hN11 hz11; simp only [Act.put, List.setIfInBounds_toArray, List.set_cons_succ, List.set_cons_zero]))
  have hc11 := hc10.trans (hN11.mono hc10.size)
  refine ⟨rfl, hc11, ?_⟩
  (repeat (refine wpPlan_f rfl ?_; (first | fail | go_big_quiet_step (fail) | (go_big_quiet_want; go_big_quiet_op; refine ⟨_, fun _ _ => rfl, ?_⟩; go_big_quiet_on)); refine wpQuiet_nil ?_))
  refine wpPlan_tail ?_
  go_wp2_with fail
  refine onlyN ?_
  have HR : Rd w11 4 (.slice (some ⟨w'.heap.size, 0, none⟩) 4 4) 4 _ := k11.rdall 4 4 (by simp [CL.out, DL.out, EL.out, FL.out]) (by unfold maxLen; omega)
  have HTs : IsTs w11 [ta, tb, tc, td] [cs, ds, es, fs].flatten := by
    have h1 := hT9.below hc11
    have h2 := hD9.below hc11
    have h3 := hE9.below hc11
    have h4 := hF.below hN11
    simp only [List.flatten_cons, List.flatten_nil, List.append_nil]
    rw [IsTs]; refine ⟨cs, _, rfl, CL.out, h1, ?_⟩
    rw [IsTs]; refine ⟨ds, _, rfl, DL.out, h2, ?_⟩
    rw [IsTs]; refine ⟨es, _, rfl, EL.out, h3, ?_⟩
    rw [IsTs]; refine ⟨fs, [], by rw [List.append_nil], FL.out, h4, ?_⟩
    rw [IsTs]
  obtain ⟨v14, hv14⟩ : ∃ v, Value.slice (some ⟨w'.heap.size, 0, none⟩) 4 4 = v := ⟨_, rfl⟩
  rw [hv14] at HR ⊢
  obtain ⟨xs, hxs⟩ : ∃ xs, [cs, ds, es, fs].flatten = xs := ⟨_, rfl⟩
  rw [hxs] at HR HTs
  obtain ⟨t4, ht4⟩ : ∃ t4, [ta, tb, tc, td] = t4 := ⟨_, rfl⟩
  rw [ht4] at HTs
  have L4 := Lib.hid (show t4.length = 4 by rw [← ht4]; rfl)
  have HTs' := Lib.hid HTs
  have hb11 := hb9.trans (hc11.mono hb9.size)
  have kA11 := CA _ hc11
  have kB11 := CB _ hc11
  have kG11 := CG _ hc11
  have hTa := Lib.hid (hT9.below hc11)
  have hTb := Lib.hid (hD9.below hc11)
  have hTc := Lib.hid (hE9.below hc11)
  have hS11 := hS9.below hc11
  have XL := Lib.hid (show xs.length = 16 from HR.1)
  clear hv14 hxs ht4 HTs LEN4 hc10 hc11 hN10 hN11 hz11 k11 hF hD10 hd CA CB CG kA9 kB9 k9 hT9 hD9 hE9 hb9 hS9
  go_upto_region 6 with fail
  go_loopw [15] (fun i wr => ∃ j : Nat, j ≤ 4 ∧ i = .int .i64 (j : Int) ∧ Below w11.heap.size w11 wr) (fun i _ => 4 - (intOf i).toNat)
  case atStart => exact ⟨0, by omega, rfl, Below.refl _ _⟩
  case round =>
    obtain ⟨i, hi, rfl, hbi⟩ := hrel
    obtain ⟨wi, rfl⟩ : ∃ wo : World, wo = wr := ⟨_, rfl⟩
    by_cases hi4 : i < 4
    · have LI : decide ((i : Int) < 4) = true := by rw [decide_eq_true_eq]; omega
      go_upto_region 9 with fail
      go_loopw [16] (fun i wr => ∃ j : Nat, j ≤ 4 ∧ i = .int .i64 (j : Int) ∧ Below w11.heap.size w11 wr) (fun i _ => 4 - (intOf i).toNat)
      case atStart => exact ⟨0, by omega, rfl, hbi⟩
      case round =>
        obtain ⟨j, hj, rfl, hbj⟩ := hrel
        obtain ⟨wj, rfl⟩ : ∃ wo : World, wo = wr := ⟨_, rfl⟩
        by_cases hj4 : j < 4
        · have LJ : decide ((j : Int) < 4) = true := by rw [decide_eq_true_eq]; omega
          obtain ⟨ti, hti⟩ := kid_at (ts := t4) (i := i) (by rw [L4.out]; exact hi4)
          obtain ⟨tj, htj⟩ := kid_at (ts := t4) (i := j) (by rw [L4.out]; exact hj4)
          obtain ⟨ci, hci⟩ : ∃ c, (xs.drop (i * 4)).take 4 = c := ⟨_, rfl⟩
          obtain ⟨cj, hcj⟩ : ∃ c, (xs.drop (j * 4)).take 4 = c := ⟨_, rfl⟩
          have HCI := Lib.hid hci
          have HCJ := Lib.hid hcj
          have BDI := Lib.hid (show i * 4 + 4 ≤ xs.length by rw [XL.out]; omega)
          have BDJ := Lib.hid (show j * 4 + 4 ≤ xs.length by rw [XL.out]; omega)
          have TI := Lib.hid (show IsT w11 ti ci by have h := IsTs.get HTs'.out hti; rw [hci] at h; exact h)
          have TJ := Lib.hid (show IsT w11 tj cj by have h := IsTs.get HTs'.out htj; rw [hcj] at h; exact h)
          have hij : i = j → ti = tj := fun e => by subst e; rw [hti] at htj; exact Option.some.inj htj
          have hrj := HR.below hbj
          have hd : Below wj.heap.size wj wj.drew := (Below.refl _ _).drew
          have hT1 := (TI.out.below hbj).below hd
          have hT2 := (TJ.out.below hbj).below hd
          clear hci hcj hti htj
          go_upto_region 11 with fail
          (refine wp_region_plan (fun w' => Below wj.heap.size wj w') (.f 0 (.f 1 (.f 2 (.f 3 (.f 4 (.f 5 (.f 6 (.f 7 (.o 8 (.f 9 .tail)))))))))) 10 (by kernel_rfl) (by kernel_rfl) (hd) ?_)
          (repeat (refine wpPlan_f rfl ?_; (first | ((with_reducible refine' wpQuiet_at_rd (.tmp 52) (.tmp 53) 23 rfl ?_ Tryd.underlying23 sz_node ?_ hrj (by decide) (i) ?_ ?_ ?_); exact rfl; exact rfl; (show (_ : Int) = _; omega); omega; simp only [Act.put, List.setIfInBounds_toArray, List.set_cons_succ, List.set_cons_zero]) | ((with_reducible refine' wpQuietC_load_st (cov_below _) (cp := ci) (.tmp 54) 25 rfl ?_ Tryd.underlying25 ?_ sz_node ?_ hrj ?_ ?_ HCI.out ?_); exact rfl; exact rfl; exact rfl; exact BDI.out; decide; simp only [Act.put, List.setIfInBounds_toArray, List.set_cons_succ, List.set_cons_zero]) | ((with_reducible refine' wpQuiet_at_rd (.tmp 56) (.tmp 57) 23 rfl ?_ Tryd.underlying23 sz_node ?_ hrj (by decide) (j) ?_ ?_ ?_); exact rfl; exact rfl; (show (_ : Int) = _; omega); omega; simp only [Act.put, List.setIfInBounds_toArray, List.set_cons_succ, List.set_cons_zero]) | ((with_reducible refine' wpQuietC_load_st (cov_below _) (cp := cj) (.tmp 58) 25 rfl ?_ Tryd.underlying25 ?_ sz_node ?_ hrj ?_ ?_ HCJ.out ?_); exact rfl; exact rfl; exact rfl; exact BDJ.out; decide; simp only [Act.put, List.setIfInBounds_toArray, List.set_cons_succ, List.set_cons_zero]) | go_big_quiet_step (fail) | (go_big_quiet_want; go_big_quiet_op; refine ⟨_, fun _ _ => rfl, ?_⟩; go_big_quiet_on)); refine wpQuiet_nil ?_))
          refine wpPlan_o rfl ?_
          go_wp2_with ((go_at_call 19; (with_reducible refine (compare_any ti tj ci cj _ hT1 hT2).mono ?_); rintro e w' ⟨rfl, hN12⟩))
          have hc12 := hd.trans hN12
          refine ⟨rfl, hc12, ?_⟩
          have hx1 := tcmp_bd ti tj
          have hx2 := neg_tcmp tj ti
          have hx3 : i = j → tcmp ti tj = 0 := fun e => by rw [hij e]; exact tcmp_self tj
          obtain ⟨x, hx⟩ : ∃ x, tcmp ti tj = x := ⟨_, rfl⟩
          rw [hx] at hx1 hx2 hx3 ⊢
          have HX := Lib.hid hx
          clear hx
          (repeat (refine wpPlan_f rfl ?_; (first | fail | go_big_quiet_step (fail) | (go_big_quiet_want; go_big_quiet_op; refine ⟨_, fun _ _ => rfl, ?_⟩; go_big_quiet_on)); refine wpQuiet_nil ?_))
          refine wpPlan_tail ?_
          go_wp2_with fail
          refine onlyN ?_
          go_upto_region 12 with fail
          obtain ⟨wx, rfl⟩ : ∃ wo : World, wo = w' := ⟨_, rfl⟩
          have hbx := hbj.trans (hc12.mono hbj.size)
          have hrx := HR.below hbx
          have hd2 : Below wx.heap.size wx wx.drew := (Below.refl _ _).drew
          have hT1 := (TI.out.below hbx).below hd2
          have hT2 := (TJ.out.below hbx).below hd2
          have L1 : decide (x < -1) = false := by rw [decide_eq_false_iff_not]; omega
          have L2 : decide (1 < x) = false := by rw [decide_eq_false_iff_not]; omega
          clear hN12 hc12
          go_cut [89] from 61 to 89 (fun b wc => b = Value.bool false ∧ Below wx.heap.size wx wc)
          case first =>
            (refine wp_region_plan (fun w' => Below wx.heap.size wx w') (.f 0 (.f 1 (.f 2 (.f 3 (.f 4 (.f 5 (.f 6 (.f 7 (.f 8 (.f 9 (.f 10 (.f 11 (.f 12 (.f 13 (.f 14 (.f 15 (.o 16 (.f 17 (.f 18 (.f 19 (.f 20 (.f 21 (.f 22 (.f 23 (.f 24 (.f 25 (.f 26 (.f 27 (.f 28 .tail))))))))))))))))))))))))))))) 29 (by kernel_rfl) (by kernel_rfl) (hd2) ?_)
            (repeat (refine wpPlan_f rfl ?_; (first | ((with_reducible refine' wpQuiet_at_rd (.tmp 69) (.tmp 70) 23 rfl ?_ Tryd.underlying23 sz_node ?_ hrx (by decide) (j) ?_ ?_ ?_); exact rfl; exact rfl; (show (_ : Int) = _; omega); omega; simp only [Act.put, List.setIfInBounds_toArray, List.set_cons_succ, List.set_cons_zero]) | ((with_reducible refine' wpQuietC_load_st (cov_below _) (cp := cj) (.tmp 71) 25 rfl ?_ Tryd.underlying25 ?_ sz_node ?_ hrx ?_ ?_ HCJ.out ?_); exact rfl; exact rfl; exact rfl; exact BDJ.out; decide; simp only [Act.put, List.setIfInBounds_toArray, List.set_cons_succ, List.set_cons_zero]) | ((with_reducible refine' wpQuiet_at_rd (.tmp 73) (.tmp 74) 23 rfl ?_ Tryd.underlying23 sz_node ?_ hrx (by decide) (i) ?_ ?_ ?_); exact rfl; exact rfl; (show (_ : Int) = _; omega); omega; simp only [Act.put, List.setIfInBounds_toArray, List.set_cons_succ, List.set_cons_zero]) | ((with_reducible refine' wpQuietC_load_st (cov_below _) (cp := ci) (.tmp 75) 25 rfl ?_ Tryd.underlying25 ?_ sz_node ?_ hrx ?_ ?_ HCI.out ?_); exact rfl; exact rfl; exact rfl; exact BDI.out; decide; simp only [Act.put, List.setIfInBounds_toArray, List.set_cons_succ, List.set_cons_zero]) | go_big_quiet_step (fail) | (go_big_quiet_want; go_big_quiet_op; refine ⟨_, fun _ _ => rfl, ?_⟩; go_big_quiet_on)); refine wpQuiet_nil ?_))
            refine wpPlan_o rfl ?_
            go_wp2_with ((go_at_call 19; (with_reducible refine (compare_any tj ti cj ci _ hT2 hT1).mono ?_); rintro e w' ⟨rfl, hN13⟩))
            have hc13 := hd2.trans hN13
            refine ⟨rfl, hc13, ?_⟩
            have hw : wrap64 (x * -1) = -x := by unfold wrap64; omega
            have hw2 : wrap64 (- -x) = x := by unfold wrap64; omega
            have hw3 : wrap64 x = x := by unfold wrap64; omega
            by_cases hij2 : i = j
            · have hx0 := hx3 hij2
              subst hx0
              subst hij2
              (repeat (refine wpPlan_f rfl ?_; (first | fail | go_big_quiet_step (fail) | (go_big_quiet_want; go_big_quiet_op; refine ⟨_, fun _ _ => rfl, ?_⟩; go_big_quiet_on)); refine wpQuiet_nil ?_))
              refine wpPlan_tail ?_
              go_wp2_with fail
              refine onlyN ?_
              go_wp2_with fail
              go_meet
              case rel => (first | exact ⟨rfl, hc13⟩ | ((repeat apply Exists.intro); exact ⟨⟨rfl, hc13⟩, rfl⟩))
            · have hne : ((i : Int) == (j : Int)) = false := by rw [beq_eq_false_iff_ne]; omega
              (repeat (refine wpPlan_f rfl ?_; (first | fail | go_big_quiet_step (fail) | (go_big_quiet_want; go_big_quiet_op; refine ⟨_, fun _ _ => rfl, ?_⟩; go_big_quiet_on)); refine wpQuiet_nil ?_))
              refine wpPlan_tail ?_
              go_wp2_with fail
              refine onlyN ?_
              go_wp2_with fail
              go_meet
              case rel => (first | exact ⟨rfl, hc13⟩ | ((repeat apply Exists.intro); exact ⟨⟨rfl, hc13⟩, rfl⟩))
          case rest =>
            obtain ⟨rfl, hbc⟩ := hcut
            have hb2 := hbx.trans (hbc.mono hbx.size)
            clear hT1 hT2 hrx hrj hd hd2 hbc L1 L2
            go_upto_region 15 with fail
            go_loopw [18] (fun i wr => ∃ j : Nat, j ≤ 4 ∧ i = .int .i64 (j : Int) ∧ Below w11.heap.size w11 wr) (fun i _ => 4 - (intOf i).toNat)
            case atStart => exact ⟨0, by omega, rfl, hb2⟩
            case round =>
              obtain ⟨k, hk, rfl, hbk⟩ := hrel
              obtain ⟨wk, rfl⟩ : ∃ wo : World, wo = wr := ⟨_, rfl⟩
              by_cases hk4 : k < 4
              · have LK : decide ((k : Int) < 4) = true := by rw [decide_eq_true_eq]; omega
                obtain ⟨tk, htk⟩ := kid_at (ts := t4) (i := k) (by rw [L4.out]; exact hk4)
                obtain ⟨ck, hck⟩ : ∃ c, (xs.drop (k * 4)).take 4 = c := ⟨_, rfl⟩
                have HCK := Lib.hid hck
                have BDK := Lib.hid (show k * 4 + 4 ≤ xs.length by rw [XL.out]; omega)
                have TK := Lib.hid (show IsT w11 tk ck by have h := IsTs.get HTs'.out htk; rw [hck] at h; exact h)
                have hrk := HR.below hbk
                have hdk : Below wk.heap.size wk wk.drew := (Below.refl _ _).drew
                clear hck htk
                have hT1 := (TI.out.below hbk).below hdk
                have hT2 := (TJ.out.below hbk).below hdk
                have hT3 := (TK.out.below hbk).below hdk
                obtain ⟨y, hy⟩ : ∃ y, tcmp tj tk = y := ⟨_, rfl⟩
                have hyz : x ≤ 0 → y ≤ 0 → tcmp ti tk ≤ 0 := fun h1 h2 => tcmp_trans (by rw [HX.out]; exact h1) (by rw [hy]; exact h2)
                have HY := Lib.hid hy
                clear hy
                go_upto_region 17 with fail
                go_cut [119] from 94 to 119 (fun b wc => b = Value.bool false ∧ Below wk.heap.size wk wc)
                case first =>
                  (refine wp_region_plan (fun w' => Below wk.heap.size wk w') (.f 0 (.f 1 (.f 2 (.f 3 (.f 4 (.f 5 (.f 6 (.f 7 (.f 8 (.f 9 (.f 10 (.o 11 (.f 12 (.f 13 (.f 14 (.f 15 (.f 16 (.f 17 (.f 18 (.f 19 (.f 20 (.f 21 (.f 22 (.o 23 (.f 24 (.f 25 .tail)))))))))))))))))))))))))) 26 (by kernel_rfl) (by kernel_rfl) (hdk) ?_)
                  by_cases hx0 : x ≤ 0
                  · have D1 : decide (x ≤ 0) = true := decide_eq_true hx0
                    (repeat (refine wpPlan_f rfl ?_; (first | ((with_reducible refine' wpQuiet_at_rd (.tmp 97) (.tmp 98) 23 rfl ?_ Tryd.underlying23 sz_node ?_ hrk (by decide) (j) ?_ ?_ ?_); exact rfl; exact rfl; (show (_ : Int) = _; omega); omega; simp only [Act.put, List.setIfInBounds_toArray, List.set_cons_succ, List.set_cons_zero]) | ((with_reducible refine' wpQuietC_load_st (cov_below _) (cp := cj) (.tmp 99) 25 rfl ?_ Tryd.underlying25 ?_ sz_node ?_ hrk ?_ ?_ HCJ.out ?_); exact rfl; exact rfl; exact rfl; exact BDJ.out; decide; simp only [Act.put, List.setIfInBounds_toArray, List.set_cons_succ, List.set_cons_zero]) | ((with_reducible refine' wpQuiet_at_rd (.tmp 101) (.tmp 102) 23 rfl ?_ Tryd.underlying23 sz_node ?_ hrk (by decide) (k) ?_ ?_ ?_); exact rfl; exact rfl; (show (_ : Int) = _; omega); omega; simp only [Act.put, List.setIfInBounds_toArray, List.set_cons_succ, List.set_cons_zero]) | ((with_reducible refine' wpQuietC_load_st (cov_below _) (cp := ck) (.tmp 103) 25 rfl ?_ Tryd.underlying25 ?_ sz_node ?_ hrk ?_ ?_ HCK.out ?_); exact rfl; exact rfl; exact rfl; exact BDK.out; decide; simp only [Act.put, List.setIfInBounds_toArray, List.set_cons_succ, List.set_cons_zero]) | ((with_reducible refine' wpQuiet_at_rd (.tmp 109) (.tmp 110) 23 rfl ?_ Tryd.underlying23 sz_node ?_ hrk (by decide) (i) ?_ ?_ ?_); exact rfl; exact rfl; (show (_ : Int) = _; omega); omega; simp only [Act.put, List.setIfInBounds_toArray, List.set_cons_succ, List.set_cons_zero]) | ((with_reducible refine' wpQuietC_load_st (cov_below _) (cp := ci) (.tmp 111) 25 rfl ?_ Tryd.underlying25 ?_ sz_node ?_ hrk ?_ ?_ HCI.out ?_); exact rfl; exact rfl; exact rfl; exact BDI.out; decide; simp only [Act.put, List.setIfInBounds_toArray, List.set_cons_succ, List.set_cons_zero]) | ((with_reducible refine' wpQuiet_at_rd (.tmp 113) (.tmp 114) 23 rfl ?_ Tryd.underlying23 sz_node ?_ hrk (by decide) (k) ?_ ?_ ?_); exact rfl; exact rfl; (show (_ : Int) = _; omega); omega; simp only [Act.put, List.setIfInBounds_toArray, List.set_cons_succ, List.set_cons_zero]) | ((with_reducible refine' wpQuietC_load_st (cov_below _) (cp := ck) (.tmp 115) 25 rfl ?_ Tryd.underlying25 ?_ sz_node ?_ hrk ?_ ?_ HCK.out ?_); exact rfl; exact rfl; exact rfl; exact BDK.out; decide; simp only [Act.put, List.setIfInBounds_toArray, List.set_cons_succ, List.set_cons_zero]) | go_big_quiet_step (fail) | (go_big_quiet_want; go_big_quiet_op; refine ⟨_, fun _ _ => rfl, ?_⟩; go_big_quiet_on)); refine wpQuiet_nil ?_))
                    refine wpPlan_o rfl ?_
                    go_wp2_with ((go_at_call 19; (with_reducible refine (compare_any tj tk cj ck _ hT2 hT3).mono ?_); rintro e w' ⟨rfl, hN14⟩))
                    have hc14 := hdk.trans hN14
                    rw [HY.out]
                    refine ⟨rfl, hc14, ?_⟩
                    have hT1' := hT1.below hN14
                    have hT3' := hT3.below hN14
                    by_cases hy0 : y ≤ 0
                    · have D2 : decide (y ≤ 0) = true := decide_eq_true hy0
                      have hz := hyz hx0 hy0
                      have D3 : decide (0 < tcmp ti tk) = false := by rw [decide_eq_false_iff_not]; omega
                      (repeat (refine wpPlan_f rfl ?_; (first | ((with_reducible refine' wpQuiet_at_rd (.tmp 97) (.tmp 98) 23 rfl ?_ Tryd.underlying23 sz_node ?_ hrk (by decide) (j) ?_ ?_ ?_); exact rfl; exact rfl; (show (_ : Int) = _; omega); omega; simp only [Act.put, List.setIfInBounds_toArray, List.set_cons_succ, List.set_cons_zero]) | ((with_reducible refine' wpQuietC_load_st (cov_below _) (cp := cj) (.tmp 99) 25 rfl ?_ Tryd.underlying25 ?_ sz_node ?_ hrk ?_ ?_ HCJ.out ?_); exact rfl; exact rfl; exact rfl; exact BDJ.out; decide; simp only [Act.put, List.setIfInBounds_toArray, List.set_cons_succ, List.set_cons_zero]) | ((with_reducible refine' wpQuiet_at_rd (.tmp 101) (.tmp 102) 23 rfl ?_ Tryd.underlying23 sz_node ?_ hrk (by decide) (k) ?_ ?_ ?_); exact rfl; exact rfl; (show (_ : Int) = _; omega); omega; simp only [Act.put, List.setIfInBounds_toArray, List.set_cons_succ, List.set_cons_zero]) | ((with_reducible refine' wpQuietC_load_st (cov_below _) (cp := ck) (.tmp 103) 25 rfl ?_ Tryd.underlying25 ?_ sz_node ?_ hrk ?_ ?_ HCK.out ?_); exact rfl; exact rfl; exact rfl; exact BDK.out; decide; simp only [Act.put, List.setIfInBounds_toArray, List.set_cons_succ, List.set_cons_zero]) | ((with_reducible refine' wpQuiet_at_rd (.tmp 109) (.tmp 110) 23 rfl ?_ Tryd.underlying23 sz_node ?_ hrk (by decide) (i) ?_ ?_ ?_); exact rfl; exact rfl; (show (_ : Int) = _; omega); omega; simp only [Act.put, List.setIfInBounds_toArray, List.set_cons_succ, List.set_cons_zero]) | ((with_reducible refine' wpQuietC_load_st (cov_below _) (cp := ci) (.tmp 111) 25 rfl ?_ Tryd.underlying25 ?_ sz_node ?_ hrk ?_ ?_ HCI.out ?_); exact rfl; exact rfl; exact rfl; exact BDI.out; decide; simp only [Act.put, List.setIfInBounds_toArray, List.set_cons_succ, List.set_cons_zero]) | ((with_reducible refine' wpQuiet_at_rd (.tmp 113) (.tmp 114) 23 rfl ?_ Tryd.underlying23 sz_node ?_ hrk (by decide) (k) ?_ ?_ ?_); exact rfl; exact rfl; (show (_ : Int) = _; omega); omega; simp only [Act.put, List.setIfInBounds_toArray, List.set_cons_succ, List.set_cons_zero]) | ((with_reducible refine' wpQuietC_load_st (cov_below _) (cp := ck) (.tmp 115) 25 rfl ?_ Tryd.underlying25 ?_ sz_node ?_ hrk ?_ ?_ HCK.out ?_); exact rfl; exact rfl; exact rfl; exact BDK.out; decide; simp only [Act.put, List.setIfInBounds_toArray, List.set_cons_succ, List.set_cons_zero]) | go_big_quiet_step (fail) | (go_big_quiet_want; go_big_quiet_op; refine ⟨_, fun _ _ => rfl, ?_⟩; go_big_quiet_on)); refine wpQuiet_nil ?_))
                      refine wpPlan_o rfl ?_
                      go_wp2_with ((go_at_call 19; (with_reducible refine (compare_any ti tk ci ck _ hT1' hT3').mono ?_); rintro e w' ⟨rfl, hN15⟩))
                      have hc15 := hc14.trans (hN15.mono hc14.size)
                      refine ⟨rfl, hc15, ?_⟩
                      (repeat (refine wpPlan_f rfl ?_; (first | fail | go_big_quiet_step (fail) | (go_big_quiet_want; go_big_quiet_op; refine ⟨_, fun _ _ => rfl, ?_⟩; go_big_quiet_on)); refine wpQuiet_nil ?_))
                      refine wpPlan_tail ?_
                      go_wp2_with fail
                      refine onlyN ?_
                      go_wp2_with fail
                      go_meet
                      case rel => (first | exact ⟨rfl, hc15⟩ | ((repeat apply Exists.intro); exact ⟨⟨rfl, hc15⟩, rfl⟩))
                    · have D2 : decide (y ≤ 0) = false := decide_eq_false hy0
                      (repeat (refine wpPlan_f rfl ?_; (first | ((with_reducible refine' wpQuiet_at_rd (.tmp 97) (.tmp 98) 23 rfl ?_ Tryd.underlying23 sz_node ?_ hrk (by decide) (j) ?_ ?_ ?_); exact rfl; exact rfl; (show (_ : Int) = _; omega); omega; simp only [Act.put, List.setIfInBounds_toArray, List.set_cons_succ, List.set_cons_zero]) | ((with_reducible refine' wpQuietC_load_st (cov_below _) (cp := cj) (.tmp 99) 25 rfl ?_ Tryd.underlying25 ?_ sz_node ?_ hrk ?_ ?_ HCJ.out ?_); exact rfl; exact rfl; exact rfl; exact BDJ.out; decide; simp only [Act.put, List.setIfInBounds_toArray, List.set_cons_succ, List.set_cons_zero]) | ((with_reducible refine' wpQuiet_at_rd (.tmp 101) (.tmp 102) 23 rfl ?_ Tryd.underlying23 sz_node ?_ hrk (by decide) (k) ?_ ?_ ?_); exact rfl; exact rfl; (show (_ : Int) = _; omega); omega; simp only [Act.put, List.setIfInBounds_toArray, List.set_cons_succ, List.set_cons_zero]) | ((with_reducible refine' wpQuietC_load_st (cov_below _) (cp := ck) (.tmp 103) 25 rfl ?_ Tryd.underlying25 ?_ sz_node ?_ hrk ?_ ?_ HCK.out ?_); exact rfl; exact rfl; exact rfl; exact BDK.out; decide; simp only [Act.put, List.setIfInBounds_toArray, List.set_cons_succ, List.set_cons_zero]) | ((with_reducible refine' wpQuiet_at_rd (.tmp 109) (.tmp 110) 23 rfl ?_ Tryd.underlying23 sz_node ?_ hrk (by decide) (i) ?_ ?_ ?_); exact rfl; exact rfl; (show (_ : Int) = _; omega); omega; simp only [Act.put, List.setIfInBounds_toArray, List.set_cons_succ, List.set_cons_zero]) | ((with_reducible refine' wpQuietC_load_st (cov_below _) (cp := ci) (.tmp 111) 25 rfl ?_ Tryd.underlying25 ?_ sz_node ?_ hrk ?_ ?_ HCI.out ?_); exact rfl; exact rfl; exact rfl; exact BDI.out; decide; simp only [Act.put, List.setIfInBounds_toArray, List.set_cons_succ, List.set_cons_zero]) | ((with_reducible refine' wpQuiet_at_rd (.tmp 113) (.tmp 114) 23 rfl ?_ Tryd.underlying23 sz_node ?_ hrk (by decide) (k) ?_ ?_ ?_); exact rfl; exact rfl; (show (_ : Int) = _; omega); omega; simp only [Act.put, List.setIfInBounds_toArray, List.set_cons_succ, List.set_cons_zero]) | ((with_reducible refine' wpQuietC_load_st (cov_below _) (cp := ck) (.tmp 115) 25 rfl ?_ Tryd.underlying25 ?_ sz_node ?_ hrk ?_ ?_ HCK.out ?_); exact rfl; exact rfl; exact rfl; exact BDK.out; decide; simp only [Act.put, List.setIfInBounds_toArray, List.set_cons_succ, List.set_cons_zero]) | go_big_quiet_step (fail) | (go_big_quiet_want; go_big_quiet_op; refine ⟨_, fun _ _ => rfl, ?_⟩; go_big_quiet_on)); refine wpQuiet_nil ?_))
                      refine wpPlan_o rfl ?_
                      go_wp2_with fail
                      refine ⟨rfl, hc14, ?_⟩
                      (repeat (refine wpPlan_f rfl ?_; (first | fail | go_big_quiet_step (fail) | (go_big_quiet_want; go_big_quiet_op; refine ⟨_, fun _ _ => rfl, ?_⟩; go_big_quiet_on)); refine wpQuiet_nil ?_))
                      refine wpPlan_tail ?_
                      go_wp2_with fail
                      refine onlyN ?_
                      go_wp2_with fail
                      go_meet
                      case rel => (first | exact ⟨rfl, hc14⟩ | ((repeat apply Exists.intro); exact ⟨⟨rfl, hc14⟩, rfl⟩))
                  · have D1 : decide (x ≤ 0) = false := decide_eq_false hx0
                    (repeat (refine wpPlan_f rfl ?_; (first | ((with_reducible refine' wpQuiet_at_rd (.tmp 97) (.tmp 98) 23 rfl ?_ Tryd.underlying23 sz_node ?_ hrk (by decide) (j) ?_ ?_ ?_); exact rfl; exact rfl; (show (_ : Int) = _; omega); omega; simp only [Act.put, List.setIfInBounds_toArray, List.set_cons_succ, List.set_cons_zero]) | ((with_reducible refine' wpQuietC_load_st (cov_below _) (cp := cj) (.tmp 99) 25 rfl ?_ Tryd.underlying25 ?_ sz_node ?_ hrk ?_ ?_ HCJ.out ?_); exact rfl; exact rfl; exact rfl; exact BDJ.out; decide; simp only [Act.put, List.setIfInBounds_toArray, List.set_cons_succ, List.set_cons_zero]) | ((with_reducible refine' wpQuiet_at_rd (.tmp 101) (.tmp 102) 23 rfl ?_ Tryd.underlying23 sz_node ?_ hrk (by decide) (k) ?_ ?_ ?_); exact rfl; exact rfl; (show (_ : Int) = _; omega); omega; simp only [Act.put, List.setIfInBounds_toArray, List.set_cons_succ, List.set_cons_zero]) | ((with_reducible refine' wpQuietC_load_st (cov_below _) (cp := ck) (.tmp 103) 25 rfl ?_ Tryd.underlying25 ?_ sz_node ?_ hrk ?_ ?_ HCK.out ?_); exact rfl; exact rfl; exact rfl; exact BDK.out; decide; simp only [Act.put, List.setIfInBounds_toArray, List.set_cons_succ, List.set_cons_zero]) | ((with_reducible refine' wpQuiet_at_rd (.tmp 109) (.tmp 110) 23 rfl ?_ Tryd.underlying23 sz_node ?_ hrk (by decide) (i) ?_ ?_ ?_); exact rfl; exact rfl; (show (_ : Int) = _; omega); omega; simp only [Act.put, List.setIfInBounds_toArray, List.set_cons_succ, List.set_cons_zero]) | ((with_reducible refine' wpQuietC_load_st (cov_below _) (cp := ci) (.tmp 111) 25 rfl ?_ Tryd.underlying25 ?_ sz_node ?_ hrk ?_ ?_ HCI.out ?_); exact rfl; exact rfl; exact rfl; exact BDI.out; decide; simp only [Act.put, List.setIfInBounds_toArray, List.set_cons_succ, List.set_cons_zero]) | ((with_reducible refine' wpQuiet_at_rd (.tmp 113) (.tmp 114) 23 rfl ?_ Tryd.underlying23 sz_node ?_ hrk (by decide) (k) ?_ ?_ ?_); exact rfl; exact rfl; (show (_ : Int) = _; omega); omega; simp only [Act.put, List.setIfInBounds_toArray, List.set_cons_succ, List.set_cons_zero]) | ((with_reducible refine' wpQuietC_load_st (cov_below _) (cp := ck) (.tmp 115) 25 rfl ?_ Tryd.underlying25 ?_ sz_node ?_ hrk ?_ ?_ HCK.out ?_); exact rfl; exact rfl; exact rfl; exact BDK.out; decide; simp only [Act.put, List.setIfInBounds_toArray, List.set_cons_succ, List.set_cons_zero]) | go_big_quiet_step (fail) | (go_big_quiet_want; go_big_quiet_op; refine ⟨_, fun _ _ => rfl, ?_⟩; go_big_quiet_on)); refine wpQuiet_nil ?_))
                    refine wpPlan_o rfl ?_
                    go_wp2_with fail
                    refine ⟨rfl, hdk, ?_⟩
                    (repeat (refine wpPlan_f rfl ?_; (first | fail | go_big_quiet_step (fail) | (go_big_quiet_want; go_big_quiet_op; refine ⟨_, fun _ _ => rfl, ?_⟩; go_big_quiet_on)); refine wpQuiet_nil ?_))
                    refine wpPlan_o rfl ?_
                    go_wp2_with fail
                    refine ⟨rfl, hdk, ?_⟩
                    (repeat (refine wpPlan_f rfl ?_; (first | fail | go_big_quiet_step (fail) | (go_big_quiet_want; go_big_quiet_op; refine ⟨_, fun _ _ => rfl, ?_⟩; go_big_quiet_on)); refine wpQuiet_nil ?_))
                    refine wpPlan_tail ?_
                    go_wp2_with fail
                    refine onlyN ?_
                    go_wp2_with fail
                    go_meet
                    case rel => (first | exact ⟨rfl, hdk⟩ | ((repeat apply Exists.intro); exact ⟨⟨rfl, hdk⟩, rfl⟩))
                case rest =>
                  obtain ⟨rfl, hbc2⟩ := hcut
                  have hb3 := hbk.trans (hbc2.mono hbk.size)
                  clear hT1 hT2 hT3 hdk hrk hbc2
                  go_wp2_with fail
                  go_roundw
                  case rel => (first | exact ⟨k + 1, by omega, by go_num, hb3⟩ | ((repeat apply Exists.intro); exact ⟨⟨k + 1, by omega, by go_num, hb3⟩, rfl⟩))
                  case measure => simp [intOf]; omega
              · obtain rfl : k = 4 := by omega
                go_wp2_with fail
                go_roundw
                case rel => (first | exact ⟨j + 1, by omega, by go_num, hbk⟩ | ((repeat apply Exists.intro); exact ⟨⟨j + 1, by omega, by go_num, hbk⟩, rfl⟩))
                case measure => simp [intOf]; omega
        · obtain rfl : j = 4 := by omega
          go_wp2_with fail
          go_roundw
          case rel => (first | exact ⟨i + 1, by omega, by go_num, hbj⟩ | ((repeat apply Exists.intro); exact ⟨⟨i + 1, by omega, by go_num, hbj⟩, rfl⟩))
          case measure => simp [intOf]; omega
    · obtain rfl : i = 4 := by omega
      have kAi := kA11.below hbi kA11.lt
      have kBi := kB11.below hbi kB11.lt
      have kGi := kG11.below hbi kG11.lt
      have hTai := hTa.out.below hbi
      have hTbi := hTb.out.below hbi
      have hTci := hTc.out.below hbi
      have hSi := hS11.below hbi
      have hbw := hb11.trans (hbi.mono hb11.size)
      have ZL3 : tsize ta ≤ 1000000 := by omega
      have hpos := tsize_pos ta
      have IS : I64 (tsize ta : Int) := by unfold I64; omega
      have hl0 : 0 < (tsize ta : Int) := by omega
      clear HR HTs' kA11 kB11 kG11 hS11 hTa hTb hTc hb11 hbi
      go_upto_region 20 with (first
        | ((with_reducible refine' wpList_loadst_blk (.tmp 11) 25 rfl ?_ Tryd.underlying25 ?_ sz_node ?_ kAi ?_ ?_ ?_); exact rfl; exact rfl; exact rfl; exact CL.out; decide; simp only [Act.put, List.setIfInBounds_toArray, List.set_cons_succ, List.set_cons_zero])
        | ((go_at_call 24; (with_reducible refine (refpaths_any ta cs _ hTai ZL3).mono ?_); rintro e w' ⟨vp, vs, rfl, op, HP, hN16⟩)))
      have kA16 := kAi.below hN16 kAi.lt
      have kB16 := kBi.below hN16 kBi.lt
      have kG16 := kGi.below hN16 kGi.lt
      have hTa16 := hTai.below hN16
      have hTb16 := hTbi.below hN16
      have hTc16 := hTci.below hN16
      have hS16 := hSi.below hN16
      have hb16 := hbw.trans (hN16.mono hbw.size)
      have rp := Rd.of_own op
      obtain ⟨ix, hix⟩ : ∃ ix, aroundV a (tsize ta : Int) = ix := ⟨_, rfl⟩
      have bx := aroundV_bd a (most := (tsize ta : Int)) hl0
      rw [hix] at bx
      have HIX := Lib.hid hix
      obtain ⟨q, rfl⟩ : ∃ q : Nat, ix = (q : Int) := ⟨ix.toNat, by omega⟩
      obtain ⟨p, hp, hpl⟩ := path_at (t := ta) (q := q) (by omega)
      obtain ⟨vq, hv1, hv2, hv3⟩ := HP.2 q p hp
      have VP := Lib.hid hv1
      have rq : Rd _ 1 vq p.length (iv p) := hv3.1
      have hat : (tat p ta).isSome = true := by rw [← tindex_isSome, tindex_path _ _ _ hp]; rfl
      clear hix hv1 hp hN16 kAi kBi kGi hTai hTbi hTci hSi hbw op HP hv3
      obtain ⟨w16, rfl⟩ : ∃ x, x = w' := ⟨_, rfl⟩
      obtain ⟨P, hP⟩ : ∃ P, tset p ta tc = some P := by
        have h := tset_isSome tc p ta
        rw [hat] at h
        exact Option.isSome_iff_exists.1 h
      obtain ⟨Q, hQ⟩ : ∃ Q, tset p ta tb = some Q := by
        have h := tset_isSome tb p ta
        rw [hat] at h
        exact Option.isSome_iff_exists.1 h
      have hPQ := tcmp_tset tc tb p ta P Q hP hQ
      have HP := Lib.hid hP
      have HQ := Lib.hid hQ
      have hXa := hTa16.isTX
      have hXb := hTb16.isTX
      have hXc := hTc16.isTX
      clear hP hQ hat
      go_upto_region 21 with (first
        | ((with_reducible refine' wpList_len_rd (.tmp 124) 36 rfl ?_ Tryd.underlying36 ?_ rp ?_); exact rfl; exact rfl; simp only [Act.put, List.setIfInBounds_toArray, List.set_cons_succ, List.set_cons_zero])
        | ((go_at_call 14; (with_reducible refine (around_any a _ _ HA.out hl0 IS).mono ?_); rintro e w' ⟨rfl, rfl⟩); rw [HIX.out])
        | ((with_reducible refine' wpList_at1_rd (.tmp 122) (.tmp 126) 36 rfl ?_ Tryd.underlying36 sz_ints ?_ rp (q) ?_ ?_ ?_); exact rfl; exact rfl; (show (_ : Int) = _; omega); omega; simp only [Act.put, List.setIfInBounds_toArray, List.set_cons_succ, List.set_cons_zero]) | ((with_reducible refine' wpList_load_rd (.tmp 127) 22 rfl ?_ ld_ints ?_ rp (VP.out) ?_); exact rfl; exact rfl; simp only [Act.put, List.setIfInBounds_toArray, List.set_cons_succ, List.set_cons_zero]))
      go_upto_region 22 with (first
        | ((with_reducible refine' wpList_loadst_blk (.tmp 11) 25 rfl ?_ Tryd.underlying25 ?_ sz_node ?_ kA16 ?_ ?_ ?_); exact rfl; exact rfl; exact rfl; exact CL.out; decide; simp only [Act.put, List.setIfInBounds_toArray, List.set_cons_succ, List.set_cons_zero]) | ((with_reducible refine' wpList_loadst_blk (.tmp 13) 25 rfl ?_ Tryd.underlying25 ?_ sz_node ?_ kG16 ?_ ?_ ?_); exact rfl; exact rfl; exact rfl; exact EL.out; decide; simp only [Act.put, List.setIfInBounds_toArray, List.set_cons_succ, List.set_cons_zero])
        | ((go_at_call 25; (with_reducible refine (refset_any p _ ta tc cs es vq _ hXa hXc rq ZL3).mono ?_); rintro e w' ⟨ps, c, rfl, hA, hN17⟩); rw [HP.out] at hA; obtain ⟨rfl, hA⟩ := hA; have AL := Lib.hid hA.len; have AO := Lib.hid hA.isT.ones)
        | (((with_reducible refine' wpList_alloc_blk (cs := nodz) 25 rfl ?_ zr_node ?_ ?_); exact rfl; exact nodz_cells; intro w18 k18 hN18 hz18; simp only [Act.put, List.setIfInBounds_toArray, List.set_cons_succ, List.set_cons_zero]))
        | (((with_reducible refine' wpList_store_blk (cs := ps) 25 (.tmp 21) (.tmp 134) rfl ?_ ?_ ?_ k18 sz_node ?_ ?_ ?_ ?_); exact rfl; exact rfl; exact rfl; exact AL.out; exact rfl; exact AO.out; intro w19 k19 hO19 hz19; simp only [Act.put])))
      obtain ⟨M1, hM1⟩ : ∃ M, w'.heap.size = M := ⟨_, rfl⟩
      have b1 : Below w16.heap.size w16 w19 := (hN17.trans (hN18.mono hN17.size)).trans (hO19.below hN17.size (Nat.le_trans hN17.size hN18.size))
      have hP19 : IsT w19 P ps := ((hA.lt.below hN18).only hO19 (fun b h => by have := h.2; omega)).isT
      have s19 := k19.lt
      have kA19 := kA16.below b1 kA16.lt
      have kB19 := kB16.below b1 kB16.lt
      have kG19 := kG16.below b1 kG16.lt
      have hXa19 := hXa.below b1
      have hXb19 := hXb.below b1
      have hTb19 := hTb16.below b1
      have hTc19 := hTc16.below b1
      have rq19 := rq.below b1
      have hS19 := hS16.below b1
      have hb19 := hb16.trans (b1.mono hb16.size)
      rw [hM1] at k19 s19
      simp only [hM1]
      clear hz18 hz19 hO19 hN18 hN17 hA k18 b1 kA16 kB16 kG16 hXa hXb hXc hTa16 hTb16 hTc16 rq hS16 hb16 hM1 rp
      go_upto_region 23 with (first
        | ((with_reducible refine' wpList_loadst_blk (.tmp 11) 25 rfl ?_ Tryd.underlying25 ?_ sz_node ?_ kA19 ?_ ?_ ?_); exact rfl; exact rfl; exact rfl; exact CL.out; decide; simp only [Act.put, List.setIfInBounds_toArray, List.set_cons_succ, List.set_cons_zero]) | ((with_reducible refine' wpList_loadst_blk (.tmp 12) 25 rfl ?_ Tryd.underlying25 ?_ sz_node ?_ kB19 ?_ ?_ ?_); exact rfl; exact rfl; exact rfl; exact DL.out; decide; simp only [Act.put, List.setIfInBounds_toArray, List.set_cons_succ, List.set_cons_zero])
        | ((go_at_call 25; (with_reducible refine (refset_any p _ ta tb cs ds vq _ hXa19 hXb19 rq19 ZL3).mono ?_); rintro e w' ⟨qs, c, rfl, hA, hN20⟩); rw [HQ.out] at hA; obtain ⟨rfl, hA⟩ := hA; have QL := Lib.hid hA.len; have QO := Lib.hid hA.isT.ones)
        | (((with_reducible refine' wpList_alloc_blk (cs := nodz) 25 rfl ?_ zr_node ?_ ?_); exact rfl; exact nodz_cells; intro w21 k21 hN21 hz21; simp only [Act.put, List.setIfInBounds_toArray, List.set_cons_succ, List.set_cons_zero]))
        | (((with_reducible refine' wpList_store_blk (cs := qs) 25 (.tmp 23) (.tmp 141) rfl ?_ ?_ ?_ k21 sz_node ?_ ?_ ?_ ?_); exact rfl; exact rfl; exact rfl; exact QL.out; exact rfl; exact QO.out; intro w22 k22 hO22 hz22; simp only [Act.put])))
      obtain ⟨M2, hM2⟩ : ∃ M, w'.heap.size = M := ⟨_, rfl⟩
      have b2 : Below w19.heap.size w19 w22 := (hN20.trans (hN21.mono hN20.size)).trans (hO22.below hN20.size (Nat.le_trans hN20.size hN21.size))
      have hQ22 : IsT w22 Q qs := ((hA.lt.below hN21).only hO22 (fun b h => by have := h.2; omega)).isT
      have hP22 := hP19.below b2
      have kP22 := k19.below b2 s19
      have kB22 := kB19.below b2 kB19.lt
      have kG22 := kG19.below b2 kG19.lt
      have hTb22 := hTb19.below b2
      have hTc22 := hTc19.below b2
      have hS22 := hS19.below b2
      have hb22 := hb19.trans (b2.mono hb19.size)
      rw [hM2] at k22
      simp only [hM2]
      clear hz21 hO22 hz22 hN21 hN20 hA k21 b2 kA19 kB19 kG19 k19 hXa19 hXb19 hTb19 hTc19 rq19 hS19 hb19 hM2 hP19
      have CP : ∀ w', Below w22.heap.size w22 w' → Blk w' M1 25 ps := fun w' h => kP22.below h kP22.lt
      have CQ : ∀ w', Below w22.heap.size w22 w' → Blk w' M2 25 qs := fun w' h => k22.below h k22.lt
      have CB : ∀ w', Below w22.heap.size w22 w' → Blk w' B 25 ds := fun w' h => kB22.below h kB22.lt
      have CG : ∀ w', Below w22.heap.size w22 w' → Blk w' G 25 es := fun w' h => kG22.below h kG22.lt
      have hd : Below w22.heap.size w22 w22.drew := (Below.refl _ _).drew
      have p1 := hP22.below hd
      have p2 := hQ22.below hd
      (refine wp_region_plan (fun w' => Below w22.heap.size w22 w') (.f 0 (.f 1 (.f 3 (.f 4 (.o 2 (.o 5 (.f 6 (.f 7 (.o 8 (.f 9 (.f 10 .tail))))))))))) 11 (by kernel_rfl) (by kernel_rfl) (hd) ?_)
      (repeat (refine wpPlan_f rfl ?_; (first | ((with_reducible refine' wpQuietH_loadst_blk (.tmp 21) 25 rfl ?_ Tryd.underlying25 ?_ sz_node ?_ (CP) ?_ ?_ ?_); exact rfl; exact rfl; exact rfl; exact AL.out; decide; simp only [Act.put, List.setIfInBounds_toArray, List.set_cons_succ, List.set_cons_zero]) | ((with_reducible refine' wpQuietH_loadst_blk (.tmp 23) 25 rfl ?_ Tryd.underlying25 ?_ sz_node ?_ (CQ) ?_ ?_ ?_); exact rfl; exact rfl; exact rfl; exact QL.out; decide; simp only [Act.put, List.setIfInBounds_toArray, List.set_cons_succ, List.set_cons_zero]) | ((with_reducible refine' wpQuietH_loadst_blk (.tmp 13) 25 rfl ?_ Tryd.underlying25 ?_ sz_node ?_ (CG) ?_ ?_ ?_); exact rfl; exact rfl; exact rfl; exact EL.out; decide; simp only [Act.put, List.setIfInBounds_toArray, List.set_cons_succ, List.set_cons_zero]) | ((with_reducible refine' wpQuietH_loadst_blk (.tmp 12) 25 rfl ?_ Tryd.underlying25 ?_ sz_node ?_ (CB) ?_ ?_ ?_); exact rfl; exact rfl; exact rfl; exact DL.out; decide; simp only [Act.put, List.setIfInBounds_toArray, List.set_cons_succ, List.set_cons_zero]) | go_big_quiet_step (fail) | (go_big_quiet_want; go_big_quiet_op; refine ⟨_, fun _ _ => rfl, ?_⟩; go_big_quiet_on)); refine wpQuiet_nil ?_))
      refine wpPlan_o rfl ?_
      go_wp2_with ((go_at_call 19; (with_reducible refine (compare_any P Q ps qs _ p1 p2).mono ?_); rintro e w' ⟨rfl, hN23⟩))
      have hc23 := hd.trans hN23
      have p3 := hTb22.below hc23
      have p4 := hTc22.below hc23
      refine ⟨rfl, hc23, ?_⟩
      refine wpPlan_o rfl ?_
      go_wp2_with ((go_at_call 19; (with_reducible refine (compare_any tc tb es ds _ p4 p3).mono ?_); rintro e w' ⟨rfl, hN24⟩))
      have hc24 := hc23.trans (hN24.mono hc23.size)
      refine ⟨rfl, hc24, ?_⟩
      try rw [hPQ]
      (repeat (refine wpPlan_f rfl ?_; (first | fail | go_big_quiet_step (fail) | (go_big_quiet_want; go_big_quiet_op; refine ⟨_, fun _ _ => rfl, ?_⟩; go_big_quiet_on)); refine wpQuiet_nil ?_))
      have hS24 := hS22.below hc24
      refine wpPlan_o rfl ?_
      go_wp2_with ((go_at_call 21; (with_reducible refine (lives_any _ hS24).mono ?_); rintro e w' ⟨rfl, hN25⟩))
      have hc25 := hc24.trans (hN25.mono hc24.size)
      refine ⟨rfl, hc25, ?_⟩
      (repeat (refine wpPlan_f rfl ?_; (first | fail | go_big_quiet_step (fail) | (go_big_quiet_want; go_big_quiet_op; refine ⟨_, fun _ _ => rfl, ?_⟩; go_big_quiet_on)); refine wpQuiet_nil ?_))
      refine wpPlan_tail ?_
      go_wp2_with fail
      refine onlyN ?_
      go_wp2_with fail
      go_ret
      exact ⟨rfl, hb22.trans (hc25.mono hb22.size)⟩
end Go.Proofs.YtdlhkhnoigbhjaaDoor.Wi
namespace Go.Proofs.YtdlhkhnoigbhjaaDoor.Wi
open Go Go.RowKit Pu Lb
set_option linter.unusedSimpArgs false
set_option linter.unusedVariables false
theorem tat_path {t : Tree} {j : Nat} {p : List Int} (h : (tpaths t)[j]? = some p) : ∃ u, tat p t = some u := by
  have h1 := tindex_isSome p t
  rw [tindex_path t j p h] at h1
  exact Option.isSome_iff_exists.1 h1.symm
theorem isT_lt {w : World} {t : Tree} {cs : List Value} (h : IsT w t cs) : IsTX (fun b => b < w.heap.size) w t cs := h.isTX.lt.mono fun _ h => h.2
set_option maxRecDepth 100000 in
set_option maxHeartbeats 6400000 in
theorem law_found (l m : List Int) (a : Int) (v1 v2 : Value) (w : World) (hl : ∀ x ∈ l, I64 x) (hm : ∀ x ∈ m, I64 x) (ha : I64 a) (r1 : Rd w 1 v1 l.length (iv l)) (r2 : Rd w 1 v2 m.length (iv m)) (hS : ShT w) :
    Calls Tryd.prog 7 #[v1, v2, .int .i64 a] w fun e w' => e = .returned (.bool true) ∧ Below w.heap.size w w' := by
  have HA := Lib.hid ha
  have ZL := gTree_size l
  have ZM := gTree_size m
  obtain ⟨ta, hta⟩ : ∃ t, gTree l = t := ⟨_, rfl⟩
  obtain ⟨tc, htc⟩ : ∃ t, gTree m = t := ⟨_, rfl⟩
  have C1 : ∀ w', Rd w' 1 v1 l.length (iv l) → Calls Tryd.prog 10 #[v1] w' fun e w'' => ∃ cs, e = .returned (.agg cs.toArray) ∧ IsTX (fun b => w'.heap.size ≤ b) w'' ta cs ∧ Below w'.heap.size w' w'' := fun w' h => by rw [← hta]; exact gtree0_any l hl v1 w' h
  have C2 : ∀ w', Rd w' 1 v2 m.length (iv m) → Calls Tryd.prog 10 #[v2] w' fun e w'' => ∃ cs, e = .returned (.agg cs.toArray) ∧ IsTX (fun b => w'.heap.size ≤ b) w'' tc cs ∧ Below w'.heap.size w' w'' := fun w' h => by rw [← htc]; exact gtree0_any m hm v2 w' h
  rw [hta] at ZL
  rw [htc] at ZM
  have ZL3 : tsize ta ≤ 1000000 := by omega
  have ZM3 : tsize tc ≤ 1000000 := by omega
  clear hta htc hl hm ha
  go_enter Tryd.func7, Tryd.ntmps7
  go_upto_region 2 with (first
    | ((go_at_call 10; (with_reducible refine (C1 _ r1).mono ?_); rintro e w' ⟨cs, rfl, hE, hN1⟩); have CL := Lib.hid hE.len; have CO := Lib.hid hE.isT.ones)
    | (((with_reducible refine' wpList_alloc_blk (cs := nodz) 25 rfl ?_ zr_node ?_ ?_); exact rfl; exact nodz_cells; intro w2 k2 hN2 hz2; simp only [Act.put, List.setIfInBounds_toArray, List.set_cons_succ, List.set_cons_zero]))
    | (((with_reducible refine' wpList_store_blk (cs := cs) 25 (.tmp 7) (.tmp 26) rfl ?_ ?_ ?_ k2 sz_node ?_ ?_ ?_ ?_); exact rfl; exact rfl; exact rfl; exact CL.out; exact rfl; exact CO.out; intro w3 k3 hO3 hz3; simp only [Act.put])))
  obtain ⟨A, hA⟩ : ∃ A, w'.heap.size = A := ⟨_, rfl⟩
  have hX3 : IsTX (fun b => w.heap.size ≤ b ∧ b < A) w3 ta cs := by rw [← hA]; exact (hE.lt.below hN2).only hO3 (fun b h => by have := h.2; omega)
  have hs1 := hN1.size
  have l2 := k2.lt
  have hb3 : Below w.heap.size w w3 := (hN1.trans (hN2.mono hs1)).trans (hO3.below hs1 (by omega))
  have s3 := k3.lt
  rw [hA] at k3 s3
  simp only [hA]
  have r23 := r2.below hb3
  have hS3 := hS.below hb3
  have hAw : w.heap.size ≤ A := by omega
  clear hz2 hz3 hO3 hN2 hN1 hE k2 l2 hA r1 r2 hS
  go_upto_region 3 with (first
    | ((go_at_call 10; (with_reducible refine (C2 _ r23).mono ?_); rintro e w' ⟨es, rfl, hE, hN4⟩); have EL := Lib.hid hE.len; have EO := Lib.hid hE.isT.ones)
    | (((with_reducible refine' wpList_alloc_blk (cs := nodz) 25 rfl ?_ zr_node ?_ ?_); exact rfl; exact nodz_cells; intro w5 k5 hN5 hz5; simp only [Act.put, List.setIfInBounds_toArray, List.set_cons_succ, List.set_cons_zero]))
    | (((with_reducible refine' wpList_store_blk (cs := es) 25 (.tmp 8) (.tmp 28) rfl ?_ ?_ ?_ k5 sz_node ?_ ?_ ?_ ?_); exact rfl; exact rfl; exact rfl; exact EL.out; exact rfl; exact EO.out; intro w6 k6 hO6 hz6; simp only [Act.put])))
  obtain ⟨B, hB⟩ : ∃ B, w'.heap.size = B := ⟨_, rfl⟩
  have hb36 : Below w3.heap.size w3 w6 := (hN4.trans (hN5.mono hN4.size)).trans (hO6.below hN4.size (Nat.le_trans hN4.size hN5.size))
  have hE6 : IsT w6 tc es := ((hE.lt.below hN5).only hO6 (fun b h => by have := h.2; omega)).isT
  have s6 := k6.lt
  have kA6 := k3.below hb36 s3
  have hX6 := hX3.below hb36
  have hS6 := hS3.below hb36
  have hb6 := hb3.trans (hb36.mono hb3.size)
  have hAB : A < B := by have := hN4.size; omega
  rw [hB] at k6 s6
  simp only [hB]
  clear hz5 hz6 hO6 hN5 hN4 hE k5 hb36 k3 hX3 r23 hS3 hB C2 hb3
  have hT6 := hX6.isT
  go_upto_region 4 with (first
    | ((with_reducible refine' wpList_loadst_blk (.tmp 7) 25 rfl ?_ Tryd.underlying25 ?_ sz_node ?_ kA6 ?_ ?_ ?_); exact rfl; exact rfl; exact rfl; exact CL.out; decide; simp only [Act.put, List.setIfInBounds_toArray, List.set_cons_succ, List.set_cons_zero])
    | ((go_at_call 27; (with_reducible refine (paths_any ta cs _ hT6 ZL3).mono ?_); rintro e w' ⟨vp, us, rfl, op, HP, hN7⟩)))
  obtain ⟨w7, rfl⟩ : ∃ x : World, x = w' := ⟨_, rfl⟩
  have kA7 := kA6.below hN7 kA6.lt
  have hT7 := hT6.below hN7
  have s67 := hN7.size
  have rp7 := Rd.of_own op
  have hpos := tsize_pos ta
  have TZ : ((tsize ta : Int) == 0) = false := by rw [beq_eq_false_iff_ne]; omega
  have TZ2 : decide (tsize ta = 0) = false := by rw [decide_eq_false_iff_not]; omega
  go_upto_if 40 with (first
    | ((with_reducible refine' wpList_len_rd (.tmp 31) 36 rfl ?_ Tryd.underlying36 ?_ rp7 ?_); exact rfl; exact rfl; simp only [Act.put, List.setIfInBounds_toArray, List.set_cons_succ, List.set_cons_zero]) | ((with_reducible refine' wpList_len_rd (.tmp 37) 36 rfl ?_ Tryd.underlying36 ?_ rp7 ?_); exact rfl; exact rfl; simp only [Act.put, List.setIfInBounds_toArray, List.set_cons_succ, List.set_cons_zero]) | ((with_reducible refine' wpList_loadst_blk (.tmp 7) 25 rfl ?_ Tryd.underlying25 ?_ sz_node ?_ kA7 ?_ ?_ ?_); exact rfl; exact rfl; exact rfl; exact CL.out; decide; simp only [Act.put, List.setIfInBounds_toArray, List.set_cons_succ, List.set_cons_zero])
    | ((go_at_call 15; (with_reducible refine (size_any ta cs _ hT7 ZL3).mono ?_); rintro e w' ⟨rfl, hN8⟩)))
  obtain ⟨w8, rfl⟩ : ∃ x : World, x = w' := ⟨_, rfl⟩
  have b68 := hN7.trans (hN8.mono hN7.size)
  have rp8 := rp7.below hN8
  have HP8 : IsPs (fun b => ¬ (w.heap.size ≤ b ∧ b < A)) w8 (tpaths ta) us := (HP.below hN8).mono fun b h => by have := h.1; omega
  have kA8 := kA7.below hN8 kA7.lt
  have kB8 := k6.below b68 s6
  have hX8 := hX6.below b68
  have hE8 := hE6.below b68
  have hS8 := hS6.below b68
  have hb8 := hb6.trans (b68.mono hb6.size)
  have PH := Lib.hid HP8
  have XH := Lib.hid hX8
  have tl := tpaths_len ta
  clear hN7 hN8 b68 kA6 kA7 k6 hX6 hT6 hT7 hE6 hS6 hb6 op HP rp7 HP8 hX8
  go_upto_region 7 with fail
  go_loopw [10] (fun i wr => ∃ j : Nat, j ≤ tsize ta ∧ i = .int .i64 (j : Int) ∧ Below w8.heap.size w8 wr) (fun i _ => tsize ta - (intOf i).toNat)
  case atStart => exact ⟨0, by omega, rfl, Below.refl _ _⟩
  case round =>
    obtain ⟨i, hi, rfl, hbi⟩ := hrel
    obtain ⟨wi, rfl⟩ : ∃ wo : World, wo = wr := ⟨_, rfl⟩
    have r9w := rp8.below hbi
    by_cases hlt : i < tsize ta
    · obtain ⟨pi, hpi, hpl⟩ := path_at hlt
      obtain ⟨ui, hu1, hu2, hu3⟩ := PH.out.2 i pi hpi
      have VU := Lib.hid hu1
      have hix : idxI (tindex pi ta) = (i : Int) := by rw [tindex_path ta i pi hpi]; rfl
      have IX1 := fun (W : World) (h1 : IsTX (fun b => w.heap.size ≤ b ∧ b < A) W ta cs) (h2 : RdX (fun b => ¬ (w.heap.size ≤ b ∧ b < A)) W 1 ui pi.length (iv pi)) => index_any ta cs pi ui _ _ W h1 h2 (fun b h => h) ZL3
      rw [hix] at IX1
      have kAw := kA8.below hbi kA8.lt
      have hd : Below wi.heap.size wi wi.drew := (Below.refl _ _).drew
      have CAw : ∀ w', Below wi.heap.size wi w' → Blk w' A 25 cs := fun w' h => kAw.below h kAw.lt
      have q1 := (XH.out.below hbi).below hd
      have q2 := (hu3.keep (Keep.below hbi)).keep (Keep.below hd)
      have LI : decide ((i : Int) < (tsize ta : Int)) = true := by rw [decide_eq_true_eq]; omega
      clear hix hu1 hu3 hpi
      go_upto_region 9 with (first | ((with_reducible refine' wpList_len_rd (.tmp 42) 36 rfl ?_ Tryd.underlying36 ?_ r9w ?_); exact rfl; exact rfl; simp only [Act.put, List.setIfInBounds_toArray, List.set_cons_succ, List.set_cons_zero]))
      (refine wp_region_plan (fun w' => Below wi.heap.size wi w') (.f 0 (.f 1 (.f 2 (.f 3 (.f 4 (.f 6 (.o 5 (.f 7 .tail)))))))) 8 (by kernel_rfl) (by kernel_rfl) (hd) ?_)
      (repeat (refine wpPlan_f rfl ?_; (first | ((with_reducible refine' wpQuietH_loadst_blk (.tmp 7) 25 rfl ?_ Tryd.underlying25 ?_ sz_node ?_ (CAw) ?_ ?_ ?_); exact rfl; exact rfl; exact rfl; exact CL.out; decide; simp only [Act.put, List.setIfInBounds_toArray, List.set_cons_succ, List.set_cons_zero]) | ((with_reducible refine' wpQuiet_at1_rd (.tmp 48) (.tmp 49) 36 rfl ?_ Tryd.underlying36 sz_ints ?_ r9w (i) ?_ ?_ ?_); exact rfl; exact rfl; (show (_ : Int) = _; omega); omega; simp only [Act.put, List.setIfInBounds_toArray, List.set_cons_succ, List.set_cons_zero]) | ((with_reducible refine' wpQuietC_load_rd (cov_below _) (.tmp 50) 22 rfl ?_ ld_ints ?_ r9w (VU.out) ?_); exact rfl; exact rfl; simp only [Act.put, List.setIfInBounds_toArray, List.set_cons_succ, List.set_cons_zero]) | go_big_quiet_step (fail) | (go_big_quiet_want; go_big_quiet_op; refine ⟨_, fun _ _ => rfl, ?_⟩; go_big_quiet_on)); refine wpQuiet_nil ?_))
      refine wpPlan_o rfl ?_
      go_wp2_with ((go_at_call 32; (with_reducible refine (IX1 _ q1 q2).mono ?_); rintro e w' ⟨rfl, hN9⟩))
      have hc9 := hd.trans hN9
      refine ⟨rfl, hc9, ?_⟩
      (repeat (refine wpPlan_f rfl ?_; (first | fail | go_big_quiet_step (fail) | (go_big_quiet_want; go_big_quiet_op; refine ⟨_, fun _ _ => rfl, ?_⟩; go_big_quiet_on)); refine wpQuiet_nil ?_))
      refine wpPlan_tail ?_
      go_wp2_with fail
      refine onlyN ?_
      have hb9 := hbi.trans (hc9.mono hbi.size)
      go_wp2_with fail
      go_roundw
      case rel => (first | exact ⟨i + 1, by omega, by go_num, hb9⟩ | ((repeat apply Exists.intro); exact ⟨⟨i + 1, by omega, by go_num, hb9⟩, rfl⟩))
      case measure => simp [intOf]; omega
    · obtain rfl : i = tsize ta := by omega
      have kA10 := kA8.below hbi kA8.lt
      have kB10 := kB8.below hbi kB8.lt
      have hT10 := (XH.out.below hbi).isT
      have hE10 := hE8.below hbi
      have hS10 := hS8.below hbi
      have hb10 := hb8.trans (hbi.mono hb8.size)
      have IS : I64 (tsize ta : Int) := by unfold I64; omega
      have hl0 : 0 < (tsize ta : Int) := by omega
      obtain ⟨ix, hix⟩ : ∃ ix, aroundV a (tsize ta : Int) = ix := ⟨_, rfl⟩
      have bx := aroundV_bd a (most := (tsize ta : Int)) hl0
      rw [hix] at bx
      have HIX := Lib.hid hix
      obtain ⟨q, rfl⟩ : ∃ q : Nat, ix = (q : Int) := ⟨ix.toNat, by omega⟩
      obtain ⟨p, hp, hpl⟩ := path_at (t := ta) (q := q) (by omega)
      obtain ⟨vo, hv1, hv2, hv3⟩ := PH.out.2 q p hp
      have VP := Lib.hid hv1
      have ro10 : Rd wi 1 vo p.length (iv p) := hv3.1.below hbi
      obtain ⟨old, hold⟩ := tat_path hp
      obtain ⟨z, hz⟩ : ∃ P, tset p ta tc = some P := by
        have h := tset_isSome tc p ta
        rw [hold] at h
        exact Option.isSome_iff_exists.1 h
      have hnow := tat_tset tc p ta z hz
      have hback := tset_back tc p ta z old hold hz
      have ZO := tat_size p ta old hold
      have ZZ := tset_size tc p ta z hz
      have ZZ3 : tsize z ≤ 1000000 := by omega
      have ZO3 : tsize old ≤ 1000000 := by omega
      have AP := Lib.hid (show ∀ r : List Int, ¬ p <+: r → ¬ r <+: p → tat r z = tat r ta from fun r h1 h2 => tat_apart tc p r ta z hz h1 h2)
      have A1 := fun (N : Nat) w h1 h2 => at_rep N p ta cs vo w h1 h2 ZL3
      have A2 := fun (N : Nat) w h1 h2 h3 => set_rep N p ta tc cs es vo w h1 h2 h3 ZL3 ZM3
      have A3 := fun (N : Nat) zs w h1 h2 => at_rep N p z zs vo w h1 h2 ZZ3
      have A4 := fun (N : Nat) zs os w h1 h2 h3 => set_rep N p z old zs os vo w h1 h2 h3 ZZ3 ZO3
      rw [hold] at A1
      rw [hz] at A2
      rw [hnow] at A3
      rw [hback] at A4
      simp only [Option.isSome_some, Option.getD_some, setC, if_true] at A1 A2 A3 A4
      clear hix hv1 hold hz hnow hback
      go_upto_region 12 with (first
        | ((with_reducible refine' wpList_len_rd (.tmp 42) 36 rfl ?_ Tryd.underlying36 ?_ r9w ?_); exact rfl; exact rfl; simp only [Act.put, List.setIfInBounds_toArray, List.set_cons_succ, List.set_cons_zero]) | ((with_reducible refine' wpList_len_rd (.tmp 57) 36 rfl ?_ Tryd.underlying36 ?_ r9w ?_); exact rfl; exact rfl; simp only [Act.put, List.setIfInBounds_toArray, List.set_cons_succ, List.set_cons_zero])
        | ((go_at_call 14; (with_reducible refine (around_any a _ _ HA.out hl0 IS).mono ?_); rintro e w' ⟨rfl, rfl⟩); rw [HIX.out])
        | ((with_reducible refine' wpList_at1_rd (.tmp 55) (.tmp 59) 36 rfl ?_ Tryd.underlying36 sz_ints ?_ r9w (q) ?_ ?_ ?_); exact rfl; exact rfl; (show (_ : Int) = _; omega); omega; simp only [Act.put, List.setIfInBounds_toArray, List.set_cons_succ, List.set_cons_zero]) | ((with_reducible refine' wpList_load_rd (.tmp 60) 22 rfl ?_ ld_ints ?_ r9w (VP.out) ?_); exact rfl; exact rfl; simp only [Act.put, List.setIfInBounds_toArray, List.set_cons_succ, List.set_cons_zero]))
      have g1 := isT_lt hT10
      go_upto_region 13 with (first
        | ((with_reducible refine' wpList_loadst_blk (.tmp 7) 25 rfl ?_ Tryd.underlying25 ?_ sz_node ?_ kA10 ?_ ?_ ?_); exact rfl; exact rfl; exact rfl; exact CL.out; decide; simp only [Act.put, List.setIfInBounds_toArray, List.set_cons_succ, List.set_cons_zero])
        | ((go_at_call 28; (with_reducible refine (A1 _ _ g1 ro10).mono ?_); rintro e w' ⟨os, rfl, hD, hN11⟩); have FL := Lib.hid hD.len; have FO := Lib.hid hD.isT.ones)
        | (((with_reducible refine' wpList_alloc_blk (cs := nodz) 25 rfl ?_ zr_node ?_ ?_); exact rfl; exact nodz_cells; intro w12 k12 hN12 hz12; simp only [Act.put, List.setIfInBounds_toArray, List.set_cons_succ, List.set_cons_zero]))
        | (((with_reducible refine' wpList_store_blk (cs := os) 25 (.tmp 12) (.tmp 66) rfl ?_ ?_ ?_ k12 sz_node ?_ ?_ ?_ ?_); exact rfl; exact rfl; exact rfl; exact FL.out; exact rfl; exact FO.out; intro wj1 k13 hO13 hz13; simp only [Act.put])))
      obtain ⟨M1, hM1⟩ : ∃ M, w'.heap.size = M := ⟨_, rfl⟩
      have bst : Below wi.heap.size wi wj1 := (hN11.trans (hN12.mono hN11.size)).trans (hO13.below hN11.size (Nat.le_trans hN11.size hN12.size))
      have Tos : IsT wj1 old os := ((hD.lt.below hN12).only hO13 (fun b h => by have := h.2; omega)).isT
      rw [hM1] at k13
      simp only [hM1]
      have kos := k13
      have Los := FL
      clear hM1 k13 k12 hN12 hz12 hO13 hz13 hD hN11 FL FO
      replace kA10 := kA10.below bst kA10.lt
      replace kB10 := kB10.below bst kB10.lt
      replace hT10 := hT10.below bst
      replace hE10 := hE10.below bst
      have ro11 := ro10.below bst
      have hbj := hbi.trans (bst.mono hbi.size)
      clear bst g1 ro10
      have g1 := isT_lt hT10
      have g2 := isT_lt hE10
      go_upto_region 14 with (first
        | ((with_reducible refine' wpList_loadst_blk (.tmp 7) 25 rfl ?_ Tryd.underlying25 ?_ sz_node ?_ kA10 ?_ ?_ ?_); exact rfl; exact rfl; exact rfl; exact CL.out; decide; simp only [Act.put, List.setIfInBounds_toArray, List.set_cons_succ, List.set_cons_zero]) | ((with_reducible refine' wpList_loadst_blk (.tmp 8) 25 rfl ?_ Tryd.underlying25 ?_ sz_node ?_ kB10 ?_ ?_ ?_); exact rfl; exact rfl; exact rfl; exact EL.out; decide; simp only [Act.put, List.setIfInBounds_toArray, List.set_cons_succ, List.set_cons_zero])
        | ((go_at_call 30; (with_reducible refine (A2 _ _ g1 g2 ro11).mono ?_); rintro e w' ⟨zs, rfl, hD, hN11⟩); have FL := Lib.hid hD.len; have FO := Lib.hid hD.isT.ones)
        | (((with_reducible refine' wpList_alloc_blk (cs := nodz) 25 rfl ?_ zr_node ?_ ?_); exact rfl; exact nodz_cells; intro w12 k12 hN12 hz12; simp only [Act.put, List.setIfInBounds_toArray, List.set_cons_succ, List.set_cons_zero]))
        | (((with_reducible refine' wpList_store_blk (cs := zs) 25 (.tmp 14) (.tmp 73) rfl ?_ ?_ ?_ k12 sz_node ?_ ?_ ?_ ?_); exact rfl; exact rfl; exact rfl; exact FL.out; exact rfl; exact FO.out; intro wj2 k13 hO13 hz13; simp only [Act.put])))
      obtain ⟨M2, hM1⟩ : ∃ M, w'.heap.size = M := ⟨_, rfl⟩
      have bst : Below wj1.heap.size wj1 wj2 := (hN11.trans (hN12.mono hN11.size)).trans (hO13.below hN11.size (Nat.le_trans hN11.size hN12.size))
      have Tzs : IsT wj2 z zs := ((hD.lt.below hN12).only hO13 (fun b h => by have := h.2; omega)).isT
      rw [hM1] at k13
      simp only [hM1]
      have kzs := k13
      have Lzs := FL
      clear hM1 k13 k12 hN12 hz12 hO13 hz13 hD hN11 FL FO
      replace kA10 := kA10.below bst kA10.lt
      replace kB10 := kB10.below bst kB10.lt
      replace kos := kos.below bst kos.lt
      replace Tos := Tos.below bst
      replace hT10 := hT10.below bst
      replace hE10 := hE10.below bst
      have ro12 := ro11.below bst
      replace hbj := hbj.trans (bst.mono hbj.size)
      clear bst g1 g2 ro11
      have g1 := isT_lt Tzs
      have A3' := A3 wj2.heap.size zs
      go_upto_region 15 with (first
        | ((with_reducible refine' wpList_loadst_blk (.tmp 14) 25 rfl ?_ Tryd.underlying25 ?_ sz_node ?_ kzs ?_ ?_ ?_); exact rfl; exact rfl; exact rfl; exact Lzs.out; decide; simp only [Act.put, List.setIfInBounds_toArray, List.set_cons_succ, List.set_cons_zero])
        | ((go_at_call 28; (with_reducible refine (A3' _ g1 ro12).mono ?_); rintro e w' ⟨ns, rfl, hD, hN11⟩); have FL := Lib.hid hD.len; have FO := Lib.hid hD.isT.ones)
        | (((with_reducible refine' wpList_alloc_blk (cs := nodz) 25 rfl ?_ zr_node ?_ ?_); exact rfl; exact nodz_cells; intro w12 k12 hN12 hz12; simp only [Act.put, List.setIfInBounds_toArray, List.set_cons_succ, List.set_cons_zero]))
        | (((with_reducible refine' wpList_store_blk (cs := ns) 25 (.tmp 16) (.tmp 79) rfl ?_ ?_ ?_ k12 sz_node ?_ ?_ ?_ ?_); exact rfl; exact rfl; exact rfl; exact FL.out; exact rfl; exact FO.out; intro wj3 k13 hO13 hz13; simp only [Act.put])))
      obtain ⟨M3, hM1⟩ : ∃ M, w'.heap.size = M := ⟨_, rfl⟩
      have bst : Below wj2.heap.size wj2 wj3 := (hN11.trans (hN12.mono hN11.size)).trans (hO13.below hN11.size (Nat.le_trans hN11.size hN12.size))
      have Tns : IsT wj3 tc ns := ((hD.lt.below hN12).only hO13 (fun b h => by have := h.2; omega)).isT
      rw [hM1] at k13
      simp only [hM1]
      have kns := k13
      have Lns := FL
      clear hM1 k13 k12 hN12 hz12 hO13 hz13 hD hN11 FL FO
      replace kA10 := kA10.below bst kA10.lt
      replace kB10 := kB10.below bst kB10.lt
      replace kos := kos.below bst kos.lt
      replace Tos := Tos.below bst
      replace kzs := kzs.below bst kzs.lt
      replace Tzs := Tzs.below bst
      replace hT10 := hT10.below bst
      replace hE10 := hE10.below bst
      have ro13 := ro12.below bst
      replace hbj := hbj.trans (bst.mono hbj.size)
      clear bst g1 ro12
      have g1 := isT_lt Tzs
      have g2 := isT_lt Tos
      have A4' := A4 wj3.heap.size zs os
      go_upto_region 16 with (first
        | ((with_reducible refine' wpList_loadst_blk (.tmp 14) 25 rfl ?_ Tryd.underlying25 ?_ sz_node ?_ kzs ?_ ?_ ?_); exact rfl; exact rfl; exact rfl; exact Lzs.out; decide; simp only [Act.put, List.setIfInBounds_toArray, List.set_cons_succ, List.set_cons_zero]) | ((with_reducible refine' wpList_loadst_blk (.tmp 12) 25 rfl ?_ Tryd.underlying25 ?_ sz_node ?_ kos ?_ ?_ ?_); exact rfl; exact rfl; exact rfl; exact Los.out; decide; simp only [Act.put, List.setIfInBounds_toArray, List.set_cons_succ, List.set_cons_zero])
        | ((go_at_call 30; (with_reducible refine (A4' _ g1 g2 ro13).mono ?_); rintro e w' ⟨bs, rfl, hD, hN11⟩); have FL := Lib.hid hD.len; have FO := Lib.hid hD.isT.ones)
        | (((with_reducible refine' wpList_alloc_blk (cs := nodz) 25 rfl ?_ zr_node ?_ ?_); exact rfl; exact nodz_cells; intro w12 k12 hN12 hz12; simp only [Act.put, List.setIfInBounds_toArray, List.set_cons_succ, List.set_cons_zero]))
        | (((with_reducible refine' wpList_store_blk (cs := bs) 25 (.tmp 18) (.tmp 86) rfl ?_ ?_ ?_ k12 sz_node ?_ ?_ ?_ ?_); exact rfl; exact rfl; exact rfl; exact FL.out; exact rfl; exact FO.out; intro wj4 k13 hO13 hz13; simp only [Act.put])))
      obtain ⟨M4, hM1⟩ : ∃ M, w'.heap.size = M := ⟨_, rfl⟩
      have bst : Below wj3.heap.size wj3 wj4 := (hN11.trans (hN12.mono hN11.size)).trans (hO13.below hN11.size (Nat.le_trans hN11.size hN12.size))
      have Tbs : IsT wj4 ta bs := ((hD.lt.below hN12).only hO13 (fun b h => by have := h.2; omega)).isT
      rw [hM1] at k13
      simp only [hM1]
      have kbs := k13
      have Lbs := FL
      clear hM1 k13 k12 hN12 hz12 hO13 hz13 hD hN11 FL FO
      replace kA10 := kA10.below bst kA10.lt
      replace kB10 := kB10.below bst kB10.lt
      replace kzs := kzs.below bst kzs.lt
      replace Tzs := Tzs.below bst
      replace kns := kns.below bst kns.lt
      replace Tns := Tns.below bst
      replace hT10 := hT10.below bst
      replace hE10 := hE10.below bst
      have ro14 := ro13.below bst
      replace hbj := hbj.trans (bst.mono hbj.size)
      clear bst g1 g2 ro13 kos Tos A1 A2 A3 A4 A3' A4'
      have N1 := tcmp_self tc
      have N2 := tcmp_self ta
      go_upto_if 113 with (first
        | ((with_reducible refine' wpList_loadst_blk (.tmp 16) 25 rfl ?_ Tryd.underlying25 ?_ sz_node ?_ kns ?_ ?_ ?_); exact rfl; exact rfl; exact rfl; exact Lns.out; decide; simp only [Act.put, List.setIfInBounds_toArray, List.set_cons_succ, List.set_cons_zero]) | ((with_reducible refine' wpList_loadst_blk (.tmp 8) 25 rfl ?_ Tryd.underlying25 ?_ sz_node ?_ kB10 ?_ ?_ ?_); exact rfl; exact rfl; exact rfl; exact EL.out; decide; simp only [Act.put, List.setIfInBounds_toArray, List.set_cons_succ, List.set_cons_zero]) | ((with_reducible refine' wpList_loadst_blk (.tmp 18) 25 rfl ?_ Tryd.underlying25 ?_ sz_node ?_ kbs ?_ ?_ ?_); exact rfl; exact rfl; exact rfl; exact Lbs.out; decide; simp only [Act.put, List.setIfInBounds_toArray, List.set_cons_succ, List.set_cons_zero]) | ((with_reducible refine' wpList_loadst_blk (.tmp 7) 25 rfl ?_ Tryd.underlying25 ?_ sz_node ?_ kA10 ?_ ?_ ?_); exact rfl; exact rfl; exact rfl; exact CL.out; decide; simp only [Act.put, List.setIfInBounds_toArray, List.set_cons_succ, List.set_cons_zero]) | ((with_reducible refine' wpList_loadst_blk (.tmp 7) 25 rfl ?_ Tryd.underlying25 ?_ sz_node ?_ kA11 ?_ ?_ ?_); exact rfl; exact rfl; exact rfl; exact CL.out; decide; simp only [Act.put, List.setIfInBounds_toArray, List.set_cons_succ, List.set_cons_zero]) | ((with_reducible refine' wpList_loadst_blk (.tmp 18) 25 rfl ?_ Tryd.underlying25 ?_ sz_node ?_ kbs2 ?_ ?_ ?_); exact rfl; exact rfl; exact rfl; exact Lbs.out; decide; simp only [Act.put, List.setIfInBounds_toArray, List.set_cons_succ, List.set_cons_zero])
        | ((go_at_call 19; (with_reducible refine (compare_any tc tc ns es _ Tns hE10).mono ?_); rintro e w' ⟨rfl, hN21⟩); rw [N1]; have kA11 := kA10.below hN21 kA10.lt; have kbs2 := kbs.below hN21 kbs.lt; have Tbs2 := Tbs.below hN21; have hT11 := hT10.below hN21)
        | ((go_at_call 19; (with_reducible refine (compare_any ta ta bs cs _ Tbs2 hT11).mono ?_); rintro e w' ⟨rfl, hN22⟩); rw [N2]))
      obtain ⟨wl, rfl⟩ : ∃ x : World, x = w' := ⟨_, rfl⟩
      have bl := hN21.trans (hN22.mono hN21.size)
      have hbl := hbj.trans (bl.mono hbj.size)
      have kAl := kA10.below bl kA10.lt
      have kzl := kzs.below bl kzs.lt
      have Tzl := Tzs.below bl
      have hTl := hT10.below bl
      have rol := ro14.below bl
      have hbwl := hb8.trans (hbl.mono hb8.size)
      have hSl := hS8.below hbl
      have rpl := rp8.below hbl
      clear bl hN21 hN22 hbj kA10 kB10 kzs Tzs hT10 hE10 ro14 kns Tns kbs Tbs kA11 kbs2 Tbs2 hT11 N1 N2 r9w hS10 hb10 VP
      go_upto_region 19 with fail
      go_loopw [20] (fun i wr => ∃ j : Nat, j ≤ tsize ta ∧ i = .int .i64 (j : Int) ∧ Below wl.heap.size wl wr) (fun i _ => tsize ta - (intOf i).toNat)
      case atStart => exact ⟨0, by omega, rfl, Below.refl _ _⟩
      case round =>
        obtain ⟨i, hi2, rfl, hbk⟩ := hrel
        obtain ⟨wk, rfl⟩ : ∃ wo : World, wo = wr := ⟨_, rfl⟩
        have r9w := rpl.below hbk
        by_cases hlt2 : i < tsize ta
        · obtain ⟨pi, hpi, hpl2⟩ := path_at hlt2
          obtain ⟨ui, hu1, hu2, hu3⟩ := PH.out.2 i pi hpi
          have VU := Lib.hid hu1
          obtain ⟨u, hu⟩ := tat_path hpi
          have rqw : Rd wk 1 ui pi.length (iv pi) := hu3.1.below (hbl.trans (hbk.mono hbl.size))
          have row := rol.below hbk
          have LI : decide ((i : Int) < (tsize ta : Int)) = true := by rw [decide_eq_true_eq]; omega
          clear hu1 hu3 hpi
          by_cases h1 : p <+: pi
          · have H1 := Lib.hid (show decide (p <+: pi) = true from decide_eq_true h1)
            clear h1
            go_wp2_with (first
              | ((with_reducible refine' wpList_len_rd (.tmp 115) 36 rfl ?_ Tryd.underlying36 ?_ r9w ?_); exact rfl; exact rfl; simp only [Act.put, List.setIfInBounds_toArray, List.set_cons_succ, List.set_cons_zero]) | ((with_reducible refine' wpList_at1_rd (.tmp 120) (.tmp 121) 36 rfl ?_ Tryd.underlying36 sz_ints ?_ r9w (i) ?_ ?_ ?_); exact rfl; exact rfl; (show (_ : Int) = _; omega); omega; simp only [Act.put, List.setIfInBounds_toArray, List.set_cons_succ, List.set_cons_zero]) | ((with_reducible refine' wpList_load_rd (.tmp 122) 22 rfl ?_ ld_ints ?_ r9w (VU.out) ?_); exact rfl; exact rfl; simp only [Act.put, List.setIfInBounds_toArray, List.set_cons_succ, List.set_cons_zero])
              | ((go_at_call 34; (with_reducible refine (begins_any pi p ui vo _ rqw row).mono ?_); rintro e w' ⟨rfl, hN31⟩); rw [H1.out]))
            have hb9 := hbk.trans (hN31.mono hbk.size)
            go_roundw
            case rel => (first | exact ⟨i + 1, by omega, by go_num, hb9⟩ | ((repeat apply Exists.intro); exact ⟨⟨i + 1, by omega, by go_num, hb9⟩, rfl⟩))
            case measure => simp [intOf]; omega
          · have H1 := Lib.hid (show decide (p <+: pi) = false from decide_eq_false h1)
            have H3 := Lib.hid h1
            clear h1
            by_cases h2 : pi <+: p
            · have H2 := Lib.hid (show decide (pi <+: p) = true from decide_eq_true h2)
              clear h2
              have K1 := True.intro
              go_wp2_with (first
                | ((with_reducible refine' wpList_len_rd (.tmp 115) 36 rfl ?_ Tryd.underlying36 ?_ r9w ?_); exact rfl; exact rfl; simp only [Act.put, List.setIfInBounds_toArray, List.set_cons_succ, List.set_cons_zero]) | ((with_reducible refine' wpList_at1_rd (.tmp 120) (.tmp 121) 36 rfl ?_ Tryd.underlying36 sz_ints ?_ r9w (i) ?_ ?_ ?_); exact rfl; exact rfl; (show (_ : Int) = _; omega); omega; simp only [Act.put, List.setIfInBounds_toArray, List.set_cons_succ, List.set_cons_zero]) | ((with_reducible refine' wpList_load_rd (.tmp 122) 22 rfl ?_ ld_ints ?_ r9w (VU.out) ?_); exact rfl; exact rfl; simp only [Act.put, List.setIfInBounds_toArray, List.set_cons_succ, List.set_cons_zero])
                | ((go_at_call 34; (with_reducible refine (begins_any pi p ui vo _ rqw row).mono ?_); rintro e w' ⟨rfl, hN31⟩); have MK := K1; clear K1; rw [H1.out]; have r9v := r9w.below hN31; have rqv := rqw.below hN31; have rov := row.below hN31)
                | ((with_reducible refine' wpList_at1_rd (.tmp 128) (.tmp 129) 36 rfl ?_ Tryd.underlying36 sz_ints ?_ r9v (i) ?_ ?_ ?_); exact rfl; exact rfl; (show (_ : Int) = _; omega); omega; simp only [Act.put, List.setIfInBounds_toArray, List.set_cons_succ, List.set_cons_zero]) | ((with_reducible refine' wpList_load_rd (.tmp 130) 22 rfl ?_ ld_ints ?_ r9v (VU.out) ?_); exact rfl; exact rfl; simp only [Act.put, List.setIfInBounds_toArray, List.set_cons_succ, List.set_cons_zero])
                | ((go_at_call 34; (with_reducible refine (begins_any p pi vo ui _ rov rqv).mono ?_); rintro e w' ⟨rfl, hN32⟩); rw [H2.out]))
              have hb9 := (hbk.trans (hN31.mono hbk.size))
              have hb10 := hb9.trans (hN32.mono hb9.size)
              go_roundw
              case rel => (first | exact ⟨i + 1, by omega, by go_num, hb10⟩ | ((repeat apply Exists.intro); exact ⟨⟨i + 1, by omega, by go_num, hb10⟩, rfl⟩))
              case measure => simp [intOf]; omega
            · have H2 := Lib.hid (show decide (pi <+: p) = false from decide_eq_false h2)
              have hzu := AP.out pi H3.out h2
              rw [hu] at hzu
              have A1 := fun (N : Nat) w h1 h2 => at_rep N pi ta cs ui w h1 h2 ZL3
              have A2 := fun (N : Nat) w h1 h2 => at_rep N pi z zs ui w h1 h2 ZZ3
              rw [hu] at A1
              rw [hzu] at A2
              simp only [Option.isSome_some, Option.getD_some] at A1 A2
              clear h2 hu hzu
              have K1 := True.intro
              go_upto_if 133 with (first
                | ((with_reducible refine' wpList_len_rd (.tmp 115) 36 rfl ?_ Tryd.underlying36 ?_ r9w ?_); exact rfl; exact rfl; simp only [Act.put, List.setIfInBounds_toArray, List.set_cons_succ, List.set_cons_zero]) | ((with_reducible refine' wpList_at1_rd (.tmp 120) (.tmp 121) 36 rfl ?_ Tryd.underlying36 sz_ints ?_ r9w (i) ?_ ?_ ?_); exact rfl; exact rfl; (show (_ : Int) = _; omega); omega; simp only [Act.put, List.setIfInBounds_toArray, List.set_cons_succ, List.set_cons_zero]) | ((with_reducible refine' wpList_load_rd (.tmp 122) 22 rfl ?_ ld_ints ?_ r9w (VU.out) ?_); exact rfl; exact rfl; simp only [Act.put, List.setIfInBounds_toArray, List.set_cons_succ, List.set_cons_zero])
                | ((go_at_call 34; (with_reducible refine (begins_any pi p ui vo _ rqw row).mono ?_); rintro e w' ⟨rfl, hN31⟩); have MK := K1; clear K1; rw [H1.out]; have r9v := r9w.below hN31; have rqv := rqw.below hN31; have rov := row.below hN31)
                | ((with_reducible refine' wpList_at1_rd (.tmp 128) (.tmp 129) 36 rfl ?_ Tryd.underlying36 sz_ints ?_ r9v (i) ?_ ?_ ?_); exact rfl; exact rfl; (show (_ : Int) = _; omega); omega; simp only [Act.put, List.setIfInBounds_toArray, List.set_cons_succ, List.set_cons_zero]) | ((with_reducible refine' wpList_load_rd (.tmp 130) 22 rfl ?_ ld_ints ?_ r9v (VU.out) ?_); exact rfl; exact rfl; simp only [Act.put, List.setIfInBounds_toArray, List.set_cons_succ, List.set_cons_zero])
                | ((go_at_call 34; (with_reducible refine (begins_any p pi vo ui _ rov rqv).mono ?_); rintro e w' ⟨rfl, hN32⟩); rw [H2.out]))
              obtain ⟨wk2, rfl⟩ : ∃ x : World, x = w' := ⟨_, rfl⟩
              have hb9 := hbk.trans (hN31.mono hbk.size)
              have hbm := hb9.trans (hN32.mono hb9.size)
              replace r9w := r9v.below hN32
              replace rqw := rqv.below hN32
              have kAw := kAl.below hbm kAl.lt
              have kzw := kzl.below hbm kzl.lt
              have hTw := hTl.below hbm
              have hZw := Tzl.below hbm
              clear hN31 hN32 hb9 r9v rqv rov row
              go_upto_region 22 with fail
              go_cut [21, 22] from 134 to 142 (fun p8 c9 wc => ∃ (B8 : Nat) (es : List Value), p8 = .pointer (some ⟨B8, 0, none⟩) ∧ c9 = .bool true ∧ Blk wc B8 25 es ∧ Hid (IsT wc u es) ∧ Below wk2.heap.size wk2 wc)
              case first =>
                have hd : Below wk2.heap.size wk2 wk2.drew := (Below.refl _ _).drew
                have hTd := (hTw.isTX.lt.mono (Y := fun b => b < wk2.heap.size) (fun b h => h.2)).below hd
                have rqd := rqw.below hd
                have CAw : ∀ w', Below wk2.heap.size wk2 w' → Blk w' A 25 cs := fun w' h => kAw.below h kAw.lt
                (refine wp_region_plan (fun w' => Below wk2.heap.size wk2 w') (.f 0 (.f 1 (.f 2 (.f 3 (.f 4 (.two 5 9 (.f 6 (.f 7 (.f 8 (.o 9 (.o 10 .tail))))) (.o 5 (.f 6 (.f 7 (.f 8 (.o 10 .tail))))))))))) 11 (by kernel_rfl) (by kernel_rfl) (hd) ?_)
                (repeat (refine wpPlan_f rfl ?_; (first | ((with_reducible refine' wpQuietH_loadst_blk (.tmp 7) 25 rfl ?_ Tryd.underlying25 ?_ sz_node ?_ (CAw) ?_ ?_ ?_); exact rfl; exact rfl; exact rfl; exact CL.out; decide; simp only [Act.put, List.setIfInBounds_toArray, List.set_cons_succ, List.set_cons_zero]) | ((with_reducible refine' wpQuiet_at1_rd (.tmp 136) (.tmp 137) 36 rfl ?_ Tryd.underlying36 sz_ints ?_ r9w (i) ?_ ?_ ?_); exact rfl; exact rfl; (show (_ : Int) = _; omega); omega; simp only [Act.put, List.setIfInBounds_toArray, List.set_cons_succ, List.set_cons_zero]) | ((with_reducible refine' wpQuietC_load_rd (cov_below _) (.tmp 138) 22 rfl ?_ ld_ints ?_ r9w (VU.out) ?_); exact rfl; exact rfl; simp only [Act.put, List.setIfInBounds_toArray, List.set_cons_succ, List.set_cons_zero]) | go_big_quiet_step (fail) | (go_big_quiet_want; go_big_quiet_op; refine ⟨_, fun _ _ => rfl, ?_⟩; go_big_quiet_on)); refine wpQuiet_nil ?_))
                refine wpPlan_two rfl rfl ?_ ?_
                · go_wp2_with ((go_at_call 28; (with_reducible refine (A1 _ _ hTd rqd).mono ?_); rintro e w' ⟨fs, rfl, hD, hN5⟩))
                  have hN5' : Below wk2.heap.size wk2 w' := hd.trans hN5
                  have FL := Lib.hid hD.len
                  have FO := Lib.hid hD.isT.ones
                  refine ⟨rfl, hN5', ?_⟩
                  (repeat (refine wpPlan_f rfl ?_; (first | fail | go_big_quiet_step (fail) | (go_big_quiet_want; go_big_quiet_op; refine ⟨_, fun _ _ => rfl, ?_⟩; go_big_quiet_on)); refine wpQuiet_nil ?_))
                  refine wpPlan_o rfl ?_
                  go_wp2_with (((with_reducible refine' wpList_alloc_blk (cs := nodz) 25 rfl ?_ zr_node ?_ ?_); exact rfl; exact nodz_cells; intro w6 k8 hN6 hz6; simp only [Act.put, List.setIfInBounds_toArray, List.set_cons_succ, List.set_cons_zero]))
                  have s5 := hN5'.size
                  have hb6 : Below wk2.heap.size wk2 w6 := hN5'.trans (hN6.mono s5)
                  refine ⟨rfl, hb6, ?_⟩
                  refine wpPlan_o rfl ?_
                  go_wp2_with (((with_reducible refine' wpList_store_blk (cs := fs) 25 (.tmp 21) (.tmp 141) rfl ?_ ?_ ?_ k8 sz_node ?_ ?_ ?_ ?_); exact rfl; exact rfl; exact rfl; exact FL.out; exact rfl; exact FO.out; intro w7 k8b hO7 hz7; simp only [Act.put]))
                  have hb7 : Below wk2.heap.size wk2 w7 := hb6.trans (hO7.below s5 hb6.size)
                  refine ⟨rfl, hb7, ?_⟩
                  refine wpPlan_tail ?_
                  go_wp2_with fail
                  refine onlyN ?_
                  go_wp2_with fail
                  go_meet
                  case rel => exact ⟨_, fs, rfl, rfl, k8b, Lib.hid ((hD.lt.below hN6).only hO7 (fun b h => by have := h.2; omega)).isT, hb7⟩
                · go_wp2_with (((with_reducible refine' wpList_alloc_blk (cs := nodz) 25 rfl ?_ zr_node ?_ ?_); exact rfl; exact nodz_cells; intro w6 k8 hN6 hz6; simp only [Act.put, List.setIfInBounds_toArray, List.set_cons_succ, List.set_cons_zero]))
                  have k8' : Blk w6 wk2.heap.size 25 nodz := k8
                  have hN6' : Below wk2.heap.size wk2 w6 := hd.trans hN6
                  have l8 := k8'.lt
                  replace hTd := hTd.below hN6
                  replace rqd := rqd.below hN6
                  refine ⟨rfl, hN6', ?_⟩
                  refine wpPlan_o rfl ?_
                  go_wp2_with ((go_at_call 28; (with_reducible refine (A1 _ _ hTd rqd).mono ?_); rintro e w' ⟨fs, rfl, hD, hN5⟩))
                  have FL := Lib.hid hD.len
                  have FO := Lib.hid hD.isT.ones
                  have s6 := hN6'.size
                  have hb5 : Below wk2.heap.size wk2 w' := hN6'.trans (hN5.mono s6)
                  refine ⟨rfl, hb5, ?_⟩
                  (repeat (refine wpPlan_f rfl ?_; (first | fail | go_big_quiet_step (fail) | (go_big_quiet_want; go_big_quiet_op; refine ⟨_, fun _ _ => rfl, ?_⟩; go_big_quiet_on)); refine wpQuiet_nil ?_))
                  refine wpPlan_o rfl ?_
                  go_wp2_with (((with_reducible refine' wpList_store_blk (cs := fs) 25 (.tmp 21) (.tmp 141) rfl ?_ ?_ ?_ (k8'.below hN5 l8) sz_node ?_ ?_ ?_ ?_); exact rfl; exact rfl; exact rfl; exact FL.out; exact rfl; exact FO.out; intro w7 k8b hO7 hz7; simp only [Act.put]))
                  have hb7 : Below wk2.heap.size wk2 w7 := hb5.trans (hO7.below (Nat.le_refl _) hb5.size)
                  refine ⟨rfl, hb7, ?_⟩
                  refine wpPlan_tail ?_
                  go_wp2_with fail
                  refine onlyN ?_
                  go_wp2_with fail
                  go_meet
                  case rel => exact ⟨wk2.heap.size, fs, rfl, rfl, k8b, Lib.hid (hD.only hO7 (fun b h => by omega)).isT, hb7⟩
              case rest =>
                obtain ⟨B1, f1, rfl, rfl, k1, T1, hbc⟩ := hcut
                obtain ⟨wa, rfl⟩ : ∃ x : World, x = wc := ⟨_, rfl⟩
                replace r9w := r9w.below hbc
                replace rqw := rqw.below hbc
                replace kzw := kzw.below hbc kzw.lt
                replace hZw := hZw.below hbc
                replace hbm := hbm.trans (hbc.mono hbm.size)
                clear hbc
                go_upto_region 23 with fail
                go_cut [23, 24] from 143 to 151 (fun p8 c9 wc => ∃ (B8 : Nat) (es : List Value), p8 = .pointer (some ⟨B8, 0, none⟩) ∧ c9 = .bool true ∧ Blk wc B8 25 es ∧ Hid (IsT wc u es) ∧ Below wa.heap.size wa wc)
                case first =>
                  have hd : Below wa.heap.size wa wa.drew := (Below.refl _ _).drew
                  have hTd := (hZw.isTX.lt.mono (Y := fun b => b < wa.heap.size) (fun b h => h.2)).below hd
                  have rqd := rqw.below hd
                  have CAw : ∀ w', Below wa.heap.size wa w' → Blk w' M2 25 zs := fun w' h => kzw.below h kzw.lt
                  (refine wp_region_plan (fun w' => Below wa.heap.size wa w') (.f 0 (.f 1 (.f 2 (.f 3 (.f 4 (.two 5 9 (.f 6 (.f 7 (.f 8 (.o 9 (.o 10 .tail))))) (.o 5 (.f 6 (.f 7 (.f 8 (.o 10 .tail))))))))))) 11 (by kernel_rfl) (by kernel_rfl) (hd) ?_)
                  (repeat (refine wpPlan_f rfl ?_; (first | ((with_reducible refine' wpQuietH_loadst_blk (.tmp 14) 25 rfl ?_ Tryd.underlying25 ?_ sz_node ?_ (CAw) ?_ ?_ ?_); exact rfl; exact rfl; exact rfl; exact Lzs.out; decide; simp only [Act.put, List.setIfInBounds_toArray, List.set_cons_succ, List.set_cons_zero]) | ((with_reducible refine' wpQuiet_at1_rd (.tmp 145) (.tmp 146) 36 rfl ?_ Tryd.underlying36 sz_ints ?_ r9w (i) ?_ ?_ ?_); exact rfl; exact rfl; (show (_ : Int) = _; omega); omega; simp only [Act.put, List.setIfInBounds_toArray, List.set_cons_succ, List.set_cons_zero]) | ((with_reducible refine' wpQuietC_load_rd (cov_below _) (.tmp 147) 22 rfl ?_ ld_ints ?_ r9w (VU.out) ?_); exact rfl; exact rfl; simp only [Act.put, List.setIfInBounds_toArray, List.set_cons_succ, List.set_cons_zero]) | go_big_quiet_step (fail) | (go_big_quiet_want; go_big_quiet_op; refine ⟨_, fun _ _ => rfl, ?_⟩; go_big_quiet_on)); refine wpQuiet_nil ?_))
                  refine wpPlan_two rfl rfl ?_ ?_
                  · go_wp2_with ((go_at_call 28; (with_reducible refine (A2 _ _ hTd rqd).mono ?_); rintro e w' ⟨fs, rfl, hD, hN5⟩))
                    have hN5' : Below wa.heap.size wa w' := hd.trans hN5
                    have FL := Lib.hid hD.len
                    have FO := Lib.hid hD.isT.ones
                    refine ⟨rfl, hN5', ?_⟩
                    (repeat (refine wpPlan_f rfl ?_; (first | fail | go_big_quiet_step (fail) | (go_big_quiet_want; go_big_quiet_op; refine ⟨_, fun _ _ => rfl, ?_⟩; go_big_quiet_on)); refine wpQuiet_nil ?_))
                    refine wpPlan_o rfl ?_
                    go_wp2_with (((with_reducible refine' wpList_alloc_blk (cs := nodz) 25 rfl ?_ zr_node ?_ ?_); exact rfl; exact nodz_cells; intro w6 k8 hN6 hz6; simp only [Act.put, List.setIfInBounds_toArray, List.set_cons_succ, List.set_cons_zero]))
                    have s5 := hN5'.size
                    have hb6 : Below wa.heap.size wa w6 := hN5'.trans (hN6.mono s5)
                    refine ⟨rfl, hb6, ?_⟩
                    refine wpPlan_o rfl ?_
                    go_wp2_with (((with_reducible refine' wpList_store_blk (cs := fs) 25 (.tmp 23) (.tmp 150) rfl ?_ ?_ ?_ k8 sz_node ?_ ?_ ?_ ?_); exact rfl; exact rfl; exact rfl; exact FL.out; exact rfl; exact FO.out; intro w7 k8b hO7 hz7; simp only [Act.put]))
                    have hb7 : Below wa.heap.size wa w7 := hb6.trans (hO7.below s5 hb6.size)
                    refine ⟨rfl, hb7, ?_⟩
                    refine wpPlan_tail ?_
                    go_wp2_with fail
                    refine onlyN ?_
                    go_wp2_with fail
                    go_meet
                    case rel => exact ⟨_, fs, rfl, rfl, k8b, Lib.hid ((hD.lt.below hN6).only hO7 (fun b h => by have := h.2; omega)).isT, hb7⟩
                  · go_wp2_with (((with_reducible refine' wpList_alloc_blk (cs := nodz) 25 rfl ?_ zr_node ?_ ?_); exact rfl; exact nodz_cells; intro w6 k8 hN6 hz6; simp only [Act.put, List.setIfInBounds_toArray, List.set_cons_succ, List.set_cons_zero]))
                    have k8' : Blk w6 wa.heap.size 25 nodz := k8
                    have hN6' : Below wa.heap.size wa w6 := hd.trans hN6
                    have l8 := k8'.lt
                    replace hTd := hTd.below hN6
                    replace rqd := rqd.below hN6
                    refine ⟨rfl, hN6', ?_⟩
                    refine wpPlan_o rfl ?_
                    go_wp2_with ((go_at_call 28; (with_reducible refine (A2 _ _ hTd rqd).mono ?_); rintro e w' ⟨fs, rfl, hD, hN5⟩))
                    have FL := Lib.hid hD.len
                    have FO := Lib.hid hD.isT.ones
                    have s6 := hN6'.size
                    have hb5 : Below wa.heap.size wa w' := hN6'.trans (hN5.mono s6)
                    refine ⟨rfl, hb5, ?_⟩
                    (repeat (refine wpPlan_f rfl ?_; (first | fail | go_big_quiet_step (fail) | (go_big_quiet_want; go_big_quiet_op; refine ⟨_, fun _ _ => rfl, ?_⟩; go_big_quiet_on)); refine wpQuiet_nil ?_))
                    refine wpPlan_o rfl ?_
                    go_wp2_with (((with_reducible refine' wpList_store_blk (cs := fs) 25 (.tmp 23) (.tmp 150) rfl ?_ ?_ ?_ (k8'.below hN5 l8) sz_node ?_ ?_ ?_ ?_); exact rfl; exact rfl; exact rfl; exact FL.out; exact rfl; exact FO.out; intro w7 k8b hO7 hz7; simp only [Act.put]))
                    have hb7 : Below wa.heap.size wa w7 := hb5.trans (hO7.below (Nat.le_refl _) hb5.size)
                    refine ⟨rfl, hb7, ?_⟩
                    refine wpPlan_tail ?_
                    go_wp2_with fail
                    refine onlyN ?_
                    go_wp2_with fail
                    go_meet
                    case rel => exact ⟨wa.heap.size, fs, rfl, rfl, k8b, Lib.hid (hD.only hO7 (fun b h => by omega)).isT, hb7⟩
                case rest =>
                  obtain ⟨B2, f2, rfl, rfl, k2, T2, hbc⟩ := hcut
                  obtain ⟨wb, rfl⟩ : ∃ x : World, x = wc := ⟨_, rfl⟩
                  have k1b := k1.below hbc k1.lt
                  have T1b := T1.out.below hbc
                  have T2b := T2.out
                  have F1 := Lib.hid T1b.len
                  have F2 := Lib.hid T2b.len
                  have hbn := hbm.trans (hbc.mono hbm.size)
                  have N1 := tcmp_self u
                  clear k1 T1 T2 hbc A1 A2
                  go_wp2_with (first
                    | ((with_reducible refine' wpList_loadst_blk (.tmp 21) 25 rfl ?_ Tryd.underlying25 ?_ sz_node ?_ k1b ?_ ?_ ?_); exact rfl; exact rfl; exact rfl; exact F1.out; decide; simp only [Act.put, List.setIfInBounds_toArray, List.set_cons_succ, List.set_cons_zero]) | ((with_reducible refine' wpList_loadst_blk (.tmp 23) 25 rfl ?_ Tryd.underlying25 ?_ sz_node ?_ k2 ?_ ?_ ?_); exact rfl; exact rfl; exact rfl; exact F2.out; decide; simp only [Act.put, List.setIfInBounds_toArray, List.set_cons_succ, List.set_cons_zero])
                    | ((go_at_call 19; (with_reducible refine (compare_any u u f1 f2 _ T1b T2b).mono ?_); rintro e w' ⟨rfl, hN33⟩); rw [N1]))
                  have hbo := hbn.trans (hN33.mono hbn.size)
                  go_roundw
                  case rel => (first | exact ⟨i + 1, by omega, by go_num, hbo⟩ | ((repeat apply Exists.intro); exact ⟨⟨i + 1, by omega, by go_num, hbo⟩, rfl⟩))
                  case measure => simp [intOf]; omega
        · obtain rfl : i = tsize ta := by omega
          have hSk := hSl.below hbk
          have hbz := hbwl.trans (hbk.mono hbwl.size)
          go_wp2_with (first
            | ((with_reducible refine' wpList_len_rd (.tmp 115) 36 rfl ?_ Tryd.underlying36 ?_ r9w ?_); exact rfl; exact rfl; simp only [Act.put, List.setIfInBounds_toArray, List.set_cons_succ, List.set_cons_zero])
            | ((go_at_call 21; (with_reducible refine (lives_any _ hSk).mono ?_); rintro e w' ⟨rfl, hN41⟩)))
          go_ret
          exact ⟨rfl, hbz.trans (hN41.mono hbz.size)⟩
end Go.Proofs.YtdlhkhnoigbhjaaDoor.Wi
namespace Go.Proofs.YtdlhkhnoigbhjaaDoor.treeFound
open Go.ChangeShapes Go.WideShapes Go.ChangeAt Go.RowKit
open Go.Proofs.YtdlhkhnoigbhjaaDoor.Wi Go.Proofs.YtdlhkhnoigbhjaaDoor.Pu Go.Proofs.YtdlhkhnoigbhjaaDoor.Lb
set_option linter.unusedVariables false

theorem own : ownKnob Tryd.prog.godebug = none := by kernel_rfl
theorem laidOut : laidOutB Tryd.prog = true := by kernel_rfl

set_option maxRecDepth 100000 in
theorem lifted (os : Os) (started : os.Started) (H : Type) (enc : TypeId × Value → H) :
    ReturnsInHanded {} Tryd.checked os 7 .any (fun w args => (Rows.treeFoundSpec.pre enc Tryd.prog Tryd.f7 [] false w args ∧ laidMetH Tryd.prog lT w) ∧ sizedMet enc Tryd.prog Tryd.f7 (OpenSpec.ofChange Rows.treeFoundSpec) false w args) (Rows.treeFoundSpec.post enc Tryd.prog Tryd.f7 false true false false) := by
  refine returnsInHanded_of_change_and (C := Tryd.checked) (X := fun w _ => laidMetH Tryd.prog lT w) (fun _ _ _ hh h => h.of_heap hh) own started (by kernel_rfl) Tryd.func7
    (ChangeSpec.witness_shaped (enc := enc) (C := Tryd.checked) (os := os) (X := fun w _ => laidMetH Tryd.prog lT w) false (World.doorLaid Tryd.prog 4000 os) #[.slice none 0 0, .slice none 0 0, .int .i64 0] 8 rfl (World.shaped_of_RefB (by kernel_rfl) (by kernel_rfl)) (by kernel_rfl) (by kernel_rfl) (by kernel_rfl) (doorT os _)) ?_
  intro W base args ds gs before hval0 hW hcnd hk hL _
  have hT := sh_of hL
  have hval : ∀ (j : Nat) t v, Tryd.f7.params[j]? = some t → args[j]? = some v → Value.okWide Tryd.prog W .any base t v := hval0
  have hW' := hW
  obtain ⟨p, q, hA0, hV, rfl, hfz, hnd⟩ := hW
  have hA : DataW.TrodAll enc Tryd.prog W 0 (fun _ => true) true Tryd.f7.params.toList args.toList ds p := hA0
  rw [Tryd.params7] at hA hval
  obtain ⟨v0, vs0, d0, ds0, p0, q0, hargs, rfl, rfl, h0, t0⟩ := trodAll_cons hA
  obtain ⟨v1, vs1, d1, ds1, p1, q1, rfl, rfl, rfl, h1, t1⟩ := trodAll_cons t0
  obtain ⟨v2, vs2, d2, ds2, p2, q2, rfl, rfl, rfl, h2, t2⟩ := trodAll_cons t1
  obtain ⟨rfl, rfl, rfl⟩ := trodAll_nil t2
  obtain rfl : args = #[v0, v1, v2] := by cases args; simp_all
  obtain ⟨rfl, rfl⟩ := trodVars_none hV
  clear hA0 hval0
  have b0 : ∀ x ∈ p0, x.block < W.heap.size := by obtain ⟨m, hm⟩ := h0; exact DataW.trod_lt m _ _ _ hm
  have k0 := h0
  have b1 : ∀ x ∈ p1, x.block < W.heap.size := by obtain ⟨m, hm⟩ := h1; exact DataW.trod_lt m _ _ _ hm
  have k1 := h1
  have b2 : ∀ x ∈ p2, x.block < W.heap.size := by obtain ⟨m, hm⟩ := h2; exact DataW.trod_lt m _ _ _ hm
  have k2 := h2
  obtain ⟨l0, ok0, r0, e0⟩ := op_ints Tryd.underlying22 Tryd.underlying3 (by kernel_rfl) (hval 0 22 v0 rfl rfl) h0
  have n0 := sized_elems hk (j := 0) rfl rfl Tryd.underlying22 e0 (b := 8) (by kernel_rfl)
  obtain ⟨l1, ok1, r1, e1⟩ := op_ints Tryd.underlying22 Tryd.underlying3 (by kernel_rfl) (hval 1 22 v1 rfl rfl) h1
  have n1 := sized_elems hk (j := 1) rfl rfl Tryd.underlying22 e1 (b := 8) (by kernel_rfl)
  obtain ⟨z2, rfl, wf2⟩ := op_int Tryd.underlying3 (hval 2 3 v2 rfl rfl) h2
  have walk : Calls Tryd.prog 7 #[v0, v1, .int .i64 z2] W fun e w' => e = .returned (.bool true) ∧ Below W.heap.size W w' := by
    exact law_found l0 l1 z2 v0 v1 W ok0 ok1 (wf_i64 wf2) r0 r1 hT
  refine walk.mono fun e W' ⟨he, bel⟩ => ?_
  subst he
  exact ⟨_, rfl, _, _, _, [], _, [], hW', trodAll_mk1 (shut_bool Tryd.underlying4 _), (trodAll_cons_mk (Below.trod laidOut (by kernel_rfl) (of_decide_eq_true (by kernel_rfl)) k0 bel b0) (trodAll_cons_mk (Below.trod laidOut (by kernel_rfl) (of_decide_eq_true (by kernel_rfl)) k1 bel b1) (trodAll_cons_mk (Below.trod laidOut (by kernel_rfl) (of_decide_eq_true (by kernel_rfl)) k2 bel b2) trodAll_mk0))), rfl, bel.frame _, fun h => by cases h⟩

theorem over : Rows.treeFoundRow.holds Tryd.pinned (OpenSpec.ofChange Rows.treeFoundSpec) :=
  OpenClaim.holds_of_wide 7 Tryd.f7 rfl rfl rfl rfl rfl rfl rfl ⟨rfl, rfl, rfl, rfl, rfl⟩ rfl rfl rfl rfl rfl (by kernel_rfl) Tryd.func7 (by kernel_rfl)
    (of_decide_eq_true (by kernel_rfl)) (by unfold Func.isWrapper; first | (rw [if_pos (by decide +kernel)]; kernel_rfl) | (rw [if_neg (by decide +kernel)]; exact ⟨rfl, rfl⟩))
    (fun os started H enc _ => lifted os started H enc)

theorem proved : Rows.TreeFoundCardSaid :=
  Claim7.holds_tied_plain_at .later [] [.widerDeep] true (true, _) false
    over (fun _ h => by cases h) (by kernel_rfl) (fun _ h => by cases h) treeFound_row_tie rfl ⟨rfl, rfl⟩ (by kernel_rfl) rfl
    (fun f fn hf hfn => by
      obtain rfl : f = 7 := Option.some.inj ((show Tryd.prog.funcNamed "scoria/scorialaw05.TreeFound" = some 7 by kernel_rfl).symm.trans hf) |>.symm
      obtain rfl : fn = Tryd.f7 := (Option.some.inj (Tryd.func7.symm.trans hfn)).symm
      exact ⟨by kernel_rfl, fun j t ht => by
        rw [Tryd.params7] at ht
        have hm : t ∈ [22, 22, 3] := by simpa using Array.mem_of_getElem? ht
        have hall : ([22, 22, 3].all fun u => !Tryd.prog.wantsStandIn u) = true := by kernel_rfl
        exact (show Tryd.prog.wantsStandIn t = false by simpa using List.all_eq_true.1 hall t hm)⟩)
    (by kernel_rfl)
#print axioms proved
end Go.Proofs.YtdlhkhnoigbhjaaDoor.treeFound
