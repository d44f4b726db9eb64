/-
  Tor, Tpw, Gtpw: my texts of these names, one behind the other. Conditions: those that each law names.
-/
import Derived.Test.YtdlhkhnoigbhjaaDoorMi
import Derived.Test.YtdlhkhnoigbhjaaDoorMe
import Derived.Test.YtdlhkhnoigbhjaaDoorMd
import Derived.Test.YtdlhkhnoigbhjaaDoorMk
import Derived.Test.YtdlhkhnoigbhjaaDoorMh
import Derived.Test.YtdlhkhnoigbhjaaDoorMa
import Derived.WalkKit
import Derived.ProofKit
import Derived.OpenShut
import Derived.ShutString
import Derived.JoinedCond
import Derived.SizedLaws
import Derived.Deep.CondSized
import Derived.Test.YtdlhkhnoigbhjaaDoorTie
import Derived.Test.YtdlhkhnoigbhjaaDoorCards
import Derived.SevenTiedAt
import Derived.Stop.Joined
import Derived.LaidMore
import Derived.WideKeyPair
namespace Go.Proofs.YtdlhkhnoigbhjaaDoor.Pu
theorem gkids_size (g : GS → Tree × GS) (c : Nat) (hg : ∀ s, tsize (g s).1 ≤ c) : ∀ (k : Nat) (s : GS), tsizes (gkids g k s).1 ≤ k * c
  | 0, s => by rw [gkids, tsizes]; omega
  | k + 1, s => by
    rw [gkids]
    split
    · have h1 := hg s
      have h2 := gkids_size g c hg k (g s).2
      simp only [tsizes]
      rw [Nat.add_mul]; omega
    · simp only [tsizes]; omega
theorem gtree_size (l : List Int) : ∀ (d : Nat) (s : GS), tsize (gtree l d s).1 ≤ 4 ^ d
  | 0, s => by rw [gtree_eq, gsub, tsize, tsizes]; decide
  | d + 1, s => by
    rw [gtree_eq, gsub, tsize]
    have h1 := gkids_size (gtree l d) (4 ^ d) (gtree_size l d) (atV l ((s.1 + 1 + 1 + 1 : Nat) : Int) 4).toNat (s.1 + 1 + 1 + 1 + 1, s.2 - 1)
    have h2 : (atV l ((s.1 + 1 + 1 + 1 : Nat) : Int) 4).toNat ≤ 3 := by have := atV_bd l ((s.1 + 1 + 1 + 1 : Nat) : Int) (most := 4) (by omega); omega
    have h3 := Nat.mul_le_mul_right (4 ^ d) h2
    have h4 : 0 < 4 ^ d := Nat.pow_pos (by omega)
    rw [Nat.pow_succ]; omega
theorem gTree_size (l : List Int) : tsize (gTree l) ≤ 1024 := gtree_size l 5 (0, 29)
end Go.Proofs.YtdlhkhnoigbhjaaDoor.Pu
namespace Go.Proofs.YtdlhkhnoigbhjaaDoor.Wi
open Go Go.RowKit Pu Lb
set_option linter.unusedSimpArgs false
set_option linter.unusedVariables false
theorem tdiv6 (h : Int) : I64 (wrap64 (h.tdiv 6)) := by unfold I64 wrap64; omega
set_option maxRecDepth 100000 in
set_option maxHeartbeats 3200000 in
theorem law_order (l m : List Int) (a h b : Int) (v1 v2 : Value) (w : World) (hl : ∀ x ∈ l, I64 x) (hm : ∀ x ∈ m, I64 x) (ha : I64 a) (hh : I64 h) (hb : I64 b) (r1 : Rd w 1 v1 l.length (iv l)) (r2 : Rd w 1 v2 m.length (iv m)) (hS : ShT w) :
    Calls Tryd.prog 5 #[v1, v2, .int .i64 a, .int .i64 h, .int .i64 b] w fun e w' => e = .returned (.bool true) ∧ Below w.heap.size w w' := by
  have HL := Lib.hid hl; have HM := Lib.hid hm; have HA := Lib.hid ha; have HH := Lib.hid hh; have HB := Lib.hid hb; have HH6 := Lib.hid (tdiv6 h)
  have ZL := gTree_size l
  have ZM := gTree_size m
  obtain ⟨ta, hta⟩ : ∃ t, gTree l = t := ⟨_, rfl⟩
  obtain ⟨tc, htc⟩ : ∃ t, gTree m = t := ⟨_, rfl⟩
  have C1 : ∀ w', Rd w' 1 v1 l.length (iv l) → Calls Tryd.prog 10 #[v1] w' fun e w'' => ∃ cs, e = .returned (.agg cs.toArray) ∧ IsTX (fun b => w'.heap.size ≤ b) w'' ta cs ∧ Below w'.heap.size w' w'' := fun w' h => by rw [← hta]; exact gtree0_any l hl v1 w' h
  have C2 : ∀ w', Rd w' 1 v2 m.length (iv m) → Calls Tryd.prog 10 #[v2] w' fun e w'' => ∃ cs, e = .returned (.agg cs.toArray) ∧ IsTX (fun b => w'.heap.size ≤ b) w'' tc cs ∧ Below w'.heap.size w' w'' := fun w' h => by rw [← htc]; exact gtree0_any m hm v2 w' h
  rw [hta] at ZL
  rw [htc] at ZM
  have ZL2 : tsize ta ≤ 100000 := by omega
  clear hta htc hl hm ha hh hb
  go_enter Tryd.func5, Tryd.ntmps5
  go_upto_region 2 with (first
    | ((go_at_call 10; (with_reducible refine (C1 _ r1).mono ?_); rintro e w' ⟨cs, rfl, hE, hN1⟩); have CL := Lib.hid hE.len; have CO := Lib.hid hE.isT.ones)
    | (((with_reducible refine' wpList_alloc_blk (cs := nodz) 25 rfl ?_ zr_node ?_ ?_); exact rfl; exact nodz_cells; intro w2 k2 hN2 hz2; simp only [Act.put, List.setIfInBounds_toArray, List.set_cons_succ, List.set_cons_zero]))
    | (((with_reducible refine' wpList_store_blk (cs := cs) 25 (.tmp 11) (.tmp 26) rfl ?_ ?_ ?_ k2 sz_node ?_ ?_ ?_ ?_); exact rfl; exact rfl; exact rfl; exact CL.out; exact rfl; exact CO.out; intro w3 k3 hO3 hz3; simp only [Act.put])))
  obtain ⟨A, hA⟩ : ∃ A, w'.heap.size = A := ⟨_, rfl⟩
  have hT3 : IsT w3 ta cs := ((hE.lt.below hN2).only hO3 (fun b h => by have := h.2; omega)).isT
  have hs1 := hN1.size
  have l2 := k2.lt
  have hb3 : Below w.heap.size w w3 := (hN1.trans (hN2.mono hs1)).trans (hO3.below hs1 (by omega))
  have s3 := k3.lt
  rw [hA] at k3 s3
  simp only [hA]
  have r23 := r2.below hb3
  clear hz2 hz3 hO3 hN2 hN1 hE k2 l2 hA C1 r1 r2
  go_upto_region 3 with (first
    | ((with_reducible refine' wpList_loadst_blk (.tmp 11) 25 rfl ?_ Tryd.underlying25 ?_ sz_node ?_ k3 ?_ ?_ ?_); exact rfl; exact rfl; exact rfl; exact CL.out; decide; simp only [Act.put, List.setIfInBounds_toArray, List.set_cons_succ, List.set_cons_zero])
    | ((go_at_call 11; (with_reducible refine (spoilt_any ta cs a h b _ hT3 ZL2 HA.out HH.out HB.out).mono ?_); rintro e w' ⟨tb, ds, rfl, hD, hzb, hN4⟩); have DL := Lib.hid hD.len; have DO := Lib.hid hD.ones)
    | (((with_reducible refine' wpList_alloc_blk (cs := nodz) 25 rfl ?_ zr_node ?_ ?_); exact rfl; exact nodz_cells; intro w5 k5 hN5 hz5; simp only [Act.put, List.setIfInBounds_toArray, List.set_cons_succ, List.set_cons_zero]))
    | (((with_reducible refine' wpList_store_blk (cs := ds) 25 (.tmp 12) (.tmp 31) rfl ?_ ?_ ?_ k5 sz_node ?_ ?_ ?_ ?_); exact rfl; exact rfl; exact rfl; exact DL.out; exact rfl; exact DO.out; intro w6 k6 hO6 hz6; simp only [Act.put])))
  obtain ⟨B, hB⟩ : ∃ B, w'.heap.size = B := ⟨_, rfl⟩
  have hb36 : Below w3.heap.size w3 w6 := (hN4.trans (hN5.mono hN4.size)).trans (hO6.below hN4.size (Nat.le_trans hN4.size hN5.size))
  have hD6 : IsT w6 tb ds := ((hD.isTX.lt.below hN5).only hO6 (fun b h => by have := h.2; omega)).isT
  have s6 := k6.lt
  have kA6 := k3.below hb36 s3
  have hT6 := hT3.below hb36
  have r26 := r23.below hb36
  have hb6 := hb3.trans (hb36.mono hb3.size)
  rw [hB] at k6 s6
  simp only [hB]
  clear hz5 hz6 hO6 hN5 hN4 hD k5 hb36 k3 hT3 r23 hB
  have ZB2 : tsize tb ≤ 100000 := by omega
  go_upto_region 4 with (first
    | ((go_at_call 10; (with_reducible refine (C2 _ r26).mono ?_); rintro e w' ⟨es, rfl, hE, hN7⟩); have EL := Lib.hid hE.len; have EO := Lib.hid hE.isT.ones)
    | (((with_reducible refine' wpList_alloc_blk (cs := nodz) 25 rfl ?_ zr_node ?_ ?_); exact rfl; exact nodz_cells; intro w8 k8 hN8 hz8; simp only [Act.put, List.setIfInBounds_toArray, List.set_cons_succ, List.set_cons_zero]))
    | (((with_reducible refine' wpList_store_blk (cs := es) 25 (.tmp 13) (.tmp 33) rfl ?_ ?_ ?_ k8 sz_node ?_ ?_ ?_ ?_); exact rfl; exact rfl; exact rfl; exact EL.out; exact rfl; exact EO.out; intro w9 k9 hO9 hz9; simp only [Act.put])))
  obtain ⟨G, hG⟩ : ∃ G, w'.heap.size = G := ⟨_, rfl⟩
  have hb69 : Below w6.heap.size w6 w9 := (hN7.trans (hN8.mono hN7.size)).trans (hO9.below hN7.size (Nat.le_trans hN7.size hN8.size))
  have hE9 : IsT w9 tc es := ((hE.lt.below hN8).only hO9 (fun b h => by have := h.2; omega)).isT
  have s9 := k9.lt
  have kA9 := kA6.below hb69 kA6.lt
  have kB9 := k6.below hb69 s6
  have hT9 := hT6.below hb69
  have hD9 := hD6.below hb69
  have hb9 := hb6.trans (hb69.mono hb6.size)
  have hS9 := hS.below hb9
  rw [hG] at k9 s9
  simp only [hG]
  clear hz8 hz9 hO9 hN8 hN7 hE k8 hb69 kA6 k6 hT6 hD6 r26 hG C2 hb6 hb3 hs1
  have CA : ∀ w', Below w9.heap.size w9 w' → Blk w' A 25 cs := fun w' h => kA9.below h kA9.lt
  have CB : ∀ w', Below w9.heap.size w9 w' → Blk w' B 25 ds := fun w' h => kB9.below h kB9.lt
  have CG : ∀ w', Below w9.heap.size w9 w' → Blk w' G 25 es := fun w' h => k9.below h k9.lt
  have hd : Below w9.heap.size w9 w9.drew := (Below.refl _ _).drew
  (refine wp_region_plan (fun w' => Below w9.heap.size w9 w') (.f 0 (.f 1 (.f 2 (.f 3 (.f 4 (.f 5 (.f 6 (.f 7 (.o 8 (.o 9 (.f 10 .tail))))))))))) 11 (by kernel_rfl) (by kernel_rfl) (hd) ?_)
  (repeat (refine wpPlan_f rfl ?_; (first | ((with_reducible refine' wpQuietH_loadst_blk (.tmp 11) 25 rfl ?_ Tryd.underlying25 ?_ sz_node ?_ (CA) ?_ ?_ ?_); exact rfl; exact rfl; exact rfl; exact CL.out; decide; simp only [Act.put, List.setIfInBounds_toArray, List.set_cons_succ, List.set_cons_zero]) | ((with_reducible refine' wpQuietH_loadst_blk (.tmp 12) 25 rfl ?_ Tryd.underlying25 ?_ sz_node ?_ (CB) ?_ ?_ ?_); exact rfl; exact rfl; exact rfl; exact DL.out; decide; simp only [Act.put, List.setIfInBounds_toArray, List.set_cons_succ, List.set_cons_zero]) | ((with_reducible refine' wpQuietH_loadst_blk (.tmp 13) 25 rfl ?_ Tryd.underlying25 ?_ sz_node ?_ (CG) ?_ ?_ ?_); exact rfl; exact rfl; exact rfl; exact EL.out; decide; simp only [Act.put, List.setIfInBounds_toArray, List.set_cons_succ, List.set_cons_zero]) | go_big_quiet_step (fail) | (go_big_quiet_want; go_big_quiet_op; refine ⟨_, fun _ _ => rfl, ?_⟩; go_big_quiet_on)); refine wpQuiet_nil ?_))
  refine wpPlan_o rfl ?_
  have hD10 := hD9.below hd
  go_wp2_with ((go_at_call 11; (with_reducible refine (spoilt_any tb ds b _ a _ hD10 ZB2 HB.out HH6.out HA.out).mono ?_); rintro e w' ⟨td, fs, rfl, hF, hzd, hN10⟩))
  have FL := Lib.hid hF.len
  have FO := Lib.hid hF.ones
  have hc10 := hd.trans hN10
  refine ⟨rfl, hc10, ?_⟩
  refine wpPlan_o rfl ?_
  have LEN4 : ∀ c ∈ [cs, ds, es, fs], c.length = 4 := by
    intro c hc
    simp only [List.mem_cons, List.not_mem_nil, or_false] at hc
    rcases hc with rfl | rfl | rfl | rfl
    · exact CL.out
    · exact DL.out
    · exact EL.out
    · exact FL.out
  go_wp2_with (((with_reducible refine' wpList_build_sts (css := [cs, ds, es, fs]) rfl ?_ Tryd.underlying23 inf_node ?_ ?_ ?_ ?_ ?_ ?_); exact rfl; exact rfl; (first | omega | decide); (first | omega | decide); exact rfl; exact LEN4; intro w11 k11 hN11 hz11; simp only [Act.put, List.setIfInBounds_toArray, List.set_cons_succ, List.set_cons_zero]))
  have hc11 := hc10.trans (hN11.mono hc10.size)
  refine ⟨rfl, hc11, ?_⟩
  (repeat (refine wpPlan_f rfl ?_; (first | fail | go_big_quiet_step (fail) | (go_big_quiet_want; go_big_quiet_op; refine ⟨_, fun _ _ => rfl, ?_⟩; go_big_quiet_on)); refine wpQuiet_nil ?_))
  refine wpPlan_tail ?_
  go_wp2_with fail
  refine onlyN ?_
  have HR : Rd w11 4 (.slice (some ⟨w'.heap.size, 0, none⟩) 4 4) 4 _ := k11.rdall 4 4 (by simp [CL.out, DL.out, EL.out, FL.out]) (by unfold maxLen; omega)
  have HTs : IsTs w11 [ta, tb, tc, td] [cs, ds, es, fs].flatten := by
    have h1 := hT9.below hc11
    have h2 := hD9.below hc11
    have h3 := hE9.below hc11
    have h4 := hF.below hN11
    simp only [List.flatten_cons, List.flatten_nil, List.append_nil]
    rw [IsTs]; refine ⟨cs, _, rfl, CL.out, h1, ?_⟩
    rw [IsTs]; refine ⟨ds, _, rfl, DL.out, h2, ?_⟩
    rw [IsTs]; refine ⟨es, _, rfl, EL.out, h3, ?_⟩
    rw [IsTs]; refine ⟨fs, [], by rw [List.append_nil], FL.out, h4, ?_⟩
    rw [IsTs]
  obtain ⟨v14, hv14⟩ : ∃ v, Value.slice (some ⟨w'.heap.size, 0, none⟩) 4 4 = v := ⟨_, rfl⟩
  rw [hv14] at HR ⊢
  obtain ⟨xs, hxs⟩ : ∃ xs, [cs, ds, es, fs].flatten = xs := ⟨_, rfl⟩
  rw [hxs] at HR HTs
  obtain ⟨t4, ht4⟩ : ∃ t4, [ta, tb, tc, td] = t4 := ⟨_, rfl⟩
  rw [ht4] at HTs
  have L4 := Lib.hid (show t4.length = 4 by rw [← ht4]; rfl)
  have HTs' := Lib.hid HTs
  have hb11 := hb9.trans (hc11.mono hb9.size)
  have kA11 := CA _ hc11
  have kB11 := CB _ hc11
  have kG11 := CG _ hc11
  have hTa := Lib.hid (hT9.below hc11)
  have hTb := Lib.hid (hD9.below hc11)
  have hTc := Lib.hid (hE9.below hc11)
  have hS11 := hS9.below hc11
  have XL := Lib.hid (show xs.length = 16 from HR.1)
  clear hv14 hxs ht4 HTs LEN4 hc10 hc11 hN10 hN11 hz11 k11 hF hD10 hd CA CB CG kA9 kB9 k9 hT9 hD9 hE9 hb9 hS9
  go_upto_region 6 with fail
  go_loopw [15] (fun i wr => ∃ j : Nat, j ≤ 4 ∧ i = .int .i64 (j : Int) ∧ Below w11.heap.size w11 wr) (fun i _ => 4 - (intOf i).toNat)
  case atStart => exact ⟨0, by omega, rfl, Below.refl _ _⟩
  case round =>
    obtain ⟨i, hi, rfl, hbi⟩ := hrel
    obtain ⟨wi, rfl⟩ : ∃ wo : World, wo = wr := ⟨_, rfl⟩
    by_cases hi4 : i < 4
    · have LI : decide ((i : Int) < 4) = true := by rw [decide_eq_true_eq]; omega
      go_upto_region 9 with fail
      go_loopw [16] (fun i wr => ∃ j : Nat, j ≤ 4 ∧ i = .int .i64 (j : Int) ∧ Below w11.heap.size w11 wr) (fun i _ => 4 - (intOf i).toNat)
      case atStart => exact ⟨0, by omega, rfl, hbi⟩
      case round =>
        obtain ⟨j, hj, rfl, hbj⟩ := hrel
        obtain ⟨wj, rfl⟩ : ∃ wo : World, wo = wr := ⟨_, rfl⟩
        by_cases hj4 : j < 4
        · have LJ : decide ((j : Int) < 4) = true := by rw [decide_eq_true_eq]; omega
          obtain ⟨ti, hti⟩ := kid_at (ts := t4) (i := i) (by rw [L4.out]; exact hi4)
          obtain ⟨tj, htj⟩ := kid_at (ts := t4) (i := j) (by rw [L4.out]; exact hj4)
          obtain ⟨ci, hci⟩ : ∃ c, (xs.drop (i * 4)).take 4 = c := ⟨_, rfl⟩
          obtain ⟨cj, hcj⟩ : ∃ c, (xs.drop (j * 4)).take 4 = c := ⟨_, rfl⟩
          have HCI := Lib.hid hci
          have HCJ := Lib.hid hcj
          have BDI := Lib.hid (show i * 4 + 4 ≤ xs.length by rw [XL.out]; omega)
          have BDJ := Lib.hid (show j * 4 + 4 ≤ xs.length by rw [XL.out]; omega)
          have TI := Lib.hid (show IsT w11 ti ci by have h := IsTs.get HTs'.out hti; rw [hci] at h; exact h)
          have TJ := Lib.hid (show IsT w11 tj cj by have h := IsTs.get HTs'.out htj; rw [hcj] at h; exact h)
          have hij : i = j → ti = tj := fun e => by subst e; rw [hti] at htj; exact Option.some.inj htj
          have hrj := HR.below hbj
          have hd : Below wj.heap.size wj wj.drew := (Below.refl _ _).drew
          have hT1 := (TI.out.below hbj).below hd
          have hT2 := (TJ.out.below hbj).below hd
          clear hci hcj hti htj
          go_upto_region 11 with fail
          (refine wp_region_plan (fun w' => Below wj.heap.size wj w') (.f 0 (.f 1 (.f 2 (.f 3 (.f 4 (.f 5 (.f 6 (.f 7 (.o 8 (.f 9 .tail)))))))))) 10 (by kernel_rfl) (by kernel_rfl) (hd) ?_)
          (repeat (refine wpPlan_f rfl ?_; (first | ((with_reducible refine' wpQuiet_at_rd (.tmp 52) (.tmp 53) 23 rfl ?_ Tryd.underlying23 sz_node ?_ hrj (by decide) (i) ?_ ?_ ?_); exact rfl; exact rfl; (show (_ : Int) = _; omega); omega; simp only [Act.put, List.setIfInBounds_toArray, List.set_cons_succ, List.set_cons_zero]) | ((with_reducible refine' wpQuietC_load_st (cov_below _) (cp := ci) (.tmp 54) 25 rfl ?_ Tryd.underlying25 ?_ sz_node ?_ hrj ?_ ?_ HCI.out ?_); exact rfl; exact rfl; exact rfl; exact BDI.out; decide; simp only [Act.put, List.setIfInBounds_toArray, List.set_cons_succ, List.set_cons_zero]) | ((with_reducible refine' wpQuiet_at_rd (.tmp 56) (.tmp 57) 23 rfl ?_ Tryd.underlying23 sz_node ?_ hrj (by decide) (j) ?_ ?_ ?_); exact rfl; exact rfl; (show (_ : Int) = _; omega); omega; simp only [Act.put, List.setIfInBounds_toArray, List.set_cons_succ, List.set_cons_zero]) | ((with_reducible refine' wpQuietC_load_st (cov_below _) (cp := cj) (.tmp 58) 25 rfl ?_ Tryd.underlying25 ?_ sz_node ?_ hrj ?_ ?_ HCJ.out ?_); exact rfl; exact rfl; exact rfl; exact BDJ.out; decide; simp only [Act.put, List.setIfInBounds_toArray, List.set_cons_succ, List.set_cons_zero]) | go_big_quiet_step (fail) | (go_big_quiet_want; go_big_quiet_op; refine ⟨_, fun _ _ => rfl, ?_⟩; go_big_quiet_on)); refine wpQuiet_nil ?_))
          refine wpPlan_o rfl ?_
          go_wp2_with ((go_at_call 19; (with_reducible refine (compare_any ti tj ci cj _ hT1 hT2).mono ?_); rintro e w' ⟨rfl, hN12⟩))
          have hc12 := hd.trans hN12
          refine ⟨rfl, hc12, ?_⟩
          have hx1 := tcmp_bd ti tj
          have hx2 := neg_tcmp tj ti
          have hx3 : i = j → tcmp ti tj = 0 := fun e => by rw [hij e]; exact tcmp_self tj
          obtain ⟨x, hx⟩ : ∃ x, tcmp ti tj = x := ⟨_, rfl⟩
          rw [hx] at hx1 hx2 hx3 ⊢
          have HX := Lib.hid hx
          clear hx
          (repeat (refine wpPlan_f rfl ?_; (first | fail | go_big_quiet_step (fail) | (go_big_quiet_want; go_big_quiet_op; refine ⟨_, fun _ _ => rfl, ?_⟩; go_big_quiet_on)); refine wpQuiet_nil ?_))
          refine wpPlan_tail ?_
          go_wp2_with fail
          refine onlyN ?_
          go_upto_region 12 with fail
          obtain ⟨wx, rfl⟩ : ∃ wo : World, wo = w' := ⟨_, rfl⟩
          have hbx := hbj.trans (hc12.mono hbj.size)
          have hrx := HR.below hbx
          have hd2 : Below wx.heap.size wx wx.drew := (Below.refl _ _).drew
          have hT1 := (TI.out.below hbx).below hd2
          have hT2 := (TJ.out.below hbx).below hd2
          have L1 : decide (x < -1) = false := by rw [decide_eq_false_iff_not]; omega
          have L2 : decide (1 < x) = false := by rw [decide_eq_false_iff_not]; omega
          clear hN12 hc12
          go_cut [89] from 61 to 89 (fun b wc => b = Value.bool false ∧ Below wx.heap.size wx wc)
          case first =>
            (refine wp_region_plan (fun w' => Below wx.heap.size wx w') (.f 0 (.f 1 (.f 2 (.f 3 (.f 4 (.f 5 (.f 6 (.f 7 (.f 8 (.f 9 (.f 10 (.f 11 (.f 12 (.f 13 (.f 14 (.f 15 (.o 16 (.f 17 (.f 18 (.f 19 (.f 20 (.f 21 (.f 22 (.f 23 (.f 24 (.f 25 (.f 26 (.f 27 (.f 28 .tail))))))))))))))))))))))))))))) 29 (by kernel_rfl) (by kernel_rfl) (hd2) ?_)
            (repeat (refine wpPlan_f rfl ?_; (first | ((with_reducible refine' wpQuiet_at_rd (.tmp 69) (.tmp 70) 23 rfl ?_ Tryd.underlying23 sz_node ?_ hrx (by decide) (j) ?_ ?_ ?_); exact rfl; exact rfl; (show (_ : Int) = _; omega); omega; simp only [Act.put, List.setIfInBounds_toArray, List.set_cons_succ, List.set_cons_zero]) | ((with_reducible refine' wpQuietC_load_st (cov_below _) (cp := cj) (.tmp 71) 25 rfl ?_ Tryd.underlying25 ?_ sz_node ?_ hrx ?_ ?_ HCJ.out ?_); exact rfl; exact rfl; exact rfl; exact BDJ.out; decide; simp only [Act.put, List.setIfInBounds_toArray, List.set_cons_succ, List.set_cons_zero]) | ((with_reducible refine' wpQuiet_at_rd (.tmp 73) (.tmp 74) 23 rfl ?_ Tryd.underlying23 sz_node ?_ hrx (by decide) (i) ?_ ?_ ?_); exact rfl; exact rfl; (show (_ : Int) = _; omega); omega; simp only [Act.put, List.setIfInBounds_toArray, List.set_cons_succ, List.set_cons_zero]) | ((with_reducible refine' wpQuietC_load_st (cov_below _) (cp := ci) (.tmp 75) 25 rfl ?_ Tryd.underlying25 ?_ sz_node ?_ hrx ?_ ?_ HCI.out ?_); exact rfl; exact rfl; exact rfl; exact BDI.out; decide; simp only [Act.put, List.setIfInBounds_toArray, List.set_cons_succ, List.set_cons_zero]) | go_big_quiet_step (fail) | (go_big_quiet_want; go_big_quiet_op; refine ⟨_, fun _ _ => rfl, ?_⟩; go_big_quiet_on)); refine wpQuiet_nil ?_))
            refine wpPlan_o rfl ?_
            go_wp2_with ((go_at_call 19; (with_reducible refine (compare_any tj ti cj ci _ hT2 hT1).mono ?_); rintro e w' ⟨rfl, hN13⟩))
            have hc13 := hd2.trans hN13
            refine ⟨rfl, hc13, ?_⟩
            have hw : wrap64 (x * -1) = -x := by unfold wrap64; omega
            have hw2 : wrap64 (- -x) = x := by unfold wrap64; omega
            have hw3 : wrap64 x = x := by unfold wrap64; omega
            by_cases hij2 : i = j
            · have hx0 := hx3 hij2
              subst hx0
              subst hij2
              (repeat (refine wpPlan_f rfl ?_; (first | fail | go_big_quiet_step (fail) | (go_big_quiet_want; go_big_quiet_op; refine ⟨_, fun _ _ => rfl, ?_⟩; go_big_quiet_on)); refine wpQuiet_nil ?_))
              refine wpPlan_tail ?_
              go_wp2_with fail
              refine onlyN ?_
              go_wp2_with fail
              go_meet
              case rel => (first | exact ⟨rfl, hc13⟩ | ((repeat apply Exists.intro); exact ⟨⟨rfl, hc13⟩, rfl⟩))
            · have hne : ((i : Int) == (j : Int)) = false := by rw [beq_eq_false_iff_ne]; omega
              (repeat (refine wpPlan_f rfl ?_; (first | fail | go_big_quiet_step (fail) | (go_big_quiet_want; go_big_quiet_op; refine ⟨_, fun _ _ => rfl, ?_⟩; go_big_quiet_on)); refine wpQuiet_nil ?_))
              refine wpPlan_tail ?_
              go_wp2_with fail
              refine onlyN ?_
              go_wp2_with fail
              go_meet
              case rel => (first | exact ⟨rfl, hc13⟩ | ((repeat apply Exists.intro); exact ⟨⟨rfl, hc13⟩, rfl⟩))
          case rest =>
            obtain ⟨rfl, hbc⟩ := hcut
            have hb2 := hbx.trans (hbc.mono hbx.size)
            clear hT1 hT2 hrx hrj hd hd2 hbc L1 L2
            go_upto_region 15 with fail
            go_loopw [18] (fun i wr => ∃ j : Nat, j ≤ 4 ∧ i = .int .i64 (j : Int) ∧ Below w11.heap.size w11 wr) (fun i _ => 4 - (intOf i).toNat)
            case atStart => exact ⟨0, by omega, rfl, hb2⟩
            case round =>
              obtain ⟨k, hk, rfl, hbk⟩ := hrel
              obtain ⟨wk, rfl⟩ : ∃ wo : World, wo = wr := ⟨_, rfl⟩
              by_cases hk4 : k < 4
              · have LK : decide ((k : Int) < 4) = true := by rw [decide_eq_true_eq]; omega
                obtain ⟨tk, htk⟩ := kid_at (ts := t4) (i := k) (by rw [L4.out]; exact hk4)
                obtain ⟨ck, hck⟩ : ∃ c, (xs.drop (k * 4)).take 4 = c := ⟨_, rfl⟩
                have HCK := Lib.hid hck
                have BDK := Lib.hid (show k * 4 + 4 ≤ xs.length by rw [XL.out]; omega)
                have TK := Lib.hid (show IsT w11 tk ck by have h := IsTs.get HTs'.out htk; rw [hck] at h; exact h)
                have hrk := HR.below hbk
                have hdk : Below wk.heap.size wk wk.drew := (Below.refl _ _).drew
                clear hck htk
                have hT1 := (TI.out.below hbk).below hdk
                have hT2 := (TJ.out.below hbk).below hdk
                have hT3 := (TK.out.below hbk).below hdk
                obtain ⟨y, hy⟩ : ∃ y, tcmp tj tk = y := ⟨_, rfl⟩
                have hyz : x ≤ 0 → y ≤ 0 → tcmp ti tk ≤ 0 := fun h1 h2 => tcmp_trans (by rw [HX.out]; exact h1) (by rw [hy]; exact h2)
                have HY := Lib.hid hy
                clear hy
                go_upto_region 17 with fail
                go_cut [119] from 94 to 119 (fun b wc => b = Value.bool false ∧ Below wk.heap.size wk wc)
                case first =>
                  (refine wp_region_plan (fun w' => Below wk.heap.size wk w') (.f 0 (.f 1 (.f 2 (.f 3 (.f 4 (.f 5 (.f 6 (.f 7 (.f 8 (.f 9 (.f 10 (.o 11 (.f 12 (.f 13 (.f 14 (.f 15 (.f 16 (.f 17 (.f 18 (.f 19 (.f 20 (.f 21 (.f 22 (.o 23 (.f 24 (.f 25 .tail)))))))))))))))))))))))))) 26 (by kernel_rfl) (by kernel_rfl) (hdk) ?_)
                  by_cases hx0 : x ≤ 0
                  · have D1 : decide (x ≤ 0) = true := decide_eq_true hx0
                    (repeat (refine wpPlan_f rfl ?_; (first | ((with_reducible refine' wpQuiet_at_rd (.tmp 97) (.tmp 98) 23 rfl ?_ Tryd.underlying23 sz_node ?_ hrk (by decide) (j) ?_ ?_ ?_); exact rfl; exact rfl; (show (_ : Int) = _; omega); omega; simp only [Act.put, List.setIfInBounds_toArray, List.set_cons_succ, List.set_cons_zero]) | ((with_reducible refine' wpQuietC_load_st (cov_below _) (cp := cj) (.tmp 99) 25 rfl ?_ Tryd.underlying25 ?_ sz_node ?_ hrk ?_ ?_ HCJ.out ?_); exact rfl; exact rfl; exact rfl; exact BDJ.out; decide; simp only [Act.put, List.setIfInBounds_toArray, List.set_cons_succ, List.set_cons_zero]) | ((with_reducible refine' wpQuiet_at_rd (.tmp 101) (.tmp 102) 23 rfl ?_ Tryd.underlying23 sz_node ?_ hrk (by decide) (k) ?_ ?_ ?_); exact rfl; exact rfl; (show (_ : Int) = _; omega); omega; simp only [Act.put, List.setIfInBounds_toArray, List.set_cons_succ, List.set_cons_zero]) | ((with_reducible refine' wpQuietC_load_st (cov_below _) (cp := ck) (.tmp 103) 25 rfl ?_ Tryd.underlying25 ?_ sz_node ?_ hrk ?_ ?_ HCK.out ?_); exact rfl; exact rfl; exact rfl; exact BDK.out; decide; simp only [Act.put, List.setIfInBounds_toArray, List.set_cons_succ, List.set_cons_zero]) | ((with_reducible refine' wpQuiet_at_rd (.tmp 109) (.tmp 110) 23 rfl ?_ Tryd.underlying23 sz_node ?_ hrk (by decide) (i) ?_ ?_ ?_); exact rfl; exact rfl; (show (_ : Int) = _; omega); omega; simp only [Act.put, List.setIfInBounds_toArray, List.set_cons_succ, List.set_cons_zero]) | ((with_reducible refine' wpQuietC_load_st (cov_below _) (cp := ci) (.tmp 111) 25 rfl ?_ Tryd.underlying25 ?_ sz_node ?_ hrk ?_ ?_ HCI.out ?_); exact rfl; exact rfl; exact rfl; exact BDI.out; decide; simp only [Act.put, List.setIfInBounds_toArray, List.set_cons_succ, List.set_cons_zero]) | ((with_reducible refine' wpQuiet_at_rd (.tmp 113) (.tmp 114) 23 rfl ?_ Tryd.underlying23 sz_node ?_ hrk (by decide) (k) ?_ ?_ ?_); exact rfl; exact rfl; (show (_ : Int) = _; omega); omega; simp only [Act.put, List.setIfInBounds_toArray, List.set_cons_succ, List.set_cons_zero]) | ((with_reducible refine' wpQuietC_load_st (cov_below _) (cp := ck) (.tmp 115) 25 rfl ?_ Tryd.underlying25 ?_ sz_node ?_ hrk ?_ ?_ HCK.out ?_); exact rfl; exact rfl; exact rfl; exact BDK.out; decide; simp only [Act.put, List.setIfInBounds_toArray, List.set_cons_succ, List.set_cons_zero]) | go_big_quiet_step (fail) | (go_big_quiet_want; go_big_quiet_op; refine ⟨_, fun _ _ => rfl, ?_⟩; go_big_quiet_on)); refine wpQuiet_nil ?_))
                    refine wpPlan_o rfl ?_
                    go_wp2_with ((go_at_call 19; (with_reducible refine (compare_any tj tk cj ck _ hT2 hT3).mono ?_); rintro e w' ⟨rfl, hN14⟩))
                    have hc14 := hdk.trans hN14
                    rw [HY.out]
                    refine ⟨rfl, hc14, ?_⟩
                    have hT1' := hT1.below hN14
                    have hT3' := hT3.below hN14
                    by_cases hy0 : y ≤ 0
                    · have D2 : decide (y ≤ 0) = true := decide_eq_true hy0
                      have hz := hyz hx0 hy0
                      have D3 : decide (0 < tcmp ti tk) = false := by rw [decide_eq_false_iff_not]; omega
                      (repeat (refine wpPlan_f rfl ?_; (first | ((with_reducible refine' wpQuiet_at_rd (.tmp 97) (.tmp 98) 23 rfl ?_ Tryd.underlying23 sz_node ?_ hrk (by decide) (j) ?_ ?_ ?_); exact rfl; exact rfl; (show (_ : Int) = _; omega); omega; simp only [Act.put, List.setIfInBounds_toArray, List.set_cons_succ, List.set_cons_zero]) | ((with_reducible refine' wpQuietC_load_st (cov_below _) (cp := cj) (.tmp 99) 25 rfl ?_ Tryd.underlying25 ?_ sz_node ?_ hrk ?_ ?_ HCJ.out ?_); exact rfl; exact rfl; exact rfl; exact BDJ.out; decide; simp only [Act.put, List.setIfInBounds_toArray, List.set_cons_succ, List.set_cons_zero]) | ((with_reducible refine' wpQuiet_at_rd (.tmp 101) (.tmp 102) 23 rfl ?_ Tryd.underlying23 sz_node ?_ hrk (by decide) (k) ?_ ?_ ?_); exact rfl; exact rfl; (show (_ : Int) = _; omega); omega; simp only [Act.put, List.setIfInBounds_toArray, List.set_cons_succ, List.set_cons_zero]) | ((with_reducible refine' wpQuietC_load_st (cov_below _) (cp := ck) (.tmp 103) 25 rfl ?_ Tryd.underlying25 ?_ sz_node ?_ hrk ?_ ?_ HCK.out ?_); exact rfl; exact rfl; exact rfl; exact BDK.out; decide; simp only [Act.put, List.setIfInBounds_toArray, List.set_cons_succ, List.set_cons_zero]) | ((with_reducible refine' wpQuiet_at_rd (.tmp 109) (.tmp 110) 23 rfl ?_ Tryd.underlying23 sz_node ?_ hrk (by decide) (i) ?_ ?_ ?_); exact rfl; exact rfl; (show (_ : Int) = _; omega); omega; simp only [Act.put, List.setIfInBounds_toArray, List.set_cons_succ, List.set_cons_zero]) | ((with_reducible refine' wpQuietC_load_st (cov_below _) (cp := ci) (.tmp 111) 25 rfl ?_ Tryd.underlying25 ?_ sz_node ?_ hrk ?_ ?_ HCI.out ?_); exact rfl; exact rfl; exact rfl; exact BDI.out; decide; simp only [Act.put, List.setIfInBounds_toArray, List.set_cons_succ, List.set_cons_zero]) | ((with_reducible refine' wpQuiet_at_rd (.tmp 113) (.tmp 114) 23 rfl ?_ Tryd.underlying23 sz_node ?_ hrk (by decide) (k) ?_ ?_ ?_); exact rfl; exact rfl; (show (_ : Int) = _; omega); omega; simp only [Act.put, List.setIfInBounds_toArray, List.set_cons_succ, List.set_cons_zero]) | ((with_reducible refine' wpQuietC_load_st (cov_below _) (cp := ck) (.tmp 115) 25 rfl ?_ Tryd.underlying25 ?_ sz_node ?_ hrk ?_ ?_ HCK.out ?_); exact rfl; exact rfl; exact rfl; exact BDK.out; decide; simp only [Act.put, List.setIfInBounds_toArray, List.set_cons_succ, List.set_cons_zero]) | go_big_quiet_step (fail) | (go_big_quiet_want; go_big_quiet_op; refine ⟨_, fun _ _ => rfl, ?_⟩; go_big_quiet_on)); refine wpQuiet_nil ?_))
                      refine wpPlan_o rfl ?_
                      go_wp2_with ((go_at_call 19; (with_reducible refine (compare_any ti tk ci ck _ hT1' hT3').mono ?_); rintro e w' ⟨rfl, hN15⟩))
                      have hc15 := hc14.trans (hN15.mono hc14.size)
                      refine ⟨rfl, hc15, ?_⟩
                      (repeat (refine wpPlan_f rfl ?_; (first | fail | go_big_quiet_step (fail) | (go_big_quiet_want; go_big_quiet_op; refine ⟨_, fun _ _ => rfl, ?_⟩; go_big_quiet_on)); refine wpQuiet_nil ?_))
                      refine wpPlan_tail ?_
                      go_wp2_with fail
                      refine onlyN ?_
                      go_wp2_with fail
                      go_meet
                      case rel => (first | exact ⟨rfl, hc15⟩ | ((repeat apply Exists.intro); exact ⟨⟨rfl, hc15⟩, rfl⟩))
                    · have D2 : decide (y ≤ 0) = false := decide_eq_false hy0
                      (repeat (refine wpPlan_f rfl ?_; (first | ((with_reducible refine' wpQuiet_at_rd (.tmp 97) (.tmp 98) 23 rfl ?_ Tryd.underlying23 sz_node ?_ hrk (by decide) (j) ?_ ?_ ?_); exact rfl; exact rfl; (show (_ : Int) = _; omega); omega; simp only [Act.put, List.setIfInBounds_toArray, List.set_cons_succ, List.set_cons_zero]) | ((with_reducible refine' wpQuietC_load_st (cov_below _) (cp := cj) (.tmp 99) 25 rfl ?_ Tryd.underlying25 ?_ sz_node ?_ hrk ?_ ?_ HCJ.out ?_); exact rfl; exact rfl; exact rfl; exact BDJ.out; decide; simp only [Act.put, List.setIfInBounds_toArray, List.set_cons_succ, List.set_cons_zero]) | ((with_reducible refine' wpQuiet_at_rd (.tmp 101) (.tmp 102) 23 rfl ?_ Tryd.underlying23 sz_node ?_ hrk (by decide) (k) ?_ ?_ ?_); exact rfl; exact rfl; (show (_ : Int) = _; omega); omega; simp only [Act.put, List.setIfInBounds_toArray, List.set_cons_succ, List.set_cons_zero]) | ((with_reducible refine' wpQuietC_load_st (cov_below _) (cp := ck) (.tmp 103) 25 rfl ?_ Tryd.underlying25 ?_ sz_node ?_ hrk ?_ ?_ HCK.out ?_); exact rfl; exact rfl; exact rfl; exact BDK.out; decide; simp only [Act.put, List.setIfInBounds_toArray, List.set_cons_succ, List.set_cons_zero]) | ((with_reducible refine' wpQuiet_at_rd (.tmp 109) (.tmp 110) 23 rfl ?_ Tryd.underlying23 sz_node ?_ hrk (by decide) (i) ?_ ?_ ?_); exact rfl; exact rfl; (show (_ : Int) = _; omega); omega; simp only [Act.put, List.setIfInBounds_toArray, List.set_cons_succ, List.set_cons_zero]) | ((with_reducible refine' wpQuietC_load_st (cov_below _) (cp := ci) (.tmp 111) 25 rfl ?_ Tryd.underlying25 ?_ sz_node ?_ hrk ?_ ?_ HCI.out ?_); exact rfl; exact rfl; exact rfl; exact BDI.out; decide; simp only [Act.put, List.setIfInBounds_toArray, List.set_cons_succ, List.set_cons_zero]) | ((with_reducible refine' wpQuiet_at_rd (.tmp 113) (.tmp 114) 23 rfl ?_ Tryd.underlying23 sz_node ?_ hrk (by decide) (k) ?_ ?_ ?_); exact rfl; exact rfl; (show (_ : Int) = _; omega); omega; simp only [Act.put, List.setIfInBounds_toArray, List.set_cons_succ, List.set_cons_zero]) | ((with_reducible refine' wpQuietC_load_st (cov_below _) (cp := ck) (.tmp 115) 25 rfl ?_ Tryd.underlying25 ?_ sz_node ?_ hrk ?_ ?_ HCK.out ?_); exact rfl; exact rfl; exact rfl; exact BDK.out; decide; simp only [Act.put, List.setIfInBounds_toArray, List.set_cons_succ, List.set_cons_zero]) | go_big_quiet_step (fail) | (go_big_quiet_want; go_big_quiet_op; refine ⟨_, fun _ _ => rfl, ?_⟩; go_big_quiet_on)); refine wpQuiet_nil ?_))
                      refine wpPlan_o rfl ?_
                      go_wp2_with fail
                      refine ⟨rfl, hc14, ?_⟩
                      (repeat (refine wpPlan_f rfl ?_; (first | fail | go_big_quiet_step (fail) | (go_big_quiet_want; go_big_quiet_op; refine ⟨_, fun _ _ => rfl, ?_⟩; go_big_quiet_on)); refine wpQuiet_nil ?_))
                      refine wpPlan_tail ?_
                      go_wp2_with fail
                      refine onlyN ?_
                      go_wp2_with fail
                      go_meet
                      case rel => (first | exact ⟨rfl, hc14⟩ | ((repeat apply Exists.intro); exact ⟨⟨rfl, hc14⟩, rfl⟩))
                  · have D1 : decide (x ≤ 0) = false := decide_eq_false hx0
                    (repeat (refine wpPlan_f rfl ?_; (first | ((with_reducible refine' wpQuiet_at_rd (.tmp 97) (.tmp 98) 23 rfl ?_ Tryd.underlying23 sz_node ?_ hrk (by decide) (j) ?_ ?_ ?_); exact rfl; exact rfl; (show (_ : Int) = _; omega); omega; simp only [Act.put, List.setIfInBounds_toArray, List.set_cons_succ, List.set_cons_zero]) | ((with_reducible refine' wpQuietC_load_st (cov_below _) (cp := cj) (.tmp 99) 25 rfl ?_ Tryd.underlying25 ?_ sz_node ?_ hrk ?_ ?_ HCJ.out ?_); exact rfl; exact rfl; exact rfl; exact BDJ.out; decide; simp only [Act.put, List.setIfInBounds_toArray, List.set_cons_succ, List.set_cons_zero]) | ((with_reducible refine' wpQuiet_at_rd (.tmp 101) (.tmp 102) 23 rfl ?_ Tryd.underlying23 sz_node ?_ hrk (by decide) (k) ?_ ?_ ?_); exact rfl; exact rfl; (show (_ : Int) = _; omega); omega; simp only [Act.put, List.setIfInBounds_toArray, List.set_cons_succ, List.set_cons_zero]) | ((with_reducible refine' wpQuietC_load_st (cov_below _) (cp := ck) (.tmp 103) 25 rfl ?_ Tryd.underlying25 ?_ sz_node ?_ hrk ?_ ?_ HCK.out ?_); exact rfl; exact rfl; exact rfl; exact BDK.out; decide; simp only [Act.put, List.setIfInBounds_toArray, List.set_cons_succ, List.set_cons_zero]) | ((with_reducible refine' wpQuiet_at_rd (.tmp 109) (.tmp 110) 23 rfl ?_ Tryd.underlying23 sz_node ?_ hrk (by decide) (i) ?_ ?_ ?_); exact rfl; exact rfl; (show (_ : Int) = _; omega); omega; simp only [Act.put, List.setIfInBounds_toArray, List.set_cons_succ, List.set_cons_zero]) | ((with_reducible refine' wpQuietC_load_st (cov_below _) (cp := ci) (.tmp 111) 25 rfl ?_ Tryd.underlying25 ?_ sz_node ?_ hrk ?_ ?_ HCI.out ?_); exact rfl; exact rfl; exact rfl; exact BDI.out; decide; simp only [Act.put, List.setIfInBounds_toArray, List.set_cons_succ, List.set_cons_zero]) | ((with_reducible refine' wpQuiet_at_rd (.tmp 113) (.tmp 114) 23 rfl ?_ Tryd.underlying23 sz_node ?_ hrk (by decide) (k) ?_ ?_ ?_); exact rfl; exact rfl; (show (_ : Int) = _; omega); omega; simp only [Act.put, List.setIfInBounds_toArray, List.set_cons_succ, List.set_cons_zero]) | ((with_reducible refine' wpQuietC_load_st (cov_below _) (cp := ck) (.tmp 115) 25 rfl ?_ Tryd.underlying25 ?_ sz_node ?_ hrk ?_ ?_ HCK.out ?_); exact rfl; exact rfl; exact rfl; exact BDK.out; decide; simp only [Act.put, List.setIfInBounds_toArray, List.set_cons_succ, List.set_cons_zero]) | go_big_quiet_step (fail) | (go_big_quiet_want; go_big_quiet_op; refine ⟨_, fun _ _ => rfl, ?_⟩; go_big_quiet_on)); refine wpQuiet_nil ?_))
                    refine wpPlan_o rfl ?_
                    go_wp2_with fail
                    refine ⟨rfl, hdk, ?_⟩
                    (repeat (refine wpPlan_f rfl ?_; (first | fail | go_big_quiet_step (fail) | (go_big_quiet_want; go_big_quiet_op; refine ⟨_, fun _ _ => rfl, ?_⟩; go_big_quiet_on)); refine wpQuiet_nil ?_))
                    refine wpPlan_o rfl ?_
                    go_wp2_with fail
                    refine ⟨rfl, hdk, ?_⟩
                    (repeat (refine wpPlan_f rfl ?_; (first | fail | go_big_quiet_step (fail) | (go_big_quiet_want; go_big_quiet_op; refine ⟨_, fun _ _ => rfl, ?_⟩; go_big_quiet_on)); refine wpQuiet_nil ?_))
                    refine wpPlan_tail ?_
                    go_wp2_with fail
                    refine onlyN ?_
                    go_wp2_with fail
                    go_meet
                    case rel => (first | exact ⟨rfl, hdk⟩ | ((repeat apply Exists.intro); exact ⟨⟨rfl, hdk⟩, rfl⟩))
                case rest =>
                  obtain ⟨rfl, hbc2⟩ := hcut
                  have hb3 := hbk.trans (hbc2.mono hbk.size)
                  clear hT1 hT2 hT3 hdk hrk hbc2
                  go_wp2_with fail
                  go_roundw
                  case rel => (first | exact ⟨k + 1, by omega, by go_num, hb3⟩ | ((repeat apply Exists.intro); exact ⟨⟨k + 1, by omega, by go_num, hb3⟩, rfl⟩))
                  case measure => simp [intOf]; omega
              · obtain rfl : k = 4 := by omega
                go_wp2_with fail
                go_roundw
                case rel => (first | exact ⟨j + 1, by omega, by go_num, hbk⟩ | ((repeat apply Exists.intro); exact ⟨⟨j + 1, by omega, by go_num, hbk⟩, rfl⟩))
                case measure => simp [intOf]; omega
        · obtain rfl : j = 4 := by omega
          go_wp2_with fail
          go_roundw
          case rel => (first | exact ⟨i + 1, by omega, by go_num, hbj⟩ | ((repeat apply Exists.intro); exact ⟨⟨i + 1, by omega, by go_num, hbj⟩, rfl⟩))
          case measure => simp [intOf]; omega
    · obtain rfl : i = 4 := by omega
      have kAi := kA11.below hbi kA11.lt
      have kBi := kB11.below hbi kB11.lt
      have kGi := kG11.below hbi kG11.lt
      have hTai := hTa.out.below hbi
      have hTbi := hTb.out.below hbi
      have hTci := hTc.out.below hbi
      have hSi := hS11.below hbi
      have hbw := hb11.trans (hbi.mono hb11.size)
      have ZL3 : tsize ta ≤ 1000000 := by omega
      have hpos := tsize_pos ta
      have IS : I64 (tsize ta : Int) := by unfold I64; omega
      have hl0 : 0 < (tsize ta : Int) := by omega
      clear HR HTs' kA11 kB11 kG11 hS11 hTa hTb hTc hb11 hbi
      go_upto_region 20 with (first
        | ((with_reducible refine' wpList_loadst_blk (.tmp 11) 25 rfl ?_ Tryd.underlying25 ?_ sz_node ?_ kAi ?_ ?_ ?_); exact rfl; exact rfl; exact rfl; exact CL.out; decide; simp only [Act.put, List.setIfInBounds_toArray, List.set_cons_succ, List.set_cons_zero])
        | ((go_at_call 24; (with_reducible refine (refpaths_any ta cs _ hTai ZL3).mono ?_); rintro e w' ⟨vp, vs, rfl, op, HP, hN16⟩)))
      have kA16 := kAi.below hN16 kAi.lt
      have kB16 := kBi.below hN16 kBi.lt
      have kG16 := kGi.below hN16 kGi.lt
      have hTa16 := hTai.below hN16
      have hTb16 := hTbi.below hN16
      have hTc16 := hTci.below hN16
      have hS16 := hSi.below hN16
      have hb16 := hbw.trans (hN16.mono hbw.size)
      have rp := Rd.of_own op
      obtain ⟨ix, hix⟩ : ∃ ix, aroundV a (tsize ta : Int) = ix := ⟨_, rfl⟩
      have bx := aroundV_bd a (most := (tsize ta : Int)) hl0
      rw [hix] at bx
      have HIX := Lib.hid hix
      obtain ⟨q, rfl⟩ : ∃ q : Nat, ix = (q : Int) := ⟨ix.toNat, by omega⟩
      obtain ⟨p, hp, hpl⟩ := path_at (t := ta) (q := q) (by omega)
      obtain ⟨vq, hv1, hv2, hv3⟩ := HP.2 q p hp
      have VP := Lib.hid hv1
      have rq : Rd _ 1 vq p.length (iv p) := hv3.1
      have hat : (tat p ta).isSome = true := by rw [← tindex_isSome, tindex_path _ _ _ hp]; rfl
      clear hix hv1 hp hN16 kAi kBi kGi hTai hTbi hTci hSi hbw op HP hv3
      obtain ⟨w16, rfl⟩ : ∃ x, x = w' := ⟨_, rfl⟩
      obtain ⟨P, hP⟩ : ∃ P, tset p ta tc = some P := by
        have h := tset_isSome tc p ta
        rw [hat] at h
        exact Option.isSome_iff_exists.1 h
      obtain ⟨Q, hQ⟩ : ∃ Q, tset p ta tb = some Q := by
        have h := tset_isSome tb p ta
        rw [hat] at h
        exact Option.isSome_iff_exists.1 h
      have hPQ := tcmp_tset tc tb p ta P Q hP hQ
      have HP := Lib.hid hP
      have HQ := Lib.hid hQ
      have hXa := hTa16.isTX
      have hXb := hTb16.isTX
      have hXc := hTc16.isTX
      clear hP hQ hat
      go_upto_region 21 with (first
        | ((with_reducible refine' wpList_len_rd (.tmp 124) 36 rfl ?_ Tryd.underlying36 ?_ rp ?_); exact rfl; exact rfl; simp only [Act.put, List.setIfInBounds_toArray, List.set_cons_succ, List.set_cons_zero])
        | ((go_at_call 14; (with_reducible refine (around_any a _ _ HA.out hl0 IS).mono ?_); rintro e w' ⟨rfl, rfl⟩); rw [HIX.out])
        | ((with_reducible refine' wpList_at1_rd (.tmp 122) (.tmp 126) 36 rfl ?_ Tryd.underlying36 sz_ints ?_ rp (q) ?_ ?_ ?_); exact rfl; exact rfl; (show (_ : Int) = _; omega); omega; simp only [Act.put, List.setIfInBounds_toArray, List.set_cons_succ, List.set_cons_zero]) | ((with_reducible refine' wpList_load_rd (.tmp 127) 22 rfl ?_ ld_ints ?_ rp (VP.out) ?_); exact rfl; exact rfl; simp only [Act.put, List.setIfInBounds_toArray, List.set_cons_succ, List.set_cons_zero]))
      go_upto_region 22 with (first
        | ((with_reducible refine' wpList_loadst_blk (.tmp 11) 25 rfl ?_ Tryd.underlying25 ?_ sz_node ?_ kA16 ?_ ?_ ?_); exact rfl; exact rfl; exact rfl; exact CL.out; decide; simp only [Act.put, List.setIfInBounds_toArray, List.set_cons_succ, List.set_cons_zero]) | ((with_reducible refine' wpList_loadst_blk (.tmp 13) 25 rfl ?_ Tryd.underlying25 ?_ sz_node ?_ kG16 ?_ ?_ ?_); exact rfl; exact rfl; exact rfl; exact EL.out; decide; simp only [Act.put, List.setIfInBounds_toArray, List.set_cons_succ, List.set_cons_zero])
        | ((go_at_call 25; (with_reducible refine (refset_any p _ ta tc cs es vq _ hXa hXc rq ZL3).mono ?_); rintro e w' ⟨ps, c, rfl, hA, hN17⟩); rw [HP.out] at hA; obtain ⟨rfl, hA⟩ := hA; have AL := Lib.hid hA.len; have AO := Lib.hid hA.isT.ones)
        | (((with_reducible refine' wpList_alloc_blk (cs := nodz) 25 rfl ?_ zr_node ?_ ?_); exact rfl; exact nodz_cells; intro w18 k18 hN18 hz18; simp only [Act.put, List.setIfInBounds_toArray, List.set_cons_succ, List.set_cons_zero]))
        | (((with_reducible refine' wpList_store_blk (cs := ps) 25 (.tmp 21) (.tmp 134) rfl ?_ ?_ ?_ k18 sz_node ?_ ?_ ?_ ?_); exact rfl; exact rfl; exact rfl; exact AL.out; exact rfl; exact AO.out; intro w19 k19 hO19 hz19; simp only [Act.put])))
      obtain ⟨M1, hM1⟩ : ∃ M, w'.heap.size = M := ⟨_, rfl⟩
      have b1 : Below w16.heap.size w16 w19 := (hN17.trans (hN18.mono hN17.size)).trans (hO19.below hN17.size (Nat.le_trans hN17.size hN18.size))
      have hP19 : IsT w19 P ps := ((hA.lt.below hN18).only hO19 (fun b h => by have := h.2; omega)).isT
      have s19 := k19.lt
      have kA19 := kA16.below b1 kA16.lt
      have kB19 := kB16.below b1 kB16.lt
      have kG19 := kG16.below b1 kG16.lt
      have hXa19 := hXa.below b1
      have hXb19 := hXb.below b1
      have hTb19 := hTb16.below b1
      have hTc19 := hTc16.below b1
      have rq19 := rq.below b1
      have hS19 := hS16.below b1
      have hb19 := hb16.trans (b1.mono hb16.size)
      rw [hM1] at k19 s19
      simp only [hM1]
      clear hz18 hz19 hO19 hN18 hN17 hA k18 b1 kA16 kB16 kG16 hXa hXb hXc hTa16 hTb16 hTc16 rq hS16 hb16 hM1 rp
      go_upto_region 23 with (first
        | ((with_reducible refine' wpList_loadst_blk (.tmp 11) 25 rfl ?_ Tryd.underlying25 ?_ sz_node ?_ kA19 ?_ ?_ ?_); exact rfl; exact rfl; exact rfl; exact CL.out; decide; simp only [Act.put, List.setIfInBounds_toArray, List.set_cons_succ, List.set_cons_zero]) | ((with_reducible refine' wpList_loadst_blk (.tmp 12) 25 rfl ?_ Tryd.underlying25 ?_ sz_node ?_ kB19 ?_ ?_ ?_); exact rfl; exact rfl; exact rfl; exact DL.out; decide; simp only [Act.put, List.setIfInBounds_toArray, List.set_cons_succ, List.set_cons_zero])
        | ((go_at_call 25; (with_reducible refine (refset_any p _ ta tb cs ds vq _ hXa19 hXb19 rq19 ZL3).mono ?_); rintro e w' ⟨qs, c, rfl, hA, hN20⟩); rw [HQ.out] at hA; obtain ⟨rfl, hA⟩ := hA; have QL := Lib.hid hA.len; have QO := Lib.hid hA.isT.ones)
        | (((with_reducible refine' wpList_alloc_blk (cs := nodz) 25 rfl ?_ zr_node ?_ ?_); exact rfl; exact nodz_cells; intro w21 k21 hN21 hz21; simp only [Act.put, List.setIfInBounds_toArray, List.set_cons_succ, List.set_cons_zero]))
        | (((with_reducible refine' wpList_store_blk (cs := qs) 25 (.tmp 23) (.tmp 141) rfl ?_ ?_ ?_ k21 sz_node ?_ ?_ ?_ ?_); exact rfl; exact rfl; exact rfl; exact QL.out; exact rfl; exact QO.out; intro w22 k22 hO22 hz22; simp only [Act.put])))
      obtain ⟨M2, hM2⟩ : ∃ M, w'.heap.size = M := ⟨_, rfl⟩
      have b2 : Below w19.heap.size w19 w22 := (hN20.trans (hN21.mono hN20.size)).trans (hO22.below hN20.size (Nat.le_trans hN20.size hN21.size))
      have hQ22 : IsT w22 Q qs := ((hA.lt.below hN21).only hO22 (fun b h => by have := h.2; omega)).isT
      have hP22 := hP19.below b2
      have kP22 := k19.below b2 s19
      have kB22 := kB19.below b2 kB19.lt
      have kG22 := kG19.below b2 kG19.lt
      have hTb22 := hTb19.below b2
      have hTc22 := hTc19.below b2
      have hS22 := hS19.below b2
      have hb22 := hb19.trans (b2.mono hb19.size)
      rw [hM2] at k22
      simp only [hM2]
      clear hz21 hO22 hz22 hN21 hN20 hA k21 b2 kA19 kB19 kG19 k19 hXa19 hXb19 hTb19 hTc19 rq19 hS19 hb19 hM2 hP19
      have CP : ∀ w', Below w22.heap.size w22 w' → Blk w' M1 25 ps := fun w' h => kP22.below h kP22.lt
      have CQ : ∀ w', Below w22.heap.size w22 w' → Blk w' M2 25 qs := fun w' h => k22.below h k22.lt
      have CB : ∀ w', Below w22.heap.size w22 w' → Blk w' B 25 ds := fun w' h => kB22.below h kB22.lt
      have CG : ∀ w', Below w22.heap.size w22 w' → Blk w' G 25 es := fun w' h => kG22.below h kG22.lt
      have hd : Below w22.heap.size w22 w22.drew := (Below.refl _ _).drew
      have p1 := hP22.below hd
      have p2 := hQ22.below hd
      (refine wp_region_plan (fun w' => Below w22.heap.size w22 w') (.f 0 (.f 1 (.f 3 (.f 4 (.o 2 (.o 5 (.f 6 (.f 7 (.o 8 (.f 9 (.f 10 .tail))))))))))) 11 (by kernel_rfl) (by kernel_rfl) (hd) ?_)
      (repeat (refine wpPlan_f rfl ?_; (first | ((with_reducible refine' wpQuietH_loadst_blk (.tmp 21) 25 rfl ?_ Tryd.underlying25 ?_ sz_node ?_ (CP) ?_ ?_ ?_); exact rfl; exact rfl; exact rfl; exact AL.out; decide; simp only [Act.put, List.setIfInBounds_toArray, List.set_cons_succ, List.set_cons_zero]) | ((with_reducible refine' wpQuietH_loadst_blk (.tmp 23) 25 rfl ?_ Tryd.underlying25 ?_ sz_node ?_ (CQ) ?_ ?_ ?_); exact rfl; exact rfl; exact rfl; exact QL.out; decide; simp only [Act.put, List.setIfInBounds_toArray, List.set_cons_succ, List.set_cons_zero]) | ((with_reducible refine' wpQuietH_loadst_blk (.tmp 13) 25 rfl ?_ Tryd.underlying25 ?_ sz_node ?_ (CG) ?_ ?_ ?_); exact rfl; exact rfl; exact rfl; exact EL.out; decide; simp only [Act.put, List.setIfInBounds_toArray, List.set_cons_succ, List.set_cons_zero]) | ((with_reducible refine' wpQuietH_loadst_blk (.tmp 12) 25 rfl ?_ Tryd.underlying25 ?_ sz_node ?_ (CB) ?_ ?_ ?_); exact rfl; exact rfl; exact rfl; exact DL.out; decide; simp only [Act.put, List.setIfInBounds_toArray, List.set_cons_succ, List.set_cons_zero]) | go_big_quiet_step (fail) | (go_big_quiet_want; go_big_quiet_op; refine ⟨_, fun _ _ => rfl, ?_⟩; go_big_quiet_on)); refine wpQuiet_nil ?_))
      refine wpPlan_o rfl ?_
      go_wp2_with ((go_at_call 19; (with_reducible refine (compare_any P Q ps qs _ p1 p2).mono ?_); rintro e w' ⟨rfl, hN23⟩))
      have hc23 := hd.trans hN23
      have p3 := hTb22.below hc23
      have p4 := hTc22.below hc23
      refine ⟨rfl, hc23, ?_⟩
      refine wpPlan_o rfl ?_
      go_wp2_with ((go_at_call 19; (with_reducible refine (compare_any tc tb es ds _ p4 p3).mono ?_); rintro e w' ⟨rfl, hN24⟩))
      have hc24 := hc23.trans (hN24.mono hc23.size)
      refine ⟨rfl, hc24, ?_⟩
      try rw [hPQ]
      (repeat (refine wpPlan_f rfl ?_; (first | fail | go_big_quiet_step (fail) | (go_big_quiet_want; go_big_quiet_op; refine ⟨_, fun _ _ => rfl, ?_⟩; go_big_quiet_on)); refine wpQuiet_nil ?_))
      have hS24 := hS22.below hc24
      refine wpPlan_o rfl ?_
      go_wp2_with ((go_at_call 21; (with_reducible refine (lives_any _ hS24).mono ?_); rintro e w' ⟨rfl, hN25⟩))
      have hc25 := hc24.trans (hN25.mono hc24.size)
      refine ⟨rfl, hc25, ?_⟩
      (repeat (refine wpPlan_f rfl ?_; (first | fail | go_big_quiet_step (fail) | (go_big_quiet_want; go_big_quiet_op; refine ⟨_, fun _ _ => rfl, ?_⟩; go_big_quiet_on)); refine wpQuiet_nil ?_))
      refine wpPlan_tail ?_
      go_wp2_with fail
      refine onlyN ?_
      go_wp2_with fail
      go_ret
      exact ⟨rfl, hb22.trans (hc25.mono hb22.size)⟩
end Go.Proofs.YtdlhkhnoigbhjaaDoor.Wi
namespace Go.Proofs.YtdlhkhnoigbhjaaDoor.Wi
open Go Go.RowKit Pu Lb
set_option linter.unusedSimpArgs false
set_option linter.unusedVariables false
theorem ones5 {a b c d : Value} (h1 : a.oneCell' = true) (h2 : b.oneCell' = true) (h3 : c.oneCell' = true) (h4 : d.oneCell' = true) : ∀ u ∈ ([a, b, c, d, .slice none 0 0] : List Value), u.oneCell' = true := by
  intro u hu
  simp only [List.mem_cons, List.not_mem_nil, or_false] at hu
  rcases hu with rfl | rfl | rfl | rfl | rfl
  · exact h1
  · exact h2
  · exact h3
  · exact h4
  · rfl
set_option maxRecDepth 100000 in
set_option maxHeartbeats 6400000 in
theorem law_places (l m q0 : List Int) (a : Int) (v1 v2 v3 : Value) (w : World) (hl : ∀ x ∈ l, I64 x) (hm : ∀ x ∈ m, I64 x) (ha : I64 a) (r1 : Rd w 1 v1 l.length (iv l)) (r2 : Rd w 1 v2 m.length (iv m)) (r3 : Rd w 1 v3 q0.length (iv q0)) (hS : ShT w) :
    Calls Tryd.prog 6 #[v1, v2, v3, .int .i64 a] w fun e w' => e = .returned (.bool true) ∧ Below w.heap.size w w' := by
  have HA := Lib.hid ha
  have ZL := gTree_size l
  have ZM := gTree_size m
  obtain ⟨ta, hta⟩ : ∃ t, gTree l = t := ⟨_, rfl⟩
  obtain ⟨tc, htc⟩ : ∃ t, gTree m = t := ⟨_, rfl⟩
  have C1 : ∀ w', Rd w' 1 v1 l.length (iv l) → Calls Tryd.prog 10 #[v1] w' fun e w'' => ∃ cs, e = .returned (.agg cs.toArray) ∧ IsTX (fun b => w'.heap.size ≤ b) w'' ta cs ∧ Below w'.heap.size w' w'' := fun w' h => by rw [← hta]; exact gtree0_any l hl v1 w' h
  have C2 : ∀ w', Rd w' 1 v2 m.length (iv m) → Calls Tryd.prog 10 #[v2] w' fun e w'' => ∃ cs, e = .returned (.agg cs.toArray) ∧ IsTX (fun b => w'.heap.size ≤ b) w'' tc cs ∧ Below w'.heap.size w' w'' := fun w' h => by rw [← htc]; exact gtree0_any m hm v2 w' h
  rw [hta] at ZL
  rw [htc] at ZM
  have ZL3 : tsize ta ≤ 1000000 := by omega
  have ZM3 : tsize tc ≤ 1000000 := by omega
  clear hta htc hl hm ha
  go_enter Tryd.func6, Tryd.ntmps6
  go_upto_region 2 with (first
    | ((go_at_call 10; (with_reducible refine (C1 _ r1).mono ?_); rintro e w' ⟨cs, rfl, hE, hN1⟩); have CL := Lib.hid hE.len; have CO := Lib.hid hE.isT.ones)
    | (((with_reducible refine' wpList_alloc_blk (cs := nodz) 25 rfl ?_ zr_node ?_ ?_); exact rfl; exact nodz_cells; intro w2 k2 hN2 hz2; simp only [Act.put, List.setIfInBounds_toArray, List.set_cons_succ, List.set_cons_zero]))
    | (((with_reducible refine' wpList_store_blk (cs := cs) 25 (.tmp 9) (.tmp 24) rfl ?_ ?_ ?_ k2 sz_node ?_ ?_ ?_ ?_); exact rfl; exact rfl; exact rfl; exact CL.out; exact rfl; exact CO.out; intro w3 k3 hO3 hz3; simp only [Act.put])))
  obtain ⟨A, hA⟩ : ∃ A, w'.heap.size = A := ⟨_, rfl⟩
  have hX3 : IsTX (fun b => w.heap.size ≤ b ∧ b < A) w3 ta cs := by rw [← hA]; exact (hE.lt.below hN2).only hO3 (fun b h => by have := h.2; omega)
  have hs1 := hN1.size
  have l2 := k2.lt
  have hb3 : Below w.heap.size w w3 := (hN1.trans (hN2.mono hs1)).trans (hO3.below hs1 (by omega))
  have s3 := k3.lt
  rw [hA] at k3 s3
  simp only [hA]
  have r23 := r2.below hb3
  have r13 := r1.below hb3
  have r33 := r3.below hb3
  have hx3 := (rd_x r3 (by decide)).keep (Keep.below hb3)
  have hS3 := hS.below hb3
  have hAw : w.heap.size ≤ A := by omega
  clear hz2 hz3 hO3 hN2 hN1 hE k2 l2 hA r1 r2 r3 hS
  go_upto_region 3 with (first
    | ((go_at_call 10; (with_reducible refine (C2 _ r23).mono ?_); rintro e w' ⟨es, rfl, hE, hN4⟩); have EL := Lib.hid hE.len; have EO := Lib.hid hE.isT.ones)
    | (((with_reducible refine' wpList_alloc_blk (cs := nodz) 25 rfl ?_ zr_node ?_ ?_); exact rfl; exact nodz_cells; intro w5 k5 hN5 hz5; simp only [Act.put, List.setIfInBounds_toArray, List.set_cons_succ, List.set_cons_zero]))
    | (((with_reducible refine' wpList_store_blk (cs := es) 25 (.tmp 10) (.tmp 26) rfl ?_ ?_ ?_ k5 sz_node ?_ ?_ ?_ ?_); exact rfl; exact rfl; exact rfl; exact EL.out; exact rfl; exact EO.out; intro w6 k6 hO6 hz6; simp only [Act.put])))
  obtain ⟨B, hB⟩ : ∃ B, w'.heap.size = B := ⟨_, rfl⟩
  have hb36 : Below w3.heap.size w3 w6 := (hN4.trans (hN5.mono hN4.size)).trans (hO6.below hN4.size (Nat.le_trans hN4.size hN5.size))
  have hE6 : IsT w6 tc es := ((hE.lt.below hN5).only hO6 (fun b h => by have := h.2; omega)).isT
  have s6 := k6.lt
  have kA6 := k3.below hb36 s3
  have hX6 := hX3.below hb36
  have r16 := r13.below hb36
  have hx6 := hx3.keep (Keep.below hb36)
  have hS6 := hS3.below hb36
  have hb6 := hb3.trans (hb36.mono hb3.size)
  have hAB : A < B := by have := hN4.size; omega
  rw [hB] at k6 s6
  simp only [hB]
  clear hz5 hz6 hO6 hN5 hN4 hE k5 hb36 k3 hX3 r23 r13 r33 hx3 hS3 hB C2 hb3
  have hT6 := hX6.isT
  go_upto_region 4 with (first
    | ((with_reducible refine' wpList_loadst_blk (.tmp 9) 25 rfl ?_ Tryd.underlying25 ?_ sz_node ?_ kA6 ?_ ?_ ?_); exact rfl; exact rfl; exact rfl; exact CL.out; decide; simp only [Act.put, List.setIfInBounds_toArray, List.set_cons_succ, List.set_cons_zero])
    | ((go_at_call 24; (with_reducible refine (refpaths_any ta cs _ hT6 ZL3).mono ?_); rintro e w' ⟨vp, vs, rfl, op, HP, hN7⟩)))
  have kA7 := kA6.below hN7 kA6.lt
  have hT7 := hT6.below hN7
  have hs7 := hN7.size
  have tl := tpaths_len ta
  have rp : Rd w' 1 vp (tpaths ta).length vs := by rw [tl]; exact Rd.of_own op
  obtain ⟨w7, rfl⟩ : ∃ x : World, x = w' := ⟨_, rfl⟩
  go_upto_if 33 with (first
    | ((with_reducible refine' wpList_loadst_blk (.tmp 9) 25 rfl ?_ Tryd.underlying25 ?_ sz_node ?_ kA7 ?_ ?_ ?_); exact rfl; exact rfl; exact rfl; exact CL.out; decide; simp only [Act.put, List.setIfInBounds_toArray, List.set_cons_succ, List.set_cons_zero])
    | ((go_at_call 27; (with_reducible refine (paths_any ta cs _ hT7 ZL3).mono ?_); rintro e w' ⟨vq, us, rfl, oq, HQ, hN8⟩); have rq : Rd w' 1 vq (tpaths ta).length us := (by rw [tl]; exact Rd.of_own oq); have rp8 := rp.below hN8; have HP8 := HP.below hN8)
    | ((go_at_call 26; (with_reducible refine (samepaths_any (tpaths ta) (tpaths ta) _ _ vq vp us vs _ rq rp8 HQ HP8).mono ?_); rintro e w' ⟨rfl, hN9⟩); rw [show decide (tpaths ta = tpaths ta) = true from decide_eq_true rfl]))
  obtain ⟨w9, rfl⟩ : ∃ x : World, x = w' := ⟨_, rfl⟩
  have b79 := hN8.trans (hN9.mono hN8.size)
  have b69 := hN7.trans (b79.mono hN7.size)
  have rp9 := (Rd.of_own op).below b79
  have HP9 := HP.below b79
  have kA9 := kA7.below b79 kA7.lt
  have kB9 := k6.below b69 s6
  have hX9 := hX6.below b69
  have hE9 := hE6.below b69
  have r19 := r16.below b69
  have hx9 := hx6.keep (Keep.below b69)
  have hS9 := hS6.below b69
  have hb9 := hb6.trans (b69.mono hb6.size)
  have s69 := b69.size
  have hpos := tsize_pos ta
  have IS : I64 (tsize ta : Int) := by unfold I64; omega
  have hl0 : 0 < (tsize ta : Int) := by omega
  obtain ⟨ix, hix⟩ : ∃ ix, aroundV a (tsize ta : Int) = ix := ⟨_, rfl⟩
  have bx := aroundV_bd a (most := (tsize ta : Int)) hl0
  rw [hix] at bx
  have HIX := Lib.hid hix
  obtain ⟨q, rfl⟩ : ∃ q : Nat, ix = (q : Int) := ⟨ix.toNat, by omega⟩
  obtain ⟨p, hp, hpl⟩ := path_at (t := ta) (q := q) (by omega)
  obtain ⟨vo, hv1, hv2, hv3⟩ := HP9.2 q p hp
  have VP := Lib.hid hv1
  have ho9 : RdX (fun b => ¬ (w.heap.size ≤ b ∧ b < A)) w9 1 vo p.length (iv p) := hv3.mono fun b h => by have := h.1; omega
  clear hix hv1 hp hv3 hN7 hN8 hN9 b79 b69 kA6 kA7 k6 hX6 hT6 hT7 hE6 r16 hx6 hS6 hb6 op oq HP HQ HP9 rp rq rp8 HP8
  go_upto_region 7 with (first
    | ((with_reducible refine' wpList_len_rd (.tmp 36) 36 rfl ?_ Tryd.underlying36 ?_ rp9 ?_); exact rfl; exact rfl; simp only [Act.put, List.setIfInBounds_toArray, List.set_cons_succ, List.set_cons_zero])
    | ((go_at_call 14; (with_reducible refine (around_any a _ _ HA.out hl0 IS).mono ?_); rintro e w' ⟨rfl, rfl⟩); rw [HIX.out])
    | ((with_reducible refine' wpList_at1_rd (.tmp 34) (.tmp 38) 36 rfl ?_ Tryd.underlying36 sz_ints ?_ rp9 (q) ?_ ?_ ?_); exact rfl; exact rfl; (show (_ : Int) = _; omega); omega; simp only [Act.put, List.setIfInBounds_toArray, List.set_cons_succ, List.set_cons_zero]) | ((with_reducible refine' wpList_load_rd (.tmp 39) 22 rfl ?_ ld_ints ?_ rp9 (VP.out) ?_); exact rfl; exact rfl; simp only [Act.put, List.setIfInBounds_toArray, List.set_cons_succ, List.set_cons_zero]))
  have OV := Lib.hid hv2
  have ro9 := ho9.1
  have K1 := True.intro
  have K2 := True.intro
  have IVA := Lib.hid (iv_ones p)
  have hp6 : p.length ≤ 1000000 := by omega
  have IVB := Lib.hid (show ∀ u ∈ ([.int .i64 a] : List Value), u.oneCell' = true from iv_ones [a])
  have IVC := Lib.hid (show ∀ u ∈ ([.int .i64 0] : List Value), u.oneCell' = true from iv_ones [0])
  have XO := Lib.hid (X3one hx9.1)
  go_upto_region 8 with (first
    | (((with_reducible refine' wpList_build_nil rfl ?_ Tryd.underlying22 sz_int ?_); exact rfl; intro v10 w10 o10 hN10; simp only [Act.put, List.setIfInBounds_toArray, List.set_cons_succ, List.set_cons_zero]); have MK := K1; clear K1; have ro10 := ro9.below hN10; have sz10 := hN10.size)
    | (((with_reducible refine' wpList_append_rd (.tmp 42) (.tmp 43) 22 rfl ?_ Tryd.underlying22 inf_int ?_ ?_ ?_ o10 ?_ ro10 IVA.out ?_ ?_ sz10 ?_); exact rfl; exact rfl; omega; exact rfl; exact rfl; (first | omega | (unfold maxLen; omega)); omega; intro v11 w11 o11 hb11; simp only [Act.put, List.setIfInBounds_toArray, List.set_cons_succ, List.set_cons_zero]); have sz11 : w10.heap.size ≤ w11.heap.size := hb11.size; rw [Nat.zero_add, List.nil_append] at o11)
    | (((with_reducible refine' wpList_build_own (u := .int .i64 a) (.tmp 45) 22 rfl ?_ Tryd.underlying22 inf_int ?_ ?_ ?_); exact rfl; exact rfl; exact rfl; intro v12 w12 o12 hN12 hz12; simp only [Act.put, List.setIfInBounds_toArray, List.set_cons_succ, List.set_cons_zero]); have o11b := own_below o11 hN12; have r12 := Rd.of_own o12; have sz12 : w9.heap.size ≤ w12.heap.size := (by have := hN12.size; omega))
    | (((with_reducible refine' wpList_append_rd (.tmp 44) (.tmp 46) 22 rfl ?_ Tryd.underlying22 inf_int ?_ ?_ ?_ o11b ?_ r12 IVB.out ?_ ?_ sz12 ?_); exact rfl; exact rfl; omega; exact rfl; exact rfl; (first | omega | (unfold maxLen; omega)); omega; intro v13 w13 o13 hb13; simp only [Act.put, List.setIfInBounds_toArray, List.set_cons_succ, List.set_cons_zero]); have sz13 : w12.heap.size ≤ w13.heap.size := hb13.size; have b93 : Below w9.heap.size w9 w13 := (hN10.trans (hb11.trans ((hN12.mono (by omega)).trans hb13))); have ro13 := ro9.below b93)
    | (((with_reducible refine' wpList_build_nil rfl ?_ Tryd.underlying22 sz_int ?_); exact rfl; intro v14 w14 o14 hN14; simp only [Act.put, List.setIfInBounds_toArray, List.set_cons_succ, List.set_cons_zero]); have MK := K2; clear K2; have ro14 := ro13.below hN14; have sz14 := hN14.size)
    | (((with_reducible refine' wpList_append_rd (.tmp 48) (.tmp 49) 22 rfl ?_ Tryd.underlying22 inf_int ?_ ?_ ?_ o14 ?_ ro14 IVA.out ?_ ?_ sz14 ?_); exact rfl; exact rfl; omega; exact rfl; exact rfl; (first | omega | (unfold maxLen; omega)); omega; intro v15 w15 o15 hb15; simp only [Act.put, List.setIfInBounds_toArray, List.set_cons_succ, List.set_cons_zero]); have sz15 : w14.heap.size ≤ w15.heap.size := hb15.size; rw [Nat.zero_add, List.nil_append] at o15)
    | (((with_reducible refine' wpList_build_own (u := .int .i64 0) (.const (.int .i64 0)) 22 rfl ?_ Tryd.underlying22 inf_int ?_ ?_ ?_); exact rfl; exact rfl; exact rfl; intro v16 w16 o16 hN16 hz16; simp only [Act.put, List.setIfInBounds_toArray, List.set_cons_succ, List.set_cons_zero]); have o15b := own_below o15 hN16; have r16 := Rd.of_own o16; have sz16 : w13.heap.size ≤ w16.heap.size := (by have := hN16.size; omega))
    | (((with_reducible refine' wpList_append_rd (.tmp 50) (.tmp 51) 22 rfl ?_ Tryd.underlying22 inf_int ?_ ?_ ?_ o15b ?_ r16 IVC.out ?_ ?_ sz16 ?_); exact rfl; exact rfl; omega; exact rfl; exact rfl; (first | omega | (unfold maxLen; omega)); omega; intro v17 w17 o17 hb17; simp only [Act.put, List.setIfInBounds_toArray, List.set_cons_succ, List.set_cons_zero]); have sz17 : w16.heap.size ≤ w17.heap.size := hb17.size; have b37 : Below w13.heap.size w13 w17 := (hN14.trans (hb15.trans ((hN16.mono (by omega)).trans hb17))); have o13c := own_below o13 b37; have ON5 := Lib.hid (ones5 OV.out (own_one o13c) (own_one o17) XO.out))
    | (((with_reducible refine' wpList_build_at (cs := [vo, v13, v17, v3, .slice none 0 0]) rfl ?_ Tryd.underlying36 inf_ints ?_ ?_ ?_ ?_ ?_ ?_); exact rfl; exact rfl; omega; omega; exact rfl; exact ON5.out; intro w18 k18 hN18 hz18; simp only [Act.put, List.setIfInBounds_toArray, List.set_cons_succ, List.set_cons_zero])))
  have b913 : Below w9.heap.size w9 w17 := b93.trans (b37.mono b93.size)
  have b918 : Below w9.heap.size w9 w18 := b913.trans (hN18.mono b913.size)
  have b1318 : Below w13.heap.size w13 w18 := b37.trans (hN18.mono b37.size)
  have sz9 := b93.size
  have r5 : Rd w18 1 (.slice (some ⟨w17.heap.size, 0, none⟩) 5 5) 5 _ := k18.rdall 5 1 rfl (by unfold maxLen; omega)
  have P5 : IsPs (fun b => ¬ (w.heap.size ≤ b ∧ b < A)) w18 [p, p ++ [a], p ++ [0], q0, []] [vo, v13, v17, v3, .slice none 0 0] := by
    have h1 := ho9.keep (Keep.below b918)
    have h2 : RdX (fun b => ¬ (w.heap.size ≤ b ∧ b < A)) w18 1 v13 (p ++ [a]).length (iv (p ++ [a])) := ⟨by have := (Rd.of_own o13).below b1318; simpa [iv] using this, fun b hb _ => by have := (o13.lt b hb).1; omega⟩
    have h3 : RdX (fun b => ¬ (w.heap.size ≤ b ∧ b < A)) w18 1 v17 (p ++ [0]).length (iv (p ++ [0])) := ⟨by have := (Rd.of_own o17).below hN18; simpa [iv] using this, fun b hb _ => by have := (o17.lt b hb).1; omega⟩
    have h4 := (hx9.keep (Keep.below b918)).mono (Y := fun b => ¬ (w.heap.size ≤ b ∧ b < A)) (fun b h => by omega)
    exact (IsPs.one OV.out h1).app ((IsPs.one (own_one o13c) h2).app ((IsPs.one (own_one o17) h3).app ((IsPs.one XO.out h4).app out_start)))
  obtain ⟨v5, hv5⟩ : ∃ v, Value.slice (some ⟨w17.heap.size, 0, none⟩) 5 5 = v := ⟨_, rfl⟩
  rw [hv5] at r5 ⊢
  obtain ⟨us5, hus⟩ : ∃ x, [vo, v13, v17, v3, .slice none 0 0] = x := ⟨_, rfl⟩
  rw [hus] at r5 P5
  obtain ⟨qs, hqs⟩ : ∃ x, [p, p ++ [a], p ++ [0], q0, []] = x := ⟨_, rfl⟩
  rw [hqs] at P5
  have Q5 : qs.length = 5 := by rw [← hqs]; rfl
  have kA18 := kA9.below b918 kA9.lt
  have kB18 := kB9.below b918 kB9.lt
  have hX18 := hX9.below b918
  have hE18 := hE9.below b918
  have r118 := r19.below b918
  have hS18 := hS9.below b918
  have hb18 := hb9.trans (b918.mono hb9.size)
  have PH := Lib.hid P5
  have XH := Lib.hid hX18
  have EH := Lib.hid hE18
  clear hv5 hus hqs P5 hX18 hE18 k18 hN18 hz18 b918 b913 b1318 b93 b37 o10 o11 o11b o12 o13 o13c o14 o15 o15b o16 o17 hb11 hb13 hb15 hb17 hN10 hN12 hN14 hN16 hz12 hz16 ro9 ro10 ro13 ro14 r12 r16 ho9 hx9 kA9 kB9 hX9 hE9 r19 hS9 hb9 ON5 OV XO VP rp9 IVA IVB IVC hv2
  go_upto_region 9 with fail
  go_loopw [14] (fun i wr => ∃ j : Nat, j ≤ 5 ∧ i = .int .i64 (j : Int) ∧ Below w18.heap.size w18 wr) (fun i _ => 5 - (intOf i).toNat)
  case atStart => exact ⟨0, by omega, rfl, Below.refl _ _⟩
  case round =>
    obtain ⟨i, hi, rfl, hbi⟩ := hrel
    obtain ⟨wi, rfl⟩ : ∃ wo : World, wo = wr := ⟨_, rfl⟩
    have r5w := r5.below hbi
    by_cases hi5 : i < 5
    · obtain ⟨pi, hpi⟩ : ∃ x, qs[i]? = some x := ⟨_, List.getElem?_eq_getElem (by omega)⟩
      obtain ⟨ui, hu1, hu2, hu3⟩ := PH.out.2 i pi hpi
      have VU := Lib.hid hu1
      have UH := Lib.hid hu3
      have LI : decide ((i : Int) < 5) = true := by rw [decide_eq_true_eq]; omega
      have hTw := (XH.out.below hbi).isT
      have hUw := EH.out.below hbi
      have rqw := hu3.1.below hbi
      have kAw := kA18.below hbi kA18.lt
      have kBw := kB18.below hbi kB18.lt
      obtain ⟨b1, hb1⟩ : ∃ b, (tat pi ta).isSome = b := ⟨_, rfl⟩
      obtain ⟨U1, hU1⟩ : ∃ u, (tat pi ta).getD zT = u := ⟨_, rfl⟩
      obtain ⟨c1, hc1⟩ : ∃ b, setC (tset pi ta tc) = b := ⟨_, rfl⟩
      obtain ⟨U2, hU2⟩ : ∃ u, (tset pi ta tc).getD zT = u := ⟨_, rfl⟩
      have A1 := fun (N : Nat) w h1 h2 => at_rep N pi ta cs ui w h1 h2 ZL3
      have A2 := fun (N : Nat) w h1 h2 => refat_rep N pi ta cs ui w h1 h2
      have A3 := fun (N : Nat) w h1 h2 h3 => set_rep N pi ta tc cs es ui w h1 h2 h3 ZL3 ZM3
      have A4 := fun (N : Nat) w h1 h2 h3 => refset_rep N pi ta tc cs es ui w h1 h2 h3 ZL3
      rw [hb1, hU1] at A1 A2
      rw [hc1, hU2] at A3 A4
      clear hb1 hU1 hc1 hU2 hu1 hu3 hpi
      go_upto_region 11 with (first | ((with_reducible refine' wpList_len_rd (.tmp 56) 36 rfl ?_ Tryd.underlying36 ?_ r5w ?_); exact rfl; exact rfl; simp only [Act.put, List.setIfInBounds_toArray, List.set_cons_succ, List.set_cons_zero]))
      go_cut [15, 16] from 61 to 69 (fun p8 c9 wc => ∃ (B8 : Nat) (es : List Value), p8 = .pointer (some ⟨B8, 0, none⟩) ∧ c9 = .bool b1 ∧ Blk wc B8 25 es ∧ Hid (IsT wc U1 es) ∧ Below wi.heap.size wi wc)
      case first =>
        have hd : Below wi.heap.size wi wi.drew := (Below.refl _ _).drew
        have hTd := (hTw.isTX.lt.mono (Y := fun b => b < wi.heap.size) (fun b h => h.2)).below hd
        have hUd := (hUw.isTX.lt.mono (Y := fun b => b < wi.heap.size) (fun b h => h.2)).below hd
        have rqd := rqw.below hd
        have CAw : ∀ w', Below wi.heap.size wi w' → Blk w' A 25 cs := fun w' h => kAw.below h kAw.lt
        have CBw : ∀ w', Below wi.heap.size wi w' → Blk w' B 25 es := fun w' h => kBw.below h kBw.lt
        (refine wp_region_plan (fun w' => Below wi.heap.size wi w') (.f 0 (.f 1 (.f 2 (.f 3 (.f 4 (.two 5 9 (.f 6 (.f 7 (.f 8 (.o 9 (.o 10 .tail))))) (.o 5 (.f 6 (.f 7 (.f 8 (.o 10 .tail))))))))))) 11 (by kernel_rfl) (by kernel_rfl) (hd) ?_)
        (repeat (refine wpPlan_f rfl ?_; (first | ((with_reducible refine' wpQuietH_loadst_blk (.tmp 9) 25 rfl ?_ Tryd.underlying25 ?_ sz_node ?_ (CAw) ?_ ?_ ?_); exact rfl; exact rfl; exact rfl; exact CL.out; decide; simp only [Act.put, List.setIfInBounds_toArray, List.set_cons_succ, List.set_cons_zero]) | ((with_reducible refine' wpQuietH_loadst_blk (.tmp 10) 25 rfl ?_ Tryd.underlying25 ?_ sz_node ?_ (CBw) ?_ ?_ ?_); exact rfl; exact rfl; exact rfl; exact EL.out; decide; simp only [Act.put, List.setIfInBounds_toArray, List.set_cons_succ, List.set_cons_zero]) | ((with_reducible refine' wpQuiet_at1_rd (.tmp 63) (.tmp 64) 36 rfl ?_ Tryd.underlying36 sz_ints ?_ r5w (i) ?_ ?_ ?_); exact rfl; exact rfl; (show (_ : Int) = _; omega); omega; simp only [Act.put, List.setIfInBounds_toArray, List.set_cons_succ, List.set_cons_zero]) | ((with_reducible refine' wpQuietC_load_rd (cov_below _) (.tmp 65) 22 rfl ?_ ld_ints ?_ r5w (VU.out) ?_); exact rfl; exact rfl; simp only [Act.put, List.setIfInBounds_toArray, List.set_cons_succ, List.set_cons_zero]) | go_big_quiet_step (fail) | (go_big_quiet_want; go_big_quiet_op; refine ⟨_, fun _ _ => rfl, ?_⟩; go_big_quiet_on)); refine wpQuiet_nil ?_))
        refine wpPlan_two rfl rfl ?_ ?_
        · go_wp2_with ((go_at_call 28; (with_reducible refine (A1 _ _ hTd rqd).mono ?_); rintro e w' ⟨fs, rfl, hD, hN5⟩))
          have hN5' : Below wi.heap.size wi w' := hd.trans hN5
          have FL := Lib.hid hD.len
          have FO := Lib.hid hD.isT.ones
          refine ⟨rfl, hN5', ?_⟩
          (repeat (refine wpPlan_f rfl ?_; (first | fail | go_big_quiet_step (fail) | (go_big_quiet_want; go_big_quiet_op; refine ⟨_, fun _ _ => rfl, ?_⟩; go_big_quiet_on)); refine wpQuiet_nil ?_))
          refine wpPlan_o rfl ?_
          go_wp2_with (((with_reducible refine' wpList_alloc_blk (cs := nodz) 25 rfl ?_ zr_node ?_ ?_); exact rfl; exact nodz_cells; intro w6 k8 hN6 hz6; simp only [Act.put, List.setIfInBounds_toArray, List.set_cons_succ, List.set_cons_zero]))
          have s5 := hN5'.size
          have hb6 : Below wi.heap.size wi w6 := hN5'.trans (hN6.mono s5)
          refine ⟨rfl, hb6, ?_⟩
          refine wpPlan_o rfl ?_
          go_wp2_with (((with_reducible refine' wpList_store_blk (cs := fs) 25 (.tmp 15) (.tmp 68) rfl ?_ ?_ ?_ k8 sz_node ?_ ?_ ?_ ?_); exact rfl; exact rfl; exact rfl; exact FL.out; exact rfl; exact FO.out; intro w7 k8b hO7 hz7; simp only [Act.put]))
          have hb7 : Below wi.heap.size wi w7 := hb6.trans (hO7.below s5 hb6.size)
          refine ⟨rfl, hb7, ?_⟩
          refine wpPlan_tail ?_
          go_wp2_with fail
          refine onlyN ?_
          go_wp2_with fail
          go_meet
          case rel => exact ⟨_, fs, rfl, rfl, k8b, Lib.hid ((hD.lt.below hN6).only hO7 (fun b h => by have := h.2; omega)).isT, hb7⟩
        · go_wp2_with (((with_reducible refine' wpList_alloc_blk (cs := nodz) 25 rfl ?_ zr_node ?_ ?_); exact rfl; exact nodz_cells; intro w6 k8 hN6 hz6; simp only [Act.put, List.setIfInBounds_toArray, List.set_cons_succ, List.set_cons_zero]))
          have k8' : Blk w6 wi.heap.size 25 nodz := k8
          have hN6' : Below wi.heap.size wi w6 := hd.trans hN6
          have l8 := k8'.lt
          replace hTd := hTd.below hN6
          replace hUd := hUd.below hN6
          replace rqd := rqd.below hN6
          refine ⟨rfl, hN6', ?_⟩
          refine wpPlan_o rfl ?_
          go_wp2_with ((go_at_call 28; (with_reducible refine (A1 _ _ hTd rqd).mono ?_); rintro e w' ⟨fs, rfl, hD, hN5⟩))
          have FL := Lib.hid hD.len
          have FO := Lib.hid hD.isT.ones
          have s6 := hN6'.size
          have hb5 : Below wi.heap.size wi w' := hN6'.trans (hN5.mono s6)
          refine ⟨rfl, hb5, ?_⟩
          (repeat (refine wpPlan_f rfl ?_; (first | fail | go_big_quiet_step (fail) | (go_big_quiet_want; go_big_quiet_op; refine ⟨_, fun _ _ => rfl, ?_⟩; go_big_quiet_on)); refine wpQuiet_nil ?_))
          refine wpPlan_o rfl ?_
          go_wp2_with (((with_reducible refine' wpList_store_blk (cs := fs) 25 (.tmp 15) (.tmp 68) rfl ?_ ?_ ?_ (k8'.below hN5 l8) sz_node ?_ ?_ ?_ ?_); exact rfl; exact rfl; exact rfl; exact FL.out; exact rfl; exact FO.out; intro w7 k8b hO7 hz7; simp only [Act.put]))
          have hb7 : Below wi.heap.size wi w7 := hb5.trans (hO7.below (Nat.le_refl _) hb5.size)
          refine ⟨rfl, hb7, ?_⟩
          refine wpPlan_tail ?_
          go_wp2_with fail
          refine onlyN ?_
          go_wp2_with fail
          go_meet
          case rel => exact ⟨wi.heap.size, fs, rfl, rfl, k8b, Lib.hid (hD.only hO7 (fun b h => by omega)).isT, hb7⟩
      case rest =>
        obtain ⟨B1, f1, rfl, rfl, k1, T1, hbc⟩ := hcut
        obtain ⟨wa, rfl⟩ : ∃ x : World, x = wc := ⟨_, rfl⟩
        replace r5w := r5w.below hbc
        replace hTw := hTw.below hbc
        replace hUw := hUw.below hbc
        replace rqw := rqw.below hbc
        replace kAw := kAw.below hbc kAw.lt
        replace kBw := kBw.below hbc kBw.lt
        have hb1 := hbi.trans (hbc.mono hbi.size)
        clear hbc
        go_upto_region 12 with fail
        go_cut [17, 18] from 70 to 78 (fun p8 c9 wc => ∃ (B8 : Nat) (es : List Value), p8 = .pointer (some ⟨B8, 0, none⟩) ∧ c9 = .bool b1 ∧ Blk wc B8 25 es ∧ Hid (IsT wc U1 es) ∧ Below wa.heap.size wa wc)
        case first =>
          have hd : Below wa.heap.size wa wa.drew := (Below.refl _ _).drew
          have hTd := (hTw.isTX.lt.mono (Y := fun b => b < wa.heap.size) (fun b h => h.2)).below hd
          have hUd := (hUw.isTX.lt.mono (Y := fun b => b < wa.heap.size) (fun b h => h.2)).below hd
          have rqd := rqw.below hd
          have CAw : ∀ w', Below wa.heap.size wa w' → Blk w' A 25 cs := fun w' h => kAw.below h kAw.lt
          have CBw : ∀ w', Below wa.heap.size wa w' → Blk w' B 25 es := fun w' h => kBw.below h kBw.lt
          (refine wp_region_plan (fun w' => Below wa.heap.size wa w') (.f 0 (.f 1 (.f 2 (.f 3 (.f 4 (.two 5 9 (.f 6 (.f 7 (.f 8 (.o 9 (.o 10 .tail))))) (.o 5 (.f 6 (.f 7 (.f 8 (.o 10 .tail))))))))))) 11 (by kernel_rfl) (by kernel_rfl) (hd) ?_)
          (repeat (refine wpPlan_f rfl ?_; (first | ((with_reducible refine' wpQuietH_loadst_blk (.tmp 9) 25 rfl ?_ Tryd.underlying25 ?_ sz_node ?_ (CAw) ?_ ?_ ?_); exact rfl; exact rfl; exact rfl; exact CL.out; decide; simp only [Act.put, List.setIfInBounds_toArray, List.set_cons_succ, List.set_cons_zero]) | ((with_reducible refine' wpQuietH_loadst_blk (.tmp 10) 25 rfl ?_ Tryd.underlying25 ?_ sz_node ?_ (CBw) ?_ ?_ ?_); exact rfl; exact rfl; exact rfl; exact EL.out; decide; simp only [Act.put, List.setIfInBounds_toArray, List.set_cons_succ, List.set_cons_zero]) | ((with_reducible refine' wpQuiet_at1_rd (.tmp 72) (.tmp 73) 36 rfl ?_ Tryd.underlying36 sz_ints ?_ r5w (i) ?_ ?_ ?_); exact rfl; exact rfl; (show (_ : Int) = _; omega); omega; simp only [Act.put, List.setIfInBounds_toArray, List.set_cons_succ, List.set_cons_zero]) | ((with_reducible refine' wpQuietC_load_rd (cov_below _) (.tmp 74) 22 rfl ?_ ld_ints ?_ r5w (VU.out) ?_); exact rfl; exact rfl; simp only [Act.put, List.setIfInBounds_toArray, List.set_cons_succ, List.set_cons_zero]) | go_big_quiet_step (fail) | (go_big_quiet_want; go_big_quiet_op; refine ⟨_, fun _ _ => rfl, ?_⟩; go_big_quiet_on)); refine wpQuiet_nil ?_))
          refine wpPlan_two rfl rfl ?_ ?_
          · go_wp2_with ((go_at_call 29; (with_reducible refine (A2 _ _ hTd rqd).mono ?_); rintro e w' ⟨fs, rfl, hD, hN5⟩))
            have hN5' : Below wa.heap.size wa w' := hd.trans hN5
            have FL := Lib.hid hD.len
            have FO := Lib.hid hD.isT.ones
            refine ⟨rfl, hN5', ?_⟩
            (repeat (refine wpPlan_f rfl ?_; (first | fail | go_big_quiet_step (fail) | (go_big_quiet_want; go_big_quiet_op; refine ⟨_, fun _ _ => rfl, ?_⟩; go_big_quiet_on)); refine wpQuiet_nil ?_))
            refine wpPlan_o rfl ?_
            go_wp2_with (((with_reducible refine' wpList_alloc_blk (cs := nodz) 25 rfl ?_ zr_node ?_ ?_); exact rfl; exact nodz_cells; intro w6 k8 hN6 hz6; simp only [Act.put, List.setIfInBounds_toArray, List.set_cons_succ, List.set_cons_zero]))
            have s5 := hN5'.size
            have hb6 : Below wa.heap.size wa w6 := hN5'.trans (hN6.mono s5)
            refine ⟨rfl, hb6, ?_⟩
            refine wpPlan_o rfl ?_
            go_wp2_with (((with_reducible refine' wpList_store_blk (cs := fs) 25 (.tmp 17) (.tmp 77) rfl ?_ ?_ ?_ k8 sz_node ?_ ?_ ?_ ?_); exact rfl; exact rfl; exact rfl; exact FL.out; exact rfl; exact FO.out; intro w7 k8b hO7 hz7; simp only [Act.put]))
            have hb7 : Below wa.heap.size wa w7 := hb6.trans (hO7.below s5 hb6.size)
            refine ⟨rfl, hb7, ?_⟩
            refine wpPlan_tail ?_
            go_wp2_with fail
            refine onlyN ?_
            go_wp2_with fail
            go_meet
            case rel => exact ⟨_, fs, rfl, rfl, k8b, Lib.hid ((hD.lt.below hN6).only hO7 (fun b h => by have := h.2; omega)).isT, hb7⟩
          · go_wp2_with (((with_reducible refine' wpList_alloc_blk (cs := nodz) 25 rfl ?_ zr_node ?_ ?_); exact rfl; exact nodz_cells; intro w6 k8 hN6 hz6; simp only [Act.put, List.setIfInBounds_toArray, List.set_cons_succ, List.set_cons_zero]))
            have k8' : Blk w6 wa.heap.size 25 nodz := k8
            have hN6' : Below wa.heap.size wa w6 := hd.trans hN6
            have l8 := k8'.lt
            replace hTd := hTd.below hN6
            replace hUd := hUd.below hN6
            replace rqd := rqd.below hN6
            refine ⟨rfl, hN6', ?_⟩
            refine wpPlan_o rfl ?_
            go_wp2_with ((go_at_call 29; (with_reducible refine (A2 _ _ hTd rqd).mono ?_); rintro e w' ⟨fs, rfl, hD, hN5⟩))
            have FL := Lib.hid hD.len
            have FO := Lib.hid hD.isT.ones
            have s6 := hN6'.size
            have hb5 : Below wa.heap.size wa w' := hN6'.trans (hN5.mono s6)
            refine ⟨rfl, hb5, ?_⟩
            (repeat (refine wpPlan_f rfl ?_; (first | fail | go_big_quiet_step (fail) | (go_big_quiet_want; go_big_quiet_op; refine ⟨_, fun _ _ => rfl, ?_⟩; go_big_quiet_on)); refine wpQuiet_nil ?_))
            refine wpPlan_o rfl ?_
            go_wp2_with (((with_reducible refine' wpList_store_blk (cs := fs) 25 (.tmp 17) (.tmp 77) rfl ?_ ?_ ?_ (k8'.below hN5 l8) sz_node ?_ ?_ ?_ ?_); exact rfl; exact rfl; exact rfl; exact FL.out; exact rfl; exact FO.out; intro w7 k8b hO7 hz7; simp only [Act.put]))
            have hb7 : Below wa.heap.size wa w7 := hb5.trans (hO7.below (Nat.le_refl _) hb5.size)
            refine ⟨rfl, hb7, ?_⟩
            refine wpPlan_tail ?_
            go_wp2_with fail
            refine onlyN ?_
            go_wp2_with fail
            go_meet
            case rel => exact ⟨wa.heap.size, fs, rfl, rfl, k8b, Lib.hid (hD.only hO7 (fun b h => by omega)).isT, hb7⟩
        case rest =>
          obtain ⟨B2, f2, rfl, rfl, k2, T2, hbc⟩ := hcut
          obtain ⟨wb, rfl⟩ : ∃ x : World, x = wc := ⟨_, rfl⟩
          replace r5w := r5w.below hbc
          replace hTw := hTw.below hbc
          replace hUw := hUw.below hbc
          replace rqw := rqw.below hbc
          replace kAw := kAw.below hbc kAw.lt
          replace kBw := kBw.below hbc kBw.lt
          have hb2 := hb1.trans (hbc.mono hb1.size)
          replace k1 := k1.below hbc k1.lt
          have T1' := Lib.hid (T1.out.below hbc)
          clear T1
          have T1 := T1'
          clear T1'
          clear hbc
          go_upto_region 13 with fail
          go_cut [19, 20] from 79 to 88 (fun p8 c9 wc => ∃ (B8 : Nat) (es : List Value), p8 = .pointer (some ⟨B8, 0, none⟩) ∧ c9 = .int .i64 c1 ∧ Blk wc B8 25 es ∧ Hid (IsT wc U2 es) ∧ Below wb.heap.size wb wc)
          case first =>
            have hd : Below wb.heap.size wb wb.drew := (Below.refl _ _).drew
            have hTd := (hTw.isTX.lt.mono (Y := fun b => b < wb.heap.size) (fun b h => h.2)).below hd
            have hUd := (hUw.isTX.lt.mono (Y := fun b => b < wb.heap.size) (fun b h => h.2)).below hd
            have rqd := rqw.below hd
            have CAw : ∀ w', Below wb.heap.size wb w' → Blk w' A 25 cs := fun w' h => kAw.below h kAw.lt
            have CBw : ∀ w', Below wb.heap.size wb w' → Blk w' B 25 es := fun w' h => kBw.below h kBw.lt
            (refine wp_region_plan (fun w' => Below wb.heap.size wb w') (.f 0 (.f 1 (.f 2 (.f 3 (.f 4 (.f 5 (.two 6 10 (.f 7 (.f 8 (.f 9 (.o 10 (.o 11 .tail))))) (.o 6 (.f 7 (.f 8 (.f 9 (.o 11 .tail)))))))))))) 12 (by kernel_rfl) (by kernel_rfl) (hd) ?_)
            (repeat (refine wpPlan_f rfl ?_; (first | ((with_reducible refine' wpQuietH_loadst_blk (.tmp 9) 25 rfl ?_ Tryd.underlying25 ?_ sz_node ?_ (CAw) ?_ ?_ ?_); exact rfl; exact rfl; exact rfl; exact CL.out; decide; simp only [Act.put, List.setIfInBounds_toArray, List.set_cons_succ, List.set_cons_zero]) | ((with_reducible refine' wpQuietH_loadst_blk (.tmp 10) 25 rfl ?_ Tryd.underlying25 ?_ sz_node ?_ (CBw) ?_ ?_ ?_); exact rfl; exact rfl; exact rfl; exact EL.out; decide; simp only [Act.put, List.setIfInBounds_toArray, List.set_cons_succ, List.set_cons_zero]) | ((with_reducible refine' wpQuiet_at1_rd (.tmp 81) (.tmp 82) 36 rfl ?_ Tryd.underlying36 sz_ints ?_ r5w (i) ?_ ?_ ?_); exact rfl; exact rfl; (show (_ : Int) = _; omega); omega; simp only [Act.put, List.setIfInBounds_toArray, List.set_cons_succ, List.set_cons_zero]) | ((with_reducible refine' wpQuietC_load_rd (cov_below _) (.tmp 83) 22 rfl ?_ ld_ints ?_ r5w (VU.out) ?_); exact rfl; exact rfl; simp only [Act.put, List.setIfInBounds_toArray, List.set_cons_succ, List.set_cons_zero]) | go_big_quiet_step (fail) | (go_big_quiet_want; go_big_quiet_op; refine ⟨_, fun _ _ => rfl, ?_⟩; go_big_quiet_on)); refine wpQuiet_nil ?_))
            refine wpPlan_two rfl rfl ?_ ?_
            · go_wp2_with ((go_at_call 30; (with_reducible refine (A3 _ _ hTd hUd rqd).mono ?_); rintro e w' ⟨fs, rfl, hD, hN5⟩))
              have hN5' : Below wb.heap.size wb w' := hd.trans hN5
              have FL := Lib.hid hD.len
              have FO := Lib.hid hD.isT.ones
              refine ⟨rfl, hN5', ?_⟩
              (repeat (refine wpPlan_f rfl ?_; (first | fail | go_big_quiet_step (fail) | (go_big_quiet_want; go_big_quiet_op; refine ⟨_, fun _ _ => rfl, ?_⟩; go_big_quiet_on)); refine wpQuiet_nil ?_))
              refine wpPlan_o rfl ?_
              go_wp2_with (((with_reducible refine' wpList_alloc_blk (cs := nodz) 25 rfl ?_ zr_node ?_ ?_); exact rfl; exact nodz_cells; intro w6 k8 hN6 hz6; simp only [Act.put, List.setIfInBounds_toArray, List.set_cons_succ, List.set_cons_zero]))
              have s5 := hN5'.size
              have hb6 : Below wb.heap.size wb w6 := hN5'.trans (hN6.mono s5)
              refine ⟨rfl, hb6, ?_⟩
              refine wpPlan_o rfl ?_
              go_wp2_with (((with_reducible refine' wpList_store_blk (cs := fs) 25 (.tmp 19) (.tmp 87) rfl ?_ ?_ ?_ k8 sz_node ?_ ?_ ?_ ?_); exact rfl; exact rfl; exact rfl; exact FL.out; exact rfl; exact FO.out; intro w7 k8b hO7 hz7; simp only [Act.put]))
              have hb7 : Below wb.heap.size wb w7 := hb6.trans (hO7.below s5 hb6.size)
              refine ⟨rfl, hb7, ?_⟩
              refine wpPlan_tail ?_
              go_wp2_with fail
              refine onlyN ?_
              go_wp2_with fail
              go_meet
              case rel => exact ⟨_, fs, rfl, rfl, k8b, Lib.hid ((hD.lt.below hN6).only hO7 (fun b h => by have := h.2; omega)).isT, hb7⟩
            · go_wp2_with (((with_reducible refine' wpList_alloc_blk (cs := nodz) 25 rfl ?_ zr_node ?_ ?_); exact rfl; exact nodz_cells; intro w6 k8 hN6 hz6; simp only [Act.put, List.setIfInBounds_toArray, List.set_cons_succ, List.set_cons_zero]))
              have k8' : Blk w6 wb.heap.size 25 nodz := k8
              have hN6' : Below wb.heap.size wb w6 := hd.trans hN6
              have l8 := k8'.lt
              replace hTd := hTd.below hN6
              replace hUd := hUd.below hN6
              replace rqd := rqd.below hN6
              refine ⟨rfl, hN6', ?_⟩
              refine wpPlan_o rfl ?_
              go_wp2_with ((go_at_call 30; (with_reducible refine (A3 _ _ hTd hUd rqd).mono ?_); rintro e w' ⟨fs, rfl, hD, hN5⟩))
              have FL := Lib.hid hD.len
              have FO := Lib.hid hD.isT.ones
              have s6 := hN6'.size
              have hb5 : Below wb.heap.size wb w' := hN6'.trans (hN5.mono s6)
              refine ⟨rfl, hb5, ?_⟩
              (repeat (refine wpPlan_f rfl ?_; (first | fail | go_big_quiet_step (fail) | (go_big_quiet_want; go_big_quiet_op; refine ⟨_, fun _ _ => rfl, ?_⟩; go_big_quiet_on)); refine wpQuiet_nil ?_))
              refine wpPlan_o rfl ?_
              go_wp2_with (((with_reducible refine' wpList_store_blk (cs := fs) 25 (.tmp 19) (.tmp 87) rfl ?_ ?_ ?_ (k8'.below hN5 l8) sz_node ?_ ?_ ?_ ?_); exact rfl; exact rfl; exact rfl; exact FL.out; exact rfl; exact FO.out; intro w7 k8b hO7 hz7; simp only [Act.put]))
              have hb7 : Below wb.heap.size wb w7 := hb5.trans (hO7.below (Nat.le_refl _) hb5.size)
              refine ⟨rfl, hb7, ?_⟩
              refine wpPlan_tail ?_
              go_wp2_with fail
              refine onlyN ?_
              go_wp2_with fail
              go_meet
              case rel => exact ⟨wb.heap.size, fs, rfl, rfl, k8b, Lib.hid (hD.only hO7 (fun b h => by omega)).isT, hb7⟩
          case rest =>
            obtain ⟨B3, f3, rfl, rfl, k3, T3, hbc⟩ := hcut
            obtain ⟨wc3, rfl⟩ : ∃ x : World, x = wc := ⟨_, rfl⟩
            replace r5w := r5w.below hbc
            replace hTw := hTw.below hbc
            replace hUw := hUw.below hbc
            replace rqw := rqw.below hbc
            replace kAw := kAw.below hbc kAw.lt
            replace kBw := kBw.below hbc kBw.lt
            have hb3 := hb2.trans (hbc.mono hb2.size)
            replace k1 := k1.below hbc k1.lt
            have T1' := Lib.hid (T1.out.below hbc)
            clear T1
            have T1 := T1'
            clear T1'
            replace k2 := k2.below hbc k2.lt
            have T2' := Lib.hid (T2.out.below hbc)
            clear T2
            have T2 := T2'
            clear T2'
            clear hbc
            go_upto_region 14 with fail
            go_cut [21, 22] from 89 to 98 (fun p8 c9 wc => ∃ (B8 : Nat) (es : List Value), p8 = .pointer (some ⟨B8, 0, none⟩) ∧ c9 = .int .i64 c1 ∧ Blk wc B8 25 es ∧ Hid (IsT wc U2 es) ∧ Below wc3.heap.size wc3 wc)
            case first =>
              have hd : Below wc3.heap.size wc3 wc3.drew := (Below.refl _ _).drew
              have hTd := (hTw.isTX.lt.mono (Y := fun b => b < wc3.heap.size) (fun b h => h.2)).below hd
              have hUd := (hUw.isTX.lt.mono (Y := fun b => b < wc3.heap.size) (fun b h => h.2)).below hd
              have rqd := rqw.below hd
              have CAw : ∀ w', Below wc3.heap.size wc3 w' → Blk w' A 25 cs := fun w' h => kAw.below h kAw.lt
              have CBw : ∀ w', Below wc3.heap.size wc3 w' → Blk w' B 25 es := fun w' h => kBw.below h kBw.lt
              (refine wp_region_plan (fun w' => Below wc3.heap.size wc3 w') (.f 0 (.f 1 (.f 2 (.f 3 (.f 4 (.f 5 (.two 6 10 (.f 7 (.f 8 (.f 9 (.o 10 (.o 11 .tail))))) (.o 6 (.f 7 (.f 8 (.f 9 (.o 11 .tail)))))))))))) 12 (by kernel_rfl) (by kernel_rfl) (hd) ?_)
              (repeat (refine wpPlan_f rfl ?_; (first | ((with_reducible refine' wpQuietH_loadst_blk (.tmp 9) 25 rfl ?_ Tryd.underlying25 ?_ sz_node ?_ (CAw) ?_ ?_ ?_); exact rfl; exact rfl; exact rfl; exact CL.out; decide; simp only [Act.put, List.setIfInBounds_toArray, List.set_cons_succ, List.set_cons_zero]) | ((with_reducible refine' wpQuietH_loadst_blk (.tmp 10) 25 rfl ?_ Tryd.underlying25 ?_ sz_node ?_ (CBw) ?_ ?_ ?_); exact rfl; exact rfl; exact rfl; exact EL.out; decide; simp only [Act.put, List.setIfInBounds_toArray, List.set_cons_succ, List.set_cons_zero]) | ((with_reducible refine' wpQuiet_at1_rd (.tmp 91) (.tmp 92) 36 rfl ?_ Tryd.underlying36 sz_ints ?_ r5w (i) ?_ ?_ ?_); exact rfl; exact rfl; (show (_ : Int) = _; omega); omega; simp only [Act.put, List.setIfInBounds_toArray, List.set_cons_succ, List.set_cons_zero]) | ((with_reducible refine' wpQuietC_load_rd (cov_below _) (.tmp 93) 22 rfl ?_ ld_ints ?_ r5w (VU.out) ?_); exact rfl; exact rfl; simp only [Act.put, List.setIfInBounds_toArray, List.set_cons_succ, List.set_cons_zero]) | go_big_quiet_step (fail) | (go_big_quiet_want; go_big_quiet_op; refine ⟨_, fun _ _ => rfl, ?_⟩; go_big_quiet_on)); refine wpQuiet_nil ?_))
              refine wpPlan_two rfl rfl ?_ ?_
              · go_wp2_with ((go_at_call 25; (with_reducible refine (A4 _ _ hTd hUd rqd).mono ?_); rintro e w' ⟨fs, rfl, hD, hN5⟩))
                have hN5' : Below wc3.heap.size wc3 w' := hd.trans hN5
                have FL := Lib.hid hD.len
                have FO := Lib.hid hD.isT.ones
                refine ⟨rfl, hN5', ?_⟩
                (repeat (refine wpPlan_f rfl ?_; (first | fail | go_big_quiet_step (fail) | (go_big_quiet_want; go_big_quiet_op; refine ⟨_, fun _ _ => rfl, ?_⟩; go_big_quiet_on)); refine wpQuiet_nil ?_))
                refine wpPlan_o rfl ?_
                go_wp2_with (((with_reducible refine' wpList_alloc_blk (cs := nodz) 25 rfl ?_ zr_node ?_ ?_); exact rfl; exact nodz_cells; intro w6 k8 hN6 hz6; simp only [Act.put, List.setIfInBounds_toArray, List.set_cons_succ, List.set_cons_zero]))
                have s5 := hN5'.size
                have hb6 : Below wc3.heap.size wc3 w6 := hN5'.trans (hN6.mono s5)
                refine ⟨rfl, hb6, ?_⟩
                refine wpPlan_o rfl ?_
                go_wp2_with (((with_reducible refine' wpList_store_blk (cs := fs) 25 (.tmp 21) (.tmp 97) rfl ?_ ?_ ?_ k8 sz_node ?_ ?_ ?_ ?_); exact rfl; exact rfl; exact rfl; exact FL.out; exact rfl; exact FO.out; intro w7 k8b hO7 hz7; simp only [Act.put]))
                have hb7 : Below wc3.heap.size wc3 w7 := hb6.trans (hO7.below s5 hb6.size)
                refine ⟨rfl, hb7, ?_⟩
                refine wpPlan_tail ?_
                go_wp2_with fail
                refine onlyN ?_
                go_wp2_with fail
                go_meet
                case rel => exact ⟨_, fs, rfl, rfl, k8b, Lib.hid ((hD.lt.below hN6).only hO7 (fun b h => by have := h.2; omega)).isT, hb7⟩
              · go_wp2_with (((with_reducible refine' wpList_alloc_blk (cs := nodz) 25 rfl ?_ zr_node ?_ ?_); exact rfl; exact nodz_cells; intro w6 k8 hN6 hz6; simp only [Act.put, List.setIfInBounds_toArray, List.set_cons_succ, List.set_cons_zero]))
                have k8' : Blk w6 wc3.heap.size 25 nodz := k8
                have hN6' : Below wc3.heap.size wc3 w6 := hd.trans hN6
                have l8 := k8'.lt
                replace hTd := hTd.below hN6
                replace hUd := hUd.below hN6
                replace rqd := rqd.below hN6
                refine ⟨rfl, hN6', ?_⟩
                refine wpPlan_o rfl ?_
                go_wp2_with ((go_at_call 25; (with_reducible refine (A4 _ _ hTd hUd rqd).mono ?_); rintro e w' ⟨fs, rfl, hD, hN5⟩))
                have FL := Lib.hid hD.len
                have FO := Lib.hid hD.isT.ones
                have s6 := hN6'.size
                have hb5 : Below wc3.heap.size wc3 w' := hN6'.trans (hN5.mono s6)
                refine ⟨rfl, hb5, ?_⟩
                (repeat (refine wpPlan_f rfl ?_; (first | fail | go_big_quiet_step (fail) | (go_big_quiet_want; go_big_quiet_op; refine ⟨_, fun _ _ => rfl, ?_⟩; go_big_quiet_on)); refine wpQuiet_nil ?_))
                refine wpPlan_o rfl ?_
                go_wp2_with (((with_reducible refine' wpList_store_blk (cs := fs) 25 (.tmp 21) (.tmp 97) rfl ?_ ?_ ?_ (k8'.below hN5 l8) sz_node ?_ ?_ ?_ ?_); exact rfl; exact rfl; exact rfl; exact FL.out; exact rfl; exact FO.out; intro w7 k8b hO7 hz7; simp only [Act.put]))
                have hb7 : Below wc3.heap.size wc3 w7 := hb5.trans (hO7.below (Nat.le_refl _) hb5.size)
                refine ⟨rfl, hb7, ?_⟩
                refine wpPlan_tail ?_
                go_wp2_with fail
                refine onlyN ?_
                go_wp2_with fail
                go_meet
                case rel => exact ⟨wc3.heap.size, fs, rfl, rfl, k8b, Lib.hid (hD.only hO7 (fun b h => by omega)).isT, hb7⟩
            case rest =>
              obtain ⟨B4, f4, rfl, rfl, k4, T4, hbc⟩ := hcut
              obtain ⟨wd, rfl⟩ : ∃ x : World, x = wc := ⟨_, rfl⟩
              replace r5w := r5w.below hbc
              replace hTw := hTw.below hbc
              replace hUw := hUw.below hbc
              replace rqw := rqw.below hbc
              replace kAw := kAw.below hbc kAw.lt
              replace kBw := kBw.below hbc kBw.lt
              have hb4 := hb3.trans (hbc.mono hb3.size)
              replace k1 := k1.below hbc k1.lt
              have T1' := Lib.hid (T1.out.below hbc)
              clear T1
              have T1 := T1'
              clear T1'
              replace k2 := k2.below hbc k2.lt
              have T2' := Lib.hid (T2.out.below hbc)
              clear T2
              have T2 := T2'
              clear T2'
              replace k3 := k3.below hbc k3.lt
              have T3' := Lib.hid (T3.out.below hbc)
              clear T3
              have T3 := T3'
              clear T3'
              clear hbc
              have S1 : (tcmp U1 U1 == 0) = true := by rw [tcmp_self]; rfl
              have S2 : (tcmp U2 U2 == 0) = true := by rw [tcmp_self]; rfl
              have NB : (b1 != b1) = false := by cases b1 <;> rfl
              have hd : Below wd.heap.size wd wd.drew := (Below.refl _ _).drew
              have CAw : ∀ w', Below wd.heap.size wd w' → Blk w' A 25 cs := fun w' h => kAw.below h kAw.lt
              have C1w : ∀ w', Below wd.heap.size wd w' → Blk w' B1 25 f1 := fun w' h => k1.below h k1.lt
              have C2w : ∀ w', Below wd.heap.size wd w' → Blk w' B2 25 f2 := fun w' h => k2.below h k2.lt
              have C3w : ∀ w', Below wd.heap.size wd w' → Blk w' B3 25 f3 := fun w' h => k3.below h k3.lt
              have C4w : ∀ w', Below wd.heap.size wd w' → Blk w' B4 25 f4 := fun w' h => k4.below h k4.lt
              have F1 := Lib.hid T1.out.len
              have F2 := Lib.hid T2.out.len
              have F3 := Lib.hid T3.out.len
              have F4 := Lib.hid T4.out.len
              have hXd := (XH.out.below hb4).below hd
              have hUpd := UH.out.keep ((Keep.below hb4))
              obtain ⟨jx, hjx⟩ : ∃ z, idxI (tindex pi ta) = z := ⟨_, rfl⟩
              have IX1 := fun (W : World) (h1 : IsTX (fun b => w.heap.size ≤ b ∧ b < A) W ta cs) (h2 : RdX (fun b => ¬ (w.heap.size ≤ b ∧ b < A)) W 1 ui pi.length (iv pi)) => index_any ta cs pi ui _ _ W h1 h2 (fun b h => h) ZL3
              have IX2 := fun (W : World) (h1 : IsT W ta cs) (h2 : Rd W 1 ui pi.length (iv pi)) => refindex_any pi ta cs ui W h1 h2 ZL3
              rw [hjx] at IX1 IX2
              clear hjx A1 A2 A3 A4
              go_upto_region 15 with fail
              (refine wp_region_plan (fun w' => Below wd.heap.size wd w') (.f 0 (.f 1 (.f 2 (.f 3 (.f 4 (.f 5 (.f 6 (.f 7 (.f 8 (.f 9 (.f 10 (.o 11 (.f 12 (.f 13 (.f 14 (.f 15 (.f 16 (.o 17 (.f 18 (.f 19 (.f 20 (.f 21 (.f 22 (.f 23 (.f 24 (.f 25 (.f 27 (.f 28 (.f 29 (.f 30 (.f 31 (.o 26 (.o 32 (.f 33 (.f 34 .tail))))))))))))))))))))))))))))))))))) 35 (by kernel_rfl) (by kernel_rfl) (hd) ?_)
              (repeat (refine wpPlan_f rfl ?_; (first | ((with_reducible refine' wpQuietH_loadst_blk (.tmp 15) 25 rfl ?_ Tryd.underlying25 ?_ sz_node ?_ (C1w) ?_ ?_ ?_); exact rfl; exact rfl; exact rfl; exact F1.out; decide; simp only [Act.put, List.setIfInBounds_toArray, List.set_cons_succ, List.set_cons_zero]) | ((with_reducible refine' wpQuietH_loadst_blk (.tmp 17) 25 rfl ?_ Tryd.underlying25 ?_ sz_node ?_ (C2w) ?_ ?_ ?_); exact rfl; exact rfl; exact rfl; exact F2.out; decide; simp only [Act.put, List.setIfInBounds_toArray, List.set_cons_succ, List.set_cons_zero]) | go_big_quiet_step (fail) | (go_big_quiet_want; go_big_quiet_op; refine ⟨_, fun _ _ => rfl, ?_⟩; go_big_quiet_on)); refine wpQuiet_nil ?_))
              refine wpPlan_o rfl ?_
              have q1 := T1.out.below hd
              have q2 := T2.out.below hd
              go_wp2_with ((go_at_call 31; (with_reducible refine (refsame_any U1 U1 f1 f2 _ q1 q2).mono ?_); rintro e w' ⟨rfl, hN21⟩); rw [S1])
              have hc21 := hd.trans hN21
              refine ⟨rfl, hc21, ?_⟩
              (repeat (refine wpPlan_f rfl ?_; (first | ((with_reducible refine' wpQuietH_loadst_blk (.tmp 19) 25 rfl ?_ Tryd.underlying25 ?_ sz_node ?_ (C3w) ?_ ?_ ?_); exact rfl; exact rfl; exact rfl; exact F3.out; decide; simp only [Act.put, List.setIfInBounds_toArray, List.set_cons_succ, List.set_cons_zero]) | ((with_reducible refine' wpQuietH_loadst_blk (.tmp 21) 25 rfl ?_ Tryd.underlying25 ?_ sz_node ?_ (C4w) ?_ ?_ ?_); exact rfl; exact rfl; exact rfl; exact F4.out; decide; simp only [Act.put, List.setIfInBounds_toArray, List.set_cons_succ, List.set_cons_zero]) | go_big_quiet_step (fail) | (go_big_quiet_want; go_big_quiet_op; refine ⟨_, fun _ _ => rfl, ?_⟩; go_big_quiet_on)); refine wpQuiet_nil ?_))
              refine wpPlan_o rfl ?_
              have q3 := T3.out.below hc21
              have q4 := T4.out.below hc21
              go_wp2_with ((go_at_call 31; (with_reducible refine (refsame_any U2 U2 f3 f4 _ q3 q4).mono ?_); rintro e w' ⟨rfl, hN22⟩); rw [S2])
              have hc22 := hc21.trans (hN22.mono hc21.size)
              refine ⟨rfl, hc22, ?_⟩
              (repeat (refine wpPlan_f rfl ?_; (first | ((with_reducible refine' wpQuietH_loadst_blk (.tmp 9) 25 rfl ?_ Tryd.underlying25 ?_ sz_node ?_ (CAw) ?_ ?_ ?_); exact rfl; exact rfl; exact rfl; exact CL.out; decide; simp only [Act.put, List.setIfInBounds_toArray, List.set_cons_succ, List.set_cons_zero]) | ((with_reducible refine' wpQuiet_at1_rd (.tmp 121) (.tmp 122) 36 rfl ?_ Tryd.underlying36 sz_ints ?_ r5w (i) ?_ ?_ ?_); exact rfl; exact rfl; (show (_ : Int) = _; omega); omega; simp only [Act.put, List.setIfInBounds_toArray, List.set_cons_succ, List.set_cons_zero]) | ((with_reducible refine' wpQuietC_load_rd (cov_below _) (.tmp 123) 22 rfl ?_ ld_ints ?_ r5w (VU.out) ?_); exact rfl; exact rfl; simp only [Act.put, List.setIfInBounds_toArray, List.set_cons_succ, List.set_cons_zero]) | ((with_reducible refine' wpQuiet_at1_rd (.tmp 127) (.tmp 128) 36 rfl ?_ Tryd.underlying36 sz_ints ?_ r5w (i) ?_ ?_ ?_); exact rfl; exact rfl; (show (_ : Int) = _; omega); omega; simp only [Act.put, List.setIfInBounds_toArray, List.set_cons_succ, List.set_cons_zero]) | ((with_reducible refine' wpQuietC_load_rd (cov_below _) (.tmp 129) 22 rfl ?_ ld_ints ?_ r5w (VU.out) ?_); exact rfl; exact rfl; simp only [Act.put, List.setIfInBounds_toArray, List.set_cons_succ, List.set_cons_zero]) | go_big_quiet_step (fail) | (go_big_quiet_want; go_big_quiet_op; refine ⟨_, fun _ _ => rfl, ?_⟩; go_big_quiet_on)); refine wpQuiet_nil ?_))
              refine wpPlan_o rfl ?_
              have q5 := (XH.out.below hb4).below hc22
              have q6 := hUpd.keep (Keep.below hc22)
              go_wp2_with ((go_at_call 32; (with_reducible refine (IX1 _ q5 q6).mono ?_); rintro e w' ⟨rfl, hN23⟩))
              have hc23 := hc22.trans (hN23.mono hc22.size)
              refine ⟨rfl, hc23, ?_⟩
              refine wpPlan_o rfl ?_
              have q7 := hTw.below hc23
              have q8 := rqw.below hc23
              go_wp2_with ((go_at_call 33; (with_reducible refine (IX2 _ q7 q8).mono ?_); rintro e w' ⟨rfl, hN24⟩))
              have hc24 := hc23.trans (hN24.mono hc23.size)
              refine ⟨rfl, hc24, ?_⟩
              (repeat (refine wpPlan_f rfl ?_; (first | fail | go_big_quiet_step (fail) | (go_big_quiet_want; go_big_quiet_op; refine ⟨_, fun _ _ => rfl, ?_⟩; go_big_quiet_on)); refine wpQuiet_nil ?_))
              refine wpPlan_tail ?_
              go_wp2_with fail
              refine onlyN ?_
              have hb5 := hb4.trans (hc24.mono hb4.size)
              go_wp2_with fail
              go_roundw
              case rel => (first | exact ⟨i + 1, by omega, by go_num, hb5⟩ | ((repeat apply Exists.intro); exact ⟨⟨i + 1, by omega, by go_num, hb5⟩, rfl⟩))
              case measure => simp [intOf]; omega
    · obtain rfl : i = 5 := by omega
      have hTw := (XH.out.below hbi).isT
      have kAw := kA18.below hbi kA18.lt
      have r1w := r118.below hbi
      have hSw := hS18.below hbi
      have hbw := hb18.trans (hbi.mono hb18.size)
      have S1 : (tcmp ta ta == 0) = true := by rw [tcmp_self]; rfl
      have hd : Below wi.heap.size wi wi.drew := (Below.refl _ _).drew
      have CAw : ∀ w', Below wi.heap.size wi w' → Blk w' A 25 cs := fun w' h => kAw.below h kAw.lt
      go_upto_region 17 with (first | ((with_reducible refine' wpList_len_rd (.tmp 56) 36 rfl ?_ Tryd.underlying36 ?_ r5w ?_); exact rfl; exact rfl; simp only [Act.put, List.setIfInBounds_toArray, List.set_cons_succ, List.set_cons_zero]))
      (refine wp_region_plan (fun w' => Below wi.heap.size wi w') (.f 0 (.f 1 (.o 2 (.o 3 (.f 4 (.o 5 (.f 6 .tail))))))) 7 (by kernel_rfl) (by kernel_rfl) (hd) ?_)
      (repeat (refine wpPlan_f rfl ?_; (first | ((with_reducible refine' wpQuietH_loadst_blk (.tmp 9) 25 rfl ?_ Tryd.underlying25 ?_ sz_node ?_ (CAw) ?_ ?_ ?_); exact rfl; exact rfl; exact rfl; exact CL.out; decide; simp only [Act.put, List.setIfInBounds_toArray, List.set_cons_succ, List.set_cons_zero]) | go_big_quiet_step (fail) | (go_big_quiet_want; go_big_quiet_op; refine ⟨_, fun _ _ => rfl, ?_⟩; go_big_quiet_on)); refine wpQuiet_nil ?_))
      refine wpPlan_o rfl ?_
      have q1 := r1w.below hd
      go_wp2_with ((go_at_call 10; (with_reducible refine (C1 _ q1).mono ?_); rintro e w' ⟨gs, rfl, hG, hN21⟩))
      have hc21 := hd.trans hN21
      refine ⟨rfl, hc21, ?_⟩
      refine wpPlan_o rfl ?_
      have q2 := hTw.below hc21
      have q3 := hG.isT
      go_wp2_with ((go_at_call 31; (with_reducible refine (refsame_any ta ta cs gs _ q2 q3).mono ?_); rintro e w' ⟨rfl, hN22⟩); rw [S1])
      have hc22 := hc21.trans (hN22.mono hc21.size)
      refine ⟨rfl, hc22, ?_⟩
      (repeat (refine wpPlan_f rfl ?_; (first | fail | go_big_quiet_step (fail) | (go_big_quiet_want; go_big_quiet_op; refine ⟨_, fun _ _ => rfl, ?_⟩; go_big_quiet_on)); refine wpQuiet_nil ?_))
      refine wpPlan_o rfl ?_
      have q4 := hSw.below hc22
      go_wp2_with ((go_at_call 21; (with_reducible refine (lives_any _ q4).mono ?_); rintro e w' ⟨rfl, hN23⟩))
      have hc23 := hc22.trans (hN23.mono hc22.size)
      refine ⟨rfl, hc23, ?_⟩
      (repeat (refine wpPlan_f rfl ?_; (first | fail | go_big_quiet_step (fail) | (go_big_quiet_want; go_big_quiet_op; refine ⟨_, fun _ _ => rfl, ?_⟩; go_big_quiet_on)); refine wpQuiet_nil ?_))
      refine wpPlan_tail ?_
      go_wp2_with fail
      refine onlyN ?_
      go_wp2_with fail
      go_ret
      exact ⟨rfl, hbw.trans (hc23.mono hbw.size)⟩
end Go.Proofs.YtdlhkhnoigbhjaaDoor.Wi
namespace Go.Proofs.YtdlhkhnoigbhjaaDoor.treePlaces
open Go.ChangeShapes Go.WideShapes Go.ChangeAt Go.RowKit
open Go.Proofs.YtdlhkhnoigbhjaaDoor.Wi Go.Proofs.YtdlhkhnoigbhjaaDoor.Pu Go.Proofs.YtdlhkhnoigbhjaaDoor.Lb
set_option linter.unusedVariables false

theorem own : ownKnob Tryd.prog.godebug = none := by kernel_rfl
theorem laidOut : laidOutB Tryd.prog = true := by kernel_rfl

set_option maxRecDepth 100000 in
theorem lifted (os : Os) (started : os.Started) (H : Type) (enc : TypeId × Value → H) :
    ReturnsInHanded {} Tryd.checked os 6 .any (fun w args => (Rows.treePlacesSpec.pre enc Tryd.prog Tryd.f6 [] false w args ∧ laidMetH Tryd.prog lT w) ∧ sizedMet enc Tryd.prog Tryd.f6 (OpenSpec.ofChange Rows.treePlacesSpec) false w args) (Rows.treePlacesSpec.post enc Tryd.prog Tryd.f6 false true false false) := by
  refine returnsInHanded_of_change_and (C := Tryd.checked) (X := fun w _ => laidMetH Tryd.prog lT w) (fun _ _ _ hh h => h.of_heap hh) own started (by kernel_rfl) Tryd.func6
    (ChangeSpec.witness_shaped (enc := enc) (C := Tryd.checked) (os := os) (X := fun w _ => laidMetH Tryd.prog lT w) false (World.doorLaid Tryd.prog 4000 os) #[.slice none 0 0, .slice none 0 0, .slice none 0 0, .int .i64 0] 8 rfl (World.shaped_of_RefB (by kernel_rfl) (by kernel_rfl)) (by kernel_rfl) (by kernel_rfl) (by kernel_rfl) (doorT os _)) ?_
  intro W base args ds gs before hval0 hW hcnd hk hL _
  have hT := sh_of hL
  have hval : ∀ (j : Nat) t v, Tryd.f6.params[j]? = some t → args[j]? = some v → Value.okWide Tryd.prog W .any base t v := hval0
  have hW' := hW
  obtain ⟨p, q, hA0, hV, rfl, hfz, hnd⟩ := hW
  have hA : DataW.TrodAll enc Tryd.prog W 0 (fun _ => true) true Tryd.f6.params.toList args.toList ds p := hA0
  rw [Tryd.params6] at hA hval
  obtain ⟨v0, vs0, d0, ds0, p0, q0, hargs, rfl, rfl, h0, t0⟩ := trodAll_cons hA
  obtain ⟨v1, vs1, d1, ds1, p1, q1, rfl, rfl, rfl, h1, t1⟩ := trodAll_cons t0
  obtain ⟨v2, vs2, d2, ds2, p2, q2, rfl, rfl, rfl, h2, t2⟩ := trodAll_cons t1
  obtain ⟨v3, vs3, d3, ds3, p3, q3, rfl, rfl, rfl, h3, t3⟩ := trodAll_cons t2
  obtain ⟨rfl, rfl, rfl⟩ := trodAll_nil t3
  obtain rfl : args = #[v0, v1, v2, v3] := by cases args; simp_all
  obtain ⟨rfl, rfl⟩ := trodVars_none hV
  clear hA0 hval0
  have b0 : ∀ x ∈ p0, x.block < W.heap.size := by obtain ⟨m, hm⟩ := h0; exact DataW.trod_lt m _ _ _ hm
  have k0 := h0
  have b1 : ∀ x ∈ p1, x.block < W.heap.size := by obtain ⟨m, hm⟩ := h1; exact DataW.trod_lt m _ _ _ hm
  have k1 := h1
  have b2 : ∀ x ∈ p2, x.block < W.heap.size := by obtain ⟨m, hm⟩ := h2; exact DataW.trod_lt m _ _ _ hm
  have k2 := h2
  have b3 : ∀ x ∈ p3, x.block < W.heap.size := by obtain ⟨m, hm⟩ := h3; exact DataW.trod_lt m _ _ _ hm
  have k3 := h3
  obtain ⟨l0, ok0, r0, e0⟩ := op_ints Tryd.underlying22 Tryd.underlying3 (by kernel_rfl) (hval 0 22 v0 rfl rfl) h0
  have n0 := sized_elems hk (j := 0) rfl rfl Tryd.underlying22 e0 (b := 8) (by kernel_rfl)
  obtain ⟨l1, ok1, r1, e1⟩ := op_ints Tryd.underlying22 Tryd.underlying3 (by kernel_rfl) (hval 1 22 v1 rfl rfl) h1
  have n1 := sized_elems hk (j := 1) rfl rfl Tryd.underlying22 e1 (b := 8) (by kernel_rfl)
  obtain ⟨l2, ok2, r2, e2⟩ := op_ints Tryd.underlying22 Tryd.underlying3 (by kernel_rfl) (hval 2 22 v2 rfl rfl) h2
  have n2 := sized_elems hk (j := 2) rfl rfl Tryd.underlying22 e2 (b := 8) (by kernel_rfl)
  obtain ⟨z3, rfl, wf3⟩ := op_int Tryd.underlying3 (hval 3 3 v3 rfl rfl) h3
  have walk : Calls Tryd.prog 6 #[v0, v1, v2, .int .i64 z3] W fun e w' => e = .returned (.bool true) ∧ Below W.heap.size W w' := by
    exact law_places l0 l1 l2 z3 v0 v1 v2 W ok0 ok1 (wf_i64 wf3) r0 r1 r2 hT
  refine walk.mono fun e W' ⟨he, bel⟩ => ?_
  subst he
  exact ⟨_, rfl, _, _, _, [], _, [], hW', trodAll_mk1 (shut_bool Tryd.underlying4 _), (trodAll_cons_mk (Below.trod laidOut (by kernel_rfl) (of_decide_eq_true (by kernel_rfl)) k0 bel b0) (trodAll_cons_mk (Below.trod laidOut (by kernel_rfl) (of_decide_eq_true (by kernel_rfl)) k1 bel b1) (trodAll_cons_mk (Below.trod laidOut (by kernel_rfl) (of_decide_eq_true (by kernel_rfl)) k2 bel b2) (trodAll_cons_mk (Below.trod laidOut (by kernel_rfl) (of_decide_eq_true (by kernel_rfl)) k3 bel b3) trodAll_mk0)))), rfl, bel.frame _, fun h => by cases h⟩

theorem over : Rows.treePlacesRow.holds Tryd.pinned (OpenSpec.ofChange Rows.treePlacesSpec) :=
  OpenClaim.holds_of_wide 6 Tryd.f6 rfl rfl rfl rfl rfl rfl rfl ⟨rfl, rfl, rfl, rfl, rfl⟩ rfl rfl rfl rfl rfl (by kernel_rfl) Tryd.func6 (by kernel_rfl)
    (of_decide_eq_true (by kernel_rfl)) (by unfold Func.isWrapper; first | (rw [if_pos (by decide +kernel)]; kernel_rfl) | (rw [if_neg (by decide +kernel)]; exact ⟨rfl, rfl⟩))
    (fun os started H enc _ => lifted os started H enc)

theorem proved : Rows.TreePlacesCardSaid :=
  Claim7.holds_tied_plain_at .later [] [.widerDeep] true (true, _) false
    over (fun _ h => by cases h) (by kernel_rfl) (fun _ h => by cases h) treePlaces_row_tie rfl ⟨rfl, rfl⟩ (by kernel_rfl) rfl
    (fun f fn hf hfn => by
      obtain rfl : f = 6 := Option.some.inj ((show Tryd.prog.funcNamed "scoria/scorialaw05.TreePlaces" = some 6 by kernel_rfl).symm.trans hf) |>.symm
      obtain rfl : fn = Tryd.f6 := (Option.some.inj (Tryd.func6.symm.trans hfn)).symm
      exact ⟨by kernel_rfl, fun j t ht => by
        rw [Tryd.params6] at ht
        have hm : t ∈ [22, 22, 22, 3] := by simpa using Array.mem_of_getElem? ht
        have hall : ([22, 22, 22, 3].all fun u => !Tryd.prog.wantsStandIn u) = true := by kernel_rfl
        exact (show Tryd.prog.wantsStandIn t = false by simpa using List.all_eq_true.1 hall t hm)⟩)
    (by kernel_rfl)
#print axioms proved
end Go.Proofs.YtdlhkhnoigbhjaaDoor.treePlaces
