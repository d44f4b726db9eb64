/-
  Tvk, Tvl, Gtvl: my texts of these names, one behind the other. Conditions: those that each law names.
-/
import Derived.Test.YtdlhkhnoigbhjaaDoorMo
import Derived.Test.YtdlhkhnoigbhjaaDoorMk
import Derived.Test.YtdlhkhnoigbhjaaDoorMi
import Derived.Test.YtdlhkhnoigbhjaaDoorMh
import Derived.Test.YtdlhkhnoigbhjaaDoorMa
import Derived.WalkKit
import Derived.ProofKit
import Derived.OpenShut
import Derived.ShutString
import Derived.JoinedCond
import Derived.SizedLaws
import Derived.Deep.CondSized
import Derived.Test.YtdlhkhnoigbhjaaDoorTie
import Derived.Test.YtdlhkhnoigbhjaaDoorCards
import Derived.SevenTiedAt
import Derived.Stop.Joined
import Derived.LaidMore
import Derived.WideKeyPair
namespace Go.Proofs.YtdlhkhnoigbhjaaDoor.Pu
theorem prog_shape {t : Tree} (h : tfits t 0 = true) : ∃ n m ts n0 m0 us, t = .mk 27 n m ts ∧ ts[0]? = some (.mk 26 n0 m0 us) ∧ 1 ≤ ts.length ∧ ts.length ≤ 6 ∧ 1 ≤ us.length ∧ us.length ≤ 7 := by
  obtain ⟨k, n, m, ts⟩ := t
  by_cases hk : k = 27
  · subst hk
    rw [tfits_prog, Bool.and_eq_true] at h
    obtain ⟨hb, ht⟩ := h
    have hl : 1 ≤ ts.length ∧ ts.length ≤ 6 := by simp only [btw, Bool.and_eq_true, decide_eq_true_eq] at hb; omega
    obtain ⟨t0, h0⟩ : ∃ t0, ts[0]? = some t0 := ⟨_, List.getElem?_eq_getElem (by omega)⟩
    have hf := (tall_iff 1 ts).1 ht t0 (List.mem_of_getElem? h0)
    obtain ⟨k0, n0, m0, us⟩ := t0
    by_cases hk0 : k0 = 26
    · subst hk0
      rw [tfits_fun, Bool.and_eq_true] at hf
      have hu : 1 ≤ us.length ∧ us.length ≤ 7 := by have h1 := hf.1; simp only [btw, Bool.and_eq_true, decide_eq_true_eq] at h1; omega
      exact ⟨n, m, ts, n0, m0, us, rfl, h0, hl.1, hl.2, hu.1, hu.2⟩
    · rw [tfits_fno k0 n0 m0 us hk0] at hf; cases hf
  · rw [tfits_pno k n m ts hk] at h; cases h
theorem tsizes_rep (ts : List Tree) (t : Tree) : ∀ j, tsizes (ts ++ List.replicate j t) = tsizes ts + j * tsize t
  | 0 => by simp
  | j + 1 => by rw [List.replicate_succ', ← List.append_assoc, tsizes_snoc, tsizes_rep ts t j, Nat.succ_mul]; omega
end Go.Proofs.YtdlhkhnoigbhjaaDoor.Pu
namespace Go.Proofs.YtdlhkhnoigbhjaaDoor.Lb
open Go Go.RowKit Pu
theorem put_upto {cur cs : List Value} {f N : Nat} (h : f + cs.length ≤ N) (hN : N ≤ cur.length) : (put cur f cs).take N = put (cur.take N) f cs := by
  unfold put
  have e1 : (cur.take f ++ cs).length = f + cs.length := by rw [List.length_append, List.length_take]; omega
  rw [List.take_append, List.take_of_length_le (by omega), e1, List.take_take, Nat.min_eq_left (by omega), List.drop_take]
theorem own_block {w : World} {base : Nat} {e : TypeId} {s : Nat} {v : Value} {n : Nat} {xs : List Value} (h : w.ownsRow base e s v n xs) (hn : 0 < n) :
    ∃ (g : Nat) (cur : List Value), base ≤ g ∧ v.ownBlock = some g ∧ (∀ k, ep v k = .pointer (some ⟨g, k, none⟩)) ∧ Blk w g e cur ∧ n * s ≤ cur.length ∧
      ∀ (f : Nat) (cs : List Value) (w' : World), f + cs.length ≤ n * s → Blk w' g e (put cur f cs) → w'.ownsRow base e s v n (put xs f cs) := by
  obtain ⟨hl, h⟩ := h
  rcases h with ⟨_, h0⟩ | ⟨g, cap, cur, rfl, hb, hg, h1, h2, h3, h4⟩
  · omega
  · have hcl : cur.toList.length = cap * s := by rw [Array.length_toList]; exact h3
    have hle : n * s ≤ cap * s := Nat.mul_le_mul_right _ h1
    refine ⟨g, cur.toList, hb, rfl, fun k => by simp [ep, Addr.add]; intro h; exact h.symm, by unfold Blk; simpa using hg, by omega, fun f cs w' hf hw => ?_⟩
    refine ⟨by rw [put_len (by omega)]; exact hl, .inr ⟨g, cap, (put cur.toList f cs).toArray, rfl, hb, hw, h1, h2, by simp [put_len (show f + cs.length ≤ cur.toList.length by omega), h3], ?_⟩⟩
    rw [← h4]
    exact put_upto (by omega) (by omega)
end Go.Proofs.YtdlhkhnoigbhjaaDoor.Lb
namespace Go.Proofs.YtdlhkhnoigbhjaaDoor.Wi
open Go Go.RowKit Pu Lb
set_option linter.unusedSimpArgs false
set_option linter.unusedVariables false
theorem node4 (k n m : Int) (v : Value) (hv : v.oneCell' = true) : ∀ u ∈ ([.int .i64 k, .int .i64 n, .int .i64 m, v] : List Value), u.oneCell' = true := by
  intro u hu
  simp only [List.mem_cons, List.not_mem_nil, or_false] at hu
  rcases hu with rfl | rfl | rfl | rfl
  · rfl
  · rfl
  · rfl
  · exact hv
set_option maxRecDepth 100000 in
set_option maxHeartbeats 6400000 in
theorem law_valid (l : List Int) (a h b mo : Int) (v1 : Value) (w : World) (hl : ∀ x ∈ l, I64 x) (ha : I64 a) (hh : I64 h) (hb : I64 b) (hm : I64 mo) (r1 : Rd w 1 v1 l.length (iv l)) (hS : ShF w) :
    Calls Tryd.prog 4 #[v1, .int .i64 a, .int .i64 h, .int .i64 b, .int .i64 mo] w fun e w' => e = .returned (.bool true) ∧ Below w.heap.size w w' := by
  have HL := Lib.hid hl; have HA := Lib.hid ha; have HH := Lib.hid hh; have HB := Lib.hid hb; have HM := Lib.hid hm; have HH6 := Lib.hid (tdiv6 h)
  have ZL := gTree_size l
  obtain ⟨ta, hta⟩ : ∃ t, gTree l = t := ⟨_, rfl⟩
  have C1 : ∀ w', Rd w' 1 v1 l.length (iv l) → Calls Tryd.prog 10 #[v1] w' fun e w'' => ∃ cs, e = .returned (.agg cs.toArray) ∧ IsTX (fun b => w'.heap.size ≤ b) w'' ta cs ∧ Below w'.heap.size w' w'' := fun w' h => by rw [← hta]; exact gtree0_any l hl v1 w' h
  rw [hta] at ZL
  have HC1 := Lib.hid C1
  clear hta hl ha hh hb hm C1
  have A8 := aroundV_bd mo (most := 8) (by omega)
  obtain ⟨d8, hd8⟩ : ∃ d : Nat, aroundV mo 8 = (d : Int) := ⟨(aroundV mo 8).toNat, by omega⟩
  rw [hd8] at A8
  have HD8 := Lib.hid hd8
  have A9 := aroundV_bd mo (most := 9) (by omega)
  obtain ⟨d9, hd9⟩ : ∃ d : Nat, aroundV mo 9 = (d : Int) := ⟨(aroundV mo 9).toNat, by omega⟩
  rw [hd9] at A9
  have HD9 := Lib.hid hd9
  clear hd8 hd9
  go_enter Tryd.func4, Tryd.ntmps4
  go_upto_region 2 with (first
    | ((go_at_call 12; (with_reducible refine (program_any l HL.out v1 _ r1).mono ?_); rintro e w' ⟨tp, cs, rfl, hE, hN1, hfp, hzp, hdp⟩); have CL := Lib.hid hE.len; have CO := Lib.hid hE.isT.ones)
    | (((with_reducible refine' wpList_alloc_blk (cs := nodz) 25 rfl ?_ zr_node ?_ ?_); exact rfl; exact nodz_cells; intro w2 k2 hN2 hz2; simp only [Act.put, List.setIfInBounds_toArray, List.set_cons_succ, List.set_cons_zero]))
    | (((with_reducible refine' wpList_store_blk (cs := cs) 25 (.tmp 11) (.tmp 20) rfl ?_ ?_ ?_ k2 sz_node ?_ ?_ ?_ ?_); exact rfl; exact rfl; exact rfl; exact CL.out; exact rfl; exact CO.out; intro w3 k3 hO3 hz3; simp only [Act.put])))
  obtain ⟨A, hA⟩ : ∃ A, w'.heap.size = A := ⟨_, rfl⟩
  have hX3 : IsTX (fun b => w.heap.size ≤ b ∧ b < A) w3 tp cs := by rw [← hA]; exact (hE.lt.below hN2).only hO3 (fun b h => by have := h.2; omega)
  have hs1 := hN1.size
  have l2 := k2.lt
  have hb3 : Below w.heap.size w w3 := (hN1.trans (hN2.mono hs1)).trans (hO3.below hs1 (by omega))
  have s3 := k3.lt
  rw [hA] at k3 s3
  simp only [hA]
  have r3 := r1.below hb3
  have hS3 := hS.below hb3
  have hAw : w.heap.size ≤ A := by omega
  have HTV := Lib.hid (show tvalid tp = true by unfold tvalid; rw [hfp, decide_eq_true (show tsize tp ≤ 256 by omega), decide_eq_true (show tdepth tp ≤ 16 by omega)]; rfl)
  obtain ⟨n, m, ts, n0, m0, us, rfl, ht0, hts1, hts6, hus1, hus7⟩ := prog_shape hfp
  clear hz2 hz3 hO3 hN2 hN1 hE k2 l2 hA r1 hS hfp hdp
  have hT3 := hX3.isT
  go_upto_region 3 with (first
    | ((with_reducible refine' wpList_loadst_blk (.tmp 11) 25 rfl ?_ Tryd.underlying25 ?_ sz_node ?_ k3 ?_ ?_ ?_); exact rfl; exact rfl; exact rfl; exact CL.out; decide; simp only [Act.put, List.setIfInBounds_toArray, List.set_cons_succ, List.set_cons_zero])
    | ((go_at_call 11; (with_reducible refine (spoilt_any _ cs a h b _ hT3 (by omega) HA.out HH.out HB.out).mono ?_); rintro e w' ⟨tn, os, rfl, hD, hzo, hN4⟩); have OL := Lib.hid hD.len; have OO := Lib.hid hD.ones)
    | (((with_reducible refine' wpList_alloc_blk (cs := nodz) 25 rfl ?_ zr_node ?_ ?_); exact rfl; exact nodz_cells; intro w5 k5 hN5 hz5; simp only [Act.put, List.setIfInBounds_toArray, List.set_cons_succ, List.set_cons_zero]))
    | (((with_reducible refine' wpList_store_blk (cs := os) 25 (.tmp 12) (.tmp 25) rfl ?_ ?_ ?_ k5 sz_node ?_ ?_ ?_ ?_); exact rfl; exact rfl; exact rfl; exact OL.out; exact rfl; exact OO.out; intro w6 k6 hO6 hz6; simp only [Act.put])))
  obtain ⟨O, hO⟩ : ∃ O, w'.heap.size = O := ⟨_, rfl⟩
  have hb36 : Below w3.heap.size w3 w6 := (hN4.trans (hN5.mono hN4.size)).trans (hO6.below hN4.size (Nat.le_trans hN4.size hN5.size))
  have hD6 : IsT w6 tn os := ((hD.isTX.lt.below hN5).only hO6 (fun b h => by have := h.2; omega)).isT
  have kA6 := k3.below hb36 s3
  have hX6 := hX3.below hb36
  have r6 := r3.below hb36
  have hS6 := hS3.below hb36
  have hb6 := hb3.trans (hb36.mono hb3.size)
  have hAO : A < O := by have := hN4.size; omega
  have kO6 := k6
  rw [hO] at kO6
  simp only [hO]
  clear k6 hz5 hz6 hO6 hN5 hN4 hD k5 hb36 k3 hX3 r3 hS3 hO hb3 hT3
  obtain ⟨vp, xs, rfl, hRp, hTs6⟩ := hX6.open_
  have X3 := Lib.hid (show ([.int .i64 27, .int .i64 n, .int .i64 m, vp] : List Value)[3]? = some vp from rfl)
  obtain ⟨c0, hc0⟩ : ∃ c, (xs.drop (0 * 4)).take 4 = c := ⟨_, rfl⟩
  have hT0 := IsTsX.get hTs6 ht0
  have XL := hTs6.len
  rw [hc0] at hT0
  have HC0 := Lib.hid hc0
  have BD0 := Lib.hid (show 0 * 4 + 4 ≤ xs.length by rw [XL]; omega)
  clear hc0
  have T0 := Lib.hid hT0
  have C0L := Lib.hid hT0.len
  have C0O := Lib.hid hT0.isT.ones
  obtain ⟨v0, ys, rfl, hR0, hU0⟩ := hT0.open_
  have HU0 := Lib.hid hU0
  have ZT := hzp
  rw [tsize] at ZT
  have Z0 : tsize (.mk 26 n0 m0 us) ≤ 199 := by have := tsize_mem (List.mem_of_getElem? ht0); omega
  have ZU : tsizes us ≤ 198 := by rw [tsize] at Z0; omega
  have HRp := Lib.hid hRp
  have HTs := Lib.hid hTs6
  have HR0 := Lib.hid hR0
  have HX6 := Lib.hid hX6
  have l6A := kA6.lt
  have l6O := kO6.lt
  clear hTs6 hT0 hU0 ht0 hX6 hR0
  go_upto_region 4 with (first
    | ((with_reducible refine' wpList_loadst_blk (.tmp 11) 25 rfl ?_ Tryd.underlying25 ?_ sz_node ?_ kA6 ?_ ?_ ?_); exact rfl; exact rfl; exact rfl; exact CL.out; decide; simp only [Act.put, List.setIfInBounds_toArray, List.set_cons_succ, List.set_cons_zero])
    | (((with_reducible refine' wpList_alloc_blk (cs := nodz) 25 rfl ?_ zr_node ?_ ?_); exact rfl; exact nodz_cells; intro w7 k7 hN7 hz7; simp only [Act.put, List.setIfInBounds_toArray, List.set_cons_succ, List.set_cons_zero]))
    | (((with_reducible refine' wpList_store_blk (cs := [.int .i64 27, .int .i64 n, .int .i64 m, vp]) 25 (.tmp 13) (.tmp 26) rfl ?_ ?_ ?_ k7 sz_node ?_ ?_ ?_ ?_); exact rfl; exact rfl; exact rfl; exact CL.out; exact rfl; exact CO.out; intro w8 k8 hO8 hz8; simp only [Act.put])))
  obtain ⟨L, hL⟩ : ∃ L, w6.heap.size = L := ⟨_, rfl⟩
  have hb68 : Below w6.heap.size w6 w8 := hN7.trans (hO8.below (Nat.le_refl _) hN7.size)
  have hL6 : w6.heap.size ≤ L := by omega
  have k8' := k8
  rw [hL] at k8'
  simp only [hL]
  have HLL := Lib.hid hL
  have RP8 := Lib.hid (show RdX (fun b => b ≠ L) w8 4 vp (ts.length + 0) xs from (HRp.out.keep (Keep.below hb68)).mono fun b h => by have := h.2; omega)
  have TS8 := Lib.hid (show IsTsX (fun b => b ≠ L) w8 (ts ++ List.replicate 0 (.mk 26 n0 m0 us)) xs from by rw [List.replicate_zero, List.append_nil]; exact (HTs.out.below hb68).mono fun b h => by have := h.2; omega)
  clear hL k7 k8 hN7 hz7 hO8 hz8
  go_upto_region 5 with fail
  go_loopw [14] (fun i wr => ∃ (j : Nat) (v : Value) (xj : List Value), j ≤ d8 ∧ i = .int .i64 (j : Int) ∧ Blk wr L 25 [.int .i64 27, .int .i64 n, .int .i64 m, v] ∧ Hid (RdX (fun b => b ≠ L) wr 4 v (ts.length + j) xj) ∧ Hid (IsTsX (fun b => b ≠ L) wr (ts ++ List.replicate j (.mk 26 n0 m0 us)) xj) ∧ Below w6.heap.size w6 wr) (fun i _ => d8 - (intOf i).toNat)
  case atStart => exact ⟨0, vp, xs, by omega, rfl, k8', RP8, TS8, hb68⟩
  case round =>
    clear k8' RP8 TS8 hb68
    obtain ⟨j, v, xj, hj, rfl, kLw, HRj, HTj, hbi⟩ := hrel
    obtain ⟨wi, rfl⟩ : ∃ wo : World, wo = wr := ⟨_, rfl⟩
    have kAw := kA6.below hbi l6A
    have lLw := kLw.lt
    by_cases hlt : j < d8
    · have LJ : decide ((j : Int) < (d8 : Int)) = true := by rw [decide_eq_true_eq]; omega
      go_upto_region 7 with (first
        | ((go_at_call 14; (with_reducible refine (around_any mo 8 _ HM.out (by omega) (by unfold I64; omega)).mono ?_); rintro e w' ⟨rfl, rfl⟩); rw [HD8.out]))
      have hd : Below wi.heap.size wi wi.drew := (Below.refl _ _).drew
      have CAw : ∀ w', Below wi.heap.size wi w' → Blk w' A 25 _ := fun w' h => kAw.below h kAw.lt
      have CLw : ∀ w', Below wi.heap.size wi w' → Blk w' L 25 _ := fun w' h => kLw.below h kLw.lt
      have Y3 := Lib.hid (show ([.int .i64 27, .int .i64 n, .int .i64 m, v] : List Value)[3]? = some v from rfl)
      have hrp : Rd wi 4 vp ts.length xs := HRp.out.1.below hbi
      have hrj : Rd wi 4 v (ts.length + j) xj := HRj.out.1
      have XJO := Lib.hid HTj.out.ones
      (refine wp_region_plan (fun w' => Below wi.heap.size wi w') (.f 1 (.f 2 (.f 4 (.f 5 (.f 6 (.f 7 (.two 0 8 (.two 3 8 (.o 8 (.o 9 .tail)) (.o 3 (.o 9 .tail))) (.o 0 (.o 3 (.o 9 .tail)))))))))) 10 (by kernel_rfl) (by kernel_rfl) (hd) ?_)
      (repeat (refine wpPlan_f rfl ?_; (first | ((with_reducible refine' wpQuietM_field (k := 0) (j := 3) (.tmp 13) 25 3 rfl ?_ fo_node_3 ?_ rfl ?_); exact rfl; rotate_left; exact rfl; simp only [Act.put, List.setIfInBounds_toArray, List.set_cons_succ, List.set_cons_zero]) | ((with_reducible refine' wpQuietH_load_blk (.tmp 34) 23 rfl ?_ ld_nds ?_ (CLw) (Y3.out) ?_); exact rfl; exact rfl; simp only [Act.put, List.setIfInBounds_toArray, List.set_cons_succ, List.set_cons_zero]) | ((with_reducible refine' wpQuietM_field (k := 0) (j := 3) (.tmp 11) 25 3 rfl ?_ fo_node_3 ?_ rfl ?_); exact rfl; rotate_left; exact rfl; simp only [Act.put, List.setIfInBounds_toArray, List.set_cons_succ, List.set_cons_zero]) | ((with_reducible refine' wpQuietH_load_blk (.tmp 37) 23 rfl ?_ ld_nds ?_ (CAw) (X3.out) ?_); exact rfl; exact rfl; simp only [Act.put, List.setIfInBounds_toArray, List.set_cons_succ, List.set_cons_zero]) | ((with_reducible refine' wpQuiet_at_rd (.tmp 38) (.const (.int .i64 0)) 23 rfl ?_ Tryd.underlying23 sz_node ?_ hrp (by decide) (0) ?_ ?_ ?_); exact rfl; exact rfl; (show (_ : Int) = _; omega); omega; simp only [Act.put, List.setIfInBounds_toArray, List.set_cons_succ, List.set_cons_zero]) | ((with_reducible refine' wpQuietC_load_st (cov_below _) (cp := [.int .i64 26, .int .i64 n0, .int .i64 m0, v0]) (.tmp 39) 25 rfl ?_ Tryd.underlying25 ?_ sz_node ?_ hrp ?_ ?_ HC0.out ?_); exact rfl; exact rfl; exact rfl; exact BD0.out; decide; simp only [Act.put, List.setIfInBounds_toArray, List.set_cons_succ, List.set_cons_zero]) | go_big_quiet_step (fail) | (go_big_quiet_want; go_big_quiet_op; refine ⟨_, fun _ _ => rfl, ?_⟩; go_big_quiet_on)); refine wpQuiet_nil ?_))
      have hrd := hrj.below hd
      have sd := hd.size
      refine wpPlan_two rfl rfl ?_ ?_
      · go_wp2_with (((with_reducible refine' wpList_build_nil rfl ?_ Tryd.underlying23 sz_node ?_); exact rfl; intro v7 w7 o7 hN7; simp only [Act.put, List.setIfInBounds_toArray, List.set_cons_succ, List.set_cons_zero]))
        have hb7 : Below wi.heap.size wi w7 := hd.trans (hN7.mono sd)
        have hr7 := hrd.below hN7
        have s7 := hN7.size
        refine ⟨rfl, hb7, ?_⟩
        refine wpPlan_two rfl rfl ?_ ?_
        · go_wp2_with (((with_reducible refine' wpList_append_rd (.tmp 33) (.tmp 35) 23 rfl ?_ Tryd.underlying23 inf_node ?_ ?_ ?_ o7 ?_ hr7 XJO.out ?_ ?_ s7 ?_); exact rfl; exact rfl; omega; exact rfl; exact rfl; (first | omega | (unfold maxLen; omega)); omega; intro v8 w8 o8 hN8; simp only [Act.put, List.setIfInBounds_toArray, List.set_cons_succ, List.set_cons_zero]))
          have hb8 : Below wi.heap.size wi w8 := hb7.trans (hN8.mono sd)
          have s8 := Nat.le_trans s7 hN8.size
          refine ⟨rfl, hb8, ?_⟩
          refine wpPlan_o rfl ?_
          go_wp2_with (((with_reducible refine' wpList_build_sts (css := [[.int .i64 26, .int .i64 n0, .int .i64 m0, v0]]) rfl ?_ Tryd.underlying23 inf_node ?_ ?_ ?_ ?_ ?_ ?_); exact rfl; exact rfl; (first | omega | decide); (first | omega | decide); exact rfl; (intro c hc; simp at hc; subst hc; exact rfl); intro w11 k11 hN11 hz11; simp only [Act.put, List.setIfInBounds_toArray, List.set_cons_succ, List.set_cons_zero]))
          rw [flat1] at k11
          have r11 := k11.rdall 1 4 rfl (by unfold maxLen; omega)
          have o11 := own_below o8 hN11
          have hb11 : Below wi.heap.size wi w11 := hb8.trans (hN11.mono hb8.size)
          have s11 := Nat.le_trans s8 hN11.size
          refine ⟨rfl, hb11, ?_⟩
          refine wpPlan_o rfl ?_
          go_wp2_with (((with_reducible refine' wpList_append_rd (.tmp 36) (.tmp 41) 23 rfl ?_ Tryd.underlying23 inf_node ?_ ?_ ?_ o11 ?_ r11 C0O.out ?_ ?_ s11 ?_); exact rfl; exact rfl; omega; exact rfl; exact rfl; (first | omega | (unfold maxLen; omega)); omega; intro v9 w9 o9 hN9; simp only [Act.put, List.setIfInBounds_toArray, List.set_cons_succ, List.set_cons_zero]))
          have hb9 : Below wi.heap.size wi w9 := hb11.trans (hN9.mono sd)
          have hLb : L < wi.drew.heap.size := Nat.lt_of_lt_of_le lLw sd
          refine ⟨rfl, hb9, ?_⟩
          refine wpPlan_tail ?_
          have kL9 := kLw.below hb9 kLw.lt
          go_wp2_with (first | ((with_reducible refine' wpList_field_blk (j := 3) (.tmp 13) 25 3 rfl ?_ fo_node_3 ?_ rfl ?_); exact rfl; exact rfl; simp only [Act.put, List.setIfInBounds_toArray, List.set_cons_succ, List.set_cons_zero]) | ((with_reducible refine' wpList_set_blk (u := v9) 23 (.tmp 43) (.tmp 42) rfl ?_ sz_nds ?_ ?_ kL9 (len4_lt) ?_ ?_); exact rfl; exact rfl; exact rfl; exact (own_one o9); intro w10 k10 hO10 hz10; simp only [Act.put, List.setIfInBounds_toArray, List.set_cons_succ, List.set_cons_zero]))
          refine onlyN ?_
          go_wp2_with fail
          have k10' : Blk w10 L 25 [.int .i64 27, .int .i64 n, .int .i64 m, v9] := k10
          have o10 := own_only o9 hO10 (own_ne o9 hLb)
          have hbz : Below w6.heap.size w6 w10 := (hbi.trans (hb9.mono hbi.size)).trans (hO10.below hL6 ((hbi.trans (hb9.mono hbi.size)).size))
          have hX10 := (((HTj.out.below hb9).snoc (((T0.out.keep (Keep.below hbi)).below hb9).mono (Y := fun b => b ≠ L) fun b h => by have := h.2; omega)).only hO10 (fun b h => h))
          have HX10 := Lib.hid (show IsTsX (fun b => b ≠ L) w10 (ts ++ List.replicate (j + 1) (.mk 26 n0 m0 us)) (xj ++ [.int .i64 26, .int .i64 n0, .int .i64 m0, v0]) by rw [List.replicate_succ', ← List.append_assoc]; exact hX10)
          have hR10 := Lib.hid (show RdX (fun b => b ≠ L) w10 4 v9 (ts.length + (j + 1)) (xj ++ [.int .i64 26, .int .i64 n0, .int .i64 m0, v0]) from by
            have h := (own_rdx o10).mono (Y := fun b => b ≠ L) fun b h => by omega
            simpa [Nat.add_assoc] using h)
          clear hX10 o10 k10 kL9
          go_roundw
          case rel => exact ⟨j + 1, v9, xj ++ [.int .i64 26, .int .i64 n0, .int .i64 m0, v0], by omega, by go_num, k10', hR10, HX10, hbz⟩
          case measure => simp [intOf]; omega
        · go_wp2_with (((with_reducible refine' wpList_build_sts (css := [[.int .i64 26, .int .i64 n0, .int .i64 m0, v0]]) rfl ?_ Tryd.underlying23 inf_node ?_ ?_ ?_ ?_ ?_ ?_); exact rfl; exact rfl; (first | omega | decide); (first | omega | decide); exact rfl; (intro c hc; simp at hc; subst hc; exact rfl); intro w11 k11 hN11 hz11; simp only [Act.put, List.setIfInBounds_toArray, List.set_cons_succ, List.set_cons_zero]))
          rw [flat1] at k11
          have r11 := k11.rdall 1 4 rfl (by unfold maxLen; omega)
          have o11 := own_below o7 hN11
          have hb11 : Below wi.heap.size wi w11 := hb7.trans (hN11.mono hb7.size)
          have s11 := Nat.le_trans s7 hN11.size
          have rj11 := hr7.below hN11
          refine ⟨rfl, hb11, ?_⟩
          refine wpPlan_o rfl ?_
          go_wp2_with (((with_reducible refine' wpList_append_at (.tmp 33) (.tmp 35) 23 rfl ?_ Tryd.underlying23 inf_node ?_ ?_ ?_ o11 ?_ rj11 XJO.out ?_ ?_ s11 ?_); exact rfl; exact rfl; omega; exact rfl; exact rfl; (first | omega | (unfold maxLen; omega)); omega; intro v8 w8 o8 hg8 hst8; simp only [Act.put, List.setIfInBounds_toArray, List.set_cons_succ, List.set_cons_zero]))
          have hb8 : Below wi.heap.size wi w8 := hb11.grown hg8 hb11.size (fun k hk => Nat.le_trans sd (o11.lt k hk).1)
          have s8 := Nat.le_trans s11 hg8.size
          have k8 := k11.grown hg8 (fun e => Nat.lt_irrefl _ (o7.lt _ e.symm).2)
          have hLb : L < wi.drew.heap.size := Nat.lt_of_lt_of_le lLw sd
          have r8 : Rd w8 4 (.slice (some ⟨w7.heap.size, 0, none⟩) 1 1) 1 [.int .i64 26, .int .i64 n0, .int .i64 m0, v0] := k8.rdall 1 4 rfl (by unfold maxLen; omega)
          refine ⟨rfl, hb8, ?_⟩
          refine wpPlan_o rfl ?_
          go_wp2_with (((with_reducible refine' wpList_append_rd (.tmp 36) (.tmp 41) 23 rfl ?_ Tryd.underlying23 inf_node ?_ ?_ ?_ o8 ?_ r8 C0O.out ?_ ?_ s8 ?_); exact rfl; exact rfl; omega; exact rfl; exact rfl; (first | omega | (unfold maxLen; omega)); omega; intro v9 w9 o9 hN9; simp only [Act.put, List.setIfInBounds_toArray, List.set_cons_succ, List.set_cons_zero]))
          have hb9 : Below wi.heap.size wi w9 := hb8.trans (hN9.mono sd)
          refine ⟨rfl, hb9, ?_⟩
          refine wpPlan_tail ?_
          have kL9 := kLw.below hb9 kLw.lt
          go_wp2_with (first | ((with_reducible refine' wpList_field_blk (j := 3) (.tmp 13) 25 3 rfl ?_ fo_node_3 ?_ rfl ?_); exact rfl; exact rfl; simp only [Act.put, List.setIfInBounds_toArray, List.set_cons_succ, List.set_cons_zero]) | ((with_reducible refine' wpList_set_blk (u := v9) 23 (.tmp 43) (.tmp 42) rfl ?_ sz_nds ?_ ?_ kL9 (len4_lt) ?_ ?_); exact rfl; exact rfl; exact rfl; exact (own_one o9); intro w10 k10 hO10 hz10; simp only [Act.put, List.setIfInBounds_toArray, List.set_cons_succ, List.set_cons_zero]))
          refine onlyN ?_
          go_wp2_with fail
          have k10' : Blk w10 L 25 [.int .i64 27, .int .i64 n, .int .i64 m, v9] := k10
          have o10 := own_only o9 hO10 (own_ne o9 hLb)
          have hbz : Below w6.heap.size w6 w10 := (hbi.trans (hb9.mono hbi.size)).trans (hO10.below hL6 ((hbi.trans (hb9.mono hbi.size)).size))
          have hX10 := (((HTj.out.below hb9).snoc (((T0.out.keep (Keep.below hbi)).below hb9).mono (Y := fun b => b ≠ L) fun b h => by have := h.2; omega)).only hO10 (fun b h => h))
          have HX10 := Lib.hid (show IsTsX (fun b => b ≠ L) w10 (ts ++ List.replicate (j + 1) (.mk 26 n0 m0 us)) (xj ++ [.int .i64 26, .int .i64 n0, .int .i64 m0, v0]) by rw [List.replicate_succ', ← List.append_assoc]; exact hX10)
          have hR10 := Lib.hid (show RdX (fun b => b ≠ L) w10 4 v9 (ts.length + (j + 1)) (xj ++ [.int .i64 26, .int .i64 n0, .int .i64 m0, v0]) from by
            have h := (own_rdx o10).mono (Y := fun b => b ≠ L) fun b h => by omega
            simpa [Nat.add_assoc] using h)
          clear hX10 o10 k10 kL9
          go_roundw
          case rel => exact ⟨j + 1, v9, xj ++ [.int .i64 26, .int .i64 n0, .int .i64 m0, v0], by omega, by go_num, k10', hR10, HX10, hbz⟩
          case measure => simp [intOf]; omega
      · go_wp2_with (((with_reducible refine' wpList_build_sts (css := [[.int .i64 26, .int .i64 n0, .int .i64 m0, v0]]) rfl ?_ Tryd.underlying23 inf_node ?_ ?_ ?_ ?_ ?_ ?_); exact rfl; exact rfl; (first | omega | decide); (first | omega | decide); exact rfl; (intro c hc; simp at hc; subst hc; exact rfl); intro w11 k11 hN11 hz11; simp only [Act.put, List.setIfInBounds_toArray, List.set_cons_succ, List.set_cons_zero]))
        rw [flat1] at k11
        have r11 := k11.rdall 1 4 rfl (by unfold maxLen; omega)
        have hb11 : Below wi.heap.size wi w11 := hd.trans (hN11.mono sd)
        have s11 := Nat.le_trans sd hN11.size
        have rj11 := hrd.below hN11
        refine ⟨rfl, hb11, ?_⟩
        refine wpPlan_o rfl ?_
        go_wp2_with (((with_reducible refine' wpList_build_nil rfl ?_ Tryd.underlying23 sz_node ?_); exact rfl; intro v7 w7 o7 hN7; simp only [Act.put, List.setIfInBounds_toArray, List.set_cons_succ, List.set_cons_zero]))
        have hb7 : Below wi.heap.size wi w7 := hb11.trans (hN7.mono s11)
        have rj7 := rj11.below hN7
        have r7 := r11.below hN7
        have s7 := hN7.size
        refine ⟨rfl, hb7, ?_⟩
        refine wpPlan_o rfl ?_
        go_wp2_with (((with_reducible refine' wpList_append_rd (.tmp 33) (.tmp 35) 23 rfl ?_ Tryd.underlying23 inf_node ?_ ?_ ?_ o7 ?_ rj7 XJO.out ?_ ?_ s7 ?_); exact rfl; exact rfl; omega; exact rfl; exact rfl; (first | omega | (unfold maxLen; omega)); omega; intro v8 w8 o8 hN8; simp only [Act.put, List.setIfInBounds_toArray, List.set_cons_succ, List.set_cons_zero]))
        have hb8 : Below wi.heap.size wi w8 := hb7.trans (hN8.mono s11)
        have s8 := Nat.le_trans s7 hN8.size
        have r8 : Rd w8 4 (.slice (some ⟨wi.drew.heap.size, 0, none⟩) 1 1) 1 [.int .i64 26, .int .i64 n0, .int .i64 m0, v0] := r11.below (hN7.trans hN8)
        refine ⟨rfl, hb8, ?_⟩
        refine wpPlan_o rfl ?_
        go_wp2_with (((with_reducible refine' wpList_append_rd (.tmp 36) (.tmp 41) 23 rfl ?_ Tryd.underlying23 inf_node ?_ ?_ ?_ o8 ?_ r8 C0O.out ?_ ?_ s8 ?_); exact rfl; exact rfl; omega; exact rfl; exact rfl; (first | omega | (unfold maxLen; omega)); omega; intro v9 w9 o9 hN9; simp only [Act.put, List.setIfInBounds_toArray, List.set_cons_succ, List.set_cons_zero]))
        have hb9 : Below wi.heap.size wi w9 := hb8.trans (hN9.mono s11)
        have hLb : L < w11.heap.size := Nat.lt_of_lt_of_le lLw s11
        refine ⟨rfl, hb9, ?_⟩
        refine wpPlan_tail ?_
        have kL9 := kLw.below hb9 kLw.lt
        go_wp2_with (first | ((with_reducible refine' wpList_field_blk (j := 3) (.tmp 13) 25 3 rfl ?_ fo_node_3 ?_ rfl ?_); exact rfl; exact rfl; simp only [Act.put, List.setIfInBounds_toArray, List.set_cons_succ, List.set_cons_zero]) | ((with_reducible refine' wpList_set_blk (u := v9) 23 (.tmp 43) (.tmp 42) rfl ?_ sz_nds ?_ ?_ kL9 (len4_lt) ?_ ?_); exact rfl; exact rfl; exact rfl; exact (own_one o9); intro w10 k10 hO10 hz10; simp only [Act.put, List.setIfInBounds_toArray, List.set_cons_succ, List.set_cons_zero]))
        refine onlyN ?_
        go_wp2_with fail
        have k10' : Blk w10 L 25 [.int .i64 27, .int .i64 n, .int .i64 m, v9] := k10
        have o10 := own_only o9 hO10 (own_ne o9 hLb)
        have hbz : Below w6.heap.size w6 w10 := (hbi.trans (hb9.mono hbi.size)).trans (hO10.below hL6 ((hbi.trans (hb9.mono hbi.size)).size))
        have hX10 := (((HTj.out.below hb9).snoc (((T0.out.keep (Keep.below hbi)).below hb9).mono (Y := fun b => b ≠ L) fun b h => by have := h.2; omega)).only hO10 (fun b h => h))
        have HX10 := Lib.hid (show IsTsX (fun b => b ≠ L) w10 (ts ++ List.replicate (j + 1) (.mk 26 n0 m0 us)) (xj ++ [.int .i64 26, .int .i64 n0, .int .i64 m0, v0]) by rw [List.replicate_succ', ← List.append_assoc]; exact hX10)
        have hR10 := Lib.hid (show RdX (fun b => b ≠ L) w10 4 v9 (ts.length + (j + 1)) (xj ++ [.int .i64 26, .int .i64 n0, .int .i64 m0, v0]) from by
          have h := (own_rdx o10).mono (Y := fun b => b ≠ L) fun b h => by omega
          simpa [Nat.add_assoc] using h)
        clear hX10 o10 k10 kL9
        go_roundw
        case rel => exact ⟨j + 1, v9, xj ++ [.int .i64 26, .int .i64 n0, .int .i64 m0, v0], by omega, by go_num, k10', hR10, HX10, hbz⟩
        case measure => simp [intOf]; omega
    · obtain rfl : j = d8 := by omega
      have LJ : decide ((j : Int) < (j : Int)) = false := by simp
      have HLT := Lib.hid (show IsT wi (.mk 27 n m (ts ++ List.replicate j (.mk 26 n0 m0 us))) [.int .i64 27, .int .i64 n, .int .i64 m, v] from
        (IsTX.node (X := fun b => b ≠ L) (by rw [List.length_append, List.length_replicate]; exact HRj.out.1) (fun b hb h0 => HRj.out.2 b hb (by rw [List.length_append, List.length_replicate] at h0; exact h0)) HTj.out).isT)
      have ZLL := Lib.hid (show tsize (.mk 27 n m (ts ++ List.replicate j (.mk 26 n0 m0 us))) ≤ 1000000 by
        rw [tsize, tsizes_rep]
        have : j * tsize (.mk 26 n0 m0 us) ≤ 8 * 199 := Nat.mul_le_mul (by omega) Z0
        omega)
      have hrp : Rd wi 4 vp ts.length xs := HRp.out.1.below hbi
      clear HRj HTj
      go_upto_region 9 with (first
        | ((go_at_call 14; (with_reducible refine (around_any mo 8 _ HM.out (by omega) (by unfold I64; omega)).mono ?_); rintro e w' ⟨rfl, rfl⟩); rw [HD8.out])
        | ((with_reducible refine' wpList_field_blk (j := 3) (.tmp 11) 25 3 rfl ?_ fo_node_3 ?_ rfl ?_); exact rfl; exact rfl; simp only [Act.put, List.setIfInBounds_toArray, List.set_cons_succ, List.set_cons_zero]) | ((with_reducible refine' wpList_load_blk (.tmp 44) 23 rfl ?_ ld_nds ?_ kAw (X3.out) ?_); exact rfl; exact rfl; simp only [Act.put, List.setIfInBounds_toArray, List.set_cons_succ, List.set_cons_zero]) | ((with_reducible refine' wpList_at_rd (.tmp 45) (.const (.int .i64 0)) 23 rfl ?_ Tryd.underlying23 sz_node ?_ hrp (by decide) (0) ?_ ?_ ?_); exact rfl; exact rfl; (show (_ : Int) = _; omega); omega; simp only [Act.put, List.setIfInBounds_toArray, List.set_cons_succ, List.set_cons_zero]) | ((with_reducible refine' wpList_load_st (cp := [.int .i64 26, .int .i64 n0, .int .i64 m0, v0]) (.tmp 46) 25 rfl ?_ Tryd.underlying25 ?_ sz_node ?_ hrp ?_ ?_ HC0.out ?_); exact rfl; exact rfl; exact rfl; exact BD0.out; decide; simp only [Act.put, List.setIfInBounds_toArray, List.set_cons_succ, List.set_cons_zero])
        | (((with_reducible refine' wpList_alloc_blk (cs := nodz) 25 rfl ?_ zr_node ?_ ?_); exact rfl; exact nodz_cells; intro w9 k9 hN9 hz9; simp only [Act.put, List.setIfInBounds_toArray, List.set_cons_succ, List.set_cons_zero]))
        | (((with_reducible refine' wpList_store_blk (cs := [.int .i64 26, .int .i64 n0, .int .i64 m0, v0]) 25 (.tmp 15) (.tmp 47) rfl ?_ ?_ ?_ k9 sz_node ?_ ?_ ?_ ?_); exact rfl; exact rfl; exact rfl; exact C0L.out; exact rfl; exact C0O.out; intro w10 k10 hO10 hz10; simp only [Act.put])))
      obtain ⟨B, hB⟩ : ∃ B, wi.heap.size = B := ⟨_, rfl⟩
      have hb10 : Below wi.heap.size wi w10 := hN9.trans (hO10.below (Nat.le_refl _) hN9.size)
      have kB10 := k10
      have HBB := Lib.hid hB
      rw [hB] at kB10
      simp only [hB]
      have hLB : L < B := by rw [← hB]; exact lLw
      have hu10 : Rd w10 4 v0 us.length ys := HR0.out.1.below (hbi.trans (hb10.mono hbi.size))
      have Y0 := Lib.hid (show ([.int .i64 26, .int .i64 n0, .int .i64 m0, v0] : List Value)[3]? = some v0 from rfl)
      have UO := Lib.hid HU0.out.ones
      have b10 := kB10.lt
      clear k9 k10 hN9 hz9 hO10 hz10 hB hrp
      go_upto_region 10 with (first
        | (((with_reducible refine' wpList_build_nil rfl ?_ Tryd.underlying23 sz_node ?_); exact rfl; intro v11 w11 o11 hN11; simp only [Act.put, List.setIfInBounds_toArray, List.set_cons_succ, List.set_cons_zero]); have hs11 := hN11.size; have kB11 := kB10.below hN11 b10; have hu11 := hu10.below hN11)
        | ((with_reducible refine' wpList_field_blk (j := 3) (.tmp 15) 25 3 rfl ?_ fo_node_3 ?_ rfl ?_); exact rfl; exact rfl; simp only [Act.put, List.setIfInBounds_toArray, List.set_cons_succ, List.set_cons_zero]) | ((with_reducible refine' wpList_load_blk (.tmp 49) 23 rfl ?_ ld_nds ?_ kB11 (Y0.out) ?_); exact rfl; exact rfl; simp only [Act.put, List.setIfInBounds_toArray, List.set_cons_succ, List.set_cons_zero])
        | (((with_reducible refine' wpList_append_at (.tmp 48) (.tmp 50) 23 rfl ?_ Tryd.underlying23 inf_node ?_ ?_ ?_ o11 ?_ hu11 UO.out ?_ ?_ hs11 ?_); exact rfl; exact rfl; omega; exact rfl; exact rfl; (first | omega | (unfold maxLen; omega)); omega; intro v12 w12 o12 hg12 hst12; simp only [Act.put, List.setIfInBounds_toArray, List.set_cons_succ, List.set_cons_zero]); have kB12 := kB11.grown hg12 (fun e => own_ne o11 b10 e.symm))
        | ((with_reducible refine' wpList_set_blk (u := v12) 23 (.tmp 52) (.tmp 51) rfl ?_ sz_nds ?_ ?_ kB12 (len4_lt) ?_ ?_); exact rfl; exact rfl; exact rfl; exact (own_one o12); intro w13 k13 hO13 hz13; simp only [Act.put, List.setIfInBounds_toArray, List.set_cons_succ, List.set_cons_zero]))
      rw [Nat.zero_add, List.nil_append] at o12
      have kB13 : Blk w13 B 25 [.int .i64 26, .int .i64 n0, .int .i64 m0, v12] := k13
      have o13 := own_only o12 hO13 (own_ne o12 b10)
      have hbB : Below B wi w13 := by
        have h1 : Below B wi w10 := hb10.mono (by rw [HBB.out]; exact Nat.le_refl _)
        have h2 := ((h1.trans (hN11.mono (Nat.le_of_lt b10))).grown hg12 (by have := hN11.size; omega) (fun b hb => by have := (o11.lt b hb).1; omega))
        exact h2.trans (hO13.below (Nat.le_refl _) (Nat.le_of_lt kB12.lt))
      have hB8 : B ≤ wi.heap.size := by rw [HBB.out]; exact Nat.le_refl _
      clear o11 hN11 kB11 hu11 hg12 hst12 kB12 o12 hO13 hz13 k13 kB10 hu10
      have l13 := kB13.lt
      have Y12 := Lib.hid (show ([.int .i64 26, .int .i64 n0, .int .i64 m0, v12] : List Value)[3]? = some v12 from rfl)
      have rd13 := Rd.of_own o13
      go_upto_region 10 with fail
      have hd : Below w13.heap.size w13 w13.drew := (Below.refl _ _).drew
      have CBw : ∀ w', Below w13.heap.size w13 w' → Blk w' B 25 _ := fun w' h => kB13.below h l13
      obtain ⟨q, hq⟩ : ∃ q, us.length = q + 1 := ⟨us.length - 1, by omega⟩
      have HQ := Lib.hid hq
      (refine wp_region_plan (fun w' => Below w13.heap.size w13 w') (.f 0 (.f 1 (.f 2 (.f 3 (.f 4 (.f 5 (.f 6 (.o 7 (.f 8 (.o 9 .tail)))))))))) 10 (by kernel_rfl) (by kernel_rfl) (hd) ?_)
      (repeat (refine wpPlan_f rfl ?_; (first | ((with_reducible refine' wpQuietM_field (k := 0) (j := 3) (.tmp 15) 25 3 rfl ?_ fo_node_3 ?_ rfl ?_); exact rfl; rotate_left; exact rfl; simp only [Act.put, List.setIfInBounds_toArray, List.set_cons_succ, List.set_cons_zero]) | ((with_reducible refine' wpQuietH_load_blk (.tmp 53) 23 rfl ?_ ld_nds ?_ (CBw) (Y12.out) ?_); exact rfl; exact rfl; simp only [Act.put, List.setIfInBounds_toArray, List.set_cons_succ, List.set_cons_zero]) | ((with_reducible refine' wpQuietH_load_blk (.tmp 55) 23 rfl ?_ ld_nds ?_ (CBw) (Y12.out) ?_); exact rfl; exact rfl; simp only [Act.put, List.setIfInBounds_toArray, List.set_cons_succ, List.set_cons_zero]) | ((with_reducible refine' wpQuiet_len_rd (.tmp 56) 23 rfl ?_ Tryd.underlying23 ?_ rd13 ?_); exact rfl; exact rfl; simp only [Act.put, List.setIfInBounds_toArray, List.set_cons_succ, List.set_cons_zero]) | go_big_quiet_step (fail) | (go_big_quiet_want; go_big_quiet_op; refine ⟨_, fun _ _ => rfl, ?_⟩; go_big_quiet_on)); refine wpQuiet_nil ?_))
      refine wpPlan_o rfl ?_
      go_wp2_with ((go_at_call 14; (with_reducible refine (around_any mo 9 _ HM.out (by omega) (by unfold I64; omega)).mono ?_); rintro e w' ⟨rfl, rfl⟩); rw [HD9.out])
      refine ⟨rfl, hd, ?_⟩
      (repeat (refine wpPlan_f rfl ?_; (first | fail | go_big_quiet_step (fail) | (go_big_quiet_want; go_big_quiet_op; refine ⟨_, fun _ _ => rfl, ?_⟩; go_big_quiet_on)); refine wpQuiet_nil ?_))
      refine wpPlan_o rfl ?_
      have DD1 : ∀ w' : World, Calls Tryd.prog 13 #[.int .i64 (10 + (d9 : Int))] w' fun e w'' => ∃ cs, e = .returned (.agg cs.toArray) ∧ IsTX (fun b => w'.heap.size ≤ b) w'' (deepT (9 + d9)) cs ∧ Below w'.heap.size w' w'' := fun w' => by
        have h := deep_any (10 + d9) w' (by omega)
        rw [show 10 + d9 - 1 = 9 + d9 by omega] at h
        rw [show ((10 + d9 : Nat) : Int) = 10 + (d9 : Int) by omega] at h
        exact h
      have DD2 : ∀ w' : World, Calls Tryd.prog 13 #[.int .i64 (wrap64 (10 + (d9 : Int)))] w' fun e w'' => ∃ cs, e = .returned (.agg cs.toArray) ∧ IsTX (fun b => w'.heap.size ≤ b) w'' (deepT (9 + d9)) cs ∧ Below w'.heap.size w' w'' := fun w' => by
        rw [show wrap64 (10 + (d9 : Int)) = 10 + (d9 : Int) by unfold wrap64; omega]; exact DD1 w'
      go_wp2_with (first
        | (go_at_call 13; (with_reducible refine (DD1 _).mono ?_); rintro e w' ⟨ds, rfl, hQ, hN14⟩)
        | (go_at_call 13; (with_reducible refine (DD2 _).mono ?_); rintro e w' ⟨ds, rfl, hQ, hN14⟩))
      have DL := Lib.hid hQ.len
      have DO := Lib.hid hQ.isT.ones
      obtain ⟨w14, rfl⟩ : ∃ x : World, x = w' := ⟨_, rfl⟩
      have hb14 := hd.trans hN14
      refine ⟨rfl, hb14, ?_⟩
      refine wpPlan_tail ?_
      have o14 := own_below o13 hb14
      obtain ⟨g, cur, hg1, hg2, hg3, hg4, hg5, hg6⟩ := own_block o14 (by omega)
      have EP := Lib.hid (hg3 (q * 4))
      have rd14 := Rd.of_own o14
      have room := Lib.hid (show q * 4 + 4 ≤ cur.length by omega)
      have IXQ : ((us.length : Int) - 1) = (q : Int) := by omega
      simp only [List.drop_succ_cons, List.drop_zero]
      go_wp2_with (first
        | (((with_reducible refine' wpList_at_rd (.tmp 54) (.tmp 58) 23 rfl ?_ Tryd.underlying23 sz_node ?_ rd14 (by decide) (q) ?_ ?_ ?_); exact rfl; exact rfl; (show (_ : Int) = _; omega); omega; simp only [Act.put, List.setIfInBounds_toArray, List.set_cons_succ, List.set_cons_zero]); rw [EP.out])
        | ((with_reducible refine' wpList_store_part (f := q * 4) (cs := ds) 25 (.tmp 63) (.tmp 62) rfl ?_ ?_ ?_ hg4 sz_node ?_ ?_ ?_ ?_); exact rfl; exact rfl; exact rfl; exact DL.out; exact room.out; exact DO.out; intro w15 k15 hO15 hz15; simp only [Act.put, List.setIfInBounds_toArray, List.set_cons_succ, List.set_cons_zero]))
      refine onlyN ?_
      have hBg : B < g := by have := hg1; omega
      have kB15 : Blk w15 B 25 [.int .i64 26, .int .i64 n0, .int .i64 m0, v12] := hO15.blk (kB13.below hb14 l13) (by omega)
      have o15 := hg6 (q * 4) ds w15 (by rw [DL.out]; omega) k15
      have hg13 : g < w13.heap.size := (o13.lt g hg2).2
      have ysl : ys.length = us.length * 4 := HR0.out.1.1
      have PUT : put ys (q * 4) ds = ys.take (q * 4) ++ ds := by
        unfold put
        rw [List.drop_eq_nil_of_le (by rw [DL.out]; omega), List.append_nil]
      rw [PUT] at o15
      have hbB15 : Below B wi w15 := (hbB.trans (hb14.mono (Nat.le_of_lt l13))).trans (hO15.below (Nat.le_of_lt hBg) (by have := hb14.size; omega))
      have hbi15 : Below w6.heap.size w6 w15 := hbi.trans (hbB15.mono (by omega))
      have HBT := Lib.hid (show IsT w15 (.mk 26 n0 m0 (us.take q ++ [deepT (9 + d9)])) [.int .i64 26, .int .i64 n0, .int .i64 m0, v12] from by
        have u15 : IsTsX (fun _ => True) w15 us ys := (HU0.out.keep (Keep.below hbi15)).mono fun _ _ => trivial
        have q15 : IsTX (fun _ => True) w15 (deepT (9 + d9)) ds := (hQ.only hO15 (fun b h => by have h2 : w13.heap.size ≤ b := h; omega)).mono fun _ _ => trivial
        refine (IsTX.node (X := fun _ => True) (xs := ys.take (q * 4) ++ ds) ?_ (fun _ _ _ => trivial) ((u15.take q).snoc q15)).isT
        rw [List.length_append, List.length_take, Nat.min_eq_left (by omega), List.length_singleton, ← HQ.out]
        exact Rd.of_own o15)
      have BL := Lib.hid (show ([.int .i64 26, .int .i64 n0, .int .i64 m0, v12] : List Value).length = 4 from rfl)
      have ZDB : tsize (.mk 26 n0 m0 (us.take q ++ [deepT (9 + d9)])) ≤ 1000 := by
        have h1 := tsizes_take_le us q
        rw [tsize, tsizes_snoc, deepT_size]; omega
      clear o14 hg4 hg5 hg6 rd14 EP room hQ hb14 hN14 o13 rd13 kB13 CBw hd hO15 hz15 k15 o15 hg2 hg3 DD1 DD2
      go_upto_region 12 with (first
        | ((with_reducible refine' wpList_loadst_blk (.tmp 15) 25 rfl ?_ Tryd.underlying25 ?_ sz_node ?_ kB15 ?_ ?_ ?_); exact rfl; exact rfl; exact rfl; exact BL.out; decide; simp only [Act.put, List.setIfInBounds_toArray, List.set_cons_succ, List.set_cons_zero])
        | (((with_reducible refine' wpList_build_sts (css := [[.int .i64 26, .int .i64 n0, .int .i64 m0, v12]]) rfl ?_ Tryd.underlying23 inf_node ?_ ?_ ?_ ?_ ?_ ?_); exact rfl; exact rfl; (first | omega | decide); (first | omega | decide); exact rfl; (intro c hc; simp at hc; subst hc; exact rfl); intro w16 k16 hN16 hz16; simp only [Act.put, List.setIfInBounds_toArray, List.set_cons_succ, List.set_cons_zero]))
        | ((with_reducible refine' wpList_of_run (o := ⟨_, .build _ _, _, _, _, _⟩) (v := .agg #[.int .i64 27, .int .i64 0, .int .i64 0, .slice (some ⟨w15.heap.size, 0, none⟩) 1 1]) (w' := w16) ?_ ?_ ?_); exact rfl; kernel_rfl; simp only [Act.put, List.setIfInBounds_toArray, List.set_cons_succ, List.set_cons_zero])
        | (((with_reducible refine' wpList_alloc_blk (cs := nodz) 25 rfl ?_ zr_node ?_ ?_); exact rfl; exact nodz_cells; intro w17 k17 hN17 hz17; simp only [Act.put, List.setIfInBounds_toArray, List.set_cons_succ, List.set_cons_zero]))
        | (((with_reducible refine' wpList_store_blk (cs := [.int .i64 27, .int .i64 0, .int .i64 0, .slice (some ⟨w15.heap.size, 0, none⟩) 1 1]) 25 (.tmp 16) (.tmp 66) rfl ?_ ?_ ?_ k17 sz_node ?_ ?_ ?_ ?_); exact rfl; exact rfl; exact rfl; exact rfl; exact rfl; exact node4 _ _ _ _ rfl; intro w18 k18 hO18 hz18; simp only [Act.put])))
      obtain ⟨E, hE⟩ : ∃ E, w16.heap.size = E := ⟨_, rfl⟩
      have kE18 : Blk w18 E 25 [.int .i64 27, .int .i64 0, .int .i64 0, .slice (some ⟨w15.heap.size, 0, none⟩) 1 1] := by rw [← hE]; exact k18
      simp only [hE]
      have k16' : Blk w18 w15.heap.size 25 [.int .i64 26, .int .i64 n0, .int .i64 m0, v12] := by
        have h := hO18.blk (k16.below hN17 k16.lt) (by have := k16.lt; omega)
        simpa using h
      have hb1518 : Below w15.heap.size w15 w18 := (hN16.trans (hN17.mono hN16.size)).trans (hO18.below hN16.size (Nat.le_trans hN16.size hN17.size))
      have HDT := Lib.hid (show IsT w18 (.mk 27 0 0 [.mk 26 n0 m0 (us.take q ++ [deepT (9 + d9)])]) [.int .i64 27, .int .i64 0, .int .i64 0, .slice (some ⟨w15.heap.size, 0, none⟩) 1 1] from
        (IsTX.node (X := fun _ => True) (k16'.rdall 1 4 rfl (by unfold maxLen; omega)) (fun _ _ _ => trivial) (IsTsX.one ((HBT.out.below hb1518).isTX))).isT)
      have ZDD := Lib.hid (show tsize (.mk 27 0 0 [.mk 26 n0 m0 (us.take q ++ [deepT (9 + d9)])]) ≤ 1000000 by rw [tsize, tsizes, tsizes]; omega)
      have hbB18 : Below B wi w18 := hbB15.trans (hb1518.mono (by have := hbB15.size; omega))
      have hbw18 : Below wi.heap.size wi w18 := by rw [HBB.out]; exact hbB18
      have hb18 : Below w6.heap.size w6 w18 := hbi.trans (hbB18.mono (by omega))
      have kA18 := kA6.below hb18 l6A
      have kO18 := kO6.below hb18 l6O
      have kL18 := kLw.below hbB18 hLB
      have LT18 := HLT.out.below hbw18
      have r18 := r6.below hb18
      have D18 := hD6.below hb18
      have X18 := (HX6.out.below hb18).isT
      have hS18 := hS6.below hb18
      have hb118 := hb6.trans (hb18.mono hb6.size)
      obtain ⟨tl, htl⟩ : ∃ t, Tree.mk 27 n m (ts ++ List.replicate j (.mk 26 n0 m0 us)) = t := ⟨_, rfl⟩
      obtain ⟨td, htd⟩ : ∃ t, Tree.mk 27 0 0 [.mk 26 n0 m0 (us.take q ++ [deepT (9 + d9)])] = t := ⟨_, rfl⟩
      obtain ⟨tp, htp⟩ : ∃ t, Tree.mk 27 n m ts = t := ⟨_, rfl⟩
      obtain ⟨pc, hpc⟩ : ∃ c : List Value, [.int .i64 27, .int .i64 n, .int .i64 m, vp] = c := ⟨_, rfl⟩
      obtain ⟨lc, hlc⟩ : ∃ c : List Value, [.int .i64 27, .int .i64 n, .int .i64 m, v] = c := ⟨_, rfl⟩
      obtain ⟨dc, hdc⟩ : ∃ c : List Value, [.int .i64 27, .int .i64 0, .int .i64 0, .slice (some ⟨w15.heap.size, 0, none⟩) 1 1] = c := ⟨_, rfl⟩
      have ZLO := ZLL.out
      have ZDO := ZDD.out
      have HDT' := HDT.out
      rw [htl] at ZLO LT18
      rw [htd] at ZDO HDT'
      rw [htp] at X18 hzp HTV hzo
      rw [hpc] at kA18 X18
      rw [hlc] at kL18 LT18
      rw [hdc] at kE18 HDT'
      have PL := Lib.hid X18.len
      have LL := Lib.hid LT18.len
      have EL := Lib.hid HDT'.len
      clear HDT ZDD ZLL HLT HBT k16' k16 k17 k18 hN16 hN17 hz16 hz17 hO18 hz18 hb1518 hbB18 hbw18 hbB15 hbi15 kB15 hE htl htd hdc hlc HC0 T0 C0L C0O HU0 HR0 hRp HRp HTs HX6 hbi kLw kAw hD6 r6 hS6 hb6 CL CO X3 hpc htp PUT ysl hbB Y0 Y12 UO
      have hd : Below w18.heap.size w18 w18.drew := (Below.refl _ _).drew
      have CA : ∀ w', Below w18.heap.size w18 w' → Blk w' A 25 pc := fun w' h => kA18.below h kA18.lt
      have COO : ∀ w', Below w18.heap.size w18 w' → Blk w' O 25 os := fun w' h => kO18.below h kO18.lt
      have CLL : ∀ w', Below w18.heap.size w18 w' → Blk w' L 25 lc := fun w' h => kL18.below h kL18.lt
      have CE : ∀ w', Below w18.heap.size w18 w' → Blk w' E 25 dc := fun w' h => kE18.below h kE18.lt
      (refine wp_region_plan (fun w' => Below w18.heap.size w18 w') (.f 0 (.f 1 (.f 2 (.f 3 (.f 4 (.f 5 (.f 6 (.f 8 (.f 9 (.f 10 (.o 7 (.o 11 (.o 12 .tail))))))))))))) 13 (by kernel_rfl) (by kernel_rfl) (hd) ?_)
      (repeat (refine wpPlan_f rfl ?_; (first | ((with_reducible refine' wpQuietH_loadst_blk (.tmp 11) 25 rfl ?_ Tryd.underlying25 ?_ sz_node ?_ (CA) ?_ ?_ ?_); exact rfl; exact rfl; exact rfl; exact PL.out; decide; simp only [Act.put, List.setIfInBounds_toArray, List.set_cons_succ, List.set_cons_zero]) | ((with_reducible refine' wpQuietH_loadst_blk (.tmp 12) 25 rfl ?_ Tryd.underlying25 ?_ sz_node ?_ (COO) ?_ ?_ ?_); exact rfl; exact rfl; exact rfl; exact OL.out; decide; simp only [Act.put, List.setIfInBounds_toArray, List.set_cons_succ, List.set_cons_zero]) | ((with_reducible refine' wpQuietH_loadst_blk (.tmp 13) 25 rfl ?_ Tryd.underlying25 ?_ sz_node ?_ (CLL) ?_ ?_ ?_); exact rfl; exact rfl; exact rfl; exact LL.out; decide; simp only [Act.put, List.setIfInBounds_toArray, List.set_cons_succ, List.set_cons_zero]) | ((with_reducible refine' wpQuietH_loadst_blk (.tmp 16) 25 rfl ?_ Tryd.underlying25 ?_ sz_node ?_ (CE) ?_ ?_ ?_); exact rfl; exact rfl; exact rfl; exact EL.out; decide; simp only [Act.put, List.setIfInBounds_toArray, List.set_cons_succ, List.set_cons_zero]) | go_big_quiet_step (fail) | (go_big_quiet_want; go_big_quiet_op; refine ⟨_, fun _ _ => rfl, ?_⟩; go_big_quiet_on)); refine wpQuiet_nil ?_))
      have Dd := D18.below hd
      refine wpPlan_o rfl ?_
      go_wp2_with ((go_at_call 11; (with_reducible refine (spoilt_any tn os b (wrap64 (h.tdiv 6)) mo _ Dd (by omega) HB.out HH6.out HM.out).mono ?_); rintro e w' ⟨t3, es, rfl, hQ3, hz3, hN20⟩))
      have SL := Lib.hid hQ3.len
      have hc20 := hd.trans hN20
      refine ⟨rfl, hc20, ?_⟩
      refine wpPlan_o rfl ?_
      have r20 := r18.below hc20
      go_wp2_with ((go_at_call 10; (with_reducible refine (HC1.out _ r20).mono ?_); rintro e w' ⟨fs, rfl, hF, hN21⟩))
      have FL := Lib.hid hF.len
      have hc21 := hc20.trans (hN21.mono hc20.size)
      refine ⟨rfl, hc21, ?_⟩
      refine wpPlan_o rfl ?_
      have LEN6 : ∀ c ∈ [pc, os, es, lc, dc, fs], c.length = 4 := by
        intro c hc
        simp only [List.mem_cons, List.not_mem_nil, or_false] at hc
        rcases hc with rfl | rfl | rfl | rfl | rfl | rfl
        · exact PL.out
        · exact OL.out
        · exact SL.out
        · exact LL.out
        · exact EL.out
        · exact FL.out
      go_wp2_with (((with_reducible refine' wpList_build_sts (css := [pc, os, es, lc, dc, fs]) rfl ?_ Tryd.underlying23 inf_node ?_ ?_ ?_ ?_ ?_ ?_); exact rfl; exact rfl; (first | omega | decide); (first | omega | decide); exact rfl; exact LEN6; intro w22 k22 hN22 hz22; simp only [Act.put, List.setIfInBounds_toArray, List.set_cons_succ, List.set_cons_zero]))
      have hc22 := hc21.trans (hN22.mono hc21.size)
      refine ⟨rfl, hc22, ?_⟩
      refine wpPlan_tail ?_
      go_wp2_with fail
      refine onlyN ?_
      have HR : Rd w22 4 (.slice (some ⟨w'.heap.size, 0, none⟩) 6 6) 6 _ := k22.rdall 6 4 (by simp [PL.out, OL.out, SL.out, LL.out, EL.out, FL.out]) (by unfold maxLen; omega)
      have HTs : IsTs w22 [tp, tn, t3, tl, td, ta] [pc, os, es, lc, dc, fs].flatten := by
        have h1 := X18.below hc22
        have h2 := D18.below hc22
        have h3 := (hQ3.below hN21).below hN22
        have h4 := LT18.below hc22
        have h5 := HDT'.below hc22
        have h6 := hF.isT.below hN22
        simp only [List.flatten_cons, List.flatten_nil, List.append_nil]
        rw [IsTs]; refine ⟨pc, _, rfl, PL.out, h1, ?_⟩
        rw [IsTs]; refine ⟨os, _, rfl, OL.out, h2, ?_⟩
        rw [IsTs]; refine ⟨es, _, rfl, SL.out, h3, ?_⟩
        rw [IsTs]; refine ⟨lc, _, rfl, LL.out, h4, ?_⟩
        rw [IsTs]; refine ⟨dc, _, rfl, EL.out, h5, ?_⟩
        rw [IsTs]; refine ⟨fs, [], by rw [List.append_nil], FL.out, h6, ?_⟩
        rw [IsTs]
      have HZ : ∀ t ∈ [tp, tn, t3, tl, td, ta], tsize t ≤ 1000000 := by
        intro t ht
        simp only [List.mem_cons, List.not_mem_nil, or_false] at ht
        rcases ht with rfl | rfl | rfl | rfl | rfl | rfl <;> omega
      obtain ⟨v14, hv14⟩ : ∃ v, Value.slice (some ⟨w'.heap.size, 0, none⟩) 6 6 = v := ⟨_, rfl⟩
      rw [hv14] at HR ⊢
      obtain ⟨zs, hzs⟩ : ∃ xs, [pc, os, es, lc, dc, fs].flatten = xs := ⟨_, rfl⟩
      rw [hzs] at HR HTs
      obtain ⟨t6, ht6⟩ : ∃ t6, [tp, tn, t3, tl, td, ta] = t6 := ⟨_, rfl⟩
      rw [ht6] at HTs HZ
      have L6 := Lib.hid (show t6.length = 6 by rw [← ht6]; rfl)
      have HTs' := Lib.hid HTs
      have HZ' := Lib.hid HZ
      have kA22 := kA18.below hc22 kA18.lt
      have X22 := X18.below hc22
      have hS22 := hS18.below hc22
      have hb22 := hb118.trans (hc22.mono hb118.size)
      have ZP : tsize tp ≤ 1000000 := by omega
      have ZSL := Lib.hid (show zs.length = 24 from HR.1)
      clear hv14 hzs ht6 HTs HZ LEN6 hc20 hc21 hc22 hN20 hN21 hN22 hz22 k22 hF hQ3 hd CA COO CLL CE kA18 kO18 kL18 kE18 X18 LT18 HDT' D18 Dd r18 r20 hb118 hb18 hS18 HC1
      go_upto_region 14 with fail
      go_loopw [18] (fun i wr => ∃ j : Nat, j ≤ 6 ∧ i = .int .i64 (j : Int) ∧ Below w22.heap.size w22 wr) (fun i _ => 6 - (intOf i).toNat)
      case atStart => exact ⟨0, by omega, rfl, Below.refl _ _⟩
      case round =>
        obtain ⟨i, hi, rfl, hbk⟩ := hrel
        obtain ⟨wk, rfl⟩ : ∃ wo : World, wo = wr := ⟨_, rfl⟩
        have hrk := HR.below hbk
        by_cases hi6 : i < 6
        · have LI : decide ((i : Int) < 6) = true := by rw [decide_eq_true_eq]; omega
          obtain ⟨ti, hti⟩ := kid_at (ts := t6) (i := i) (by rw [L6.out]; exact hi6)
          obtain ⟨ci, hci⟩ : ∃ c, (zs.drop (i * 4)).take 4 = c := ⟨_, rfl⟩
          have HCI := Lib.hid hci
          have BDI := Lib.hid (show i * 4 + 4 ≤ zs.length by rw [ZSL.out]; omega)
          have TI := Lib.hid (show IsT w22 ti ci by have h := IsTs.get HTs'.out hti; rw [hci] at h; exact h)
          have ZI := HZ'.out ti (List.mem_of_getElem? hti)
          have hd : Below wk.heap.size wk wk.drew := (Below.refl _ _).drew
          have p1 := (TI.out.below hbk).below hd
          have S1 := (hS22.below hbk).below hd
          clear hci hti
          go_upto_region 16 with (first | ((with_reducible refine' wpList_len_rd (.tmp 81) 23 rfl ?_ Tryd.underlying23 ?_ hrk ?_); exact rfl; exact rfl; simp only [Act.put, List.setIfInBounds_toArray, List.set_cons_succ, List.set_cons_zero]))
          (refine wp_region_plan (fun w' => Below wk.heap.size wk w') (.f 0 (.f 1 (.f 2 (.f 3 (.f 5 (.f 6 (.f 7 (.f 8 (.o 4 (.o 9 (.f 10 .tail))))))))))) 11 (by kernel_rfl) (by kernel_rfl) (hd) ?_)
          (repeat (refine wpPlan_f rfl ?_; (first | ((with_reducible refine' wpQuiet_at_rd (.tmp 86) (.tmp 87) 23 rfl ?_ Tryd.underlying23 sz_node ?_ hrk (by decide) (i) ?_ ?_ ?_); exact rfl; exact rfl; (show (_ : Int) = _; omega); omega; simp only [Act.put, List.setIfInBounds_toArray, List.set_cons_succ, List.set_cons_zero]) | ((with_reducible refine' wpQuietC_load_st (cov_below _) (cp := ci) (.tmp 88) 25 rfl ?_ Tryd.underlying25 ?_ sz_node ?_ hrk ?_ ?_ HCI.out ?_); exact rfl; exact rfl; exact rfl; exact BDI.out; decide; simp only [Act.put, List.setIfInBounds_toArray, List.set_cons_succ, List.set_cons_zero]) | ((with_reducible refine' wpQuiet_at_rd (.tmp 91) (.tmp 92) 23 rfl ?_ Tryd.underlying23 sz_node ?_ hrk (by decide) (i) ?_ ?_ ?_); exact rfl; exact rfl; (show (_ : Int) = _; omega); omega; simp only [Act.put, List.setIfInBounds_toArray, List.set_cons_succ, List.set_cons_zero]) | ((with_reducible refine' wpQuietC_load_st (cov_below _) (cp := ci) (.tmp 93) 25 rfl ?_ Tryd.underlying25 ?_ sz_node ?_ hrk ?_ ?_ HCI.out ?_); exact rfl; exact rfl; exact rfl; exact BDI.out; decide; simp only [Act.put, List.setIfInBounds_toArray, List.set_cons_succ, List.set_cons_zero]) | go_big_quiet_step (fail) | (go_big_quiet_want; go_big_quiet_op; refine ⟨_, fun _ _ => rfl, ?_⟩; go_big_quiet_on)); refine wpQuiet_nil ?_))
          refine wpPlan_o rfl ?_
          go_wp2_with ((go_at_call 22; (with_reducible refine (valid_any ti ci _ p1 S1 ZI).mono ?_); rintro e w' ⟨rfl, hN23⟩))
          have hc23 := hd.trans hN23
          have p2 := p1.below hN23
          refine ⟨rfl, hc23, ?_⟩
          refine wpPlan_o rfl ?_
          go_wp2_with ((go_at_call 23; (with_reducible refine (refvalid_any ti ci _ p2 ZI).mono ?_); rintro e w' ⟨rfl, hN24⟩))
          have hc24 := hc23.trans (hN24.mono hc23.size)
          refine ⟨rfl, hc24, ?_⟩
          (repeat (refine wpPlan_f rfl ?_; (first | fail | go_big_quiet_step (fail) | (go_big_quiet_want; go_big_quiet_op; refine ⟨_, fun _ _ => rfl, ?_⟩; go_big_quiet_on)); refine wpQuiet_nil ?_))
          refine wpPlan_tail ?_
          go_wp2_with fail
          refine onlyN ?_
          have hb2 := hbk.trans (hc24.mono hbk.size)
          go_wp2_with fail
          go_roundw
          case rel => (first | exact ⟨i + 1, by omega, by go_num, hb2⟩ | ((repeat apply Exists.intro); exact ⟨⟨i + 1, by omega, by go_num, hb2⟩, rfl⟩))
          case measure => simp [intOf]; omega
        · obtain rfl : i = 6 := by omega
          have kAk := kA22.below hbk kA22.lt
          have Xk := X22.below hbk
          have Sk := hS22.below hbk
          have hbw := hb22.trans (hbk.mono hb22.size)
          go_wp2_with (first
            | ((with_reducible refine' wpList_len_rd (.tmp 81) 23 rfl ?_ Tryd.underlying23 ?_ hrk ?_); exact rfl; exact rfl; simp only [Act.put, List.setIfInBounds_toArray, List.set_cons_succ, List.set_cons_zero])
            | ((with_reducible refine' wpList_loadst_blk (.tmp 11) 25 rfl ?_ Tryd.underlying25 ?_ sz_node ?_ kAk ?_ ?_ ?_); exact rfl; exact rfl; exact rfl; exact PL.out; decide; simp only [Act.put, List.setIfInBounds_toArray, List.set_cons_succ, List.set_cons_zero])
            | ((go_at_call 22; (with_reducible refine (valid_any tp pc _ Xk Sk ZP).mono ?_); rintro e w' ⟨rfl, hN25⟩); rw [HTV.out]; have S25 := (Sk.below hN25).sht)
            | ((go_at_call 21; (with_reducible refine (lives_any _ S25).mono ?_); rintro e w' ⟨rfl, hN26⟩)))
          go_ret
          have hb25 := hbw.trans (hN25.mono hbw.size)
          exact ⟨rfl, hb25.trans (hN26.mono hb25.size)⟩
end Go.Proofs.YtdlhkhnoigbhjaaDoor.Wi
namespace Go.Proofs.YtdlhkhnoigbhjaaDoor.treeValid
open Go.ChangeShapes Go.WideShapes Go.ChangeAt Go.RowKit
open Go.Proofs.YtdlhkhnoigbhjaaDoor.Wi Go.Proofs.YtdlhkhnoigbhjaaDoor.Pu Go.Proofs.YtdlhkhnoigbhjaaDoor.Lb
set_option linter.unusedVariables false

theorem own : ownKnob Tryd.prog.godebug = none := by kernel_rfl
theorem laidOut : laidOutB Tryd.prog = true := by kernel_rfl

set_option maxRecDepth 100000 in
theorem lifted (os : Os) (started : os.Started) (H : Type) (enc : TypeId × Value → H) :
    ReturnsInHanded {} Tryd.checked os 4 .any (fun w args => (Rows.treeValidSpec.pre enc Tryd.prog Tryd.f4 [] false w args ∧ laidMetH Tryd.prog lT w) ∧ sizedMet enc Tryd.prog Tryd.f4 (OpenSpec.ofChange Rows.treeValidSpec) false w args) (Rows.treeValidSpec.post enc Tryd.prog Tryd.f4 false true false false) := by
  refine returnsInHanded_of_change_and (C := Tryd.checked) (X := fun w _ => laidMetH Tryd.prog lT w) (fun _ _ _ hh h => h.of_heap hh) own started (by kernel_rfl) Tryd.func4
    (ChangeSpec.witness_shaped (enc := enc) (C := Tryd.checked) (os := os) (X := fun w _ => laidMetH Tryd.prog lT w) false (World.doorLaid Tryd.prog 4000 os) #[.slice none 0 0, .int .i64 0, .int .i64 0, .int .i64 0, .int .i64 0] 8 rfl (World.shaped_of_RefB (by kernel_rfl) (by kernel_rfl)) (by kernel_rfl) (by kernel_rfl) (by kernel_rfl) (doorT os _)) ?_
  intro W base args ds gs before hval0 hW hcnd hk hL _
  have hT := shF_of hL
  have hval : ∀ (j : Nat) t v, Tryd.f4.params[j]? = some t → args[j]? = some v → Value.okWide Tryd.prog W .any base t v := hval0
  have hW' := hW
  obtain ⟨p, q, hA0, hV, rfl, hfz, hnd⟩ := hW
  have hA : DataW.TrodAll enc Tryd.prog W 0 (fun _ => true) true Tryd.f4.params.toList args.toList ds p := hA0
  rw [Tryd.params4] at hA hval
  obtain ⟨v0, vs0, d0, ds0, p0, q0, hargs, rfl, rfl, h0, t0⟩ := trodAll_cons hA
  obtain ⟨v1, vs1, d1, ds1, p1, q1, rfl, rfl, rfl, h1, t1⟩ := trodAll_cons t0
  obtain ⟨v2, vs2, d2, ds2, p2, q2, rfl, rfl, rfl, h2, t2⟩ := trodAll_cons t1
  obtain ⟨v3, vs3, d3, ds3, p3, q3, rfl, rfl, rfl, h3, t3⟩ := trodAll_cons t2
  obtain ⟨v4, vs4, d4, ds4, p4, q4, rfl, rfl, rfl, h4, t4⟩ := trodAll_cons t3
  obtain ⟨rfl, rfl, rfl⟩ := trodAll_nil t4
  obtain rfl : args = #[v0, v1, v2, v3, v4] := by cases args; simp_all
  obtain ⟨rfl, rfl⟩ := trodVars_none hV
  clear hA0 hval0
  have b0 : ∀ x ∈ p0, x.block < W.heap.size := by obtain ⟨m, hm⟩ := h0; exact DataW.trod_lt m _ _ _ hm
  have k0 := h0
  have b1 : ∀ x ∈ p1, x.block < W.heap.size := by obtain ⟨m, hm⟩ := h1; exact DataW.trod_lt m _ _ _ hm
  have k1 := h1
  have b2 : ∀ x ∈ p2, x.block < W.heap.size := by obtain ⟨m, hm⟩ := h2; exact DataW.trod_lt m _ _ _ hm
  have k2 := h2
  have b3 : ∀ x ∈ p3, x.block < W.heap.size := by obtain ⟨m, hm⟩ := h3; exact DataW.trod_lt m _ _ _ hm
  have k3 := h3
  have b4 : ∀ x ∈ p4, x.block < W.heap.size := by obtain ⟨m, hm⟩ := h4; exact DataW.trod_lt m _ _ _ hm
  have k4 := h4
  obtain ⟨l0, ok0, r0, e0⟩ := op_ints Tryd.underlying22 Tryd.underlying3 (by kernel_rfl) (hval 0 22 v0 rfl rfl) h0
  have n0 := sized_elems hk (j := 0) rfl rfl Tryd.underlying22 e0 (b := 8) (by kernel_rfl)
  obtain ⟨z1, rfl, wf1⟩ := op_int Tryd.underlying3 (hval 1 3 v1 rfl rfl) h1
  obtain ⟨z2, rfl, wf2⟩ := op_int Tryd.underlying3 (hval 2 3 v2 rfl rfl) h2
  obtain ⟨z3, rfl, wf3⟩ := op_int Tryd.underlying3 (hval 3 3 v3 rfl rfl) h3
  obtain ⟨z4, rfl, wf4⟩ := op_int Tryd.underlying3 (hval 4 3 v4 rfl rfl) h4
  have walk : Calls Tryd.prog 4 #[v0, .int .i64 z1, .int .i64 z2, .int .i64 z3, .int .i64 z4] W fun e w' => e = .returned (.bool true) ∧ Below W.heap.size W w' := by
    exact law_valid l0 z1 z2 z3 z4 v0 W ok0 (wf_i64 wf1) (wf_i64 wf2) (wf_i64 wf3) (wf_i64 wf4) r0 hT
  refine walk.mono fun e W' ⟨he, bel⟩ => ?_
  subst he
  exact ⟨_, rfl, _, _, _, [], _, [], hW', trodAll_mk1 (shut_bool Tryd.underlying4 _), (trodAll_cons_mk (Below.trod laidOut (by kernel_rfl) (of_decide_eq_true (by kernel_rfl)) k0 bel b0) (trodAll_cons_mk (Below.trod laidOut (by kernel_rfl) (of_decide_eq_true (by kernel_rfl)) k1 bel b1) (trodAll_cons_mk (Below.trod laidOut (by kernel_rfl) (of_decide_eq_true (by kernel_rfl)) k2 bel b2) (trodAll_cons_mk (Below.trod laidOut (by kernel_rfl) (of_decide_eq_true (by kernel_rfl)) k3 bel b3) (trodAll_cons_mk (Below.trod laidOut (by kernel_rfl) (of_decide_eq_true (by kernel_rfl)) k4 bel b4) trodAll_mk0))))), rfl, bel.frame _, fun h => by cases h⟩

theorem over : Rows.treeValidRow.holds Tryd.pinned (OpenSpec.ofChange Rows.treeValidSpec) :=
  OpenClaim.holds_of_wide 4 Tryd.f4 rfl rfl rfl rfl rfl rfl rfl ⟨rfl, rfl, rfl, rfl, rfl⟩ rfl rfl rfl rfl rfl (by kernel_rfl) Tryd.func4 (by kernel_rfl)
    (of_decide_eq_true (by kernel_rfl)) (by unfold Func.isWrapper; first | (rw [if_pos (by decide +kernel)]; kernel_rfl) | (rw [if_neg (by decide +kernel)]; exact ⟨rfl, rfl⟩))
    (fun os started H enc _ => lifted os started H enc)

theorem proved : Rows.TreeValidCardSaid :=
  Claim7.holds_tied_plain_at .later [] [.widerDeep] true (true, _) false
    over (fun _ h => by cases h) (by kernel_rfl) (fun _ h => by cases h) treeValid_row_tie rfl ⟨rfl, rfl⟩ (by kernel_rfl) rfl
    (fun f fn hf hfn => by
      obtain rfl : f = 4 := Option.some.inj ((show Tryd.prog.funcNamed "scoria/scorialaw05.TreeValid" = some 4 by kernel_rfl).symm.trans hf) |>.symm
      obtain rfl : fn = Tryd.f4 := (Option.some.inj (Tryd.func4.symm.trans hfn)).symm
      exact ⟨by kernel_rfl, fun j t ht => by
        rw [Tryd.params4] at ht
        have hm : t ∈ [22, 3, 3, 3, 3] := by simpa using Array.mem_of_getElem? ht
        have hall : ([22, 3, 3, 3, 3].all fun u => !Tryd.prog.wantsStandIn u) = true := by kernel_rfl
        exact (show Tryd.prog.wantsStandIn t = false by simpa using List.all_eq_true.1 hall t hm)⟩)
    (by kernel_rfl)
#print axioms proved
end Go.Proofs.YtdlhkhnoigbhjaaDoor.treeValid
