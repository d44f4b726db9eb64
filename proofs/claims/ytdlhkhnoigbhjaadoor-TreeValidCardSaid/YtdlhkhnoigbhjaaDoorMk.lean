/-
  Tgp, Tgz, Tlf, Tff: my texts of these names, one behind the other. Conditions: those that each law names.
-/
import Derived.Test.YtdlhkhnoigbhjaaDoorMj
import Derived.Test.YtdlhkhnoigbhjaaDoorMf
import Derived.Test.YtdlhkhnoigbhjaaDoorMe
import Derived.Test.YtdlhkhnoigbhjaaDoorMh
import Derived.Test.YtdlhkhnoigbhjaaDoorMa
import Derived.Test.YtdlhkhnoigbhjaaDoorMi
import Derived.Test.YtdlhkhnoigbhjaaDoorMb
namespace Go.Proofs.YtdlhkhnoigbhjaaDoor.Pu
/-- what a function's variables have to be -/
def vWant (n : Int) (j : Nat) : Int := if (j : Int) < n then 3 else 2
theorem snoc_fit {f : Nat → Int} {ts : List Tree} {t : Tree} (h : ∀ j u, ts[j]? = some u → tfits u (f j) = true) (ht : tfits t (f ts.length) = true) : ∀ j u, (ts ++ [t])[j]? = some u → tfits u (f j) = true := by
  intro j u hj
  rcases Nat.lt_trichotomy j ts.length with hlt | heq | hgt
  · rw [List.getElem?_append_left hlt] at hj; exact h j u hj
  · subst heq; rw [List.getElem?_append_right (Nat.le_refl _), Nat.sub_self] at hj; simp at hj; subst hj; exact ht
  · rw [List.getElem?_eq_none (by simp; omega)] at hj; cases hj
end Go.Proofs.YtdlhkhnoigbhjaaDoor.Pu
namespace Go.Proofs.YtdlhkhnoigbhjaaDoor.Wi
open Go Go.RowKit Pu Lb
set_option linter.unusedSimpArgs false
set_option linter.unusedVariables false
theorem kids_step {w10 w11 w12 : World} {X : Nat → Prop} {v v' : Value} {ts : List Tree} {xs : List Value} {t1 : Tree} {cs1 : List Value} (HT : IsTsX (fun b => X b ∧ v.ownBlock ≠ some b) w10 ts xs)
    (hT1 : IsTX (fun b => X b ∧ v.ownBlock ≠ some b) w10 t1 cs1) (hN11 : Below w10.heap.size w10 w11) (hg : w11.grownBy w12 v.ownBlock) (hst : Stayed w11 v v') :
    IsTsX (fun b => X b ∧ v'.ownBlock ≠ some b) w12 (ts ++ [t1]) (xs ++ cs1) := by
  have h1 : IsTsX (fun b => (X b ∧ v.ownBlock ≠ some b) ∧ b < w11.heap.size) w11 ts xs := (HT.below hN11).lt
  have h2 : IsTX (fun b => (X b ∧ v.ownBlock ≠ some b) ∧ b < w11.heap.size) w11 t1 cs1 := (hT1.below hN11).lt
  have h3 := h1.snoc h2
  exact (h3.keep (Keep.grown hg fun b h => fun e => h.1.2 e.symm)).mono fun b h => ⟨h.1.1, fun e => hst.ne (fun e2 => h.1.2 e2.symm) h.2 e.symm⟩
set_option maxRecDepth 100000 in
set_option maxHeartbeats 3200000 in
theorem program_any (l : List Int) (hl : ∀ x ∈ l, I64 x) (v : Value) (w : World) (hr : Rd w 1 v l.length (iv l)) :
    Calls Tryd.prog 12 #[v] w fun e w' => ∃ t cs, e = .returned (.agg cs.toArray) ∧ IsTX (fun b => w.heap.size ≤ b) w' t cs ∧ Below w.heap.size w w' ∧ tfits t 0 = true ∧ tsize t ≤ 200 ∧ tdepth t ≤ 11 := by
  have HL := Lib.hid hl
  obtain ⟨ad, cap, rfl⟩ : ∃ ad cap, v = .slice ad l.length cap := by obtain ⟨_, ad, cap, h, _⟩ := hr; exact ⟨ad, cap, h⟩
  clear hl
  go_enter Tryd.func12, Tryd.ntmps12
  go_upto_region 1 with (((with_reducible refine' wpList_alloc_blk (cs := nodz) 25 rfl ?_ zr_node ?_ ?_); exact rfl; exact nodz_cells; intro w1 kR hN1 hz1; simp only [Act.put, List.setIfInBounds_toArray, List.set_cons_succ, List.set_cons_zero]))
  have lR := kR.lt
  go_upto_region 2 with (first
    | ((with_reducible refine' wpList_of_run (o := ⟨_, .build _ _, _, _, _, _⟩) (v := .agg #[.slice ad l.length cap, .int .i64 0, .int .i64 45]) (w' := w1) ?_ ?_ ?_); exact rfl; kernel_rfl; simp only [Act.put, List.setIfInBounds_toArray, List.set_cons_succ, List.set_cons_zero])
    | (((with_reducible refine' wpList_boxa (cs := [.slice ad l.length cap, .int .i64 0, .int .i64 45]) 66 (.tmp 12) rfl ?_ ?_ ?_); exact rfl; exact rfl; intro w2 kB hN2 hz2; simp only [Act.put, List.setIfInBounds_toArray, List.set_cons_succ, List.set_cons_zero])))
  have s1 := hN1.size
  have hM : Mk w w2 w1.heap.size l 0 45 := ⟨_, kB, hr, hN1.size, hN1.trans (hN2.mono hN1.size)⟩
  obtain ⟨R, hR⟩ : ∃ R, w.heap.size = R := ⟨_, rfl⟩
  obtain ⟨B, hB⟩ : ∃ B, w1.heap.size = B := ⟨_, rfl⟩
  rw [hR] at kR lR
  rw [hB] at hM kB
  rw [hR, hB]
  replace kR := kR.below hN2 lR
  have hO : Only B w w2 := (Only.refl B w).belows (hN1.trans (hN2.mono hN1.size))
  have lB := kB.lt
  clear hz1 hz2 hN1 hN2 kB
  go_upto_region 3 with (first
    | ((go_at_call 47; (with_reducible refine (num_ex w B l _ _ 4 _ hM HL.out (by omega) (by omega) (by unfold I64; omega)).mono ?_); rintro e w' ⟨c, rfl, hc0, hc1, hM2, hO2⟩); replace hM := hM2; replace hO := hO.trans' hO2; replace kR := hO2.blk kR (by omega); have sq1 := hO2.size; clear hM2 hO2)
    | ((with_reducible refine' wpList_of_run (o := ⟨_, .build _ _, _, _, _, _⟩) (v := .agg #[.int .i64 27, .int .i64 c, .int .i64 0, .slice none 0 0]) (w' := _) ?_ ?_ ?_); exact rfl; kernel_rfl; simp only [Act.put, List.setIfInBounds_toArray, List.set_cons_succ, List.set_cons_zero])
    | (((with_reducible refine' wpList_alloc_blk (cs := nodz) 25 rfl ?_ zr_node ?_ ?_); exact rfl; exact nodz_cells; intro w3 kP hN3 hz3; simp only [Act.put, List.setIfInBounds_toArray, List.set_cons_succ, List.set_cons_zero]))
    | ((with_reducible refine' wpList_store_blk (cs := [.int .i64 27, .int .i64 c, .int .i64 0, .slice none 0 0]) 25 (.tmp 4) (.tmp 16) rfl ?_ ?_ ?_ kP sz_node ?_ ?_ ?_ ?_); exact rfl; exact rfl; exact rfl; exact rfl; exact rfl; exact node_ones rfl; intro w4 kP4 hO4 hz4; simp only [Act.put]))
  obtain ⟨P, hP⟩ : ∃ P, w'.heap.size = P := ⟨_, rfl⟩
  rw [hP] at kP4 hO4 ⊢
  have sq2 := hN3.size
  replace kR := hO4.blk (kR.below hN3 kR.lt) (by omega)
  replace hM := (hM.below hN3).only hO4 (by omega) (by omega)
  replace hO := (hO.belows hN3).far hO4 (by omega)
  have lP := kP4.lt
  clear hN3 hO4 hz3 hz4 kP
  go_upto_region 4 with (first
    | ((go_at_call 47; (with_reducible refine (num_ex w B l _ _ 3 _ hM HL.out (by omega) (by omega) (by unfold I64; omega)).mono ?_); rintro e w' ⟨f0, rfl, hf0, hf1, hM2, hO2⟩); replace hM := hM2; replace hO := hO.trans' hO2; replace kR := hO2.blk kR (by omega); replace kP4 := hO2.blk kP4 (by omega); have sq3 := hO2.size; clear hM2 hO2))
  obtain ⟨K, hK⟩ : ∃ K : Nat, f0 = (K : Int) := ⟨f0.toNat, by omega⟩
  subst hK
  go_upto_region 5 with fail
  go_loopw [6] (fun i wr => ∃ (j a : Nat) (fs : List Tree) (L : Int) (v : Value) (xs : List Value), i = .int .i64 (j : Int) ∧ fs.length = j ∧ j ≤ K + 1 ∧ wr.ownsRow (P + 1) 25 4 v j xs ∧ Hid (IsTsX (fun b => P < b ∧ v.ownBlock ≠ some b) wr fs xs) ∧
    Blk wr P 25 [.int .i64 27, .int .i64 c, .int .i64 0, v] ∧ Blk wr R 25 nodz ∧ Mk w wr B l a L ∧ Only B w wr ∧ Hid (∀ t ∈ fs, tfits t 1 = true) ∧ tdepths fs ≤ 10 ∧ (tsizes fs : Int) ≤ 15 * (j : Int) + 45 - L ∧ (a : Int) + 3 * L ≤ 1000 + 100 * (j : Int) ∧ -104 - (j : Int) ≤ L ∧ L ≤ 45) (fun i _ => K + 1 - (intOf i).toNat)
  case atStart => exact ⟨0, _, [], 45, .slice none 0 0, [], rfl, rfl, Nat.zero_le _, World.ownsRow_nil _ _ _ _, Lib.hid IsTsX.nil, kP4, kR, hM, hO, Lib.hid (by intro t ht; cases ht), by rw [tdepths]; omega, by rw [tsizes]; omega, by omega, by omega, by omega⟩
  case round =>
    obtain ⟨jo, a, fs, L, vo, xo, rfl, hfs, hj, howno, HTo, kP, kR, hM, hO, HFo, hd1, hd2, hd3, hd4, hd5⟩ := hrel
    obtain ⟨wo, rfl⟩ : ∃ wo : World, wo = wr := ⟨_, rfl⟩
    by_cases hlt : jo < K + 1
    · have hK3 : K ≤ 2 := by omega
      have hOout := hO
      clear hO
      have sO0 := hOout.size
      have lP0 := kP.lt
      have lB0 : B < wo.heap.size := by obtain ⟨lv, h, _⟩ := hM; exact h.lt
      have hOo : Only B wo wo := Only.refl _ _
      go_upto_region 8 with (first
        | ((go_at_call 47; (with_reducible refine (num_ex w B l _ _ 3 _ hM HL.out (by omega) (by omega) (by unfold I64; omega)).mono ?_); rintro e w' ⟨n, rfl, hn0, hn1, hM2, hO2⟩); replace hM := hM2; replace hOo := hO2; have sq4 := hO2.size; clear hM2 hO2)
        | ((with_reducible refine' wpList_of_run (o := ⟨_, .build _ _, _, _, _, _⟩) (v := .agg #[.int .i64 26, .int .i64 n, .int .i64 0, .slice none 0 0]) (w' := _) ?_ ?_ ?_); exact rfl; kernel_rfl; simp only [Act.put, List.setIfInBounds_toArray, List.set_cons_succ, List.set_cons_zero])
        | (((with_reducible refine' wpList_alloc_blk (cs := nodz) 25 rfl ?_ zr_node ?_ ?_); exact rfl; exact nodz_cells; intro w3 kF hN3 hz3; simp only [Act.put, List.setIfInBounds_toArray, List.set_cons_succ, List.set_cons_zero]))
        | ((with_reducible refine' wpList_store_blk (cs := [.int .i64 26, .int .i64 n, .int .i64 0, .slice none 0 0]) 25 (.tmp 7) (.tmp 27) rfl ?_ ?_ ?_ kF sz_node ?_ ?_ ?_ ?_); exact rfl; exact rfl; exact rfl; exact rfl; exact rfl; exact node_ones rfl; intro w4 kF4 hO4 hz4; simp only [Act.put]))
      obtain ⟨F, hF⟩ : ∃ F, w'.heap.size = F := ⟨_, rfl⟩
      rw [hF] at kF4 hO4 ⊢
      have sq5 := hN3.size
      replace hM := (hM.below hN3).only hO4 (by omega) (by omega)
      replace hOo := (hOo.belows hN3).far hO4 (by omega)
      have lF := kF4.lt
      clear hN3 hO4 hz3 hz4 kF
      have XN := Lib.hid (show ([.int .i64 26, .int .i64 n, .int .i64 0, .slice none 0 0] : List Value)[1]? = some (.int .i64 n) from rfl)
      have hbd : Below w4.heap.size w4 w4.drew := (Below.refl _ _).drew
      have kFd := kF4.below hbd lF
      replace hM := hM.below hbd
      replace hOo := hOo.belows hbd
      (refine wp_region_plan (fun w' => Blk w' F 25 [.int .i64 26, .int .i64 n, .int .i64 0, .slice none 0 0]) (.f 0 (.f 1 (.f 2 (.o 3 (.f 4 .tail))))) 5 (by kernel_rfl) (by kernel_rfl) (kFd) ?_)
      (repeat (refine wpPlan_f rfl ?_; (first | ((with_reducible refine' wpQuietM_field (k := 0) (j := 1) (.tmp 7) 25 1 rfl ?_ fo_node_1 ?_ rfl ?_); exact rfl; rotate_left; exact rfl; simp only [Act.put, List.setIfInBounds_toArray, List.set_cons_succ, List.set_cons_zero]) | ((with_reducible refine' wpQuietB_load_blk (.tmp 28) 3 rfl ?_ ld_int ?_ XN.out ?_); exact rfl; exact rfl; simp only [Act.put, List.setIfInBounds_toArray, List.set_cons_succ, List.set_cons_zero]) | go_big_quiet_step (fail) | (go_big_quiet_want; go_big_quiet_op; refine ⟨_, fun _ _ => rfl, ?_⟩; go_big_quiet_on)); refine wpQuiet_nil ?_))
      refine wpPlan_o rfl ?_
      go_wp2_with ((go_at_call 47; (with_reducible refine (num_ex w B l _ _ 3 _ hM HL.out (by omega) (by omega) (by unfold I64; omega)).mono ?_); rintro e w' ⟨m0, rfl, hm0, hm1, hM2, hO2⟩))
      have kF5 := hO2.blk kFd (by omega)
      refine ⟨rfl, kF5, ?_⟩
      (repeat (refine wpPlan_f rfl ?_; (first | fail | go_big_quiet_step (fail) | (go_big_quiet_want; go_big_quiet_op; refine ⟨_, fun _ _ => rfl, ?_⟩; go_big_quiet_on)); refine wpQuiet_nil ?_))
      refine wpPlan_tail ?_
      go_wp2_with fail
      refine onlyN ?_
      replace hOo := hOo.trans' hO2
      replace hM := hM2
      have lF5 := kF5.lt
      clear hO2 hM2 kFd kF4 hbd XN
      obtain ⟨V, hV⟩ : ∃ V : Nat, n + m0 = (V : Int) := ⟨(n + m0).toNat, by omega⟩
      rw [hV]
      go_upto_region 10 with fail
      go_loopw [9] (fun i wr => ∃ (j a' : Nat) (ts : List Tree) (v : Value) (xs : List Value), i = .int .i64 (j : Int) ∧ ts.length = j ∧ j ≤ V ∧ wr.ownsRow (F + 1) 25 4 v j xs ∧ Hid (IsTsX (fun b => F < b ∧ v.ownBlock ≠ some b) wr ts xs) ∧
        Blk wr F 25 [.int .i64 26, .int .i64 n, .int .i64 0, v] ∧ Mk w wr B l a' L ∧ Only B wo wr ∧ Hid (∀ j u, ts[j]? = some u → tfits u (vWant n j) = true) ∧ tdepths ts ≤ 2 ∧ tsizes ts ≤ 3 * j ∧ a ≤ a' ∧ a' ≤ a + 2 + 6 * j) (fun i _ => V - (intOf i).toNat)
      case atStart => exact ⟨0, _, [], .slice none 0 0, [], rfl, rfl, Nat.zero_le _, World.ownsRow_nil _ _ _ _, Lib.hid IsTsX.nil, kF5, hM, hOo, Lib.hid (by intro j u hj; simp at hj), by rw [tdepths]; omega, by rw [tsizes]; omega, by omega, by omega⟩
      case round =>
        clear hM hOo kF5
        obtain ⟨j, a', ts, v, xs, rfl, hts, hjV, hown, HT, kF, hM, hO, HF, he1, he2, he3, he4⟩ := hrel
        obtain ⟨w5, rfl⟩ : ∃ w5 : World, w5 = wr := ⟨_, rfl⟩
        by_cases hlt2 : j < V
        · have lFr := kF.lt
          have ha5 : a ≤ 5000 := by omega
          clear hd1 hd2 hd3 hd4 hd5 hOout hfs kP kR HTo howno HFo hK3 hlt hj sq1 sq2 sq3 lP lP0 hP hr hf0 hf1 hc0 hc1 lR
          have XN := Lib.hid (show ([.int .i64 26, .int .i64 n, .int .i64 0, v] : List Value)[1]? = some (.int .i64 n) from rfl)
          go_upto_region 13 with (first
            | ((go_at_call 47; (with_reducible refine (num_ex w B l _ _ 2 _ hM HL.out (by omega) (by omega) (by unfold I64; omega)).mono ?_); rintro e w' ⟨k, rfl, hk0, hk1, hM2, hO2⟩); replace hM := hM2; replace hO := hO.trans' hO2; replace kF := hO2.blk kF (by omega); replace HT := Lib.hid (HT.out.only hO2 (fun b h => by omega)); replace hown := own_only hown hO2 (own_ne hown (by omega)); have sq := hO2.size; skip; clear hM2 hO2)
            | ((with_reducible refine' wpList_of_run (o := ⟨_, .build _ _, _, _, _, _⟩) (v := .agg #[.int .i64 k, .int .i64 0, .int .i64 0, .slice none 0 0]) (w' := _) ?_ ?_ ?_); exact rfl; kernel_rfl; simp only [Act.put, List.setIfInBounds_toArray, List.set_cons_succ, List.set_cons_zero])
            | (((with_reducible refine' wpList_alloc_blk (cs := nodz) 25 rfl ?_ zr_node ?_ ?_); exact rfl; exact nodz_cells; intro w6 kT0 hN6 hz6; simp only [Act.put, List.setIfInBounds_toArray, List.set_cons_succ, List.set_cons_zero]))
            | ((with_reducible refine' wpList_store_blk (cs := [.int .i64 k, .int .i64 0, .int .i64 0, .slice none 0 0]) 25 (.tmp 10) (.tmp 40) rfl ?_ ?_ ?_ kT0 sz_node ?_ ?_ ?_ ?_); exact rfl; exact rfl; exact rfl; exact rfl; exact rfl; exact node_ones rfl; intro w7 kT hO7 hz7; simp only [Act.put]))
          obtain ⟨T, hT⟩ : ∃ T, w'.heap.size = T := ⟨_, rfl⟩
          rw [hT] at kT hO7 ⊢
          have sz6 := hN6.size
          have hvT0 : v.ownBlock ≠ some T := fun e => by have := (hown.lt T e).2; omega
          have lF6 := kF.lt
          have szo := hO.size
          replace HT := Lib.hid (show IsTsX (fun b => (F < b ∧ b ≠ T) ∧ v.ownBlock ≠ some b) w7 ts xs from (((HT.out.lt).below hN6).only hO7 (fun b h => by omega)).mono (fun b h => ⟨⟨h.1.1, by omega⟩, h.1.2⟩))
          replace kF := hO7.blk (kF.below hN6 lF6) (by omega)
          replace hown := own_only (own_below hown hN6) hO7 hvT0
          replace hM := (hM.below hN6).only hO7 (by omega) (by omega)
          replace hO := (hO.belows hN6).far hO7 (by omega)
          clear hN6 hO7 hz6 hz7 kT0
          by_cases hjn : (j : Int) < n
          · have b1 : decide (n ≤ (j : Int)) = false := by rw [decide_eq_false_iff_not]; omega
            have HTT : ∀ w' : World, IsTX (fun b => (F < b ∧ b ≠ T) ∧ v.ownBlock ≠ some b) w' (.mk k 0 0 []) [.int .i64 k, .int .i64 0, .int .i64 0, .slice none 0 0] := fun w' => IsTX.leaf
            obtain ⟨tc, htc⟩ : ∃ x : List Value, [.int .i64 k, .int .i64 0, .int .i64 0, .slice none 0 0] = x := ⟨_, rfl⟩
            have HT1 := (HTT w7)
            rw [htc] at HT1 kT
            have CLt := Lib.hid HT1.len
            have COt := Lib.hid HT1.isT.ones
            have X3 := Lib.hid (show ([.int .i64 26, .int .i64 n, .int .i64 0, v] : List Value)[3]? = some v from rfl)
            have l3 := Lib.hid (show 3 < ([.int .i64 26, .int .i64 n, .int .i64 0, v] : List Value).length by simp)
            have vF : v.ownBlock ≠ some F := own_ne hown (by omega)
            have vB : v.ownBlock ≠ some B := own_ne hown (by omega)
            clear htc
            go_wp2_with (first
              | ((with_reducible refine' wpList_field_blk (j := 1) (.tmp 7) 25 1 rfl ?_ fo_node_1 ?_ rfl ?_); exact rfl; exact rfl; simp only [Act.put, List.setIfInBounds_toArray, List.set_cons_succ, List.set_cons_zero]) | ((with_reducible refine' wpList_load_blk (.tmp 42) 3 rfl ?_ ld_int ?_ kF (XN.out) ?_); exact rfl; exact rfl; simp only [Act.put, List.setIfInBounds_toArray, List.set_cons_succ, List.set_cons_zero]) | ((with_reducible refine' wpList_load_blk (.tmp 55) 3 rfl ?_ ld_int ?_ kF (XN.out) ?_); exact rfl; exact rfl; simp only [Act.put, List.setIfInBounds_toArray, List.set_cons_succ, List.set_cons_zero])
              | ((with_reducible refine' wpList_field_blk (j := 3) (.tmp 7) 25 3 rfl ?_ fo_node_3 ?_ rfl ?_); exact rfl; exact rfl; simp only [Act.put, List.setIfInBounds_toArray, List.set_cons_succ, List.set_cons_zero]) | ((with_reducible refine' wpList_load_blk (.tmp 71) 23 rfl ?_ ld_nds ?_ kF (X3.out) ?_); exact rfl; exact rfl; simp only [Act.put, List.setIfInBounds_toArray, List.set_cons_succ, List.set_cons_zero]) | ((with_reducible refine' wpList_loadst_blk (.tmp 10) 25 rfl ?_ Tryd.underlying25 ?_ sz_node ?_ kT ?_ ?_ ?_); exact rfl; exact rfl; exact rfl; exact CLt.out; decide; simp only [Act.put, List.setIfInBounds_toArray, List.set_cons_succ, List.set_cons_zero])
              | (((with_reducible refine' wpList_build_sts (css := [tc]) rfl ?_ Tryd.underlying23 inf_node ?_ ?_ ?_ ?_ ?_ ?_); exact rfl; exact rfl; (first | omega | decide); (first | omega | decide); exact rfl; (intro c hc; simp at hc; subst hc; exact CLt.out); intro w11 k11 hN11 hz11; simp only [Act.put, List.setIfInBounds_toArray, List.set_cons_succ, List.set_cons_zero]); rw [show [tc].flatten = tc by simp] at k11; have lF := kF.lt; replace kF := kF.below hN11 lF; have o11 := own_below hown hN11; have r11 := k11.rdall 1 4 CLt.out (by unfold maxLen; omega); have hMb := hM.below hN11; have hOb := hO.belows hN11; have sz11 := hN11.size)
              | (((with_reducible refine' wpList_append_at (.tmp 72) (.tmp 74) 23 rfl ?_ Tryd.underlying23 inf_node ?_ ?_ ?_ o11 ?_ r11 COt.out ?_ ?_ (by omega) ?_); exact rfl; exact rfl; omega; exact rfl; exact rfl; (first | omega | (unfold maxLen; omega)); omega; intro v' w12 o12 hg12 hst; simp only [Act.put, List.setIfInBounds_toArray, List.set_cons_succ, List.set_cons_zero]); have hkk := kids_step (X := fun b => F < b ∧ b ≠ T) HT.out HT1 hN11 hg12 hst; replace kF := kF.grown hg12 (fun e => vF e.symm); have hMc := hMb.grown hg12 (fun e => vB e.symm) (fun b hb => by have := (hown.lt b hb).1; omega); have hOc := hOb.past hg12 (fun b hb => by have := (hown.lt b hb).1; omega))
              | (((with_reducible refine' wpList_set_blk (u := v') 23 (.tmp 76) (.tmp 75) rfl ?_ sz_nds ?_ ?_ kF (l3.out) ?_ ?_); exact rfl; exact rfl; exact rfl; exact (own_one o12); intro w13 kF13 hO13 hz13; simp only [Act.put, List.setIfInBounds_toArray, List.set_cons_succ, List.set_cons_zero])))
            have HT13 := Lib.hid ((hkk.only hO13 (fun b h => by omega)).mono (Y := fun b => F < b ∧ v'.ownBlock ≠ some b) (fun b h => ⟨h.1.1, h.2⟩))
            have o13 := own_only o12 hO13 (own_ne o12 (by omega))
            have hM13 := hMc.only hO13 (by omega) (by omega)
            have hO14 := hOc.far hO13 (by omega)
            have HF2 : Hid (∀ j u, (ts ++ [.mk k 0 0 []])[j]? = some u → tfits u (vWant n j) = true) := Lib.hid (snoc_fit (f := vWant n) HF.out (fit_leaf (by rw [hts, vWant, if_pos (by omega)]; rcases (show k = 0 ∨ k = 1 by omega) with rfl | rfl <;> rfl)))
            have g1 : tdepths (ts ++ [.mk k 0 0 []]) ≤ 2 := by rw [tdepths_snoc]; simp only [tdepth, tdepths]; omega
            have g2 : tsizes (ts ++ [.mk k 0 0 []]) ≤ 3 * (j + 1) := by rw [tsizes_snoc]; simp only [tsize, tsizes]; omega
            clear HT hown kF hkk o11 r11 hN11 hg12 hst o12 hMb hMc hOb hOc hM hO k11 kT hO13 vF vB HF HT1
            go_roundw
            case rel => (first | exact ⟨j + 1, _, ts ++ [.mk k 0 0 []], v', _, rfl, by simp [hts], by omega, o13, HT13, kF13, hM13, hO14, HF2, g1, g2, by omega, by omega⟩ | ((repeat apply Exists.intro); exact ⟨⟨j + 1, _, ts ++ [.mk k 0 0 []], v', _, rfl, by simp [hts], by omega, o13, HT13, kF13, hM13, hO14, HF2, g1, g2, by omega, by omega⟩, rfl⟩))
            case measure => simp [intOf]; omega
          · have b1 : decide (n ≤ (j : Int)) = true := by rw [decide_eq_true_iff]; omega
            go_upto_if 49 with (first
              | ((with_reducible refine' wpList_field_blk (j := 1) (.tmp 7) 25 1 rfl ?_ fo_node_1 ?_ rfl ?_); exact rfl; exact rfl; simp only [Act.put, List.setIfInBounds_toArray, List.set_cons_succ, List.set_cons_zero]) | ((with_reducible refine' wpList_load_blk (.tmp 42) 3 rfl ?_ ld_int ?_ kF (XN.out) ?_); exact rfl; exact rfl; simp only [Act.put, List.setIfInBounds_toArray, List.set_cons_succ, List.set_cons_zero])
              | ((go_at_call 47; (with_reducible refine (num_ex w B l _ _ 3 _ hM HL.out (by omega) (by omega) (by unfold I64; omega)).mono ?_); rintro e w' ⟨y1, rfl, hy0, hy1, hM2, hO2⟩); replace hM := hM2; replace hO := hO.trans' hO2; replace kF := hO2.blk kF (by omega); replace HT := Lib.hid (HT.out.only hO2 (fun b h => by omega)); replace hown := own_only hown hO2 (own_ne hown (by omega)); have sq := hO2.size; replace kT := hO2.blk kT (by omega); clear hM2 hO2)
              )
            by_cases hy : y1 = 0
            · subst hy
              go_upto_region 17 with (first
                | ((go_at_call 47; (with_reducible refine (num_ex w B l _ _ 4 _ hM HL.out (by omega) (by omega) (by unfold I64; omega)).mono ?_); rintro e w' ⟨y2, rfl, hy2, hy3, hM2, hO2⟩); replace hM := hM2; replace hO := hO.trans' hO2; replace kF := hO2.blk kF (by omega); replace HT := Lib.hid (HT.out.only hO2 (fun b h => by omega)); replace hown := own_only hown hO2 (own_ne hown (by omega)); have sq := hO2.size; replace kT := hO2.blk kT (by omega); clear hM2 hO2)
                | ((with_reducible refine' wpList_of_run (o := ⟨_, .build _ _, _, _, _, _⟩) (v := .agg #[.int .i64 2, .int .i64 (1 + y2), .int .i64 0, .slice none 0 0]) (w' := _) ?_ ?_ ?_); exact rfl; kernel_rfl; simp only [Act.put, List.setIfInBounds_toArray, List.set_cons_succ, List.set_cons_zero])
                | (((with_reducible refine' wpList_store_blk (cs := [.int .i64 2, .int .i64 (1 + y2), .int .i64 0, .slice none 0 0]) 25 (.tmp 10) (.tmp 53) rfl ?_ ?_ ?_ kT sz_node ?_ ?_ ?_ ?_); exact rfl; exact rfl; exact rfl; exact rfl; exact rfl; exact node_ones rfl; intro w8 kT8 hO8 hz8; simp only [Act.put]); replace kT := kT8; replace kF := hO8.blk kF (by omega); replace HT := Lib.hid (HT.out.only hO8 (fun b h => by omega)); have hvT : v.ownBlock ≠ some T := (fun e => hvT0 e); replace hown := own_only hown hO8 hvT; replace hM := hM.only hO8 (by omega) (by omega); replace hO := hO.far hO8 (by omega); clear hz8 hvT)
                )
              have HTT : ∀ w' : World, IsTX (fun b => (F < b ∧ b ≠ T) ∧ v.ownBlock ≠ some b) w' (.mk 2 (1 + y2) 0 []) [.int .i64 2, .int .i64 (1 + y2), .int .i64 0, .slice none 0 0] := fun w' => IsTX.leaf
              obtain ⟨tc, htc⟩ : ∃ x : List Value, [.int .i64 2, .int .i64 (1 + y2), .int .i64 0, .slice none 0 0] = x := ⟨_, rfl⟩
              have HT1 := (HTT w8)
              rw [htc] at HT1 kT
              have CLt := Lib.hid HT1.len
              have COt := Lib.hid HT1.isT.ones
              have X3 := Lib.hid (show ([.int .i64 26, .int .i64 n, .int .i64 0, v] : List Value)[3]? = some v from rfl)
              have l3 := Lib.hid (show 3 < ([.int .i64 26, .int .i64 n, .int .i64 0, v] : List Value).length by simp)
              have vF : v.ownBlock ≠ some F := own_ne hown (by omega)
              have vB : v.ownBlock ≠ some B := own_ne hown (by omega)
              clear htc
              go_wp2_with (first
                | ((with_reducible refine' wpList_field_blk (j := 1) (.tmp 7) 25 1 rfl ?_ fo_node_1 ?_ rfl ?_); exact rfl; exact rfl; simp only [Act.put, List.setIfInBounds_toArray, List.set_cons_succ, List.set_cons_zero]) | ((with_reducible refine' wpList_load_blk (.tmp 42) 3 rfl ?_ ld_int ?_ kF (XN.out) ?_); exact rfl; exact rfl; simp only [Act.put, List.setIfInBounds_toArray, List.set_cons_succ, List.set_cons_zero]) | ((with_reducible refine' wpList_load_blk (.tmp 55) 3 rfl ?_ ld_int ?_ kF (XN.out) ?_); exact rfl; exact rfl; simp only [Act.put, List.setIfInBounds_toArray, List.set_cons_succ, List.set_cons_zero])
                | ((with_reducible refine' wpList_field_blk (j := 3) (.tmp 7) 25 3 rfl ?_ fo_node_3 ?_ rfl ?_); exact rfl; exact rfl; simp only [Act.put, List.setIfInBounds_toArray, List.set_cons_succ, List.set_cons_zero]) | ((with_reducible refine' wpList_load_blk (.tmp 71) 23 rfl ?_ ld_nds ?_ kF (X3.out) ?_); exact rfl; exact rfl; simp only [Act.put, List.setIfInBounds_toArray, List.set_cons_succ, List.set_cons_zero]) | ((with_reducible refine' wpList_loadst_blk (.tmp 10) 25 rfl ?_ Tryd.underlying25 ?_ sz_node ?_ kT ?_ ?_ ?_); exact rfl; exact rfl; exact rfl; exact CLt.out; decide; simp only [Act.put, List.setIfInBounds_toArray, List.set_cons_succ, List.set_cons_zero])
                | (((with_reducible refine' wpList_build_sts (css := [tc]) rfl ?_ Tryd.underlying23 inf_node ?_ ?_ ?_ ?_ ?_ ?_); exact rfl; exact rfl; (first | omega | decide); (first | omega | decide); exact rfl; (intro c hc; simp at hc; subst hc; exact CLt.out); intro w11 k11 hN11 hz11; simp only [Act.put, List.setIfInBounds_toArray, List.set_cons_succ, List.set_cons_zero]); rw [show [tc].flatten = tc by simp] at k11; have lF := kF.lt; replace kF := kF.below hN11 lF; have o11 := own_below hown hN11; have r11 := k11.rdall 1 4 CLt.out (by unfold maxLen; omega); have hMb := hM.below hN11; have hOb := hO.belows hN11; have sz11 := hN11.size)
                | (((with_reducible refine' wpList_append_at (.tmp 72) (.tmp 74) 23 rfl ?_ Tryd.underlying23 inf_node ?_ ?_ ?_ o11 ?_ r11 COt.out ?_ ?_ (by omega) ?_); exact rfl; exact rfl; omega; exact rfl; exact rfl; (first | omega | (unfold maxLen; omega)); omega; intro v' w12 o12 hg12 hst; simp only [Act.put, List.setIfInBounds_toArray, List.set_cons_succ, List.set_cons_zero]); have hkk := kids_step (X := fun b => F < b ∧ b ≠ T) HT.out HT1 hN11 hg12 hst; replace kF := kF.grown hg12 (fun e => vF e.symm); have hMc := hMb.grown hg12 (fun e => vB e.symm) (fun b hb => by have := (hown.lt b hb).1; omega); have hOc := hOb.past hg12 (fun b hb => by have := (hown.lt b hb).1; omega))
                | (((with_reducible refine' wpList_set_blk (u := v') 23 (.tmp 76) (.tmp 75) rfl ?_ sz_nds ?_ ?_ kF (l3.out) ?_ ?_); exact rfl; exact rfl; exact rfl; exact (own_one o12); intro w13 kF13 hO13 hz13; simp only [Act.put, List.setIfInBounds_toArray, List.set_cons_succ, List.set_cons_zero])))
              have HT13 := Lib.hid ((hkk.only hO13 (fun b h => by omega)).mono (Y := fun b => F < b ∧ v'.ownBlock ≠ some b) (fun b h => ⟨h.1.1, h.2⟩))
              have o13 := own_only o12 hO13 (own_ne o12 (by omega))
              have hM13 := hMc.only hO13 (by omega) (by omega)
              have hO14 := hOc.far hO13 (by omega)
              have HF2 : Hid (∀ j u, (ts ++ [.mk 2 (1 + y2) 0 []])[j]? = some u → tfits u (vWant n j) = true) := Lib.hid (snoc_fit (f := vWant n) HF.out (fit_leaf (by rw [hts, vWant, if_neg (by omega)]; simp [fHead, shF, fIs]; omega)))
              have g1 : tdepths (ts ++ [.mk 2 (1 + y2) 0 []]) ≤ 2 := by rw [tdepths_snoc]; simp only [tdepth, tdepths]; omega
              have g2 : tsizes (ts ++ [.mk 2 (1 + y2) 0 []]) ≤ 3 * (j + 1) := by rw [tsizes_snoc]; simp only [tsize, tsizes]; omega
              clear HT hown kF hkk o11 r11 hN11 hg12 hst o12 hMb hMc hOb hOc hM hO k11 kT hO13 vF vB HF HT1
              go_roundw
              case rel => (first | exact ⟨j + 1, _, ts ++ [.mk 2 (1 + y2) 0 []], v', _, rfl, by simp [hts], by omega, o13, HT13, kF13, hM13, hO14, HF2, g1, g2, by omega, by omega⟩ | ((repeat apply Exists.intro); exact ⟨⟨j + 1, _, ts ++ [.mk 2 (1 + y2) 0 []], v', _, rfl, by simp [hts], by omega, o13, HT13, kF13, hM13, hO14, HF2, g1, g2, by omega, by omega⟩, rfl⟩))
              case measure => simp [intOf]; omega
            · have b2 : (y1 == 0) = false := by rw [beq_eq_false_iff_ne]; exact hy
              have b3 : decide (y1 = 0) = false := by rw [decide_eq_false_iff_not]; exact hy
              go_upto_if 62 with (first
                | ((with_reducible refine' wpList_field_blk (j := 1) (.tmp 7) 25 1 rfl ?_ fo_node_1 ?_ rfl ?_); exact rfl; exact rfl; simp only [Act.put, List.setIfInBounds_toArray, List.set_cons_succ, List.set_cons_zero]) | ((with_reducible refine' wpList_load_blk (.tmp 55) 3 rfl ?_ ld_int ?_ kF (XN.out) ?_); exact rfl; exact rfl; simp only [Act.put, List.setIfInBounds_toArray, List.set_cons_succ, List.set_cons_zero])
                | ((go_at_call 47; (with_reducible refine (num_ex w B l _ _ 3 _ hM HL.out (by omega) (by omega) (by unfold I64; omega)).mono ?_); rintro e w' ⟨y2, rfl, hy2, hy3, hM2, hO2⟩); replace hM := hM2; replace hO := hO.trans' hO2; replace kF := hO2.blk kF (by omega); replace HT := Lib.hid (HT.out.only hO2 (fun b h => by omega)); replace hown := own_only hown hO2 (own_ne hown (by omega)); have sq := hO2.size; replace kT := hO2.blk kT (by omega); clear hM2 hO2)
                )
              by_cases hz : y2 = 0
              · subst hz
                have HK1 := True.intro
                go_upto_region 17 with (first
                  | ((go_at_call 47; (with_reducible refine (num_ex w B l _ _ 2 _ hM HL.out (by omega) (by omega) (by unfold I64; omega)).mono ?_); rintro e w' ⟨k1, rfl, hk2, hk3, hM2, hO2⟩); have MK := HK1; clear HK1; replace hM := hM2; replace hO := hO.trans' hO2; replace kF := hO2.blk kF (by omega); replace HT := Lib.hid (HT.out.only hO2 (fun b h => by omega)); replace hown := own_only hown hO2 (own_ne hown (by omega)); have sq := hO2.size; replace kT := hO2.blk kT (by omega); obtain ⟨cc1, hcc1⟩ : ∃ x : List Value, [.int .i64 k1, .int .i64 0, .int .i64 0, .slice none 0 0] = x := ⟨_, rfl⟩; have EC1 := Lib.hid (show Value.agg #[.int .i64 k1, .int .i64 0, .int .i64 0, .slice none 0 0] = Value.agg cc1.toArray by rw [← hcc1]); have CL1 := Lib.hid (show cc1.length = 4 by rw [← hcc1]; rfl); have HC1 := Lib.hid hcc1; clear hcc1; clear hM2 hO2)
                  | ((go_at_call 47; (with_reducible refine (num_ex w B l _ _ 2 _ hM HL.out (by omega) (by omega) (by unfold I64; omega)).mono ?_); rintro e w' ⟨k2, rfl, hk4, hk5, hM2, hO2⟩); replace hM := hM2; replace hO := hO.trans' hO2; replace kF := hO2.blk kF (by omega); replace HT := Lib.hid (HT.out.only hO2 (fun b h => by omega)); replace hown := own_only hown hO2 (own_ne hown (by omega)); have sq := hO2.size; replace kT := hO2.blk kT (by omega); obtain ⟨cc2, hcc2⟩ : ∃ x : List Value, [.int .i64 k2, .int .i64 0, .int .i64 0, .slice none 0 0] = x := ⟨_, rfl⟩; have EC2 := Lib.hid (show Value.agg #[.int .i64 k2, .int .i64 0, .int .i64 0, .slice none 0 0] = Value.agg cc2.toArray by rw [← hcc2]); have CL2 := Lib.hid (show cc2.length = 4 by rw [← hcc2]; rfl); have HC2 := Lib.hid hcc2; clear hcc2; clear hM2 hO2)
                  | (rw [EC1.out, EC2.out]; ((with_reducible refine' wpList_build_sts (css := [cc1, cc2]) rfl ?_ Tryd.underlying23 inf_node ?_ ?_ ?_ ?_ ?_ ?_); exact rfl; exact rfl; (first | omega | decide); (first | omega | decide); exact rfl; (intro c hc; simp at hc; rcases hc with rfl | rfl <;> first | exact CL1.out | exact CL2.out); intro w9 k9 hN9 hz9; simp only [Act.put, List.setIfInBounds_toArray, List.set_cons_succ, List.set_cons_zero]); have lF := kF.lt; have lT := kT.lt; replace kF := kF.below hN9 lF; replace kT := kT.below hN9 lT; replace HT := Lib.hid (HT.out.below hN9); have hvQ0 : ∀ g, v.ownBlock = some g → g < w'.heap.size := (fun g hg => (hown.lt g hg).2); replace hown := own_below hown hN9; have sz9 := hN9.size; replace hM := hM.below hN9; replace hO := hO.belows hN9; obtain ⟨Q, hQ⟩ : ∃ Q, w'.heap.size = Q := ⟨_, rfl⟩; rw [hQ] at k9 ⊢)
                  | ((with_reducible refine' wpList_of_run (o := ⟨_, .build _ _, _, _, _, _⟩) (v := .agg #[.int .i64 3, .int .i64 0, .int .i64 0, .slice (some ⟨Q, 0, none⟩) 2 2]) (w' := _) ?_ ?_ ?_); exact rfl; kernel_rfl; simp only [Act.put, List.setIfInBounds_toArray, List.set_cons_succ, List.set_cons_zero])
                  | (((with_reducible refine' wpList_store_blk (cs := [.int .i64 3, .int .i64 0, .int .i64 0, .slice (some ⟨Q, 0, none⟩) 2 2]) 25 (.tmp 10) (.tmp 70) rfl ?_ ?_ ?_ kT sz_node ?_ ?_ ?_ ?_); exact rfl; exact rfl; exact rfl; exact rfl; exact rfl; exact node_ones rfl; intro w8 kT8 hO8 hz8; simp only [Act.put]); replace kT := kT8; replace kF := hO8.blk kF (by omega); replace HT := Lib.hid (HT.out.only hO8 (fun b h => by omega)); have hvT : v.ownBlock ≠ some T := (fun e => hvT0 e); replace hown := own_only hown hO8 hvT; replace hM := hM.only hO8 (by omega) (by omega); replace hO := hO.far hO8 (by omega); clear hz8 hvT)
                  )
                have k9f := hO8.blk k9 (by omega)
                have vQ : v.ownBlock ≠ some Q := fun e => by have := hvQ0 Q e; omega
                have HTT : IsTX (fun b => (F < b ∧ b ≠ T) ∧ v.ownBlock ≠ some b) w8 (.mk 3 0 0 [.mk k1 0 0 [], .mk k2 0 0 []]) [.int .i64 3, .int .i64 0, .int .i64 0, .slice (some ⟨Q, 0, none⟩) 2 2] :=
                  IsTX.node (ts := [.mk k1 0 0 [], .mk k2 0 0 []]) (xs := cc1 ++ cc2) (by have := k9f.rdall 2 4 (by simp [CL1.out, CL2.out]) (by unfold maxLen; omega); simpa using this) (fun b hb _ => by obtain rfl := own_eq hb; exact ⟨⟨by omega, by omega⟩, vQ⟩) ((IsTsX.one (by rw [← HC1.out]; exact IsTX.leaf)).snoc (by rw [← HC2.out]; exact IsTX.leaf))
                obtain ⟨tc, htc⟩ : ∃ x : List Value, [.int .i64 3, .int .i64 0, .int .i64 0, .slice (some ⟨Q, 0, none⟩) 2 2] = x := ⟨_, rfl⟩
                have HT1 := HTT
                rw [htc] at HT1 kT
                have CLt := Lib.hid HT1.len
                have COt := Lib.hid HT1.isT.ones
                have X3 := Lib.hid (show ([.int .i64 26, .int .i64 n, .int .i64 0, v] : List Value)[3]? = some v from rfl)
                have l3 := Lib.hid (show 3 < ([.int .i64 26, .int .i64 n, .int .i64 0, v] : List Value).length by simp)
                have vF : v.ownBlock ≠ some F := own_ne hown (by omega)
                have vB : v.ownBlock ≠ some B := own_ne hown (by omega)
                clear htc
                go_wp2_with (first
                  | ((with_reducible refine' wpList_field_blk (j := 1) (.tmp 7) 25 1 rfl ?_ fo_node_1 ?_ rfl ?_); exact rfl; exact rfl; simp only [Act.put, List.setIfInBounds_toArray, List.set_cons_succ, List.set_cons_zero]) | ((with_reducible refine' wpList_load_blk (.tmp 42) 3 rfl ?_ ld_int ?_ kF (XN.out) ?_); exact rfl; exact rfl; simp only [Act.put, List.setIfInBounds_toArray, List.set_cons_succ, List.set_cons_zero]) | ((with_reducible refine' wpList_load_blk (.tmp 55) 3 rfl ?_ ld_int ?_ kF (XN.out) ?_); exact rfl; exact rfl; simp only [Act.put, List.setIfInBounds_toArray, List.set_cons_succ, List.set_cons_zero])
                  | ((with_reducible refine' wpList_field_blk (j := 3) (.tmp 7) 25 3 rfl ?_ fo_node_3 ?_ rfl ?_); exact rfl; exact rfl; simp only [Act.put, List.setIfInBounds_toArray, List.set_cons_succ, List.set_cons_zero]) | ((with_reducible refine' wpList_load_blk (.tmp 71) 23 rfl ?_ ld_nds ?_ kF (X3.out) ?_); exact rfl; exact rfl; simp only [Act.put, List.setIfInBounds_toArray, List.set_cons_succ, List.set_cons_zero]) | ((with_reducible refine' wpList_loadst_blk (.tmp 10) 25 rfl ?_ Tryd.underlying25 ?_ sz_node ?_ kT ?_ ?_ ?_); exact rfl; exact rfl; exact rfl; exact CLt.out; decide; simp only [Act.put, List.setIfInBounds_toArray, List.set_cons_succ, List.set_cons_zero])
                  | (((with_reducible refine' wpList_build_sts (css := [tc]) rfl ?_ Tryd.underlying23 inf_node ?_ ?_ ?_ ?_ ?_ ?_); exact rfl; exact rfl; (first | omega | decide); (first | omega | decide); exact rfl; (intro c hc; simp at hc; subst hc; exact CLt.out); intro w11 k11 hN11 hz11; simp only [Act.put, List.setIfInBounds_toArray, List.set_cons_succ, List.set_cons_zero]); rw [show [tc].flatten = tc by simp] at k11; have lF := kF.lt; replace kF := kF.below hN11 lF; have o11 := own_below hown hN11; have r11 := k11.rdall 1 4 CLt.out (by unfold maxLen; omega); have hMb := hM.below hN11; have hOb := hO.belows hN11; have sz11 := hN11.size)
                  | (((with_reducible refine' wpList_append_at (.tmp 72) (.tmp 74) 23 rfl ?_ Tryd.underlying23 inf_node ?_ ?_ ?_ o11 ?_ r11 COt.out ?_ ?_ (by omega) ?_); exact rfl; exact rfl; omega; exact rfl; exact rfl; (first | omega | (unfold maxLen; omega)); omega; intro v' w12 o12 hg12 hst; simp only [Act.put, List.setIfInBounds_toArray, List.set_cons_succ, List.set_cons_zero]); have hkk := kids_step (X := fun b => F < b ∧ b ≠ T) HT.out HT1 hN11 hg12 hst; replace kF := kF.grown hg12 (fun e => vF e.symm); have hMc := hMb.grown hg12 (fun e => vB e.symm) (fun b hb => by have := (hown.lt b hb).1; omega); have hOc := hOb.past hg12 (fun b hb => by have := (hown.lt b hb).1; omega))
                  | (((with_reducible refine' wpList_set_blk (u := v') 23 (.tmp 76) (.tmp 75) rfl ?_ sz_nds ?_ ?_ kF (l3.out) ?_ ?_); exact rfl; exact rfl; exact rfl; exact (own_one o12); intro w13 kF13 hO13 hz13; simp only [Act.put, List.setIfInBounds_toArray, List.set_cons_succ, List.set_cons_zero])))
                have HT13 := Lib.hid ((hkk.only hO13 (fun b h => by omega)).mono (Y := fun b => F < b ∧ v'.ownBlock ≠ some b) (fun b h => ⟨h.1.1, h.2⟩))
                have o13 := own_only o12 hO13 (own_ne o12 (by omega))
                have hM13 := hMc.only hO13 (by omega) (by omega)
                have hO14 := hOc.far hO13 (by omega)
                have HF2 : Hid (∀ j u, (ts ++ [.mk 3 0 0 [.mk k1 0 0 [], .mk k2 0 0 []]])[j]? = some u → tfits u (vWant n j) = true) := Lib.hid (snoc_fit (f := vWant n) HF.out (fit_of (by rw [hts, vWant, if_neg (by omega)]; rfl) (by rw [List.length_cons, List.length_singleton]; exact kids2 (fit_leaf (by rcases (show k1 = 0 ∨ k1 = 1 by omega) with rfl | rfl <;> rfl)) (fit_leaf (by rcases (show k2 = 0 ∨ k2 = 1 by omega) with rfl | rfl <;> rfl)))))
                have g1 : tdepths (ts ++ [.mk 3 0 0 [.mk k1 0 0 [], .mk k2 0 0 []]]) ≤ 2 := by rw [tdepths_snoc]; simp only [tdepth, tdepths]; omega
                have g2 : tsizes (ts ++ [.mk 3 0 0 [.mk k1 0 0 [], .mk k2 0 0 []]]) ≤ 3 * (j + 1) := by rw [tsizes_snoc]; simp only [tsize, tsizes]; omega
                clear HT hown kF hkk o11 r11 hN11 hg12 hst o12 hMb hMc hOb hOc hM hO k11 kT hO13 vF vB HF HT1
                go_roundw
                case rel => (first | exact ⟨j + 1, _, ts ++ [.mk 3 0 0 [.mk k1 0 0 [], .mk k2 0 0 []]], v', _, rfl, by simp [hts], by omega, o13, HT13, kF13, hM13, hO14, HF2, g1, g2, by omega, by omega⟩ | ((repeat apply Exists.intro); exact ⟨⟨j + 1, _, ts ++ [.mk 3 0 0 [.mk k1 0 0 [], .mk k2 0 0 []]], v', _, rfl, by simp [hts], by omega, o13, HT13, kF13, hM13, hO14, HF2, g1, g2, by omega, by omega⟩, rfl⟩))
                case measure => simp [intOf]; omega
              · have b4 : (y2 == 0) = false := by rw [beq_eq_false_iff_ne]; exact hz
                have b5 : decide (y2 = 0) = false := by rw [decide_eq_false_iff_not]; exact hz
                have HTT : ∀ w' : World, IsTX (fun b => (F < b ∧ b ≠ T) ∧ v.ownBlock ≠ some b) w' (.mk k 0 0 []) [.int .i64 k, .int .i64 0, .int .i64 0, .slice none 0 0] := fun w' => IsTX.leaf
                obtain ⟨tc, htc⟩ : ∃ x : List Value, [.int .i64 k, .int .i64 0, .int .i64 0, .slice none 0 0] = x := ⟨_, rfl⟩
                have HT1 := (HTT w')
                rw [htc] at HT1 kT
                have CLt := Lib.hid HT1.len
                have COt := Lib.hid HT1.isT.ones
                have X3 := Lib.hid (show ([.int .i64 26, .int .i64 n, .int .i64 0, v] : List Value)[3]? = some v from rfl)
                have l3 := Lib.hid (show 3 < ([.int .i64 26, .int .i64 n, .int .i64 0, v] : List Value).length by simp)
                have vF : v.ownBlock ≠ some F := own_ne hown (by omega)
                have vB : v.ownBlock ≠ some B := own_ne hown (by omega)
                clear htc
                go_wp2_with (first
                  | ((with_reducible refine' wpList_field_blk (j := 1) (.tmp 7) 25 1 rfl ?_ fo_node_1 ?_ rfl ?_); exact rfl; exact rfl; simp only [Act.put, List.setIfInBounds_toArray, List.set_cons_succ, List.set_cons_zero]) | ((with_reducible refine' wpList_load_blk (.tmp 42) 3 rfl ?_ ld_int ?_ kF (XN.out) ?_); exact rfl; exact rfl; simp only [Act.put, List.setIfInBounds_toArray, List.set_cons_succ, List.set_cons_zero]) | ((with_reducible refine' wpList_load_blk (.tmp 55) 3 rfl ?_ ld_int ?_ kF (XN.out) ?_); exact rfl; exact rfl; simp only [Act.put, List.setIfInBounds_toArray, List.set_cons_succ, List.set_cons_zero])
                  | ((with_reducible refine' wpList_field_blk (j := 3) (.tmp 7) 25 3 rfl ?_ fo_node_3 ?_ rfl ?_); exact rfl; exact rfl; simp only [Act.put, List.setIfInBounds_toArray, List.set_cons_succ, List.set_cons_zero]) | ((with_reducible refine' wpList_load_blk (.tmp 71) 23 rfl ?_ ld_nds ?_ kF (X3.out) ?_); exact rfl; exact rfl; simp only [Act.put, List.setIfInBounds_toArray, List.set_cons_succ, List.set_cons_zero]) | ((with_reducible refine' wpList_loadst_blk (.tmp 10) 25 rfl ?_ Tryd.underlying25 ?_ sz_node ?_ kT ?_ ?_ ?_); exact rfl; exact rfl; exact rfl; exact CLt.out; decide; simp only [Act.put, List.setIfInBounds_toArray, List.set_cons_succ, List.set_cons_zero])
                  | (((with_reducible refine' wpList_build_sts (css := [tc]) rfl ?_ Tryd.underlying23 inf_node ?_ ?_ ?_ ?_ ?_ ?_); exact rfl; exact rfl; (first | omega | decide); (first | omega | decide); exact rfl; (intro c hc; simp at hc; subst hc; exact CLt.out); intro w11 k11 hN11 hz11; simp only [Act.put, List.setIfInBounds_toArray, List.set_cons_succ, List.set_cons_zero]); rw [show [tc].flatten = tc by simp] at k11; have lF := kF.lt; replace kF := kF.below hN11 lF; have o11 := own_below hown hN11; have r11 := k11.rdall 1 4 CLt.out (by unfold maxLen; omega); have hMb := hM.below hN11; have hOb := hO.belows hN11; have sz11 := hN11.size)
                  | (((with_reducible refine' wpList_append_at (.tmp 72) (.tmp 74) 23 rfl ?_ Tryd.underlying23 inf_node ?_ ?_ ?_ o11 ?_ r11 COt.out ?_ ?_ (by omega) ?_); exact rfl; exact rfl; omega; exact rfl; exact rfl; (first | omega | (unfold maxLen; omega)); omega; intro v' w12 o12 hg12 hst; simp only [Act.put, List.setIfInBounds_toArray, List.set_cons_succ, List.set_cons_zero]); have hkk := kids_step (X := fun b => F < b ∧ b ≠ T) HT.out HT1 hN11 hg12 hst; replace kF := kF.grown hg12 (fun e => vF e.symm); have hMc := hMb.grown hg12 (fun e => vB e.symm) (fun b hb => by have := (hown.lt b hb).1; omega); have hOc := hOb.past hg12 (fun b hb => by have := (hown.lt b hb).1; omega))
                  | (((with_reducible refine' wpList_set_blk (u := v') 23 (.tmp 76) (.tmp 75) rfl ?_ sz_nds ?_ ?_ kF (l3.out) ?_ ?_); exact rfl; exact rfl; exact rfl; exact (own_one o12); intro w13 kF13 hO13 hz13; simp only [Act.put, List.setIfInBounds_toArray, List.set_cons_succ, List.set_cons_zero])))
                have HT13 := Lib.hid ((hkk.only hO13 (fun b h => by omega)).mono (Y := fun b => F < b ∧ v'.ownBlock ≠ some b) (fun b h => ⟨h.1.1, h.2⟩))
                have o13 := own_only o12 hO13 (own_ne o12 (by omega))
                have hM13 := hMc.only hO13 (by omega) (by omega)
                have hO14 := hOc.far hO13 (by omega)
                have HF2 : Hid (∀ j u, (ts ++ [.mk k 0 0 []])[j]? = some u → tfits u (vWant n j) = true) := Lib.hid (snoc_fit (f := vWant n) HF.out (fit_leaf (by rw [hts, vWant, if_neg (by omega)]; rcases (show k = 0 ∨ k = 1 by omega) with rfl | rfl <;> rfl)))
                have g1 : tdepths (ts ++ [.mk k 0 0 []]) ≤ 2 := by rw [tdepths_snoc]; simp only [tdepth, tdepths]; omega
                have g2 : tsizes (ts ++ [.mk k 0 0 []]) ≤ 3 * (j + 1) := by rw [tsizes_snoc]; simp only [tsize, tsizes]; omega
                clear HT hown kF hkk o11 r11 hN11 hg12 hst o12 hMb hMc hOb hOc hM hO k11 kT hO13 vF vB HF HT1
                go_roundw
                case rel => (first | exact ⟨j + 1, _, ts ++ [.mk k 0 0 []], v', _, rfl, by simp [hts], by omega, o13, HT13, kF13, hM13, hO14, HF2, g1, g2, by omega, by omega⟩ | ((repeat apply Exists.intro); exact ⟨⟨j + 1, _, ts ++ [.mk k 0 0 []], v', _, rfl, by simp [hts], by omega, o13, HT13, kF13, hM13, hO14, HF2, g1, g2, by omega, by omega⟩, rfl⟩))
                case measure => simp [intOf]; omega
        · obtain rfl : j = V := by omega
          have X3 := Lib.hid (show ([.int .i64 26, .int .i64 n, .int .i64 0, v] : List Value)[3]? = some v from rfl)
          have l3 := Lib.hid (show 3 < ([.int .i64 26, .int .i64 n, .int .i64 0, v] : List Value).length by simp)
          have vF : v.ownBlock ≠ some F := own_ne hown (by omega)
          have vB : v.ownBlock ≠ some B := own_ne hown (by omega)
          have lF := kF.lt
          have sOw := hO.size
          have hbd : Below w5.heap.size w5 w5.drew := (Below.refl _ _).drew
          have BA := Lib.hid (show (a' : Int) + 3 * L ≤ 10000 by omega)
          have BB := Lib.hid (show -9000 ≤ L by omega)
          have BC := Lib.hid (show L ≤ 1000 by omega)
          go_upto_region 18 with fail
          (refine wp_region_mid (fun w2 => Blk w2 F 25 [.int .i64 26, .int .i64 n, .int .i64 0, v]) [.h, .h, .h, .m, .m, .m, .t, .t] (by kernel_rfl) (by kernel_rfl) (kF) ?_; simp only [pickH, pickM, pickT]; (repeat (first | (((with_reducible refine' wpQuietM_field (k := 0) (j := 3) (.tmp 7) 25 3 rfl ?_ fo_node_3 ?_ rfl ?_); exact rfl; rotate_left; exact rfl; simp only [Act.put, List.setIfInBounds_toArray, List.set_cons_succ, List.set_cons_zero])) | (((with_reducible refine' wpQuietB_load_blk (.tmp 77) 23 rfl ?_ ld_nds ?_ X3.out ?_); exact rfl; exact rfl; simp only [Act.put, List.setIfInBounds_toArray, List.set_cons_succ, List.set_cons_zero])) | go_big_quiet_step (fail) | (go_big_quiet_want; go_big_quiet_op; refine ⟨_, fun _ _ => rfl, ?_⟩; go_big_quiet_on))); refine wpQuiet_nil ?_)
          replace hown := own_below hown hbd
          replace HT := Lib.hid (HT.out.below hbd)
          replace kF := kF.below hbd lF
          replace hM := hM.below hbd
          replace hO := hO.belows hbd
          have sd := hbd.size
          refine wpMid_of_list ?_
          go_wp2_with ((go_at_call 48; (with_reducible refine (block4 l HL.out w B _ _ _ BA.out BB.out BC.out hM).mono ?_); rintro e w' ⟨tb, cb, a1, L1, rfl, hTb, hM1, hO1, hfb, hRb, hLb⟩))
          have kF1 := hO1.blk kF (by omega)
          have lF1 := kF1.lt
          have CLb := Lib.hid hTb.len
          have COb := Lib.hid hTb.isT.ones
          have o10 := own_only hown hO1 vB
          refine ⟨rfl, kF1, ?_⟩
          refine wpMid_of_list ?_
          go_wp2_with (((with_reducible refine' wpList_build_sts (css := [cb]) rfl ?_ Tryd.underlying23 inf_node ?_ ?_ ?_ ?_ ?_ ?_); exact rfl; exact rfl; (first | omega | decide); (first | omega | decide); exact rfl; (intro c hc; simp at hc; subst hc; exact CLb.out); intro w11 k11 hN11 hz11; simp only [Act.put, List.setIfInBounds_toArray, List.set_cons_succ, List.set_cons_zero]))
          rw [show [cb].flatten = cb by simp] at k11
          have kF2 := kF1.below hN11 lF1
          refine ⟨rfl, kF2, ?_⟩
          have o11 := own_below o10 hN11
          have r11 := k11.rdall 1 4 CLb.out (by unfold maxLen; omega)
          have sz11 := hO1.size
          have sz12 := hN11.size
          refine wpMid_of_list ?_
          go_wp2_with (((with_reducible refine' wpList_append_at (.tmp 78) (.tmp 81) 23 rfl ?_ Tryd.underlying23 inf_node ?_ ?_ ?_ o11 ?_ r11 COb.out ?_ ?_ (by omega) ?_); exact rfl; exact rfl; omega; exact rfl; exact rfl; (first | omega | (unfold maxLen; omega)); omega; intro v' w12 o12 hg12 hst; simp only [Act.put, List.setIfInBounds_toArray, List.set_cons_succ, List.set_cons_zero]))
          have hkk := kids_next hown HT.out hO1 hTb hN11 hg12 hst (fun b h => by omega) (fun b h => by omega)
          have kF3 := kF2.grown hg12 (fun e => vF e.symm)
          have hM12 := (hM1.below hN11).grown hg12 (fun e => vB e.symm) (fun b hb => by have := (hown.lt b hb).1; omega)
          have hO12 := (hO.trans' hO1 |>.belows hN11).past hg12 (fun b hb => by have := (hown.lt b hb).1; omega)
          refine ⟨rfl, kF3, ?_⟩
          clear hown HT hN11 hg12 hst hO1 o10 o11 r11 k11 hM1 hM hO vF vB kF2 kF1 kF BA BB BC hTb
          refine wpMid_nil ?_
          go_wp2_with (first | ((with_reducible refine' wpList_field_blk (j := 3) (.tmp 7) 25 3 rfl ?_ fo_node_3 ?_ rfl ?_); exact rfl; exact rfl; simp only [Act.put, List.setIfInBounds_toArray, List.set_cons_succ, List.set_cons_zero]) | ((with_reducible refine' wpList_set_blk (u := v') 23 (.tmp 83) (.tmp 82) rfl ?_ sz_nds ?_ ?_ kF3 (l3.out) ?_ ?_); exact rfl; exact rfl; exact rfl; exact (own_one o12); intro w13 kF13 hO13 hz13; simp only [Act.put, List.setIfInBounds_toArray, List.set_cons_succ, List.set_cons_zero]))
          refine onlyN ?_
          have HT13 := hkk.only hO13 (fun b h => by omega)
          have o13 := own_only o12 hO13 (own_ne o12 (by omega))
          have hM13 := hM12.only hO13 (by omega) (by omega)
          have hO14 := hO12.far hO13 (by omega)
          -- the function as a tree
          obtain ⟨cf, hcf⟩ : ∃ x : List Value, [.int .i64 26, .int .i64 n, .int .i64 0, v'] = x := ⟨_, rfl⟩
          have hTf : IsTX (fun b => P < b ∧ vo.ownBlock ≠ some b) w13 (.mk 26 n 0 (ts ++ [tb])) cf := by
            rw [← hcf]
            refine IsTX.node (by rw [List.length_append, hts]; exact Rd.of_own o13) (fun b hb _ => ?_) (HT13.mono fun b h => ?_)
            · have := (o12.lt b hb).1
              exact ⟨by omega, fun e => by have := (howno.lt b e).2; omega⟩
            · exact ⟨by omega, fun e => by have := (howno.lt b e).2; omega⟩
          have kF13' : Blk w13 F 25 cf := by rw [← hcf]; exact kF13
          have CLf := Lib.hid hTf.len
          have COf := Lib.hid hTf.isT.ones
          have voB : vo.ownBlock ≠ some B := own_ne howno (by omega)
          have voP : vo.ownBlock ≠ some P := own_ne howno (by omega)
          have voR : vo.ownBlock ≠ some R := own_ne howno (by omega)
          replace howno := own_only howno hO14 voB
          replace HTo := HTo.out.only hO14 (fun b h => by omega)
          replace kP := hO14.blk kP (by omega)
          replace kR := hO14.blk kR (by omega)
          have hOn := hOout.trans' hO14
          have X4 := Lib.hid (show ([.int .i64 27, .int .i64 c, .int .i64 0, vo] : List Value)[3]? = some vo from rfl)
          have l4 := Lib.hid (show 3 < ([.int .i64 27, .int .i64 c, .int .i64 0, vo] : List Value).length by simp)
          have sW := hO14.size
          unfold Ran at hRb
          have FT : tfits (.mk 26 n 0 (ts ++ [tb])) 1 = true := by
            refine fit_of ?_ ?_
            · rw [List.length_append, hts, List.length_singleton]; simp [fHead, shF, fIs]; omega
            · rw [List.length_append, hts, List.length_singleton]
              refine snoc_fit (fun j' u hj' => ?_) ?_
              · have := (List.getElem?_eq_some_iff.1 hj').1
                have h9 := HF.out j' u hj'
                unfold vWant at h9
                simpa [fWant, shF, show j' ≠ j by omega] using h9
              · simpa [fWant, shF, hts] using hfb
          clear HF HT13 o13 hkk o12 kF13 hcf hM12 hO12 hO13 hOout hO14 X3 l3
          go_wp2_with (first
            | ((with_reducible refine' wpList_field_blk (j := 3) (.tmp 4) 25 3 rfl ?_ fo_node_3 ?_ rfl ?_); exact rfl; exact rfl; simp only [Act.put, List.setIfInBounds_toArray, List.set_cons_succ, List.set_cons_zero]) | ((with_reducible refine' wpList_load_blk (.tmp 84) 23 rfl ?_ ld_nds ?_ kP (X4.out) ?_); exact rfl; exact rfl; simp only [Act.put, List.setIfInBounds_toArray, List.set_cons_succ, List.set_cons_zero]) | ((with_reducible refine' wpList_loadst_blk (.tmp 7) 25 rfl ?_ Tryd.underlying25 ?_ sz_node ?_ kF13' ?_ ?_ ?_); exact rfl; exact rfl; exact rfl; exact CLf.out; decide; simp only [Act.put, List.setIfInBounds_toArray, List.set_cons_succ, List.set_cons_zero])
            | (((with_reducible refine' wpList_build_sts (css := [cf]) rfl ?_ Tryd.underlying23 inf_node ?_ ?_ ?_ ?_ ?_ ?_); exact rfl; exact rfl; (first | omega | decide); (first | omega | decide); exact rfl; (intro c hc; simp at hc; subst hc; exact CLf.out); intro w21 k21 hN21 hz21; simp only [Act.put, List.setIfInBounds_toArray, List.set_cons_succ, List.set_cons_zero]); rw [show [cf].flatten = cf by simp] at k21; have o21 := own_below howno hN21; have r21 := k21.rdall 1 4 CLf.out (by unfold maxLen; omega); have sz21 := hN21.size; have kP2 := kP.below hN21 kP.lt; have kR2 := kR.below hN21 kR.lt)
            | (((with_reducible refine' wpList_append_at (.tmp 85) (.tmp 87) 23 rfl ?_ Tryd.underlying23 inf_node ?_ ?_ ?_ o21 ?_ r21 COf.out ?_ ?_ (by omega) ?_); exact rfl; exact rfl; omega; exact rfl; exact rfl; (first | omega | (unfold maxLen; omega)); omega; intro vn w22 o22 hg22 hst22; simp only [Act.put, List.setIfInBounds_toArray, List.set_cons_succ, List.set_cons_zero]); have hkn := kids_step (X := fun b => P < b) HTo hTf hN21 hg22 hst22; have kP3 := kP2.grown hg22 (fun e => voP e.symm); have kR3 := kR2.grown hg22 (fun e => voR e.symm); have hM22 := (hM13.below hN21).grown hg22 (fun e => voB e.symm) (fun b hb => by have := (howno.lt b hb).1; omega); have hO22 := (hOn.belows hN21).past hg22 (fun b hb => by have := (howno.lt b hb).1; omega))
            | (((with_reducible refine' wpList_set_blk (u := vn) 23 (.tmp 89) (.tmp 88) rfl ?_ sz_nds ?_ ?_ kP3 (l4.out) ?_ ?_); exact rfl; exact rfl; exact rfl; exact (own_one o22); intro w23 kP23 hO23 hz23; simp only [Act.put, List.setIfInBounds_toArray, List.set_cons_succ, List.set_cons_zero])))
          have HT23 := Lib.hid (hkn.only hO23 (fun b h => by omega))
          have o23 := own_only o22 hO23 (own_ne o22 (by omega))
          have hM23 := hM22.only hO23 (by omega) (by omega)
          have hO24 := hO22.far hO23 (by omega)
          have kR23 := hO23.blk kR3 (by omega)
          have HF23 := Lib.hid (show ∀ t ∈ fs ++ [.mk 26 n 0 (ts ++ [tb])], tfits t 1 = true from fun t ht => by
            rcases List.mem_append.1 ht with ht | ht
            · exact HFo.out t ht
            · obtain rfl := List.mem_singleton.1 ht; exact FT)
          have g1 : tdepths (fs ++ [.mk 26 n 0 (ts ++ [tb])]) ≤ 10 := by rw [tdepths_snoc, tdepth, tdepths_snoc]; omega
          have g2 : (tsizes (fs ++ [.mk 26 n 0 (ts ++ [tb])]) : Int) ≤ 15 * ((jo + 1 : Nat) : Int) + 45 - L1 := by rw [tsizes_snoc, tsize, tsizes_snoc]; push_cast; omega
          clear hkn o22 hM22 hO22 hO23 kP3 kR3 hg22 hst22 r21 o21 k21 hN21 kP2 kR2 howno HTo hTf voB voP voR
          go_wp2_with fail
          go_roundw
          case rel => (first | exact ⟨jo + 1, _, fs ++ [.mk 26 n 0 (ts ++ [tb])], L1, vn, xo ++ cf, by go_num, by simp [hfs], by omega, o23, HT23, kP23, kR23, hM23, hO24, HF23, g1, g2, by push_cast; omega, by push_cast; omega, by omega⟩ | ((repeat apply Exists.intro); exact ⟨⟨jo + 1, _, fs ++ [.mk 26 n 0 (ts ++ [tb])], L1, vn, xo ++ cf, by go_num, by simp [hfs], by omega, o23, HT23, kP23, kR23, hM23, hO24, HF23, g1, g2, by push_cast; omega, by push_cast; omega, by omega⟩, rfl⟩))
          case measure => simp [intOf]; omega
    · obtain rfl : jo = K + 1 := by omega
      have CP := Lib.hid (show ∀ u ∈ ([.int .i64 27, .int .i64 c, .int .i64 0, vo] : List Value), u.oneCell' = true from node_ones (own_one howno))
      have sO := hO.size
      have lP0 := kP.lt
      go_wp2_with (first
        | ((with_reducible refine' wpList_loadst_blk (.tmp 4) 25 rfl ?_ Tryd.underlying25 ?_ sz_node ?_ kP ?_ ?_ ?_); exact rfl; exact rfl; exact rfl; exact rfl; decide; simp only [Act.put, List.setIfInBounds_toArray, List.set_cons_succ, List.set_cons_zero])
        | ((with_reducible refine' wpList_store_blk (cs := [.int .i64 27, .int .i64 c, .int .i64 0, vo]) 25 (.tmp 2) (.tmp 90) rfl ?_ ?_ ?_ kR sz_node ?_ ?_ ?_ ?_); exact rfl; exact rfl; exact rfl; exact rfl; exact rfl; exact CP.out; intro w3 kR3 hO3 hz3; simp only [Act.put]))
      have HT3 := HTo.out.only hO3 (fun b h => by omega)
      have o3 := own_only howno hO3 (own_ne howno (by omega))
      have hOf := hO.far hO3 (by omega)
      ((try simp only [Exit.inBlock, Exit.then]); refine bodyPost_ret (results_cell_row rfl _ _ _ _ _ _ _ rfl kR3 Tryd.underlying25 rfl (by rw [sz_node]; rfl)) rfl ?_)
      refine ⟨.mk 27 c 0 fs, _, rfl, IsTX.node (by rw [hfs]; exact Rd.of_own o3) (fun b hb _ => by have := (howno.lt b hb).1; omega) (HT3.mono fun b h => by omega), hOf.below (by omega) (Nat.le_refl _), fit_of ?_ (kidsA (s := 1) HFo.out (fun j hj => by simp [fWant, shF])), ?_, ?_⟩
      · rw [hfs]; simp [fHead, shF, fIs]; omega
      · rw [tsize]; push_cast at hd2; omega
      · rw [tdepth]; omega
end Go.Proofs.YtdlhkhnoigbhjaaDoor.Wi
namespace Go.Proofs.YtdlhkhnoigbhjaaDoor.Pu
theorem gkids_size (g : GS → Tree × GS) (c : Nat) (hg : ∀ s, tsize (g s).1 ≤ c) : ∀ (k : Nat) (s : GS), tsizes (gkids g k s).1 ≤ k * c
  | 0, s => by rw [gkids, tsizes]; omega
  | k + 1, s => by
    rw [gkids]
    split
    · have h1 := hg s
      have h2 := gkids_size g c hg k (g s).2
      simp only [tsizes]
      rw [Nat.add_mul]; omega
    · simp only [tsizes]; omega
theorem gtree_size (l : List Int) : ∀ (d : Nat) (s : GS), tsize (gtree l d s).1 ≤ 4 ^ d
  | 0, s => by rw [gtree_eq, gsub, tsize, tsizes]; decide
  | d + 1, s => by
    rw [gtree_eq, gsub, tsize]
    have h1 := gkids_size (gtree l d) (4 ^ d) (gtree_size l d) (atV l ((s.1 + 1 + 1 + 1 : Nat) : Int) 4).toNat (s.1 + 1 + 1 + 1 + 1, s.2 - 1)
    have h2 : (atV l ((s.1 + 1 + 1 + 1 : Nat) : Int) 4).toNat ≤ 3 := by have := atV_bd l ((s.1 + 1 + 1 + 1 : Nat) : Int) (most := 4) (by omega); omega
    have h3 := Nat.mul_le_mul_right (4 ^ d) h2
    have h4 : 0 < 4 ^ d := Nat.pow_pos (by omega)
    rw [Nat.pow_succ]; omega
theorem gTree_size (l : List Int) : tsize (gTree l) ≤ 1024 := gtree_size l 5 (0, 29)
theorem deepT_size : ∀ n, tsize (deepT n) = n + 1
  | 0 => by rw [deepT, tsize, tsizes]
  | n + 1 => by rw [deepT, tsize, tsizes, tsizes, deepT_size n]; omega
end Go.Proofs.YtdlhkhnoigbhjaaDoor.Pu
namespace Go.Proofs.YtdlhkhnoigbhjaaDoor.Wi
open Go Go.RowKit Pu Lb
theorem tdiv6 (h : Int) : I64 (wrap64 (h.tdiv 6)) := by unfold I64 wrap64; omega
end Go.Proofs.YtdlhkhnoigbhjaaDoor.Wi
namespace Go.Proofs.YtdlhkhnoigbhjaaDoor.Wi
open Go Go.RowKit Pu Lb
/-- the table lies as it is written, all of it -/
def ShF (w : World) : Prop := ∀ (i : Nat) (s : ShpP), shF[i]? = some s → ∃ v, Rd w 1 v s.2.2.2.2.1.length (iv s.2.2.2.2.1) ∧ ∀ (j : Nat) (u : Value), (shC s v)[j]? = some u → w.cell? ⟨0, i * 8 + j, none⟩ = some u
theorem ShF.below {w w' : World} (h : ShF w) (hb : Below w.heap.size w w') : ShF w' := fun i s hi => by
  obtain ⟨v, h1, h3⟩ := h i s hi
  refine ⟨v, h1.below hb, fun j u hj => ?_⟩
  have := h3 j u hj
  rw [World.cell?_of_block (hb.block _ (World.block_lt_of_cell? _ _ this))]; exact this
theorem shT_shF (i : Nat) (s : Shp) (h : shT[i]? = some s) : shF[i]? = some s := by
  match i, h with
  | 0, h => exact h
  | 1, h => exact h
  | 2, h => exact h
  | 3, h => exact h
  | 4, h => exact h
  | 5, h => exact h
  | 6, h => exact h
  | 7, h => exact h
  | 8, h => exact h
  | 9, h => exact h
  | k + 10, h => simp [shT] at h
theorem ShF.sht {w : World} (h : ShF w) : ShT w := fun i s hi => by
  obtain ⟨v, h1, h3⟩ := h i s (shT_shF i s hi)
  obtain ⟨_, a, c, rfl, _⟩ := h1
  exact ⟨_, rfl, h3⟩
theorem kids_rd {H : Type} {enc : TypeId × Value → H} {w : World} {base : Nat} {sp : Nat → Bool} {held : Bool} {fuel : Nat} {v : Value} {d : DataW H} {p : List MemPlace} {kids : List Int} (h : DataW.trod enc Tryd.prog w base sp held fuel 103 [v] = some (d, p))
    (hd : (d = .nil ∧ kids = []) ∨ ∃ r, d = .slice (kids.map fun z => .lit (.int .i64 z)) r) : Rd w 1 v kids.length (iv kids) := by
  rcases DataW.trod_slice Tryd.underlying103 h with ⟨hcs, hx⟩ | ⟨x, len, cap, elems, rest, n, _, hcs, hx, _, hl, hm, hlen, hel, _, _⟩
  · simp only [List.cons.injEq, and_true] at hcs
    subst hcs
    rcases hd with ⟨_, rfl⟩ | ⟨r, rfl⟩
    · exact rd_nil w 1
    · cases hx
  · simp only [List.cons.injEq, and_true] at hcs
    subst hcs
    rcases hd with ⟨rfl, _⟩ | ⟨r, rfl⟩
    · cases hx
    · simp only [Prod.mk.injEq, DataW.slice.injEq] at hx
      have he := hx.1.1
      have hkl : kids.length = len := by have := congrArg List.length he; simpa [hlen] using this
      have hrd := rd_cells (w := w) (s := 1) (x := x) (xs := iv kids) hl hm (by simp [iv, hkl]) fun i u hu => by
        have hi : i < kids.length := by have := (List.getElem?_eq_some_iff.1 hu).1; simpa [iv] using this
        have h1 := hel i (by omega)
        rw [List.getElem?_eq_getElem (by omega), ci71, Option.bind_eq_some_iff] at h1
        obtain ⟨cs, hcs, htr⟩ := h1
        obtain ⟨_, hcl, hcell⟩ := World.cells?_some hcs
        obtain ⟨z, hz1, hz2, _⟩ := DataW.trod_int Tryd.underlying71 htr
        have h4 := congrArg (fun l => l[i]?) he
        simp only [List.getElem?_map, List.getElem?_eq_getElem hi, List.getElem?_eq_getElem (show i < elems.length by omega), Option.map_some, Option.some.injEq] at h4
        rw [hz2] at h4
        simp only [DataW.lit.injEq, Lit.int.injEq, true_and] at h4
        have h5 := hcell 0 (by omega)
        rw [hz1] at h5
        have hu2 : u = .int .i64 kids[i] := by simpa [iv, hi] using hu.symm
        rw [hu2]
        simpa [Addr.add, h4, Nat.mul_one] using h5
      rw [Nat.mul_one, List.take_of_length_le (by simp [iv, hkl])] at hrd
      rw [hkl]; exact hrd
theorem rowsF_of {ds : List (DataW Unit)} (hds : (Rows.laid_scoria_tree_shapes : DataW Unit) = .agg ds) : ∀ (i : Nat) (s : ShpP), shF[i]? = some s → i < 28 ∧ ∃ d : DataW Unit, ds[i]? = some (.agg [.lit (.int .i64 s.1), .lit (.int .i64 s.2.1), .lit (.int .i64 s.2.2.1), .lit (.int .i64 s.2.2.2.1), d, .lit (.int .i64 s.2.2.2.2.2.1), .lit (.int .i64 s.2.2.2.2.2.2.1), .lit (.int .i64 s.2.2.2.2.2.2.2)]) ∧
    ((d = .nil ∧ s.2.2.2.2.1 = []) ∨ ∃ r, d = .slice (s.2.2.2.2.1.map fun z => .lit (.int .i64 z)) r) := by
  unfold Rows.laid_scoria_tree_shapes at hds
  injection hds with hds
  subst hds
  exact fun i s hi => match i, hi with
  | 0, hi => by cases hi; exact ⟨by omega, _, rfl, .inl ⟨rfl, rfl⟩⟩
  | 1, hi => by cases hi; exact ⟨by omega, _, rfl, .inl ⟨rfl, rfl⟩⟩
  | 2, hi => by cases hi; exact ⟨by omega, _, rfl, .inl ⟨rfl, rfl⟩⟩
  | 3, hi => by cases hi; exact ⟨by omega, _, rfl, .inl ⟨rfl, rfl⟩⟩
  | 4, hi => by cases hi; exact ⟨by omega, _, rfl, .inl ⟨rfl, rfl⟩⟩
  | 5, hi => by cases hi; exact ⟨by omega, _, rfl, .inl ⟨rfl, rfl⟩⟩
  | 6, hi => by cases hi; exact ⟨by omega, _, rfl, .inl ⟨rfl, rfl⟩⟩
  | 7, hi => by cases hi; exact ⟨by omega, _, rfl, .inr ⟨_, rfl⟩⟩
  | 8, hi => by cases hi; exact ⟨by omega, _, rfl, .inl ⟨rfl, rfl⟩⟩
  | 9, hi => by cases hi; exact ⟨by omega, _, rfl, .inr ⟨_, rfl⟩⟩
  | 10, hi => by cases hi; exact ⟨by omega, _, rfl, .inr ⟨_, rfl⟩⟩
  | 11, hi => by cases hi; exact ⟨by omega, _, rfl, .inl ⟨rfl, rfl⟩⟩
  | 12, hi => by cases hi; exact ⟨by omega, _, rfl, .inl ⟨rfl, rfl⟩⟩
  | 13, hi => by cases hi; exact ⟨by omega, _, rfl, .inl ⟨rfl, rfl⟩⟩
  | 14, hi => by cases hi; exact ⟨by omega, _, rfl, .inr ⟨_, rfl⟩⟩
  | 15, hi => by cases hi; exact ⟨by omega, _, rfl, .inr ⟨_, rfl⟩⟩
  | 16, hi => by cases hi; exact ⟨by omega, _, rfl, .inr ⟨_, rfl⟩⟩
  | 17, hi => by cases hi; exact ⟨by omega, _, rfl, .inr ⟨_, rfl⟩⟩
  | 18, hi => by cases hi; exact ⟨by omega, _, rfl, .inr ⟨_, rfl⟩⟩
  | 19, hi => by cases hi; exact ⟨by omega, _, rfl, .inr ⟨_, rfl⟩⟩
  | 20, hi => by cases hi; exact ⟨by omega, _, rfl, .inr ⟨_, rfl⟩⟩
  | 21, hi => by cases hi; exact ⟨by omega, _, rfl, .inr ⟨_, rfl⟩⟩
  | 22, hi => by cases hi; exact ⟨by omega, _, rfl, .inr ⟨_, rfl⟩⟩
  | 23, hi => by cases hi; exact ⟨by omega, _, rfl, .inl ⟨rfl, rfl⟩⟩
  | 24, hi => by cases hi; exact ⟨by omega, _, rfl, .inr ⟨_, rfl⟩⟩
  | 25, hi => by cases hi; exact ⟨by omega, _, rfl, .inl ⟨rfl, rfl⟩⟩
  | 26, hi => by cases hi; exact ⟨by omega, _, rfl, .inl ⟨rfl, rfl⟩⟩
  | 27, hi => by cases hi; exact ⟨by omega, _, rfl, .inl ⟨rfl, rfl⟩⟩
  | k + 28, hi => by simp [shF] at hi
theorem shF_of {W : World} (h : laidMetH Tryd.prog lT W) : ShF W := by
  rw [MakeChecks.laidMetH_plain _ _ _ (by kernel_rfl)] at h
  obtain ⟨ps, ⟨g', t', cs, fuel, p, q, hg', ht', hvar, hd, _, _⟩, _⟩ := h
  obtain rfl := Option.some.inj (gSh.symm.trans hg')
  obtain rfl := Option.some.inj (gtSh.symm.trans ht')
  obtain ⟨ds, hds⟩ : ∃ ds, (Rows.laid_scoria_tree_shapes : DataW Unit) = .agg ds := ⟨_, rfl⟩
  rw [hds] at hd
  intro i s hi
  obtain ⟨hlt, d, hrow, hkd⟩ := rowsF_of hds i s hi
  obtain ⟨f', b, hb, ht⟩ := table_of hd i _ hlt hrow
  obtain ⟨f2, v, p2, hp, hv⟩ := entry_of ht hb
  refine ⟨v, kids_rd hv hkd, fun j u hj => ?_⟩
  rw [World.var?_cell gSh hvar]
  have hj8 : j < 8 := by have := (List.getElem?_eq_some_iff.1 hj).1; simpa [shC] using this
  have h2 : ((cs.toList.drop (i * 8)).take 8)[j]? = some u := by rw [hp]; exact hj
  rw [List.getElem?_take_of_lt hj8, List.getElem?_drop] at h2
  simpa using h2
end Go.Proofs.YtdlhkhnoigbhjaaDoor.Wi
namespace Go.Proofs.YtdlhkhnoigbhjaaDoor.Pu
def fFun (n : Int) (ts : List Tree) : Bool := decide (n ≤ (ts.length : Int) - 1) && (decide ((ts.length : Int) - 1 ≤ 6) && tfitsL (fWant 26 n ts.length) 0 ts)
theorem fWant26 (n : Int) (len i : Nat) : fWant 26 n len i = if i + 1 = len then 6 else if (i : Int) < n then 3 else 2 := rfl
theorem fitsL_no {f : Nat → Int} {ts : List Tree} {j : Nat} {t : Tree} (h : ts[j]? = some t) (hf : tfits t (f j) = false) : tfitsL f 0 ts = false := by
  rw [Bool.eq_false_iff, ne_eq, tfitsL_iff]
  intro hh
  have := hh j t h
  rw [Nat.zero_add, hf] at this
  cases this
end Go.Proofs.YtdlhkhnoigbhjaaDoor.Pu
namespace Go.Proofs.YtdlhkhnoigbhjaaDoor.Wi
open Go Go.RowKit Pu Lb
set_option linter.unusedSimpArgs false
set_option linter.unusedVariables false
def FitsC (t : Tree) : Prop := ∀ (want : Int) (cs : List Value) (w : World), IsT w t cs → ShF w → tsize t ≤ 1000000 →
    Calls Tryd.prog 54 #[.agg cs.toArray, .int .i64 want] w fun e w' => e = .returned (.bool (tfits t want)) ∧ Below w.heap.size w w'
set_option maxRecDepth 100000 in
set_option maxHeartbeats 1600000 in
theorem ff_step (k n m : Int) (ts : List Tree) (ih : ∀ t ∈ ts, FitsC t) (cs0 : List Value) (w : World) (hT : IsT w (.mk k n m ts) cs0) (hS : ShF w) (hz : tsize (.mk k n m ts) ≤ 1000000) (hn : 0 ≤ n) :
    Calls Tryd.prog 75 #[.agg cs0.toArray] w fun e w' => e = .returned (.bool (fFun n ts)) ∧ Below w.heap.size w w' := by
  have IH := Lib.hid ih
  clear ih
  rw [IsT] at hT
  obtain ⟨v, xs, rfl, hr, hts⟩ := hT
  rw [tsize] at hz
  have X1 := Lib.hid (show ([.int .i64 k, .int .i64 n, .int .i64 m, v] : List Value)[1]? = some (.int .i64 n) from rfl)
  have X3 := Lib.hid (show ([.int .i64 k, .int .i64 n, .int .i64 m, v] : List Value)[3]? = some v from rfl)
  have hlen := tsizes_len ts
  go_enter Tryd.func75, Tryd.ntmps75
  go_upto_region 1 with (((with_reducible refine' wpList_boxa (cs := [.int .i64 k, .int .i64 n, .int .i64 m, v]) 25 (.tmp 0) rfl ?_ ?_ ?_); exact rfl; exact rfl; intro w1 kA hN1 hz1; simp only [Act.put, List.setIfInBounds_toArray, List.set_cons_succ, List.set_cons_zero]))
  have hr1 := hr.below hN1
  have ht1 := Lib.hid (IsTs.below hN1 hts)
  have hS1 := hS.below hN1
  clear hz1 hr hts hS
  by_cases c1 : (ts.length : Int) - 1 < n
  · have HF := Lib.hid (show fFun n ts = false by unfold fFun; rw [decide_eq_false (by omega), Bool.false_and])
    have b1 : decide ((ts.length : Int) - 1 < n) = true := decide_eq_true c1
    clear c1
    go_wp2_with (first | ((with_reducible refine' wpList_field_blk (j := 3) (.tmp 1) 25 3 rfl ?_ fo_node_3 ?_ rfl ?_); exact rfl; exact rfl; simp only [Act.put, List.setIfInBounds_toArray, List.set_cons_succ, List.set_cons_zero]) | ((with_reducible refine' wpList_load_blk (.tmp 7) 23 rfl ?_ ld_nds ?_ kA (X3.out) ?_); exact rfl; exact rfl; simp only [Act.put, List.setIfInBounds_toArray, List.set_cons_succ, List.set_cons_zero]) | ((with_reducible refine' wpList_len_rd (.tmp 8) 23 rfl ?_ Tryd.underlying23 ?_ hr1 ?_); exact rfl; exact rfl; simp only [Act.put, List.setIfInBounds_toArray, List.set_cons_succ, List.set_cons_zero]) | ((with_reducible refine' wpList_field_blk (j := 1) (.tmp 1) 25 1 rfl ?_ fo_node_1 ?_ rfl ?_); exact rfl; exact rfl; simp only [Act.put, List.setIfInBounds_toArray, List.set_cons_succ, List.set_cons_zero]) | ((with_reducible refine' wpList_load_blk (.tmp 12) 3 rfl ?_ ld_int ?_ kA (X1.out) ?_); exact rfl; exact rfl; simp only [Act.put, List.setIfInBounds_toArray, List.set_cons_succ, List.set_cons_zero]))
    go_ret
    rw [HF.out]
    exact ⟨rfl, hN1⟩
  obtain ⟨V, hV⟩ : ∃ V, ts.length = V + 1 := ⟨ts.length - 1, by omega⟩
  have b1 : decide ((V : Int) < n) = false := by rw [decide_eq_false_iff_not]; omega
  by_cases c2 : 6 < (V : Int)
  · have HF := Lib.hid (show fFun n ts = false by unfold fFun; rw [decide_eq_false (show ¬ (ts.length : Int) - 1 ≤ 6 by omega), Bool.false_and, Bool.and_false])
    have b2 : decide (6 < (V : Int)) = true := decide_eq_true c2
    clear c1 c2
    go_wp2_with (first | ((with_reducible refine' wpList_field_blk (j := 3) (.tmp 1) 25 3 rfl ?_ fo_node_3 ?_ rfl ?_); exact rfl; exact rfl; simp only [Act.put, List.setIfInBounds_toArray, List.set_cons_succ, List.set_cons_zero]) | ((with_reducible refine' wpList_load_blk (.tmp 7) 23 rfl ?_ ld_nds ?_ kA (X3.out) ?_); exact rfl; exact rfl; simp only [Act.put, List.setIfInBounds_toArray, List.set_cons_succ, List.set_cons_zero]) | ((with_reducible refine' wpList_len_rd (.tmp 8) 23 rfl ?_ Tryd.underlying23 ?_ hr1 ?_); exact rfl; exact rfl; simp only [Act.put, List.setIfInBounds_toArray, List.set_cons_succ, List.set_cons_zero]) | ((with_reducible refine' wpList_field_blk (j := 1) (.tmp 1) 25 1 rfl ?_ fo_node_1 ?_ rfl ?_); exact rfl; exact rfl; simp only [Act.put, List.setIfInBounds_toArray, List.set_cons_succ, List.set_cons_zero]) | ((with_reducible refine' wpList_load_blk (.tmp 12) 3 rfl ?_ ld_int ?_ kA (X1.out) ?_); exact rfl; exact rfl; simp only [Act.put, List.setIfInBounds_toArray, List.set_cons_succ, List.set_cons_zero]))
    go_ret
    rw [HF.out]
    exact ⟨rfl, hN1⟩
  have b2 : decide (6 < (V : Int)) = false := decide_eq_false c2
  obtain ⟨tb, htb⟩ := kid_at (ts := ts) (i := V) (by omega)
  obtain ⟨cb, hcb⟩ : ∃ cs, (xs.drop (V * 4)).take 4 = cs := ⟨_, rfl⟩
  have hTb := IsTs.get ht1.out htb
  rw [hcb] at hTb
  have XL := ht1.out.len
  have HCB := Lib.hid hcb
  have BDB := Lib.hid (show V * 4 + 4 ≤ xs.length by rw [XL]; omega)
  have zb := tsize_mem (List.mem_of_getElem? htb)
  have zb2 : tsize tb ≤ 1000000 := by omega
  have IHb := Lib.hid (IH.out tb (List.mem_of_getElem? htb) 6 cb)
  have HTB := Lib.hid htb
  have HLT := Lib.hid (show V < ts.length by omega)
  clear hcb htb c1 c2
  by_cases c3 : tfits tb 6 = true
  · have c3' := Lib.hid c3
    go_upto_region 4 with (first
      | ((with_reducible refine' wpList_field_blk (j := 3) (.tmp 1) 25 3 rfl ?_ fo_node_3 ?_ rfl ?_); exact rfl; exact rfl; simp only [Act.put, List.setIfInBounds_toArray, List.set_cons_succ, List.set_cons_zero]) | ((with_reducible refine' wpList_load_blk (.tmp 7) 23 rfl ?_ ld_nds ?_ kA (X3.out) ?_); exact rfl; exact rfl; simp only [Act.put, List.setIfInBounds_toArray, List.set_cons_succ, List.set_cons_zero]) | ((with_reducible refine' wpList_len_rd (.tmp 8) 23 rfl ?_ Tryd.underlying23 ?_ hr1 ?_); exact rfl; exact rfl; simp only [Act.put, List.setIfInBounds_toArray, List.set_cons_succ, List.set_cons_zero]) | ((with_reducible refine' wpList_field_blk (j := 1) (.tmp 1) 25 1 rfl ?_ fo_node_1 ?_ rfl ?_); exact rfl; exact rfl; simp only [Act.put, List.setIfInBounds_toArray, List.set_cons_succ, List.set_cons_zero]) | ((with_reducible refine' wpList_load_blk (.tmp 12) 3 rfl ?_ ld_int ?_ kA (X1.out) ?_); exact rfl; exact rfl; simp only [Act.put, List.setIfInBounds_toArray, List.set_cons_succ, List.set_cons_zero]) | ((with_reducible refine' wpList_load_blk (.tmp 20) 23 rfl ?_ ld_nds ?_ kA (X3.out) ?_); exact rfl; exact rfl; simp only [Act.put, List.setIfInBounds_toArray, List.set_cons_succ, List.set_cons_zero])
      | ((with_reducible refine' wpList_at_rd (.tmp 21) (.tmp 22) 23 rfl ?_ Tryd.underlying23 sz_node ?_ hr1 (by decide) (V) ?_ ?_ ?_); exact rfl; exact rfl; (show (_ : Int) = _; omega); omega; simp only [Act.put, List.setIfInBounds_toArray, List.set_cons_succ, List.set_cons_zero]) | ((with_reducible refine' wpList_load_st (cp := cb) (.tmp 23) 25 rfl ?_ Tryd.underlying25 ?_ sz_node ?_ hr1 ?_ ?_ HCB.out ?_); exact rfl; exact rfl; exact rfl; exact BDB.out; decide; simp only [Act.put, List.setIfInBounds_toArray, List.set_cons_succ, List.set_cons_zero])
      | ((go_at_call 54; (with_reducible refine (IHb.out _ hTb hS1 zb2).mono ?_); rintro e w' ⟨rfl, hN2⟩); rw [c3'.out]))
    obtain ⟨w2, rfl⟩ : ∃ x : World, x = w' := ⟨_, rfl⟩
    have kA2 := kA.below hN2 kA.lt
    have hr2 := hr1.below hN2
    have ht2 := Lib.hid (IsTs.below hN2 ht1.out)
    have hS2 := hS1.below hN2
    have hb2 := hN1.trans (hN2.mono hN1.size)
    clear kA hr1 ht1 hS1 hN1 hN2 hTb IHb c3
    go_upto_region 5 with (first
      | ((with_reducible refine' wpList_field_blk (j := 3) (.tmp 1) 25 3 rfl ?_ fo_node_3 ?_ rfl ?_); exact rfl; exact rfl; simp only [Act.put, List.setIfInBounds_toArray, List.set_cons_succ, List.set_cons_zero]) | ((with_reducible refine' wpList_load_blk (.tmp 28) 23 rfl ?_ ld_nds ?_ kA2 (X3.out) ?_); exact rfl; exact rfl; simp only [Act.put, List.setIfInBounds_toArray, List.set_cons_succ, List.set_cons_zero]) | ((with_reducible refine' wpList_to_rd (.tmp 29) (.tmp 30) 23 rfl ?_ Tryd.underlying23 sz_node ?_ hr2 (V) ?_ ?_ ?_); exact rfl; exact rfl; (show (_ : Int) = _; omega); omega; intro v5 hr5; simp only [Act.put, List.setIfInBounds_toArray, List.set_cons_succ, List.set_cons_zero]) | ((with_reducible refine' wpList_len_rd (.tmp 31) 23 rfl ?_ Tryd.underlying23 ?_ hr5 ?_); exact rfl; exact rfl; simp only [Act.put, List.setIfInBounds_toArray, List.set_cons_succ, List.set_cons_zero]))
    go_loopw [33] (fun i wr => ∃ j : Nat, j ≤ V ∧ i = .int .i64 (j : Int) ∧ Hid (∀ r u, r < j → ts[r]? = some u → tfits u (fWant 26 n ts.length r) = true) ∧ Below w2.heap.size w2 wr) (fun i _ => V - (intOf i).toNat)
    case atStart => exact ⟨0, Nat.zero_le _, rfl, Lib.hid (fun r u hr => absurd hr (by omega)), Below.refl _ _⟩
    case round =>
      obtain ⟨j, hj, rfl, HE, hbj⟩ := hrel
      obtain ⟨wo, rfl⟩ : ∃ wo : World, wo = wr := ⟨_, rfl⟩
      by_cases hlt : j < V
      · obtain ⟨t, ht⟩ := kid_at (ts := ts) (i := j) (by omega)
        obtain ⟨cj, hcj⟩ : ∃ cs, (xs.drop (j * 4)).take 4 = cs := ⟨_, rfl⟩
        have hTj := (IsTs.get ht2.out ht).below hbj
        rw [hcj] at hTj
        have HC := Lib.hid (show ((xs.take (V * 4)).drop (j * 4)).take 4 = cj by rw [List.drop_take, List.take_take, Nat.min_eq_left (by omega)]; exact hcj)
        have BD := Lib.hid (show j * 4 + 4 ≤ (xs.take (V * 4)).length by rw [List.length_take, XL]; omega)
        have zj := tsize_mem (List.mem_of_getElem? ht)
        have zj2 : tsize t ≤ 1000000 := by omega
        have CL := Lib.hid hTj.len
        have CO := Lib.hid hTj.ones
        have HT0 := Lib.hid ht
        have hrj := hr5.below hbj
        have kAj := kA2.below hbj kA2.lt
        have hSj := hS2.below hbj
        have LJ : decide ((j : Int) < (V : Int)) = true := by rw [decide_eq_true_eq]; omega
        clear hcj ht
        by_cases cn : (j : Int) < n
        · have LN : decide ((j : Int) < n) = true := decide_eq_true cn
          have WJ : fWant 26 n ts.length j = 3 := by rw [fWant26, if_neg (by omega), if_pos cn]
          have IHj := Lib.hid (IH.out t (List.mem_of_getElem? HT0.out) 3 cj)
          by_cases cf : tfits t 3 = true
          · have CF := Lib.hid cf
            have HE2 := Lib.hid (show ∀ r u, r < j + 1 → ts[r]? = some u → tfits u (fWant 26 n ts.length r) = true from fun r u hr hu => by
              by_cases hrj : r = j
              · subst hrj; rw [HT0.out] at hu; cases hu; rw [WJ]; exact CF.out
              · exact HE.out r u (by omega) hu)
            clear cf HE WJ
            go_wp2_with (first
              | ((with_reducible refine' wpList_at_rd (.tmp 31) (.tmp 33) 23 rfl ?_ Tryd.underlying23 sz_node ?_ hrj (by decide) (j) ?_ ?_ ?_); exact rfl; exact rfl; (show (_ : Int) = _; omega); omega; simp only [Act.put, List.setIfInBounds_toArray, List.set_cons_succ, List.set_cons_zero]) | ((with_reducible refine' wpList_load_st (cp := cj) (.tmp 36) 25 rfl ?_ Tryd.underlying25 ?_ sz_node ?_ hrj ?_ ?_ HC.out ?_); exact rfl; exact rfl; exact rfl; exact BD.out; decide; simp only [Act.put, List.setIfInBounds_toArray, List.set_cons_succ, List.set_cons_zero])
              | (((with_reducible refine' wpList_alloc_blk (cs := nodz) 25 rfl ?_ zr_node ?_ ?_); exact rfl; exact nodz_cells; intro w4 k4 hN4 hz4; simp only [Act.put, List.setIfInBounds_toArray, List.set_cons_succ, List.set_cons_zero]))
              | (((with_reducible refine' wpList_store_blk (cs := cj) 25 (.tmp 5) (.tmp 37) rfl ?_ ?_ ?_ k4 sz_node ?_ ?_ ?_ ?_); exact rfl; exact rfl; exact rfl; exact CL.out; exact rfl; exact CO.out; intro w5 k5 hO5 hz5; simp only [Act.put]); have hb5 : Below wo.heap.size wo w5 := (hN4.trans (hO5.below (Nat.le_refl _) (Nat.le_of_lt k4.lt))); have kA5 := kAj.below hb5 kAj.lt; have hT5 := hTj.below hb5; have hS5 := hSj.below hb5)
              | ((with_reducible refine' wpList_field_blk (j := 1) (.tmp 1) 25 1 rfl ?_ fo_node_1 ?_ rfl ?_); exact rfl; exact rfl; simp only [Act.put, List.setIfInBounds_toArray, List.set_cons_succ, List.set_cons_zero]) | ((with_reducible refine' wpList_load_blk (.tmp 39) 3 rfl ?_ ld_int ?_ kA5 (X1.out) ?_); exact rfl; exact rfl; simp only [Act.put, List.setIfInBounds_toArray, List.set_cons_succ, List.set_cons_zero]) | ((with_reducible refine' wpList_loadst_blk (.tmp 5) 25 rfl ?_ Tryd.underlying25 ?_ sz_node ?_ k5 ?_ ?_ ?_); exact rfl; exact rfl; exact rfl; exact CL.out; decide; simp only [Act.put, List.setIfInBounds_toArray, List.set_cons_succ, List.set_cons_zero])
              | ((go_at_call 54; (with_reducible refine (IHj.out _ hT5 hS5 zj2).mono ?_); rintro e w' ⟨rfl, hN6⟩); rw [CF.out]))
            have hb6 := hb5.trans (hN6.mono hb5.size)
            go_roundw
            case rel => (first | exact ⟨j + 1, by omega, by go_num, HE2, hbj.trans (hb6.mono hbj.size)⟩ | ((repeat apply Exists.intro); exact ⟨⟨j + 1, by omega, by go_num, HE2, hbj.trans (hb6.mono hbj.size)⟩, rfl⟩))
            case measure => simp [intOf]; omega
          · have CF := Lib.hid (show tfits t 3 = false by simpa using cf)
            have HF := Lib.hid (show fFun n ts = false by
              unfold fFun
              rw [fitsL_no (f := fWant 26 n ts.length) HT0.out (by rw [WJ]; exact CF.out), Bool.and_false, Bool.and_false])
            clear cf HE WJ
            go_wp2_with (first
              | ((with_reducible refine' wpList_at_rd (.tmp 31) (.tmp 33) 23 rfl ?_ Tryd.underlying23 sz_node ?_ hrj (by decide) (j) ?_ ?_ ?_); exact rfl; exact rfl; (show (_ : Int) = _; omega); omega; simp only [Act.put, List.setIfInBounds_toArray, List.set_cons_succ, List.set_cons_zero]) | ((with_reducible refine' wpList_load_st (cp := cj) (.tmp 36) 25 rfl ?_ Tryd.underlying25 ?_ sz_node ?_ hrj ?_ ?_ HC.out ?_); exact rfl; exact rfl; exact rfl; exact BD.out; decide; simp only [Act.put, List.setIfInBounds_toArray, List.set_cons_succ, List.set_cons_zero])
              | (((with_reducible refine' wpList_alloc_blk (cs := nodz) 25 rfl ?_ zr_node ?_ ?_); exact rfl; exact nodz_cells; intro w4 k4 hN4 hz4; simp only [Act.put, List.setIfInBounds_toArray, List.set_cons_succ, List.set_cons_zero]))
              | (((with_reducible refine' wpList_store_blk (cs := cj) 25 (.tmp 5) (.tmp 37) rfl ?_ ?_ ?_ k4 sz_node ?_ ?_ ?_ ?_); exact rfl; exact rfl; exact rfl; exact CL.out; exact rfl; exact CO.out; intro w5 k5 hO5 hz5; simp only [Act.put]); have hb5 : Below wo.heap.size wo w5 := (hN4.trans (hO5.below (Nat.le_refl _) (Nat.le_of_lt k4.lt))); have kA5 := kAj.below hb5 kAj.lt; have hT5 := hTj.below hb5; have hS5 := hSj.below hb5)
              | ((with_reducible refine' wpList_field_blk (j := 1) (.tmp 1) 25 1 rfl ?_ fo_node_1 ?_ rfl ?_); exact rfl; exact rfl; simp only [Act.put, List.setIfInBounds_toArray, List.set_cons_succ, List.set_cons_zero]) | ((with_reducible refine' wpList_load_blk (.tmp 39) 3 rfl ?_ ld_int ?_ kA5 (X1.out) ?_); exact rfl; exact rfl; simp only [Act.put, List.setIfInBounds_toArray, List.set_cons_succ, List.set_cons_zero]) | ((with_reducible refine' wpList_loadst_blk (.tmp 5) 25 rfl ?_ Tryd.underlying25 ?_ sz_node ?_ k5 ?_ ?_ ?_); exact rfl; exact rfl; exact rfl; exact CL.out; decide; simp only [Act.put, List.setIfInBounds_toArray, List.set_cons_succ, List.set_cons_zero])
              | ((go_at_call 54; (with_reducible refine (IHj.out _ hT5 hS5 zj2).mono ?_); rintro e w' ⟨rfl, hN6⟩); rw [CF.out]))
            have hb6 := hb5.trans (hN6.mono hb5.size)
            go_ret
            rw [HF.out]
            exact ⟨rfl, hb2.trans ((hbj.trans (hb6.mono hbj.size)).mono hb2.size)⟩
        · have LN : decide ((j : Int) < n) = false := decide_eq_false cn
          have WJ : fWant 26 n ts.length j = 2 := by rw [fWant26, if_neg (by omega), if_neg cn]
          have IHj := Lib.hid (IH.out t (List.mem_of_getElem? HT0.out) 2 cj)
          by_cases cf : tfits t 2 = true
          · have CF := Lib.hid cf
            have HE2 := Lib.hid (show ∀ r u, r < j + 1 → ts[r]? = some u → tfits u (fWant 26 n ts.length r) = true from fun r u hr hu => by
              by_cases hrj : r = j
              · subst hrj; rw [HT0.out] at hu; cases hu; rw [WJ]; exact CF.out
              · exact HE.out r u (by omega) hu)
            clear cf HE WJ
            go_wp2_with (first
              | ((with_reducible refine' wpList_at_rd (.tmp 31) (.tmp 33) 23 rfl ?_ Tryd.underlying23 sz_node ?_ hrj (by decide) (j) ?_ ?_ ?_); exact rfl; exact rfl; (show (_ : Int) = _; omega); omega; simp only [Act.put, List.setIfInBounds_toArray, List.set_cons_succ, List.set_cons_zero]) | ((with_reducible refine' wpList_load_st (cp := cj) (.tmp 36) 25 rfl ?_ Tryd.underlying25 ?_ sz_node ?_ hrj ?_ ?_ HC.out ?_); exact rfl; exact rfl; exact rfl; exact BD.out; decide; simp only [Act.put, List.setIfInBounds_toArray, List.set_cons_succ, List.set_cons_zero])
              | (((with_reducible refine' wpList_alloc_blk (cs := nodz) 25 rfl ?_ zr_node ?_ ?_); exact rfl; exact nodz_cells; intro w4 k4 hN4 hz4; simp only [Act.put, List.setIfInBounds_toArray, List.set_cons_succ, List.set_cons_zero]))
              | (((with_reducible refine' wpList_store_blk (cs := cj) 25 (.tmp 5) (.tmp 37) rfl ?_ ?_ ?_ k4 sz_node ?_ ?_ ?_ ?_); exact rfl; exact rfl; exact rfl; exact CL.out; exact rfl; exact CO.out; intro w5 k5 hO5 hz5; simp only [Act.put]); have hb5 : Below wo.heap.size wo w5 := (hN4.trans (hO5.below (Nat.le_refl _) (Nat.le_of_lt k4.lt))); have kA5 := kAj.below hb5 kAj.lt; have hT5 := hTj.below hb5; have hS5 := hSj.below hb5)
              | ((with_reducible refine' wpList_field_blk (j := 1) (.tmp 1) 25 1 rfl ?_ fo_node_1 ?_ rfl ?_); exact rfl; exact rfl; simp only [Act.put, List.setIfInBounds_toArray, List.set_cons_succ, List.set_cons_zero]) | ((with_reducible refine' wpList_load_blk (.tmp 39) 3 rfl ?_ ld_int ?_ kA5 (X1.out) ?_); exact rfl; exact rfl; simp only [Act.put, List.setIfInBounds_toArray, List.set_cons_succ, List.set_cons_zero]) | ((with_reducible refine' wpList_loadst_blk (.tmp 5) 25 rfl ?_ Tryd.underlying25 ?_ sz_node ?_ k5 ?_ ?_ ?_); exact rfl; exact rfl; exact rfl; exact CL.out; decide; simp only [Act.put, List.setIfInBounds_toArray, List.set_cons_succ, List.set_cons_zero])
              | ((go_at_call 54; (with_reducible refine (IHj.out _ hT5 hS5 zj2).mono ?_); rintro e w' ⟨rfl, hN6⟩); rw [CF.out]))
            have hb6 := hb5.trans (hN6.mono hb5.size)
            go_roundw
            case rel => (first | exact ⟨j + 1, by omega, by go_num, HE2, hbj.trans (hb6.mono hbj.size)⟩ | ((repeat apply Exists.intro); exact ⟨⟨j + 1, by omega, by go_num, HE2, hbj.trans (hb6.mono hbj.size)⟩, rfl⟩))
            case measure => simp [intOf]; omega
          · have CF := Lib.hid (show tfits t 2 = false by simpa using cf)
            have HF := Lib.hid (show fFun n ts = false by
              unfold fFun
              rw [fitsL_no (f := fWant 26 n ts.length) HT0.out (by rw [WJ]; exact CF.out), Bool.and_false, Bool.and_false])
            clear cf HE WJ
            go_wp2_with (first
              | ((with_reducible refine' wpList_at_rd (.tmp 31) (.tmp 33) 23 rfl ?_ Tryd.underlying23 sz_node ?_ hrj (by decide) (j) ?_ ?_ ?_); exact rfl; exact rfl; (show (_ : Int) = _; omega); omega; simp only [Act.put, List.setIfInBounds_toArray, List.set_cons_succ, List.set_cons_zero]) | ((with_reducible refine' wpList_load_st (cp := cj) (.tmp 36) 25 rfl ?_ Tryd.underlying25 ?_ sz_node ?_ hrj ?_ ?_ HC.out ?_); exact rfl; exact rfl; exact rfl; exact BD.out; decide; simp only [Act.put, List.setIfInBounds_toArray, List.set_cons_succ, List.set_cons_zero])
              | (((with_reducible refine' wpList_alloc_blk (cs := nodz) 25 rfl ?_ zr_node ?_ ?_); exact rfl; exact nodz_cells; intro w4 k4 hN4 hz4; simp only [Act.put, List.setIfInBounds_toArray, List.set_cons_succ, List.set_cons_zero]))
              | (((with_reducible refine' wpList_store_blk (cs := cj) 25 (.tmp 5) (.tmp 37) rfl ?_ ?_ ?_ k4 sz_node ?_ ?_ ?_ ?_); exact rfl; exact rfl; exact rfl; exact CL.out; exact rfl; exact CO.out; intro w5 k5 hO5 hz5; simp only [Act.put]); have hb5 : Below wo.heap.size wo w5 := (hN4.trans (hO5.below (Nat.le_refl _) (Nat.le_of_lt k4.lt))); have kA5 := kAj.below hb5 kAj.lt; have hT5 := hTj.below hb5; have hS5 := hSj.below hb5)
              | ((with_reducible refine' wpList_field_blk (j := 1) (.tmp 1) 25 1 rfl ?_ fo_node_1 ?_ rfl ?_); exact rfl; exact rfl; simp only [Act.put, List.setIfInBounds_toArray, List.set_cons_succ, List.set_cons_zero]) | ((with_reducible refine' wpList_load_blk (.tmp 39) 3 rfl ?_ ld_int ?_ kA5 (X1.out) ?_); exact rfl; exact rfl; simp only [Act.put, List.setIfInBounds_toArray, List.set_cons_succ, List.set_cons_zero]) | ((with_reducible refine' wpList_loadst_blk (.tmp 5) 25 rfl ?_ Tryd.underlying25 ?_ sz_node ?_ k5 ?_ ?_ ?_); exact rfl; exact rfl; exact rfl; exact CL.out; decide; simp only [Act.put, List.setIfInBounds_toArray, List.set_cons_succ, List.set_cons_zero])
              | ((go_at_call 54; (with_reducible refine (IHj.out _ hT5 hS5 zj2).mono ?_); rintro e w' ⟨rfl, hN6⟩); rw [CF.out]))
            have hb6 := hb5.trans (hN6.mono hb5.size)
            go_ret
            rw [HF.out]
            exact ⟨rfl, hb2.trans ((hbj.trans (hb6.mono hbj.size)).mono hb2.size)⟩
      · obtain rfl : j = V := by omega
        have HF := Lib.hid (show fFun n ts = true by
          unfold fFun
          have h1 : n ≤ (ts.length : Int) - 1 := by have := b1; rw [decide_eq_false_iff_not] at this; omega
          have h2 : (ts.length : Int) - 1 ≤ 6 := by have := b2; rw [decide_eq_false_iff_not] at this; omega
          rw [decide_eq_true h1, decide_eq_true h2, Bool.true_and, Bool.true_and, tfitsL_iff]
          intro r u hu
          rw [Nat.zero_add]
          have hrl := (List.getElem?_eq_some_iff.1 hu).1
          by_cases hrv : r = j
          · subst hrv; rw [HTB.out] at hu; cases hu; rw [fWant26, if_pos (by omega)]; exact c3'.out
          · exact HE.out r u (by omega) hu)
        go_wp2_with fail
        go_ret
        rw [HF.out]
        exact ⟨rfl, hb2.trans (hbj.mono hb2.size)⟩
  · have HF := Lib.hid (show fFun n ts = false by
      unfold fFun
      rw [fitsL_no (f := fWant 26 n ts.length) HTB.out (by rw [fWant26, if_pos (by omega)]; simpa using c3), Bool.and_false, Bool.and_false])
    have c3' := Lib.hid (show tfits tb 6 = false by simpa using c3)
    clear c3
    go_wp2_with (first
      | ((with_reducible refine' wpList_field_blk (j := 3) (.tmp 1) 25 3 rfl ?_ fo_node_3 ?_ rfl ?_); exact rfl; exact rfl; simp only [Act.put, List.setIfInBounds_toArray, List.set_cons_succ, List.set_cons_zero]) | ((with_reducible refine' wpList_load_blk (.tmp 7) 23 rfl ?_ ld_nds ?_ kA (X3.out) ?_); exact rfl; exact rfl; simp only [Act.put, List.setIfInBounds_toArray, List.set_cons_succ, List.set_cons_zero]) | ((with_reducible refine' wpList_len_rd (.tmp 8) 23 rfl ?_ Tryd.underlying23 ?_ hr1 ?_); exact rfl; exact rfl; simp only [Act.put, List.setIfInBounds_toArray, List.set_cons_succ, List.set_cons_zero]) | ((with_reducible refine' wpList_field_blk (j := 1) (.tmp 1) 25 1 rfl ?_ fo_node_1 ?_ rfl ?_); exact rfl; exact rfl; simp only [Act.put, List.setIfInBounds_toArray, List.set_cons_succ, List.set_cons_zero]) | ((with_reducible refine' wpList_load_blk (.tmp 12) 3 rfl ?_ ld_int ?_ kA (X1.out) ?_); exact rfl; exact rfl; simp only [Act.put, List.setIfInBounds_toArray, List.set_cons_succ, List.set_cons_zero]) | ((with_reducible refine' wpList_load_blk (.tmp 20) 23 rfl ?_ ld_nds ?_ kA (X3.out) ?_); exact rfl; exact rfl; simp only [Act.put, List.setIfInBounds_toArray, List.set_cons_succ, List.set_cons_zero])
      | ((with_reducible refine' wpList_at_rd (.tmp 21) (.tmp 22) 23 rfl ?_ Tryd.underlying23 sz_node ?_ hr1 (by decide) (V) ?_ ?_ ?_); exact rfl; exact rfl; (show (_ : Int) = _; omega); omega; simp only [Act.put, List.setIfInBounds_toArray, List.set_cons_succ, List.set_cons_zero]) | ((with_reducible refine' wpList_load_st (cp := cb) (.tmp 23) 25 rfl ?_ Tryd.underlying25 ?_ sz_node ?_ hr1 ?_ ?_ HCB.out ?_); exact rfl; exact rfl; exact rfl; exact BDB.out; decide; simp only [Act.put, List.setIfInBounds_toArray, List.set_cons_succ, List.set_cons_zero])
      | ((go_at_call 54; (with_reducible refine (IHb.out _ hTb hS1 zb2).mono ?_); rintro e w' ⟨rfl, hN2⟩); rw [c3'.out]))
    go_ret
    rw [HF.out]
    exact ⟨rfl, hN1.trans (hN2.mono hN1.size)⟩
end Go.Proofs.YtdlhkhnoigbhjaaDoor.Wi
