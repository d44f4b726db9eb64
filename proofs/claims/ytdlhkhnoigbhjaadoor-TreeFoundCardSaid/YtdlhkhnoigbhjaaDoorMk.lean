/-
  Tgp, Tix, Teq, Tiy, Tpr, Tbg: my texts of these names, one behind the other. Conditions: those that each law names.
-/
import Derived.Test.YtdlhkhnoigbhjaaDoorMj
import Derived.Test.YtdlhkhnoigbhjaaDoorMf
import Derived.Test.YtdlhkhnoigbhjaaDoorMe
import Derived.Test.YtdlhkhnoigbhjaaDoorMb
import Derived.Test.YtdlhkhnoigbhjaaDoorMd
import Derived.Test.YtdlhkhnoigbhjaaDoorMi
import Derived.Deep.CutBlock
import Derived.Test.YtdlhkhnoigbhjaaDoorMg
import Derived.Test.YtdlhkhnoigbhjaaDoorMh
namespace Go.Proofs.YtdlhkhnoigbhjaaDoor.Pu
/-- what a function's variables have to be -/
def vWant (n : Int) (j : Nat) : Int := if (j : Int) < n then 3 else 2
theorem snoc_fit {f : Nat → Int} {ts : List Tree} {t : Tree} (h : ∀ j u, ts[j]? = some u → tfits u (f j) = true) (ht : tfits t (f ts.length) = true) : ∀ j u, (ts ++ [t])[j]? = some u → tfits u (f j) = true := by
  intro j u hj
  rcases Nat.lt_trichotomy j ts.length with hlt | heq | hgt
  · rw [List.getElem?_append_left hlt] at hj; exact h j u hj
  · subst heq; rw [List.getElem?_append_right (Nat.le_refl _), Nat.sub_self] at hj; simp at hj; subst hj; exact ht
  · rw [List.getElem?_eq_none (by simp; omega)] at hj; cases hj
end Go.Proofs.YtdlhkhnoigbhjaaDoor.Pu
namespace Go.Proofs.YtdlhkhnoigbhjaaDoor.Wi
open Go Go.RowKit Pu Lb
set_option linter.unusedSimpArgs false
set_option linter.unusedVariables false
theorem kids_step {w10 w11 w12 : World} {X : Nat → Prop} {v v' : Value} {ts : List Tree} {xs : List Value} {t1 : Tree} {cs1 : List Value} (HT : IsTsX (fun b => X b ∧ v.ownBlock ≠ some b) w10 ts xs)
    (hT1 : IsTX (fun b => X b ∧ v.ownBlock ≠ some b) w10 t1 cs1) (hN11 : Below w10.heap.size w10 w11) (hg : w11.grownBy w12 v.ownBlock) (hst : Stayed w11 v v') :
    IsTsX (fun b => X b ∧ v'.ownBlock ≠ some b) w12 (ts ++ [t1]) (xs ++ cs1) := by
  have h1 : IsTsX (fun b => (X b ∧ v.ownBlock ≠ some b) ∧ b < w11.heap.size) w11 ts xs := (HT.below hN11).lt
  have h2 : IsTX (fun b => (X b ∧ v.ownBlock ≠ some b) ∧ b < w11.heap.size) w11 t1 cs1 := (hT1.below hN11).lt
  have h3 := h1.snoc h2
  exact (h3.keep (Keep.grown hg fun b h => fun e => h.1.2 e.symm)).mono fun b h => ⟨h.1.1, fun e => hst.ne (fun e2 => h.1.2 e2.symm) h.2 e.symm⟩
set_option maxRecDepth 100000 in
set_option maxHeartbeats 3200000 in
theorem program_any (l : List Int) (hl : ∀ x ∈ l, I64 x) (v : Value) (w : World) (hr : Rd w 1 v l.length (iv l)) :
    Calls Tryd.prog 12 #[v] w fun e w' => ∃ t cs, e = .returned (.agg cs.toArray) ∧ IsTX (fun b => w.heap.size ≤ b) w' t cs ∧ Below w.heap.size w w' ∧ tfits t 0 = true ∧ tsize t ≤ 200 ∧ tdepth t ≤ 11 := by
  have HL := Lib.hid hl
  obtain ⟨ad, cap, rfl⟩ : ∃ ad cap, v = .slice ad l.length cap := by obtain ⟨_, ad, cap, h, _⟩ := hr; exact ⟨ad, cap, h⟩
  clear hl
  go_enter Tryd.func12, Tryd.ntmps12
  go_upto_region 1 with (((with_reducible refine' wpList_alloc_blk (cs := nodz) 25 rfl ?_ zr_node ?_ ?_); exact rfl; exact nodz_cells; intro w1 kR hN1 hz1; simp only [Act.put, List.setIfInBounds_toArray, List.set_cons_succ, List.set_cons_zero]))
  have lR := kR.lt
  go_upto_region 2 with (first
    | ((with_reducible refine' wpList_of_run (o := ⟨_, .build _ _, _, _, _, _⟩) (v := .agg #[.slice ad l.length cap, .int .i64 0, .int .i64 45]) (w' := w1) ?_ ?_ ?_); exact rfl; kernel_rfl; simp only [Act.put, List.setIfInBounds_toArray, List.set_cons_succ, List.set_cons_zero])
    | (((with_reducible refine' wpList_boxa (cs := [.slice ad l.length cap, .int .i64 0, .int .i64 45]) 66 (.tmp 12) rfl ?_ ?_ ?_); exact rfl; exact rfl; intro w2 kB hN2 hz2; simp only [Act.put, List.setIfInBounds_toArray, List.set_cons_succ, List.set_cons_zero])))
  have s1 := hN1.size
  have hM : Mk w w2 w1.heap.size l 0 45 := ⟨_, kB, hr, hN1.size, hN1.trans (hN2.mono hN1.size)⟩
  obtain ⟨R, hR⟩ : ∃ R, w.heap.size = R := ⟨_, rfl⟩
  obtain ⟨B, hB⟩ : ∃ B, w1.heap.size = B := ⟨_, rfl⟩
  rw [hR] at kR lR
  rw [hB] at hM kB
  rw [hR, hB]
  replace kR := kR.below hN2 lR
  have hO : Only B w w2 := (Only.refl B w).belows (hN1.trans (hN2.mono hN1.size))
  have lB := kB.lt
  clear hz1 hz2 hN1 hN2 kB
  go_upto_region 3 with (first
    | ((go_at_call 47; (with_reducible refine (num_ex w B l _ _ 4 _ hM HL.out (by omega) (by omega) (by unfold I64; omega)).mono ?_); rintro e w' ⟨c, rfl, hc0, hc1, hM2, hO2⟩); replace hM := hM2; replace hO := hO.trans' hO2; replace kR := hO2.blk kR (by omega); have sq1 := hO2.size; clear hM2 hO2)
    | ((with_reducible refine' wpList_of_run (o := ⟨_, .build _ _, _, _, _, _⟩) (v := .agg #[.int .i64 27, .int .i64 c, .int .i64 0, .slice none 0 0]) (w' := _) ?_ ?_ ?_); exact rfl; kernel_rfl; simp only [Act.put, List.setIfInBounds_toArray, List.set_cons_succ, List.set_cons_zero])
    | (((with_reducible refine' wpList_alloc_blk (cs := nodz) 25 rfl ?_ zr_node ?_ ?_); exact rfl; exact nodz_cells; intro w3 kP hN3 hz3; simp only [Act.put, List.setIfInBounds_toArray, List.set_cons_succ, List.set_cons_zero]))
    | ((with_reducible refine' wpList_store_blk (cs := [.int .i64 27, .int .i64 c, .int .i64 0, .slice none 0 0]) 25 (.tmp 4) (.tmp 16) rfl ?_ ?_ ?_ kP sz_node ?_ ?_ ?_ ?_); exact rfl; exact rfl; exact rfl; exact rfl; exact rfl; exact node_ones rfl; intro w4 kP4 hO4 hz4; simp only [Act.put]))
  obtain ⟨P, hP⟩ : ∃ P, w'.heap.size = P := ⟨_, rfl⟩
  rw [hP] at kP4 hO4 ⊢
  have sq2 := hN3.size
  replace kR := hO4.blk (kR.below hN3 kR.lt) (by omega)
  replace hM := (hM.below hN3).only hO4 (by omega) (by omega)
  replace hO := (hO.belows hN3).far hO4 (by omega)
  have lP := kP4.lt
  clear hN3 hO4 hz3 hz4 kP
  go_upto_region 4 with (first
    | ((go_at_call 47; (with_reducible refine (num_ex w B l _ _ 3 _ hM HL.out (by omega) (by omega) (by unfold I64; omega)).mono ?_); rintro e w' ⟨f0, rfl, hf0, hf1, hM2, hO2⟩); replace hM := hM2; replace hO := hO.trans' hO2; replace kR := hO2.blk kR (by omega); replace kP4 := hO2.blk kP4 (by omega); have sq3 := hO2.size; clear hM2 hO2))
  obtain ⟨K, hK⟩ : ∃ K : Nat, f0 = (K : Int) := ⟨f0.toNat, by omega⟩
  subst hK
  go_upto_region 5 with fail
  go_loopw [6] (fun i wr => ∃ (j a : Nat) (fs : List Tree) (L : Int) (v : Value) (xs : List Value), i = .int .i64 (j : Int) ∧ fs.length = j ∧ j ≤ K + 1 ∧ wr.ownsRow (P + 1) 25 4 v j xs ∧ Hid (IsTsX (fun b => P < b ∧ v.ownBlock ≠ some b) wr fs xs) ∧
    Blk wr P 25 [.int .i64 27, .int .i64 c, .int .i64 0, v] ∧ Blk wr R 25 nodz ∧ Mk w wr B l a L ∧ Only B w wr ∧ Hid (∀ t ∈ fs, tfits t 1 = true) ∧ tdepths fs ≤ 10 ∧ (tsizes fs : Int) ≤ 15 * (j : Int) + 45 - L ∧ (a : Int) + 3 * L ≤ 1000 + 100 * (j : Int) ∧ -104 - (j : Int) ≤ L ∧ L ≤ 45) (fun i _ => K + 1 - (intOf i).toNat)
  case atStart => exact ⟨0, _, [], 45, .slice none 0 0, [], rfl, rfl, Nat.zero_le _, World.ownsRow_nil _ _ _ _, Lib.hid IsTsX.nil, kP4, kR, hM, hO, Lib.hid (by intro t ht; cases ht), by rw [tdepths]; omega, by rw [tsizes]; omega, by omega, by omega, by omega⟩
  case round =>
    obtain ⟨jo, a, fs, L, vo, xo, rfl, hfs, hj, howno, HTo, kP, kR, hM, hO, HFo, hd1, hd2, hd3, hd4, hd5⟩ := hrel
    obtain ⟨wo, rfl⟩ : ∃ wo : World, wo = wr := ⟨_, rfl⟩
    by_cases hlt : jo < K + 1
    · have hK3 : K ≤ 2 := by omega
      have hOout := hO
      clear hO
      have sO0 := hOout.size
      have lP0 := kP.lt
      have lB0 : B < wo.heap.size := by obtain ⟨lv, h, _⟩ := hM; exact h.lt
      have hOo : Only B wo wo := Only.refl _ _
      go_upto_region 8 with (first
        | ((go_at_call 47; (with_reducible refine (num_ex w B l _ _ 3 _ hM HL.out (by omega) (by omega) (by unfold I64; omega)).mono ?_); rintro e w' ⟨n, rfl, hn0, hn1, hM2, hO2⟩); replace hM := hM2; replace hOo := hO2; have sq4 := hO2.size; clear hM2 hO2)
        | ((with_reducible refine' wpList_of_run (o := ⟨_, .build _ _, _, _, _, _⟩) (v := .agg #[.int .i64 26, .int .i64 n, .int .i64 0, .slice none 0 0]) (w' := _) ?_ ?_ ?_); exact rfl; kernel_rfl; simp only [Act.put, List.setIfInBounds_toArray, List.set_cons_succ, List.set_cons_zero])
        | (((with_reducible refine' wpList_alloc_blk (cs := nodz) 25 rfl ?_ zr_node ?_ ?_); exact rfl; exact nodz_cells; intro w3 kF hN3 hz3; simp only [Act.put, List.setIfInBounds_toArray, List.set_cons_succ, List.set_cons_zero]))
        | ((with_reducible refine' wpList_store_blk (cs := [.int .i64 26, .int .i64 n, .int .i64 0, .slice none 0 0]) 25 (.tmp 7) (.tmp 27) rfl ?_ ?_ ?_ kF sz_node ?_ ?_ ?_ ?_); exact rfl; exact rfl; exact rfl; exact rfl; exact rfl; exact node_ones rfl; intro w4 kF4 hO4 hz4; simp only [Act.put]))
      obtain ⟨F, hF⟩ : ∃ F, w'.heap.size = F := ⟨_, rfl⟩
      rw [hF] at kF4 hO4 ⊢
      have sq5 := hN3.size
      replace hM := (hM.below hN3).only hO4 (by omega) (by omega)
      replace hOo := (hOo.belows hN3).far hO4 (by omega)
      have lF := kF4.lt
      clear hN3 hO4 hz3 hz4 kF
      have XN := Lib.hid (show ([.int .i64 26, .int .i64 n, .int .i64 0, .slice none 0 0] : List Value)[1]? = some (.int .i64 n) from rfl)
      have hbd : Below w4.heap.size w4 w4.drew := (Below.refl _ _).drew
      have kFd := kF4.below hbd lF
      replace hM := hM.below hbd
      replace hOo := hOo.belows hbd
      (refine wp_region_plan (fun w' => Blk w' F 25 [.int .i64 26, .int .i64 n, .int .i64 0, .slice none 0 0]) (.f 0 (.f 1 (.f 2 (.o 3 (.f 4 .tail))))) 5 (by kernel_rfl) (by kernel_rfl) (kFd) ?_)
      (repeat (refine wpPlan_f rfl ?_; (first | ((with_reducible refine' wpQuietM_field (k := 0) (j := 1) (.tmp 7) 25 1 rfl ?_ fo_node_1 ?_ rfl ?_); exact rfl; rotate_left; exact rfl; simp only [Act.put, List.setIfInBounds_toArray, List.set_cons_succ, List.set_cons_zero]) | ((with_reducible refine' wpQuietB_load_blk (.tmp 28) 3 rfl ?_ ld_int ?_ XN.out ?_); exact rfl; exact rfl; simp only [Act.put, List.setIfInBounds_toArray, List.set_cons_succ, List.set_cons_zero]) | go_big_quiet_step (fail) | (go_big_quiet_want; go_big_quiet_op; refine ⟨_, fun _ _ => rfl, ?_⟩; go_big_quiet_on)); refine wpQuiet_nil ?_))
      refine wpPlan_o rfl ?_
      go_wp2_with ((go_at_call 47; (with_reducible refine (num_ex w B l _ _ 3 _ hM HL.out (by omega) (by omega) (by unfold I64; omega)).mono ?_); rintro e w' ⟨m0, rfl, hm0, hm1, hM2, hO2⟩))
      have kF5 := hO2.blk kFd (by omega)
      refine ⟨rfl, kF5, ?_⟩
      (repeat (refine wpPlan_f rfl ?_; (first | fail | go_big_quiet_step (fail) | (go_big_quiet_want; go_big_quiet_op; refine ⟨_, fun _ _ => rfl, ?_⟩; go_big_quiet_on)); refine wpQuiet_nil ?_))
      refine wpPlan_tail ?_
      go_wp2_with fail
      refine onlyN ?_
      replace hOo := hOo.trans' hO2
      replace hM := hM2
      have lF5 := kF5.lt
      clear hO2 hM2 kFd kF4 hbd XN
      obtain ⟨V, hV⟩ : ∃ V : Nat, n + m0 = (V : Int) := ⟨(n + m0).toNat, by omega⟩
      rw [hV]
      go_upto_region 10 with fail
      go_loopw [9] (fun i wr => ∃ (j a' : Nat) (ts : List Tree) (v : Value) (xs : List Value), i = .int .i64 (j : Int) ∧ ts.length = j ∧ j ≤ V ∧ wr.ownsRow (F + 1) 25 4 v j xs ∧ Hid (IsTsX (fun b => F < b ∧ v.ownBlock ≠ some b) wr ts xs) ∧
        Blk wr F 25 [.int .i64 26, .int .i64 n, .int .i64 0, v] ∧ Mk w wr B l a' L ∧ Only B wo wr ∧ Hid (∀ j u, ts[j]? = some u → tfits u (vWant n j) = true) ∧ tdepths ts ≤ 2 ∧ tsizes ts ≤ 3 * j ∧ a ≤ a' ∧ a' ≤ a + 2 + 6 * j) (fun i _ => V - (intOf i).toNat)
      case atStart => exact ⟨0, _, [], .slice none 0 0, [], rfl, rfl, Nat.zero_le _, World.ownsRow_nil _ _ _ _, Lib.hid IsTsX.nil, kF5, hM, hOo, Lib.hid (by intro j u hj; simp at hj), by rw [tdepths]; omega, by rw [tsizes]; omega, by omega, by omega⟩
      case round =>
        clear hM hOo kF5
        obtain ⟨j, a', ts, v, xs, rfl, hts, hjV, hown, HT, kF, hM, hO, HF, he1, he2, he3, he4⟩ := hrel
        obtain ⟨w5, rfl⟩ : ∃ w5 : World, w5 = wr := ⟨_, rfl⟩
        by_cases hlt2 : j < V
        · have lFr := kF.lt
          have ha5 : a ≤ 5000 := by omega
          clear hd1 hd2 hd3 hd4 hd5 hOout hfs kP kR HTo howno HFo hK3 hlt hj sq1 sq2 sq3 lP lP0 hP hr hf0 hf1 hc0 hc1 lR
          have XN := Lib.hid (show ([.int .i64 26, .int .i64 n, .int .i64 0, v] : List Value)[1]? = some (.int .i64 n) from rfl)
          go_upto_region 13 with (first
            | ((go_at_call 47; (with_reducible refine (num_ex w B l _ _ 2 _ hM HL.out (by omega) (by omega) (by unfold I64; omega)).mono ?_); rintro e w' ⟨k, rfl, hk0, hk1, hM2, hO2⟩); replace hM := hM2; replace hO := hO.trans' hO2; replace kF := hO2.blk kF (by omega); replace HT := Lib.hid (HT.out.only hO2 (fun b h => by omega)); replace hown := own_only hown hO2 (own_ne hown (by omega)); have sq := hO2.size; skip; clear hM2 hO2)
            | ((with_reducible refine' wpList_of_run (o := ⟨_, .build _ _, _, _, _, _⟩) (v := .agg #[.int .i64 k, .int .i64 0, .int .i64 0, .slice none 0 0]) (w' := _) ?_ ?_ ?_); exact rfl; kernel_rfl; simp only [Act.put, List.setIfInBounds_toArray, List.set_cons_succ, List.set_cons_zero])
            | (((with_reducible refine' wpList_alloc_blk (cs := nodz) 25 rfl ?_ zr_node ?_ ?_); exact rfl; exact nodz_cells; intro w6 kT0 hN6 hz6; simp only [Act.put, List.setIfInBounds_toArray, List.set_cons_succ, List.set_cons_zero]))
            | ((with_reducible refine' wpList_store_blk (cs := [.int .i64 k, .int .i64 0, .int .i64 0, .slice none 0 0]) 25 (.tmp 10) (.tmp 40) rfl ?_ ?_ ?_ kT0 sz_node ?_ ?_ ?_ ?_); exact rfl; exact rfl; exact rfl; exact rfl; exact rfl; exact node_ones rfl; intro w7 kT hO7 hz7; simp only [Act.put]))
          obtain ⟨T, hT⟩ : ∃ T, w'.heap.size = T := ⟨_, rfl⟩
          rw [hT] at kT hO7 ⊢
          have sz6 := hN6.size
          have hvT0 : v.ownBlock ≠ some T := fun e => by have := (hown.lt T e).2; omega
          have lF6 := kF.lt
          have szo := hO.size
          replace HT := Lib.hid (show IsTsX (fun b => (F < b ∧ b ≠ T) ∧ v.ownBlock ≠ some b) w7 ts xs from (((HT.out.lt).below hN6).only hO7 (fun b h => by omega)).mono (fun b h => ⟨⟨h.1.1, by omega⟩, h.1.2⟩))
          replace kF := hO7.blk (kF.below hN6 lF6) (by omega)
          replace hown := own_only (own_below hown hN6) hO7 hvT0
          replace hM := (hM.below hN6).only hO7 (by omega) (by omega)
          replace hO := (hO.belows hN6).far hO7 (by omega)
          clear hN6 hO7 hz6 hz7 kT0
          by_cases hjn : (j : Int) < n
          · have b1 : decide (n ≤ (j : Int)) = false := by rw [decide_eq_false_iff_not]; omega
            have HTT : ∀ w' : World, IsTX (fun b => (F < b ∧ b ≠ T) ∧ v.ownBlock ≠ some b) w' (.mk k 0 0 []) [.int .i64 k, .int .i64 0, .int .i64 0, .slice none 0 0] := fun w' => IsTX.leaf
            obtain ⟨tc, htc⟩ : ∃ x : List Value, [.int .i64 k, .int .i64 0, .int .i64 0, .slice none 0 0] = x := ⟨_, rfl⟩
            have HT1 := (HTT w7)
            rw [htc] at HT1 kT
            have CLt := Lib.hid HT1.len
            have COt := Lib.hid HT1.isT.ones
            have X3 := Lib.hid (show ([.int .i64 26, .int .i64 n, .int .i64 0, v] : List Value)[3]? = some v from rfl)
            have l3 := Lib.hid (show 3 < ([.int .i64 26, .int .i64 n, .int .i64 0, v] : List Value).length by simp)
            have vF : v.ownBlock ≠ some F := own_ne hown (by omega)
            have vB : v.ownBlock ≠ some B := own_ne hown (by omega)
            clear htc
            go_wp2_with (first
              | ((with_reducible refine' wpList_field_blk (j := 1) (.tmp 7) 25 1 rfl ?_ fo_node_1 ?_ rfl ?_); exact rfl; exact rfl; simp only [Act.put, List.setIfInBounds_toArray, List.set_cons_succ, List.set_cons_zero]) | ((with_reducible refine' wpList_load_blk (.tmp 42) 3 rfl ?_ ld_int ?_ kF (XN.out) ?_); exact rfl; exact rfl; simp only [Act.put, List.setIfInBounds_toArray, List.set_cons_succ, List.set_cons_zero]) | ((with_reducible refine' wpList_load_blk (.tmp 55) 3 rfl ?_ ld_int ?_ kF (XN.out) ?_); exact rfl; exact rfl; simp only [Act.put, List.setIfInBounds_toArray, List.set_cons_succ, List.set_cons_zero])
              | ((with_reducible refine' wpList_field_blk (j := 3) (.tmp 7) 25 3 rfl ?_ fo_node_3 ?_ rfl ?_); exact rfl; exact rfl; simp only [Act.put, List.setIfInBounds_toArray, List.set_cons_succ, List.set_cons_zero]) | ((with_reducible refine' wpList_load_blk (.tmp 71) 23 rfl ?_ ld_nds ?_ kF (X3.out) ?_); exact rfl; exact rfl; simp only [Act.put, List.setIfInBounds_toArray, List.set_cons_succ, List.set_cons_zero]) | ((with_reducible refine' wpList_loadst_blk (.tmp 10) 25 rfl ?_ Tryd.underlying25 ?_ sz_node ?_ kT ?_ ?_ ?_); exact rfl; exact rfl; exact rfl; exact CLt.out; decide; simp only [Act.put, List.setIfInBounds_toArray, List.set_cons_succ, List.set_cons_zero])
              | (((with_reducible refine' wpList_build_sts (css := [tc]) rfl ?_ Tryd.underlying23 inf_node ?_ ?_ ?_ ?_ ?_ ?_); exact rfl; exact rfl; (first | omega | decide); (first | omega | decide); exact rfl; (intro c hc; simp at hc; subst hc; exact CLt.out); intro w11 k11 hN11 hz11; simp only [Act.put, List.setIfInBounds_toArray, List.set_cons_succ, List.set_cons_zero]); rw [show [tc].flatten = tc by simp] at k11; have lF := kF.lt; replace kF := kF.below hN11 lF; have o11 := own_below hown hN11; have r11 := k11.rdall 1 4 CLt.out (by unfold maxLen; omega); have hMb := hM.below hN11; have hOb := hO.belows hN11; have sz11 := hN11.size)
              | (((with_reducible refine' wpList_append_at (.tmp 72) (.tmp 74) 23 rfl ?_ Tryd.underlying23 inf_node ?_ ?_ ?_ o11 ?_ r11 COt.out ?_ ?_ (by omega) ?_); exact rfl; exact rfl; omega; exact rfl; exact rfl; (first | omega | (unfold maxLen; omega)); omega; intro v' w12 o12 hg12 hst; simp only [Act.put, List.setIfInBounds_toArray, List.set_cons_succ, List.set_cons_zero]); have hkk := kids_step (X := fun b => F < b ∧ b ≠ T) HT.out HT1 hN11 hg12 hst; replace kF := kF.grown hg12 (fun e => vF e.symm); have hMc := hMb.grown hg12 (fun e => vB e.symm) (fun b hb => by have := (hown.lt b hb).1; omega); have hOc := hOb.past hg12 (fun b hb => by have := (hown.lt b hb).1; omega))
              | (((with_reducible refine' wpList_set_blk (u := v') 23 (.tmp 76) (.tmp 75) rfl ?_ sz_nds ?_ ?_ kF (l3.out) ?_ ?_); exact rfl; exact rfl; exact rfl; exact (own_one o12); intro w13 kF13 hO13 hz13; simp only [Act.put, List.setIfInBounds_toArray, List.set_cons_succ, List.set_cons_zero])))
            have HT13 := Lib.hid ((hkk.only hO13 (fun b h => by omega)).mono (Y := fun b => F < b ∧ v'.ownBlock ≠ some b) (fun b h => ⟨h.1.1, h.2⟩))
            have o13 := own_only o12 hO13 (own_ne o12 (by omega))
            have hM13 := hMc.only hO13 (by omega) (by omega)
            have hO14 := hOc.far hO13 (by omega)
            have HF2 : Hid (∀ j u, (ts ++ [.mk k 0 0 []])[j]? = some u → tfits u (vWant n j) = true) := Lib.hid (snoc_fit (f := vWant n) HF.out (fit_leaf (by rw [hts, vWant, if_pos (by omega)]; rcases (show k = 0 ∨ k = 1 by omega) with rfl | rfl <;> rfl)))
            have g1 : tdepths (ts ++ [.mk k 0 0 []]) ≤ 2 := by rw [tdepths_snoc]; simp only [tdepth, tdepths]; omega
            have g2 : tsizes (ts ++ [.mk k 0 0 []]) ≤ 3 * (j + 1) := by rw [tsizes_snoc]; simp only [tsize, tsizes]; omega
            clear HT hown kF hkk o11 r11 hN11 hg12 hst o12 hMb hMc hOb hOc hM hO k11 kT hO13 vF vB HF HT1
            go_roundw
            case rel => (first | exact ⟨j + 1, _, ts ++ [.mk k 0 0 []], v', _, rfl, by simp [hts], by omega, o13, HT13, kF13, hM13, hO14, HF2, g1, g2, by omega, by omega⟩ | ((repeat apply Exists.intro); exact ⟨⟨j + 1, _, ts ++ [.mk k 0 0 []], v', _, rfl, by simp [hts], by omega, o13, HT13, kF13, hM13, hO14, HF2, g1, g2, by omega, by omega⟩, rfl⟩))
            case measure => simp [intOf]; omega
          · have b1 : decide (n ≤ (j : Int)) = true := by rw [decide_eq_true_iff]; omega
            go_upto_if 49 with (first
              | ((with_reducible refine' wpList_field_blk (j := 1) (.tmp 7) 25 1 rfl ?_ fo_node_1 ?_ rfl ?_); exact rfl; exact rfl; simp only [Act.put, List.setIfInBounds_toArray, List.set_cons_succ, List.set_cons_zero]) | ((with_reducible refine' wpList_load_blk (.tmp 42) 3 rfl ?_ ld_int ?_ kF (XN.out) ?_); exact rfl; exact rfl; simp only [Act.put, List.setIfInBounds_toArray, List.set_cons_succ, List.set_cons_zero])
              | ((go_at_call 47; (with_reducible refine (num_ex w B l _ _ 3 _ hM HL.out (by omega) (by omega) (by unfold I64; omega)).mono ?_); rintro e w' ⟨y1, rfl, hy0, hy1, hM2, hO2⟩); replace hM := hM2; replace hO := hO.trans' hO2; replace kF := hO2.blk kF (by omega); replace HT := Lib.hid (HT.out.only hO2 (fun b h => by omega)); replace hown := own_only hown hO2 (own_ne hown (by omega)); have sq := hO2.size; replace kT := hO2.blk kT (by omega); clear hM2 hO2)
              )
            by_cases hy : y1 = 0
            · subst hy
              go_upto_region 17 with (first
                | ((go_at_call 47; (with_reducible refine (num_ex w B l _ _ 4 _ hM HL.out (by omega) (by omega) (by unfold I64; omega)).mono ?_); rintro e w' ⟨y2, rfl, hy2, hy3, hM2, hO2⟩); replace hM := hM2; replace hO := hO.trans' hO2; replace kF := hO2.blk kF (by omega); replace HT := Lib.hid (HT.out.only hO2 (fun b h => by omega)); replace hown := own_only hown hO2 (own_ne hown (by omega)); have sq := hO2.size; replace kT := hO2.blk kT (by omega); clear hM2 hO2)
                | ((with_reducible refine' wpList_of_run (o := ⟨_, .build _ _, _, _, _, _⟩) (v := .agg #[.int .i64 2, .int .i64 (1 + y2), .int .i64 0, .slice none 0 0]) (w' := _) ?_ ?_ ?_); exact rfl; kernel_rfl; simp only [Act.put, List.setIfInBounds_toArray, List.set_cons_succ, List.set_cons_zero])
                | (((with_reducible refine' wpList_store_blk (cs := [.int .i64 2, .int .i64 (1 + y2), .int .i64 0, .slice none 0 0]) 25 (.tmp 10) (.tmp 53) rfl ?_ ?_ ?_ kT sz_node ?_ ?_ ?_ ?_); exact rfl; exact rfl; exact rfl; exact rfl; exact rfl; exact node_ones rfl; intro w8 kT8 hO8 hz8; simp only [Act.put]); replace kT := kT8; replace kF := hO8.blk kF (by omega); replace HT := Lib.hid (HT.out.only hO8 (fun b h => by omega)); have hvT : v.ownBlock ≠ some T := (fun e => hvT0 e); replace hown := own_only hown hO8 hvT; replace hM := hM.only hO8 (by omega) (by omega); replace hO := hO.far hO8 (by omega); clear hz8 hvT)
                )
              have HTT : ∀ w' : World, IsTX (fun b => (F < b ∧ b ≠ T) ∧ v.ownBlock ≠ some b) w' (.mk 2 (1 + y2) 0 []) [.int .i64 2, .int .i64 (1 + y2), .int .i64 0, .slice none 0 0] := fun w' => IsTX.leaf
              obtain ⟨tc, htc⟩ : ∃ x : List Value, [.int .i64 2, .int .i64 (1 + y2), .int .i64 0, .slice none 0 0] = x := ⟨_, rfl⟩
              have HT1 := (HTT w8)
              rw [htc] at HT1 kT
              have CLt := Lib.hid HT1.len
              have COt := Lib.hid HT1.isT.ones
              have X3 := Lib.hid (show ([.int .i64 26, .int .i64 n, .int .i64 0, v] : List Value)[3]? = some v from rfl)
              have l3 := Lib.hid (show 3 < ([.int .i64 26, .int .i64 n, .int .i64 0, v] : List Value).length by simp)
              have vF : v.ownBlock ≠ some F := own_ne hown (by omega)
              have vB : v.ownBlock ≠ some B := own_ne hown (by omega)
              clear htc
              go_wp2_with (first
                | ((with_reducible refine' wpList_field_blk (j := 1) (.tmp 7) 25 1 rfl ?_ fo_node_1 ?_ rfl ?_); exact rfl; exact rfl; simp only [Act.put, List.setIfInBounds_toArray, List.set_cons_succ, List.set_cons_zero]) | ((with_reducible refine' wpList_load_blk (.tmp 42) 3 rfl ?_ ld_int ?_ kF (XN.out) ?_); exact rfl; exact rfl; simp only [Act.put, List.setIfInBounds_toArray, List.set_cons_succ, List.set_cons_zero]) | ((with_reducible refine' wpList_load_blk (.tmp 55) 3 rfl ?_ ld_int ?_ kF (XN.out) ?_); exact rfl; exact rfl; simp only [Act.put, List.setIfInBounds_toArray, List.set_cons_succ, List.set_cons_zero])
                | ((with_reducible refine' wpList_field_blk (j := 3) (.tmp 7) 25 3 rfl ?_ fo_node_3 ?_ rfl ?_); exact rfl; exact rfl; simp only [Act.put, List.setIfInBounds_toArray, List.set_cons_succ, List.set_cons_zero]) | ((with_reducible refine' wpList_load_blk (.tmp 71) 23 rfl ?_ ld_nds ?_ kF (X3.out) ?_); exact rfl; exact rfl; simp only [Act.put, List.setIfInBounds_toArray, List.set_cons_succ, List.set_cons_zero]) | ((with_reducible refine' wpList_loadst_blk (.tmp 10) 25 rfl ?_ Tryd.underlying25 ?_ sz_node ?_ kT ?_ ?_ ?_); exact rfl; exact rfl; exact rfl; exact CLt.out; decide; simp only [Act.put, List.setIfInBounds_toArray, List.set_cons_succ, List.set_cons_zero])
                | (((with_reducible refine' wpList_build_sts (css := [tc]) rfl ?_ Tryd.underlying23 inf_node ?_ ?_ ?_ ?_ ?_ ?_); exact rfl; exact rfl; (first | omega | decide); (first | omega | decide); exact rfl; (intro c hc; simp at hc; subst hc; exact CLt.out); intro w11 k11 hN11 hz11; simp only [Act.put, List.setIfInBounds_toArray, List.set_cons_succ, List.set_cons_zero]); rw [show [tc].flatten = tc by simp] at k11; have lF := kF.lt; replace kF := kF.below hN11 lF; have o11 := own_below hown hN11; have r11 := k11.rdall 1 4 CLt.out (by unfold maxLen; omega); have hMb := hM.below hN11; have hOb := hO.belows hN11; have sz11 := hN11.size)
                | (((with_reducible refine' wpList_append_at (.tmp 72) (.tmp 74) 23 rfl ?_ Tryd.underlying23 inf_node ?_ ?_ ?_ o11 ?_ r11 COt.out ?_ ?_ (by omega) ?_); exact rfl; exact rfl; omega; exact rfl; exact rfl; (first | omega | (unfold maxLen; omega)); omega; intro v' w12 o12 hg12 hst; simp only [Act.put, List.setIfInBounds_toArray, List.set_cons_succ, List.set_cons_zero]); have hkk := kids_step (X := fun b => F < b ∧ b ≠ T) HT.out HT1 hN11 hg12 hst; replace kF := kF.grown hg12 (fun e => vF e.symm); have hMc := hMb.grown hg12 (fun e => vB e.symm) (fun b hb => by have := (hown.lt b hb).1; omega); have hOc := hOb.past hg12 (fun b hb => by have := (hown.lt b hb).1; omega))
                | (((with_reducible refine' wpList_set_blk (u := v') 23 (.tmp 76) (.tmp 75) rfl ?_ sz_nds ?_ ?_ kF (l3.out) ?_ ?_); exact rfl; exact rfl; exact rfl; exact (own_one o12); intro w13 kF13 hO13 hz13; simp only [Act.put, List.setIfInBounds_toArray, List.set_cons_succ, List.set_cons_zero])))
              have HT13 := Lib.hid ((hkk.only hO13 (fun b h => by omega)).mono (Y := fun b => F < b ∧ v'.ownBlock ≠ some b) (fun b h => ⟨h.1.1, h.2⟩))
              have o13 := own_only o12 hO13 (own_ne o12 (by omega))
              have hM13 := hMc.only hO13 (by omega) (by omega)
              have hO14 := hOc.far hO13 (by omega)
              have HF2 : Hid (∀ j u, (ts ++ [.mk 2 (1 + y2) 0 []])[j]? = some u → tfits u (vWant n j) = true) := Lib.hid (snoc_fit (f := vWant n) HF.out (fit_leaf (by rw [hts, vWant, if_neg (by omega)]; simp [fHead, shF, fIs]; omega)))
              have g1 : tdepths (ts ++ [.mk 2 (1 + y2) 0 []]) ≤ 2 := by rw [tdepths_snoc]; simp only [tdepth, tdepths]; omega
              have g2 : tsizes (ts ++ [.mk 2 (1 + y2) 0 []]) ≤ 3 * (j + 1) := by rw [tsizes_snoc]; simp only [tsize, tsizes]; omega
              clear HT hown kF hkk o11 r11 hN11 hg12 hst o12 hMb hMc hOb hOc hM hO k11 kT hO13 vF vB HF HT1
              go_roundw
              case rel => (first | exact ⟨j + 1, _, ts ++ [.mk 2 (1 + y2) 0 []], v', _, rfl, by simp [hts], by omega, o13, HT13, kF13, hM13, hO14, HF2, g1, g2, by omega, by omega⟩ | ((repeat apply Exists.intro); exact ⟨⟨j + 1, _, ts ++ [.mk 2 (1 + y2) 0 []], v', _, rfl, by simp [hts], by omega, o13, HT13, kF13, hM13, hO14, HF2, g1, g2, by omega, by omega⟩, rfl⟩))
              case measure => simp [intOf]; omega
            · have b2 : (y1 == 0) = false := by rw [beq_eq_false_iff_ne]; exact hy
              have b3 : decide (y1 = 0) = false := by rw [decide_eq_false_iff_not]; exact hy
              go_upto_if 62 with (first
                | ((with_reducible refine' wpList_field_blk (j := 1) (.tmp 7) 25 1 rfl ?_ fo_node_1 ?_ rfl ?_); exact rfl; exact rfl; simp only [Act.put, List.setIfInBounds_toArray, List.set_cons_succ, List.set_cons_zero]) | ((with_reducible refine' wpList_load_blk (.tmp 55) 3 rfl ?_ ld_int ?_ kF (XN.out) ?_); exact rfl; exact rfl; simp only [Act.put, List.setIfInBounds_toArray, List.set_cons_succ, List.set_cons_zero])
                | ((go_at_call 47; (with_reducible refine (num_ex w B l _ _ 3 _ hM HL.out (by omega) (by omega) (by unfold I64; omega)).mono ?_); rintro e w' ⟨y2, rfl, hy2, hy3, hM2, hO2⟩); replace hM := hM2; replace hO := hO.trans' hO2; replace kF := hO2.blk kF (by omega); replace HT := Lib.hid (HT.out.only hO2 (fun b h => by omega)); replace hown := own_only hown hO2 (own_ne hown (by omega)); have sq := hO2.size; replace kT := hO2.blk kT (by omega); clear hM2 hO2)
                )
              by_cases hz : y2 = 0
              · subst hz
                have HK1 := True.intro
                go_upto_region 17 with (first
                  | ((go_at_call 47; (with_reducible refine (num_ex w B l _ _ 2 _ hM HL.out (by omega) (by omega) (by unfold I64; omega)).mono ?_); rintro e w' ⟨k1, rfl, hk2, hk3, hM2, hO2⟩); have MK := HK1; clear HK1; replace hM := hM2; replace hO := hO.trans' hO2; replace kF := hO2.blk kF (by omega); replace HT := Lib.hid (HT.out.only hO2 (fun b h => by omega)); replace hown := own_only hown hO2 (own_ne hown (by omega)); have sq := hO2.size; replace kT := hO2.blk kT (by omega); obtain ⟨cc1, hcc1⟩ : ∃ x : List Value, [.int .i64 k1, .int .i64 0, .int .i64 0, .slice none 0 0] = x := ⟨_, rfl⟩; have EC1 := Lib.hid (show Value.agg #[.int .i64 k1, .int .i64 0, .int .i64 0, .slice none 0 0] = Value.agg cc1.toArray by rw [← hcc1]); have CL1 := Lib.hid (show cc1.length = 4 by rw [← hcc1]; rfl); have HC1 := Lib.hid hcc1; clear hcc1; clear hM2 hO2)
                  | ((go_at_call 47; (with_reducible refine (num_ex w B l _ _ 2 _ hM HL.out (by omega) (by omega) (by unfold I64; omega)).mono ?_); rintro e w' ⟨k2, rfl, hk4, hk5, hM2, hO2⟩); replace hM := hM2; replace hO := hO.trans' hO2; replace kF := hO2.blk kF (by omega); replace HT := Lib.hid (HT.out.only hO2 (fun b h => by omega)); replace hown := own_only hown hO2 (own_ne hown (by omega)); have sq := hO2.size; replace kT := hO2.blk kT (by omega); obtain ⟨cc2, hcc2⟩ : ∃ x : List Value, [.int .i64 k2, .int .i64 0, .int .i64 0, .slice none 0 0] = x := ⟨_, rfl⟩; have EC2 := Lib.hid (show Value.agg #[.int .i64 k2, .int .i64 0, .int .i64 0, .slice none 0 0] = Value.agg cc2.toArray by rw [← hcc2]); have CL2 := Lib.hid (show cc2.length = 4 by rw [← hcc2]; rfl); have HC2 := Lib.hid hcc2; clear hcc2; clear hM2 hO2)
                  | (rw [EC1.out, EC2.out]; ((with_reducible refine' wpList_build_sts (css := [cc1, cc2]) rfl ?_ Tryd.underlying23 inf_node ?_ ?_ ?_ ?_ ?_ ?_); exact rfl; exact rfl; (first | omega | decide); (first | omega | decide); exact rfl; (intro c hc; simp at hc; rcases hc with rfl | rfl <;> first | exact CL1.out | exact CL2.out); intro w9 k9 hN9 hz9; simp only [Act.put, List.setIfInBounds_toArray, List.set_cons_succ, List.set_cons_zero]); have lF := kF.lt; have lT := kT.lt; replace kF := kF.below hN9 lF; replace kT := kT.below hN9 lT; replace HT := Lib.hid (HT.out.below hN9); have hvQ0 : ∀ g, v.ownBlock = some g → g < w'.heap.size := (fun g hg => (hown.lt g hg).2); replace hown := own_below hown hN9; have sz9 := hN9.size; replace hM := hM.below hN9; replace hO := hO.belows hN9; obtain ⟨Q, hQ⟩ : ∃ Q, w'.heap.size = Q := ⟨_, rfl⟩; rw [hQ] at k9 ⊢)
                  | ((with_reducible refine' wpList_of_run (o := ⟨_, .build _ _, _, _, _, _⟩) (v := .agg #[.int .i64 3, .int .i64 0, .int .i64 0, .slice (some ⟨Q, 0, none⟩) 2 2]) (w' := _) ?_ ?_ ?_); exact rfl; kernel_rfl; simp only [Act.put, List.setIfInBounds_toArray, List.set_cons_succ, List.set_cons_zero])
                  | (((with_reducible refine' wpList_store_blk (cs := [.int .i64 3, .int .i64 0, .int .i64 0, .slice (some ⟨Q, 0, none⟩) 2 2]) 25 (.tmp 10) (.tmp 70) rfl ?_ ?_ ?_ kT sz_node ?_ ?_ ?_ ?_); exact rfl; exact rfl; exact rfl; exact rfl; exact rfl; exact node_ones rfl; intro w8 kT8 hO8 hz8; simp only [Act.put]); replace kT := kT8; replace kF := hO8.blk kF (by omega); replace HT := Lib.hid (HT.out.only hO8 (fun b h => by omega)); have hvT : v.ownBlock ≠ some T := (fun e => hvT0 e); replace hown := own_only hown hO8 hvT; replace hM := hM.only hO8 (by omega) (by omega); replace hO := hO.far hO8 (by omega); clear hz8 hvT)
                  )
                have k9f := hO8.blk k9 (by omega)
                have vQ : v.ownBlock ≠ some Q := fun e => by have := hvQ0 Q e; omega
                have HTT : IsTX (fun b => (F < b ∧ b ≠ T) ∧ v.ownBlock ≠ some b) w8 (.mk 3 0 0 [.mk k1 0 0 [], .mk k2 0 0 []]) [.int .i64 3, .int .i64 0, .int .i64 0, .slice (some ⟨Q, 0, none⟩) 2 2] :=
                  IsTX.node (ts := [.mk k1 0 0 [], .mk k2 0 0 []]) (xs := cc1 ++ cc2) (by have := k9f.rdall 2 4 (by simp [CL1.out, CL2.out]) (by unfold maxLen; omega); simpa using this) (fun b hb _ => by obtain rfl := own_eq hb; exact ⟨⟨by omega, by omega⟩, vQ⟩) ((IsTsX.one (by rw [← HC1.out]; exact IsTX.leaf)).snoc (by rw [← HC2.out]; exact IsTX.leaf))
                obtain ⟨tc, htc⟩ : ∃ x : List Value, [.int .i64 3, .int .i64 0, .int .i64 0, .slice (some ⟨Q, 0, none⟩) 2 2] = x := ⟨_, rfl⟩
                have HT1 := HTT
                rw [htc] at HT1 kT
                have CLt := Lib.hid HT1.len
                have COt := Lib.hid HT1.isT.ones
                have X3 := Lib.hid (show ([.int .i64 26, .int .i64 n, .int .i64 0, v] : List Value)[3]? = some v from rfl)
                have l3 := Lib.hid (show 3 < ([.int .i64 26, .int .i64 n, .int .i64 0, v] : List Value).length by simp)
                have vF : v.ownBlock ≠ some F := own_ne hown (by omega)
                have vB : v.ownBlock ≠ some B := own_ne hown (by omega)
                clear htc
                go_wp2_with (first
                  | ((with_reducible refine' wpList_field_blk (j := 1) (.tmp 7) 25 1 rfl ?_ fo_node_1 ?_ rfl ?_); exact rfl; exact rfl; simp only [Act.put, List.setIfInBounds_toArray, List.set_cons_succ, List.set_cons_zero]) | ((with_reducible refine' wpList_load_blk (.tmp 42) 3 rfl ?_ ld_int ?_ kF (XN.out) ?_); exact rfl; exact rfl; simp only [Act.put, List.setIfInBounds_toArray, List.set_cons_succ, List.set_cons_zero]) | ((with_reducible refine' wpList_load_blk (.tmp 55) 3 rfl ?_ ld_int ?_ kF (XN.out) ?_); exact rfl; exact rfl; simp only [Act.put, List.setIfInBounds_toArray, List.set_cons_succ, List.set_cons_zero])
                  | ((with_reducible refine' wpList_field_blk (j := 3) (.tmp 7) 25 3 rfl ?_ fo_node_3 ?_ rfl ?_); exact rfl; exact rfl; simp only [Act.put, List.setIfInBounds_toArray, List.set_cons_succ, List.set_cons_zero]) | ((with_reducible refine' wpList_load_blk (.tmp 71) 23 rfl ?_ ld_nds ?_ kF (X3.out) ?_); exact rfl; exact rfl; simp only [Act.put, List.setIfInBounds_toArray, List.set_cons_succ, List.set_cons_zero]) | ((with_reducible refine' wpList_loadst_blk (.tmp 10) 25 rfl ?_ Tryd.underlying25 ?_ sz_node ?_ kT ?_ ?_ ?_); exact rfl; exact rfl; exact rfl; exact CLt.out; decide; simp only [Act.put, List.setIfInBounds_toArray, List.set_cons_succ, List.set_cons_zero])
                  | (((with_reducible refine' wpList_build_sts (css := [tc]) rfl ?_ Tryd.underlying23 inf_node ?_ ?_ ?_ ?_ ?_ ?_); exact rfl; exact rfl; (first | omega | decide); (first | omega | decide); exact rfl; (intro c hc; simp at hc; subst hc; exact CLt.out); intro w11 k11 hN11 hz11; simp only [Act.put, List.setIfInBounds_toArray, List.set_cons_succ, List.set_cons_zero]); rw [show [tc].flatten = tc by simp] at k11; have lF := kF.lt; replace kF := kF.below hN11 lF; have o11 := own_below hown hN11; have r11 := k11.rdall 1 4 CLt.out (by unfold maxLen; omega); have hMb := hM.below hN11; have hOb := hO.belows hN11; have sz11 := hN11.size)
                  | (((with_reducible refine' wpList_append_at (.tmp 72) (.tmp 74) 23 rfl ?_ Tryd.underlying23 inf_node ?_ ?_ ?_ o11 ?_ r11 COt.out ?_ ?_ (by omega) ?_); exact rfl; exact rfl; omega; exact rfl; exact rfl; (first | omega | (unfold maxLen; omega)); omega; intro v' w12 o12 hg12 hst; simp only [Act.put, List.setIfInBounds_toArray, List.set_cons_succ, List.set_cons_zero]); have hkk := kids_step (X := fun b => F < b ∧ b ≠ T) HT.out HT1 hN11 hg12 hst; replace kF := kF.grown hg12 (fun e => vF e.symm); have hMc := hMb.grown hg12 (fun e => vB e.symm) (fun b hb => by have := (hown.lt b hb).1; omega); have hOc := hOb.past hg12 (fun b hb => by have := (hown.lt b hb).1; omega))
                  | (((with_reducible refine' wpList_set_blk (u := v') 23 (.tmp 76) (.tmp 75) rfl ?_ sz_nds ?_ ?_ kF (l3.out) ?_ ?_); exact rfl; exact rfl; exact rfl; exact (own_one o12); intro w13 kF13 hO13 hz13; simp only [Act.put, List.setIfInBounds_toArray, List.set_cons_succ, List.set_cons_zero])))
                have HT13 := Lib.hid ((hkk.only hO13 (fun b h => by omega)).mono (Y := fun b => F < b ∧ v'.ownBlock ≠ some b) (fun b h => ⟨h.1.1, h.2⟩))
                have o13 := own_only o12 hO13 (own_ne o12 (by omega))
                have hM13 := hMc.only hO13 (by omega) (by omega)
                have hO14 := hOc.far hO13 (by omega)
                have HF2 : Hid (∀ j u, (ts ++ [.mk 3 0 0 [.mk k1 0 0 [], .mk k2 0 0 []]])[j]? = some u → tfits u (vWant n j) = true) := Lib.hid (snoc_fit (f := vWant n) HF.out (fit_of (by rw [hts, vWant, if_neg (by omega)]; rfl) (by rw [List.length_cons, List.length_singleton]; exact kids2 (fit_leaf (by rcases (show k1 = 0 ∨ k1 = 1 by omega) with rfl | rfl <;> rfl)) (fit_leaf (by rcases (show k2 = 0 ∨ k2 = 1 by omega) with rfl | rfl <;> rfl)))))
                have g1 : tdepths (ts ++ [.mk 3 0 0 [.mk k1 0 0 [], .mk k2 0 0 []]]) ≤ 2 := by rw [tdepths_snoc]; simp only [tdepth, tdepths]; omega
                have g2 : tsizes (ts ++ [.mk 3 0 0 [.mk k1 0 0 [], .mk k2 0 0 []]]) ≤ 3 * (j + 1) := by rw [tsizes_snoc]; simp only [tsize, tsizes]; omega
                clear HT hown kF hkk o11 r11 hN11 hg12 hst o12 hMb hMc hOb hOc hM hO k11 kT hO13 vF vB HF HT1
                go_roundw
                case rel => (first | exact ⟨j + 1, _, ts ++ [.mk 3 0 0 [.mk k1 0 0 [], .mk k2 0 0 []]], v', _, rfl, by simp [hts], by omega, o13, HT13, kF13, hM13, hO14, HF2, g1, g2, by omega, by omega⟩ | ((repeat apply Exists.intro); exact ⟨⟨j + 1, _, ts ++ [.mk 3 0 0 [.mk k1 0 0 [], .mk k2 0 0 []]], v', _, rfl, by simp [hts], by omega, o13, HT13, kF13, hM13, hO14, HF2, g1, g2, by omega, by omega⟩, rfl⟩))
                case measure => simp [intOf]; omega
              · have b4 : (y2 == 0) = false := by rw [beq_eq_false_iff_ne]; exact hz
                have b5 : decide (y2 = 0) = false := by rw [decide_eq_false_iff_not]; exact hz
                have HTT : ∀ w' : World, IsTX (fun b => (F < b ∧ b ≠ T) ∧ v.ownBlock ≠ some b) w' (.mk k 0 0 []) [.int .i64 k, .int .i64 0, .int .i64 0, .slice none 0 0] := fun w' => IsTX.leaf
                obtain ⟨tc, htc⟩ : ∃ x : List Value, [.int .i64 k, .int .i64 0, .int .i64 0, .slice none 0 0] = x := ⟨_, rfl⟩
                have HT1 := (HTT w')
                rw [htc] at HT1 kT
                have CLt := Lib.hid HT1.len
                have COt := Lib.hid HT1.isT.ones
                have X3 := Lib.hid (show ([.int .i64 26, .int .i64 n, .int .i64 0, v] : List Value)[3]? = some v from rfl)
                have l3 := Lib.hid (show 3 < ([.int .i64 26, .int .i64 n, .int .i64 0, v] : List Value).length by simp)
                have vF : v.ownBlock ≠ some F := own_ne hown (by omega)
                have vB : v.ownBlock ≠ some B := own_ne hown (by omega)
                clear htc
                go_wp2_with (first
                  | ((with_reducible refine' wpList_field_blk (j := 1) (.tmp 7) 25 1 rfl ?_ fo_node_1 ?_ rfl ?_); exact rfl; exact rfl; simp only [Act.put, List.setIfInBounds_toArray, List.set_cons_succ, List.set_cons_zero]) | ((with_reducible refine' wpList_load_blk (.tmp 42) 3 rfl ?_ ld_int ?_ kF (XN.out) ?_); exact rfl; exact rfl; simp only [Act.put, List.setIfInBounds_toArray, List.set_cons_succ, List.set_cons_zero]) | ((with_reducible refine' wpList_load_blk (.tmp 55) 3 rfl ?_ ld_int ?_ kF (XN.out) ?_); exact rfl; exact rfl; simp only [Act.put, List.setIfInBounds_toArray, List.set_cons_succ, List.set_cons_zero])
                  | ((with_reducible refine' wpList_field_blk (j := 3) (.tmp 7) 25 3 rfl ?_ fo_node_3 ?_ rfl ?_); exact rfl; exact rfl; simp only [Act.put, List.setIfInBounds_toArray, List.set_cons_succ, List.set_cons_zero]) | ((with_reducible refine' wpList_load_blk (.tmp 71) 23 rfl ?_ ld_nds ?_ kF (X3.out) ?_); exact rfl; exact rfl; simp only [Act.put, List.setIfInBounds_toArray, List.set_cons_succ, List.set_cons_zero]) | ((with_reducible refine' wpList_loadst_blk (.tmp 10) 25 rfl ?_ Tryd.underlying25 ?_ sz_node ?_ kT ?_ ?_ ?_); exact rfl; exact rfl; exact rfl; exact CLt.out; decide; simp only [Act.put, List.setIfInBounds_toArray, List.set_cons_succ, List.set_cons_zero])
                  | (((with_reducible refine' wpList_build_sts (css := [tc]) rfl ?_ Tryd.underlying23 inf_node ?_ ?_ ?_ ?_ ?_ ?_); exact rfl; exact rfl; (first | omega | decide); (first | omega | decide); exact rfl; (intro c hc; simp at hc; subst hc; exact CLt.out); intro w11 k11 hN11 hz11; simp only [Act.put, List.setIfInBounds_toArray, List.set_cons_succ, List.set_cons_zero]); rw [show [tc].flatten = tc by simp] at k11; have lF := kF.lt; replace kF := kF.below hN11 lF; have o11 := own_below hown hN11; have r11 := k11.rdall 1 4 CLt.out (by unfold maxLen; omega); have hMb := hM.below hN11; have hOb := hO.belows hN11; have sz11 := hN11.size)
                  | (((with_reducible refine' wpList_append_at (.tmp 72) (.tmp 74) 23 rfl ?_ Tryd.underlying23 inf_node ?_ ?_ ?_ o11 ?_ r11 COt.out ?_ ?_ (by omega) ?_); exact rfl; exact rfl; omega; exact rfl; exact rfl; (first | omega | (unfold maxLen; omega)); omega; intro v' w12 o12 hg12 hst; simp only [Act.put, List.setIfInBounds_toArray, List.set_cons_succ, List.set_cons_zero]); have hkk := kids_step (X := fun b => F < b ∧ b ≠ T) HT.out HT1 hN11 hg12 hst; replace kF := kF.grown hg12 (fun e => vF e.symm); have hMc := hMb.grown hg12 (fun e => vB e.symm) (fun b hb => by have := (hown.lt b hb).1; omega); have hOc := hOb.past hg12 (fun b hb => by have := (hown.lt b hb).1; omega))
                  | (((with_reducible refine' wpList_set_blk (u := v') 23 (.tmp 76) (.tmp 75) rfl ?_ sz_nds ?_ ?_ kF (l3.out) ?_ ?_); exact rfl; exact rfl; exact rfl; exact (own_one o12); intro w13 kF13 hO13 hz13; simp only [Act.put, List.setIfInBounds_toArray, List.set_cons_succ, List.set_cons_zero])))
                have HT13 := Lib.hid ((hkk.only hO13 (fun b h => by omega)).mono (Y := fun b => F < b ∧ v'.ownBlock ≠ some b) (fun b h => ⟨h.1.1, h.2⟩))
                have o13 := own_only o12 hO13 (own_ne o12 (by omega))
                have hM13 := hMc.only hO13 (by omega) (by omega)
                have hO14 := hOc.far hO13 (by omega)
                have HF2 : Hid (∀ j u, (ts ++ [.mk k 0 0 []])[j]? = some u → tfits u (vWant n j) = true) := Lib.hid (snoc_fit (f := vWant n) HF.out (fit_leaf (by rw [hts, vWant, if_neg (by omega)]; rcases (show k = 0 ∨ k = 1 by omega) with rfl | rfl <;> rfl)))
                have g1 : tdepths (ts ++ [.mk k 0 0 []]) ≤ 2 := by rw [tdepths_snoc]; simp only [tdepth, tdepths]; omega
                have g2 : tsizes (ts ++ [.mk k 0 0 []]) ≤ 3 * (j + 1) := by rw [tsizes_snoc]; simp only [tsize, tsizes]; omega
                clear HT hown kF hkk o11 r11 hN11 hg12 hst o12 hMb hMc hOb hOc hM hO k11 kT hO13 vF vB HF HT1
                go_roundw
                case rel => (first | exact ⟨j + 1, _, ts ++ [.mk k 0 0 []], v', _, rfl, by simp [hts], by omega, o13, HT13, kF13, hM13, hO14, HF2, g1, g2, by omega, by omega⟩ | ((repeat apply Exists.intro); exact ⟨⟨j + 1, _, ts ++ [.mk k 0 0 []], v', _, rfl, by simp [hts], by omega, o13, HT13, kF13, hM13, hO14, HF2, g1, g2, by omega, by omega⟩, rfl⟩))
                case measure => simp [intOf]; omega
        · obtain rfl : j = V := by omega
          have X3 := Lib.hid (show ([.int .i64 26, .int .i64 n, .int .i64 0, v] : List Value)[3]? = some v from rfl)
          have l3 := Lib.hid (show 3 < ([.int .i64 26, .int .i64 n, .int .i64 0, v] : List Value).length by simp)
          have vF : v.ownBlock ≠ some F := own_ne hown (by omega)
          have vB : v.ownBlock ≠ some B := own_ne hown (by omega)
          have lF := kF.lt
          have sOw := hO.size
          have hbd : Below w5.heap.size w5 w5.drew := (Below.refl _ _).drew
          have BA := Lib.hid (show (a' : Int) + 3 * L ≤ 10000 by omega)
          have BB := Lib.hid (show -9000 ≤ L by omega)
          have BC := Lib.hid (show L ≤ 1000 by omega)
          go_upto_region 18 with fail
          (refine wp_region_mid (fun w2 => Blk w2 F 25 [.int .i64 26, .int .i64 n, .int .i64 0, v]) [.h, .h, .h, .m, .m, .m, .t, .t] (by kernel_rfl) (by kernel_rfl) (kF) ?_; simp only [pickH, pickM, pickT]; (repeat (first | (((with_reducible refine' wpQuietM_field (k := 0) (j := 3) (.tmp 7) 25 3 rfl ?_ fo_node_3 ?_ rfl ?_); exact rfl; rotate_left; exact rfl; simp only [Act.put, List.setIfInBounds_toArray, List.set_cons_succ, List.set_cons_zero])) | (((with_reducible refine' wpQuietB_load_blk (.tmp 77) 23 rfl ?_ ld_nds ?_ X3.out ?_); exact rfl; exact rfl; simp only [Act.put, List.setIfInBounds_toArray, List.set_cons_succ, List.set_cons_zero])) | go_big_quiet_step (fail) | (go_big_quiet_want; go_big_quiet_op; refine ⟨_, fun _ _ => rfl, ?_⟩; go_big_quiet_on))); refine wpQuiet_nil ?_)
          replace hown := own_below hown hbd
          replace HT := Lib.hid (HT.out.below hbd)
          replace kF := kF.below hbd lF
          replace hM := hM.below hbd
          replace hO := hO.belows hbd
          have sd := hbd.size
          refine wpMid_of_list ?_
          go_wp2_with ((go_at_call 48; (with_reducible refine (block4 l HL.out w B _ _ _ BA.out BB.out BC.out hM).mono ?_); rintro e w' ⟨tb, cb, a1, L1, rfl, hTb, hM1, hO1, hfb, hRb, hLb⟩))
          have kF1 := hO1.blk kF (by omega)
          have lF1 := kF1.lt
          have CLb := Lib.hid hTb.len
          have COb := Lib.hid hTb.isT.ones
          have o10 := own_only hown hO1 vB
          refine ⟨rfl, kF1, ?_⟩
          refine wpMid_of_list ?_
          go_wp2_with (((with_reducible refine' wpList_build_sts (css := [cb]) rfl ?_ Tryd.underlying23 inf_node ?_ ?_ ?_ ?_ ?_ ?_); exact rfl; exact rfl; (first | omega | decide); (first | omega | decide); exact rfl; (intro c hc; simp at hc; subst hc; exact CLb.out); intro w11 k11 hN11 hz11; simp only [Act.put, List.setIfInBounds_toArray, List.set_cons_succ, List.set_cons_zero]))
          rw [show [cb].flatten = cb by simp] at k11
          have kF2 := kF1.below hN11 lF1
          refine ⟨rfl, kF2, ?_⟩
          have o11 := own_below o10 hN11
          have r11 := k11.rdall 1 4 CLb.out (by unfold maxLen; omega)
          have sz11 := hO1.size
          have sz12 := hN11.size
          refine wpMid_of_list ?_
          go_wp2_with (((with_reducible refine' wpList_append_at (.tmp 78) (.tmp 81) 23 rfl ?_ Tryd.underlying23 inf_node ?_ ?_ ?_ o11 ?_ r11 COb.out ?_ ?_ (by omega) ?_); exact rfl; exact rfl; omega; exact rfl; exact rfl; (first | omega | (unfold maxLen; omega)); omega; intro v' w12 o12 hg12 hst; simp only [Act.put, List.setIfInBounds_toArray, List.set_cons_succ, List.set_cons_zero]))
          have hkk := kids_next hown HT.out hO1 hTb hN11 hg12 hst (fun b h => by omega) (fun b h => by omega)
          have kF3 := kF2.grown hg12 (fun e => vF e.symm)
          have hM12 := (hM1.below hN11).grown hg12 (fun e => vB e.symm) (fun b hb => by have := (hown.lt b hb).1; omega)
          have hO12 := (hO.trans' hO1 |>.belows hN11).past hg12 (fun b hb => by have := (hown.lt b hb).1; omega)
          refine ⟨rfl, kF3, ?_⟩
          clear hown HT hN11 hg12 hst hO1 o10 o11 r11 k11 hM1 hM hO vF vB kF2 kF1 kF BA BB BC hTb
          refine wpMid_nil ?_
          go_wp2_with (first | ((with_reducible refine' wpList_field_blk (j := 3) (.tmp 7) 25 3 rfl ?_ fo_node_3 ?_ rfl ?_); exact rfl; exact rfl; simp only [Act.put, List.setIfInBounds_toArray, List.set_cons_succ, List.set_cons_zero]) | ((with_reducible refine' wpList_set_blk (u := v') 23 (.tmp 83) (.tmp 82) rfl ?_ sz_nds ?_ ?_ kF3 (l3.out) ?_ ?_); exact rfl; exact rfl; exact rfl; exact (own_one o12); intro w13 kF13 hO13 hz13; simp only [Act.put, List.setIfInBounds_toArray, List.set_cons_succ, List.set_cons_zero]))
          refine onlyN ?_
          have HT13 := hkk.only hO13 (fun b h => by omega)
          have o13 := own_only o12 hO13 (own_ne o12 (by omega))
          have hM13 := hM12.only hO13 (by omega) (by omega)
          have hO14 := hO12.far hO13 (by omega)
          -- the function as a tree
          obtain ⟨cf, hcf⟩ : ∃ x : List Value, [.int .i64 26, .int .i64 n, .int .i64 0, v'] = x := ⟨_, rfl⟩
          have hTf : IsTX (fun b => P < b ∧ vo.ownBlock ≠ some b) w13 (.mk 26 n 0 (ts ++ [tb])) cf := by
            rw [← hcf]
            refine IsTX.node (by rw [List.length_append, hts]; exact Rd.of_own o13) (fun b hb _ => ?_) (HT13.mono fun b h => ?_)
            · have := (o12.lt b hb).1
              exact ⟨by omega, fun e => by have := (howno.lt b e).2; omega⟩
            · exact ⟨by omega, fun e => by have := (howno.lt b e).2; omega⟩
          have kF13' : Blk w13 F 25 cf := by rw [← hcf]; exact kF13
          have CLf := Lib.hid hTf.len
          have COf := Lib.hid hTf.isT.ones
          have voB : vo.ownBlock ≠ some B := own_ne howno (by omega)
          have voP : vo.ownBlock ≠ some P := own_ne howno (by omega)
          have voR : vo.ownBlock ≠ some R := own_ne howno (by omega)
          replace howno := own_only howno hO14 voB
          replace HTo := HTo.out.only hO14 (fun b h => by omega)
          replace kP := hO14.blk kP (by omega)
          replace kR := hO14.blk kR (by omega)
          have hOn := hOout.trans' hO14
          have X4 := Lib.hid (show ([.int .i64 27, .int .i64 c, .int .i64 0, vo] : List Value)[3]? = some vo from rfl)
          have l4 := Lib.hid (show 3 < ([.int .i64 27, .int .i64 c, .int .i64 0, vo] : List Value).length by simp)
          have sW := hO14.size
          unfold Ran at hRb
          have FT : tfits (.mk 26 n 0 (ts ++ [tb])) 1 = true := by
            refine fit_of ?_ ?_
            · rw [List.length_append, hts, List.length_singleton]; simp [fHead, shF, fIs]; omega
            · rw [List.length_append, hts, List.length_singleton]
              refine snoc_fit (fun j' u hj' => ?_) ?_
              · have := (List.getElem?_eq_some_iff.1 hj').1
                have h9 := HF.out j' u hj'
                unfold vWant at h9
                simpa [fWant, shF, show j' ≠ j by omega] using h9
              · simpa [fWant, shF, hts] using hfb
          clear HF HT13 o13 hkk o12 kF13 hcf hM12 hO12 hO13 hOout hO14 X3 l3
          go_wp2_with (first
            | ((with_reducible refine' wpList_field_blk (j := 3) (.tmp 4) 25 3 rfl ?_ fo_node_3 ?_ rfl ?_); exact rfl; exact rfl; simp only [Act.put, List.setIfInBounds_toArray, List.set_cons_succ, List.set_cons_zero]) | ((with_reducible refine' wpList_load_blk (.tmp 84) 23 rfl ?_ ld_nds ?_ kP (X4.out) ?_); exact rfl; exact rfl; simp only [Act.put, List.setIfInBounds_toArray, List.set_cons_succ, List.set_cons_zero]) | ((with_reducible refine' wpList_loadst_blk (.tmp 7) 25 rfl ?_ Tryd.underlying25 ?_ sz_node ?_ kF13' ?_ ?_ ?_); exact rfl; exact rfl; exact rfl; exact CLf.out; decide; simp only [Act.put, List.setIfInBounds_toArray, List.set_cons_succ, List.set_cons_zero])
            | (((with_reducible refine' wpList_build_sts (css := [cf]) rfl ?_ Tryd.underlying23 inf_node ?_ ?_ ?_ ?_ ?_ ?_); exact rfl; exact rfl; (first | omega | decide); (first | omega | decide); exact rfl; (intro c hc; simp at hc; subst hc; exact CLf.out); intro w21 k21 hN21 hz21; simp only [Act.put, List.setIfInBounds_toArray, List.set_cons_succ, List.set_cons_zero]); rw [show [cf].flatten = cf by simp] at k21; have o21 := own_below howno hN21; have r21 := k21.rdall 1 4 CLf.out (by unfold maxLen; omega); have sz21 := hN21.size; have kP2 := kP.below hN21 kP.lt; have kR2 := kR.below hN21 kR.lt)
            | (((with_reducible refine' wpList_append_at (.tmp 85) (.tmp 87) 23 rfl ?_ Tryd.underlying23 inf_node ?_ ?_ ?_ o21 ?_ r21 COf.out ?_ ?_ (by omega) ?_); exact rfl; exact rfl; omega; exact rfl; exact rfl; (first | omega | (unfold maxLen; omega)); omega; intro vn w22 o22 hg22 hst22; simp only [Act.put, List.setIfInBounds_toArray, List.set_cons_succ, List.set_cons_zero]); have hkn := kids_step (X := fun b => P < b) HTo hTf hN21 hg22 hst22; have kP3 := kP2.grown hg22 (fun e => voP e.symm); have kR3 := kR2.grown hg22 (fun e => voR e.symm); have hM22 := (hM13.below hN21).grown hg22 (fun e => voB e.symm) (fun b hb => by have := (howno.lt b hb).1; omega); have hO22 := (hOn.belows hN21).past hg22 (fun b hb => by have := (howno.lt b hb).1; omega))
            | (((with_reducible refine' wpList_set_blk (u := vn) 23 (.tmp 89) (.tmp 88) rfl ?_ sz_nds ?_ ?_ kP3 (l4.out) ?_ ?_); exact rfl; exact rfl; exact rfl; exact (own_one o22); intro w23 kP23 hO23 hz23; simp only [Act.put, List.setIfInBounds_toArray, List.set_cons_succ, List.set_cons_zero])))
          have HT23 := Lib.hid (hkn.only hO23 (fun b h => by omega))
          have o23 := own_only o22 hO23 (own_ne o22 (by omega))
          have hM23 := hM22.only hO23 (by omega) (by omega)
          have hO24 := hO22.far hO23 (by omega)
          have kR23 := hO23.blk kR3 (by omega)
          have HF23 := Lib.hid (show ∀ t ∈ fs ++ [.mk 26 n 0 (ts ++ [tb])], tfits t 1 = true from fun t ht => by
            rcases List.mem_append.1 ht with ht | ht
            · exact HFo.out t ht
            · obtain rfl := List.mem_singleton.1 ht; exact FT)
          have g1 : tdepths (fs ++ [.mk 26 n 0 (ts ++ [tb])]) ≤ 10 := by rw [tdepths_snoc, tdepth, tdepths_snoc]; omega
          have g2 : (tsizes (fs ++ [.mk 26 n 0 (ts ++ [tb])]) : Int) ≤ 15 * ((jo + 1 : Nat) : Int) + 45 - L1 := by rw [tsizes_snoc, tsize, tsizes_snoc]; push_cast; omega
          clear hkn o22 hM22 hO22 hO23 kP3 kR3 hg22 hst22 r21 o21 k21 hN21 kP2 kR2 howno HTo hTf voB voP voR
          go_wp2_with fail
          go_roundw
          case rel => (first | exact ⟨jo + 1, _, fs ++ [.mk 26 n 0 (ts ++ [tb])], L1, vn, xo ++ cf, by go_num, by simp [hfs], by omega, o23, HT23, kP23, kR23, hM23, hO24, HF23, g1, g2, by push_cast; omega, by push_cast; omega, by omega⟩ | ((repeat apply Exists.intro); exact ⟨⟨jo + 1, _, fs ++ [.mk 26 n 0 (ts ++ [tb])], L1, vn, xo ++ cf, by go_num, by simp [hfs], by omega, o23, HT23, kP23, kR23, hM23, hO24, HF23, g1, g2, by push_cast; omega, by push_cast; omega, by omega⟩, rfl⟩))
          case measure => simp [intOf]; omega
    · obtain rfl : jo = K + 1 := by omega
      have CP := Lib.hid (show ∀ u ∈ ([.int .i64 27, .int .i64 c, .int .i64 0, vo] : List Value), u.oneCell' = true from node_ones (own_one howno))
      have sO := hO.size
      have lP0 := kP.lt
      go_wp2_with (first
        | ((with_reducible refine' wpList_loadst_blk (.tmp 4) 25 rfl ?_ Tryd.underlying25 ?_ sz_node ?_ kP ?_ ?_ ?_); exact rfl; exact rfl; exact rfl; exact rfl; decide; simp only [Act.put, List.setIfInBounds_toArray, List.set_cons_succ, List.set_cons_zero])
        | ((with_reducible refine' wpList_store_blk (cs := [.int .i64 27, .int .i64 c, .int .i64 0, vo]) 25 (.tmp 2) (.tmp 90) rfl ?_ ?_ ?_ kR sz_node ?_ ?_ ?_ ?_); exact rfl; exact rfl; exact rfl; exact rfl; exact rfl; exact CP.out; intro w3 kR3 hO3 hz3; simp only [Act.put]))
      have HT3 := HTo.out.only hO3 (fun b h => by omega)
      have o3 := own_only howno hO3 (own_ne howno (by omega))
      have hOf := hO.far hO3 (by omega)
      ((try simp only [Exit.inBlock, Exit.then]); refine bodyPost_ret (results_cell_row rfl _ _ _ _ _ _ _ rfl kR3 Tryd.underlying25 rfl (by rw [sz_node]; rfl)) rfl ?_)
      refine ⟨.mk 27 c 0 fs, _, rfl, IsTX.node (by rw [hfs]; exact Rd.of_own o3) (fun b hb _ => by have := (howno.lt b hb).1; omega) (HT3.mono fun b h => by omega), hOf.below (by omega) (Nat.le_refl _), fit_of ?_ (kidsA (s := 1) HFo.out (fun j hj => by simp [fWant, shF])), ?_, ?_⟩
      · rw [hfs]; simp [fHead, shF, fIs]; omega
      · rw [tsize]; push_cast at hd2; omega
      · rw [tdepth]; omega
end Go.Proofs.YtdlhkhnoigbhjaaDoor.Wi
namespace Go.Proofs.YtdlhkhnoigbhjaaDoor.Pu
def idxI : Option Nat → Int
  | none => -1
  | some n => (n : Int)
theorem tindex_succ {p : List Int} {u : Tree} {i : Nat} {k n m : Int} {ts : List Tree} (h : ts[i]? = some u) : tindex ((i : Int) :: p) (.mk k n m ts) = (tindex p u).map fun b => 1 + b + tsizes (ts.take i) := by
  rw [tindex, if_pos (by omega), Int.toNat_natCast, h]; rfl
end Go.Proofs.YtdlhkhnoigbhjaaDoor.Pu
namespace Go.Proofs.YtdlhkhnoigbhjaaDoor.Wi
open Go Go.RowKit Pu Lb
set_option linter.unusedSimpArgs false
set_option linter.unusedVariables false
set_option maxRecDepth 100000 in
theorem refindex_any : ∀ (p : List Int) (t : Tree) (cs : List Value) (v : Value) (w : World), IsT w t cs → Rd w 1 v p.length (iv p) → tsize t ≤ 1000000 →
    Calls Tryd.prog 33 #[.agg cs.toArray, v] w fun e w' => e = .returned (.int .i64 (idxI (tindex p t))) ∧ Below w.heap.size w w' := by
  intro p
  induction p with
  | nil =>
    intro t cs v w hT hr hs
    rw [List.length_nil] at hr
    rw [tindex]
    go_enter Tryd.func33, Tryd.ntmps33
    go_wp2_with (first | (((with_reducible refine' wpList_boxa (cs := cs) 25 (.tmp 0) rfl ?_ ?_ ?_); exact rfl; exact rfl; intro w1 kA hN1 hz1; simp only [Act.put, List.setIfInBounds_toArray, List.set_cons_succ, List.set_cons_zero]); have hr2 := hr.below hN1) | ((with_reducible refine' wpList_len_rd (.tmp 8) 22 rfl ?_ Tryd.underlying22 ?_ hr2 ?_); exact rfl; exact rfl; simp only [Act.put, List.setIfInBounds_toArray, List.set_cons_succ, List.set_cons_zero]))
    go_ret
    exact ⟨rfl, hN1⟩
  | cons i p ih =>
    intro t cs0 v w hT hr hz
    obtain ⟨k, n, m, ts⟩ := t
    have IH := Lib.hid ih
    clear ih
    rw [IsT] at hT
    obtain ⟨vk, xs, rfl, hrk, hts⟩ := hT
    rw [List.length_cons, iv_cons] at hr
    have C0 := Lib.hid (show (.int .i64 i :: iv p)[0]? = some (Value.int .i64 i) from rfl)
    have X3 := Lib.hid (show ([.int .i64 k, .int .i64 n, .int .i64 m, vk] : List Value)[3]? = some vk from rfl)
    go_enter Tryd.func33, Tryd.ntmps33
    go_upto_region 1 with (first
      | (((with_reducible refine' wpList_boxa (cs := [.int .i64 k, .int .i64 n, .int .i64 m, vk]) 25 (.tmp 0) rfl ?_ ?_ ?_); exact rfl; exact rfl; intro w1 kA hN1 hz1; simp only [Act.put, List.setIfInBounds_toArray, List.set_cons_succ, List.set_cons_zero])))
    have lA := kA.lt
    have hr2 := hr.below hN1
    have hrd2 := hrk.below hN1
    have hts2 := IsTs.below hN1 hts
    clear hz1 hr hrk hts
    by_cases h1 : i < 0
    · have HS := Lib.hid (show tindex (i :: p) (.mk k n m ts) = none by rw [tindex, if_neg (by omega)])
      have L1 : decide (i < 0) = true := decide_eq_true h1
      clear h1
      go_wp2_with (first | ((with_reducible refine' wpList_len_rd (.tmp 8) 22 rfl ?_ Tryd.underlying22 ?_ hr2 ?_); exact rfl; exact rfl; simp only [Act.put, List.setIfInBounds_toArray, List.set_cons_succ, List.set_cons_zero]) | (refine wp_region_quiet_lit (by kernel_rfl) (by kernel_rfl) ?_; (repeat (first | ((with_reducible refine' wpQuiet_at1_rd (.tmp 11) (.const (.int .i64 0)) 22 rfl ?_ Tryd.underlying22 sz_int ?_ hr2 (0) ?_ ?_ ?_); exact rfl; exact rfl; (show (_ : Int) = _; omega); omega; simp only [Act.put, List.setIfInBounds_toArray, List.set_cons_succ, List.set_cons_zero]) | ((with_reducible refine' wpQuiet_load_rd (fun _ h => h) (.tmp 12) 3 rfl ?_ ld_int ?_ hr2 (C0.out) ?_); exact rfl; exact rfl; simp only [Act.put, List.setIfInBounds_toArray, List.set_cons_succ, List.set_cons_zero]) | ((with_reducible refine' wpQuiet_at1_rd (.tmp 16) (.const (.int .i64 0)) 22 rfl ?_ Tryd.underlying22 sz_int ?_ hr2 (0) ?_ ?_ ?_); exact rfl; exact rfl; (show (_ : Int) = _; omega); omega; simp only [Act.put, List.setIfInBounds_toArray, List.set_cons_succ, List.set_cons_zero]) | ((with_reducible refine' wpQuiet_load_rd (fun _ h => h) (.tmp 17) 3 rfl ?_ ld_int ?_ hr2 (C0.out) ?_); exact rfl; exact rfl; simp only [Act.put, List.setIfInBounds_toArray, List.set_cons_succ, List.set_cons_zero]) | ((with_reducible refine' wpQuietM_field (k := 0) (j := 3) (.tmp 2) 25 3 rfl ?_ fo_node_3 ?_ rfl ?_); exact rfl; rotate_left; exact rfl; simp only [Act.put, List.setIfInBounds_toArray, List.set_cons_succ, List.set_cons_zero]) | ((with_reducible refine' wpQuiet_load_blk (fun _ h => h) (.tmp 19) 23 rfl ?_ ld_nds ?_ kA (X3.out) ?_); exact rfl; exact rfl; simp only [Act.put, List.setIfInBounds_toArray, List.set_cons_succ, List.set_cons_zero]) | ((with_reducible refine' wpQuiet_len_rd (.tmp 20) 23 rfl ?_ Tryd.underlying23 ?_ hrd2 ?_); exact rfl; exact rfl; simp only [Act.put, List.setIfInBounds_toArray, List.set_cons_succ, List.set_cons_zero]) | go_big_quiet_step (fail))); refine wpQuiet_nil ?_; intro _ hw'; obtain ⟨nq, hw''⟩ := hw'; subst hw''))
      go_ret
      rw [HS.out]
      exact ⟨rfl, below_drewN hN1 _⟩
    obtain ⟨j, rfl⟩ : ∃ j : Nat, i = (j : Int) := ⟨i.toNat, by omega⟩
    have L1 : decide ((j : Int) < 0) = false := decide_eq_false h1
    by_cases h2 : ts.length ≤ j
    · have HS := Lib.hid (show tindex ((j : Int) :: p) (.mk k n m ts) = none by rw [tindex, if_pos (by omega), Int.toNat_natCast, List.getElem?_eq_none h2]; rfl)
      have L2 : decide (ts.length ≤ j) = true := decide_eq_true h2
      clear h1 h2
      go_wp2_with (first | ((with_reducible refine' wpList_len_rd (.tmp 8) 22 rfl ?_ Tryd.underlying22 ?_ hr2 ?_); exact rfl; exact rfl; simp only [Act.put, List.setIfInBounds_toArray, List.set_cons_succ, List.set_cons_zero]) | (refine wp_region_quiet_lit (by kernel_rfl) (by kernel_rfl) ?_; (repeat (first | ((with_reducible refine' wpQuiet_at1_rd (.tmp 11) (.const (.int .i64 0)) 22 rfl ?_ Tryd.underlying22 sz_int ?_ hr2 (0) ?_ ?_ ?_); exact rfl; exact rfl; (show (_ : Int) = _; omega); omega; simp only [Act.put, List.setIfInBounds_toArray, List.set_cons_succ, List.set_cons_zero]) | ((with_reducible refine' wpQuiet_load_rd (fun _ h => h) (.tmp 12) 3 rfl ?_ ld_int ?_ hr2 (C0.out) ?_); exact rfl; exact rfl; simp only [Act.put, List.setIfInBounds_toArray, List.set_cons_succ, List.set_cons_zero]) | ((with_reducible refine' wpQuiet_at1_rd (.tmp 16) (.const (.int .i64 0)) 22 rfl ?_ Tryd.underlying22 sz_int ?_ hr2 (0) ?_ ?_ ?_); exact rfl; exact rfl; (show (_ : Int) = _; omega); omega; simp only [Act.put, List.setIfInBounds_toArray, List.set_cons_succ, List.set_cons_zero]) | ((with_reducible refine' wpQuiet_load_rd (fun _ h => h) (.tmp 17) 3 rfl ?_ ld_int ?_ hr2 (C0.out) ?_); exact rfl; exact rfl; simp only [Act.put, List.setIfInBounds_toArray, List.set_cons_succ, List.set_cons_zero]) | ((with_reducible refine' wpQuietM_field (k := 0) (j := 3) (.tmp 2) 25 3 rfl ?_ fo_node_3 ?_ rfl ?_); exact rfl; rotate_left; exact rfl; simp only [Act.put, List.setIfInBounds_toArray, List.set_cons_succ, List.set_cons_zero]) | ((with_reducible refine' wpQuiet_load_blk (fun _ h => h) (.tmp 19) 23 rfl ?_ ld_nds ?_ kA (X3.out) ?_); exact rfl; exact rfl; simp only [Act.put, List.setIfInBounds_toArray, List.set_cons_succ, List.set_cons_zero]) | ((with_reducible refine' wpQuiet_len_rd (.tmp 20) 23 rfl ?_ Tryd.underlying23 ?_ hrd2 ?_); exact rfl; exact rfl; simp only [Act.put, List.setIfInBounds_toArray, List.set_cons_succ, List.set_cons_zero]) | go_big_quiet_step (fail))); refine wpQuiet_nil ?_; intro _ hw'; obtain ⟨nq, hw''⟩ := hw'; subst hw''))
      go_ret
      rw [HS.out]
      exact ⟨rfl, below_drewN hN1 _⟩
    · have hj : j < ts.length := by omega
      obtain ⟨u, hu⟩ := kid_at hj
      have HS := Lib.hid (tindex_succ (p := p) (k := k) (n := n) (m := m) hu)
      have L2 : decide (ts.length ≤ j) = false := decide_eq_false h2
      have hT := IsTs.get hts2 hu
      obtain ⟨cs, hcs⟩ : ∃ cs, (xs.drop (j * 4)).take 4 = cs := ⟨_, rfl⟩
      rw [hcs] at hT
      have HC := Lib.hid hcs
      have BD := Lib.hid (show j * 4 + 4 ≤ xs.length by rw [hts2.len]; omega)
      have hz2 := tsize_mem (List.mem_of_getElem? hu)
      have hz3 : 1 + tsizes ts ≤ 1000000 := by rw [tsize] at hz; exact hz
      have hz4 : tsize u ≤ 1000000 := by omega
      have hlen := tsizes_len ts
      have HU := Lib.hid hu
      have HTS := Lib.hid hts2
      clear h1 h2 hu hcs hts2
      go_upto_region 5 with (first | ((with_reducible refine' wpList_len_rd (.tmp 8) 22 rfl ?_ Tryd.underlying22 ?_ hr2 ?_); exact rfl; exact rfl; simp only [Act.put, List.setIfInBounds_toArray, List.set_cons_succ, List.set_cons_zero]) | (refine wp_region_quiet_lit (by kernel_rfl) (by kernel_rfl) ?_; (repeat (first | ((with_reducible refine' wpQuiet_at1_rd (.tmp 11) (.const (.int .i64 0)) 22 rfl ?_ Tryd.underlying22 sz_int ?_ hr2 (0) ?_ ?_ ?_); exact rfl; exact rfl; (show (_ : Int) = _; omega); omega; simp only [Act.put, List.setIfInBounds_toArray, List.set_cons_succ, List.set_cons_zero]) | ((with_reducible refine' wpQuiet_load_rd (fun _ h => h) (.tmp 12) 3 rfl ?_ ld_int ?_ hr2 (C0.out) ?_); exact rfl; exact rfl; simp only [Act.put, List.setIfInBounds_toArray, List.set_cons_succ, List.set_cons_zero]) | ((with_reducible refine' wpQuiet_at1_rd (.tmp 16) (.const (.int .i64 0)) 22 rfl ?_ Tryd.underlying22 sz_int ?_ hr2 (0) ?_ ?_ ?_); exact rfl; exact rfl; (show (_ : Int) = _; omega); omega; simp only [Act.put, List.setIfInBounds_toArray, List.set_cons_succ, List.set_cons_zero]) | ((with_reducible refine' wpQuiet_load_rd (fun _ h => h) (.tmp 17) 3 rfl ?_ ld_int ?_ hr2 (C0.out) ?_); exact rfl; exact rfl; simp only [Act.put, List.setIfInBounds_toArray, List.set_cons_succ, List.set_cons_zero]) | ((with_reducible refine' wpQuietM_field (k := 0) (j := 3) (.tmp 2) 25 3 rfl ?_ fo_node_3 ?_ rfl ?_); exact rfl; rotate_left; exact rfl; simp only [Act.put, List.setIfInBounds_toArray, List.set_cons_succ, List.set_cons_zero]) | ((with_reducible refine' wpQuiet_load_blk (fun _ h => h) (.tmp 19) 23 rfl ?_ ld_nds ?_ kA (X3.out) ?_); exact rfl; exact rfl; simp only [Act.put, List.setIfInBounds_toArray, List.set_cons_succ, List.set_cons_zero]) | ((with_reducible refine' wpQuiet_len_rd (.tmp 20) 23 rfl ?_ Tryd.underlying23 ?_ hrd2 ?_); exact rfl; exact rfl; simp only [Act.put, List.setIfInBounds_toArray, List.set_cons_succ, List.set_cons_zero]) | go_big_quiet_step (fail))); refine wpQuiet_nil ?_; intro _ hw'; obtain ⟨nq, hw''⟩ := hw'; subst hw''))
      obtain ⟨w3, hw3⟩ : ∃ w3, w1.drewN nq = w3 := ⟨_, rfl⟩
      have hb23 : Below w1.heap.size w1 w3 := by rw [← hw3]; exact below_drewN (Below.refl _ _) nq
      rw [hw3]
      clear hw3
      have kA3 := kA.below hb23 kA.lt
      have hr3 := hr2.below hb23
      have hrd3 := hrd2.below hb23
      have hT3 := hT.below hb23
      have hb3 := hN1.trans (hb23.mono hN1.size)
      have HT3 := Lib.hid (IsTs.below hb23 HTS.out)
      clear kA hr2 hrd2 hT hb23 HTS
      have hd3 : Below w3.heap.size w3 w3.drew := (Below.refl _ _).drew
      have h13 := hT3.below hd3
      (refine wp_region_steps (fun w' => Below w3.heap.size w3 w') [true, true, true, true, true, true, true, true, true, false] (by kernel_rfl) (by kernel_rfl) (hd3) ?_; simp only [List.zip_cons_cons, List.zip_nil_left, List.zip_nil_right, List.length_cons, List.length_nil, Nat.reduceAdd, List.drop_succ_cons, List.drop_zero])
      (repeat (refine wpSteps_f ?_; (first | ((with_reducible refine' wpQuietM_field (k := 0) (j := 3) (.tmp 2) 25 3 rfl ?_ fo_node_3 ?_ rfl ?_); exact rfl; rotate_left; exact rfl; simp only [Act.put, List.setIfInBounds_toArray, List.set_cons_succ, List.set_cons_zero]) | ((with_reducible refine' wpQuietC_load_blk (cov_below _) (.tmp 24) 23 rfl ?_ ld_nds ?_ kA3 (X3.out) ?_); exact rfl; exact rfl; simp only [Act.put, List.setIfInBounds_toArray, List.set_cons_succ, List.set_cons_zero]) | ((with_reducible refine' wpQuiet_at1_rd (.tmp 26) (.const (.int .i64 0)) 22 rfl ?_ Tryd.underlying22 sz_int ?_ hr3 (0) ?_ ?_ ?_); exact rfl; exact rfl; (show (_ : Int) = _; omega); omega; simp only [Act.put, List.setIfInBounds_toArray, List.set_cons_succ, List.set_cons_zero]) | ((with_reducible refine' wpQuietC_load_rd (cov_below _) (.tmp 27) 3 rfl ?_ ld_int ?_ hr3 (C0.out) ?_); exact rfl; exact rfl; simp only [Act.put, List.setIfInBounds_toArray, List.set_cons_succ, List.set_cons_zero]) | ((with_reducible refine' wpQuiet_at_rd (.tmp 25) (.tmp 28) 23 rfl ?_ Tryd.underlying23 sz_node ?_ hrd3 (by decide) (j) ?_ ?_ ?_); exact rfl; exact rfl; (show (_ : Int) = _; omega); omega; simp only [Act.put, List.setIfInBounds_toArray, List.set_cons_succ, List.set_cons_zero]) | ((with_reducible refine' wpQuietC_load_st (cov_below _) (cp := cs) (.tmp 29) 25 rfl ?_ Tryd.underlying25 ?_ sz_node ?_ hrd3 ?_ ?_ HC.out ?_); exact rfl; exact rfl; exact rfl; exact BD.out; decide; simp only [Act.put, List.setIfInBounds_toArray, List.set_cons_succ, List.set_cons_zero]) | ((with_reducible refine' wpQuietC_from_rd (.tmp 31) (.const (.int .i64 1)) 22 rfl ?_ Tryd.underlying22 sz_int hr3 (1) ?_ ?_ ?_ ?_); exact rfl; exact rfl; (show (_ : Int) = _; omega); omega; intro v' hr5; simp only [Act.put, List.setIfInBounds_toArray, List.set_cons_succ, List.set_cons_zero]) | go_big_quiet_step (fail) | (go_big_quiet_want; go_big_quiet_op; refine ⟨_, fun _ _ => rfl, ?_⟩; go_big_quiet_on)); refine wpQuiet_nil ?_))
      have r5 : Rd w3.drew 1 v' p.length (iv p) := by
        rw [Nat.add_sub_cancel] at hr5
        simpa using hr5.below hd3
      refine wpSteps_o ?_
      go_wp2_with ((go_at_call 33; (with_reducible refine (IH.out u cs v' _ h13 r5 hz4).mono ?_); rintro e w' ⟨rfl, hN5⟩))
      have hN5' : Below w3.heap.size w3 w' := hd3.trans hN5
      refine ⟨rfl, hN5', ?_⟩
      refine wpSteps_nil ?_
      go_wp2_with fail
      refine onlyN ?_
      have hb5 := hb3.trans (hN5'.mono hb3.size)
      have kA5 := kA3.below hN5' kA3.lt
      have hr5' := hr3.below hN5'
      have hrd5 := hrd3.below hN5'
      have HT5 := Lib.hid (IsTs.below hN5' HT3.out)
      clear hN5 hN5' hd3 h13 hT3 kA3 hr3 hrd3 HT3 r5 hr5 hb3
      obtain ⟨w5, rfl⟩ : ∃ x : World, x = w' := ⟨_, rfl⟩
      cases hq : tindex p u with
      | none =>
        have HS2 := Lib.hid (show tindex ((j : Int) :: p) (.mk k n m ts) = none by rw [HS.out, hq]; rfl)
        rw [show idxI none = -1 from rfl]
        clear hq
        go_wp2_with fail
        go_ret
        rw [HS2.out]
        exact ⟨rfl, hb5⟩
      | some q =>
        have hqlt := tindex_lt p u q hq
        have htk := tsizes_take HU.out
        have htp := tsizes_part ts (j + 1)
        have HS2 := Lib.hid (show tindex ((j : Int) :: p) (.mk k n m ts) = some (1 + q + tsizes (ts.take j)) by rw [HS.out, hq]; rfl)
        rw [show idxI (some q) = (q : Int) from rfl]
        have L3 : decide ((q : Int) < 0) = false := by rw [decide_eq_false_iff_not]; omega
        clear hq HS
        go_upto_region 10 with fail
        go_loopw [6, 7] (fun s i wr => ∃ j2 : Nat, j2 ≤ j ∧ i = .int .i64 (j2 : Int) ∧ s = .int .i64 ((1 + q + tsizes (ts.take j2) : Nat) : Int) ∧ Below w5.heap.size w5 wr) (fun _ i _ => j - (intOf i).toNat)
        case atStart => exact ⟨0, Nat.zero_le _, rfl, by rw [List.take_zero, tsizes]; congr 1, Below.refl _ _⟩
        case round =>
          obtain ⟨j2, hj2, rfl, rfl, hbr⟩ := hrel
          obtain ⟨wo, rfl⟩ : ∃ wo : World, wo = wr := ⟨_, rfl⟩
          have hro := hr5'.below hbr
          by_cases hlt : j2 < j
          · obtain ⟨t2, ht2⟩ := kid_at (show j2 < ts.length by omega)
            have hrdo := hrd5.below hbr
            have kAo := kA5.below hbr kA5.lt
            have hTo := (IsTs.below hbr HT5.out).get ht2
            obtain ⟨c2, hc2⟩ : ∃ cs, (xs.drop (j2 * 4)).take 4 = cs := ⟨_, rfl⟩
            rw [hc2] at hTo
            have HC2 := Lib.hid hc2
            have BD2 := Lib.hid (show j2 * 4 + 4 ≤ xs.length by rw [HT5.out.len]; omega)
            have hz5 := tsize_mem (List.mem_of_getElem? ht2)
            have hz6 : tsize t2 ≤ 1000000 := by omega
            have TK := Lib.hid (tsizes_take ht2)
            have hle : tsizes (ts.take (j2 + 1)) ≤ tsizes (ts.take j) := by
              have := tsizes_part (ts.take j) (j2 + 1)
              rwa [List.take_take, Nat.min_eq_left (by omega)] at this
            obtain ⟨s0, hs0⟩ : ∃ s0, tsizes (ts.take j2) = s0 := ⟨_, rfl⟩
            obtain ⟨s1, hs1⟩ : ∃ s1, tsize t2 = s1 := ⟨_, rfl⟩
            obtain ⟨s2, hs2⟩ : ∃ s2, tsizes (ts.take j) = s2 := ⟨_, rfl⟩
            rw [TK.out] at hle
            rw [hs0, hs1] at TK
            rw [hs0, hs1, hs2] at hle
            rw [hs2] at htk
            have HS1 := Lib.hid hs1
            rw [hs0]
            clear hc2 ht2 hs0 hs1 hs2
            have L4 : decide ((j2 : Int) < (j : Int)) = true := by rw [decide_eq_true_eq]; omega
            go_wp2_with (first
              | ((with_reducible refine' wpList_at1_rd (.tmp 39) (.const (.int .i64 0)) 22 rfl ?_ Tryd.underlying22 sz_int ?_ hro (0) ?_ ?_ ?_); exact rfl; exact rfl; (show (_ : Int) = _; omega); omega; simp only [Act.put, List.setIfInBounds_toArray, List.set_cons_succ, List.set_cons_zero]) | ((with_reducible refine' wpList_load_rd (.tmp 40) 3 rfl ?_ ld_int ?_ hro (C0.out) ?_); exact rfl; exact rfl; simp only [Act.put, List.setIfInBounds_toArray, List.set_cons_succ, List.set_cons_zero])
              | ((with_reducible refine' wpList_field_blk (j := 3) (.tmp 2) 25 3 rfl ?_ fo_node_3 ?_ rfl ?_); exact rfl; exact rfl; simp only [Act.put, List.setIfInBounds_toArray, List.set_cons_succ, List.set_cons_zero]) | ((with_reducible refine' wpList_load_blk (.tmp 46) 23 rfl ?_ ld_nds ?_ kAo (X3.out) ?_); exact rfl; exact rfl; simp only [Act.put, List.setIfInBounds_toArray, List.set_cons_succ, List.set_cons_zero]) | ((with_reducible refine' wpList_at_rd (.tmp 47) (.tmp 48) 23 rfl ?_ Tryd.underlying23 sz_node ?_ hrdo (by decide) (j2) ?_ ?_ ?_); exact rfl; exact rfl; (show (_ : Int) = _; omega); omega; simp only [Act.put, List.setIfInBounds_toArray, List.set_cons_succ, List.set_cons_zero]) | ((with_reducible refine' wpList_load_st (cp := c2) (.tmp 49) 25 rfl ?_ Tryd.underlying25 ?_ sz_node ?_ hrdo ?_ ?_ HC2.out ?_); exact rfl; exact rfl; exact rfl; exact BD2.out; decide; simp only [Act.put, List.setIfInBounds_toArray, List.set_cons_succ, List.set_cons_zero])
              | ((go_at_call 16; (with_reducible refine (refsize_any t2 c2 _ hTo hz6).mono ?_); rintro e w' ⟨rfl, hN6⟩); rw [HS1.out]))
            go_roundw
            case rel => exact ⟨j2 + 1, by omega, by go_num, by rw [TK.out]; go_num, hbr.trans (hN6.mono hbr.size)⟩
            case measure => simp [intOf]; omega
          · obtain rfl : j2 = j := by omega
            go_wp2_with (first | ((with_reducible refine' wpList_at1_rd (.tmp 39) (.const (.int .i64 0)) 22 rfl ?_ Tryd.underlying22 sz_int ?_ hro (0) ?_ ?_ ?_); exact rfl; exact rfl; (show (_ : Int) = _; omega); omega; simp only [Act.put, List.setIfInBounds_toArray, List.set_cons_succ, List.set_cons_zero]) | ((with_reducible refine' wpList_load_rd (.tmp 40) 3 rfl ?_ ld_int ?_ hro (C0.out) ?_); exact rfl; exact rfl; simp only [Act.put, List.setIfInBounds_toArray, List.set_cons_succ, List.set_cons_zero]))
            go_ret
            rw [HS2.out]
            exact ⟨rfl, hb5.trans (hbr.mono hb5.size)⟩
end Go.Proofs.YtdlhkhnoigbhjaaDoor.Wi
namespace Go.Proofs.YtdlhkhnoigbhjaaDoor.Wi
open Go Go.RowKit Pu Lb
set_option linter.unusedSimpArgs false
set_option linter.unusedVariables false
set_option maxRecDepth 100000 in
theorem equal_any (p q : List Int) (v u : Value) (w : World) (hv : Rd w 1 v p.length (iv p)) (hu : Rd w 1 u q.length (iv q)) :
    Calls Tryd.prog 60 #[v, u] w fun e w' => e = .returned (.bool (decide (p = q))) ∧ Below w.heap.size w w' := by
  have hl1 := hv.len
  by_cases hlen : p.length = q.length
  · go_enter Tryd.func60, Tryd.ntmps60
    have L0 : ((p.length : Int) == (q.length : Int)) = true := by simp [hlen]
    have L0' : decide ((p.length : Int) = (q.length : Int)) = true := by simp [hlen]
    go_upto_region 4 with (first | ((with_reducible refine' wpList_len_rd (.tmp 6) 22 rfl ?_ Tryd.underlying22 ?_ hv ?_); exact rfl; exact rfl; simp only [Act.put, List.setIfInBounds_toArray, List.set_cons_succ, List.set_cons_zero]) | ((with_reducible refine' wpList_len_rd (.tmp 8) 22 rfl ?_ Tryd.underlying22 ?_ hu ?_); exact rfl; exact rfl; simp only [Act.put, List.setIfInBounds_toArray, List.set_cons_succ, List.set_cons_zero]) | ((with_reducible refine' wpList_len_rd (.tmp 11) 22 rfl ?_ Tryd.underlying22 ?_ hv ?_); exact rfl; exact rfl; simp only [Act.put, List.setIfInBounds_toArray, List.set_cons_succ, List.set_cons_zero]))
    go_loopw [13] (fun i wr => ∃ j : Nat, j ≤ p.length ∧ i = .int .i64 (j : Int) ∧ Hid (p.take j = q.take j) ∧ Below w.heap.size w wr) (fun i _ => p.length - (intOf i).toNat)
    case atStart => exact ⟨0, Nat.zero_le _, rfl, Lib.hid (by simp), Below.refl _ _⟩
    case round =>
      obtain ⟨j, hj, rfl, HE, hb⟩ := hrel
      obtain ⟨wo, rfl⟩ : ∃ wo : World, wo = wr := ⟨_, rfl⟩
      unfold maxLen at hl1
      by_cases hlt : j < p.length
      · obtain ⟨x, hx⟩ := get_lt hlt
        obtain ⟨y, hy⟩ := get_lt (show j < q.length by omega)
        have hvo := hv.below hb
        have huo := hu.below hb
        have X1 := Lib.hid (show (iv p)[j]? = some (.int .i64 x) by simp [iv, hx])
        have Y1 := Lib.hid (show (iv q)[j]? = some (.int .i64 y) by simp [iv, hy])
        by_cases hxy : x = y
        · subst hxy
          have HE2 := Lib.hid (show p.take (j + 1) = q.take (j + 1) by rw [List.take_add_one, List.take_add_one, HE.out, hx, hy])
          clear hx hy HE
          go_wp2_with (first | (refine wp_region_quiet_lit (by kernel_rfl) (by kernel_rfl) ?_; (repeat (first | ((with_reducible refine' wpQuiet_at1_rd (.tmp 16) (.tmp 17) 22 rfl ?_ Tryd.underlying22 sz_int ?_ hvo (j) ?_ ?_ ?_); exact rfl; exact rfl; (show (_ : Int) = _; omega); omega; simp only [Act.put, List.setIfInBounds_toArray, List.set_cons_succ, List.set_cons_zero]) | ((with_reducible refine' wpQuiet_load_rd (fun _ h => h) (.tmp 18) 3 rfl ?_ ld_int ?_ hvo (X1.out) ?_); exact rfl; exact rfl; simp only [Act.put, List.setIfInBounds_toArray, List.set_cons_succ, List.set_cons_zero]) | ((with_reducible refine' wpQuiet_at1_rd (.tmp 20) (.tmp 21) 22 rfl ?_ Tryd.underlying22 sz_int ?_ huo (j) ?_ ?_ ?_); exact rfl; exact rfl; (show (_ : Int) = _; omega); omega; simp only [Act.put, List.setIfInBounds_toArray, List.set_cons_succ, List.set_cons_zero]) | ((with_reducible refine' wpQuiet_load_rd (fun _ h => h) (.tmp 22) 3 rfl ?_ ld_int ?_ huo (Y1.out) ?_); exact rfl; exact rfl; simp only [Act.put, List.setIfInBounds_toArray, List.set_cons_succ, List.set_cons_zero]) | go_big_quiet_step (fail))); refine wpQuiet_nil ?_; intro _ hw'; obtain ⟨nq, hw''⟩ := hw'; subst hw''))
          go_roundw
          case rel => (first | exact ⟨j + 1, by omega, by go_num, HE2, below_drewN hb _⟩ | ((repeat apply Exists.intro); exact ⟨⟨j + 1, by omega, by go_num, HE2, below_drewN hb _⟩, rfl⟩))
          case measure => simp [intOf]; omega
        · have HN := Lib.hid (show decide (p = q) = false by
            rw [decide_eq_false_iff_not]; intro h; subst h; rw [hx] at hy; exact hxy (Option.some.inj hy))
          have b1 : (x == y) = false := by rw [beq_eq_false_iff_ne]; exact hxy
          have b2 : decide (x = y) = false := decide_eq_false hxy
          clear hx hy HE hxy
          go_wp2_with (first | (refine wp_region_quiet_lit (by kernel_rfl) (by kernel_rfl) ?_; (repeat (first | ((with_reducible refine' wpQuiet_at1_rd (.tmp 16) (.tmp 17) 22 rfl ?_ Tryd.underlying22 sz_int ?_ hvo (j) ?_ ?_ ?_); exact rfl; exact rfl; (show (_ : Int) = _; omega); omega; simp only [Act.put, List.setIfInBounds_toArray, List.set_cons_succ, List.set_cons_zero]) | ((with_reducible refine' wpQuiet_load_rd (fun _ h => h) (.tmp 18) 3 rfl ?_ ld_int ?_ hvo (X1.out) ?_); exact rfl; exact rfl; simp only [Act.put, List.setIfInBounds_toArray, List.set_cons_succ, List.set_cons_zero]) | ((with_reducible refine' wpQuiet_at1_rd (.tmp 20) (.tmp 21) 22 rfl ?_ Tryd.underlying22 sz_int ?_ huo (j) ?_ ?_ ?_); exact rfl; exact rfl; (show (_ : Int) = _; omega); omega; simp only [Act.put, List.setIfInBounds_toArray, List.set_cons_succ, List.set_cons_zero]) | ((with_reducible refine' wpQuiet_load_rd (fun _ h => h) (.tmp 22) 3 rfl ?_ ld_int ?_ huo (Y1.out) ?_); exact rfl; exact rfl; simp only [Act.put, List.setIfInBounds_toArray, List.set_cons_succ, List.set_cons_zero]) | go_big_quiet_step (fail))); refine wpQuiet_nil ?_; intro _ hw'; obtain ⟨nq, hw''⟩ := hw'; subst hw''))
          go_ret
          rw [HN.out]
          exact ⟨rfl, below_drewN hb _⟩
      · have HN := Lib.hid (show decide (p = q) = true by
          rw [decide_eq_true_eq]
          have h := HE.out
          rwa [List.take_of_length_le (by omega), List.take_of_length_le (by omega)] at h)
        obtain rfl : j = p.length := by omega
        go_wp2_with fail
        go_ret
        rw [HN.out]
        exact ⟨rfl, hb⟩
  · have HN := Lib.hid (show decide (p = q) = false by rw [decide_eq_false_iff_not]; rintro rfl; exact hlen rfl)
    have b1 : ((p.length : Int) == (q.length : Int)) = false := by rw [beq_eq_false_iff_ne]; omega
    have b2 : decide ((p.length : Int) = (q.length : Int)) = false := by rw [decide_eq_false_iff_not]; omega
    clear hlen
    go_enter Tryd.func60, Tryd.ntmps60
    go_wp2_with (first | ((with_reducible refine' wpList_len_rd (.tmp 6) 22 rfl ?_ Tryd.underlying22 ?_ hv ?_); exact rfl; exact rfl; simp only [Act.put, List.setIfInBounds_toArray, List.set_cons_succ, List.set_cons_zero]) | ((with_reducible refine' wpList_len_rd (.tmp 8) 22 rfl ?_ Tryd.underlying22 ?_ hu ?_); exact rfl; exact rfl; simp only [Act.put, List.setIfInBounds_toArray, List.set_cons_succ, List.set_cons_zero]))
    go_ret
    rw [HN.out]
    exact ⟨rfl, Below.refl _ _⟩
end Go.Proofs.YtdlhkhnoigbhjaaDoor.Wi
namespace Go.Proofs.YtdlhkhnoigbhjaaDoor.Pu
mutual
theorem tindex_back : ∀ (t : Tree) (p : List Int) (j : Nat), tindex p t = some j → p ∈ tpaths t
  | .mk k n m ts, [], _, _ => by rw [tpaths]; simp
  | .mk k n m ts, i :: p, j, h => by
    rw [tindex] at h
    split at h
    · rename_i hi
      cases hu : ts[i.toNat]? with
      | none => rw [hu] at h; cases h
      | some u =>
        rw [hu, Option.bind_some] at h
        cases hq : tindex p u with
        | none => rw [hq] at h; cases h
        | some q =>
          rw [tpaths]
          refine List.mem_cons_of_mem _ ?_
          have := tindex_backF ts 0 i.toNat u p q hu hq
          rwa [Nat.zero_add, Int.toNat_of_nonneg hi] at this
    · cases h
theorem tindex_backF : ∀ (ts : List Tree) (o i : Nat) (u : Tree) (p : List Int) (q : Nat), ts[i]? = some u → tindex p u = some q → ((o + i : Nat) : Int) :: p ∈ tpathsF o ts
  | [], o, i, u, p, q, hu, _ => by simp at hu
  | t :: ts, o, 0, u, p, q, hu, hq => by
    simp only [List.getElem?_cons_zero, Option.some.injEq] at hu
    subst hu
    rw [tpathsF, List.mem_append]
    exact .inl (List.mem_map.2 ⟨p, tindex_back t p q hq, rfl⟩)
  | t :: ts, o, i + 1, u, p, q, hu, hq => by
    rw [List.getElem?_cons_succ] at hu
    rw [tpathsF, List.mem_append]
    have := tindex_backF ts (o + 1) i u p q hu hq
    rw [show o + 1 + i = o + (i + 1) by omega] at this
    exact .inr this
end
end Go.Proofs.YtdlhkhnoigbhjaaDoor.Pu
namespace Go.Proofs.YtdlhkhnoigbhjaaDoor.Wi
open Go Go.RowKit Pu Lb
set_option linter.unusedSimpArgs false
set_option linter.unusedVariables false
/-- places answers the iterator, which reads the tree's blocks -/
theorem placesX_any (t : Tree) (cs : List Value) (X : Nat → Prop) (w : World) (hT : IsTX X w t cs) (hs : tsize t ≤ 1000000) :
    Calls Tryd.prog 58 #[.agg cs.toArray] w fun e w' => ∃ T, e = .returned (.func (.func 80) #[] #[.pointer (some ⟨T, 0, none⟩)]) ∧ T = w.heap.size ∧
      Iter Tryd.prog 80 #[.pointer (some ⟨T, 0, none⟩)] (tpaths t) (fun b => b = T ∨ X b ∧ b < w.heap.size) w' ∧ Below w.heap.size w w' ∧ T < w'.heap.size := by
  go_enter Tryd.func58, Tryd.ntmps58
  go_wp2_with (((with_reducible refine' wpList_boxa (cs := cs) 25 (.tmp 0) rfl ?_ ?_ ?_); exact rfl; exact rfl; intro w1 kA hN1 hz1; simp only [Act.put, List.setIfInBounds_toArray, List.set_cons_succ, List.set_cons_zero]))
  go_ret
  exact ⟨_, rfl, rfl, iter_any t cs _ _ w1 kA (hT.lt.below hN1) hs, hN1, kA.lt⟩
/-- what the rounds of Index keep -/
def IdxI (Bi R Bp : Nat) (vp : Value) (p : List Int) (Y : Nat → Prop) (w w1 : World) : Inv := fun pre M W => Blk W Bi 3 [.int .i64 (pre.length : Int)] ∧ Blk W R 3 [.int .i64 0] ∧ Blk W Bp 22 [vp] ∧ M Bi ∧ M R ∧ M Bp ∧ (∀ b, Y b → b < w.heap.size → M b ∧ W.heap[b]? = w.heap[b]?) ∧
  (W.os = w1.os ∧ W.tape = w1.tape ∧ W.output = w1.output) ∧ w1.heap.size ≤ W.heap.size ∧ p ∉ pre
def IdxX (R : Nat) (p : List Int) (Y : Nat → Prop) (w w1 : World) : Code → Inv := fun c pre M W => c = .ret ∧ ∃ pre0, pre = pre0 ++ [p] ∧ p ∉ pre0 ∧ Blk W R 3 [.int .i64 (pre0.length : Int)] ∧ M R ∧ (∀ b, Y b → b < w.heap.size → M b ∧ W.heap[b]? = w.heap[b]?) ∧
  (W.os = w1.os ∧ W.tape = w1.tape ∧ W.output = w1.output) ∧ w1.heap.size ≤ W.heap.size
theorem IdxI.firm (Bi R Bp : Nat) (vp : Value) (p : List Int) (Y : Nat → Prop) (w w1 : World) (hw : w.heap.size ≤ w1.heap.size) : Firm (IdxI Bi R Bp vp p Y w w1) := by
  rintro pre M W W' r ⟨h1, h2, h3, h4, h5, h6, h7, ⟨a, b, c⟩, h8, h9⟩ hg hr
  refine ⟨h1.grown hg (fun e => hr Bi e.symm h4), h2.grown hg (fun e => hr R e.symm h5), h3.grown hg (fun e => hr Bp e.symm h6), h4, h5, h6, fun x hx hl => ⟨(h7 x hx hl).1, ?_⟩, ⟨hg.os.trans a, hg.tape.trans b, hg.output.trans c⟩, Nat.le_trans h8 hg.size, h9⟩
  rw [hg.block x (by omega) (fun e => hr x e.symm (h7 x hx hl).1), (h7 x hx hl).2]
theorem IdxX.firm (R : Nat) (p : List Int) (Y : Nat → Prop) (w w1 : World) (hw : w.heap.size ≤ w1.heap.size) (c : Code) : Firm (IdxX R p Y w w1 c) := by
  rintro pre M W W' r ⟨hc, pre0, h0, h9, h2, h5, h7, ⟨a, b, d⟩, h8⟩ hg hr
  refine ⟨hc, pre0, h0, h9, h2.grown hg (fun e => hr R e.symm h5), h5, fun x hx hl => ⟨(h7 x hx hl).1, ?_⟩, ⟨hg.os.trans a, hg.tape.trans b, hg.output.trans d⟩, Nat.le_trans h8 hg.size⟩
  rw [hg.block x (by omega) (fun e => hr x e.symm (h7 x hx hl).1), (h7 x hx hl).2]
section
variable {P : Program} {ops : Array Oper} {Q : Exit → Act → World → Prop} {a : Act} {w : World} {rest : List Oper} {o : Oper}
theorem wpList_box1 (t : TypeId) (x : Operand) (ho : o.op = .box t x) (hw : Region.wanted o (yielded ops a.tmps) = true) {v : Value} (hx : a.eval x = v) (hc : v.cells = #[v])
    (h : ∀ w', Blk w' w.heap.size t [v] → Below w.heap.size w w' → w'.heap.size = w.heap.size + 1 → wpList P ops Q rest (a.put o.dst (.pointer (some ⟨w.heap.size, 0, none⟩))) w') : wpList P ops Q (o :: rest) a w := by
  refine wpList_of_run hw (v := .pointer (some ⟨w.heap.size, 0, none⟩)) (w' := w.alloc (.cells #[v] t)) ?_ (h _ (heap_alloc_new w _) ((Below.refl _ _).alloc (Nat.le_refl _) _) (by simp))
  unfold execOp
  simp [ho, hx, Instr.box, newVar, newRow, hc]
end
theorem results_cell_one {P : Program} {fn : Func} {p : Tmp} {ty : TypeId} (h : fn.results = #[.cell p ty]) (tmps : Array Value) (w : World) (B : Nat) (u : Value) (hp : tmps.getD p undef = .pointer (some ⟨B, 0, none⟩))
    (hl : ∀ (ad : Addr) (u : Value) (w : World), w.cell? ad = some u → (loadVar ty ad).run P w = .ok u w) (hc : w.cell? ⟨B, 0, none⟩ = some u) : (results fn tmps).run P w = .ok u w := by
  have hp' : tmps[p]?.getD undef = .pointer (some ⟨B, 0, none⟩) := by simpa using hp
  simp [results, h, hp', asAddr, hl _ _ _ hc]
theorem zr_int : (Tryd.prog.info? 3).map (·.zero) = some (some (.int .i64 0)) := by kernel_rfl
theorem sz_ints1 : (Tryd.prog.info? 22).map (·.size) = some 1 := by kernel_rfl
set_option maxRecDepth 100000 in
set_option maxHeartbeats 1600000 in
theorem index_any (t : Tree) (cs : List Value) (p : List Int) (v : Value) (X Y : Nat → Prop) (w : World) (hT : IsTX X w t cs) (hp : RdX Y w 1 v p.length (iv p)) (hXY : ∀ b, Y b → ¬ X b) (hz : tsize t ≤ 1000000) :
    Calls Tryd.prog 32 #[.agg cs.toArray, v] w fun e w' => e = .returned (.int .i64 (idxI (tindex p t))) ∧ Below w.heap.size w w' := by
  have CL := Lib.hid hT.len
  obtain ⟨ad, pn, cap, hvv⟩ : ∃ a n c, v = .slice a n c := by obtain ⟨⟨_, a, c, h, _⟩, _⟩ := hp; exact ⟨a, _, c, h⟩
  refine calls_of_marks Tryd.func32 rfl ?_
  simp only [Tryd.ntmps32, List.size_toArray, List.length_cons, List.length_nil, Nat.reduceAdd, Nat.reduceSub, Array.replicate_succ, Array.replicate_zero, List.push_toArray, List.append_toArray, List.nil_append, List.cons_append]
  subst hvv
  have X0 := Lib.hid (show ([.slice ad pn cap] : List Value)[0]? = some (.slice ad pn cap) from rfl)
  have l0 := Lib.hid (show 0 < ([.int .i64 0] : List Value).length by simp)
  go_upto_region 1 with (first
    | (((with_reducible refine' wpList_boxa (cs := cs) 25 (.tmp 0) rfl ?_ ?_ ?_); exact rfl; exact rfl; intro w1 kA hN1 hz1; simp only [Act.put, List.setIfInBounds_toArray, List.set_cons_succ, List.set_cons_zero]))
    | (((with_reducible refine' wpList_box1 (v := .slice ad pn cap) 22 (.tmp 1) rfl ?_ ?_ ?_ ?_); exact rfl; exact rfl; exact rfl; intro w2 kP hN2 hz2; simp only [Act.put, List.setIfInBounds_toArray, List.set_cons_succ, List.set_cons_zero]))
    | (((with_reducible refine' wpList_alloc_blk (cs := [.int .i64 0]) 3 rfl ?_ zr_int ?_ ?_); exact rfl; exact rfl; intro w3 kR hN3 hz3; simp only [Act.put, List.setIfInBounds_toArray, List.set_cons_succ, List.set_cons_zero])))
  obtain ⟨A, hA⟩ : ∃ A, w.heap.size = A := ⟨_, rfl⟩
  obtain ⟨Bp, hBp⟩ : ∃ A, w1.heap.size = A := ⟨_, rfl⟩
  obtain ⟨R, hR⟩ : ∃ A, w2.heap.size = A := ⟨_, rfl⟩
  rw [hA] at kA
  rw [hBp] at kP
  rw [hR] at kR
  rw [hA, hBp, hR]
  have s1 := hN1.size
  have s2 := hN2.size
  have s3 := hN3.size
  have lA := kA.lt
  have lP := kP.lt
  have lR := kR.lt
  replace kA := (kA.below hN2 lA).below hN3 (by omega)
  replace kP := kP.below hN3 lP
  have hb3 : Below w.heap.size w w3 := (hN1.trans (hN2.mono s1)).trans (hN3.mono (by omega))
  clear hN1 hN2 hN3 hz1 hz2 hz3
  go_upto_region 2 with (first
    | (((with_reducible refine' wpList_alloc_blk (cs := [.int .i64 0]) 3 rfl ?_ zr_int ?_ ?_); exact rfl; exact rfl; intro w4 kI hN4 hz4; simp only [Act.put, List.setIfInBounds_toArray, List.set_cons_succ, List.set_cons_zero]))
    | ((with_reducible refine' wpList_set_blk (u := .int .i64 0) 3 (.tmp 5) (.const (.int .i64 0)) rfl ?_ sz_int ?_ ?_ kI (l0.out) ?_ ?_); exact rfl; exact rfl; exact rfl; exact rfl; intro w5 kI5 hO5 hz5; simp only [Act.put]))
  obtain ⟨Bi, hBi⟩ : ∃ A, w3.heap.size = A := ⟨_, rfl⟩
  rw [hBi] at kI5 hO5 ⊢
  have s4 := hN4.size
  have hb5 : Below w.heap.size w w5 := (hb3.trans (hN4.mono hb3.size)).trans (hO5.below (by omega) (by omega))
  replace kA := hO5.blk (kA.below hN4 kA.lt) (by omega)
  replace kP := hO5.blk (kP.below hN4 kP.lt) (by omega)
  replace kR := hO5.blk (kR.below hN4 kR.lt) (by omega)
  have lI := kI5.lt
  have hT5 := hT.lt.below hb5
  rw [show ([.int .i64 0] : List Value).set 0 (.int .i64 0) = [.int .i64 0] from rfl] at kI5
  have ord : w.heap.size ≤ A ∧ A < Bp ∧ Bp < R ∧ R < Bi := ⟨by omega, by omega, by omega, by omega⟩
  clear hN4 hO5 hz4 hz5 kI hb3 lA lP lR s1 s2 s3 s4
  go_upto_block 0 with (first
    | ((with_reducible refine' wpList_loadst_blk (.tmp 2) 25 rfl ?_ Tryd.underlying25 ?_ sz_node ?_ kA ?_ ?_ ?_); exact rfl; exact rfl; exact rfl; exact CL.out; decide; simp only [Act.put, List.setIfInBounds_toArray, List.set_cons_succ, List.set_cons_zero])
    | ((go_at_call 58; (with_reducible refine (placesX_any t cs _ _ hT5 hz).mono ?_); rintro e w' ⟨_, rfl, rfl, hit, hb2, lT⟩)))
  obtain ⟨w6, rfl⟩ : ∃ x : World, x = w' := ⟨_, rfl⟩
  obtain ⟨T, lT5⟩ : ∃ T, w5.heap.size = T := ⟨_, rfl⟩
  rw [lT5] at hit lT ⊢
  have kA6 := kA.below hb2 kA.lt
  have kP6 := kP.below hb2 kP.lt
  have kR6 := kR.below hb2 kR.lt
  have kI6 := kI5.below hb2 kI5.lt
  have hb6 := hb5.trans (hb2.mono hb5.size)
  have sw := hb5.size
  have sw6 := hb2.size
  have lR6 := kR6.lt
  have lP6 := kP6.lt
  clear kA kP kR kI5 hT5 hT
  refine (wpIn_wide (n := 0)).1 (wpIn_block ((wpIn_wide (n := 0)).2 ?_))
  have hwR : w.heap.size ≤ R := by omega
  refine wp_range (w := w6) rfl (fun _ _ => rfl) hit (fun b hb => by rcases hb with rfl | ⟨_, h⟩ <;> omega) (fun b hb hl => rfl) (Nat.le_refl _) (IdxI Bi R Bp (.slice ad pn cap) p Y w w6) (IdxX R p Y w w6)
    (fun b => b = Bi ∨ b = R ∨ b = Bp ∨ (Y b ∧ b < w.heap.size)) (fun b h => ?hM0) (IdxI.firm Bi R Bp _ p Y w w6 (by omega)) (IdxX.firm R p Y w w6 (by omega)) ?h0
    (fun u => { tmps := #[.agg cs.toArray, .slice ad pn cap, .pointer (some ⟨A, 0, none⟩), .pointer (some ⟨Bp, 0, none⟩), .pointer (some ⟨R, 0, none⟩), .pointer (some ⟨Bi, 0, none⟩), u, .agg cs.toArray, .func (.func 80) #[] #[.pointer (some ⟨T, 0, none⟩)], u, undef, undef, undef, undef, undef, undef], defers := [] }) ?asg ?body ?done ?stop
  case hM0 =>
    rcases h with rfl | rfl | rfl | ⟨h1, h2⟩
    · exact ⟨by omega, fun h => by rcases h with h | ⟨_, h⟩ <;> omega⟩
    · exact ⟨by omega, fun h => by rcases h with h | ⟨_, h⟩ <;> omega⟩
    · exact ⟨by omega, fun h => by rcases h with h | ⟨_, h⟩ <;> omega⟩
    · exact ⟨by omega, fun h => by
        rcases h with h | ⟨h, _⟩
        · omega
        · exact hXY _ h1 h.1⟩
  case h0 => exact ⟨kI6, kR6, kP6, .inl rfl, .inr (.inl rfl), .inr (.inr (.inl rfl)), fun b hb hl => ⟨.inr (.inr (.inr ⟨hb, hl⟩)), hb6.block b hl⟩, ⟨rfl, rfl, rfl⟩, Nat.le_refl _, by simp⟩
  case asg =>
    intro l u W K hK
    refine region_inRound l (fun ⟨_, _, h⟩ => h) rfl ?_
    go_wp2_with fail
    exact hK
  case body =>
    rintro l pre M q u W ⟨kI, kR, kP, hMI, hMR, hMP, hY, ⟨e1, e2, e3⟩, e4, hpre⟩ hu1 hur hql hMlt hlen
    have X0 := Lib.hid (show ([.slice ad pn cap] : List Value)[0]? = some (.slice ad pn cap) from rfl)
    have hrp : Rd W 1 (.slice ad pn cap) p.length (iv p) := by
      have h := hp.lt (by decide)
      exact (h.keep (w' := W) (fun b hb hl => (hY b hb.1 hl).2)).1
    have hrq := hur.1
    have HY := Lib.hid hY
    have sW : w6.heap.size ≤ W.heap.size := e4
    have lI := kI.lt
    have lRW := kR.lt
    have XI := Lib.hid (show ([.int .i64 (pre.length : Int)] : List Value)[0]? = some (.int .i64 (pre.length : Int)) from rfl)
    have lz := Lib.hid (show 0 < ([.int .i64 (pre.length : Int)] : List Value).length by simp)
    have lz0 := Lib.hid (show 0 < ([.int .i64 0] : List Value).length by simp)
    rw [tpaths_len] at hlen
    have hdq : decide (q = p) = true ∨ decide (q = p) = false := by cases decide (q = p) <;> simp
    clear hit hb2 hb6 hp hur hY e4
    refine wpIn_block (wpIn_seq (wpIn_seq (region_inRound l (fun ⟨_, _, h⟩ => h) rfl ?_)))
    go_wp2_with (first
      | ((with_reducible refine' wpList_load_blk (.tmp 3) 22 rfl ?_ ld_ints ?_ kP (X0.out) ?_); exact rfl; exact rfl; simp only [Act.put, List.setIfInBounds_toArray, List.set_cons_succ, List.set_cons_zero])
      | ((go_at_call 60; (with_reducible refine (equal_any q p u (.slice ad pn cap) _ hrq hrp).mono ?_); rintro e w' ⟨rfl, hN⟩)))
    have kI2 := kI.below hN lI
    have kR2 := kR.below hN lRW
    have kP2 := kP.below hN kP.lt
    have sN := hN.size
    by_cases hqp : q = p
    · subst hqp
      refine wpIn_cond_true (by simp [Act.eval]) ?_
      refine wpIn_seq (region_inRound l (fun ⟨_, _, h⟩ => h) rfl ?_)
      go_wp2_with (first
        | ((with_reducible refine' wpList_load_blk (.tmp 5) 3 rfl ?_ ld_int ?_ kI2 (XI.out) ?_); exact rfl; exact rfl; simp only [Act.put, List.setIfInBounds_toArray, List.set_cons_succ, List.set_cons_zero])
        | ((with_reducible refine' wpList_set_blk (u := .int .i64 (pre.length : Int)) 3 (.tmp 4) (.tmp 13) rfl ?_ sz_int ?_ ?_ kR2 (lz0.out) ?_ ?_); exact rfl; exact rfl; exact rfl; exact rfl; intro w8 kR8 hO8 hz8; simp only [Act.put]))
      refine wpIn_ret ?_
      have kR9 : Blk w8 R 3 [.int .i64 (pre.length : Int)] := kR8
      have s8 := hO8.size
      refine ⟨M, fun b h => .inl h, ⟨by omega, fun b hb hl => ?_⟩, rfl, pre, rfl, hpre, kR9, hMR, fun b hb hl => ⟨(HY.out b hb hl).1, ?_⟩, ⟨hO8.os.trans (hN.os.trans e1), hO8.tape.trans (hN.tape.trans e2), hO8.output.trans (hN.output.trans e3)⟩, by omega⟩
      · rw [hO8.block b (by omega) (by simp; rintro rfl; exact hb hMR), hN.block b hl]
      · rw [hO8.block b (by omega) (by simp; omega), hN.block b (by omega), (HY.out b hb hl).2]
    · have hdf : decide (q = p) = false := decide_eq_false hqp
      refine wpIn_cond_false (by simp [Act.eval, hdf]) ?_
      refine wpIn_skip ?_
      refine region_inRound l (fun ⟨_, _, h⟩ => h) rfl ?_
      go_wp2_with (first
        | ((with_reducible refine' wpList_load_blk (.tmp 5) 3 rfl ?_ ld_int ?_ kI2 (XI.out) ?_); exact rfl; exact rfl; simp only [Act.put, List.setIfInBounds_toArray, List.set_cons_succ, List.set_cons_zero])
        | ((with_reducible refine' wpList_set_blk (u := .int .i64 ((pre.length : Int) + 1)) 3 (.tmp 5) (.tmp 15) rfl ?_ sz_int ?_ ?_ kI2 (lz.out) ?_ ?_); exact rfl; exact rfl; exact rfl; exact rfl; intro w8 kI8 hO8 hz8; simp only [Act.put]))
      have kI9 : Blk w8 Bi 3 [.int .i64 ((pre ++ [q]).length : Int)] := by
        rw [List.length_append, List.length_singleton]
        exact kI8
      have s8 := hO8.size
      refine ⟨M, fun b h => .inl h, ⟨by omega, fun b hb hl => ?_⟩, kI9, hO8.blk kR2 (by omega), hO8.blk kP2 (by omega), hMI, hMR, hMP, fun b hb hl => ⟨(HY.out b hb hl).1, ?_⟩, ⟨hO8.os.trans (hN.os.trans e1), hO8.tape.trans (hN.tape.trans e2), hO8.output.trans (hN.output.trans e3)⟩, by omega, ?_⟩
      · rw [hO8.block b (by omega) (by simp; rintro rfl; exact hb hMI), hN.block b hl]
      · rw [hO8.block b (by omega) (by simp; omega), hN.block b (by omega), (HY.out b hb hl).2]
      · intro hm
        rcases List.mem_append.1 hm with hm | hm
        · exact hpre hm
        · exact hqp (List.mem_singleton.1 hm).symm
  case done =>
    rintro M W ⟨kI, kR, kP, hMI, hMR, hMP, hY, ⟨e1, e2, e3⟩, e4, hpre⟩ hK hM hk
    have hn : tindex p t = none := by
      cases h : tindex p t with
      | none => rfl
      | some j => exact absurd (tindex_back t p j h) hpre
    have hold : ∀ b, b < w.heap.size → W.heap[b]? = w.heap[b]? := fun b hb => by
      by_cases hy : Y b
      · exact (hY b hy hb).2
      · rw [hK.2 b (by rintro (rfl | rfl | rfl | ⟨h, _⟩) <;> first | omega | exact hy h) (by omega)]
        exact hb6.block b hb
    have lz0 := Lib.hid (show 0 < ([.int .i64 0] : List Value).length by simp)
    have lW := (Array.getElem?_eq_some_iff.1 hk).1
    go_wp2_with (((with_reducible refine' wpList_set_blk (u := .int .i64 (-1)) 3 (.tmp 4) (.const (.int .i64 (-1))) rfl ?_ sz_int ?_ ?_ kR (lz0.out) ?_ ?_); exact rfl; exact rfl; exact rfl; exact rfl; intro w8 kR8 hO8 hz8; simp only [Act.put]))
    have hk8 : w8.heap[w6.heap.size]? = some (.deferred (some [])) := by rw [hO8.block _ lW (by simp; omega)]; exact hk
    have hpo := putObj_grown w8 w6.heap.size (.deferred none)
    have kR9 : Blk (w8.putObj w6.heap.size (.deferred none)) R 3 [.int .i64 (-1)] := Blk.grown (cs := [.int .i64 (-1)]) kR8 hpo (by simp; omega)
    refine bodyPostM_mark (.inl rfl) rfl rfl hk8 (results_cell_one rfl _ _ R (.int .i64 (-1)) rfl ld_int (kR9.cell rfl)) ⟨by rw [hn]; rfl, ?_⟩
    refine ⟨hpo.os.trans (hO8.os.trans (e1.trans hb6.os)), hpo.tape.trans (hO8.tape.trans (e2.trans hb6.tape)), hpo.output.trans (hO8.output.trans (e3.trans hb6.output)), by have := hpo.size; have := hO8.size; omega, fun b hb => ?_⟩
    rw [hpo.block b (by have := hO8.size; omega) (by simp; omega), hO8.block b (by omega) (by simp; omega), hold b hb]
  case stop =>
    rintro c pre M W hpp ⟨rfl, pre0, rfl, hpre, kR, hMR, hY, ⟨e1, e2, e3⟩, e4⟩ hK hM hk
    have hat : (tpaths t)[pre0.length]? = some p := by
      obtain ⟨r, hr⟩ := hpp
      rw [← hr]; simp
    have hn := tindex_path t pre0.length p hat
    have hold : ∀ b, b < w.heap.size → W.heap[b]? = w.heap[b]? := fun b hb => by
      by_cases hy : Y b
      · exact (hY b hy hb).2
      · rw [hK.2 b (by rintro (rfl | rfl | rfl | ⟨h, _⟩) <;> first | omega | exact hy h) (by omega)]
        exact hb6.block b hb
    refine (wpIn_wide (n := 0)).1 (wpIn_ret ?_)
    have hpo := putObj_grown W w6.heap.size (.deferred none)
    have kR9 : Blk (W.putObj w6.heap.size (.deferred none)) R 3 [.int .i64 (pre0.length : Int)] := kR.grown hpo (by simp; omega)
    refine bodyPostM_mark (.inl rfl) rfl rfl hk (results_cell_one rfl _ _ R (.int .i64 (pre0.length : Int)) rfl ld_int (kR9.cell rfl)) ⟨by rw [hn]; rfl, ?_⟩
    refine ⟨hpo.os.trans (e1.trans hb6.os), hpo.tape.trans (e2.trans hb6.tape), hpo.output.trans (e3.trans hb6.output), by have := hpo.size; omega, fun b hb => ?_⟩
    rw [hpo.block b (by omega) (by simp; omega), hold b hb]
end Go.Proofs.YtdlhkhnoigbhjaaDoor.Wi
namespace Go.Proofs.YtdlhkhnoigbhjaaDoor.Wi
open Go Go.RowKit Pu Lb
set_option linter.unusedSimpArgs false
set_option linter.unusedVariables false
def zT : Tree := .mk 0 0 0 []
theorem zT_isT (w : World) : IsT w zT nodz := (IsTX.leaf (X := fun _ => True)).isT
theorem AtR.rep {X : Nat → Prop} {w : World} {ds : List Value} {b : Bool} : ∀ {o : Option Tree}, AtR X w ds b o → IsT w (o.getD zT) ds ∧ b = o.isSome
  | some _, h => ⟨h.2.isT, h.1⟩
  | none, h => ⟨by rw [h.2]; exact zT_isT w, h.1⟩
def setC (o : Option Tree) : Int := if o.isSome then 0 else 6
theorem SetR.rep {X : Nat → Prop} {w : World} {ds : List Value} {c : Int} : ∀ {o : Option Tree}, SetR X w ds c o → IsT w (o.getD zT) ds ∧ c = setC o
  | some _, h => ⟨h.2.isT, h.1⟩
  | none, h => ⟨by rw [h.2]; exact zT_isT w, h.1⟩
theorem AtR.repX {X : Nat → Prop} {w : World} {ds : List Value} {b : Bool} : ∀ {o : Option Tree}, AtR X w ds b o → IsTX X w (o.getD zT) ds ∧ b = o.isSome
  | some _, h => ⟨h.2, h.1⟩
  | none, h => ⟨by rw [h.2]; exact IsTX.leaf, h.1⟩
theorem SetR.repX {X : Nat → Prop} {w : World} {ds : List Value} {c : Int} : ∀ {o : Option Tree}, SetR X w ds c o → IsTX X w (o.getD zT) ds ∧ c = setC o
  | some _, h => ⟨h.2, h.1⟩
  | none, h => ⟨by rw [h.2]; exact IsTX.leaf, h.1⟩
theorem at_rep (N : Nat) (p : List Int) (t : Tree) (cs : List Value) (vp : Value) (w : World) (hT : IsTX (fun b => b < N) w t cs) (hr : Rd w 1 vp p.length (iv p)) (hs : tsize t ≤ 1000000) :
    Calls Tryd.prog 28 #[.agg cs.toArray, vp] w fun e w' => ∃ ds : List Value, e = .returned (.tuple #[.agg ds.toArray, .bool (tat p t).isSome]) ∧ IsTX (fun b => b < N ∨ w.heap.size ≤ b) w' ((tat p t).getD zT) ds ∧ Below w.heap.size w w' :=
  (treeat_any p t cs vp w hT.isT hr hs).mono fun e w' ⟨ds, b, he, h1, h2⟩ => ⟨ds, by rw [he, h1.repX.2], h1.repX.1.mono fun _ h => .inr h, h2⟩
theorem refat_rep (N : Nat) (p : List Int) (t : Tree) (cs : List Value) (vp : Value) (w : World) (hT : IsTX (fun b => b < N) w t cs) (hr : Rd w 1 vp p.length (iv p)) :
    Calls Tryd.prog 29 #[.agg cs.toArray, vp] w fun e w' => ∃ ds : List Value, e = .returned (.tuple #[.agg ds.toArray, .bool (tat p t).isSome]) ∧ IsTX (fun b => b < N ∨ w.heap.size ≤ b) w' ((tat p t).getD zT) ds ∧ Below w.heap.size w w' :=
  (refat_any p _ t cs vp w hT hr).mono fun e w' ⟨ds, b, he, h1, h2⟩ => ⟨ds, by rw [he, h1.repX.2], h1.repX.1.mono fun _ h => .inl h, h2⟩
theorem set_rep (N : Nat) (p : List Int) (t x : Tree) (cs ds : List Value) (vp : Value) (w : World) (hT : IsTX (fun b => b < N) w t cs) (hX : IsTX (fun b => b < N) w x ds) (hr : Rd w 1 vp p.length (iv p)) (hs : tsize t ≤ 1000000) (hsx : tsize x ≤ 1000000) :
    Calls Tryd.prog 30 #[.agg cs.toArray, vp, .agg ds.toArray] w fun e w' => ∃ es : List Value, e = .returned (.tuple #[.agg es.toArray, .int .i64 (setC (tset p t x))]) ∧ IsTX (fun b => b < N ∨ w.heap.size ≤ b) w' ((tset p t x).getD zT) es ∧ Below w.heap.size w w' :=
  (treeset_any p t x cs ds vp w hT.isT hX.isT hr hs hsx).mono fun e w' ⟨es, c, he, h1, h2⟩ => ⟨es, by rw [he, h1.repX.2], h1.repX.1.mono fun _ h => .inr h, h2⟩
theorem refset_rep (N : Nat) (p : List Int) (t x : Tree) (cs ds : List Value) (vp : Value) (w : World) (hT : IsTX (fun b => b < N) w t cs) (hX : IsTX (fun b => b < N) w x ds) (hr : Rd w 1 vp p.length (iv p)) (hs : tsize t ≤ 1000000) :
    Calls Tryd.prog 25 #[.agg cs.toArray, vp, .agg ds.toArray] w fun e w' => ∃ es : List Value, e = .returned (.tuple #[.agg es.toArray, .int .i64 (setC (tset p t x))]) ∧ IsTX (fun b => b < N ∨ w.heap.size ≤ b) w' ((tset p t x).getD zT) es ∧ Below w.heap.size w w' :=
  (refset_any p _ t x cs ds vp w hT hX hr hs).mono fun e w' ⟨es, c, he, h1, h2⟩ => ⟨es, by rw [he, h1.repX.2], h1.repX.1, h2⟩
theorem rd_x {w : World} {s : Nat} {v : Value} {n : Nat} {xs : List Value} (h : Rd w s v n xs) (hs : 0 < s) : RdX (fun b => b < w.heap.size) w s v n xs := (RdX.lt (X := fun _ => True) ⟨h, fun _ _ _ => trivial⟩ hs).mono fun _ h => h.2
end Go.Proofs.YtdlhkhnoigbhjaaDoor.Wi
namespace Go.Proofs.YtdlhkhnoigbhjaaDoor.Wi
open Go Go.RowKit Pu Lb
set_option linter.unusedSimpArgs false
set_option linter.unusedVariables false
set_option maxRecDepth 100000 in
theorem begins_any (p q : List Int) (v u : Value) (w : World) (hv : Rd w 1 v p.length (iv p)) (hu : Rd w 1 u q.length (iv q)) :
    Calls Tryd.prog 34 #[v, u] w fun e w' => e = .returned (.bool (decide (q <+: p))) ∧ Below w.heap.size w w' := by
  by_cases hl : q.length ≤ p.length
  · have L1 : decide (q.length ≤ p.length) = true := decide_eq_true hl
    have HD := Lib.hid (show decide (p.take q.length = q) = decide (q <+: p) by
      apply decide_eq_decide.2
      rw [List.prefix_iff_eq_take]
      exact eq_comm)
    have HLT := Lib.hid (show (p.take q.length).length = q.length by rw [List.length_take]; omega)
    go_enter Tryd.func34, Tryd.ntmps34
    go_wp2_with (first
      | ((with_reducible refine' wpList_len_rd (.tmp 5) 22 rfl ?_ Tryd.underlying22 ?_ hv ?_); exact rfl; exact rfl; simp only [Act.put, List.setIfInBounds_toArray, List.set_cons_succ, List.set_cons_zero]) | ((with_reducible refine' wpList_len_rd (.tmp 7) 22 rfl ?_ Tryd.underlying22 ?_ hu ?_); exact rfl; exact rfl; simp only [Act.put, List.setIfInBounds_toArray, List.set_cons_succ, List.set_cons_zero]) | ((with_reducible refine' wpList_len_rd (.tmp 12) 22 rfl ?_ Tryd.underlying22 ?_ hu ?_); exact rfl; exact rfl; simp only [Act.put, List.setIfInBounds_toArray, List.set_cons_succ, List.set_cons_zero])
      | (((with_reducible refine' wpList_to_rd (.tmp 11) (.tmp 13) 22 rfl ?_ Tryd.underlying22 sz_int ?_ hv (q.length) ?_ ?_ ?_); exact rfl; exact rfl; (show (_ : Int) = _; omega); omega; intro v' hr'; simp only [Act.put, List.setIfInBounds_toArray, List.set_cons_succ, List.set_cons_zero]); have hr2 : Rd w 1 v' (p.take q.length).length (iv (p.take q.length)) := (by rw [HLT.out]; simpa [iv, List.map_take] using hr'))
      | ((go_at_call 44; (with_reducible refine (sameints_any v' u _ _ (p.take q.length) q _ hr2 hu).mono ?_); rintro e w' ⟨rfl, n9, rfl⟩); rw [HD.out]))
    go_ret
    exact ⟨rfl, below_drewN (Below.refl _ _) _⟩
  · have L1 : decide (q.length ≤ p.length) = false := decide_eq_false hl
    have HD := Lib.hid (show decide (q <+: p) = false from decide_eq_false fun h => hl h.length_le)
    clear hl
    go_enter Tryd.func34, Tryd.ntmps34
    go_wp2_with (first | ((with_reducible refine' wpList_len_rd (.tmp 5) 22 rfl ?_ Tryd.underlying22 ?_ hv ?_); exact rfl; exact rfl; simp only [Act.put, List.setIfInBounds_toArray, List.set_cons_succ, List.set_cons_zero]) | ((with_reducible refine' wpList_len_rd (.tmp 7) 22 rfl ?_ Tryd.underlying22 ?_ hu ?_); exact rfl; exact rfl; simp only [Act.put, List.setIfInBounds_toArray, List.set_cons_succ, List.set_cons_zero]))
    go_ret
    rw [HD.out]
    exact ⟨rfl, Below.refl _ _⟩
end Go.Proofs.YtdlhkhnoigbhjaaDoor.Wi
