/-
  Tcr, Gcr: my texts of these names, one behind the other. Conditions: those that each law names.
-/
import Derived.Test.YtajglgkjpagcjaaDoorMk
import Derived.Test.YtajglgkjpagcjaaDoorMc
import Derived.WalkKit
import Derived.ProofKit
import Derived.OpenShut
import Derived.ShutString
import Derived.JoinedCond
import Derived.SizedLaws
import Derived.Deep.CondSized
import Derived.Test.YtajglgkjpagcjaaDoorTie
import Derived.Test.YtajglgkjpagcjaaDoorCards
import Derived.SevenTiedAt
import Derived.Stop.Joined
import Derived.LaidMore
import Derived.WideKeyPair
namespace Go.Proofs.YtajglgkjpagcjaaDoor.Pu
def lessU (x y : List Nat) (k : Nat) : Bool := (List.range k).any fun i => decide (dg x i < dg y i)
theorem lessU_step (x y : List Nat) (k : Nat) : lessU x y (k + 1) = (lessU x y k || decide (dg x k < dg y k)) := by
  unfold lessU; rw [List.range_succ, List.any_append]; simp
theorem lessU_all {a b : List UInt8} (ha : a.length = 16) (hb : b.length = 16) (hne : a ≠ b) : lessU (digs a) (digs b) 68 = true := by
  obtain ⟨i, hi, h⟩ := cross ha hb hne
  unfold lessU
  rw [List.any_eq_true]
  exact ⟨i, List.mem_range.2 hi, decide_eq_true h⟩
end Go.Proofs.YtajglgkjpagcjaaDoor.Pu
namespace Go.Proofs.YtajglgkjpagcjaaDoor.Wi
open Go Go.RowKit Pu Lb
set_option linter.unusedSimpArgs false
set_option linter.unusedVariables false
attribute [local irreducible] comp sched comps sha outS mac digOf digs lessU
set_option maxRecDepth 100000 in
set_option maxHeartbeats 1600000 in
theorem digitscross_law (p q : List UInt8) (w : World) (hT : TabH w) (hp : p.length = 16) (hq : q.length = 16) :
    Calls Tryd.prog 7 #[.agg (bv p).toArray, .agg (bv q).toArray] w fun e w' => e = .returned (.bool true) ∧ Below w.heap.size w w' := by
  have P16 := Lib.hid hp
  have Q16 := Lib.hid hq
  have PB := Lib.hid (show (bv p).length = 16 by rw [bv_length, hp])
  have QB := Lib.hid (show (bv q).length = 16 by rw [bv_length, hq])
  have FIN := Lib.hid (fun (h : p ≠ q) => And.intro (lessU_all hp hq h) (lessU_all hq hp (Ne.symm h)))
  have DX := Lib.hid (fun c (h : c < 68) => dg_at hp h)
  have DY := Lib.hid (fun c (h : c < 68) => dg_at hq h)
  have NX := Lib.hid (show (nv (digs p)).length = 68 by unfold nv; rw [List.length_map, digs_len hp])
  have NY := Lib.hid (show (nv (digs q)).length = 68 by unfold nv; rw [List.length_map, digs_len hq])
  clear hp hq
  obtain ⟨xs, hxs⟩ : ∃ l, digs p = l := ⟨_, rfl⟩
  obtain ⟨ys, hys⟩ : ∃ l, digs q = l := ⟨_, rfl⟩
  rw [hxs] at NX FIN DX
  rw [hys] at NY FIN DY
  have HX := Lib.hid hxs
  have HY := Lib.hid hys
  clear hxs hys
  go_enter Tryd.func7, Tryd.ntmps7
  have hb := Below.refl w.heap.size w
  go_upto_region 1 with (first
    | (((with_reducible refine' wpList_boxa (cs := bv p) 23 (.tmp 0) rfl ?_ ?_ ?_); exact rfl; exact rfl; intro w1 hk1 hN hz1; simp only [Act.put, List.setIfInBounds_toArray, List.set_cons_succ, List.set_cons_zero]); replace hb := hb.trans ((by exact hN : Below _ _ _).mono hb.size); have z1 := hb.size)
    | (((with_reducible refine' wpList_boxa (cs := bv q) 23 (.tmp 1) rfl ?_ ?_ ?_); exact rfl; exact rfl; intro w2 hk2 hN hz2; simp only [Act.put, List.setIfInBounds_toArray, List.set_cons_succ, List.set_cons_zero]); replace hb := hb.trans ((by exact hN : Below _ _ _).mono hb.size); (try replace hk1 := Blk.below hk1 hN (Blk.lt hk1))))
  obtain ⟨B2, hB2⟩ : ∃ B, w1.heap.size = B := ⟨_, rfl⟩
  rw [hB2] at hk2 ⊢
  have hT1 := hT.below hb
  clear hT hB2 hz1 hz2 z1
  go_upto_region 2 with ((go_at_call 9; (with_reducible refine (sanity_any _ hT1).mono ?_); rintro e w' ⟨rfl, hN⟩); replace hb := hb.trans ((by exact hN : Below _ _ _).mono hb.size); (try replace hk1 := Blk.below hk1 hN (Blk.lt hk1)); (try replace hk2 := Blk.below hk2 hN (Blk.lt hk2)))
  go_upto_region 3 with (first
    | ((with_reducible refine' wpList_loadall_blk (.tmp 2) 23 rfl ?_ Tryd.underlying23 sz_dig ?_ hk1 ?_ ?_ ?_); exact rfl; exact rfl; exact PB.out; omega; simp only [Act.put, List.setIfInBounds_toArray, List.set_cons_succ, List.set_cons_zero])
    | ((go_at_call 10; (with_reducible refine (digits_any p _ P16.out).mono ?_); rintro e w' ⟨BD, rfl, kD, hN⟩); rw [HX.out] at kD; replace hb := hb.trans ((by exact hN : Below _ _ _).mono hb.size); (try replace hk1 := Blk.below hk1 hN (Blk.lt hk1)); (try replace hk2 := Blk.below hk2 hN (Blk.lt hk2)); have hr1 := kD.rd 0 68 68 1 (by rw [NX.out]; exact Nat.le_refl _) (by decide) (by unfold maxLen; decide)))
  have HZZ : (((nv xs).drop 0).take (68 * 1)) = nv xs := by rw [List.drop_zero, List.take_of_length_le (by rw [NX.out]; exact Nat.le_refl _)]
  rw [HZZ] at hr1
  clear HZZ kD hT1
  obtain ⟨sx, hsx⟩ : ∃ s, s = Value.slice (some ⟨BD, 0, none⟩) 68 68 := ⟨_, rfl⟩
  rw [← hsx] at hr1 ⊢
  clear hsx
  go_upto_region 8 with (first
    | ((with_reducible refine' wpList_loadall_blk (.tmp 3) 23 rfl ?_ Tryd.underlying23 sz_dig ?_ hk2 ?_ ?_ ?_); exact rfl; exact rfl; exact QB.out; omega; simp only [Act.put, List.setIfInBounds_toArray, List.set_cons_succ, List.set_cons_zero])
    | ((go_at_call 10; (with_reducible refine (digits_any q _ Q16.out).mono ?_); rintro e w' ⟨BE, rfl, kE, hN⟩); rw [HY.out] at kE; replace hb := hb.trans ((by exact hN : Below _ _ _).mono hb.size); (try replace hr1 := Rd.below hr1 hN); (try replace hk1 := Blk.below hk1 hN (Blk.lt hk1)); (try replace hk2 := Blk.below hk2 hN (Blk.lt hk2)); have hr2 := kE.rd 0 68 68 1 (by rw [NY.out]; exact Nat.le_refl _) (by decide) (by unfold maxLen; decide))
    | ((with_reducible refine' wpList_len_rd (.tmp 16) 25 rfl ?_ Tryd.underlying25 ?_ hr1 ?_); exact rfl; exact rfl; simp only [Act.put, List.setIfInBounds_toArray, List.set_cons_succ, List.set_cons_zero]) | ((with_reducible refine' wpList_len_rd (.tmp 20) 25 rfl ?_ Tryd.underlying25 ?_ hr2 ?_); exact rfl; exact rfl; simp only [Act.put, List.setIfInBounds_toArray, List.set_cons_succ, List.set_cons_zero]))
  have HZZ : (((nv ys).drop 0).take (68 * 1)) = nv ys := by rw [List.drop_zero, List.take_of_length_le (by rw [NY.out]; exact Nat.le_refl _)]
  rw [HZZ] at hr2
  clear HZZ kE
  obtain ⟨ws, rfl⟩ : ∃ ws : World, ws = w' := ⟨_, rfl⟩
  obtain ⟨sy, hsy⟩ : ∃ s, s = Value.slice (some ⟨BE, 0, none⟩) 68 68 := ⟨_, rfl⟩
  rw [← hsy] at hr2 ⊢
  clear hsy
  go_upto_region 9 with fail
  go_loopw [8, 9, 10] (fun l m i wr => ∃ (k : Nat) (L M : Bool), k ≤ 68 ∧ i = .int .i64 k ∧ l = .bool L ∧ m = .bool M ∧ Hid (L = lessU xs ys k) ∧ Hid (M = lessU ys xs k) ∧ ∃ nq, wr = ws.drewN nq) (fun _ _ i _ => 68 - (intOf i).toNat)
  case atStart => exact ⟨0, false, false, Nat.zero_le _, rfl, rfl, rfl, Lib.hid (by unfold lessU; rfl), Lib.hid (by unfold lessU; rfl), 0, rfl⟩
  case round =>
    obtain ⟨k, L, M, hk, rfl, rfl, rfl, HL, HM, nq0, rfl⟩ := hrel
    have g1 := hr1.drewN nq0
    have g2 := hr2.drewN nq0
    have g3 := hk1.drewN nq0
    have g4 := hk2.drewN nq0
    by_cases hlt : k < 68
    · have C1 := Lib.hid (nv_at (DX.out k hlt))
      have C2 := Lib.hid (nv_at (DY.out k hlt))
      have S1 := Lib.hid (lessU_step xs ys k)
      have S2 := Lib.hid (lessU_step ys xs k)
      obtain ⟨x, hx⟩ : ∃ x, dg xs k = x := ⟨_, rfl⟩
      obtain ⟨y, hy⟩ : ∃ y, dg ys k = y := ⟨_, rfl⟩
      rw [hx] at C1 S1 S2
      rw [hy] at C2 S1 S2
      clear hx hy
      have E1 := Lib.hid (show decide ((x : Int) < (y : Int)) = decide (x < y) by simp)
      have E2 := Lib.hid (show decide ((x : Int) > (y : Int)) = decide (y < x) by simp)
      have E3 := Lib.hid (show decide ((y : Int) < (x : Int)) = decide (y < x) by simp)
      rw [← HL.out] at S1
      rw [← HM.out] at S2
      have g5 := fun n => Rd.drewN g1 n
      have g6 := fun n => Rd.drewN g2 n
      go_upto_region 11 with fail
      rcases L with _ | _ <;> rcases M with _ | _
      all_goals
        go_wp2_with (first
          | (refine wp_region_quiet_lit (by kernel_rfl) (by kernel_rfl) ?_; (repeat (first | (rw [E1.out]) | (rw [E2.out]) | (rw [E3.out]) | ((with_reducible refine' wpQuiet_at1_rd (.tmp 30) (.tmp 31) 25 rfl ?_ Tryd.underlying25 sz_int ?_ g1 (k) ?_ ?_ ?_); exact rfl; exact rfl; (show (_ : Int) = _; omega); omega; simp only [Act.put, List.setIfInBounds_toArray, List.set_cons_succ, List.set_cons_zero]) | ((with_reducible refine' wpQuiet_load_rd (fun _ h => h) (.tmp 32) 3 rfl ?_ ld_int ?_ g1 (C1.out) ?_); exact rfl; exact rfl; simp only [Act.put, List.setIfInBounds_toArray, List.set_cons_succ, List.set_cons_zero]) | ((with_reducible refine' wpQuiet_at1_rd (.tmp 34) (.tmp 35) 25 rfl ?_ Tryd.underlying25 sz_int ?_ g2 (k) ?_ ?_ ?_); exact rfl; exact rfl; (show (_ : Int) = _; omega); omega; simp only [Act.put, List.setIfInBounds_toArray, List.set_cons_succ, List.set_cons_zero]) | ((with_reducible refine' wpQuiet_load_rd (fun _ h => h) (.tmp 36) 3 rfl ?_ ld_int ?_ g2 (C2.out) ?_); exact rfl; exact rfl; simp only [Act.put, List.setIfInBounds_toArray, List.set_cons_succ, List.set_cons_zero]) | go_big_quiet_step (fail))); refine wpQuiet_nil ?_; intro _ hw'; obtain ⟨nq, hw''⟩ := hw'; subst hw'')
          | (refine wp_region_quiet_lit (by kernel_rfl) (by kernel_rfl) ?_; (repeat (first | (rw [E1.out]) | (rw [E2.out]) | (rw [E3.out]) | ((with_reducible refine' wpQuiet_at1_rd (.tmp 42) (.tmp 43) 25 rfl ?_ Tryd.underlying25 sz_int ?_ (g5 nq) (k) ?_ ?_ ?_); exact rfl; exact rfl; (show (_ : Int) = _; omega); omega; simp only [Act.put, List.setIfInBounds_toArray, List.set_cons_succ, List.set_cons_zero]) | ((with_reducible refine' wpQuiet_load_rd (fun _ h => h) (.tmp 44) 3 rfl ?_ ld_int ?_ (g5 nq) (C1.out) ?_); exact rfl; exact rfl; simp only [Act.put, List.setIfInBounds_toArray, List.set_cons_succ, List.set_cons_zero]) | ((with_reducible refine' wpQuiet_at1_rd (.tmp 46) (.tmp 47) 25 rfl ?_ Tryd.underlying25 sz_int ?_ (g6 nq) (k) ?_ ?_ ?_); exact rfl; exact rfl; (show (_ : Int) = _; omega); omega; simp only [Act.put, List.setIfInBounds_toArray, List.set_cons_succ, List.set_cons_zero]) | ((with_reducible refine' wpQuiet_load_rd (fun _ h => h) (.tmp 48) 3 rfl ?_ ld_int ?_ (g6 nq) (C2.out) ?_); exact rfl; exact rfl; simp only [Act.put, List.setIfInBounds_toArray, List.set_cons_succ, List.set_cons_zero]) | go_big_quiet_step (fail))); refine wpQuiet_nil ?_; intro _ hw'; obtain ⟨nq, hw''⟩ := hw'; subst hw''))
        go_roundw
        case rel => exact ⟨k + 1, _, _, by omega, by go_num, rfl, rfl, Lib.hid (by rw [S1.out]; rfl), Lib.hid (by rw [S2.out]; rfl), _, by first | rfl | rw [World.drewN_drewN]; rfl | (rw [World.drewN_drewN, World.drewN_drewN])⟩
        case measure => simp [intOf]; omega
    · obtain rfl : k = 68 := by omega
      by_cases he : p = q
      · subst he
        have ED := Lib.hid (show decide (p = p) = true from decide_eq_true rfl)
        go_wp2_with (first | ((with_reducible refine' wpList_loadall_blk (.tmp 2) 23 rfl ?_ Tryd.underlying23 sz_dig ?_ g3 ?_ ?_ ?_); exact rfl; exact rfl; exact PB.out; omega; simp only [Act.put, List.setIfInBounds_toArray, List.set_cons_succ, List.set_cons_zero]) | ((with_reducible refine' wpList_loadall_blk (.tmp 3) 23 rfl ?_ Tryd.underlying23 sz_dig ?_ g4 ?_ ?_ ?_); exact rfl; exact rfl; exact QB.out; omega; simp only [Act.put, List.setIfInBounds_toArray, List.set_cons_succ, List.set_cons_zero]) | (((with_reducible refine' wpList_arr_eql (l := p) (m := p) (.tmp 54) (.tmp 55) 23 _ rfl ?_ Tryd.underlying23 Tryd.underlying5 sz_u8 (by kernel_rfl) ?_ ?_ P16.out P16.out ?_); exact rfl; exact rfl; exact rfl; simp only [Act.put, List.setIfInBounds_toArray, List.set_cons_succ, List.set_cons_zero]); try rw [ED.out]))
        go_ret
        exact ⟨rfl, below_drewN hb _⟩
      · have ED := Lib.hid (show decide (p = q) = false from decide_eq_false he)
        obtain rfl : L = true := HL.out.trans (FIN.out he).1
        obtain rfl : M = true := HM.out.trans (FIN.out he).2
        clear he
        go_wp2_with (first | ((with_reducible refine' wpList_loadall_blk (.tmp 2) 23 rfl ?_ Tryd.underlying23 sz_dig ?_ g3 ?_ ?_ ?_); exact rfl; exact rfl; exact PB.out; omega; simp only [Act.put, List.setIfInBounds_toArray, List.set_cons_succ, List.set_cons_zero]) | ((with_reducible refine' wpList_loadall_blk (.tmp 3) 23 rfl ?_ Tryd.underlying23 sz_dig ?_ g4 ?_ ?_ ?_); exact rfl; exact rfl; exact QB.out; omega; simp only [Act.put, List.setIfInBounds_toArray, List.set_cons_succ, List.set_cons_zero]) | (((with_reducible refine' wpList_arr_eql (l := p) (m := q) (.tmp 54) (.tmp 55) 23 _ rfl ?_ Tryd.underlying23 Tryd.underlying5 sz_u8 (by kernel_rfl) ?_ ?_ P16.out Q16.out ?_); exact rfl; exact rfl; exact rfl; simp only [Act.put, List.setIfInBounds_toArray, List.set_cons_succ, List.set_cons_zero]); try rw [ED.out]))
        go_ret
        exact ⟨rfl, below_drewN hb _⟩
end Go.Proofs.YtajglgkjpagcjaaDoor.Wi
namespace Go.Proofs.YtajglgkjpagcjaaDoor.signDigitsCross
open Go.ChangeShapes Go.WideShapes Go.ChangeAt Go.RowKit
open Go.Proofs.YtajglgkjpagcjaaDoor.Wi Go.Proofs.YtajglgkjpagcjaaDoor.Pu Go.Proofs.YtajglgkjpagcjaaDoor.Lb
set_option linter.unusedVariables false

theorem own : ownKnob Tryd.prog.godebug = none := by kernel_rfl
theorem laidOut : laidOutB Tryd.prog = true := by kernel_rfl

set_option maxRecDepth 100000 in
theorem lifted (os : Os) (started : os.Started) (H : Type) (enc : TypeId × Value → H) :
    ReturnsInHanded {} Tryd.checked os 7 .any (fun w args => (Rows.signDigitsCrossSpec.pre enc Tryd.prog Tryd.f7 [] false w args ∧ laidMetH Tryd.prog lH w) ∧ sizedMet enc Tryd.prog Tryd.f7 (OpenSpec.ofChange Rows.signDigitsCrossSpec) false w args) (Rows.signDigitsCrossSpec.post enc Tryd.prog Tryd.f7 false true false false) := by
  refine returnsInHanded_of_change_and (C := Tryd.checked) (X := fun w _ => laidMetH Tryd.prog lH w) (fun _ _ _ hh h => h.of_heap hh) own started (by kernel_rfl) Tryd.func7
    (ChangeSpec.witness_shaped (enc := enc) (C := Tryd.checked) (os := os) (X := fun w _ => laidMetH Tryd.prog lH w) false (World.doorLaid Tryd.prog 19 os) #[.agg (Array.replicate 16 (.int .u8 0)), .agg (Array.replicate 16 (.int .u8 0))] 8 rfl (World.shaped_of_RefB (by kernel_rfl) (by kernel_rfl)) (by kernel_rfl) (by kernel_rfl) (by kernel_rfl) (doorH os _)) ?_
  intro W base args ds gs before hval0 hW hcnd hk hL _
  have hT := tabH_of hL
  have hval : ∀ (j : Nat) t v, Tryd.f7.params[j]? = some t → args[j]? = some v → Value.okWide Tryd.prog W .any base t v := hval0
  have hW' := hW
  obtain ⟨p, q, hA0, hV, rfl, hfz, hnd⟩ := hW
  have hA : DataW.TrodAll enc Tryd.prog W 0 (fun _ => true) true Tryd.f7.params.toList args.toList ds p := hA0
  rw [Tryd.params7] at hA hval
  obtain ⟨v0, vs0, d0, ds0, p0, q0, hargs, rfl, rfl, h0, t0⟩ := trodAll_cons hA
  obtain ⟨v1, vs1, d1, ds1, p1, q1, rfl, rfl, rfl, h1, t1⟩ := trodAll_cons t0
  obtain ⟨rfl, rfl, rfl⟩ := trodAll_nil t1
  obtain rfl : args = #[v0, v1] := by cases args; simp_all
  obtain ⟨rfl, rfl⟩ := trodVars_none hV
  clear hA0 hval0
  have b0 : ∀ x ∈ p0, x.block < W.heap.size := by obtain ⟨m, hm⟩ := h0; exact DataW.trod_lt m _ _ _ hm
  have k0 := h0
  have b1 : ∀ x ∈ p1, x.block < W.heap.size := by obtain ⟨m, hm⟩ := h1; exact DataW.trod_lt m _ _ _ hm
  have k1 := h1
  obtain ⟨l0, rfl, g0⟩ := op_dig ⟨Tryd.underlying23, by kernel_rfl, by kernel_rfl, by kernel_rfl⟩ Tryd.underlying5 (hval 0 23 v0 rfl rfl) h0
  obtain ⟨l1, rfl, g1⟩ := op_dig ⟨Tryd.underlying23, by kernel_rfl, by kernel_rfl, by kernel_rfl⟩ Tryd.underlying5 (hval 1 23 v1 rfl rfl) h1
  have walk : Calls Tryd.prog 7 #[.agg (bv l0).toArray, .agg (bv l1).toArray] W fun e w' => e = .returned (.bool true) ∧ Below W.heap.size W w' := by
    exact digitscross_law l0 l1 W hT g0 g1
  refine walk.mono fun e W' ⟨he, bel⟩ => ?_
  subst he
  exact ⟨_, rfl, _, _, _, [], _, [], hW', trodAll_mk1 (shut_bool Tryd.underlying4 _), (trodAll_cons_mk (Below.trod laidOut (by kernel_rfl) (of_decide_eq_true (by kernel_rfl)) k0 bel b0) (trodAll_cons_mk (Below.trod laidOut (by kernel_rfl) (of_decide_eq_true (by kernel_rfl)) k1 bel b1) trodAll_mk0)), rfl, bel.frame _, fun h => by cases h⟩

theorem over : Rows.signDigitsCrossRow.holds Tryd.pinned (OpenSpec.ofChange Rows.signDigitsCrossSpec) :=
  OpenClaim.holds_of_wide 7 Tryd.f7 rfl rfl rfl rfl rfl rfl rfl ⟨rfl, rfl, rfl, rfl, rfl⟩ rfl rfl rfl rfl rfl (by kernel_rfl) Tryd.func7 (by kernel_rfl)
    (of_decide_eq_true (by kernel_rfl)) (by unfold Func.isWrapper; first | (rw [if_pos (by decide +kernel)]; kernel_rfl) | (rw [if_neg (by decide +kernel)]; exact ⟨rfl, rfl⟩))
    (fun os started H enc _ => lifted os started H enc)

theorem proved : Rows.SignDigitsCrossCardSaid :=
  Claim7.holds_tied_plain_at .later [] [.data] true (true, _) false
    over (fun _ h => by cases h) (by kernel_rfl) (fun _ h => by cases h) signDigitsCross_row_tie rfl ⟨rfl, rfl⟩ (by kernel_rfl) rfl
    (fun f fn hf hfn => by
      obtain rfl : f = 7 := Option.some.inj ((show Tryd.prog.funcNamed "scoria/scorialaw03.SignDigitsCross" = some 7 by kernel_rfl).symm.trans hf) |>.symm
      obtain rfl : fn = Tryd.f7 := (Option.some.inj (Tryd.func7.symm.trans hfn)).symm
      exact ⟨by kernel_rfl, fun j t ht => by
        rw [Tryd.params7] at ht
        have hm : t ∈ [23, 23] := by simpa using Array.mem_of_getElem? ht
        have hall : ([23, 23].all fun u => !Tryd.prog.wantsStandIn u) = true := by kernel_rfl
        exact (show Tryd.prog.wantsStandIn t = false by simpa using List.all_eq_true.1 hall t hm)⟩)
    (by kernel_rfl)
#print axioms proved
end Go.Proofs.YtajglgkjpagcjaaDoor.signDigitsCross
