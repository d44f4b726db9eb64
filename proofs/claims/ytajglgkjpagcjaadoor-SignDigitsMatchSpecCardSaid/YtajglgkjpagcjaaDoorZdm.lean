/-
  Tdm, Gdm: my texts of these names, one behind the other. Conditions: those that each law names.
-/
import Derived.Test.YtajglgkjpagcjaaDoorMk
import Derived.Test.YtajglgkjpagcjaaDoorMc
import Derived.WalkKit
import Derived.ProofKit
import Derived.OpenShut
import Derived.ShutString
import Derived.JoinedCond
import Derived.SizedLaws
import Derived.Deep.CondSized
import Derived.Test.YtajglgkjpagcjaaDoorTie
import Derived.Test.YtajglgkjpagcjaaDoorCards
import Derived.SevenTiedAt
import Derived.Stop.Joined
import Derived.LaidMore
import Derived.WideKeyPair
namespace Go.Proofs.YtajglgkjpagcjaaDoor.Wi
open Go Go.RowKit Pu Lb
set_option linter.unusedSimpArgs false
set_option linter.unusedVariables false
attribute [local irreducible] comp sched comps sha outS mac digOf
set_option maxRecDepth 100000 in
theorem digitsmatch_law (d : List UInt8) (w : World) (hT : TabH w) (hd : d.length = 16) :
    Calls Tryd.prog 3 #[.agg (bv d).toArray] w fun e w' => e = .returned (.bool true) ∧ Below w.heap.size w w' := by
  have D16 := Lib.hid hd
  have DB := Lib.hid (show (bv d).length = 16 by rw [bv_length, hd])
  obtain ⟨ds, hds⟩ : ∃ l, Hid (digs d = l) := ⟨_, Lib.hid rfl⟩
  have DL := Lib.hid (show ds.length = 68 by rw [← hds.out, digs_len hd])
  have NL := Lib.hid (show (nv ds).length = 68 by unfold nv; rw [List.length_map, DL.out])
  have D3 := Lib.hid (fun x (h : x ∈ ds) => (show x ≤ 3 by rw [← hds.out] at h; exact digs_le hd h))
  clear hd
  go_enter Tryd.func3, Tryd.ntmps3
  have hb := Below.refl w.heap.size w
  go_upto_region 7 with (first
    | (((with_reducible refine' wpList_boxa (cs := bv d) 23 (.tmp 0) rfl ?_ ?_ ?_); exact rfl; exact rfl; intro w1 hk1 hN hz1; simp only [Act.put, List.setIfInBounds_toArray, List.set_cons_succ, List.set_cons_zero]); replace hb := hb.trans ((by exact hN : Below _ _ _).mono hb.size); have hT1 := hT.below hb)
    | ((go_at_call 9; (with_reducible refine (sanity_any _ hT1).mono ?_); rintro e w' ⟨rfl, hN⟩); replace hb := hb.trans ((by exact hN : Below _ _ _).mono hb.size); (try replace hk1 := Blk.below hk1 hN (Blk.lt hk1)))
    | ((with_reducible refine' wpList_loadall_blk (.tmp 1) 23 rfl ?_ Tryd.underlying23 sz_dig ?_ hk1 ?_ ?_ ?_); exact rfl; exact rfl; exact DB.out; omega; simp only [Act.put, List.setIfInBounds_toArray, List.set_cons_succ, List.set_cons_zero])
    | ((go_at_call 10; (with_reducible refine (digits_any d _ D16.out).mono ?_); rintro e w' ⟨BD, rfl, kD, hN⟩); rw [hds.out] at kD; replace hb := hb.trans ((by exact hN : Below _ _ _).mono hb.size); (try replace hk1 := Blk.below hk1 hN (Blk.lt hk1)); have hr1 := kD.rd 0 68 68 1 (by rw [NL.out]; exact Nat.le_refl _) (by decide) (by unfold maxLen; decide))
    | ((go_at_call 11; (with_reducible refine (refdigits_any d _ D16.out).mono ?_); rintro e w' ⟨v2, rfl, hr2, hN⟩); rw [hds.out] at hr2; replace hb := hb.trans ((by exact hN : Below _ _ _).mono hb.size); (try replace hr1 := Rd.below hr1 hN))
    | ((with_reducible refine' wpList_len_rd (.tmp 12) 25 rfl ?_ Tryd.underlying25 ?_ hr1 ?_); exact rfl; exact rfl; simp only [Act.put, List.setIfInBounds_toArray, List.set_cons_succ, List.set_cons_zero]) | ((with_reducible refine' wpList_len_rd (.tmp 14) 25 rfl ?_ Tryd.underlying25 ?_ hr2 ?_); exact rfl; exact rfl; simp only [Act.put, List.setIfInBounds_toArray, List.set_cons_succ, List.set_cons_zero]))
  have HZZ : (((nv ds).drop 0).take (68 * 1)) = nv ds := by rw [List.drop_zero, List.take_of_length_le (by rw [NL.out]; exact Nat.le_refl _)]
  rw [HZZ] at hr1
  clear HZZ kD hT1 hT hk1
  obtain ⟨ws, rfl⟩ : ∃ ws : World, ws = w' := ⟨_, rfl⟩
  obtain ⟨sl, hsl⟩ : ∃ s, s = Value.slice (some ⟨BD, 0, none⟩) 68 68 := ⟨_, rfl⟩
  rw [← hsl] at hr1 ⊢
  clear hsl
  go_loopw [6] (fun i wr => ∃ k : Nat, k ≤ 68 ∧ i = .int .i64 k ∧ ∃ nq, wr = ws.drewN nq) (fun i _ => 68 - (intOf i).toNat)
  case atStart => exact ⟨0, Nat.zero_le _, rfl, 0, rfl⟩
  case round =>
    obtain ⟨k, hk, rfl, nq0, rfl⟩ := hrel
    have g1 := hr1.drewN nq0
    have g2 := hr2.drewN nq0
    by_cases hlt : k < 68
    · obtain ⟨x, hx⟩ : ∃ x, ds[k]? = some x := ⟨_, List.getElem?_eq_getElem (by rw [DL.out]; exact hlt)⟩
      have X3 := D3.out x (List.mem_of_getElem? hx)
      have C := Lib.hid (nv_at hx)
      have XB := Lib.hid (show ((x : Int) != (x : Int)) = false by simp)
      have X0 := Lib.hid (show decide ((x : Int) < 0) = false by rw [decide_eq_false_iff_not]; omega)
      have XG := Lib.hid (show decide ((x : Int) > 3) = false by rw [decide_eq_false_iff_not]; omega)
      have XL := Lib.hid (show decide (3 < (x : Int)) = false by rw [decide_eq_false_iff_not]; omega)
      clear hx
      go_wp2_with (first | ((with_reducible refine' wpList_len_rd (.tmp 18) 25 rfl ?_ Tryd.underlying25 ?_ hr1 ?_); exact rfl; exact rfl; simp only [Act.put, List.setIfInBounds_toArray, List.set_cons_succ, List.set_cons_zero]) | (refine wp_region_quiet_lit (by kernel_rfl) (by kernel_rfl) ?_; (repeat (first | (rw [XB.out]) | (rw [X0.out]) | (rw [XL.out]) | (rw [XG.out]) | ((with_reducible refine' wpQuiet_at1_rd (.tmp 23) (.tmp 24) 25 rfl ?_ Tryd.underlying25 sz_int ?_ g1 (k) ?_ ?_ ?_); exact rfl; exact rfl; (show (_ : Int) = _; omega); omega; simp only [Act.put, List.setIfInBounds_toArray, List.set_cons_succ, List.set_cons_zero]) | ((with_reducible refine' wpQuiet_load_rd (fun _ h => h) (.tmp 25) 3 rfl ?_ ld_int ?_ g1 (C.out) ?_); exact rfl; exact rfl; simp only [Act.put, List.setIfInBounds_toArray, List.set_cons_succ, List.set_cons_zero]) | ((with_reducible refine' wpQuiet_at1_rd (.tmp 27) (.tmp 28) 25 rfl ?_ Tryd.underlying25 sz_int ?_ g2 (k) ?_ ?_ ?_); exact rfl; exact rfl; (show (_ : Int) = _; omega); omega; simp only [Act.put, List.setIfInBounds_toArray, List.set_cons_succ, List.set_cons_zero]) | ((with_reducible refine' wpQuiet_load_rd (fun _ h => h) (.tmp 29) 3 rfl ?_ ld_int ?_ g2 (C.out) ?_); exact rfl; exact rfl; simp only [Act.put, List.setIfInBounds_toArray, List.set_cons_succ, List.set_cons_zero]) | ((with_reducible refine' wpQuiet_at1_rd (.tmp 33) (.tmp 34) 25 rfl ?_ Tryd.underlying25 sz_int ?_ g1 (k) ?_ ?_ ?_); exact rfl; exact rfl; (show (_ : Int) = _; omega); omega; simp only [Act.put, List.setIfInBounds_toArray, List.set_cons_succ, List.set_cons_zero]) | ((with_reducible refine' wpQuiet_load_rd (fun _ h => h) (.tmp 35) 3 rfl ?_ ld_int ?_ g1 (C.out) ?_); exact rfl; exact rfl; simp only [Act.put, List.setIfInBounds_toArray, List.set_cons_succ, List.set_cons_zero]) | ((with_reducible refine' wpQuiet_at1_rd (.tmp 40) (.tmp 41) 25 rfl ?_ Tryd.underlying25 sz_int ?_ g1 (k) ?_ ?_ ?_); exact rfl; exact rfl; (show (_ : Int) = _; omega); omega; simp only [Act.put, List.setIfInBounds_toArray, List.set_cons_succ, List.set_cons_zero]) | ((with_reducible refine' wpQuiet_load_rd (fun _ h => h) (.tmp 42) 3 rfl ?_ ld_int ?_ g1 (C.out) ?_); exact rfl; exact rfl; simp only [Act.put, List.setIfInBounds_toArray, List.set_cons_succ, List.set_cons_zero]) | go_big_quiet_step (fail))); refine wpQuiet_nil ?_; intro _ hw'; obtain ⟨nq, hw''⟩ := hw'; subst hw''))
      go_roundw
      case rel => exact ⟨k + 1, by omega, by go_num, nq0 + nq, by first | rfl | rw [World.drewN_drewN]⟩
      case measure => simp [intOf]; omega
    · obtain rfl : k = 68 := by omega
      go_wp2_with (first | ((with_reducible refine' wpList_len_rd (.tmp 18) 25 rfl ?_ Tryd.underlying25 ?_ hr1 ?_); exact rfl; exact rfl; simp only [Act.put, List.setIfInBounds_toArray, List.set_cons_succ, List.set_cons_zero]))
      go_ret
      exact ⟨rfl, below_drewN hb _⟩
end Go.Proofs.YtajglgkjpagcjaaDoor.Wi
namespace Go.Proofs.YtajglgkjpagcjaaDoor.signDigitsMatchSpec
open Go.ChangeShapes Go.WideShapes Go.ChangeAt Go.RowKit
open Go.Proofs.YtajglgkjpagcjaaDoor.Wi Go.Proofs.YtajglgkjpagcjaaDoor.Pu Go.Proofs.YtajglgkjpagcjaaDoor.Lb
set_option linter.unusedVariables false

theorem own : ownKnob Tryd.prog.godebug = none := by kernel_rfl
theorem laidOut : laidOutB Tryd.prog = true := by kernel_rfl

set_option maxRecDepth 100000 in
theorem lifted (os : Os) (started : os.Started) (H : Type) (enc : TypeId × Value → H) :
    ReturnsInHanded {} Tryd.checked os 3 .any (fun w args => (Rows.signDigitsMatchSpecSpec.pre enc Tryd.prog Tryd.f3 [] false w args ∧ laidMetH Tryd.prog lH w) ∧ sizedMet enc Tryd.prog Tryd.f3 (OpenSpec.ofChange Rows.signDigitsMatchSpecSpec) false w args) (Rows.signDigitsMatchSpecSpec.post enc Tryd.prog Tryd.f3 false true false false) := by
  refine returnsInHanded_of_change_and (C := Tryd.checked) (X := fun w _ => laidMetH Tryd.prog lH w) (fun _ _ _ hh h => h.of_heap hh) own started (by kernel_rfl) Tryd.func3
    (ChangeSpec.witness_shaped (enc := enc) (C := Tryd.checked) (os := os) (X := fun w _ => laidMetH Tryd.prog lH w) false (World.doorLaid Tryd.prog 19 os) #[.agg (Array.replicate 16 (.int .u8 0))] 8 rfl (World.shaped_of_RefB (by kernel_rfl) (by kernel_rfl)) (by kernel_rfl) (by kernel_rfl) (by kernel_rfl) (doorH os _)) ?_
  intro W base args ds gs before hval0 hW hcnd hk hL _
  have hT := tabH_of hL
  have hval : ∀ (j : Nat) t v, Tryd.f3.params[j]? = some t → args[j]? = some v → Value.okWide Tryd.prog W .any base t v := hval0
  have hW' := hW
  obtain ⟨p, q, hA0, hV, rfl, hfz, hnd⟩ := hW
  have hA : DataW.TrodAll enc Tryd.prog W 0 (fun _ => true) true Tryd.f3.params.toList args.toList ds p := hA0
  rw [Tryd.params3] at hA hval
  obtain ⟨v0, vs0, d0, ds0, p0, q0, hargs, rfl, rfl, h0, t0⟩ := trodAll_cons hA
  obtain ⟨rfl, rfl, rfl⟩ := trodAll_nil t0
  obtain rfl : args = #[v0] := by cases args; simp_all
  obtain ⟨rfl, rfl⟩ := trodVars_none hV
  clear hA0 hval0
  have b0 : ∀ x ∈ p0, x.block < W.heap.size := by obtain ⟨m, hm⟩ := h0; exact DataW.trod_lt m _ _ _ hm
  have k0 := h0
  obtain ⟨l0, rfl, g0⟩ := op_dig ⟨Tryd.underlying23, by kernel_rfl, by kernel_rfl, by kernel_rfl⟩ Tryd.underlying5 (hval 0 23 v0 rfl rfl) h0
  have walk : Calls Tryd.prog 3 #[.agg (bv l0).toArray] W fun e w' => e = .returned (.bool true) ∧ Below W.heap.size W w' := by
    exact digitsmatch_law l0 W hT g0
  refine walk.mono fun e W' ⟨he, bel⟩ => ?_
  subst he
  exact ⟨_, rfl, _, _, _, [], _, [], hW', trodAll_mk1 (shut_bool Tryd.underlying4 _), (trodAll_cons_mk (Below.trod laidOut (by kernel_rfl) (of_decide_eq_true (by kernel_rfl)) k0 bel b0) trodAll_mk0), rfl, bel.frame _, fun h => by cases h⟩

theorem over : Rows.signDigitsMatchSpecRow.holds Tryd.pinned (OpenSpec.ofChange Rows.signDigitsMatchSpecSpec) :=
  OpenClaim.holds_of_wide 3 Tryd.f3 rfl rfl rfl rfl rfl rfl rfl ⟨rfl, rfl, rfl, rfl, rfl⟩ rfl rfl rfl rfl rfl (by kernel_rfl) Tryd.func3 (by kernel_rfl)
    (of_decide_eq_true (by kernel_rfl)) (by unfold Func.isWrapper; first | (rw [if_pos (by decide +kernel)]; kernel_rfl) | (rw [if_neg (by decide +kernel)]; exact ⟨rfl, rfl⟩))
    (fun os started H enc _ => lifted os started H enc)

theorem proved : Rows.SignDigitsMatchSpecCardSaid :=
  Claim7.holds_tied_plain_at .later [] [.data] true (true, _) false
    over (fun _ h => by cases h) (by kernel_rfl) (fun _ h => by cases h) signDigitsMatchSpec_row_tie rfl ⟨rfl, rfl⟩ (by kernel_rfl) rfl
    (fun f fn hf hfn => by
      obtain rfl : f = 3 := Option.some.inj ((show Tryd.prog.funcNamed "scoria/scorialaw03.SignDigitsMatchSpec" = some 3 by kernel_rfl).symm.trans hf) |>.symm
      obtain rfl : fn = Tryd.f3 := (Option.some.inj (Tryd.func3.symm.trans hfn)).symm
      exact ⟨by kernel_rfl, fun j t ht => by
        rw [Tryd.params3] at ht
        have hm : t ∈ [23] := by simpa using Array.mem_of_getElem? ht
        have hall : ([23].all fun u => !Tryd.prog.wantsStandIn u) = true := by kernel_rfl
        exact (show Tryd.prog.wantsStandIn t = false by simpa using List.all_eq_true.1 hall t hm)⟩)
    (by kernel_rfl)
#print axioms proved
end Go.Proofs.YtajglgkjpagcjaaDoor.signDigitsMatchSpec
