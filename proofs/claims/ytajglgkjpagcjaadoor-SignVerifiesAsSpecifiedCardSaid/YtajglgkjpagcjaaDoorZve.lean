/-
  Tve, Gve: my texts of these names, one behind the other. Conditions: those that each law names.
-/
import Derived.Test.YtajglgkjpagcjaaDoorMk
import Derived.Test.YtajglgkjpagcjaaDoorMc
import Derived.WalkKit
import Derived.ProofKit
import Derived.OpenShut
import Derived.ShutString
import Derived.JoinedCond
import Derived.SizedLaws
import Derived.Deep.CondSized
import Derived.Test.YtajglgkjpagcjaaDoorTie
import Derived.Test.YtajglgkjpagcjaaDoorCards
import Derived.SevenTiedAt
import Derived.Stop.Joined
import Derived.LaidMore
import Derived.WideKeyPair
namespace Go.Proofs.YtajglgkjpagcjaaDoor.Wi
open Go Go.RowKit Pu Lb
set_option linter.unusedSimpArgs false
set_option linter.unusedVariables false
attribute [local irreducible] comp sched comps sha outS mac digOf digs verV
set_option maxRecDepth 100000 in
set_option maxHeartbeats 3200000 in
theorem verifies_law (p m g : List UInt8) (h : Int) (w : World) (hT : TabH w) (hR : TabR w) (hp : p.length = 16) :
    Calls Tryd.prog 5 #[.agg (bv p).toArray, .int .i64 h, .string ⟨m.toArray⟩, .string ⟨g.toArray⟩] w fun e w' => e = .returned (.bool true) ∧ Below w.heap.size w w' := by
  have hsm := size_str m
  have hsg := size_str g
  have P16 := Lib.hid hp
  have PB := Lib.hid (show (bv p).length = 16 by rw [bv_length, hp])
  obtain ⟨z, e, hV⟩ : ∃ z e, verV p h m g = (z, e) := ⟨_, _, rfl⟩
  have E1 := Lib.hid (show RZ (verV p h m g) = .tuple #[.int .i64 z, .int .i64 (e : Int)] by rw [hV]; rfl)
  have ZB := Lib.hid (show (z == z) = true by simp)
  have EB := Lib.hid (show ((e : Int) == (e : Int)) = true by simp)
  clear hV hp
  go_enter Tryd.func5, Tryd.ntmps5
  have hb := Below.refl w.heap.size w
  go_upto_region 1 with (((with_reducible refine' wpList_boxa (cs := bv p) 23 (.tmp 0) rfl ?_ ?_ ?_); exact rfl; exact rfl; intro w1 hk4 hN hz1; simp only [Act.put, List.setIfInBounds_toArray, List.set_cons_succ, List.set_cons_zero]); replace hb := hb.trans ((by exact hN : Below _ _ _).mono hb.size))
  have hT1 := hT.below hb
  go_upto_region 2 with ((go_at_call 9; (with_reducible refine (sanity_any _ hT1).mono ?_); rintro e w' ⟨rfl, hN⟩); replace hb := hb.trans ((by exact hN : Below _ _ _).mono hb.size); (try replace hk4 := Blk.below hk4 hN (Blk.lt hk4)))
  clear hT1 hz1
  by_cases hm : 200 < m.length
  · go_wp2_with fail
    go_ret
    exact ⟨rfl, hb⟩
  by_cases hg : 1400 < g.length
  · go_wp2_with fail
    go_ret
    exact ⟨rfl, hb⟩
  have L1 := Lib.hid (show decide (200 < (m.length : Int)) = false by rw [decide_eq_false_iff_not]; omega)
  have L2 := Lib.hid (show decide (1400 < (g.length : Int)) = false by rw [decide_eq_false_iff_not]; omega)
  have M6 := Lib.hid (show m.length ≤ 140737488355328 by omega)
  have G6 := Lib.hid (show g.length ≤ 1000000 by omega)
  go_upto_region 4 with (first | (rw [L1.out]) | (rw [L2.out]))
  clear hm hg hsm hsg
  have hT1 := hT.below hb
  go_upto_region 5 with (first
    | ((with_reducible refine' wpList_loadall_blk (.tmp 4) 23 rfl ?_ Tryd.underlying23 sz_dig ?_ hk4 ?_ ?_ ?_); exact rfl; exact rfl; exact PB.out; omega; simp only [Act.put, List.setIfInBounds_toArray, List.set_cons_succ, List.set_cons_zero])
    | ((go_at_call 18; (with_reducible refine (verify_any p m g h _ hT1 P16.out M6.out G6.out).mono ?_); rintro e w' ⟨rfl, hN⟩); rw [E1.out]; replace hb := hb.trans ((by exact hN : Below _ _ _).mono hb.size); (try replace hk4 := Blk.below hk4 hN (Blk.lt hk4))))
  clear hT1
  have hT1 := hR.below hb
  go_upto_region 6 with (first
    | ((with_reducible refine' wpList_loadall_blk (.tmp 4) 23 rfl ?_ Tryd.underlying23 sz_dig ?_ hk4 ?_ ?_ ?_); exact rfl; exact rfl; exact PB.out; omega; simp only [Act.put, List.setIfInBounds_toArray, List.set_cons_succ, List.set_cons_zero])
    | ((go_at_call 19; (with_reducible refine (refverify_any p m g h _ hT1 P16.out M6.out G6.out).mono ?_); rintro e w' ⟨rfl, hN⟩); rw [E1.out]; replace hb := hb.trans ((by exact hN : Below _ _ _).mono hb.size); (try replace hk4 := Blk.below hk4 hN (Blk.lt hk4))))
  go_wp2_with (first | (rw [ZB.out]) | (rw [EB.out]))
  go_ret
  exact ⟨rfl, hb⟩
end Go.Proofs.YtajglgkjpagcjaaDoor.Wi
namespace Go.Proofs.YtajglgkjpagcjaaDoor.signVerifiesAsSpecified
open Go.ChangeShapes Go.WideShapes Go.ChangeAt Go.RowKit
open Go.Proofs.YtajglgkjpagcjaaDoor.Wi Go.Proofs.YtajglgkjpagcjaaDoor.Pu Go.Proofs.YtajglgkjpagcjaaDoor.Lb
set_option linter.unusedVariables false

theorem own : ownKnob Tryd.prog.godebug = none := by kernel_rfl
theorem laidOut : laidOutB Tryd.prog = true := by kernel_rfl

set_option maxRecDepth 100000 in
theorem lifted (os : Os) (started : os.Started) (H : Type) (enc : TypeId × Value → H) :
    ReturnsInHanded {} Tryd.checked os 5 .any (fun w args => (Rows.signVerifiesAsSpecifiedSpec.pre enc Tryd.prog Tryd.f5 [] false w args ∧ laidMetH Tryd.prog lRH w) ∧ sizedMet enc Tryd.prog Tryd.f5 (OpenSpec.ofChange Rows.signVerifiesAsSpecifiedSpec) false w args) (Rows.signVerifiesAsSpecifiedSpec.post enc Tryd.prog Tryd.f5 false true false false) := by
  refine returnsInHanded_of_change_and (C := Tryd.checked) (X := fun w _ => laidMetH Tryd.prog lRH w) (fun _ _ _ hh h => h.of_heap hh) own started (by kernel_rfl) Tryd.func5
    (ChangeSpec.witness_shaped (enc := enc) (C := Tryd.checked) (os := os) (X := fun w _ => laidMetH Tryd.prog lRH w) false (World.doorLaid Tryd.prog 19 os) #[.agg (Array.replicate 16 (.int .u8 0)), .int .i64 0, .string ByteArray.empty, .string ByteArray.empty] 8 rfl (World.shaped_of_RefB (by kernel_rfl) (by kernel_rfl)) (by kernel_rfl) (by kernel_rfl) (by kernel_rfl) (doorRH os _)) ?_
  intro W base args ds gs before hval0 hW hcnd hk hL _
  have hT := tabs_of hL
  have hval : ∀ (j : Nat) t v, Tryd.f5.params[j]? = some t → args[j]? = some v → Value.okWide Tryd.prog W .any base t v := hval0
  have hW' := hW
  obtain ⟨p, q, hA0, hV, rfl, hfz, hnd⟩ := hW
  have hA : DataW.TrodAll enc Tryd.prog W 0 (fun _ => true) true Tryd.f5.params.toList args.toList ds p := hA0
  rw [Tryd.params5] at hA hval
  obtain ⟨v0, vs0, d0, ds0, p0, q0, hargs, rfl, rfl, h0, t0⟩ := trodAll_cons hA
  obtain ⟨v1, vs1, d1, ds1, p1, q1, rfl, rfl, rfl, h1, t1⟩ := trodAll_cons t0
  obtain ⟨v2, vs2, d2, ds2, p2, q2, rfl, rfl, rfl, h2, t2⟩ := trodAll_cons t1
  obtain ⟨v3, vs3, d3, ds3, p3, q3, rfl, rfl, rfl, h3, t3⟩ := trodAll_cons t2
  obtain ⟨rfl, rfl, rfl⟩ := trodAll_nil t3
  obtain rfl : args = #[v0, v1, v2, v3] := by cases args; simp_all
  obtain ⟨rfl, rfl⟩ := trodVars_none hV
  clear hA0 hval0
  have b0 : ∀ x ∈ p0, x.block < W.heap.size := by obtain ⟨m, hm⟩ := h0; exact DataW.trod_lt m _ _ _ hm
  have k0 := h0
  have b1 : ∀ x ∈ p1, x.block < W.heap.size := by obtain ⟨m, hm⟩ := h1; exact DataW.trod_lt m _ _ _ hm
  have k1 := h1
  have b2 : ∀ x ∈ p2, x.block < W.heap.size := by obtain ⟨m, hm⟩ := h2; exact DataW.trod_lt m _ _ _ hm
  have k2 := h2
  have b3 : ∀ x ∈ p3, x.block < W.heap.size := by obtain ⟨m, hm⟩ := h3; exact DataW.trod_lt m _ _ _ hm
  have k3 := h3
  obtain ⟨l0, rfl, g0⟩ := op_dig ⟨Tryd.underlying23, by kernel_rfl, by kernel_rfl, by kernel_rfl⟩ Tryd.underlying5 (hval 0 23 v0 rfl rfl) h0
  obtain ⟨z1, rfl, wf1⟩ := op_int Tryd.underlying3 (hval 1 3 v1 rfl rfl) h1
  obtain ⟨s2, rfl, m2, rfl⟩ := op_str Tryd.underlying9 (hval 2 9 v2 rfl rfl) h2
  have n2 := sized_str hk (j := 2) rfl rfl
  obtain ⟨s3, rfl, m3, rfl⟩ := op_str Tryd.underlying9 (hval 3 9 v3 rfl rfl) h3
  have n3 := sized_str hk (j := 3) rfl rfl
  have walk : Calls Tryd.prog 5 #[.agg (bv l0).toArray, .int .i64 z1, .string ⟨s2.toArray⟩, .string ⟨s3.toArray⟩] W fun e w' => e = .returned (.bool true) ∧ Below W.heap.size W w' := by
    exact verifies_law l0 s2 s3 z1 W hT.2 hT.1 g0
  refine walk.mono fun e W' ⟨he, bel⟩ => ?_
  subst he
  exact ⟨_, rfl, _, _, _, [], _, [], hW', trodAll_mk1 (shut_bool Tryd.underlying4 _), (trodAll_cons_mk (Below.trod laidOut (by kernel_rfl) (of_decide_eq_true (by kernel_rfl)) k0 bel b0) (trodAll_cons_mk (Below.trod laidOut (by kernel_rfl) (of_decide_eq_true (by kernel_rfl)) k1 bel b1) (trodAll_cons_mk (Below.trod laidOut (by kernel_rfl) (of_decide_eq_true (by kernel_rfl)) k2 bel b2) (trodAll_cons_mk (Below.trod laidOut (by kernel_rfl) (of_decide_eq_true (by kernel_rfl)) k3 bel b3) trodAll_mk0)))), rfl, bel.frame _, fun h => by cases h⟩

theorem over : Rows.signVerifiesAsSpecifiedRow.holds Tryd.pinned (OpenSpec.ofChange Rows.signVerifiesAsSpecifiedSpec) :=
  OpenClaim.holds_of_wide 5 Tryd.f5 rfl rfl rfl rfl rfl rfl rfl ⟨rfl, rfl, rfl, rfl, rfl⟩ rfl rfl rfl rfl rfl (by kernel_rfl) Tryd.func5 (by kernel_rfl)
    (of_decide_eq_true (by kernel_rfl)) (by unfold Func.isWrapper; first | (rw [if_pos (by decide +kernel)]; kernel_rfl) | (rw [if_neg (by decide +kernel)]; exact ⟨rfl, rfl⟩))
    (fun os started H enc _ => lifted os started H enc)

theorem proved : Rows.SignVerifiesAsSpecifiedCardSaid :=
  Claim7.holds_tied_plain_at .later [] [.data, .data] true (true, _) false
    over (fun _ h => by cases h) (by kernel_rfl) (fun _ h => by cases h) signVerifiesAsSpecified_row_tie rfl ⟨rfl, rfl⟩ (by kernel_rfl) rfl
    (fun f fn hf hfn => by
      obtain rfl : f = 5 := Option.some.inj ((show Tryd.prog.funcNamed "scoria/scorialaw03.SignVerifiesAsSpecified" = some 5 by kernel_rfl).symm.trans hf) |>.symm
      obtain rfl : fn = Tryd.f5 := (Option.some.inj (Tryd.func5.symm.trans hfn)).symm
      exact ⟨by kernel_rfl, fun j t ht => by
        rw [Tryd.params5] at ht
        have hm : t ∈ [23, 3, 9, 9] := by simpa using Array.mem_of_getElem? ht
        have hall : ([23, 3, 9, 9].all fun u => !Tryd.prog.wantsStandIn u) = true := by kernel_rfl
        exact (show Tryd.prog.wantsStandIn t = false by simpa using List.all_eq_true.1 hall t hm)⟩)
    (by kernel_rfl)
#print axioms proved
end Go.Proofs.YtajglgkjpagcjaaDoor.signVerifiesAsSpecified
