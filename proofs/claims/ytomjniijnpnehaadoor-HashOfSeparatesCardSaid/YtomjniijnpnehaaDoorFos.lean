/-
  The row of the law HashOfSeparates: its statement is proved. Conditions: none.
-/
import Derived.Test.YtomjniijnpnehaaDoorLos
import Derived.Test.YtomjniijnpnehaaDoorLay
import Derived.WalkKit
import Derived.ProofKit
import Derived.OpenShut
import Derived.ShutString
import Derived.JoinedCond
import Derived.SizedLaws
import Derived.Deep.CondSized
import Derived.Test.YtomjniijnpnehaaDoorTie
import Derived.Test.YtomjniijnpnehaaDoorCards
import Derived.SevenTiedAt
import Derived.Stop.Joined
import Derived.LaidMore
import Derived.WideKeyPair
namespace Go.Proofs.YtomjniijnpnehaaDoor.hashOfSeparates
open Go.ChangeShapes Go.WideShapes Go.ChangeAt Go.RowKit
open Go.Proofs.YtomjniijnpnehaaDoor.Wi Go.Proofs.YtomjniijnpnehaaDoor.Pu Go.Proofs.YtomjniijnpnehaaDoor.Lb
set_option linter.unusedVariables false

theorem own : ownKnob Tryd.prog.godebug = none := by kernel_rfl
theorem laidOut : laidOutB Tryd.prog = true := by kernel_rfl

set_option maxRecDepth 100000 in
theorem lifted (os : Os) (started : os.Started) (H : Type) (enc : TypeId × Value → H) :
    ReturnsInHanded {} Tryd.checked os 8 .any (fun w args => (Rows.hashOfSeparatesSpec.pre enc Tryd.prog Tryd.f8 [] false w args ∧ laidMetH Tryd.prog lH w) ∧ sizedMet enc Tryd.prog Tryd.f8 (OpenSpec.ofChange Rows.hashOfSeparatesSpec) false w args) (Rows.hashOfSeparatesSpec.post enc Tryd.prog Tryd.f8 false true false false) := by
  refine returnsInHanded_of_change_and (C := Tryd.checked) (X := fun w _ => laidMetH Tryd.prog lH w) (fun _ _ _ hh h => h.of_heap hh) own started (by kernel_rfl) Tryd.func8
    (ChangeSpec.witness_shaped (enc := enc) (C := Tryd.checked) (os := os) (X := fun w _ => laidMetH Tryd.prog lH w) false (World.doorLaid Tryd.prog 19 os) #[.agg #[.int .u8 0, .int .u8 0], .slice none 0 0, .slice none 0 0] 8 rfl (World.shaped_of_RefB (by kernel_rfl) (by kernel_rfl)) (by kernel_rfl) (by kernel_rfl) (by kernel_rfl) (doorH os _)) ?_
  intro W base args ds gs before hval0 hW hcnd hk hL _
  have hT := tabH_of hL
  have hval : ∀ (j : Nat) t v, Tryd.f8.params[j]? = some t → args[j]? = some v → Value.okWide Tryd.prog W .any base t v := hval0
  have hW' := hW
  obtain ⟨p, q, hA0, hV, rfl, hfz, hnd⟩ := hW
  have hA : DataW.TrodAll enc Tryd.prog W 0 (fun _ => true) true Tryd.f8.params.toList args.toList ds p := hA0
  rw [Tryd.params8] at hA hval
  obtain ⟨v0, vs0, d0, ds0, p0, q0, hargs, rfl, rfl, h0, t0⟩ := trodAll_cons hA
  obtain ⟨v1, vs1, d1, ds1, p1, q1, rfl, rfl, rfl, h1, t1⟩ := trodAll_cons t0
  obtain ⟨v2, vs2, d2, ds2, p2, q2, rfl, rfl, rfl, h2, t2⟩ := trodAll_cons t1
  obtain ⟨rfl, rfl, rfl⟩ := trodAll_nil t2
  obtain rfl : args = #[v0, v1, v2] := by cases args; simp_all
  obtain ⟨rfl, rfl⟩ := trodVars_none hV
  clear hA0 hval0
  have b0 : ∀ x ∈ p0, x.block < W.heap.size := by obtain ⟨m, hm⟩ := h0; exact DataW.trod_lt m _ _ _ hm
  have k0 := h0
  have b1 : ∀ x ∈ p1, x.block < W.heap.size := by obtain ⟨m, hm⟩ := h1; exact DataW.trod_lt m _ _ _ hm
  have k1 := h1
  have b2 : ∀ x ∈ p2, x.block < W.heap.size := by obtain ⟨m, hm⟩ := h2; exact DataW.trod_lt m _ _ _ hm
  have k2 := h2
  obtain ⟨za0, zb0, rfl, rfl, rfl, wa0, wb0⟩ := Go.WideMaps.open_pair ⟨Tryd.underlying48, by kernel_rfl, by kernel_rfl, by kernel_rfl⟩ Tryd.underlying5 (hval 0 48 v0 rfl rfl) h0
  obtain ⟨l1, m1, r1, e1⟩ := op_strs Tryd.underlying27 Tryd.underlying9 (by kernel_rfl) (hval 1 27 v1 rfl rfl) h1
  have n1 := sized_elems hk (j := 1) rfl rfl Tryd.underlying27 e1.len (b := 16) (by kernel_rfl)
  have x1 := sized_strs hk (j := 1) rfl rfl Tryd.underlying27 e1
  obtain ⟨l2, m2, r2, e2⟩ := op_strs Tryd.underlying27 Tryd.underlying9 (by kernel_rfl) (hval 2 27 v2 rfl rfl) h2
  have n2 := sized_elems hk (j := 2) rfl rfl Tryd.underlying27 e2.len (b := 16) (by kernel_rfl)
  have x2 := sized_strs hk (j := 2) rfl rfl Tryd.underlying27 e2
  have walk : Calls Tryd.prog 8 #[.agg #[.int .u8 za0, .int .u8 zb0], v1, v2] W fun e w' => e = .returned (.bool true) ∧ Below W.heap.size W w' := by
    have ha := wf_u8 wa0
    have hb := wf_u8 wb0
    have e1 : za0 = ((bt za0).toNat : Int) := by rw [bt_toNat]; omega
    have e2 : zb0 = ((bt zb0).toNat : Int) := by rw [bt_toNat]; omega
    rw [e1, e2]
    exact law_sep_any (bt za0) (bt zb0) v1 v2 l1 l2 W hT r1 r2 x1 x2
  refine walk.mono fun e W' ⟨he, bel⟩ => ?_
  subst he
  exact ⟨_, rfl, _, _, _, [], _, [], hW', trodAll_mk1 (shut_bool Tryd.underlying4 _), (trodAll_cons_mk (Below.trod laidOut (by kernel_rfl) (of_decide_eq_true (by kernel_rfl)) k0 bel b0) (trodAll_cons_mk (Below.trod laidOut (by kernel_rfl) (of_decide_eq_true (by kernel_rfl)) k1 bel b1) (trodAll_cons_mk (Below.trod laidOut (by kernel_rfl) (of_decide_eq_true (by kernel_rfl)) k2 bel b2) trodAll_mk0))), rfl, bel.frame _, fun h => by cases h⟩

theorem over : Rows.hashOfSeparatesRow.holds Tryd.pinned (OpenSpec.ofChange Rows.hashOfSeparatesSpec) :=
  OpenClaim.holds_of_wide 8 Tryd.f8 rfl rfl rfl rfl rfl rfl rfl ⟨rfl, rfl, rfl, rfl, rfl⟩ rfl rfl rfl rfl rfl (by kernel_rfl) Tryd.func8 (by kernel_rfl)
    (of_decide_eq_true (by kernel_rfl)) (by unfold Func.isWrapper; first | (rw [if_pos (by decide +kernel)]; kernel_rfl) | (rw [if_neg (by decide +kernel)]; exact ⟨rfl, rfl⟩))
    (fun os started H enc _ => lifted os started H enc)

theorem proved : Rows.HashOfSeparatesCardSaid :=
  Claim7.holds_tied_plain_at .later [] [.data] true (true, _) false
    over (fun _ h => by cases h) (by kernel_rfl) (fun _ h => by cases h) hashOfSeparates_row_tie rfl ⟨rfl, rfl⟩ (by kernel_rfl) rfl
    (fun f fn hf hfn => by
      obtain rfl : f = 8 := Option.some.inj ((show Tryd.prog.funcNamed "scoria/scorialaw02.HashOfSeparates" = some 8 by kernel_rfl).symm.trans hf) |>.symm
      obtain rfl : fn = Tryd.f8 := (Option.some.inj (Tryd.func8.symm.trans hfn)).symm
      exact ⟨by kernel_rfl, fun j t ht => by
        rw [Tryd.params8] at ht
        have hm : t ∈ [48, 27, 27] := by simpa using Array.mem_of_getElem? ht
        have hall : ([48, 27, 27].all fun u => !Tryd.prog.wantsStandIn u) = true := by kernel_rfl
        exact (show Tryd.prog.wantsStandIn t = false by simpa using List.all_eq_true.1 hall t hm)⟩)
    (by kernel_rfl)
#print axioms proved
end Go.Proofs.YtomjniijnpnehaaDoor.hashOfSeparates
