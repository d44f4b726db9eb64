/-
  Tby, Gtby: my texts of these names, one behind the other. Conditions: those that each law names.
-/
import Derived.Test.YtdlhkhnoigbhjaaDoorMm
import Derived.Test.YtdlhkhnoigbhjaaDoorMi
import Derived.Test.YtdlhkhnoigbhjaaDoorMe
import Derived.Test.YtdlhkhnoigbhjaaDoorMd
import Derived.Test.YtdlhkhnoigbhjaaDoorMk
import Derived.Test.YtdlhkhnoigbhjaaDoorMh
import Derived.Test.YtdlhkhnoigbhjaaDoorMa
import Derived.WalkKit
import Derived.ProofKit
import Derived.OpenShut
import Derived.ShutString
import Derived.JoinedCond
import Derived.SizedLaws
import Derived.Deep.CondSized
import Derived.Test.YtdlhkhnoigbhjaaDoorTie
import Derived.Test.YtdlhkhnoigbhjaaDoorCards
import Derived.SevenTiedAt
import Derived.Stop.Joined
import Derived.LaidMore
import Derived.WideKeyPair
namespace Go.Proofs.YtdlhkhnoigbhjaaDoor.Pu
/-- what Decode answers, failed or not -/
def dT (o : Option (Tree × Nat)) : Tree := match o with | none => .mk 0 0 0 [] | some (t, _) => t
def dU (o : Option (Tree × Nat)) : Int := match o with | none => 0 | some (_, k) => (k : Int)
def dE (o : Option (Tree × Nat)) : Int := match o with | none => 2 | some _ => 0
end Go.Proofs.YtdlhkhnoigbhjaaDoor.Pu
namespace Go.Proofs.YtdlhkhnoigbhjaaDoor.Lb
open Go Go.RowKit Pu
section
variable {P : Program} {ops : Array Oper} {Q : Exit → Act → World → Prop} {a : Act} {w : World} {rest : List Oper} {o : Oper}
theorem wpList_arr_neq (x y : Operand) (t r : TypeId) (ho : o.op = .binOp .neq t x y r) (hw : Region.wanted o (yielded ops a.tmps) = true) {e : TypeId} {n : Nat} (ht : P.underlying t = some (.array n e)) (he : P.underlying e = some (.int .u8)) (hsz : (P.info? e).map (·.size) = some 1) (hg : P.eqGuardType P.depth t = false)
    {l m : List UInt8} (hx : a.eval x = .agg (bv l).toArray) (hy : a.eval y = .agg (bv m).toArray) (hl : l.length = n) (hm : m.length = n)
    (h : wpList P ops Q rest (a.put o.dst (.bool (!decide (l = m)))) w) : wpList P ops Q (o :: rest) a w := by
  refine wpList_of_run hw (v := .bool (!decide (l = m))) (w' := w) ?_ h
  have h1 := run_eqGuard_agg (P := P) (w := w) .neq t x y (bv l).toArray (bv m).toArray hg
  have h2 := fun d => run_eq_bytes (P := P) d t e n ht he hsz l m hl hm w
  have h3 : (Op.equal t (.agg (bv l).toArray) (.agg (bv m).toArray)).run P w = .ok (decide (l = m)) w := h2 _
  unfold execOp
  simp only [ho, hx, hy, binOp, Sem.run_bind, h1, Result.andThen_ok, h3, Sem.run_pure]
end
theorem inf_bs : (Tryd.prog.info? 49).map (fun i => (i.zero, i.size, i.bytes)) = some (some (.slice none 0 0), 1, 24) := by kernel_rfl
theorem sz_bs : (Tryd.prog.info? 49).map (·.size) = some 1 := by kernel_rfl
theorem put_set {cs : List Value} {k : Nat} {u : Value} (h : k < cs.length) : put cs k [u] = cs.set k u := by
  unfold put
  rw [List.set_eq_take_append_cons_drop, if_pos h]
  simp
theorem own_block1 {w : World} {base : Nat} {e : TypeId} {v : Value} {n : Nat} {xs : List Value} (h : w.ownsRow base e 1 v n xs) (hn : 0 < n) :
    ∃ (g : Nat) (cur : List Value), base ≤ g ∧ v.ownBlock = some g ∧ (∀ k, ep v k = .pointer (some ⟨g, k, none⟩)) ∧ Blk w g e cur ∧ n ≤ cur.length ∧
      ∀ (k : Nat) (u : Value) (w' : World), k < n → Blk w' g e (cur.set k u) → w'.ownsRow base e 1 v n (xs.set k u) := by
  have hl := h.1
  rcases h.2 with ⟨_, h0⟩ | ⟨g, cap, cur, rfl, hb, hg, h1, h2, h3, h4⟩
  · omega
  · have hcl : cur.toList.length = cap := by rw [Array.length_toList]; omega
    refine ⟨g, cur.toList, hb, rfl, fun k => by simp [ep, Addr.add]; intro h; exact h.symm, by unfold Blk; simpa using hg, by omega, fun k u w' hk hw => ?_⟩
    refine ⟨by rw [List.length_set]; exact hl, .inr ⟨g, cap, (cur.toList.set k u).toArray, rfl, hb, hw, h1, h2, by simp; omega, ?_⟩⟩
    rw [← h4, Nat.mul_one]
    simp only [List.take_set]
end Go.Proofs.YtdlhkhnoigbhjaaDoor.Lb
namespace Go.Proofs.YtdlhkhnoigbhjaaDoor.Wi
open Go Go.RowKit Pu Lb
set_option linter.unusedSimpArgs false
set_option linter.unusedVariables false
theorem dec_selfB {α : Type} [DecidableEq α] (x : α) : decide (x = x) = true := decide_eq_true rfl
theorem few40 (v : Value) (n : Nat) (b : List UInt8) (w : World) (hv : Rd w 1 v n (bv b)) :
    Calls Tryd.prog 40 #[v, .int .i64 40] w fun e w' => ∃ v', e = .returned v' ∧ w'.ownsRow w.heap.size 5 1 v' (min n 40) (bv (b.take 40)) ∧ Below w.heap.size w w' := fewb_any v n b 40 w hv (by omega)
theorem few60 (v : Value) (n : Nat) (b : List UInt8) (w : World) (hv : Rd w 1 v n (bv b)) :
    Calls Tryd.prog 40 #[v, .int .i64 60] w fun e w' => ∃ v', e = .returned v' ∧ w'.ownsRow w.heap.size 5 1 v' (min n 60) (bv (b.take 60)) ∧ Below w.heap.size w w' := fewb_any v n b 60 w hv (by omega)
theorem DecE.all {w w' : World} {o : Option (Tree × Nat)} {cs : List Value} {u e : Int} (h : DecE w w' o cs u e) : IsT w' (dT o) cs ∧ u = dU o ∧ e = dE o := by
  cases o with
  | none =>
    obtain ⟨rfl, rfl, rfl⟩ := h
    exact ⟨(IsTX.leaf (X := fun _ => True)).isT, rfl, rfl⟩
  | some r => exact ⟨h.1.isT, h.2.1, h.2.2⟩
theorem dec_all (v : Value) (n : Nat) (b : List UInt8) (w : World) (hv : Rd w 1 v n (bv b)) (hn : n ≤ 1099511627776) :
    Calls Tryd.prog 41 #[v] w fun e w' => ∃ cs, e = .returned (.tuple #[.agg cs.toArray, .int .i64 (dU (rdT 24 b)), .int .i64 (dE (rdT 24 b))]) ∧ IsT w' (dT (rdT 24 b)) cs ∧ Below w.heap.size w w' :=
  (Decode_any v n b w hv hn).mono fun e w' ⟨cs, u, er, h1, h2, h3⟩ => by
    obtain ⟨g1, rfl, rfl⟩ := h2.all
    exact ⟨cs, h1, g1, h3⟩
theorem refdec_all (v : Value) (n : Nat) (b : List UInt8) (w : World) (hv : Rd w 1 v n (bv b)) (hn : n ≤ 1099511627776) :
    Calls Tryd.prog 42 #[v] w fun e w' => ∃ cs, e = .returned (.tuple #[.agg cs.toArray, .int .i64 (dU (rdT 24 b)), .int .i64 (dE (rdT 24 b))]) ∧ IsT w' (dT (rdT 24 b)) cs ∧ Below w.heap.size w w' :=
  (refDecode_any v n b w hv hn).mono fun e w' ⟨cs, u, er, h1, h2, h3⟩ => by
    obtain ⟨g1, rfl, rfl⟩ := h2.all
    exact ⟨cs, h1, g1, h3⟩
theorem min_le40 (n : Nat) : min n 40 ≤ 40 := Nat.min_le_right _ _
theorem min_le60 (n : Nat) : min n 60 ≤ 60 := Nat.min_le_right _ _
theorem tenc_posB (t : Tree) : 1 ≤ (tenc t).length := by
  obtain ⟨k, n, m, ts⟩ := t
  rw [tenc, List.length_append]
  have := encList_pos1 [k, n, m, (ts.length : Int)]
  omega
theorem bv_set (l : List UInt8) (k : Nat) (c : UInt8) : (bv l).set k (.int .u8 (c.toNat : Int)) = bv (l.set k c) := by unfold bv; rw [List.map_set]
attribute [local irreducible] digOf
set_option maxRecDepth 100000 in
set_option maxHeartbeats 6400000 in
theorem law_bytes (l : List Int) (at_ : Int) (c : UInt8) (mo : List UInt8) (dp : Int) (v1 v4 : Value) (w : World) (hl : ∀ x ∈ l, I64 x) (ha : I64 at_) (hd_ : I64 dp) (r1 : Rd w 1 v1 l.length (iv l)) (r4 : Rd w 1 v4 mo.length (bv mo)) (hS : ShT w) (hH : TabH w) (hR : TabR w) :
    Calls Tryd.prog 8 #[v1, .int .i64 at_, .int .u8 (c.toNat : Int), v4, .int .i64 dp] w fun e w' => e = .returned (.bool true) ∧ Below w.heap.size w w' := by
  have HAT := Lib.hid ha
  have HDP := Lib.hid hd_
  have ZL := gTree_size l
  have IL := gTree_ints l
  obtain ⟨tx, hta⟩ : ∃ t, gTree l = t := ⟨_, rfl⟩
  have C1 : ∀ w', Rd w' 1 v1 l.length (iv l) → Calls Tryd.prog 10 #[v1] w' fun e w'' => ∃ cs, e = .returned (.agg cs.toArray) ∧ IsTX (fun b => w'.heap.size ≤ b) w'' tx cs ∧ Below w'.heap.size w' w'' := fun w' h => by rw [← hta]; exact gtree0_any l hl v1 w' h
  rw [hta] at ZL IL
  clear hta hl ha hd_
  have LE := tenc_len tx IL (by omega)
  have LP := tenc_posB tx
  obtain ⟨en, hen⟩ : ∃ en, tenc tx = en := ⟨_, rfl⟩
  rw [hen] at LE LP
  have EA : ∀ (cs : List Value) w', IsT w' tx cs → Calls Tryd.prog 37 #[.agg cs.toArray] w' fun e w'' => ∃ v, e = .returned v ∧ w''.ownsRow w'.heap.size 5 1 v en.length (bv en) ∧ Below w'.heap.size w' w'' := fun cs w' h => by
    rw [← hen]; exact treeenc_any tx cs w' h IL (by omega)
  have EB : ∀ (cs : List Value) w', IsT w' tx cs → Calls Tryd.prog 35 #[.agg cs.toArray] w' fun e w'' => ∃ v, e = .returned v ∧ w''.ownsRow w'.heap.size 5 1 v en.length (bv en) ∧ Below w'.heap.size w' w'' := fun cs w' h => by
    rw [← hen]; exact refenc_any tx cs w' h IL (by omega)
  obtain ⟨dg, hdg⟩ : ∃ dg, digOf 1 [en] = dg := ⟨_, rfl⟩
  have DGL := Lib.hid (show dg.length = 16 by rw [← hdg, digOf_len])
  have S1 : ∀ (cs : List Value) w', IsT w' tx cs → TabH w' → Calls Tryd.prog 38 #[.agg cs.toArray] w' fun e w'' => e = .returned (.agg (bv dg).toArray) ∧ Below w'.heap.size w' w'' := fun cs w' h hh => by
    have h2 := treedig_any tx cs w' h hh IL (by omega)
    rw [hen, hdg] at h2; exact h2
  have S2 : ∀ (cs : List Value) w', IsT w' tx cs → TabR w' → Calls Tryd.prog 39 #[.agg cs.toArray] w' fun e w'' => e = .returned (.agg (bv dg).toArray) ∧ Below w'.heap.size w' w'' := fun cs w' h hh => by
    have h2 := refdig_any tx cs w' h hh IL (by omega)
    rw [hen, hdg] at h2; exact h2
  obtain ⟨kq, hkq⟩ : ∃ d : Nat, aroundV at_ (en.length : Int) = (d : Int) := ⟨(aroundV at_ (en.length : Int)).toNat, by have := aroundV_bd at_ (most := (en.length : Int)) (by omega); omega⟩
  have KB := aroundV_bd at_ (most := (en.length : Int)) (by omega)
  rw [hkq] at KB
  have HKQ := Lib.hid hkq
  obtain ⟨d9, hd9⟩ : ∃ d : Nat, aroundV dp 9 = (d : Int) := ⟨(aroundV dp 9).toNat, by have := aroundV_bd dp (most := 9) (by omega); omega⟩
  have D9 := aroundV_bd dp (most := 9) (by omega)
  rw [hd9] at D9
  have HD9 := Lib.hid hd9
  have EI := Lib.hid (deepT_ints (19 + d9))
  have EZ := Lib.hid (show tsize (deepT (19 + d9)) ≤ 1000000 by rw [deepT_size]; omega)
  have ELN := tenc_len (deepT (19 + d9)) (deepT_ints _) (by rw [deepT_size]; omega)
  rw [deepT_size] at ELN
  obtain ⟨td, htd⟩ : ∃ t, deepT (19 + d9) = t := ⟨_, rfl⟩
  rw [htd] at EI EZ ELN
  have HTD := Lib.hid htd
  obtain ⟨ed, hed⟩ : ∃ e, tenc td = e := ⟨_, rfl⟩
  rw [hed] at ELN
  have EC : ∀ (cs : List Value) w', IsT w' td cs → Calls Tryd.prog 35 #[.agg cs.toArray] w' fun e w'' => ∃ v, e = .returned v ∧ w''.ownsRow w'.heap.size 5 1 v ed.length (bv ed) ∧ Below w'.heap.size w' w'' := fun cs w' h => by
    rw [← hed]; exact refenc_any td cs w' h EI.out EZ.out
  have HEA := Lib.hid EA
  have HEB := Lib.hid EB
  have HEC := Lib.hid EC
  have HS1 := Lib.hid S1
  have HS2 := Lib.hid S2
  clear hen EA EB EC S1 S2 IL hdg hkq hd9 htd hed EI EZ
  go_enter Tryd.func8, Tryd.ntmps8
  go_upto_region 2 with (first
    | ((go_at_call 10; (with_reducible refine (C1 _ r1).mono ?_); rintro e w' ⟨cs, rfl, hE, hN1⟩); have CL := Lib.hid hE.len; have CO := Lib.hid hE.isT.ones)
    | (((with_reducible refine' wpList_alloc_blk (cs := nodz) 25 rfl ?_ zr_node ?_ ?_); exact rfl; exact nodz_cells; intro w2 k2 hN2 hz2; simp only [Act.put, List.setIfInBounds_toArray, List.set_cons_succ, List.set_cons_zero]))
    | (((with_reducible refine' wpList_store_blk (cs := cs) 25 (.tmp 11) (.tmp 25) rfl ?_ ?_ ?_ k2 sz_node ?_ ?_ ?_ ?_); exact rfl; exact rfl; exact rfl; exact CL.out; exact rfl; exact CO.out; intro w3 k3 hO3 hz3; simp only [Act.put])))
  obtain ⟨A, hA⟩ : ∃ A, w'.heap.size = A := ⟨_, rfl⟩
  have hT3 : IsT w3 tx cs := ((hE.lt.below hN2).only hO3 (fun b h => by have := h.2; omega)).isT
  have hs1 := hN1.size
  have l2 := k2.lt
  have hb3 : Below w.heap.size w w3 := (hN1.trans (hN2.mono hs1)).trans (hO3.below hs1 (by omega))
  have s3 := k3.lt
  rw [hA] at k3 s3
  simp only [hA]
  have r43 := r4.below hb3
  have hS3 := hS.below hb3
  have hH3 := hH.below hb3
  have hR3 := hR.below hb3
  clear hz2 hz3 hO3 hN2 hN1 hE k2 l2 hA r1 r4 hS hH hR C1
  go_upto_region 3 with (first
    | ((with_reducible refine' wpList_loadst_blk (.tmp 11) 25 rfl ?_ Tryd.underlying25 ?_ sz_node ?_ k3 ?_ ?_ ?_); exact rfl; exact rfl; exact rfl; exact CL.out; decide; simp only [Act.put, List.setIfInBounds_toArray, List.set_cons_succ, List.set_cons_zero])
    | ((go_at_call 35; (with_reducible refine (HEB.out cs _ hT3).mono ?_); rintro e w' ⟨vb, rfl, ob3, hN4⟩)))
  obtain ⟨w4, rfl⟩ : ∃ x : World, x = w' := ⟨_, rfl⟩
  have kA := k3.below hN4 s3
  have hT := hT3.below hN4
  have r4 := r43.below hN4
  have hS := hS3.below hN4
  have hH := hH3.below hN4
  have hR := hR3.below hN4
  have hb := hb3.trans (hN4.mono hb3.size)
  have rb := Rd.of_own ob3
  clear k3 hT3 r43 hS3 hH3 hR3 hb3 hN4 s3
  have hd : Below w4.heap.size w4 w4.drew := (Below.refl _ _).drew
  have CA : ∀ w', Below w4.heap.size w4 w' → Blk w' A 25 cs := fun w' h => kA.below h kA.lt
  (refine wp_region_plan (fun w' => Below w4.heap.size w4 w') (.f 0 (.f 2 (.o 1 (.o 3 (.f 4 (.f 5 (.f 6 (.f 8 (.o 7 (.o 9 (.o 10 (.f 11 .tail)))))))))))) 12 (by kernel_rfl) (by kernel_rfl) (hd) ?_)
  (repeat (refine wpPlan_f rfl ?_; (first | ((with_reducible refine' wpQuietH_loadst_blk (.tmp 11) 25 rfl ?_ Tryd.underlying25 ?_ sz_node ?_ (CA) ?_ ?_ ?_); exact rfl; exact rfl; exact rfl; exact CL.out; decide; simp only [Act.put, List.setIfInBounds_toArray, List.set_cons_succ, List.set_cons_zero]) | go_big_quiet_step (fail) | (go_big_quiet_want; go_big_quiet_op; refine ⟨_, fun _ _ => rfl, ?_⟩; go_big_quiet_on)); refine wpQuiet_nil ?_))
  have hTd := hT.below hd
  refine wpPlan_o rfl ?_
  go_wp2_with ((go_at_call 37; (with_reducible refine (HEA.out cs _ hTd).mono ?_); rintro e w' ⟨v5, rfl, o5, hN5⟩))
  have hc5 := hd.trans hN5
  have r5 := Rd.of_own o5
  have rb5 := rb.below hc5
  refine ⟨rfl, hc5, ?_⟩
  refine wpPlan_o rfl ?_
  go_wp2_with ((go_at_call 36; (with_reducible refine (same_any _ _ _ _ en en _ r5 rb5).mono ?_); rintro e w' ⟨rfl, nq, rfl⟩); rw [dec_selfB])
  have hc6 := below_drewN hc5 nq
  refine ⟨rfl, hc6, ?_⟩
  (repeat (refine wpPlan_f rfl ?_; (first | ((with_reducible refine' wpQuietH_loadst_blk (.tmp 11) 25 rfl ?_ Tryd.underlying25 ?_ sz_node ?_ (CA) ?_ ?_ ?_); exact rfl; exact rfl; exact rfl; exact CL.out; decide; simp only [Act.put, List.setIfInBounds_toArray, List.set_cons_succ, List.set_cons_zero]) | go_big_quiet_step (fail) | (go_big_quiet_want; go_big_quiet_op; refine ⟨_, fun _ _ => rfl, ?_⟩; go_big_quiet_on)); refine wpQuiet_nil ?_))
  have hT6 := hT.below hc6
  have hH6 := hH.below hc6
  refine wpPlan_o rfl ?_
  go_wp2_with ((go_at_call 38; (with_reducible refine (HS1.out _ _ hT6 hH6).mono ?_); rintro e w' ⟨rfl, hN7⟩))
  have hc7 := hc6.trans (hN7.mono hc6.size)
  have hT7 := hT.below hc7
  have hR7 := hR.below hc7
  refine ⟨rfl, hc7, ?_⟩
  refine wpPlan_o rfl ?_
  go_wp2_with ((go_at_call 39; (with_reducible refine (HS2.out _ _ hT7 hR7).mono ?_); rintro e w' ⟨rfl, hN8⟩))
  have hc8 := hc7.trans (hN8.mono hc7.size)
  refine ⟨rfl, hc8, ?_⟩
  refine wpPlan_o rfl ?_
  go_wp2_with (((with_reducible refine' wpList_arr_neq (l := dg) (m := dg) (.tmp 35) (.tmp 37) 53 _ rfl ?_ Tryd.underlying53 Tryd.underlying5 sz_u8 (by kernel_rfl) ?_ ?_ DGL.out DGL.out ?_); exact rfl; exact rfl; exact rfl; simp only [Act.put, List.setIfInBounds_toArray, List.set_cons_succ, List.set_cons_zero]); try rw [dec_selfB])
  refine ⟨rfl, hc8, ?_⟩
  (repeat (refine wpPlan_f rfl ?_; (first | fail | go_big_quiet_step (fail) | (go_big_quiet_want; go_big_quiet_op; refine ⟨_, fun _ _ => rfl, ?_⟩; go_big_quiet_on)); refine wpQuiet_nil ?_))
  refine wpPlan_tail ?_
  go_wp2_with fail
  refine onlyN ?_
  have kA8 := kA.below hc8 kA.lt
  have ob8 := own_below ob3 hc8
  have rb8 := rb.below hc8
  have r48 := r4.below hc8
  have hS8 := hS.below hc8
  have hb8 := hb.trans (hc8.mono hb.size)
  obtain ⟨w8, rfl⟩ : ∃ x : World, x = w' := ⟨_, rfl⟩
  have en0 : (0 : Int) < (en.length : Int) := by omega
  have enI : I64 (en.length : Int) := by unfold I64; omega
  have BO := Lib.hid (bv_one en)
  have BO4 := Lib.hid (bv_one (mo.take 40))
  clear kA hT r4 hS hH hR hb rb ob3 hd CA hTd hc5 r5 o5 rb5 hc6 hT6 hH6 hc7 hT7 hR7 hc8 hN5 hN7 hN8
  go_upto_region 7 with (first
    | ((with_reducible refine' wpList_len_rd (.tmp 41) 49 rfl ?_ Tryd.underlying49 ?_ rb8 ?_); exact rfl; exact rfl; simp only [Act.put, List.setIfInBounds_toArray, List.set_cons_succ, List.set_cons_zero])
    | ((go_at_call 14; (with_reducible refine (around_any at_ _ _ HAT.out en0 enI).mono ?_); rintro e w' ⟨rfl, rfl⟩); rw [HKQ.out])
    | (((with_reducible refine' wpList_build_nil rfl ?_ Tryd.underlying49 sz_u8 ?_); exact rfl; intro v10 w10 o10 hN10; simp only [Act.put, List.setIfInBounds_toArray, List.set_cons_succ, List.set_cons_zero]); have rb10 := rb8.below hN10; have s10 := hN10.size)
    | (((with_reducible refine' wpList_append_rd (.tmp 44) (.tmp 45) 49 rfl ?_ Tryd.underlying49 inf_u8 ?_ ?_ ?_ o10 ?_ rb10 BO.out ?_ ?_ s10 ?_); exact rfl; exact rfl; omega; exact rfl; exact rfl; (first | omega | (unfold maxLen; omega)); omega; intro v11 w11 o11 hN11; simp only [Act.put, List.setIfInBounds_toArray, List.set_cons_succ, List.set_cons_zero]); rw [Nat.zero_add, List.nil_append] at o11))
  have hb11 : Below w8.heap.size w8 w11 := hN10.trans hN11
  obtain ⟨g, cur, hg1, hg2, hg3, hg4, hg5, hg6⟩ := own_block1 o11 (by omega)
  have EP := Lib.hid (hg3 kq)
  have r11 := Rd.of_own o11
  have room : kq < cur.length := by omega
  go_upto_region 8 with (first
    | (((with_reducible refine' wpList_at1_rd (.tmp 47) (.tmp 48) 49 rfl ?_ Tryd.underlying49 sz_u8 ?_ r11 (kq) ?_ ?_ ?_); exact rfl; exact rfl; (show (_ : Int) = _; omega); omega; simp only [Act.put, List.setIfInBounds_toArray, List.set_cons_succ, List.set_cons_zero]); rw [EP.out])
    | ((with_reducible refine' wpList_set_blk (u := .int .u8 (c.toNat : Int)) 5 (.tmp 50) (.tmp 49) rfl ?_ sz_u8 ?_ ?_ hg4 (room) ?_ ?_); exact rfl; exact rfl; exact rfl; exact rfl; intro w12 k12 hO12 hz12; simp only [Act.put]))
  have o12 := hg6 kq (.int .u8 (c.toNat : Int)) w12 (by omega) k12
  rw [bv_set] at o12
  have r12 := Rd.of_own o12
  have hb12 : Below w8.heap.size w8 w12 := hb11.trans (hO12.below hg1 hb11.size)
  have rb12 := rb8.below hb12
  have r412 := r48.below hb12
  have s12 := hb12.size
  clear hN10 rb10 s10 hN11 o10 hb11 hg1 hg2 hg3 hg4 hg5 hg6 EP r11 room k12 hO12 hz12 o11
  go_upto_region 9 with (first
    | (((with_reducible refine' wpList_build_nil rfl ?_ Tryd.underlying49 sz_u8 ?_); exact rfl; intro v13 w13 o13 hN13; simp only [Act.put, List.setIfInBounds_toArray, List.set_cons_succ, List.set_cons_zero]); have rb13 := rb12.below hN13; have s13 := hN13.size)
    | (((with_reducible refine' wpList_append_rd (.tmp 51) (.tmp 52) 49 rfl ?_ Tryd.underlying49 inf_u8 ?_ ?_ ?_ o13 ?_ rb13 BO.out ?_ ?_ s13 ?_); exact rfl; exact rfl; omega; exact rfl; exact rfl; (first | omega | (unfold maxLen; omega)); omega; intro v14 w14 o14 hN14; simp only [Act.put, List.setIfInBounds_toArray, List.set_cons_succ, List.set_cons_zero]); rw [Nat.zero_add, List.nil_append] at o14; have hb14 := hN13.trans hN14; have r414 := r412.below hb14)
    | ((go_at_call 40; (with_reducible refine (few40 _ _ mo _ r414).mono ?_); rintro e w' ⟨v15, rfl, o15, hN15⟩); have o14b := own_below o14 hN15; have r15 := Rd.of_own o15; have hb15 := hb14.trans (hN15.mono hb14.size); have s15 := hb15.size)
    | (((with_reducible refine' wpList_append_rd (.tmp 53) (.tmp 55) 49 rfl ?_ Tryd.underlying49 inf_u8 ?_ ?_ ?_ o14b ?_ r15 BO4.out ?_ ?_ s15 ?_); exact rfl; exact rfl; omega; exact rfl; exact rfl; (first | omega | (unfold maxLen; omega)); omega; intro v16 w16 o16 hN16; simp only [Act.put, List.setIfInBounds_toArray, List.set_cons_succ, List.set_cons_zero]); rw [← bv_append] at o16))
  have r16 := Rd.of_own o16
  have hb16 : Below w12.heap.size w12 w16 := hb15.trans hN16
  have r12b := r12.below hb16
  have hbz : Below w8.heap.size w8 w16 := hb12.trans (hb16.mono s12)
  have ob16 := own_below ob8 hbz
  have rb16 := rb8.below hbz
  have r416 := r48.below hbz
  have hS16 := hS8.below hbz
  have hb1 := hb8.trans (hbz.mono hb8.size)
  clear hN13 rb13 s13 o13 hN14 o14 hb14 r414 hN15 o14b r15 hb15 s15 o15 hN16 o16 hb16 rb12 r412 s12 hb12 hbz hS8 hb8 r48 rb8 ob8 kA8 r12 o12
  have hd : Below w16.heap.size w16 w16.drew := (Below.refl _ _).drew
  have r416d := r416.below hd
  (refine wp_region_plan (fun w' => Below w16.heap.size w16 w') (.f 0 (.f 1 (.f 2 (.f 3 (.f 4 (.f 5 (.f 6 (.f 8 (.o 7 (.o 9 (.f 10 (.o 11 (.o 12 (.o 13 .tail)))))))))))))) 14 (by kernel_rfl) (by kernel_rfl) (hd) ?_)
  (repeat (refine wpPlan_f rfl ?_; (first | ((with_reducible refine' wpQuietC_to_own (.tmp 58) (.tmp 59) 49 rfl ?_ Tryd.underlying49 sz_u8 ob16 (kq) ?_ ?_ ?_ ?_); exact rfl; exact rfl; (show (_ : Int) = _; omega); omega; intro v17 o17 hv17; simp only [Act.put, List.setIfInBounds_toArray, List.set_cons_succ, List.set_cons_zero]) | go_big_quiet_step (fail) | (go_big_quiet_want; go_big_quiet_op; refine ⟨_, fun _ _ => rfl, ?_⟩; go_big_quiet_on)); refine wpQuiet_nil ?_))
  refine wpPlan_o rfl ?_
  go_wp2_with ((go_at_call 40; (with_reducible refine (few60 _ _ mo _ r416d).mono ?_); rintro e w' ⟨v18, rfl, o18, hN18⟩))
  have hc18 := hd.trans hN18
  refine ⟨rfl, hc18, ?_⟩
  refine wpPlan_o rfl ?_
  go_wp2_with ((go_at_call 14; (with_reducible refine (around_any dp 9 _ HDP.out (by omega) (by unfold I64; omega)).mono ?_); rintro e w' ⟨rfl, rfl⟩); rw [HD9.out])
  refine ⟨rfl, hc18, ?_⟩
  (repeat (refine wpPlan_f rfl ?_; (first | fail | go_big_quiet_step (fail) | (go_big_quiet_want; go_big_quiet_op; refine ⟨_, fun _ _ => rfl, ?_⟩; go_big_quiet_on)); refine wpQuiet_nil ?_))
  refine wpPlan_o rfl ?_
  have DD1 : ∀ w' : World, Calls Tryd.prog 13 #[.int .i64 (20 + (d9 : Int))] w' fun e w'' => ∃ cs, e = .returned (.agg cs.toArray) ∧ IsTX (fun b => w'.heap.size ≤ b) w'' td cs ∧ Below w'.heap.size w' w'' := fun w' => by
    have h := deep_any (20 + d9) w' (by omega)
    rw [show 20 + d9 - 1 = 19 + d9 by omega, HTD.out] at h
    rw [show ((20 + d9 : Nat) : Int) = 20 + (d9 : Int) by omega] at h
    exact h
  have DD2 : ∀ w' : World, Calls Tryd.prog 13 #[.int .i64 (wrap64 (20 + (d9 : Int)))] w' fun e w'' => ∃ cs, e = .returned (.agg cs.toArray) ∧ IsTX (fun b => w'.heap.size ≤ b) w'' td cs ∧ Below w'.heap.size w' w'' := fun w' => by
    rw [show wrap64 (20 + (d9 : Int)) = 20 + (d9 : Int) by unfold wrap64; omega]; exact DD1 w'
  go_wp2_with (first
    | (go_at_call 13; (with_reducible refine (DD1 _).mono ?_); rintro e w' ⟨ds, rfl, hQ, hN19⟩)
    | (go_at_call 13; (with_reducible refine (DD2 _).mono ?_); rintro e w' ⟨ds, rfl, hQ, hN19⟩))
  have hc19 := hc18.trans (hN19.mono hc18.size)
  have hQT := hQ.isT
  refine ⟨rfl, hc19, ?_⟩
  refine wpPlan_o rfl ?_
  go_wp2_with ((go_at_call 35; (with_reducible refine (HEC.out ds _ hQT).mono ?_); rintro e w' ⟨v20, rfl, o20, hN20⟩))
  have hc20 := hc19.trans (hN20.mono hc19.size)
  refine ⟨rfl, hc20, ?_⟩
  refine wpPlan_o rfl ?_
  have VO : ∀ u ∈ [vb, v17, v11, v16, v18, v20, .slice none 0 0], u.oneCell' = true := by
    intro u hu
    simp only [List.mem_cons, List.not_mem_nil, or_false] at hu
    rcases hu with rfl | rfl | rfl | rfl | rfl | rfl | rfl
    · exact X3one rb16
    · exact own_one o17
    · exact X3one r12b
    · exact X3one r16
    · exact own_one o18
    · exact own_one o20
    · rfl
  go_wp2_with (((with_reducible refine' wpList_build_cs (cs := [vb, v17, v11, v16, v18, v20, .slice none 0 0]) rfl ?_ Tryd.underlying56 inf_bs ?_ ?_ ?_ ?_ ?_ ?_); exact rfl; exact rfl; omega; omega; exact rfl; exact VO; intro v21 w21 r21 hN21; simp only [Act.put, List.setIfInBounds_toArray, List.set_cons_succ, List.set_cons_zero]))
  have hc21 := hc20.trans (hN21.mono hc20.size)
  refine ⟨rfl, hc21, ?_⟩
  refine wpPlan_tail ?_
  go_wp2_with fail
  refine onlyN ?_
  have N16 := min_le40 mo.length
  have N18 := min_le60 mo.length
  have ENT : ∀ i, i < 7 → ∃ (v : Value) (b : List UInt8) (n : Nat), ([vb, v17, v11, v16, v18, v20, .slice none 0 0] : List Value)[i]? = some v ∧ Rd w21 1 v n (bv b) ∧ n ≤ 1000000 := by
    intro i hi
    match i, hi with
    | 0, _ => exact ⟨vb, en, _, rfl, rb16.below hc21, by omega⟩
    | 1, _ => exact ⟨v17, en.take kq, _, rfl, (by have h := (Rd.of_own o17).below hc21; rw [Nat.mul_one, bv_take] at h; exact h), by omega⟩
    | 2, _ => exact ⟨v11, en.set kq c, _, rfl, r12b.below hc21, by omega⟩
    | 3, _ => exact ⟨v16, en ++ mo.take 40, _, rfl, r16.below hc21, by omega⟩
    | 4, _ => exact ⟨v18, mo.take 60, _, rfl, (((Rd.of_own o18).below hN19).below hN20).below hN21, by omega⟩
    | 5, _ => exact ⟨v20, ed, _, rfl, (Rd.of_own o20).below hN21, by omega⟩
    | 6, _ => exact ⟨.slice none 0 0, [], 0, rfl, Rd.of_own (World.ownsRow_nil _ 0 5 1), by omega⟩
  have HENT := Lib.hid ENT
  have hS21 := hS16.below hc21
  have hb21 := hb1.trans (hc21.mono hb1.size)
  obtain ⟨vs, hvs⟩ : ∃ vs : List Value, [vb, v17, v11, v16, v18, v20, .slice none 0 0] = vs := ⟨_, rfl⟩
  rw [hvs] at HENT r21
  have r21' : Rd w21 1 v21 7 vs := r21
  clear ENT hvs VO o17 o18 o20 hN18 hN19 hN20 hN21 hQ hQT hc18 hc19 hc20 hc21 hd r416 r416d rb16 ob16 hS16 hb1 r16 r12b r21 DD1 DD2
  go_upto_region 11 with fail
  go_loopw [17] (fun i wr => ∃ j : Nat, j ≤ 7 ∧ i = .int .i64 (j : Int) ∧ Below w21.heap.size w21 wr) (fun i _ => 7 - (intOf i).toNat)
  case atStart => exact ⟨0, by omega, rfl, Below.refl _ _⟩
  case round =>
    obtain ⟨i, hi, rfl, hbk⟩ := hrel
    obtain ⟨wk, rfl⟩ : ∃ wo : World, wo = wr := ⟨_, rfl⟩
    have hrk := r21'.below hbk
    by_cases hi7 : i < 7
    · have LI : decide ((i : Int) < 7) = true := by rw [decide_eq_true_eq]; omega
      obtain ⟨vi, b, n, hvi, hri, hn⟩ := HENT.out i hi7
      have VI := Lib.hid hvi
      have D1 := fun w' h => dec_all vi n b w' h (by omega)
      have D2 := fun w' h => refdec_all vi n b w' h (by omega)
      obtain ⟨u0, hu0⟩ : ∃ u, dU (rdT 24 b) = u := ⟨_, rfl⟩
      obtain ⟨e0, he0⟩ : ∃ u, dE (rdT 24 b) = u := ⟨_, rfl⟩
      obtain ⟨t0, ht0⟩ : ∃ u, dT (rdT 24 b) = u := ⟨_, rfl⟩
      rw [hu0, he0, ht0] at D1 D2
      have HD1 := Lib.hid D1
      have HD2 := Lib.hid D2
      have TS : (tcmp t0 t0 == 0) = true := by rw [tcmp_self]; rfl
      have hrw := hri.below hbk
      clear hvi D1 D2 hu0 he0 ht0 hri
      go_upto_region 14 with (first
        | ((with_reducible refine' wpList_len_rd (.tmp 72) 56 rfl ?_ Tryd.underlying56 ?_ hrk ?_); exact rfl; exact rfl; simp only [Act.put, List.setIfInBounds_toArray, List.set_cons_succ, List.set_cons_zero]) | ((with_reducible refine' wpList_at1_rd (.tmp 78) (.tmp 79) 56 rfl ?_ Tryd.underlying56 sz_bs ?_ hrk (i) ?_ ?_ ?_); exact rfl; exact rfl; (show (_ : Int) = _; omega); omega; simp only [Act.put, List.setIfInBounds_toArray, List.set_cons_succ, List.set_cons_zero]) | ((with_reducible refine' wpList_load_rd (.tmp 80) 49 rfl ?_ ld_bs ?_ hrk (VI.out) ?_); exact rfl; exact rfl; simp only [Act.put, List.setIfInBounds_toArray, List.set_cons_succ, List.set_cons_zero])
        | ((go_at_call 41; (with_reducible refine (HD1.out _ hrw).mono ?_); rintro e w' ⟨ds, rfl, hD, hN30⟩); have DL := Lib.hid hD.len; have DO := Lib.hid hD.ones)
        | (((with_reducible refine' wpList_alloc_blk (cs := nodz) 25 rfl ?_ zr_node ?_ ?_); exact rfl; exact nodz_cells; intro w31 k31 hN31 hz31; simp only [Act.put, List.setIfInBounds_toArray, List.set_cons_succ, List.set_cons_zero]))
        | (((with_reducible refine' wpList_store_blk (cs := ds) 25 (.tmp 18) (.tmp 83) rfl ?_ ?_ ?_ k31 sz_node ?_ ?_ ?_ ?_); exact rfl; exact rfl; exact rfl; exact DL.out; exact rfl; exact DO.out; intro w32 k32 hO32 hz32; simp only [Act.put])))
      have hb32 : Below wk.heap.size wk w32 := (hN30.trans (hN31.mono hN30.size)).trans (hO32.below hN30.size (Nat.le_trans hN30.size hN31.size))
      have hD32 : IsT w32 t0 ds := ((hD.isTX.lt.below hN31).only hO32 (fun b h => by have := h.2; omega)).isT
      obtain ⟨P, hP⟩ : ∃ P, w'.heap.size = P := ⟨_, rfl⟩
      rw [hP] at k32
      simp only [hP]
      have hrk2 := hrk.below hb32
      have hrw2 := hrw.below hb32
      have l32 := k32.lt
      clear hN30 hN31 hz31 hO32 hz32 k31 hD hP
      go_upto_region 15 with (first
        | ((with_reducible refine' wpList_at1_rd (.tmp 87) (.tmp 88) 56 rfl ?_ Tryd.underlying56 sz_bs ?_ hrk2 (i) ?_ ?_ ?_); exact rfl; exact rfl; (show (_ : Int) = _; omega); omega; simp only [Act.put, List.setIfInBounds_toArray, List.set_cons_succ, List.set_cons_zero]) | ((with_reducible refine' wpList_load_rd (.tmp 89) 49 rfl ?_ ld_bs ?_ hrk2 (VI.out) ?_); exact rfl; exact rfl; simp only [Act.put, List.setIfInBounds_toArray, List.set_cons_succ, List.set_cons_zero])
        | ((go_at_call 42; (with_reducible refine (HD2.out _ hrw2).mono ?_); rintro e w' ⟨fs, rfl, hF, hN33⟩); have FL := Lib.hid hF.len; have FO := Lib.hid hF.ones)
        | (((with_reducible refine' wpList_alloc_blk (cs := nodz) 25 rfl ?_ zr_node ?_ ?_); exact rfl; exact nodz_cells; intro w34 k34 hN34 hz34; simp only [Act.put, List.setIfInBounds_toArray, List.set_cons_succ, List.set_cons_zero]))
        | (((with_reducible refine' wpList_store_blk (cs := fs) 25 (.tmp 21) (.tmp 92) rfl ?_ ?_ ?_ k34 sz_node ?_ ?_ ?_ ?_); exact rfl; exact rfl; exact rfl; exact FL.out; exact rfl; exact FO.out; intro w35 k35 hO35 hz35; simp only [Act.put])))
      have hb35 : Below w32.heap.size w32 w35 := (hN33.trans (hN34.mono hN33.size)).trans (hO35.below hN33.size (Nat.le_trans hN33.size hN34.size))
      have hF35 : IsT w35 t0 fs := ((hF.isTX.lt.below hN34).only hO35 (fun b h => by have := h.2; omega)).isT
      have kP := k32.below hb35 l32
      have hD35 := hD32.below hb35
      have hb2 := (hbk.trans (hb32.mono hbk.size)).trans (hb35.mono (hbk.trans (hb32.mono hbk.size)).size)
      clear hrk hrk2 hrw hrw2 hb32 hD32 hN33 hN34 hz34 hO35 hz35 k34 hF k32
      go_wp2_with (first
        | ((with_reducible refine' wpList_loadst_blk (.tmp 18) 25 rfl ?_ Tryd.underlying25 ?_ sz_node ?_ kP ?_ ?_ ?_); exact rfl; exact rfl; exact rfl; exact DL.out; decide; simp only [Act.put, List.setIfInBounds_toArray, List.set_cons_succ, List.set_cons_zero]) | ((with_reducible refine' wpList_loadst_blk (.tmp 21) 25 rfl ?_ Tryd.underlying25 ?_ sz_node ?_ k35 ?_ ?_ ?_); exact rfl; exact rfl; exact rfl; exact FL.out; decide; simp only [Act.put, List.setIfInBounds_toArray, List.set_cons_succ, List.set_cons_zero])
        | ((go_at_call 31; (with_reducible refine (refsame_any t0 t0 ds fs _ hD35 hF35).mono ?_); rintro e w' ⟨rfl, hN36⟩); rw [TS]))
      have hb3 := hb2.trans (hN36.mono hb2.size)
      go_roundw
      case rel => (first | exact ⟨i + 1, by omega, by go_num, hb3⟩ | ((repeat apply Exists.intro); exact ⟨⟨i + 1, by omega, by go_num, hb3⟩, rfl⟩))
      case measure => simp [intOf]; omega
    · obtain rfl : i = 7 := by omega
      have hSk := hS21.below hbk
      have hbw := hb21.trans (hbk.mono hb21.size)
      go_wp2_with (first
        | ((with_reducible refine' wpList_len_rd (.tmp 72) 56 rfl ?_ Tryd.underlying56 ?_ hrk ?_); exact rfl; exact rfl; simp only [Act.put, List.setIfInBounds_toArray, List.set_cons_succ, List.set_cons_zero])
        | ((go_at_call 21; (with_reducible refine (lives_any _ hSk).mono ?_); rintro e w' ⟨rfl, hN41⟩)))
      go_ret
      exact ⟨rfl, hbw.trans (hN41.mono hbw.size)⟩
end Go.Proofs.YtdlhkhnoigbhjaaDoor.Wi
namespace Go.Proofs.YtdlhkhnoigbhjaaDoor.treeBytes
open Go.ChangeShapes Go.WideShapes Go.ChangeAt Go.RowKit
open Go.Proofs.YtdlhkhnoigbhjaaDoor.Wi Go.Proofs.YtdlhkhnoigbhjaaDoor.Pu Go.Proofs.YtdlhkhnoigbhjaaDoor.Lb
set_option linter.unusedVariables false

theorem own : ownKnob Tryd.prog.godebug = none := by kernel_rfl
theorem laidOut : laidOutB Tryd.prog = true := by kernel_rfl

set_option maxRecDepth 100000 in
theorem lifted (os : Os) (started : os.Started) (H : Type) (enc : TypeId × Value → H) :
    ReturnsInHanded {} Tryd.checked os 8 .any (fun w args => (Rows.treeBytesSpec.pre enc Tryd.prog Tryd.f8 [] false w args ∧ laidMetH Tryd.prog lTB w) ∧ sizedMet enc Tryd.prog Tryd.f8 (OpenSpec.ofChange Rows.treeBytesSpec) false w args) (Rows.treeBytesSpec.post enc Tryd.prog Tryd.f8 false true false false) := by
  refine returnsInHanded_of_change_and (C := Tryd.checked) (X := fun w _ => laidMetH Tryd.prog lTB w) (fun _ _ _ hh h => h.of_heap hh) own started (by kernel_rfl) Tryd.func8
    (ChangeSpec.witness_shaped (enc := enc) (C := Tryd.checked) (os := os) (X := fun w _ => laidMetH Tryd.prog lTB w) false (World.doorLaid Tryd.prog 4000 os) #[.slice none 0 0, .int .i64 0, .int .u8 0, .slice none 0 0, .int .i64 0] 8 rfl (World.shaped_of_RefB (by kernel_rfl) (by kernel_rfl)) (by kernel_rfl) (by kernel_rfl) (by kernel_rfl) (doorTB os _)) ?_
  intro W base args ds gs before hval0 hW hcnd hk hL _
  have hT := bytesT_of hL
  have hval : ∀ (j : Nat) t v, Tryd.f8.params[j]? = some t → args[j]? = some v → Value.okWide Tryd.prog W .any base t v := hval0
  have hW' := hW
  obtain ⟨p, q, hA0, hV, rfl, hfz, hnd⟩ := hW
  have hA : DataW.TrodAll enc Tryd.prog W 0 (fun _ => true) true Tryd.f8.params.toList args.toList ds p := hA0
  rw [Tryd.params8] at hA hval
  obtain ⟨v0, vs0, d0, ds0, p0, q0, hargs, rfl, rfl, h0, t0⟩ := trodAll_cons hA
  obtain ⟨v1, vs1, d1, ds1, p1, q1, rfl, rfl, rfl, h1, t1⟩ := trodAll_cons t0
  obtain ⟨v2, vs2, d2, ds2, p2, q2, rfl, rfl, rfl, h2, t2⟩ := trodAll_cons t1
  obtain ⟨v3, vs3, d3, ds3, p3, q3, rfl, rfl, rfl, h3, t3⟩ := trodAll_cons t2
  obtain ⟨v4, vs4, d4, ds4, p4, q4, rfl, rfl, rfl, h4, t4⟩ := trodAll_cons t3
  obtain ⟨rfl, rfl, rfl⟩ := trodAll_nil t4
  obtain rfl : args = #[v0, v1, v2, v3, v4] := by cases args; simp_all
  obtain ⟨rfl, rfl⟩ := trodVars_none hV
  clear hA0 hval0
  have b0 : ∀ x ∈ p0, x.block < W.heap.size := by obtain ⟨m, hm⟩ := h0; exact DataW.trod_lt m _ _ _ hm
  have k0 := h0
  have b1 : ∀ x ∈ p1, x.block < W.heap.size := by obtain ⟨m, hm⟩ := h1; exact DataW.trod_lt m _ _ _ hm
  have k1 := h1
  have b2 : ∀ x ∈ p2, x.block < W.heap.size := by obtain ⟨m, hm⟩ := h2; exact DataW.trod_lt m _ _ _ hm
  have k2 := h2
  have b3 : ∀ x ∈ p3, x.block < W.heap.size := by obtain ⟨m, hm⟩ := h3; exact DataW.trod_lt m _ _ _ hm
  have k3 := h3
  have b4 : ∀ x ∈ p4, x.block < W.heap.size := by obtain ⟨m, hm⟩ := h4; exact DataW.trod_lt m _ _ _ hm
  have k4 := h4
  obtain ⟨l0, ok0, r0, e0⟩ := op_ints Tryd.underlying22 Tryd.underlying3 (by kernel_rfl) (hval 0 22 v0 rfl rfl) h0
  have n0 := sized_elems hk (j := 0) rfl rfl Tryd.underlying22 e0 (b := 8) (by kernel_rfl)
  obtain ⟨z1, rfl, wf1⟩ := op_int Tryd.underlying3 (hval 1 3 v1 rfl rfl) h1
  obtain ⟨z2, rfl, wf2⟩ := op_int Tryd.underlying5 (hval 2 5 v2 rfl rfl) h2
  obtain ⟨l3, r3, e3⟩ := op_bytes Tryd.underlying49 Tryd.underlying5 (by kernel_rfl) (hval 3 49 v3 rfl rfl) h3
  have n3 := sized_elems hk (j := 3) rfl rfl Tryd.underlying49 e3 (b := 1) (by kernel_rfl)
  obtain ⟨z4, rfl, wf4⟩ := op_int Tryd.underlying3 (hval 4 3 v4 rfl rfl) h4
  have walk : Calls Tryd.prog 8 #[v0, .int .i64 z1, .int .u8 z2, v3, .int .i64 z4] W fun e w' => e = .returned (.bool true) ∧ Below W.heap.size W w' := by
    have hw8 : 0 ≤ z2 ∧ z2 ≤ 255 := by simpa [Lit.wf, IntKind.min, IntKind.max, IntKind.signed, IntKind.bits] using wf2
    obtain ⟨c, rfl⟩ : ∃ c : UInt8, z2 = (c.toNat : Int) := ⟨UInt8.ofNat z2.toNat, by rw [UInt8.toNat_ofNat']; omega⟩
    exact law_bytes l0 z1 c l3 z4 v0 v3 W ok0 (wf_i64 wf1) (wf_i64 wf4) r0 r3 hT.1.sht hT.2.1 hT.2.2
  refine walk.mono fun e W' ⟨he, bel⟩ => ?_
  subst he
  exact ⟨_, rfl, _, _, _, [], _, [], hW', trodAll_mk1 (shut_bool Tryd.underlying4 _), (trodAll_cons_mk (Below.trod laidOut (by kernel_rfl) (of_decide_eq_true (by kernel_rfl)) k0 bel b0) (trodAll_cons_mk (Below.trod laidOut (by kernel_rfl) (of_decide_eq_true (by kernel_rfl)) k1 bel b1) (trodAll_cons_mk (Below.trod laidOut (by kernel_rfl) (of_decide_eq_true (by kernel_rfl)) k2 bel b2) (trodAll_cons_mk (Below.trod laidOut (by kernel_rfl) (of_decide_eq_true (by kernel_rfl)) k3 bel b3) (trodAll_cons_mk (Below.trod laidOut (by kernel_rfl) (of_decide_eq_true (by kernel_rfl)) k4 bel b4) trodAll_mk0))))), rfl, bel.frame _, fun h => by cases h⟩

theorem over : Rows.treeBytesRow.holds Tryd.pinned (OpenSpec.ofChange Rows.treeBytesSpec) :=
  OpenClaim.holds_of_wide 8 Tryd.f8 rfl rfl rfl rfl rfl rfl rfl ⟨rfl, rfl, rfl, rfl, rfl⟩ rfl rfl rfl rfl rfl (by kernel_rfl) Tryd.func8 (by kernel_rfl)
    (of_decide_eq_true (by kernel_rfl)) (by unfold Func.isWrapper; first | (rw [if_pos (by decide +kernel)]; kernel_rfl) | (rw [if_neg (by decide +kernel)]; exact ⟨rfl, rfl⟩))
    (fun os started H enc _ => lifted os started H enc)

theorem proved : Rows.TreeBytesCardSaid :=
  Claim7.holds_tied_plain_at .later [] [.data, .data, .widerDeep] true (true, _) false
    over (fun _ h => by cases h) (by kernel_rfl) (fun _ h => by cases h) treeBytes_row_tie rfl ⟨rfl, rfl⟩ (by kernel_rfl) rfl
    (fun f fn hf hfn => by
      obtain rfl : f = 8 := Option.some.inj ((show Tryd.prog.funcNamed "scoria/scorialaw05.TreeBytes" = some 8 by kernel_rfl).symm.trans hf) |>.symm
      obtain rfl : fn = Tryd.f8 := (Option.some.inj (Tryd.func8.symm.trans hfn)).symm
      exact ⟨by kernel_rfl, fun j t ht => by
        rw [Tryd.params8] at ht
        have hm : t ∈ [22, 3, 5, 49, 3] := by simpa using Array.mem_of_getElem? ht
        have hall : ([22, 3, 5, 49, 3].all fun u => !Tryd.prog.wantsStandIn u) = true := by kernel_rfl
        exact (show Tryd.prog.wantsStandIn t = false by simpa using List.all_eq_true.1 hall t hm)⟩)
    (by kernel_rfl)
#print axioms proved
end Go.Proofs.YtdlhkhnoigbhjaaDoor.treeBytes
