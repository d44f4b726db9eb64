/-
  Tly, Same, Get, Bye, Byt, Lst, Ten, Saml, Sp: my texts of these names, one behind the other. Conditions: those that each law names.
-/
import Derived.Test.YtdlhkhnoigbhjaaDoorMg
import Derived.Test.YtdlhkhnoigbhjaaDoorRows
import Derived.Lib.LaidTab
import Derived.LaidMore
import Derived.ProofKit
import Derived.OpenShut
import Derived.Stop.Joined
import Derived.Test.YtdlhkhnoigbhjaaDoorMa
import Derived.Deep.DeepCutAuto
import Derived.Deep.CutBlock
import Derived.Lib.Hide
import Derived.Test.YtdlhkhnoigbhjaaDoorMb
import Derived.Deep.RegionWith
namespace Go.Proofs.YtdlhkhnoigbhjaaDoor.Wi
open Go Go.RowKit Pu Lb
theorem gSh : Tryd.prog.globalNamed "scoria/tree.shapes" = some 0 := by kernel_rfl
theorem gtSh : (Tryd.prog.globals[0]?).map (·.type) = some 106 := by kernel_rfl
theorem caSh : Tryd.prog.cellsOf 106 = 224 := by kernel_rfl
theorem ceSh : Tryd.prog.cellsOf 105 = 8 := by kernel_rfl
theorem ci3 : Tryd.prog.cellsOf 3 = 1 := by kernel_rfl
theorem ci71 : Tryd.prog.cellsOf 71 = 1 := by kernel_rfl
theorem ci103 : Tryd.prog.cellsOf 103 = 1 := by kernel_rfl
/-- one entry -/
theorem entry_of {H : Type} {enc : TypeId × Value → H} {w : World} {base : Nat} {sp : Nat → Bool} {held : Bool} {fuel : Nat} {part : List Value} {x : DataW H × List MemPlace} {a0 a1 a2 a3 a5 a6 a7 : Int} {d : DataW H}
    (h : DataW.trod enc Tryd.prog w base sp held fuel 105 part = some x) (hx1 : x.1 = .agg [.lit (.int .i64 a0), .lit (.int .i64 a1), .lit (.int .i64 a2), .lit (.int .i64 a3), d, .lit (.int .i64 a5), .lit (.int .i64 a6), .lit (.int .i64 a7)]) :
    ∃ f' v p, part = [.int .i64 a0, .int .i64 a1, .int .i64 a2, .int .i64 a3, v, .int .i64 a5, .int .i64 a6, .int .i64 a7] ∧ DataW.trod enc Tryd.prog w base sp held f' 103 [v] = some (d, p) := by
  cases fuel with
  | zero => simp [DataW.trod] at h
  | succ fuel =>
    simp only [DataW.trod, Tryd.underlying105, ceSh] at h
    split at h
    · rename_i hl
      obtain ⟨ys, hm, hx⟩ := Option.map_eq_some_iff.1 h
      simp only [List.mapM_cons, List.mapM_nil, Option.bind_eq_bind, Option.bind_eq_some_iff, ci3, ci71, ci103] at hm
      obtain ⟨b0, h0, r1, ⟨b1, h1, r2, ⟨b2, h2, r3, ⟨b3, h3, r4, ⟨b4, h4, r5, ⟨b5, h5, r6, ⟨b6, h6, r7, ⟨b7, h7, r8, e8, e7⟩, e6⟩, e5⟩, e4⟩, e3⟩, e2⟩, e1⟩, e0⟩ := hm
      simp only [pure, Option.some.injEq] at e0 e1 e2 e3 e4 e5 e6 e7 e8
      subst e8 e7 e6 e5 e4 e3 e2 e1 e0
      rcases part with _ | ⟨p0, _ | ⟨p1, _ | ⟨p2, _ | ⟨p3, _ | ⟨p4, _ | ⟨p5, _ | ⟨p6, _ | ⟨p7, _ | ⟨p8, rest⟩⟩⟩⟩⟩⟩⟩⟩⟩ <;> simp only [List.length_cons, List.length_nil] at hl <;> try omega
      simp only [List.drop_succ_cons, List.drop_zero, List.take_succ_cons, List.take_zero] at h0 h1 h2 h3 h4 h5 h6 h7
      obtain ⟨n0, c0, rfl, _⟩ := DataW.trod_int Tryd.underlying71 h0
      obtain ⟨n1, c1, rfl, _⟩ := DataW.trod_int Tryd.underlying3 h1
      obtain ⟨n2, c2, rfl, _⟩ := DataW.trod_int Tryd.underlying3 h2
      obtain ⟨n3, c3, rfl, _⟩ := DataW.trod_int Tryd.underlying3 h3
      obtain ⟨n5, c5, rfl, _⟩ := DataW.trod_int Tryd.underlying3 h5
      obtain ⟨n6, c6, rfl, _⟩ := DataW.trod_int Tryd.underlying3 h6
      obtain ⟨n7, c7, rfl, _⟩ := DataW.trod_int Tryd.underlying71 h7
      rw [← hx] at hx1
      simp only [List.map_cons, List.map_nil, DataW.agg.injEq, List.cons.injEq, DataW.lit.injEq, Lit.int.injEq, true_and, and_true] at hx1 c0 c1 c2 c3 c5 c6 c7
      obtain ⟨rfl, rfl, rfl, rfl, rfl, rfl, rfl, rfl⟩ := hx1
      subst c0 c1 c2 c3 c5 c6 c7
      exact ⟨fuel, p4, b4.2, rfl, h4⟩
    · cases h
theorem slice_of {H : Type} {enc : TypeId × Value → H} {w : World} {base : Nat} {sp : Nat → Bool} {held : Bool} {fuel : Nat} {v : Value} {x : DataW H × List MemPlace} (h : DataW.trod enc Tryd.prog w base sp held fuel 103 [v] = some x) : v.oneCell' = true := by
  cases fuel with
  | zero => simp [DataW.trod] at h
  | succ fuel =>
    cases v <;> first | rfl | (simp [DataW.trod, Tryd.underlying103] at h)
theorem table_of {H : Type} {enc : TypeId × Value → H} {w : World} {base : Nat} {sp : Nat → Bool} {held : Bool} {fuel : Nat} {cs : List Value} {ds : List (DataW H)} {p : List MemPlace} (h : DataW.trod enc Tryd.prog w base sp held fuel 106 cs = some (.agg ds, p)) :
    ∀ (i : Nat) (d : DataW H), i < 28 → ds[i]? = some d → ∃ f' b, b.1 = d ∧ DataW.trod enc Tryd.prog w base sp held f' 105 ((cs.drop (i * 8)).take 8) = some b := by
  intro i d hi hd
  cases fuel with
  | zero => simp [DataW.trod] at h
  | succ fuel =>
    simp only [DataW.trod, Tryd.underlying106, ceSh, caSh] at h
    split at h
    · obtain ⟨xs, hm, hx⟩ := Option.map_eq_some_iff.1 h
      obtain ⟨b, hb, hf⟩ := Lib.mapM_at hm i i (by simp [hi])
      refine ⟨fuel, b, ?_, hf⟩
      simp only [Prod.mk.injEq, DataW.agg.injEq] at hx
      rw [← hx.1] at hd
      simpa [hb] using hd
    · cases h
abbrev lT : List (String × DataW Unit) := [("scoria/tree.shapes", Rows.laid_scoria_tree_shapes)]
theorem rows_of {ds : List (DataW Unit)} (hds : (Rows.laid_scoria_tree_shapes : DataW Unit) = .agg ds) : ∀ (i : Nat) (s : Shp), shT[i]? = some s → i < 28 ∧ ∃ d : DataW Unit, ds[i]? = some (.agg [.lit (.int .i64 s.1), .lit (.int .i64 s.2.1), .lit (.int .i64 s.2.2.1), .lit (.int .i64 s.2.2.2.1), d, .lit (.int .i64 s.2.2.2.2.2.1), .lit (.int .i64 s.2.2.2.2.2.2.1), .lit (.int .i64 s.2.2.2.2.2.2.2)]) := by
  unfold Rows.laid_scoria_tree_shapes at hds
  injection hds with hds
  subst hds
  exact fun i s hi => match i, hi with
  | 0, hi => by cases hi; exact ⟨by omega, _, rfl⟩
  | 1, hi => by cases hi; exact ⟨by omega, _, rfl⟩
  | 2, hi => by cases hi; exact ⟨by omega, _, rfl⟩
  | 3, hi => by cases hi; exact ⟨by omega, _, rfl⟩
  | 4, hi => by cases hi; exact ⟨by omega, _, rfl⟩
  | 5, hi => by cases hi; exact ⟨by omega, _, rfl⟩
  | 6, hi => by cases hi; exact ⟨by omega, _, rfl⟩
  | 7, hi => by cases hi; exact ⟨by omega, _, rfl⟩
  | 8, hi => by cases hi; exact ⟨by omega, _, rfl⟩
  | 9, hi => by cases hi; exact ⟨by omega, _, rfl⟩
  | k + 10, hi => by simp [shT] at hi
theorem sh_of {W : World} (h : laidMetH Tryd.prog lT W) : ShT W := by
  rw [MakeChecks.laidMetH_plain _ _ _ (by kernel_rfl)] at h
  obtain ⟨ps, ⟨g', t', cs, fuel, p, q, hg', ht', hvar, hd, _, _⟩, _⟩ := h
  obtain rfl := Option.some.inj (gSh.symm.trans hg')
  obtain rfl := Option.some.inj (gtSh.symm.trans ht')
  obtain ⟨ds, hds⟩ : ∃ ds, (Rows.laid_scoria_tree_shapes : DataW Unit) = .agg ds := ⟨_, rfl⟩
  rw [hds] at hd
  intro i s hi
  obtain ⟨hlt, d, hrow⟩ := rows_of hds i s hi
  obtain ⟨f', b, hb, ht⟩ := table_of hd i _ hlt hrow
  obtain ⟨f2, v, p2, hp, hv⟩ := entry_of ht hb
  refine ⟨v, slice_of hv, fun j u hj => ?_⟩
  rw [World.var?_cell gSh hvar]
  have hj8 : j < 8 := by have := (List.getElem?_eq_some_iff.1 hj).1; simpa [shC] using this
  have h2 : ((cs.toList.drop (i * 8)).take 8)[j]? = some u := by rw [hp]; exact hj
  rw [List.getElem?_take_of_lt hj8, List.getElem?_drop] at h2
  simpa using h2
theorem doorT (os : Os) (args : Array Value) : laidMetH Tryd.prog lT ((World.doorLaid Tryd.prog 4000 os).forCall (fun _ _ => 0) ⟨#[], args, []⟩).memory :=
  laidMetH_of_parts3 (fuel := 8) (laidMet_of_run' 8 (by kernel_rfl) (by kernel_rfl)) (by kernel_rfl) (by kernel_rfl)
end Go.Proofs.YtdlhkhnoigbhjaaDoor.Wi
namespace Go.Proofs.YtdlhkhnoigbhjaaDoor.Wi
open Go Go.RowKit Lb

theorem take_ne {α : Type} {A B : List α} {k : Nat} {x y : α} (ha : A[k]? = some x) (hb : B[k]? = some y) (h : x ≠ y) : A ≠ B := by
  intro e; subst e; rw [ha] at hb; exact h (Option.some.inj hb)
theorem take_step {α : Type} {A B : List α} {k : Nat} {x : α} (ha : A[k]? = some x) (hb : B[k]? = some x) (ht : A.take k = B.take k) : A.take (k + 1) = B.take (k + 1) := by
  rw [List.take_add_one, List.take_add_one, ha, hb, ht]

set_option maxHeartbeats 800000 in
theorem same_any (v1 v2 : Value) (n1 n2 : Nat) (A B : List UInt8) (w : World) (h1 : Rd w 1 v1 n1 (bv A)) (h2 : Rd w 1 v2 n2 (bv B)) :
    Calls Tryd.prog 36 #[v1, v2] w fun e w' => e = .returned (.bool (decide (A = B))) ∧ ∃ n, w' = w.drewN n := by
  have l1 := h1.len
  have l2 := h2.len
  unfold maxLen at l1 l2
  have e1 : A.length = n1 := by have := h1.1; rw [bv_length] at this; omega
  have e2 : B.length = n2 := by have := h2.1; rw [bv_length] at this; omega
  have HE1 := Lib.hid e1
  have HE2 := Lib.hid e2
  by_cases hne : n1 = n2
  · obtain rfl := hne
    clear e1 e2
    go_enter Tryd.func36, Tryd.ntmps36
    go_wp2_with (first | ((with_reducible refine' wpList_len_rd (.tmp 6) 49 rfl ?_ Tryd.underlying49 ?_ h1 ?_); exact rfl; exact rfl; simp only [Act.put, List.setIfInBounds_toArray, List.set_cons_succ, List.set_cons_zero]) | ((with_reducible refine' wpList_len_rd (.tmp 8) 49 rfl ?_ Tryd.underlying49 ?_ h2 ?_); exact rfl; exact rfl; simp only [Act.put, List.setIfInBounds_toArray, List.set_cons_succ, List.set_cons_zero]))
    go_loopw [5] (fun i wr => ∃ k : Nat, k ≤ n1 ∧ i = .int .i64 k ∧ A.take k = B.take k ∧ ∃ nq, wr = w.drewN nq) (fun i _ => n1 - (intOf i).toNat)
    case atStart => exact ⟨0, Nat.zero_le _, rfl, rfl, 0, rfl⟩
    case round =>
      obtain ⟨k, hk, rfl, ht, nq0, rfl⟩ := hrel
      have HT := Lib.hid ht
      clear ht
      have g1 := h1.drewN nq0
      have g2 := h2.drewN nq0
      by_cases hlt : k < n1
      · obtain ⟨x, hx⟩ : ∃ x, A[k]? = some x := get_lt (by rw [HE1.out]; exact hlt)
        obtain ⟨y, hy⟩ : ∃ y, B[k]? = some y := get_lt (by rw [HE2.out]; exact hlt)
        have C1 := Lib.hid (bv_at hx)
        have C2 := Lib.hid (bv_at hy)
        by_cases he : x = y
        · subst he
          have HT' := Lib.hid (take_step hx hy HT.out)
          clear hx hy
          go_wp2_with (first | ((with_reducible refine' wpList_len_rd (.tmp 12) 49 rfl ?_ Tryd.underlying49 ?_ h1 ?_); exact rfl; exact rfl; simp only [Act.put, List.setIfInBounds_toArray, List.set_cons_succ, List.set_cons_zero]) | (refine wp_region_quiet_lit (by kernel_rfl) (by kernel_rfl) ?_; (repeat (first | ((with_reducible refine' wpQuiet_at1_rd (.tmp 17) (.tmp 18) 49 rfl ?_ Tryd.underlying49 sz_u8 ?_ g1 (k) ?_ ?_ ?_); exact rfl; exact rfl; (show (_ : Int) = _; omega); omega; simp only [Act.put, List.setIfInBounds_toArray, List.set_cons_succ, List.set_cons_zero]) | ((with_reducible refine' wpQuiet_load_rd (fun _ h => h) (.tmp 19) 5 rfl ?_ ld_u8 ?_ g1 (C1.out) ?_); exact rfl; exact rfl; simp only [Act.put, List.setIfInBounds_toArray, List.set_cons_succ, List.set_cons_zero]) | ((with_reducible refine' wpQuiet_at1_rd (.tmp 21) (.tmp 22) 49 rfl ?_ Tryd.underlying49 sz_u8 ?_ g2 (k) ?_ ?_ ?_); exact rfl; exact rfl; (show (_ : Int) = _; omega); omega; simp only [Act.put, List.setIfInBounds_toArray, List.set_cons_succ, List.set_cons_zero]) | ((with_reducible refine' wpQuiet_load_rd (fun _ h => h) (.tmp 23) 5 rfl ?_ ld_u8 ?_ g2 (C2.out) ?_); exact rfl; exact rfl; simp only [Act.put, List.setIfInBounds_toArray, List.set_cons_succ, List.set_cons_zero]) | go_big_quiet_step (fail))); refine wpQuiet_nil ?_; intro _ hw'; obtain ⟨nq, hw''⟩ := hw'; subst hw''))
          go_roundw
          case rel => exact ⟨k + 1, by omega, by go_num, HT'.out, nq0 + nq, by first | rfl | rw [World.drewN_drewN]⟩
          case measure => simp [intOf]; omega
        · have hb : ((x.toNat : Int) != (y.toNat : Int)) = true := by rw [bne_iff_ne]; intro h; exact he (UInt8.toNat_inj.1 (by omega))
          have hn : decide (A = B) = false := decide_eq_false_iff_not.2 (take_ne hx hy he)
          have HN := Lib.hid hn
          clear he hx hy hn
          go_wp2_with (first | ((with_reducible refine' wpList_len_rd (.tmp 12) 49 rfl ?_ Tryd.underlying49 ?_ h1 ?_); exact rfl; exact rfl; simp only [Act.put, List.setIfInBounds_toArray, List.set_cons_succ, List.set_cons_zero]) | (refine wp_region_quiet_lit (by kernel_rfl) (by kernel_rfl) ?_; (repeat (first | ((with_reducible refine' wpQuiet_at1_rd (.tmp 17) (.tmp 18) 49 rfl ?_ Tryd.underlying49 sz_u8 ?_ g1 (k) ?_ ?_ ?_); exact rfl; exact rfl; (show (_ : Int) = _; omega); omega; simp only [Act.put, List.setIfInBounds_toArray, List.set_cons_succ, List.set_cons_zero]) | ((with_reducible refine' wpQuiet_load_rd (fun _ h => h) (.tmp 19) 5 rfl ?_ ld_u8 ?_ g1 (C1.out) ?_); exact rfl; exact rfl; simp only [Act.put, List.setIfInBounds_toArray, List.set_cons_succ, List.set_cons_zero]) | ((with_reducible refine' wpQuiet_at1_rd (.tmp 21) (.tmp 22) 49 rfl ?_ Tryd.underlying49 sz_u8 ?_ g2 (k) ?_ ?_ ?_); exact rfl; exact rfl; (show (_ : Int) = _; omega); omega; simp only [Act.put, List.setIfInBounds_toArray, List.set_cons_succ, List.set_cons_zero]) | ((with_reducible refine' wpQuiet_load_rd (fun _ h => h) (.tmp 23) 5 rfl ?_ ld_u8 ?_ g2 (C2.out) ?_); exact rfl; exact rfl; simp only [Act.put, List.setIfInBounds_toArray, List.set_cons_succ, List.set_cons_zero]) | go_big_quiet_step (fail))); refine wpQuiet_nil ?_; intro _ hw'; obtain ⟨nq, hw''⟩ := hw'; subst hw''))
          go_ret
          exact ⟨by rw [HN.out]; rfl, nq0 + nq, by first | rfl | rw [World.drewN_drewN]⟩
      · obtain rfl : k = n1 := by omega
        have he : decide (A = B) = true := by
          have h := HT.out
          rw [List.take_of_length_le (by rw [HE1.out]; omega), List.take_of_length_le (by rw [HE2.out]; omega)] at h
          exact decide_eq_true h
        have HE := Lib.hid he
        clear he
        go_wp2_with (first | ((with_reducible refine' wpList_len_rd (.tmp 12) 49 rfl ?_ Tryd.underlying49 ?_ h1 ?_); exact rfl; exact rfl; simp only [Act.put, List.setIfInBounds_toArray, List.set_cons_succ, List.set_cons_zero]))
        go_ret
        exact ⟨by rw [HE.out]; rfl, nq0, rfl⟩
  · have hne' : ((n1 : Int) != (n2 : Int)) = true := by rw [bne_iff_ne]; omega
    have hAB : decide (A = B) = false := by rw [decide_eq_false_iff_not]; intro h; subst h; omega
    have HA := Lib.hid hAB
    clear e1 e2 hAB
    go_enter Tryd.func36, Tryd.ntmps36
    go_wp2_with (first | ((with_reducible refine' wpList_len_rd (.tmp 6) 49 rfl ?_ Tryd.underlying49 ?_ h1 ?_); exact rfl; exact rfl; simp only [Act.put, List.setIfInBounds_toArray, List.set_cons_succ, List.set_cons_zero]) | ((with_reducible refine' wpList_len_rd (.tmp 8) 49 rfl ?_ Tryd.underlying49 ?_ h2 ?_); exact rfl; exact rfl; simp only [Act.put, List.setIfInBounds_toArray, List.set_cons_succ, List.set_cons_zero]))
    go_ret
    exact ⟨by rw [HA.out]; rfl, 0, rfl⟩
end Go.Proofs.YtdlhkhnoigbhjaaDoor.Wi
namespace Go.Proofs.YtdlhkhnoigbhjaaDoor.Wi
open Go Go.RowKit Pu Lb

/-- three numbers as a result -/
def R3 (x : Int × Nat × Nat) : Value := .tuple #[.int .i64 x.1, .int .i64 (x.2.1 : Int), .int .i64 (x.2.2 : Int)]

theorem rd_drew0 {w : World} {s : Nat} {v : Value} {n : Nat} {xs : List Value} (h : Rd w s v n xs) : Rd w.drew s v n xs := h
theorem xor_cell (c : UInt8) (neg : Bool) : bits .xor .u8 (c.toNat : Int) (fb neg) = ((fl neg c).toNat : Int) := by
  have hc := u8_lt c
  have hb := fb_bd neg
  rw [u8_xor _ _ (by omega) (by omega) hb.1 (by omega)]
  unfold fl
  rw [UInt8.toNat_xor]
  cases neg <;> simp [fb]

theorem not_back (m : Nat) (h : m < 9223372036854775808) : wrap64 (bits .xor .u64 IntKind.u64.max (m : Int)) = -1 - (m : Int) := by
  have e2 : IntKind.u64.max = 18446744073709551615 := by decide
  rw [e2, u64_xor _ _ (by omega) (by omega) (by omega) (by omega)]
  have e3 : (18446744073709551615 : Int).toNat = 2 ^ 64 - 1 := by decide
  rw [e3, Int.toNat_natCast, Nat.xor_comm, xor_ones 64 _ (by omega)]
  unfold wrap64
  omega
theorem fin_yes {neg : Bool} {ds : List UInt8} {k m : Nat} {x : Int} (hz : ¬(0 < k ∧ ds.head? = some 0)) (hl : ds.length = k) (hm : m = val ds) (h : m < 9223372036854775808) (hx : x = if neg then -1 - (m : Int) else m) :
    Ending.returned (R3 (fin neg ds)) = .returned (.tuple #[.int .i64 x, .int .i64 ((k : Int) + 1), .int .i64 0]) := by
  have hd : ds.head? ≠ some 0 := by
    intro h0
    apply hz
    refine ⟨?_, h0⟩
    cases ds with
    | nil => simp at h0
    | cons a l => rw [← hl]; simp
  rw [fin, if_neg (by rintro (h1 | h1); · exact hd h1
                      · omega), hl, ← hm, ← hx]
  rfl
theorem or_cell (m d : Nat) (hm : m < 72057594037927936) (hd : d < 256) : bits .or .u64 ((m : Int) * 256) (d : Int) = ((256 * m + d : Nat) : Int) := by
  have e : (m : Int) * 256 = ((m * 256 : Nat) : Int) := by omega
  rw [e, u64_or_nat _ _ (by omega) (by omega), nat_join 8 _ _ (by omega) (by omega), Nat.mul_comm]

set_option maxRecDepth 100000 in
set_option maxHeartbeats 1600000 in
theorem getint_any (v : Value) (n : Nat) (b : List UInt8) (w : World) (hv : Rd w 1 v n (bv b)) :
    Calls Tryd.prog 88 #[v] w fun e w' => e = .returned (R3 (getInt b)) ∧ w = w' := by
  have hn := hv.len
  unfold maxLen at hn
  have hl : b.length = n := by have := hv.1; rw [bv_length] at this; omega
  cases b with
  | nil =>
    obtain rfl : n = 0 := by simpa using hl.symm
    clear hl
    go_enter Tryd.func88, Tryd.ntmps88
    go_wp2_with ((with_reducible refine' wpList_len_rd (.tmp 10) 49 rfl ?_ Tryd.underlying49 ?_ hv ?_); exact rfl; exact rfl; simp only [Act.put, List.setIfInBounds_toArray, List.set_cons_succ, List.set_cons_zero])
    go_ret3
    exact ⟨rfl, rfl⟩
  | cons c r =>
    have c0 := Lib.hid (bv_at (l := c :: r) (k := 0) (x := c) rfl)
    have hn1 : 0 < n := by rw [← hl]; simp
    have hc := u8_lt c
    obtain ⟨neg, hneg⟩ : ∃ neg : Bool, neg = decide (c.toNat < 128) := ⟨_, rfl⟩
    have hq := fl_head c
    rw [← hneg] at hq
    have hx := xor_cell c neg
    have HL := Lib.hid hl; clear hl
    obtain ⟨k, hqe⟩ : ∃ k, (fl neg c).toNat = 128 + k := ⟨_, (Nat.add_sub_cancel' hq).symm⟩
    rw [hqe] at hx
    rw [Int.natCast_add, Int.cast_ofNat_Int] at hx
    have hk6 : (128 : Int) + k - 128 = k := by omega
    have hq2 : k < 128 := by have := u8_lt (fl neg c); omega
    have hfb := fb_bd neg
    have hd : decide ((c.toNat : Int) < 128) = neg := by rw [hneg, Bool.eq_iff_iff, decide_eq_true_iff, decide_eq_true_iff]; omega
    have HN := Lib.hid hneg; clear hneg
    have HQ := Lib.hid hqe; clear hqe hq
    go_enter Tryd.func88, Tryd.ntmps88
    go_upto_if 16 with (first | ((with_reducible refine' wpList_len_rd (.tmp 10) 49 rfl ?_ Tryd.underlying49 ?_ hv ?_); exact rfl; exact rfl; simp only [Act.put, List.setIfInBounds_toArray, List.set_cons_succ, List.set_cons_zero]) | ((with_reducible refine' wpList_at1_rd (.tmp 13) (.const (.int .i64 0)) 49 rfl ?_ Tryd.underlying49 sz_u8 ?_ hv (0) ?_ ?_ ?_); exact rfl; exact rfl; (show (_ : Int) = _; omega); omega; simp only [Act.put, List.setIfInBounds_toArray, List.set_cons_succ, List.set_cons_zero]) | ((with_reducible refine' wpList_load_rd (.tmp 14) 5 rfl ?_ ld_u8 ?_ hv (c0.out) ?_); exact rfl; exact rfl; simp only [Act.put, List.setIfInBounds_toArray, List.set_cons_succ, List.set_cons_zero]))
    go_cut [5] (fun s5 w' => s5 = .int .u8 (fb neg) ∧ w = w')
    case first =>
      go_wp2
      all_goals
        go_meet
        case rel => exact ⟨by first | rw [‹neg = true›]; rfl | rw [‹neg = false›]; rfl, rfl⟩
    case rest =>
      obtain ⟨rfl, rfl⟩ := hcut
      by_cases hk8 : 8 < k
      · go_wp2_with (first | ((with_reducible refine' wpList_len_rd (.tmp 28) 49 rfl ?_ Tryd.underlying49 ?_ hv ?_); exact rfl; exact rfl; simp only [Act.put, List.setIfInBounds_toArray, List.set_cons_succ, List.set_cons_zero]) | ((with_reducible refine' wpList_at1_rd (.tmp 17) (.const (.int .i64 0)) 49 rfl ?_ Tryd.underlying49 sz_u8 ?_ hv (0) ?_ ?_ ?_); exact rfl; exact rfl; (show (_ : Int) = _; omega); omega; simp only [Act.put, List.setIfInBounds_toArray, List.set_cons_succ, List.set_cons_zero]) | ((with_reducible refine' wpList_load_rd (.tmp 18) 5 rfl ?_ ld_u8 ?_ hv (c0.out) ?_); exact rfl; exact rfl; simp only [Act.put, List.setIfInBounds_toArray, List.set_cons_succ, List.set_cons_zero]))
        go_ret3
        refine ⟨?_, rfl⟩
        rw [getInt, ← HN.out, HQ.out, if_pos (by omega)]
        rfl
      · by_cases hlk : n ≤ k
        · go_wp2_with (first | ((with_reducible refine' wpList_len_rd (.tmp 28) 49 rfl ?_ Tryd.underlying49 ?_ hv ?_); exact rfl; exact rfl; simp only [Act.put, List.setIfInBounds_toArray, List.set_cons_succ, List.set_cons_zero]) | ((with_reducible refine' wpList_at1_rd (.tmp 17) (.const (.int .i64 0)) 49 rfl ?_ Tryd.underlying49 sz_u8 ?_ hv (0) ?_ ?_ ?_); exact rfl; exact rfl; (show (_ : Int) = _; omega); omega; simp only [Act.put, List.setIfInBounds_toArray, List.set_cons_succ, List.set_cons_zero]) | ((with_reducible refine' wpList_load_rd (.tmp 18) 5 rfl ?_ ld_u8 ?_ hv (c0.out) ?_); exact rfl; exact rfl; simp only [Act.put, List.setIfInBounds_toArray, List.set_cons_succ, List.set_cons_zero]))
          go_ret3
          refine ⟨?_, rfl⟩
          have := HL.out
          rw [List.length_cons] at this
          rw [getInt, ← HN.out, HQ.out, if_neg (by omega), if_pos (by omega)]
          rfl
        · have hgt : getInt (c :: r) = fin neg ((r.take k).map (fl neg)) := by
            have := HL.out
            rw [List.length_cons] at this
            rw [getInt, ← HN.out, HQ.out, if_neg (by omega), if_neg (by omega), show 128 + k - 128 = k by omega]
          have hlr : k ≤ r.length := by have := HL.out; rw [List.length_cons] at this; omega
          have HG := Lib.hid hgt; clear hgt
          obtain ⟨ds, hds⟩ : ∃ ds, ds = (r.take k).map (fl neg) := ⟨_, rfl⟩
          have hdl : ds.length = k := by rw [hds, List.length_map, List.length_take]; omega
          have HD := Lib.hid hds; clear hds
          have HDL := Lib.hid hdl; clear hdl
          by_cases hz : 0 < k ∧ ds.head? = some 0
          · obtain ⟨hk0, hz⟩ := hz
            obtain ⟨d, r', rfl⟩ : ∃ d r', r = d :: r' := by cases r with | nil => (simp at hlr; omega) | cons d r' => exact ⟨d, r', rfl⟩
            have c1 := Lib.hid (bv_at (l := c :: d :: r') (k := 1) (x := d) rfl)
            have hx2 := xor_cell d neg
            have hd0 : (fl neg d).toNat = 0 := by
              rw [HD.out, List.head?_map] at hz
              cases k with
              | zero => omega
              | succ k => simp at hz; rw [hz]; rfl
            rw [hd0] at hx2
            have HZ := Lib.hid hz; clear hz
            have HD0 := Lib.hid hd0; clear hd0
            go_wp2_with (first | ((with_reducible refine' wpList_len_rd (.tmp 28) 49 rfl ?_ Tryd.underlying49 ?_ hv ?_); exact rfl; exact rfl; simp only [Act.put, List.setIfInBounds_toArray, List.set_cons_succ, List.set_cons_zero]) | ((with_reducible refine' wpList_at1_rd (.tmp 17) (.const (.int .i64 0)) 49 rfl ?_ Tryd.underlying49 sz_u8 ?_ hv (0) ?_ ?_ ?_); exact rfl; exact rfl; (show (_ : Int) = _; omega); omega; simp only [Act.put, List.setIfInBounds_toArray, List.set_cons_succ, List.set_cons_zero]) | ((with_reducible refine' wpList_load_rd (.tmp 18) 5 rfl ?_ ld_u8 ?_ hv (c0.out) ?_); exact rfl; exact rfl; simp only [Act.put, List.setIfInBounds_toArray, List.set_cons_succ, List.set_cons_zero]) | ((with_reducible refine' wpList_at1_rd (.tmp 36) (.const (.int .i64 1)) 49 rfl ?_ Tryd.underlying49 sz_u8 ?_ hv (1) ?_ ?_ ?_); exact rfl; exact rfl; (show (_ : Int) = _; omega); omega; simp only [Act.put, List.setIfInBounds_toArray, List.set_cons_succ, List.set_cons_zero]) | ((with_reducible refine' wpList_load_rd (.tmp 37) 5 rfl ?_ ld_u8 ?_ hv (c1.out) ?_); exact rfl; exact rfl; simp only [Act.put, List.setIfInBounds_toArray, List.set_cons_succ, List.set_cons_zero]))
            go_ret3
            refine ⟨?_, rfl⟩
            rw [HG.out, fin, if_pos (.inl (by rw [← HD.out]; exact HZ.out))]
            rfl
          · go_upto_region 11 with (first | ((with_reducible refine' wpList_len_rd (.tmp 28) 49 rfl ?_ Tryd.underlying49 ?_ hv ?_); exact rfl; exact rfl; simp only [Act.put, List.setIfInBounds_toArray, List.set_cons_succ, List.set_cons_zero]) | ((with_reducible refine' wpList_at1_rd (.tmp 17) (.const (.int .i64 0)) 49 rfl ?_ Tryd.underlying49 sz_u8 ?_ hv (0) ?_ ?_ ?_); exact rfl; exact rfl; (show (_ : Int) = _; omega); omega; simp only [Act.put, List.setIfInBounds_toArray, List.set_cons_succ, List.set_cons_zero]) | ((with_reducible refine' wpList_load_rd (.tmp 18) 5 rfl ?_ ld_u8 ?_ hv (c0.out) ?_); exact rfl; exact rfl; simp only [Act.put, List.setIfInBounds_toArray, List.set_cons_succ, List.set_cons_zero]))
            go_cut [32] (fun s32 w' => s32 = .bool false ∧ w = w')
            case first =>
              by_cases hk0 : 0 < k
              · obtain ⟨d, r', rfl⟩ : ∃ d r', r = d :: r' := by cases r with | nil => (simp at hlr; omega) | cons d r' => exact ⟨d, r', rfl⟩
                have c1 := Lib.hid (bv_at (l := c :: d :: r') (k := 1) (x := d) rfl)
                have hx2 := xor_cell d neg
                have hne : (((fl neg d).toNat : Int) == 0) = false := by
                  rw [beq_eq_false_iff_ne]
                  intro h0
                  apply hz
                  refine ⟨hk0, ?_⟩
                  rw [HD.out, List.head?_map]
                  cases k with
                  | zero => omega
                  | succ k => simp; exact UInt8.toNat_inj.1 (by rw [show (0 : UInt8).toNat = 0 from rfl]; omega)
                have HZ := Lib.hid hz; clear hz
                go_wp2_with (first | ((with_reducible refine' wpList_at1_rd (.tmp 36) (.const (.int .i64 1)) 49 rfl ?_ Tryd.underlying49 sz_u8 ?_ hv (1) ?_ ?_ ?_); exact rfl; exact rfl; (show (_ : Int) = _; omega); omega; simp only [Act.put, List.setIfInBounds_toArray, List.set_cons_succ, List.set_cons_zero]) | ((with_reducible refine' wpList_load_rd (.tmp 37) 5 rfl ?_ ld_u8 ?_ hv (c1.out) ?_); exact rfl; exact rfl; simp only [Act.put, List.setIfInBounds_toArray, List.set_cons_succ, List.set_cons_zero]))
                go_meet
                case rel => exact ⟨rfl, rfl⟩
              · go_wp2
                go_meet
                case rel => exact ⟨rfl, rfl⟩
            case rest =>
              obtain ⟨rfl, rfl⟩ := hcut
              have HZ := Lib.hid hz; clear hz
              go_wp2_with (first | ((with_reducible refine' wpList_cut_b (.tmp 43) (.const (.int .i64 1)) (.tmp 45) 49 rfl ?_ Tryd.underlying49 sz_u8 ?_ hv (1) (k + 1) ?_ ?_ ?_ ?_ ?_); exact rfl; exact rfl; (show (_ : Int) = _; omega); (show (_ : Int) = _; omega); omega; omega; intro v1 hv1; simp only [Act.put, List.setIfInBounds_toArray, List.set_cons_succ, List.set_cons_zero]) | ((with_reducible refine' wpList_len_rd (.tmp 46) 49 rfl ?_ Tryd.underlying49 ?_ hv1 ?_); exact rfl; exact rfl; simp only [Act.put, List.setIfInBounds_toArray, List.set_cons_succ, List.set_cons_zero]))
              go_loop [7, 48] (fun m i => ∃ j : Nat, j ≤ k ∧ i = .int .i64 j ∧ m = .int .u64 (val (ds.take j))) (fun _ i => k - (intOf i).toNat)
              case atStart => exact ⟨0, Nat.zero_le _, rfl, rfl⟩
              case round =>
                obtain ⟨j, hj, rfl, rfl⟩ := hrel
                have hb1 := val_lt (ds.take j)
                rw [List.length_take, HDL.out, Nat.min_eq_left hj] at hb1
                obtain ⟨m, hm⟩ : ∃ m, m = val (ds.take j) := ⟨_, rfl⟩
                rw [← hm] at hb1 ⊢
                have HM := Lib.hid hm; clear hm
                by_cases hjk : j < k
                · obtain ⟨x, hx⟩ : ∃ x, (r.take k)[j]? = some x := get_lt (by rw [List.length_take]; omega)
                  have c2 : (bv (((c :: r).drop 1).take (k + 1 - 1)))[j]? = some (.int .u8 (x.toNat : Int)) := bv_at (by simpa using hx)
                  have C2 := Lib.hid c2
                  have hx3 := xor_cell x neg
                  have hx4 := u8_lt (fl neg x)
                  have hd : ds[j]? = some (fl neg x) := by rw [HD.out, List.getElem?_map, hx]; rfl
                  have hv2 : val (ds.take (j + 1)) = 256 * m + (fl neg x).toNat := by rw [List.take_add_one, hd, HM.out]; exact val_snoc _ _
                  have hm7 : m < 72057594037927936 := by
                    have : 256 ^ j ≤ 256 ^ 7 := Nat.pow_le_pow_right (by omega) (by omega)
                    omega
                  have HV := Lib.hid hv2
                  clear hx hd hv2 c2 hb1
                  go_wp2_with (first | ((with_reducible refine' wpList_at1_rd (.tmp 46) (.tmp 48) 49 rfl ?_ Tryd.underlying49 sz_u8 ?_ hv1 (j) ?_ ?_ ?_); exact rfl; exact rfl; (show (_ : Int) = _; omega); omega; simp only [Act.put, List.setIfInBounds_toArray, List.set_cons_succ, List.set_cons_zero]) | ((with_reducible refine' wpList_load_rd (.tmp 50) 5 rfl ?_ ld_u8 ?_ hv1 (C2.out) ?_); exact rfl; exact rfl; simp only [Act.put, List.setIfInBounds_toArray, List.set_cons_succ, List.set_cons_zero]))
                  rw [or_cell m _ (by omega) hx4]
                  go_round
                  case rel => exact ⟨j + 1, by omega, by go_num, by rw [HV.out]⟩
                  case measure => simp [intOf]; omega
                · go_upto_if 62 with fail
                  have hmv : m = val ds := by rw [HM.out, List.take_of_length_le (by rw [HDL.out]; omega)]
                  have HMV := Lib.hid hmv; clear hmv
                  go_wp2_with fail
                  · have h1 : 0 < (m : Int) / 9223372036854775808 := by assumption
                    go_ret3
                    refine ⟨?_, rfl⟩
                    rw [HG.out, ← HD.out, fin, if_pos (.inr (by rw [← HMV.out]; omega))]
                    rfl
                  · have h1 : (m : Int) / 9223372036854775808 ≤ 0 := by assumption
                    have h2 : 0 < fb neg := by assumption
                    have h3 : neg = true := by cases neg; · simp [fb] at h2
                                               · rfl
                    go_ret3
                    refine ⟨?_, rfl⟩
                    rw [HG.out, ← HD.out]
                    exact (fin_yes HZ.out HDL.out HMV.out (by omega) (by rw [h3, not_back m (by omega)]; rfl)).symm
                  · have h1 : (m : Int) / 9223372036854775808 ≤ 0 := by assumption
                    have h2 : fb neg ≤ 0 := by assumption
                    have h3 : neg = false := by cases neg; · rfl
                                                · simp [fb] at h2
                    go_ret3
                    refine ⟨?_, rfl⟩
                    rw [HG.out, ← HD.out]
                    exact (fin_yes HZ.out HDL.out HMV.out (by omega) (by rw [h3]; rfl)).symm

/-! ### the specification's decoder -/
theorem canon {b : List UInt8} {neg : Bool} {c : UInt8} {r ds : List UInt8} {k m : Nat} {n : Int} (hb : b = c :: r) (hq : (fl neg c).toNat = 128 + k) (hk : k ≤ r.length) (hds : ds = (r.take k).map (fl neg)) (hm : m = val ds)
    (hv : n = if neg then -1 - (m : Int) else m) : (enc n = b.take (k + 1)) ↔ ¬(0 < k ∧ ds.head? = some 0) := by
  have hl : ds.length = k := by rw [hds, List.length_map, List.length_take]; omega
  obtain ⟨e1, e2⟩ := mag_sgn neg m
  have hc : c = fl neg (bt (128 + k)) := by
    apply fl_inj (neg := neg)
    rw [fl_fl]
    apply u8_ext
    have := u8_lt (fl neg c)
    rw [bt_toNat]; omega
  have hr : r.take k = ds.map (fl neg) := by rw [hds, fl_map]
  subst hb
  rw [List.take_succ_cons, hr]
  subst hv
  unfold enc
  rw [e1, e2, List.map_cons]
  constructor
  · intro h ⟨hk0, h0⟩
    simp only [List.cons.injEq] at h
    have h3 : be m (nd m) = ds := by
      have := congrArg (List.map (fl neg)) h.2
      rwa [fl_map, fl_map] at this
    exact be_head m (by rw [h3]; exact h0)
  · intro h
    have hd : ds.head? ≠ some 0 := by
      intro h0
      apply h
      refine ⟨?_, h0⟩
      cases ds with
      | nil => simp at h0
      | cons a l => rw [← hl]; simp
    have hnd := nd_val hd
    rw [hm, hnd, be_val, hl, ← hc]

theorem get_of_take {α : Type} {l : List α} {k j : Nat} {x : α} (h : (l.take k)[j]? = some x) : l[j]? = some x := by
  rw [List.getElem?_take] at h
  split at h
  · exact h
  · cases h
theorem val_take (l : List UInt8) (j : Nat) : val (l.take j) ≤ val l := by
  conv => rhs; rw [← List.take_append_drop j l]
  unfold val
  rw [List.foldl_append, val_foldl (l.drop j)]
  have h1 : 1 ≤ 256 ^ (l.drop j).length := Nat.pow_pos (by omega)
  have h2 := Nat.mul_le_mul_left (List.foldl (fun m c => 256 * m + c.toNat) 0 (l.take j)) h1
  omega

set_option maxRecDepth 100000 in
set_option maxHeartbeats 1600000 in
theorem refget_any (v : Value) (n : Nat) (b : List UInt8) (w : World) (hv : Rd w 1 v n (bv b)) :
    Calls Tryd.prog 97 #[v] w fun e w' => e = .returned (R3 (getInt b)) ∧ Below w.heap.size w w' := by
  have hn := hv.len
  unfold maxLen at hn
  have hl : b.length = n := by have := hv.1; rw [bv_length] at this; omega
  cases b with
  | nil =>
    obtain rfl : n = 0 := by simpa using hl.symm
    clear hl
    go_enter Tryd.func97, Tryd.ntmps97
    go_wp2_with ((with_reducible refine' wpList_len_rd (.tmp 11) 49 rfl ?_ Tryd.underlying49 ?_ hv ?_); exact rfl; exact rfl; simp only [Act.put, List.setIfInBounds_toArray, List.set_cons_succ, List.set_cons_zero])
    go_ret3
    exact ⟨rfl, Below.refl _ _⟩
  | cons c r =>
    have c0 := Lib.hid (bv_at (l := c :: r) (k := 0) (x := c) rfl)
    have hn1 : 0 < n := by rw [← hl]; simp
    have hc := u8_lt c
    obtain ⟨neg, hneg⟩ : ∃ neg : Bool, neg = decide (c.toNat < 128) := ⟨_, rfl⟩
    have hq := fl_head c
    rw [← hneg] at hq
    have HL := Lib.hid hl; clear hl
    obtain ⟨k, hqe⟩ : ∃ k, (fl neg c).toNat = 128 + k := ⟨_, (Nat.add_sub_cancel' hq).symm⟩
    have hq2 : k < 128 := by have := u8_lt (fl neg c); omega
    have hd : decide ((c.toNat : Int) < 128) = neg := by rw [hneg, Bool.eq_iff_iff, decide_eq_true_iff, decide_eq_true_iff]; omega
    have HN := Lib.hid hneg; clear hneg
    have HQ := Lib.hid hqe; clear hqe hq
    by_cases h8 : 8 < k
    · have hf : c.toNat < 119 ∨ 136 < c.toNat := by
        have := HQ.out
        cases neg
        · rw [fl_false] at this; omega
        · have := fl_true c; omega
      rcases hf with hf | hf
      · have h119 : decide ((c.toNat : Int) < 119) = true := decide_eq_true (by omega)
        clear hf hd
        go_enter Tryd.func97, Tryd.ntmps97
        go_wp2_with (first | ((with_reducible refine' wpList_len_rd (.tmp 11) 49 rfl ?_ Tryd.underlying49 ?_ hv ?_); exact rfl; exact rfl; simp only [Act.put, List.setIfInBounds_toArray, List.set_cons_succ, List.set_cons_zero]) | ((with_reducible refine' wpList_at1_rd (.tmp 14) (.const (.int .i64 0)) 49 rfl ?_ Tryd.underlying49 sz_u8 ?_ hv (0) ?_ ?_ ?_); exact rfl; exact rfl; (show (_ : Int) = _; omega); omega; simp only [Act.put, List.setIfInBounds_toArray, List.set_cons_succ, List.set_cons_zero]) | ((with_reducible refine' wpList_load_rd (.tmp 15) 5 rfl ?_ ld_u8 ?_ hv (c0.out) ?_); exact rfl; exact rfl; simp only [Act.put, List.setIfInBounds_toArray, List.set_cons_succ, List.set_cons_zero]))
        go_ret3
        exact ⟨by rw [getInt, ← HN.out, HQ.out, if_pos (by omega)]; rfl, Below.refl _ _⟩
      · have h119 : decide ((c.toNat : Int) < 119) = false := decide_eq_false (by omega)
        have h136 : decide (136 < (c.toNat : Int)) = true := decide_eq_true (by omega)
        clear hf hd
        go_enter Tryd.func97, Tryd.ntmps97
        go_wp2_with (first | ((with_reducible refine' wpList_len_rd (.tmp 11) 49 rfl ?_ Tryd.underlying49 ?_ hv ?_); exact rfl; exact rfl; simp only [Act.put, List.setIfInBounds_toArray, List.set_cons_succ, List.set_cons_zero]) | ((with_reducible refine' wpList_at1_rd (.tmp 14) (.const (.int .i64 0)) 49 rfl ?_ Tryd.underlying49 sz_u8 ?_ hv (0) ?_ ?_ ?_); exact rfl; exact rfl; (show (_ : Int) = _; omega); omega; simp only [Act.put, List.setIfInBounds_toArray, List.set_cons_succ, List.set_cons_zero]) | ((with_reducible refine' wpList_load_rd (.tmp 15) 5 rfl ?_ ld_u8 ?_ hv (c0.out) ?_); exact rfl; exact rfl; simp only [Act.put, List.setIfInBounds_toArray, List.set_cons_succ, List.set_cons_zero]))
        go_ret3
        exact ⟨by rw [getInt, ← HN.out, HQ.out, if_pos (by omega)]; rfl, Below.refl _ _⟩
    · have h119 : decide ((c.toNat : Int) < 119) = false := decide_eq_false (by
        have := HQ.out
        cases neg
        · rw [fl_false] at this; omega
        · have := fl_true c; omega)
      have h136 : decide (136 < (c.toNat : Int)) = false := decide_eq_false (by
        have := HQ.out
        cases neg
        · rw [fl_false] at this; omega
        · have := fl_true c; omega)
      cases neg
      · have hk6 : (c.toNat : Int) - 128 = k := by have := HQ.out; rw [fl_false] at this; omega
        have hk8 : ¬ 8 < k := h8
        have hgt : getInt (c :: r) = if r.length < k then (0, 0, 3) else fin false ((r.take k).map (fl false)) := by
          rw [getInt, ← HN.out, HQ.out, if_neg (by omega), show 128 + k - 128 = k by omega]
        have HG := Lib.hid hgt; clear hgt
        go_enter Tryd.func97, Tryd.ntmps97
        by_cases hlk : n ≤ k
        · go_wp2_with (first | ((with_reducible refine' wpList_len_rd (.tmp 11) 49 rfl ?_ Tryd.underlying49 ?_ hv ?_); exact rfl; exact rfl; simp only [Act.put, List.setIfInBounds_toArray, List.set_cons_succ, List.set_cons_zero]) | ((with_reducible refine' wpList_at1_rd (.tmp 14) (.const (.int .i64 0)) 49 rfl ?_ Tryd.underlying49 sz_u8 ?_ hv (0) ?_ ?_ ?_); exact rfl; exact rfl; (show (_ : Int) = _; omega); omega; simp only [Act.put, List.setIfInBounds_toArray, List.set_cons_succ, List.set_cons_zero]) | ((with_reducible refine' wpList_load_rd (.tmp 15) 5 rfl ?_ ld_u8 ?_ hv (c0.out) ?_); exact rfl; exact rfl; simp only [Act.put, List.setIfInBounds_toArray, List.set_cons_succ, List.set_cons_zero]) | ((with_reducible refine' wpList_len_rd (.tmp 30) 49 rfl ?_ Tryd.underlying49 ?_ hv ?_); exact rfl; exact rfl; simp only [Act.put, List.setIfInBounds_toArray, List.set_cons_succ, List.set_cons_zero]))
          go_ret3
          have hl2 := HL.out
          rw [List.length_cons] at hl2
          exact ⟨by rw [HG.out, if_pos (by omega)]; rfl, Below.refl _ _⟩
        · have hlr : k ≤ r.length := by have := HL.out; rw [List.length_cons] at this; omega
          have hl3 : k < n := by omega
          obtain ⟨ds, hds⟩ : ∃ ds, ds = (r.take k).map (fl false) := ⟨_, rfl⟩
          have hdl : ds.length = k := by rw [hds, List.length_map, List.length_take]; omega
          have HD := Lib.hid hds; clear hds
          have HDL := Lib.hid hdl; clear hdl
          go_wp2_with (first | ((with_reducible refine' wpList_len_rd (.tmp 11) 49 rfl ?_ Tryd.underlying49 ?_ hv ?_); exact rfl; exact rfl; simp only [Act.put, List.setIfInBounds_toArray, List.set_cons_succ, List.set_cons_zero]) | ((with_reducible refine' wpList_at1_rd (.tmp 14) (.const (.int .i64 0)) 49 rfl ?_ Tryd.underlying49 sz_u8 ?_ hv (0) ?_ ?_ ?_); exact rfl; exact rfl; (show (_ : Int) = _; omega); omega; simp only [Act.put, List.setIfInBounds_toArray, List.set_cons_succ, List.set_cons_zero]) | ((with_reducible refine' wpList_load_rd (.tmp 15) 5 rfl ?_ ld_u8 ?_ hv (c0.out) ?_); exact rfl; exact rfl; simp only [Act.put, List.setIfInBounds_toArray, List.set_cons_succ, List.set_cons_zero]) | ((with_reducible refine' wpList_len_rd (.tmp 30) 49 rfl ?_ Tryd.underlying49 ?_ hv ?_); exact rfl; exact rfl; simp only [Act.put, List.setIfInBounds_toArray, List.set_cons_succ, List.set_cons_zero]))
          go_loop [7, 8] (fun m i => ∃ j : Nat, j ≤ k ∧ i = .int .i64 ((j : Int) + 1) ∧ m = .int .i64 (val (ds.take j)) ∧ val (ds.take j) < 9223372036854775808) (fun _ i => k + 1 - (intOf i).toNat)
          case atStart => exact ⟨0, Nat.zero_le _, rfl, rfl, by simp [val]⟩
          case round =>
            obtain ⟨j, hj, rfl, rfl, hmb⟩ := hrel
            obtain ⟨m, hm⟩ : ∃ m, m = val (ds.take j) := ⟨_, rfl⟩
            rw [← hm] at hmb ⊢
            have HM := Lib.hid hm; clear hm
            by_cases hjk : j < k
            · obtain ⟨x, hx⟩ : ∃ x, (r.take k)[j]? = some x := get_lt (by rw [List.length_take]; omega)
              have c2 : (bv (c :: r))[j + 1]? = some (.int .u8 (x.toNat : Int)) := bv_at (by rw [List.getElem?_cons_succ]; exact get_of_take hx)
              have C2 := Lib.hid c2
              have hx4 := u8_lt (fl false x)
              have hx6 := u8_lt x
              have hx5 : (x.toNat : Int) = ((fl false x).toNat : Int) := by rw [fl_false]
              have hdx : ds[j]? = some (fl false x) := by rw [HD.out, List.getElem?_map, hx]; rfl
              have hv2 : val (ds.take (j + 1)) = 256 * m + (fl false x).toNat := by rw [List.take_add_one, hdx, HM.out]; exact val_snoc _ _
              have HV := Lib.hid hv2
              clear hx hdx hv2 c2
              by_cases hbig : 36028797018963967 < m
              · have hge : 9223372036854775808 ≤ val ds := by
                  have h1 := val_take ds (j + 1)
                  have h2 := HV.out
                  omega
                have HB := Lib.hid hge; clear hge
                go_wp2_with (first | ((with_reducible refine' wpList_at1_rd (.tmp 40) (.tmp 41) 49 rfl ?_ Tryd.underlying49 sz_u8 ?_ hv (j + 1) ?_ ?_ ?_); exact rfl; exact rfl; (show (_ : Int) = _; omega); omega; simp only [Act.put, List.setIfInBounds_toArray, List.set_cons_succ, List.set_cons_zero]) | ((with_reducible refine' wpList_load_rd (.tmp 42) 5 rfl ?_ ld_u8 ?_ hv (C2.out) ?_); exact rfl; exact rfl; simp only [Act.put, List.setIfInBounds_toArray, List.set_cons_succ, List.set_cons_zero]))
                go_ret3
                have hl2 := HL.out
                rw [List.length_cons] at hl2
                exact ⟨by rw [HG.out, if_neg (by omega), ← HD.out, fin, if_pos (.inr HB.out)]; rfl, Below.refl _ _⟩
              · go_wp2_with (first | ((with_reducible refine' wpList_at1_rd (.tmp 40) (.tmp 41) 49 rfl ?_ Tryd.underlying49 sz_u8 ?_ hv (j + 1) ?_ ?_ ?_); exact rfl; exact rfl; (show (_ : Int) = _; omega); omega; simp only [Act.put, List.setIfInBounds_toArray, List.set_cons_succ, List.set_cons_zero]) | ((with_reducible refine' wpList_load_rd (.tmp 42) 5 rfl ?_ ld_u8 ?_ hv (C2.out) ?_); exact rfl; exact rfl; simp only [Act.put, List.setIfInBounds_toArray, List.set_cons_succ, List.set_cons_zero]))
                go_round
                case rel => exact ⟨j + 1, by omega, by go_num, by rw [HV.out]; go_num, by rw [HV.out]; omega⟩
                case measure => simp [intOf]; omega
            · obtain rfl : j = k := by omega
              have hmv : m = val ds := by rw [HM.out, List.take_of_length_le (by rw [HDL.out]; omega)]
              have HMV := Lib.hid hmv; clear hmv HM
              obtain ⟨v', hsl, hrd⟩ := cut_run_to Tryd.underlying49 sz_u8 hv .i64 (j + 1) (z := (j : Int) + 1) (by omega) (by omega)
              rw [Nat.mul_one, bv_take] at hrd
              have hcan := canon (b := c :: r) (n := (m : Int)) rfl HQ.out hlr HD.out HMV.out rfl
              obtain ⟨pre, hpre⟩ : ∃ pre, pre = (c :: r).take (j + 1) := ⟨_, rfl⟩
              rw [← hpre] at hrd hcan
              have HPR := Lib.hid hpre; clear hpre
              have HC := Lib.hid hcan; clear hcan
              have hwr : IntKind.i64.wrap ((j : Int) + 1) = (j : Int) + 1 := IntWalk.i64_in _ (by omega)
              go_upto_region 24 with fail
              go_cut [67] (fun s w' => s = .bool (decide (0 < j ∧ ds.head? = some 0)) ∧ Below w.heap.size w w')
              case first =>
                go_region_with (first | (go_at_call 83; (with_reducible refine (refint_any _ _ (by omega) (by omega)).mono ?_); rintro e w' ⟨v1, rfl, ho1, hb1⟩) | (go_at_call 36; (with_reducible refine (same_any _ _ _ _ _ _ _ (Rd.of_own ho1) (Rd.below (rd_drew0 hrd) hb1)).mono ?_); rintro e w' ⟨rfl, nq, rfl⟩))
                all_goals
                  go_wp2_with fail
                  go_meet
                case rel =>
                  refine ⟨?_, below_drewN (below_undrew hb1) nq⟩
                  congr 1
                  rw [Bool.eq_iff_iff, Bool.not_eq_true', decide_eq_false_iff_not, decide_eq_true_iff, HC.out]
                  exact Classical.not_not
              case rest =>
                obtain ⟨rfl, hbl⟩ := hcut
                by_cases hz : 0 < j ∧ ds.head? = some 0
                · have hzb : decide (0 < j ∧ ds.head? = some 0) = true := decide_eq_true hz
                  have HZ := Lib.hid hz; clear hz
                  go_wp2_with fail
                  go_ret3
                  have hl2 := HL.out
                  rw [List.length_cons] at hl2
                  exact ⟨by rw [HG.out, if_neg (by omega), ← HD.out, fin, if_pos (.inl HZ.out.2)]; rfl, hbl⟩
                · have hzb : decide (0 < j ∧ ds.head? = some 0) = false := decide_eq_false hz
                  have HZ := Lib.hid hz; clear hz
                  go_wp2_with fail
                  go_ret3
                  have hl2 := HL.out
                  rw [List.length_cons] at hl2
                  refine ⟨?_, hbl⟩
                  rw [HG.out, if_neg (by omega), ← HD.out]
                  exact (fin_yes HZ.out HDL.out HMV.out hmb (x := (m : Int)) rfl).symm
      · have hk6 : (127 : Int) - c.toNat = k := by have := HQ.out; have := fl_true c; omega
        have hk8 : ¬ 8 < k := h8
        have hgt : getInt (c :: r) = if r.length < k then (0, 0, 3) else fin true ((r.take k).map (fl true)) := by
          rw [getInt, ← HN.out, HQ.out, if_neg (by omega), show 128 + k - 128 = k by omega]
        have HG := Lib.hid hgt; clear hgt
        go_enter Tryd.func97, Tryd.ntmps97
        by_cases hlk : n ≤ k
        · go_wp2_with (first | ((with_reducible refine' wpList_len_rd (.tmp 11) 49 rfl ?_ Tryd.underlying49 ?_ hv ?_); exact rfl; exact rfl; simp only [Act.put, List.setIfInBounds_toArray, List.set_cons_succ, List.set_cons_zero]) | ((with_reducible refine' wpList_at1_rd (.tmp 14) (.const (.int .i64 0)) 49 rfl ?_ Tryd.underlying49 sz_u8 ?_ hv (0) ?_ ?_ ?_); exact rfl; exact rfl; (show (_ : Int) = _; omega); omega; simp only [Act.put, List.setIfInBounds_toArray, List.set_cons_succ, List.set_cons_zero]) | ((with_reducible refine' wpList_load_rd (.tmp 15) 5 rfl ?_ ld_u8 ?_ hv (c0.out) ?_); exact rfl; exact rfl; simp only [Act.put, List.setIfInBounds_toArray, List.set_cons_succ, List.set_cons_zero]) | ((with_reducible refine' wpList_len_rd (.tmp 30) 49 rfl ?_ Tryd.underlying49 ?_ hv ?_); exact rfl; exact rfl; simp only [Act.put, List.setIfInBounds_toArray, List.set_cons_succ, List.set_cons_zero]))
          go_ret3
          have hl2 := HL.out
          rw [List.length_cons] at hl2
          exact ⟨by rw [HG.out, if_pos (by omega)]; rfl, Below.refl _ _⟩
        · have hlr : k ≤ r.length := by have := HL.out; rw [List.length_cons] at this; omega
          have hl3 : k < n := by omega
          obtain ⟨ds, hds⟩ : ∃ ds, ds = (r.take k).map (fl true) := ⟨_, rfl⟩
          have hdl : ds.length = k := by rw [hds, List.length_map, List.length_take]; omega
          have HD := Lib.hid hds; clear hds
          have HDL := Lib.hid hdl; clear hdl
          go_wp2_with (first | ((with_reducible refine' wpList_len_rd (.tmp 11) 49 rfl ?_ Tryd.underlying49 ?_ hv ?_); exact rfl; exact rfl; simp only [Act.put, List.setIfInBounds_toArray, List.set_cons_succ, List.set_cons_zero]) | ((with_reducible refine' wpList_at1_rd (.tmp 14) (.const (.int .i64 0)) 49 rfl ?_ Tryd.underlying49 sz_u8 ?_ hv (0) ?_ ?_ ?_); exact rfl; exact rfl; (show (_ : Int) = _; omega); omega; simp only [Act.put, List.setIfInBounds_toArray, List.set_cons_succ, List.set_cons_zero]) | ((with_reducible refine' wpList_load_rd (.tmp 15) 5 rfl ?_ ld_u8 ?_ hv (c0.out) ?_); exact rfl; exact rfl; simp only [Act.put, List.setIfInBounds_toArray, List.set_cons_succ, List.set_cons_zero]) | ((with_reducible refine' wpList_len_rd (.tmp 30) 49 rfl ?_ Tryd.underlying49 ?_ hv ?_); exact rfl; exact rfl; simp only [Act.put, List.setIfInBounds_toArray, List.set_cons_succ, List.set_cons_zero]))
          go_loop [7, 8] (fun m i => ∃ j : Nat, j ≤ k ∧ i = .int .i64 ((j : Int) + 1) ∧ m = .int .i64 (val (ds.take j)) ∧ val (ds.take j) < 9223372036854775808) (fun _ i => k + 1 - (intOf i).toNat)
          case atStart => exact ⟨0, Nat.zero_le _, rfl, rfl, by simp [val]⟩
          case round =>
            obtain ⟨j, hj, rfl, rfl, hmb⟩ := hrel
            obtain ⟨m, hm⟩ : ∃ m, m = val (ds.take j) := ⟨_, rfl⟩
            rw [← hm] at hmb ⊢
            have HM := Lib.hid hm; clear hm
            by_cases hjk : j < k
            · obtain ⟨x, hx⟩ : ∃ x, (r.take k)[j]? = some x := get_lt (by rw [List.length_take]; omega)
              have c2 : (bv (c :: r))[j + 1]? = some (.int .u8 (x.toNat : Int)) := bv_at (by rw [List.getElem?_cons_succ]; exact get_of_take hx)
              have C2 := Lib.hid c2
              have hx4 := u8_lt (fl true x)
              have hx6 := u8_lt x
              have hx5 : (255 : Int) - x.toNat = ((fl true x).toNat : Int) := by rw [fl_true]
              have hdx : ds[j]? = some (fl true x) := by rw [HD.out, List.getElem?_map, hx]; rfl
              have hv2 : val (ds.take (j + 1)) = 256 * m + (fl true x).toNat := by rw [List.take_add_one, hdx, HM.out]; exact val_snoc _ _
              have HV := Lib.hid hv2
              clear hx hdx hv2 c2
              by_cases hbig : 36028797018963967 < m
              · have hge : 9223372036854775808 ≤ val ds := by
                  have h1 := val_take ds (j + 1)
                  have h2 := HV.out
                  omega
                have HB := Lib.hid hge; clear hge
                go_wp2_with (first | ((with_reducible refine' wpList_at1_rd (.tmp 40) (.tmp 41) 49 rfl ?_ Tryd.underlying49 sz_u8 ?_ hv (j + 1) ?_ ?_ ?_); exact rfl; exact rfl; (show (_ : Int) = _; omega); omega; simp only [Act.put, List.setIfInBounds_toArray, List.set_cons_succ, List.set_cons_zero]) | ((with_reducible refine' wpList_load_rd (.tmp 42) 5 rfl ?_ ld_u8 ?_ hv (C2.out) ?_); exact rfl; exact rfl; simp only [Act.put, List.setIfInBounds_toArray, List.set_cons_succ, List.set_cons_zero]))
                go_ret3
                have hl2 := HL.out
                rw [List.length_cons] at hl2
                exact ⟨by rw [HG.out, if_neg (by omega), ← HD.out, fin, if_pos (.inr HB.out)]; rfl, Below.refl _ _⟩
              · go_wp2_with (first | ((with_reducible refine' wpList_at1_rd (.tmp 40) (.tmp 41) 49 rfl ?_ Tryd.underlying49 sz_u8 ?_ hv (j + 1) ?_ ?_ ?_); exact rfl; exact rfl; (show (_ : Int) = _; omega); omega; simp only [Act.put, List.setIfInBounds_toArray, List.set_cons_succ, List.set_cons_zero]) | ((with_reducible refine' wpList_load_rd (.tmp 42) 5 rfl ?_ ld_u8 ?_ hv (C2.out) ?_); exact rfl; exact rfl; simp only [Act.put, List.setIfInBounds_toArray, List.set_cons_succ, List.set_cons_zero]))
                go_round
                case rel => exact ⟨j + 1, by omega, by go_num, by rw [HV.out]; go_num, by rw [HV.out]; omega⟩
                case measure => simp [intOf]; omega
            · obtain rfl : j = k := by omega
              have hmv : m = val ds := by rw [HM.out, List.take_of_length_le (by rw [HDL.out]; omega)]
              have HMV := Lib.hid hmv; clear hmv HM
              obtain ⟨v', hsl, hrd⟩ := cut_run_to Tryd.underlying49 sz_u8 hv .i64 (j + 1) (z := (j : Int) + 1) (by omega) (by omega)
              rw [Nat.mul_one, bv_take] at hrd
              have hcan := canon (b := c :: r) (n := -1 - (m : Int)) rfl HQ.out hlr HD.out HMV.out rfl
              obtain ⟨pre, hpre⟩ : ∃ pre, pre = (c :: r).take (j + 1) := ⟨_, rfl⟩
              rw [← hpre] at hrd hcan
              have HPR := Lib.hid hpre; clear hpre
              have HC := Lib.hid hcan; clear hcan
              have hwr : IntKind.i64.wrap ((j : Int) + 1) = (j : Int) + 1 := IntWalk.i64_in _ (by omega)
              go_upto_region 24 with fail
              go_cut [67] (fun s w' => s = .bool (decide (0 < j ∧ ds.head? = some 0)) ∧ Below w.heap.size w w')
              case first =>
                go_region_with (first | (go_at_call 83; (with_reducible refine (refint_any _ _ (by omega) (by omega)).mono ?_); rintro e w' ⟨v1, rfl, ho1, hb1⟩) | (go_at_call 36; (with_reducible refine (same_any _ _ _ _ _ _ _ (Rd.of_own ho1) (Rd.below (rd_drew0 hrd) hb1)).mono ?_); rintro e w' ⟨rfl, nq, rfl⟩))
                all_goals
                  go_wp2_with fail
                  go_meet
                case rel =>
                  refine ⟨?_, below_drewN (below_undrew hb1) nq⟩
                  congr 1
                  rw [Bool.eq_iff_iff, Bool.not_eq_true', decide_eq_false_iff_not, decide_eq_true_iff, HC.out]
                  exact Classical.not_not
              case rest =>
                obtain ⟨rfl, hbl⟩ := hcut
                by_cases hz : 0 < j ∧ ds.head? = some 0
                · have hzb : decide (0 < j ∧ ds.head? = some 0) = true := decide_eq_true hz
                  have HZ := Lib.hid hz; clear hz
                  go_wp2_with fail
                  go_ret3
                  have hl2 := HL.out
                  rw [List.length_cons] at hl2
                  exact ⟨by rw [HG.out, if_neg (by omega), ← HD.out, fin, if_pos (.inl HZ.out.2)]; rfl, hbl⟩
                · have hzb : decide (0 < j ∧ ds.head? = some 0) = false := decide_eq_false hz
                  have HZ := Lib.hid hz; clear hz
                  go_wp2_with fail
                  go_ret3
                  have hl2 := HL.out
                  rw [List.length_cons] at hl2
                  refine ⟨?_, hbl⟩
                  rw [HG.out, if_neg (by omega), ← HD.out]
                  exact (fin_yes HZ.out HDL.out HMV.out hmb (x := -1 - (m : Int)) rfl).symm
end Go.Proofs.YtdlhkhnoigbhjaaDoor.Wi
namespace Go.Proofs.YtdlhkhnoigbhjaaDoor.Wi
open Go Go.RowKit Pu Lb

theorem encBytes_length (s : List UInt8) : (encBytes s).length = (enc s.length).length + s.length := by simp [encBytes]
theorem enc_len_bd {n : Int} (h0 : -9223372036854775808 ≤ n) (h1 : n ≤ 9223372036854775807) : 1 ≤ (enc n).length ∧ (enc n).length ≤ 9 := by
  rw [enc_length]; have := nd_mag_le h0 h1; omega

set_option maxRecDepth 100000 in
theorem bytes_any (s : List UInt8) (w : World) (hs : s.length ≤ 70368744177664) :
    Calls Tryd.prog 70 #[.string ⟨s.toArray⟩] w fun e w' => ∃ v, e = .returned v ∧ w'.ownsRow w.heap.size 5 1 v (encBytes s).length (bv (encBytes s)) ∧ Below w.heap.size w w' := by
  have hsz := size_str s
  have hb := enc_len_bd (n := s.length) (by omega) (by omega)
  go_enter Tryd.func70, Tryd.ntmps70
  go_wp2_with (first | (go_at_call 84; (with_reducible refine (int_any _ _ (by omega) (by omega)).mono ?_); rintro e w' ⟨v1, rfl, ho1, hb1⟩) | ((with_reducible refine' wpList_append_str (l := s) (.tmp 5) (.tmp 6) 49 9 rfl ?_ Tryd.underlying49 Tryd.underlying9 inf_u8 ?_ ho1 ?_ ?_ hb1.size ?_); exact rfl; exact rfl; exact rfl; omega; intro v2 w2 ho2 hb2; simp only [Act.put, List.setIfInBounds_toArray, List.set_cons_succ, List.set_cons_zero]))
  go_ret
  rw [← bv_append] at ho2
  exact ⟨_, rfl, by rw [encBytes_length]; exact ho2, hb1.trans hb2⟩

set_option maxRecDepth 100000 in
theorem refbytes_any (s : List UInt8) (w : World) (hs : s.length ≤ 70368744177664) :
    Calls Tryd.prog 95 #[.string ⟨s.toArray⟩] w fun e w' => ∃ v, e = .returned v ∧ w'.ownsRow w.heap.size 5 1 v (encBytes s).length (bv (encBytes s)) ∧ Below w.heap.size w w' := by
  have hsz := size_str s
  have hb := enc_len_bd (n := s.length) (by omega) (by omega)
  have h1 := bv_one s
  go_enter Tryd.func95, Tryd.ntmps95
  go_wp2_with (first | (go_at_call 83; (with_reducible refine (refint_any _ _ (by omega) (by omega)).mono ?_); rintro e w' ⟨v1, rfl, ho1, hb1⟩) | ((with_reducible refine' wpList_bytes_l (l := s) (.tmp 6) 9 49 rfl ?_ Tryd.underlying9 Tryd.underlying49 Tryd.underlying5 ?_ (by unfold maxLen; omega) ?_); exact rfl; exact rfl; intro v2 w2 hr2 hb2; simp only [Act.put, List.setIfInBounds_toArray, List.set_cons_succ, List.set_cons_zero]) | ((with_reducible refine' wpList_append_rd (.tmp 5) (.tmp 7) 49 rfl ?_ Tryd.underlying49 inf_u8 ?_ ?_ ?_ (own_below ho1 hb2) ?_ hr2 h1 ?_ ?_ (Nat.le_trans hb1.size hb2.size) ?_); exact rfl; exact rfl; omega; exact rfl; exact rfl; (first | omega | (unfold maxLen; omega)); omega; intro v3 w3 ho3 hb3; simp only [Act.put, List.setIfInBounds_toArray, List.set_cons_succ, List.set_cons_zero]))
  go_ret
  rw [← bv_append] at ho3
  exact ⟨_, rfl, by rw [encBytes_length]; exact ho3, (hb1.trans (hb2.mono hb1.size)).trans hb3⟩
end Go.Proofs.YtdlhkhnoigbhjaaDoor.Wi
namespace Go.Proofs.YtdlhkhnoigbhjaaDoor.Wi
open Go Go.RowKit Pu Lb

/-! ### counters -/
set_option maxRecDepth 100000 in
theorem count_any (v : Value) (n : Nat) (b : List UInt8) (sz : Nat) (w : World) (hv : Rd w 1 v n (bv b)) (hsz : 0 < sz) (hsz2 : sz ≤ 16) :
    Calls Tryd.prog 66 #[v, .int .i64 (sz : Int)] w fun e w' => ∃ x y, e = .returned (.tuple #[.int .i64 x, .int .i64 y, .int .i64 ((cnt b sz).2.2 : Int)]) ∧ ((cnt b sz).2.2 = 0 → x = ((cnt b sz).1 : Int) ∧ y = ((cnt b sz).2.1 : Int)) ∧ w = w' := by
  have hn := hv.len
  unfold maxLen at hn
  have hl : b.length = n := by have := hv.1; rw [bv_length] at this; omega
  obtain ⟨⟨x, used, e⟩, hx⟩ : ∃ x, getInt b = x := ⟨_, rfl⟩
  have HX := Lib.hid hx
  have HL := Lib.hid hl
  by_cases he : e = 0
  · subst he
    obtain ⟨h1, h2, h3, _, h5, h6⟩ := enc_get hx
    clear hx
    rw [hl] at h3
    clear hl
    by_cases hneg : x < 0
    · have hc : cnt b sz = (0, 0, 2) := by simp [cnt, HX.out, hneg]
      have HC := Lib.hid hc; clear hc
      rw [HC.out]
      go_enter Tryd.func66, Tryd.ntmps66
      go_wp2_with (first | (go_at_call 88; (with_reducible refine (getint_any _ _ _ _ hv).mono ?_); rintro e w' ⟨rfl, rfl⟩; rw [HX.out]; unfold R3) | ((with_reducible refine' wpList_len_rd (.tmp 21) 49 rfl ?_ Tryd.underlying49 ?_ hv ?_); exact rfl; exact rfl; simp only [Act.put, List.setIfInBounds_toArray, List.set_cons_succ, List.set_cons_zero]))
      go_ret3
      exact ⟨_, _, rfl, by simp, rfl⟩
    · obtain ⟨m, rfl⟩ : ∃ m : Nat, x = (m : Int) := ⟨x.toNat, by omega⟩
      have hq : (n - used : Nat) / sz ≤ n - used := Nat.div_le_self _ _
      have hqe : ((n : Int) - (used : Int)) / (sz : Int) = (((n - used) / sz : Nat) : Int) := by
        rw [show (n : Int) - (used : Int) = ((n - used : Nat) : Int) by omega]; rfl
      obtain ⟨q, hqd⟩ : ∃ q, q = (n - used) / sz := ⟨_, rfl⟩
      rw [← hqd] at hq hqe
      have HQ := Lib.hid hqd; clear hqd
      have hsz1 : 1 ≤ (sz : Int) := by omega
      by_cases hbig : q < m
      · have hc : cnt b sz = (0, 0, 3) := by simp [cnt, HX.out, HL.out, hneg]; rw [← HQ.out]; exact hbig
        have HC := Lib.hid hc; clear hc
        rw [HC.out]
        go_enter Tryd.func66, Tryd.ntmps66
        go_wp2_with (first | (go_at_call 88; (with_reducible refine (getint_any _ _ _ _ hv).mono ?_); rintro e w' ⟨rfl, rfl⟩; rw [HX.out]; unfold R3) | ((with_reducible refine' wpList_len_rd (.tmp 21) 49 rfl ?_ Tryd.underlying49 ?_ hv ?_); exact rfl; exact rfl; simp only [Act.put, List.setIfInBounds_toArray, List.set_cons_succ, List.set_cons_zero]))
        go_ret3
        exact ⟨_, _, rfl, by simp, rfl⟩
      · have hc : cnt b sz = (m, used, 0) := by simp [cnt, HX.out, HL.out, hneg]; rw [← HQ.out]; omega
        have HC := Lib.hid hc; clear hc
        rw [HC.out]
        go_enter Tryd.func66, Tryd.ntmps66
        go_wp2_with (first | (go_at_call 88; (with_reducible refine (getint_any _ _ _ _ hv).mono ?_); rintro e w' ⟨rfl, rfl⟩; rw [HX.out]; unfold R3) | ((with_reducible refine' wpList_len_rd (.tmp 21) 49 rfl ?_ Tryd.underlying49 ?_ hv ?_); exact rfl; exact rfl; simp only [Act.put, List.setIfInBounds_toArray, List.set_cons_succ, List.set_cons_zero]))
        go_ret3
        exact ⟨_, _, rfl, fun _ => ⟨rfl, rfl⟩, rfl⟩
  · have hc : cnt b sz = (0, 0, e) := by simp [cnt, HX.out, he]
    have heb : ((e : Int) != 0) = true := by rw [bne_iff_ne]; omega
    have HC := Lib.hid hc; clear hc hx hl
    have HE := Lib.hid he; clear he
    rw [HC.out]
    go_enter Tryd.func66, Tryd.ntmps66
    go_wp2_with (first | (go_at_call 88; (with_reducible refine (getint_any _ _ _ _ hv).mono ?_); rintro e w' ⟨rfl, rfl⟩; rw [HX.out]; unfold R3) | ((with_reducible refine' wpList_len_rd (.tmp 21) 49 rfl ?_ Tryd.underlying49 ?_ hv ?_); exact rfl; exact rfl; simp only [Act.put, List.setIfInBounds_toArray, List.set_cons_succ, List.set_cons_zero]))
    go_ret3
    exact ⟨_, _, rfl, fun h => absurd h HE.out, rfl⟩

set_option maxRecDepth 100000 in
theorem refcount_any (v : Value) (n : Nat) (b : List UInt8) (sz : Nat) (w : World) (hv : Rd w 1 v n (bv b)) (hsz : 0 < sz) (hsz2 : sz ≤ 16) (hn1 : n ≤ 140737488355328) :
    Calls Tryd.prog 96 #[v, .int .i64 (sz : Int)] w fun e w' => e = .returned (.tuple #[.int .i64 ((cnt b sz).1 : Int), .int .i64 ((cnt b sz).2.1 : Int), .int .i64 ((cnt b sz).2.2 : Int)]) ∧ Below w.heap.size w w' := by
  have hl : b.length = n := by have := hv.1; rw [bv_length] at this; omega
  obtain ⟨⟨x, used, e⟩, hx⟩ : ∃ x, getInt b = x := ⟨_, rfl⟩
  have HX := Lib.hid hx
  have HL := Lib.hid hl
  by_cases he : e = 0
  · subst he
    obtain ⟨h1, h2, h3, _, h5, h6⟩ := enc_get hx
    clear hx
    rw [hl] at h3
    clear hl
    by_cases hneg : x < 0
    · have hc : cnt b sz = (0, 0, 2) := by simp [cnt, HX.out, hneg]
      have HC := Lib.hid hc; clear hc
      rw [HC.out]
      go_enter Tryd.func96, Tryd.ntmps96
      go_wp2_with (first | (go_at_call 97; (with_reducible refine (refget_any _ _ _ _ hv).mono ?_); rintro e w' ⟨rfl, hb1⟩; rw [HX.out]; unfold R3; have hv1 := hv.below hb1) | ((with_reducible refine' wpList_len_rd (.tmp 22) 49 rfl ?_ Tryd.underlying49 ?_ hv ?_); exact rfl; exact rfl; simp only [Act.put, List.setIfInBounds_toArray, List.set_cons_succ, List.set_cons_zero]) | ((with_reducible refine' wpList_len_rd (.tmp 29) 49 rfl ?_ Tryd.underlying49 ?_ hv ?_); exact rfl; exact rfl; simp only [Act.put, List.setIfInBounds_toArray, List.set_cons_succ, List.set_cons_zero]))
      go_ret3
      exact ⟨rfl, hb1⟩
    · obtain ⟨m, rfl⟩ : ∃ m : Nat, x = (m : Int) := ⟨x.toNat, by omega⟩
      by_cases hml : n < m
      · have hc : cnt b sz = (0, 0, 3) := by
          simp [cnt, HX.out, HL.out, hneg]
          exact Nat.lt_of_le_of_lt (Nat.div_le_self _ _) (by omega)
        have HC := Lib.hid hc; clear hc
        rw [HC.out]
        go_enter Tryd.func96, Tryd.ntmps96
        go_wp2_with (first | (go_at_call 97; (with_reducible refine (refget_any _ _ _ _ hv).mono ?_); rintro e w' ⟨rfl, hb1⟩; rw [HX.out]; unfold R3; have hv1 := hv.below hb1) | ((with_reducible refine' wpList_len_rd (.tmp 22) 49 rfl ?_ Tryd.underlying49 ?_ hv ?_); exact rfl; exact rfl; simp only [Act.put, List.setIfInBounds_toArray, List.set_cons_succ, List.set_cons_zero]) | ((with_reducible refine' wpList_len_rd (.tmp 29) 49 rfl ?_ Tryd.underlying49 ?_ hv ?_); exact rfl; exact rfl; simp only [Act.put, List.setIfInBounds_toArray, List.set_cons_succ, List.set_cons_zero]))
        go_ret3
        exact ⟨rfl, hb1⟩
      · have hms : m * sz ≤ m * 16 := Nat.mul_le_mul_left _ hsz2
        have hmb : (m : Int) * (sz : Int) = ((m * sz : Nat) : Int) := rfl
        obtain ⟨p, hp⟩ : ∃ p, p = m * sz := ⟨_, rfl⟩
        rw [← hp] at hmb hms
        have HP := Lib.hid hp; clear hp
        have hdec : (n - used) / sz < m ↔ n - used < p := by rw [HP.out]; exact Nat.div_lt_iff_lt_mul hsz
        have HDC := Lib.hid hdec; clear hdec
        by_cases hbig : n - used < p
        · have hc : cnt b sz = (0, 0, 3) := by simp [cnt, HX.out, HL.out, hneg]; exact HDC.out.2 hbig
          have HC := Lib.hid hc; clear hc
          have hbi : (n : Int) - used < p := by omega
          rw [HC.out]
          go_enter Tryd.func96, Tryd.ntmps96
          go_wp2_with (first | (go_at_call 97; (with_reducible refine (refget_any _ _ _ _ hv).mono ?_); rintro e w' ⟨rfl, hb1⟩; rw [HX.out]; unfold R3; have hv1 := hv.below hb1) | ((with_reducible refine' wpList_len_rd (.tmp 22) 49 rfl ?_ Tryd.underlying49 ?_ hv ?_); exact rfl; exact rfl; simp only [Act.put, List.setIfInBounds_toArray, List.set_cons_succ, List.set_cons_zero]) | ((with_reducible refine' wpList_len_rd (.tmp 29) 49 rfl ?_ Tryd.underlying49 ?_ hv ?_); exact rfl; exact rfl; simp only [Act.put, List.setIfInBounds_toArray, List.set_cons_succ, List.set_cons_zero]))
          go_ret3
          exact ⟨rfl, hb1⟩
        · have hc : cnt b sz = (m, used, 0) := by
            simp [cnt, HX.out, HL.out, hneg]
            exact Nat.le_of_not_lt fun h => hbig (HDC.out.1 h)
          have HC := Lib.hid hc; clear hc
          have hbi : (p : Int) ≤ n - used := by omega
          rw [HC.out]
          go_enter Tryd.func96, Tryd.ntmps96
          go_wp2_with (first | (go_at_call 97; (with_reducible refine (refget_any _ _ _ _ hv).mono ?_); rintro e w' ⟨rfl, hb1⟩; rw [HX.out]; unfold R3; have hv1 := hv.below hb1) | ((with_reducible refine' wpList_len_rd (.tmp 22) 49 rfl ?_ Tryd.underlying49 ?_ hv ?_); exact rfl; exact rfl; simp only [Act.put, List.setIfInBounds_toArray, List.set_cons_succ, List.set_cons_zero]) | ((with_reducible refine' wpList_len_rd (.tmp 29) 49 rfl ?_ Tryd.underlying49 ?_ hv ?_); exact rfl; exact rfl; simp only [Act.put, List.setIfInBounds_toArray, List.set_cons_succ, List.set_cons_zero]))
          go_ret3
          exact ⟨rfl, hb1⟩
  · have hc : cnt b sz = (0, 0, e) := by simp [cnt, HX.out, he]
    have heb : ((e : Int) != 0) = true := by rw [bne_iff_ne]; omega
    have HC := Lib.hid hc; clear hc hx hl
    have HE := Lib.hid he; clear he
    rw [HC.out]
    go_enter Tryd.func96, Tryd.ntmps96
    go_wp2_with (first | (go_at_call 97; (with_reducible refine (refget_any _ _ _ _ hv).mono ?_); rintro e w' ⟨rfl, hb1⟩; rw [HX.out]; unfold R3; have hv1 := hv.below hb1) | ((with_reducible refine' wpList_len_rd (.tmp 22) 49 rfl ?_ Tryd.underlying49 ?_ hv ?_); exact rfl; exact rfl; simp only [Act.put, List.setIfInBounds_toArray, List.set_cons_succ, List.set_cons_zero]) | ((with_reducible refine' wpList_len_rd (.tmp 29) 49 rfl ?_ Tryd.underlying49 ?_ hv ?_); exact rfl; exact rfl; simp only [Act.put, List.setIfInBounds_toArray, List.set_cons_succ, List.set_cons_zero]))
    go_ret3
    exact ⟨rfl, hb1⟩

/-! ### byte strings -/
/-- a string and two numbers as a result -/
def RS (x : List UInt8 × Nat × Nat) : Value := .tuple #[.string ⟨x.1.toArray⟩, .int .i64 (x.2.1 : Int), .int .i64 (x.2.2 : Int)]

end Go.Proofs.YtdlhkhnoigbhjaaDoor.Wi
namespace Go.Proofs.YtdlhkhnoigbhjaaDoor.Wi
open Go Go.RowKit Pu Lb

set_option maxRecDepth 100000 in
theorem ints_any (v : Value) (n : Nat) (l : List Int) (w : World) (hv : Rd w 1 v n (iv l)) (hl0 : IntsOk l) (hT : (encList enc l).length ≤ 70368744177664) :
    Calls Tryd.prog 62 #[v] w fun e w' => ∃ v, e = .returned v ∧ w'.ownsRow w.heap.size 5 1 v (encList enc l).length (bv (encList enc l)) ∧ Below w.heap.size w w' := by
  have hn := hv.len
  unfold maxLen at hn
  have hl : l.length = n := by have := hv.1; rw [iv_length] at this; omega
  have HL := Lib.hid hl; clear hl
  have hT1 := encTo_le enc l
  obtain ⟨T, hTe⟩ : ∃ T, T = (encList enc l).length := ⟨_, rfl⟩
  rw [← hTe] at hT hT1
  have HT := Lib.hid hTe; clear hTe
  go_enter Tryd.func62, Tryd.ntmps62
  go_wp2_with (first | ((with_reducible refine' wpList_len_rd (.tmp 6) 22 rfl ?_ Tryd.underlying22 ?_ hv ?_); exact rfl; exact rfl; simp only [Act.put, List.setIfInBounds_toArray, List.set_cons_succ, List.set_cons_zero]) | (go_at_call 84; (with_reducible refine (int_any _ _ (by omega) (by omega)).mono ?_); rintro e w' ⟨v1, rfl, ho1, hb1⟩; rw [← HL.out, ← encTo_zero enc l] at ho1; have hv1 := hv.below hb1) | ((with_reducible refine' wpList_len_rd (.tmp 9) 22 rfl ?_ Tryd.underlying22 ?_ hv1 ?_); exact rfl; exact rfl; simp only [Act.put, List.setIfInBounds_toArray, List.set_cons_succ, List.set_cons_zero]))
  go_loopw [3, 11] (fun x i wr => ∃ k : Nat, k ≤ n ∧ i = .int .i64 k ∧ wr.ownsRow w.heap.size 5 1 x (encTo enc l k).length (bv (encTo enc l k)) ∧ Below w.heap.size w wr) (fun _ i _ => n - (intOf i).toNat)
  case atStart => exact ⟨0, Nat.zero_le _, rfl, ho1, hb1⟩
  case round =>
    obtain ⟨k, hk, rfl, hown, hbl⟩ := hrel
    have HO := Lib.hid hown; clear hown
    have hg := hv.below hbl
    by_cases hlt : k < n
    · obtain ⟨x, hx⟩ : ∃ x, l[k]? = some x := get_lt (by rw [HL.out]; exact hlt)
      have C := Lib.hid (iv_at hx)
      have hxb := hl0 x (mem_of_get hx)
      have hst := encTo_step enc hx
      have h2 := hT1 (k + 1)
      rw [hst, List.length_append] at h2
      have HS := Lib.hid hst; clear hst hx
      have h1 := bv_one (enc x)
      go_wp2_with (first | ((with_reducible refine' wpList_at1_rd (.tmp 9) (.tmp 11) 22 rfl ?_ Tryd.underlying22 sz_int ?_ hg (k) ?_ ?_ ?_); exact rfl; exact rfl; (show (_ : Int) = _; omega); omega; simp only [Act.put, List.setIfInBounds_toArray, List.set_cons_succ, List.set_cons_zero]) | ((with_reducible refine' wpList_load_rd (.tmp 13) 3 rfl ?_ ld_int ?_ hg (C.out) ?_); exact rfl; exact rfl; simp only [Act.put, List.setIfInBounds_toArray, List.set_cons_succ, List.set_cons_zero]) | (go_at_call 84; (with_reducible refine (int_any _ _ hxb.1 hxb.2).mono ?_); rintro e w' ⟨v2, rfl, ho2, hb2⟩) | ((with_reducible refine' wpList_append_rd (.tmp 15) (.tmp 17) 49 rfl ?_ Tryd.underlying49 inf_u8 ?_ ?_ ?_ (own_below HO.out hb2) ?_ (Rd.of_own ho2) h1 ?_ ?_ (Nat.le_trans hbl.size hb2.size) ?_); exact rfl; exact rfl; omega; exact rfl; exact rfl; (first | omega | (unfold maxLen; omega)); omega; intro v3 w3 ho3 hb3; simp only [Act.put, List.setIfInBounds_toArray, List.set_cons_succ, List.set_cons_zero]))
      rw [← bv_append, ← List.length_append, ← HS.out] at ho3
      have HO3 := Lib.hid ho3; clear ho3
      go_roundw
      case rel => exact ⟨k + 1, by omega, by go_num, HO3.out, (hbl.trans (hb2.mono hbl.size)).trans hb3⟩
      case measure => simp [intOf]; omega
    · go_wp2_with fail
      go_ret
      refine ⟨_, rfl, ?_, hbl⟩
      rw [← encTo_all enc l (k := k) (by rw [HL.out]; omega)]
      exact HO.out

set_option maxRecDepth 100000 in
theorem refints_any (v : Value) (n : Nat) (l : List Int) (w : World) (hv : Rd w 1 v n (iv l)) (hl0 : IntsOk l) (hT : (encList enc l).length ≤ 70368744177664) :
    Calls Tryd.prog 61 #[v] w fun e w' => ∃ v, e = .returned v ∧ w'.ownsRow w.heap.size 5 1 v (encList enc l).length (bv (encList enc l)) ∧ Below w.heap.size w w' := by
  have hn := hv.len
  unfold maxLen at hn
  have hl : l.length = n := by have := hv.1; rw [iv_length] at this; omega
  have HL := Lib.hid hl; clear hl
  have hT1 := encTo_le enc l
  obtain ⟨T, hTe⟩ : ∃ T, T = (encList enc l).length := ⟨_, rfl⟩
  rw [← hTe] at hT hT1
  have HT := Lib.hid hTe; clear hTe
  go_enter Tryd.func61, Tryd.ntmps61
  go_wp2_with (first | ((with_reducible refine' wpList_len_rd (.tmp 5) 22 rfl ?_ Tryd.underlying22 ?_ hv ?_); exact rfl; exact rfl; simp only [Act.put, List.setIfInBounds_toArray, List.set_cons_succ, List.set_cons_zero]) | (go_at_call 83; (with_reducible refine (refint_any _ _ (by omega) (by omega)).mono ?_); rintro e w' ⟨v1, rfl, ho1, hb1⟩; rw [← HL.out, ← encTo_zero enc l] at ho1; have hv1 := hv.below hb1))
  go_loopw [3, 4] (fun x i wr => ∃ k : Nat, k ≤ n ∧ i = .int .i64 k ∧ wr.ownsRow w.heap.size 5 1 x (encTo enc l k).length (bv (encTo enc l k)) ∧ Below w.heap.size w wr) (fun _ i _ => n - (intOf i).toNat)
  case atStart => exact ⟨0, Nat.zero_le _, rfl, ho1, hb1⟩
  case round =>
    obtain ⟨k, hk, rfl, hown, hbl⟩ := hrel
    have HO := Lib.hid hown; clear hown
    have hg := hv.below hbl
    by_cases hlt : k < n
    · obtain ⟨x, hx⟩ : ∃ x, l[k]? = some x := get_lt (by rw [HL.out]; exact hlt)
      have C := Lib.hid (iv_at hx)
      have hxb := hl0 x (mem_of_get hx)
      have hst := encTo_step enc hx
      have h2 := hT1 (k + 1)
      rw [hst, List.length_append] at h2
      have HS := Lib.hid hst; clear hst hx
      have h1 := bv_one (enc x)
      go_wp2_with (first | ((with_reducible refine' wpList_len_rd (.tmp 9) 22 rfl ?_ Tryd.underlying22 ?_ hg ?_); exact rfl; exact rfl; simp only [Act.put, List.setIfInBounds_toArray, List.set_cons_succ, List.set_cons_zero]) | ((with_reducible refine' wpList_at1_rd (.tmp 15) (.tmp 16) 22 rfl ?_ Tryd.underlying22 sz_int ?_ hg (k) ?_ ?_ ?_); exact rfl; exact rfl; (show (_ : Int) = _; omega); omega; simp only [Act.put, List.setIfInBounds_toArray, List.set_cons_succ, List.set_cons_zero]) | ((with_reducible refine' wpList_load_rd (.tmp 17) 3 rfl ?_ ld_int ?_ hg (C.out) ?_); exact rfl; exact rfl; simp only [Act.put, List.setIfInBounds_toArray, List.set_cons_succ, List.set_cons_zero]) | (go_at_call 83; (with_reducible refine (refint_any _ _ hxb.1 hxb.2).mono ?_); rintro e w' ⟨v2, rfl, ho2, hb2⟩) | ((with_reducible refine' wpList_append_rd (.tmp 14) (.tmp 19) 49 rfl ?_ Tryd.underlying49 inf_u8 ?_ ?_ ?_ (own_below HO.out hb2) ?_ (Rd.of_own ho2) h1 ?_ ?_ (Nat.le_trans hbl.size hb2.size) ?_); exact rfl; exact rfl; omega; exact rfl; exact rfl; (first | omega | (unfold maxLen; omega)); omega; intro v3 w3 ho3 hb3; simp only [Act.put, List.setIfInBounds_toArray, List.set_cons_succ, List.set_cons_zero]))
      rw [← bv_append, ← List.length_append, ← HS.out] at ho3
      have HO3 := Lib.hid ho3; clear ho3
      go_roundw
      case rel => exact ⟨k + 1, by omega, by go_num, HO3.out, (hbl.trans (hb2.mono hbl.size)).trans hb3⟩
      case measure => simp [intOf]; omega
    · go_wp2_with (first | ((with_reducible refine' wpList_len_rd (.tmp 9) 22 rfl ?_ Tryd.underlying22 ?_ hg ?_); exact rfl; exact rfl; simp only [Act.put, List.setIfInBounds_toArray, List.set_cons_succ, List.set_cons_zero]))
      go_ret
      refine ⟨_, rfl, ?_, hbl⟩
      rw [← encTo_all enc l (k := k) (by rw [HL.out]; omega)]
      exact HO.out

end Go.Proofs.YtdlhkhnoigbhjaaDoor.Wi
namespace Go.Proofs.YtdlhkhnoigbhjaaDoor.Pu
mutual
def tenc : Tree → List UInt8
  | .mk k n m ts => encList enc [k, n, m, (ts.length : Int)] ++ tencs ts
def tencs : List Tree → List UInt8
  | [] => []
  | t :: ts => tenc t ++ tencs ts
end
mutual
/-- the numbers of a tree fit 64 bits -/
def tInts : Tree → Prop
  | .mk k n m ts => I64 k ∧ I64 n ∧ I64 m ∧ tsInts ts
def tsInts : List Tree → Prop
  | [] => True
  | t :: ts => tInts t ∧ tsInts ts
end
theorem tsInts.mem : ∀ {ts : List Tree}, tsInts ts → ∀ t ∈ ts, tInts t
  | [], _, t, h => by cases h
  | u :: ts, h, t, hm => by
    rw [tsInts] at h
    rcases List.mem_cons.1 hm with rfl | hm
    · exact h.1
    · exact tsInts.mem h.2 t hm
theorem tencs_app : ∀ (a b : List Tree), tencs (a ++ b) = tencs a ++ tencs b
  | [], b => by rw [tencs]; rfl
  | t :: a, b => by rw [List.cons_append, tencs, tencs, tencs_app a b, List.append_assoc]
theorem tencs_take {ts : List Tree} {i : Nat} {t : Tree} (h : ts[i]? = some t) : tencs (ts.take (i + 1)) = tencs (ts.take i) ++ tenc t := by
  have hi := (List.getElem?_eq_some_iff.1 h).1
  rw [List.take_succ_eq_append_getElem hi, (List.getElem?_eq_some_iff.1 h).2, tencs_app, tencs, tencs, List.append_nil]
theorem head_len {k n m : Int} {l : Nat} (hk : I64 k) (hn : I64 n) (hm : I64 m) (hl : l ≤ 1000000) : (encList enc [k, n, m, (l : Int)]).length ≤ 45 := by
  unfold encList
  have h1 := (Wi.enc_len_bd hk.1 hk.2).2
  have h2 := (Wi.enc_len_bd hn.1 hn.2).2
  have h3 := (Wi.enc_len_bd hm.1 hm.2).2
  have h4 := (Wi.enc_len_bd (n := (l : Int)) (by omega) (by omega)).2
  have h5 := (Wi.enc_len_bd (n := (([k, n, m, (l : Int)] : List Int).length : Int)) (by simp) (by simp)).2
  rw [List.length_append]
  simp only [List.flatMap_cons, List.flatMap_nil, List.append_nil, List.length_append]
  omega
mutual
theorem tenc_len : ∀ (t : Tree), tInts t → tsize t ≤ 1000000 → (tenc t).length ≤ 45 * tsize t
  | .mk k n m ts, h, hs => by
    rw [tInts] at h
    rw [tsize] at hs ⊢
    have hl := tsizes_len ts
    have h1 := head_len (l := ts.length) h.1 h.2.1 h.2.2.1 (by omega)
    have h2 := tencs_len ts h.2.2.2 (by omega)
    rw [tenc, List.length_append]; omega
theorem tencs_len : ∀ (ts : List Tree), tsInts ts → tsizes ts ≤ 1000000 → (tencs ts).length ≤ 45 * tsizes ts
  | [], _, _ => by rw [tencs, tsizes]; simp
  | t :: ts, h, hs => by
    rw [tsInts] at h
    rw [tsizes] at hs ⊢
    have h1 := tenc_len t h.1 (by omega)
    have h2 := tencs_len ts h.2 (by omega)
    rw [tencs, List.length_append]; omega
end
end Go.Proofs.YtdlhkhnoigbhjaaDoor.Pu
namespace Go.Proofs.YtdlhkhnoigbhjaaDoor.Wi
open Go Go.RowKit Pu Lb
set_option linter.unusedSimpArgs false
set_option linter.unusedVariables false
set_option maxRecDepth 100000 in
set_option maxHeartbeats 1600000 in
theorem treeenc_any : ∀ (t : Tree) (cs : List Value) (w : World), IsT w t cs → tInts t → tsize t ≤ 1000000 →
    Calls Tryd.prog 37 #[.agg cs.toArray] w fun e w' => ∃ v, e = .returned v ∧ w'.ownsRow w.heap.size 5 1 v (tenc t).length (bv (tenc t)) ∧ Below w.heap.size w w' := by
  refine Tree.ind fun k n m ts ih cs w h hi hs => ?_
  rw [IsT] at h
  obtain ⟨vk, xs, rfl, hr, hts⟩ := h
  rw [tInts] at hi
  have hlen := tsizes_len ts
  have h45 := tencs_len ts hi.2.2.2 (by rw [tsize] at hs; omega)
  have hIO : IntsOk [k, n, m, (ts.length : Int)] := by
    intro x hx
    simp only [List.mem_cons, List.not_mem_nil, or_false] at hx
    rw [tsize] at hs
    rcases hx with rfl | rfl | rfl | rfl
    · exact hi.1
    · exact hi.2.1
    · exact hi.2.2.1
    · omega
  rw [tsize] at hs
  have hHL := head_len (l := ts.length) hi.1 hi.2.1 hi.2.2.1 (by omega)
  have KI := Lib.hid hi.2.2.2
  have X0 := Lib.hid (show ([.int .i64 k, .int .i64 n, .int .i64 m, vk] : List Value)[0]? = some (.int .i64 k) from rfl)
  have X1 := Lib.hid (show ([.int .i64 k, .int .i64 n, .int .i64 m, vk] : List Value)[1]? = some (.int .i64 n) from rfl)
  have X2 := Lib.hid (show ([.int .i64 k, .int .i64 n, .int .i64 m, vk] : List Value)[2]? = some (.int .i64 m) from rfl)
  have X3 := Lib.hid (show ([.int .i64 k, .int .i64 n, .int .i64 m, vk] : List Value)[3]? = some vk from rfl)
  have XL := Lib.hid hts.len
  have IH := Lib.hid ih
  obtain ⟨hd, hhd⟩ : ∃ hd, encList enc [k, n, m, (ts.length : Int)] = hd := ⟨_, rfl⟩
  have HH := Lib.hid hhd
  have hcall : ∀ (v : Value) (w : World), Rd w 1 v 4 (iv [k, n, m, (ts.length : Int)]) → Calls Tryd.prog 62 #[v] w fun e w' => ∃ v, e = .returned v ∧ w'.ownsRow w.heap.size 5 1 v hd.length (bv hd) ∧ Below w.heap.size w w' := fun v w hv => by
    rw [← hhd]; exact ints_any v 4 _ w hv hIO (by omega)
  rw [hhd] at hHL
  clear hhd hIO hi ih
  go_enter Tryd.func37, Tryd.ntmps37
  go_upto_region 3 with (first
    | (((with_reducible refine' wpList_boxa (cs := [.int .i64 k, .int .i64 n, .int .i64 m, vk]) 25 (.tmp 0) rfl ?_ ?_ ?_); exact rfl; exact rfl; intro w1 kA hN1 hz1; simp only [Act.put, List.setIfInBounds_toArray, List.set_cons_succ, List.set_cons_zero]); have hr1 := hr.below hN1; have lA := kA.lt)
    | ((with_reducible refine' wpList_field_blk (j := 0) (.tmp 1) 25 0 rfl ?_ fo_node_0 ?_ rfl ?_); exact rfl; exact rfl; simp only [Act.put, List.setIfInBounds_toArray, List.set_cons_succ, List.set_cons_zero]) | ((with_reducible refine' wpList_load_blk (.tmp 6) 3 rfl ?_ ld_int ?_ kA (X0.out) ?_); exact rfl; exact rfl; simp only [Act.put, List.setIfInBounds_toArray, List.set_cons_succ, List.set_cons_zero]) | ((with_reducible refine' wpList_field_blk (j := 1) (.tmp 1) 25 1 rfl ?_ fo_node_1 ?_ rfl ?_); exact rfl; exact rfl; simp only [Act.put, List.setIfInBounds_toArray, List.set_cons_succ, List.set_cons_zero]) | ((with_reducible refine' wpList_load_blk (.tmp 8) 3 rfl ?_ ld_int ?_ kA (X1.out) ?_); exact rfl; exact rfl; simp only [Act.put, List.setIfInBounds_toArray, List.set_cons_succ, List.set_cons_zero]) | ((with_reducible refine' wpList_field_blk (j := 2) (.tmp 1) 25 2 rfl ?_ fo_node_2 ?_ rfl ?_); exact rfl; exact rfl; simp only [Act.put, List.setIfInBounds_toArray, List.set_cons_succ, List.set_cons_zero]) | ((with_reducible refine' wpList_load_blk (.tmp 10) 3 rfl ?_ ld_int ?_ kA (X2.out) ?_); exact rfl; exact rfl; simp only [Act.put, List.setIfInBounds_toArray, List.set_cons_succ, List.set_cons_zero]) | ((with_reducible refine' wpList_field_blk (j := 3) (.tmp 1) 25 3 rfl ?_ fo_node_3 ?_ rfl ?_); exact rfl; exact rfl; simp only [Act.put, List.setIfInBounds_toArray, List.set_cons_succ, List.set_cons_zero]) | ((with_reducible refine' wpList_load_blk (.tmp 12) 23 rfl ?_ ld_nds ?_ kA (X3.out) ?_); exact rfl; exact rfl; simp only [Act.put, List.setIfInBounds_toArray, List.set_cons_succ, List.set_cons_zero]) | ((with_reducible refine' wpList_len_rd (.tmp 13) 23 rfl ?_ Tryd.underlying23 ?_ hr1 ?_); exact rfl; exact rfl; simp only [Act.put, List.setIfInBounds_toArray, List.set_cons_succ, List.set_cons_zero])
    | (((with_reducible refine' wpList_build_cs (cs := iv [k, n, m, (ts.length : Int)]) rfl ?_ Tryd.underlying22 inf_int ?_ ?_ ?_ ?_ ?_ ?_); exact rfl; exact rfl; omega; omega; exact rfl; exact iv_ones _; intro v2 w2 r2 hN2; simp only [Act.put, List.setIfInBounds_toArray, List.set_cons_succ, List.set_cons_zero]); have kA2 := kA.below hN2 lA)
    | ((go_at_call 62; (with_reducible refine (hcall _ _ r2).mono ?_); rintro e w' ⟨v3, rfl, o3, hN3⟩); have kA3 := kA2.below hN3 (Nat.lt_of_lt_of_le lA hN2.size); have hr3 := (hr1.below hN2).below hN3)
    | ((with_reducible refine' wpList_load_blk (.tmp 17) 23 rfl ?_ ld_nds ?_ kA3 (X3.out) ?_); exact rfl; exact rfl; simp only [Act.put, List.setIfInBounds_toArray, List.set_cons_succ, List.set_cons_zero]) | ((with_reducible refine' wpList_len_rd (.tmp 18) 23 rfl ?_ Tryd.underlying23 ?_ hr3 ?_); exact rfl; exact rfl; simp only [Act.put, List.setIfInBounds_toArray, List.set_cons_succ, List.set_cons_zero]))
  have hb3 : Below w.heap.size w w' := (hN1.trans (hN2.mono hN1.size)).trans (hN3.mono (hN1.trans (hN2.mono hN1.size)).size)
  have o3' := own_mono o3 (hN1.trans (hN2.mono hN1.size)).size
  clear hN1 hN2 hN3 kA kA2 kA3 hr1 hr3 r2 o3 hz1 hcall lA
  go_loopw [3, 20] (fun x i wr => ∃ j : Nat, j ≤ ts.length ∧ i = .int .i64 (j : Int) ∧ wr.ownsRow w.heap.size 5 1 x (hd ++ tencs (ts.take j)).length (bv (hd ++ tencs (ts.take j))) ∧ Below w.heap.size w wr) (fun _ i _ => ts.length - (intOf i).toNat)
  case atStart => exact ⟨0, Nat.zero_le _, rfl, by rw [List.take_zero, tencs, List.append_nil]; exact o3', hb3⟩
  case round =>
    obtain ⟨j, hj, rfl, hown, hb⟩ := hrel
    obtain ⟨wo, rfl⟩ : ∃ wo : World, wo = wr := ⟨_, rfl⟩
    have hrj := hr.below hb
    clear o3'
    by_cases hlt : j < ts.length
    · obtain ⟨t, ht⟩ := kid_at hlt
      have hT := IsT.below hb (IsTs.get hts ht)
      obtain ⟨cs, hcs⟩ : ∃ cs, (xs.drop (j * 4)).take 4 = cs := ⟨_, rfl⟩
      rw [hcs] at hT
      have HC := Lib.hid hcs
      have BD := Lib.hid (show j * 4 + 4 ≤ xs.length by rw [XL.out]; omega)
      have CL := Lib.hid hT.len
      have CO := Lib.hid hT.ones
      have hmem := List.mem_of_getElem? ht
      have hq5 := tsize_mem hmem
      have hen := tencs_take ht
      have hti := tsInts.mem KI.out t hmem
      have htl := tenc_len t hti (by omega)
      have hpart : (tencs (ts.take j)).length ≤ 45 * tsizes ts := by
        have h1 : (tencs ts).length = (tencs (ts.take j)).length + (tencs (ts.drop j)).length := by rw [← List.length_append, ← tencs_app, List.take_append_drop]
        omega
      have HS := Lib.hid (show hd ++ tencs (ts.take (j + 1)) = (hd ++ tencs (ts.take j)) ++ tenc t by rw [hen, List.append_assoc])
      have hpl : (hd ++ tencs (ts.take j)).length ≤ 45 + 45 * tsizes ts := by rw [List.length_append]; omega
      obtain ⟨pt, hpt⟩ : ∃ pt, hd ++ tencs (ts.take j) = pt := ⟨_, rfl⟩
      rw [hpt] at hown HS hpl
      clear hcs ht hen hpart hpt
      go_upto_region 5 with (first
        | ((with_reducible refine' wpList_at_rd (.tmp 18) (.tmp 20) 23 rfl ?_ Tryd.underlying23 sz_node ?_ hrj (by decide) (j) ?_ ?_ ?_); exact rfl; exact rfl; (show (_ : Int) = _; omega); omega; simp only [Act.put, List.setIfInBounds_toArray, List.set_cons_succ, List.set_cons_zero]) | ((with_reducible refine' wpList_load_st (cp := cs) (.tmp 22) 25 rfl ?_ Tryd.underlying25 ?_ sz_node ?_ hrj ?_ ?_ HC.out ?_); exact rfl; exact rfl; exact rfl; exact BD.out; decide; simp only [Act.put, List.setIfInBounds_toArray, List.set_cons_succ, List.set_cons_zero])
        | (((with_reducible refine' wpList_alloc_blk (cs := nodz) 25 rfl ?_ zr_node ?_ ?_); exact rfl; exact nodz_cells; intro w4 k4 hN4 hz4; simp only [Act.put, List.setIfInBounds_toArray, List.set_cons_succ, List.set_cons_zero]))
        | (((with_reducible refine' wpList_store_blk (cs := cs) 25 (.tmp 5) (.tmp 23) rfl ?_ ?_ ?_ k4 sz_node ?_ ?_ ?_ ?_); exact rfl; exact rfl; exact rfl; exact CL.out; exact rfl; exact CO.out; intro w5 k5 hO5 hz5; simp only [Act.put])))
      have hb45 : Below wo.heap.size wo w5 := hN4.trans (hO5.below (Nat.le_refl _) (Nat.le_of_lt k4.lt))
      have own5 := own_below hown hb45
      have IHt := Lib.hid (IH.out t hmem cs w5 (hT.below hb45) hti (by omega))
      have hw5 := hb.trans (hb45.mono hb.size)
      have BO := Lib.hid (bv_one (tenc t))
      obtain ⟨en, hen⟩ : ∃ en, tenc t = en := ⟨_, rfl⟩
      rw [hen] at HS htl BO
      have BO2 := BO.out
      have HEN := Lib.hid hen
      have s5 := hw5.size
      clear hen hT hrj hz4 hz5 hN4 hO5 k4 hown
      rw [HEN.out] at IHt
      go_wp2_with (first
        | ((with_reducible refine' wpList_loadst_blk (.tmp 5) 25 rfl ?_ Tryd.underlying25 ?_ sz_node ?_ k5 ?_ ?_ ?_); exact rfl; exact rfl; exact rfl; exact CL.out; decide; simp only [Act.put, List.setIfInBounds_toArray, List.set_cons_succ, List.set_cons_zero])
        | ((go_at_call 37; (with_reducible refine (IHt.out).mono ?_); rintro e w' ⟨v6, rfl, o6, hN6⟩); have own6 := own_below own5 hN6; have r6 := Rd.of_own o6; have S6 : w.heap.size ≤ w'.heap.size := Nat.le_trans s5 hN6.size)
        | ((with_reducible refine' wpList_append_at (.tmp 24) (.tmp 26) 49 rfl ?_ Tryd.underlying49 inf_u8 ?_ ?_ ?_ own6 ?_ r6 BO2 ?_ ?_ S6 ?_); exact rfl; exact rfl; omega; exact rfl; exact rfl; (first | omega | (unfold maxLen; omega)); omega; intro v8 w8 o8 hg8 hst8; simp only [Act.put, List.setIfInBounds_toArray, List.set_cons_succ, List.set_cons_zero]))
      rw [← bv_append, ← List.length_append, ← HS.out] at o8
      have hb8 : Below w.heap.size w w8 := (hw5.trans (hN6.mono s5)).grown hg8 S6 (fun b h => (own6.lt b h).1)
      clear hg8 hst8 own6 own5 r6 hN6 IHt HEN
      go_roundw
      case rel => (first | exact ⟨j + 1, by omega, by go_num, o8, hb8⟩ | ((repeat apply Exists.intro); exact ⟨⟨j + 1, by omega, by go_num, o8, hb8⟩, rfl⟩))
      case measure => simp [intOf]; omega
    · obtain rfl : j = ts.length := by omega
      rw [List.take_length] at hown
      go_wp2_with fail
      go_ret
      rw [tenc, HH.out]
      exact ⟨_, rfl, hown, hb⟩
end Go.Proofs.YtdlhkhnoigbhjaaDoor.Wi
namespace Go.Proofs.YtdlhkhnoigbhjaaDoor.Wi
open Go Go.RowKit Pu Lb

set_option maxRecDepth 100000 in
set_option maxHeartbeats 800000 in
theorem sameints_any (v1 v2 : Value) (n1 n2 : Nat) (A B : List Int) (w : World) (h1 : Rd w 1 v1 n1 (iv A)) (h2 : Rd w 1 v2 n2 (iv B)) :
    Calls Tryd.prog 44 #[v1, v2] w fun e w' => e = .returned (.bool (decide (A = B))) ∧ ∃ n, w' = w.drewN n := by
  have l1 := h1.len
  have l2 := h2.len
  unfold maxLen at l1 l2
  have e1 : A.length = n1 := by have := h1.1; rw [iv_length] at this; omega
  have e2 : B.length = n2 := by have := h2.1; rw [iv_length] at this; omega
  have HE1 := Lib.hid e1
  have HE2 := Lib.hid e2
  by_cases hne : n1 = n2
  · obtain rfl := hne
    clear e1 e2
    go_enter Tryd.func44, Tryd.ntmps44
    go_wp2_with (first | ((with_reducible refine' wpList_len_rd (.tmp 6) 22 rfl ?_ Tryd.underlying22 ?_ h1 ?_); exact rfl; exact rfl; simp only [Act.put, List.setIfInBounds_toArray, List.set_cons_succ, List.set_cons_zero]) | ((with_reducible refine' wpList_len_rd (.tmp 8) 22 rfl ?_ Tryd.underlying22 ?_ h2 ?_); exact rfl; exact rfl; simp only [Act.put, List.setIfInBounds_toArray, List.set_cons_succ, List.set_cons_zero]))
    go_loopw [5] (fun i wr => ∃ k : Nat, k ≤ n1 ∧ i = .int .i64 k ∧ A.take k = B.take k ∧ ∃ nq, wr = w.drewN nq) (fun i _ => n1 - (intOf i).toNat)
    case atStart => exact ⟨0, Nat.zero_le _, rfl, rfl, 0, rfl⟩
    case round =>
      obtain ⟨k, hk, rfl, ht, nq0, rfl⟩ := hrel
      have HT := Lib.hid ht
      clear ht
      have g1 := h1.drewN nq0
      have g2 := h2.drewN nq0
      by_cases hlt : k < n1
      · obtain ⟨x, hx⟩ : ∃ x, A[k]? = some x := get_lt (by rw [HE1.out]; exact hlt)
        obtain ⟨y, hy⟩ : ∃ y, B[k]? = some y := get_lt (by rw [HE2.out]; exact hlt)
        have C1 := Lib.hid (iv_at hx); have C2 := Lib.hid (iv_at hy)
        by_cases he : x = y
        · subst he
          skip
          have HT' := Lib.hid (take_step hx hy HT.out)
          clear hx hy
          go_wp2_with (first | ((with_reducible refine' wpList_len_rd (.tmp 12) 22 rfl ?_ Tryd.underlying22 ?_ h1 ?_); exact rfl; exact rfl; simp only [Act.put, List.setIfInBounds_toArray, List.set_cons_succ, List.set_cons_zero]) | (refine wp_region_quiet_lit (by kernel_rfl) (by kernel_rfl) ?_; (repeat (first | ((with_reducible refine' wpQuiet_at1_rd (.tmp 17) (.tmp 18) 22 rfl ?_ Tryd.underlying22 sz_int ?_ g1 (k) ?_ ?_ ?_); exact rfl; exact rfl; (show (_ : Int) = _; omega); omega; simp only [Act.put, List.setIfInBounds_toArray, List.set_cons_succ, List.set_cons_zero]) | ((with_reducible refine' wpQuiet_load_rd (fun _ h => h) (.tmp 19) 3 rfl ?_ ld_int ?_ g1 (C1.out) ?_); exact rfl; exact rfl; simp only [Act.put, List.setIfInBounds_toArray, List.set_cons_succ, List.set_cons_zero]) | ((with_reducible refine' wpQuiet_at1_rd (.tmp 21) (.tmp 22) 22 rfl ?_ Tryd.underlying22 sz_int ?_ g2 (k) ?_ ?_ ?_); exact rfl; exact rfl; (show (_ : Int) = _; omega); omega; simp only [Act.put, List.setIfInBounds_toArray, List.set_cons_succ, List.set_cons_zero]) | ((with_reducible refine' wpQuiet_load_rd (fun _ h => h) (.tmp 23) 3 rfl ?_ ld_int ?_ g2 (C2.out) ?_); exact rfl; exact rfl; simp only [Act.put, List.setIfInBounds_toArray, List.set_cons_succ, List.set_cons_zero]) | go_big_quiet_step (fail))); refine wpQuiet_nil ?_; intro _ hw'; obtain ⟨nq, hw''⟩ := hw'; subst hw''))
          go_roundw
          case rel => exact ⟨k + 1, by omega, by go_num, HT'.out, nq0 + nq, by first | rfl | rw [World.drewN_drewN]⟩
          case measure => simp [intOf]; omega
        · have hb : (x != y) = true := by rw [bne_iff_ne]; exact he
          have hn : decide (A = B) = false := decide_eq_false_iff_not.2 (take_ne hx hy he)
          have HN := Lib.hid hn
          clear he hx hy hn
          go_wp2_with (first | ((with_reducible refine' wpList_len_rd (.tmp 12) 22 rfl ?_ Tryd.underlying22 ?_ h1 ?_); exact rfl; exact rfl; simp only [Act.put, List.setIfInBounds_toArray, List.set_cons_succ, List.set_cons_zero]) | (refine wp_region_quiet_lit (by kernel_rfl) (by kernel_rfl) ?_; (repeat (first | ((with_reducible refine' wpQuiet_at1_rd (.tmp 17) (.tmp 18) 22 rfl ?_ Tryd.underlying22 sz_int ?_ g1 (k) ?_ ?_ ?_); exact rfl; exact rfl; (show (_ : Int) = _; omega); omega; simp only [Act.put, List.setIfInBounds_toArray, List.set_cons_succ, List.set_cons_zero]) | ((with_reducible refine' wpQuiet_load_rd (fun _ h => h) (.tmp 19) 3 rfl ?_ ld_int ?_ g1 (C1.out) ?_); exact rfl; exact rfl; simp only [Act.put, List.setIfInBounds_toArray, List.set_cons_succ, List.set_cons_zero]) | ((with_reducible refine' wpQuiet_at1_rd (.tmp 21) (.tmp 22) 22 rfl ?_ Tryd.underlying22 sz_int ?_ g2 (k) ?_ ?_ ?_); exact rfl; exact rfl; (show (_ : Int) = _; omega); omega; simp only [Act.put, List.setIfInBounds_toArray, List.set_cons_succ, List.set_cons_zero]) | ((with_reducible refine' wpQuiet_load_rd (fun _ h => h) (.tmp 23) 3 rfl ?_ ld_int ?_ g2 (C2.out) ?_); exact rfl; exact rfl; simp only [Act.put, List.setIfInBounds_toArray, List.set_cons_succ, List.set_cons_zero]) | go_big_quiet_step (fail))); refine wpQuiet_nil ?_; intro _ hw'; obtain ⟨nq, hw''⟩ := hw'; subst hw''))
          go_ret
          exact ⟨by rw [HN.out]; rfl, nq0 + nq, by first | rfl | rw [World.drewN_drewN]⟩
      · obtain rfl : k = n1 := by omega
        have he : decide (A = B) = true := by
          have h := HT.out
          rw [List.take_of_length_le (by rw [HE1.out]; omega), List.take_of_length_le (by rw [HE2.out]; omega)] at h
          exact decide_eq_true h
        have HE := Lib.hid he
        clear he
        go_wp2_with (first | ((with_reducible refine' wpList_len_rd (.tmp 12) 22 rfl ?_ Tryd.underlying22 ?_ h1 ?_); exact rfl; exact rfl; simp only [Act.put, List.setIfInBounds_toArray, List.set_cons_succ, List.set_cons_zero]))
        go_ret
        exact ⟨by rw [HE.out]; rfl, nq0, rfl⟩
  · have hne' : ((n1 : Int) != (n2 : Int)) = true := by rw [bne_iff_ne]; omega
    have hAB : decide (A = B) = false := by rw [decide_eq_false_iff_not]; intro h; subst h; omega
    have HA := Lib.hid hAB
    clear e1 e2 hAB
    go_enter Tryd.func44, Tryd.ntmps44
    go_wp2_with (first | ((with_reducible refine' wpList_len_rd (.tmp 6) 22 rfl ?_ Tryd.underlying22 ?_ h1 ?_); exact rfl; exact rfl; simp only [Act.put, List.setIfInBounds_toArray, List.set_cons_succ, List.set_cons_zero]) | ((with_reducible refine' wpList_len_rd (.tmp 8) 22 rfl ?_ Tryd.underlying22 ?_ h2 ?_); exact rfl; exact rfl; simp only [Act.put, List.setIfInBounds_toArray, List.set_cons_succ, List.set_cons_zero]))
    go_ret
    exact ⟨by rw [HA.out]; rfl, 0, rfl⟩

/-- a list of digests: each of 16 bytes -/
def DigsOk (l : List (List UInt8)) : Prop := ∀ d ∈ l, d.length = 16
theorem dig_len {A : List (List UInt8)} {n : Nat} (hA : DigsOk A) (h : (bv A.flatten).length = n * 16) : A.length = n := by
  rw [bv_length, flat_len hA] at h; omega
theorem dig_part {A : List (List UInt8)} {k : Nat} {x : List UInt8} (hA : DigsOk A) (h : A[k]? = some x) : ((bv A.flatten).drop (k * 16)).take 16 = bv x := by
  rw [bv_drop, bv_take, flat_part hA h]

end Go.Proofs.YtdlhkhnoigbhjaaDoor.Wi
namespace Go.Proofs.YtdlhkhnoigbhjaaDoor.Wi
open Go Go.RowKit Pu Lb
set_option linter.unusedSimpArgs false
set_option linter.unusedVariables false
set_option maxRecDepth 100000 in
set_option maxHeartbeats 1600000 in
theorem samepaths_any (A B : List (List Int)) (X1 X2 : Nat → Prop) (va vb : Value) (xs ys : List Value) (w : World) (h1 : Rd w 1 va A.length xs) (h2 : Rd w 1 vb B.length ys) (HP1 : IsPs X1 w A xs) (HP2 : IsPs X2 w B ys) :
    Calls Tryd.prog 26 #[va, vb] w fun e w' => e = .returned (.bool (decide (A = B))) ∧ Below w.heap.size w w' := by
  have l1 := h1.len
  have l2 := h2.len
  unfold maxLen at l1 l2
  obtain ⟨n1, e1⟩ : ∃ n1, A.length = n1 := ⟨_, rfl⟩
  obtain ⟨n2, e2⟩ : ∃ n2, B.length = n2 := ⟨_, rfl⟩
  rw [e1] at h1 l1
  rw [e2] at h2 l2
  have HE1 := Lib.hid e1
  have HE2 := Lib.hid e2
  by_cases hne : n1 = n2
  · obtain rfl := hne
    clear e1 e2
    go_enter Tryd.func26, Tryd.ntmps26
    go_upto_region 4 with (first | ((with_reducible refine' wpList_len_rd (.tmp 6) 36 rfl ?_ Tryd.underlying36 ?_ h1 ?_); exact rfl; exact rfl; simp only [Act.put, List.setIfInBounds_toArray, List.set_cons_succ, List.set_cons_zero]) | ((with_reducible refine' wpList_len_rd (.tmp 8) 36 rfl ?_ Tryd.underlying36 ?_ h2 ?_); exact rfl; exact rfl; simp only [Act.put, List.setIfInBounds_toArray, List.set_cons_succ, List.set_cons_zero]))
    go_loopw [5] (fun i wr => ∃ k : Nat, k ≤ n1 ∧ i = .int .i64 k ∧ Hid (A.take k = B.take k) ∧ Below w.heap.size w wr) (fun i _ => n1 - (intOf i).toNat)
    case atStart => exact ⟨0, Nat.zero_le _, rfl, Lib.hid rfl, Below.refl _ _⟩
    case round =>
      obtain ⟨k, hk, rfl, HT, hb⟩ := hrel
      obtain ⟨wo, rfl⟩ : ∃ wo : World, wo = wr := ⟨_, rfl⟩
      have g1 := h1.below hb
      have g2 := h2.below hb
      by_cases hlt : k < n1
      · obtain ⟨x, hx⟩ : ∃ x, A[k]? = some x := get_lt (by rw [HE1.out]; exact hlt)
        obtain ⟨y, hy⟩ : ∃ y, B[k]? = some y := get_lt (by rw [HE2.out]; exact hlt)
        obtain ⟨u, hu1, _, hu3⟩ := HP1.2 k x hx
        obtain ⟨v, hv1, _, hv3⟩ := HP2.2 k y hy
        have U := Lib.hid hu1
        have V := Lib.hid hv1
        have CA : ∀ w', Below wo.heap.size wo w' → Rd w' 1 va n1 xs := fun w' h => g1.below h
        have CB : ∀ w', Below wo.heap.size wo w' → Rd w' 1 vb n1 ys := fun w' h => g2.below h
        have hd : Below wo.heap.size wo wo.drew := (Below.refl _ wo).drew
        have ru : Rd wo.drew 1 u x.length (iv x) := (hu3.1.below hb).below hd
        have rv : Rd wo.drew 1 v y.length (iv y) := (hv3.1.below hb).below hd
        have HX := Lib.hid hx
        have HY := Lib.hid hy
        clear hx hy hu1 hv1 hu3 hv3
        go_upto_region 6 with (((with_reducible refine' wpList_len_rd (.tmp 12) 36 rfl ?_ Tryd.underlying36 ?_ g1 ?_); exact rfl; exact rfl; simp only [Act.put, List.setIfInBounds_toArray, List.set_cons_succ, List.set_cons_zero]))
        (refine wp_region_plan (fun w' => Below wo.heap.size wo w') (.f 0 (.f 1 (.f 2 (.f 3 (.f 4 (.f 5 (.f 6 (.f 7 (.o 8 (.f 9 .tail)))))))))) 10 (by kernel_rfl) (by kernel_rfl) (hd) ?_)
        (repeat (refine wpPlan_f rfl ?_; (first | ((with_reducible refine' wpQuiet_at1_rd (.tmp 17) (.tmp 18) 36 rfl ?_ Tryd.underlying36 sz_ints ?_ g1 (k) ?_ ?_ ?_); exact rfl; exact rfl; (show (_ : Int) = _; omega); omega; simp only [Act.put, List.setIfInBounds_toArray, List.set_cons_succ, List.set_cons_zero]) | ((with_reducible refine' wpQuietH_load_rd (.tmp 19) 22 rfl ?_ ld_ints ?_ (CA) (U.out) ?_); exact rfl; exact rfl; simp only [Act.put, List.setIfInBounds_toArray, List.set_cons_succ, List.set_cons_zero]) | ((with_reducible refine' wpQuiet_at1_rd (.tmp 21) (.tmp 22) 36 rfl ?_ Tryd.underlying36 sz_ints ?_ g2 (k) ?_ ?_ ?_); exact rfl; exact rfl; (show (_ : Int) = _; omega); omega; simp only [Act.put, List.setIfInBounds_toArray, List.set_cons_succ, List.set_cons_zero]) | ((with_reducible refine' wpQuietH_load_rd (.tmp 23) 22 rfl ?_ ld_ints ?_ (CB) (V.out) ?_); exact rfl; exact rfl; simp only [Act.put, List.setIfInBounds_toArray, List.set_cons_succ, List.set_cons_zero]) | go_big_quiet_step (fail) | (go_big_quiet_want; go_big_quiet_op; refine ⟨_, fun _ _ => rfl, ?_⟩; go_big_quiet_on)); refine wpQuiet_nil ?_))
        refine wpPlan_o rfl ?_
        go_wp2_with ((go_at_call 44; (with_reducible refine (sameints_any u v _ _ x y _ ru rv).mono ?_); rintro e w' ⟨rfl, nq, rfl⟩))
        have hbq : Below wo.heap.size wo (wo.drewN (1 + nq)) := below_drewN (Below.refl _ _) _
        refine ⟨rfl, hbq, ?_⟩
        obtain ⟨bb, hbb⟩ : ∃ bb, decide (x = y) = bb := ⟨_, rfl⟩
        rw [hbb]
        refine wpPlan_f rfl ?_
        refine wpQuiet_of_run (v := .bool (!bb)) rfl (fun _ _ => rfl) ?_
        refine wpQuiet_nil ?_
        simp only [Act.put, List.setIfInBounds_toArray, List.set_cons_succ, List.set_cons_zero]
        refine wpPlan_tail ?_
        go_wp2_with fail
        refine onlyN ?_
        obtain ⟨wq, hwq⟩ : ∃ wq, wo.drewN (1 + nq) = wq := ⟨_, rfl⟩
        rw [hwq] at hbq ⊢
        have hbw := hb.trans (hbq.mono hb.size)
        clear hwq ru rv CA CB
        cases bb with
        | true =>
          have hxy := of_decide_eq_true hbb
          subst hxy
          have HT' := Lib.hid (take_step HX.out HY.out HT.out)
          clear HX HY hbb
          go_wp2_with fail
          go_roundw
          case rel => (first | exact ⟨k + 1, by omega, by go_num, HT', hbw⟩ | ((repeat apply Exists.intro); exact ⟨⟨k + 1, by omega, by go_num, HT', hbw⟩, rfl⟩))
          case measure => simp [intOf]; omega
        | false =>
          have hn : decide (A = B) = false := decide_eq_false_iff_not.2 (take_ne HX.out HY.out (of_decide_eq_false hbb))
          have HN := Lib.hid hn
          clear HX HY hbb hn
          go_wp2_with fail
          go_ret
          exact ⟨by rw [HN.out]; rfl, hbw⟩
      · obtain rfl : k = n1 := by omega
        have he : decide (A = B) = true := by
          have h := HT.out
          rw [List.take_of_length_le (by rw [HE1.out]; omega), List.take_of_length_le (by rw [HE2.out]; omega)] at h
          exact decide_eq_true h
        have HE := Lib.hid he
        clear he
        go_wp2_with (first | ((with_reducible refine' wpList_len_rd (.tmp 12) 36 rfl ?_ Tryd.underlying36 ?_ g1 ?_); exact rfl; exact rfl; simp only [Act.put, List.setIfInBounds_toArray, List.set_cons_succ, List.set_cons_zero]))
        go_ret
        exact ⟨by rw [HE.out]; rfl, hb⟩
  · have hne' : ((n1 : Int) != (n2 : Int)) = true := by rw [bne_iff_ne]; omega
    have hAB : decide (A = B) = false := by rw [decide_eq_false_iff_not]; intro h; subst h; omega
    have HA := Lib.hid hAB
    clear e1 e2 hAB
    go_enter Tryd.func26, Tryd.ntmps26
    go_wp2_with (first | ((with_reducible refine' wpList_len_rd (.tmp 6) 36 rfl ?_ Tryd.underlying36 ?_ h1 ?_); exact rfl; exact rfl; simp only [Act.put, List.setIfInBounds_toArray, List.set_cons_succ, List.set_cons_zero]) | ((with_reducible refine' wpList_len_rd (.tmp 8) 36 rfl ?_ Tryd.underlying36 ?_ h2 ?_); exact rfl; exact rfl; simp only [Act.put, List.setIfInBounds_toArray, List.set_cons_succ, List.set_cons_zero]))
    go_ret
    exact ⟨by rw [HA.out]; rfl, Below.refl _ _⟩
end Go.Proofs.YtdlhkhnoigbhjaaDoor.Wi
