/-
  The encoders and the decoders of lists of digests. Conditions: the argument reads as such a list, or as at most 2^40 bytes.
-/
import Derived.Test.YtomjniijnpnehaaSaml
import Derived.Test.YtomjniijnpnehaaGtl
import Derived.Test.YtomjniijnpnehaaBlk
namespace Go.Proofs.Ytomjniijnpnehaa.Wi
open Go Go.RowKit Pu Lb

theorem zeros_cells : (Value.agg (Array.replicate 16 (Value.int .u8 0))).cells = (List.replicate 16 (Value.int .u8 0)).toArray := rfl

set_option maxRecDepth 100000 in
set_option maxHeartbeats 800000 in
theorem digests_any (v : Value) (n : Nat) (l : List (List UInt8)) (w : World) (hok : DigsOk l) (hv : Rd w 16 v n (bv l.flatten)) (hT : (encList id l).length ≤ 70368744177664) :
    Calls Try.prog 22 #[v] w fun e w' => ∃ v, e = .returned v ∧ w'.ownsRow w.heap.size 5 1 v (encList id l).length (bv (encList id l)) ∧ Below w.heap.size w w' := by
  have hn := hv.len
  unfold maxLen at hn
  have hl : l.length = n := dig_len hok hv.1
  have HL := Lib.hid hl; clear hl
  have hT1 := encTo_le id l
  obtain ⟨T, hTe⟩ : ∃ T, T = (encList id l).length := ⟨_, rfl⟩
  rw [← hTe] at hT hT1
  have HT := Lib.hid hTe; clear hTe
  go_enter Try.func22, Try.ntmps22
  go_wp2_with (first | ((with_reducible refine' wpList_len_rd (.tmp 6) 24 rfl ?_ Try.underlying24 ?_ hv ?_); exact rfl; exact rfl; simp only [Act.put, List.setIfInBounds_toArray, List.set_cons_succ, List.set_cons_zero]) | (go_at_call 14; refine (int_any _ _ (by omega) (by omega)).mono ?_; rintro e w' ⟨v1, rfl, ho1, hb1⟩; rw [← HL.out, ← encTo_zero id l] at ho1; have hv1 := hv.below hb1) | ((with_reducible refine' wpList_len_rd (.tmp 9) 24 rfl ?_ Try.underlying24 ?_ hv1 ?_); exact rfl; exact rfl; simp only [Act.put, List.setIfInBounds_toArray, List.set_cons_succ, List.set_cons_zero]))
  go_loopw [3, 11] (fun x i wr => ∃ k : Nat, k ≤ n ∧ i = .int .i64 k ∧ wr.ownsRow w.heap.size 5 1 x (encTo id l k).length (bv (encTo id l k)) ∧ Below w.heap.size w wr) (fun _ i _ => n - (intOf i).toNat)
  case atStart => exact ⟨0, Nat.zero_le _, rfl, ho1, hb1⟩
  case round =>
    obtain ⟨k, hk, rfl, hown, hbl⟩ := hrel
    have HO := Lib.hid hown; clear hown
    have hg := hv.below hbl
    by_cases hlt : k < n
    · obtain ⟨x, hx⟩ : ∃ x, l[k]? = some x := get_lt (by rw [HL.out]; exact hlt)
      have P1 := Lib.hid (dig_part hok hx)
      have G1 : k * 16 + 16 ≤ (bv l.flatten).length := by rw [hv.1]; omega
      have X1 : (bv x).length = 16 := by rw [bv_length]; exact hok x (mem_of_get hx)
      have hst : encTo id l (k + 1) = encTo id l k ++ x := encTo_step id hx
      have h2 := hT1 (k + 1)
      rw [hst, List.length_append] at h2
      have HS := Lib.hid hst; clear hst hx
      have h1 := bv_one x
      have hxl : x.length = 16 := by rw [bv_length] at X1; exact X1
      have HXL := Lib.hid hxl
      have HX := Lib.hid X1; clear X1
      go_wp2_with (first | ((with_reducible refine' wpList_at_rd (.tmp 9) (.tmp 11) 24 rfl ?_ Try.underlying24 sz_dig ?_ hg (by decide) (k) ?_ ?_ ?_); exact rfl; exact rfl; (show (_ : Int) = _; omega); omega; simp only [Act.put, List.setIfInBounds_toArray, List.set_cons_succ, List.set_cons_zero]) | (((with_reducible refine' wpList_load_arr (.tmp 13) 57 rfl ?_ Try.underlying57 sz_dig (k * 16) ?_ hg ?_ (by decide) ?_); exact rfl; exact rfl; exact G1; simp only [Act.put, List.setIfInBounds_toArray, List.set_cons_succ, List.set_cons_zero]); rw [P1.out]) | ((with_reducible refine' wpList_alloc_blk (cs := List.replicate 16 (.int .u8 0)) 57 rfl ?_ zr_dig ?_ ?_); exact rfl; exact zeros_cells; intro w2 hk2 hb2 hz2; simp only [Act.put, List.setIfInBounds_toArray, List.set_cons_succ, List.set_cons_zero]) | ((with_reducible refine' wpList_store_blk (cs := bv x) 57 (.tmp 5) (.tmp 14) rfl ?_ ?_ ?_ hk2 sz_dig ?_ ?_ ?_ ?_); exact rfl; exact rfl; exact rfl; exact HX.out; simp; exact h1; intro w3 hk3 hq3 hz3; have hb3 := hb2.trans (hq3.below (Nat.le_refl _) (by omega)); simp only [Act.put]) | ((with_reducible refine' wpList_all_blk (.tmp 5) 57 rfl ?_ Try.underlying57 sz_u8 ?_ hk3 ?_ ?_ ?_); exact rfl; exact rfl; exact HX.out; (unfold maxLen; omega); intro hr3; simp only [Act.put, List.setIfInBounds_toArray, List.set_cons_succ, List.set_cons_zero]) | ((with_reducible refine' wpList_append_rd (.tmp 15) (.tmp 16) 28 rfl ?_ Try.underlying28 inf_u8 ?_ ?_ ?_ (own_below HO.out hb3) ?_ hr3 h1 ?_ ?_ (Nat.le_trans hbl.size hb3.size) ?_); exact rfl; exact rfl; omega; exact rfl; exact rfl; (first | omega | (unfold maxLen; omega)); omega; intro v4 w4 ho4 hb4; simp only [Act.put, List.setIfInBounds_toArray, List.set_cons_succ, List.set_cons_zero]))
      rw [← bv_append, ← HXL.out, ← List.length_append, ← HS.out] at ho4
      have HO4 := Lib.hid ho4; clear ho4
      go_roundw
      case rel => exact ⟨k + 1, by omega, by go_num, HO4.out, (hbl.trans (hb3.mono hbl.size)).trans hb4⟩
      case measure => simp [intOf]; omega
    · go_wp2_with fail
      go_ret
      refine ⟨_, rfl, ?_, hbl⟩
      rw [← encTo_all id l (k := k) (by rw [HL.out]; omega)]
      exact HO.out

theorem take_snoc' {l : List UInt8} {i : Nat} {c : UInt8} (h : l[i]? = some c) : l.take (i + 1) = l.take i ++ [c] := by rw [List.take_add_one, h]; rfl
theorem dig_cell {A : List (List UInt8)} {k i : Nat} {x : List UInt8} {c : UInt8} (hA : DigsOk A) (h : A[k]? = some x) (hc : x[i]? = some c) : (bv A.flatten)[k * 16 + i]? = some (.int .u8 (c.toNat : Int)) := by
  have hp := dig_part hA h
  have h1 : ((bv A.flatten).drop (k * 16))[i]? = (bv x)[i]? := by
    rw [← hp, List.getElem?_take]
    rw [if_pos]
    have := hA x (mem_of_get h)
    have hl := (List.getElem?_eq_some_iff.1 hc).1
    omega
  rw [List.getElem?_drop] at h1
  rw [h1]; exact bv_at hc

set_option maxRecDepth 100000 in
set_option maxHeartbeats 800000 in
theorem refdigests_any (v : Value) (n : Nat) (l : List (List UInt8)) (w : World) (hok : DigsOk l) (hv : Rd w 16 v n (bv l.flatten)) (hT : (encList id l).length ≤ 70368744177664) :
    Calls Try.prog 23 #[v] w fun e w' => ∃ v, e = .returned v ∧ w'.ownsRow w.heap.size 5 1 v (encList id l).length (bv (encList id l)) ∧ Below w.heap.size w w' := by
  have hn := hv.len
  unfold maxLen at hn
  have hl : l.length = n := dig_len hok hv.1
  have HL := Lib.hid hl; clear hl
  have hT1 := encTo_le id l
  obtain ⟨T, hTe⟩ : ∃ T, T = (encList id l).length := ⟨_, rfl⟩
  rw [← hTe] at hT hT1
  have HT := Lib.hid hTe; clear hTe
  go_enter Try.func23, Try.ntmps23
  go_wp2_with (first | ((with_reducible refine' wpList_len_rd (.tmp 6) 24 rfl ?_ Try.underlying24 ?_ hv ?_); exact rfl; exact rfl; simp only [Act.put, List.setIfInBounds_toArray, List.set_cons_succ, List.set_cons_zero]) | (go_at_call 15; refine (refint_any _ _ (by omega) (by omega)).mono ?_; rintro e w' ⟨v1, rfl, ho1, hb1⟩; rw [← HL.out, ← encTo_zero id l] at ho1; have hv1 := hv.below hb1))
  go_loopw [3, 4] (fun x i wr => ∃ k : Nat, k ≤ n ∧ i = .int .i64 k ∧ wr.ownsRow w.heap.size 5 1 x (encTo id l k).length (bv (encTo id l k)) ∧ Below w.heap.size w wr) (fun _ i _ => n - (intOf i).toNat)
  case atStart => exact ⟨0, Nat.zero_le _, rfl, ho1, hb1⟩
  case round =>
    obtain ⟨k, hk, rfl, hown, hbl⟩ := hrel
    have HO := Lib.hid hown; clear hown
    have hg := hv.below hbl
    by_cases hlt : k < n
    · obtain ⟨x, hx⟩ : ∃ x, l[k]? = some x := get_lt (by rw [HL.out]; exact hlt)
      have G0 : 0 < (bv l.flatten).length := by rw [hv.1]; omega
      have HX := Lib.hid hx
      have hxl := hok x (mem_of_get hx)
      have HXL := Lib.hid hxl
      have hst : encTo id l (k + 1) = encTo id l k ++ x := encTo_step id hx
      have h2 := hT1 (k + 1)
      rw [hst, List.length_append] at h2
      have HS := Lib.hid hst; clear hst hx
      obtain ⟨wo, rfl⟩ : ∃ wo : World, wo = wr := ⟨_, rfl⟩
      go_upto_block 1 with (first | ((with_reducible refine' wpList_len_rd (.tmp 10) 24 rfl ?_ Try.underlying24 ?_ hg ?_); exact rfl; exact rfl; simp only [Act.put, List.setIfInBounds_toArray, List.set_cons_succ, List.set_cons_zero]))
      go_cut [3] (fun y w' => w'.ownsRow w.heap.size 5 1 y (encTo id l (k + 1)).length (bv (encTo id l (k + 1))) ∧ Below w.heap.size w w')
      case first =>
        go_wp2_with fail
        go_loopw [3, 5] (fun y i wr => ∃ j : Nat, j ≤ 16 ∧ i = .int .i64 j ∧ wr.ownsRow w.heap.size 5 1 y (encTo id l k ++ x.take j).length (bv (encTo id l k ++ x.take j)) ∧ Below w.heap.size w wr) (fun _ i _ => 16 - (intOf i).toNat)
        case atStart => exact ⟨0, Nat.zero_le _, rfl, by rw [List.take_zero, List.append_nil]; exact HO.out, hbl⟩
        case round =>
          obtain ⟨j, hj, rfl, hown, hbl2⟩ := hrel
          have HO2 := Lib.hid hown; clear hown
          have hg2 := hv.below hbl2
          by_cases hj16 : j < 16
          · obtain ⟨c, hc⟩ : ∃ c, x[j]? = some c := get_lt (by rw [HXL.out]; exact hj16)
            have C := Lib.hid (dig_cell hok HX.out hc)
            have hlen : (encTo id l k ++ x.take j).length ≤ (encTo id l k).length + x.length := by rw [List.length_append, List.length_take]; omega
            obtain ⟨L, hL⟩ : ∃ L, L = encTo id l k ++ x.take j := ⟨_, rfl⟩
            have hL2 : encTo id l k ++ x.take (j + 1) = L ++ [c] := by rw [take_snoc' hc, hL, List.append_assoc]
            have ho := HO2.out
            rw [← hL] at ho hlen
            have HO3 := Lib.hid ho
            have HL2 := Lib.hid hL2
            clear ho hL hL2 hc
            go_wp2_with (first | ((with_reducible refine' wpList_at_rd (.tmp 20) (.tmp 21) 24 rfl ?_ Try.underlying24 sz_dig ?_ hg2 (by decide) (k) ?_ ?_ ?_); exact rfl; exact rfl; (show (_ : Int) = _; omega); omega; simp only [Act.put, List.setIfInBounds_toArray, List.set_cons_succ, List.set_cons_zero]) | ((with_reducible refine' wpList_at_ep (j := k * 16) (.tmp 23) (.tmp 22) 57 rfl ?_ Try.underlying57 sz_u8 ?_ hg2 (G0) (j) ?_ ?_ ?_); exact rfl; exact rfl; (show (_ : Int) = _; omega); omega; simp only [Act.put, List.setIfInBounds_toArray, List.set_cons_succ, List.set_cons_zero]) | ((with_reducible refine' wpList_load_rd (.tmp 24) 5 rfl ?_ ld_u8 ?_ hg2 (C.out) ?_); exact rfl; exact rfl; simp only [Act.put, List.setIfInBounds_toArray, List.set_cons_succ, List.set_cons_zero]) | ((with_reducible refine' wpList_append_one (.tmp 19) (.tmp 26) 28 rfl ?_ Try.underlying28 inf_u8 ?_ ?_ HO3.out ?_ ?_ ?_ ?_ hbl2.size ?_); exact rfl; exact rfl; exact rfl; exact rfl; exact rfl; (first | omega | (unfold maxLen; omega)); omega; intro v4 w4 ho4 hb4; simp only [Act.put, List.setIfInBounds_toArray, List.set_cons_succ, List.set_cons_zero]))
            have he : bv L ++ [.int .u8 (c.toNat : Int)] = bv (L ++ [c]) := by rw [bv_append]; rfl
            rw [he] at ho4
            have HO4 := Lib.hid ho4; clear ho4 he
            go_roundw
            case rel => exact ⟨j + 1, by omega, by go_num, by rw [HL2.out, List.length_append]; exact HO4.out, hbl2.trans hb4⟩
            case measure => simp [intOf]; omega
          · go_wp2_with fail
            go_meet
            case rel =>
              have ho := HO2.out
              rw [List.take_of_length_le (by rw [HXL.out]; omega), ← HS.out] at ho
              exact ⟨ho, hbl2⟩
      case rest =>
        obtain ⟨hown, hbl2⟩ := hcut
        have HO2 := Lib.hid hown; clear hown
        go_wp2_with fail
        go_roundw
        case rel => exact ⟨k + 1, by omega, by go_num, HO2.out, hbl2⟩
        case measure => simp [intOf]; omega
    · go_wp2_with (first | ((with_reducible refine' wpList_len_rd (.tmp 10) 24 rfl ?_ Try.underlying24 ?_ hg ?_); exact rfl; exact rfl; simp only [Act.put, List.setIfInBounds_toArray, List.set_cons_succ, List.set_cons_zero]))
      go_ret
      refine ⟨_, rfl, ?_, hbl⟩
      rw [← encTo_all id l (k := k) (by rw [HL.out]; omega)]
      exact HO.out

/-! ### decoders -/
theorem digs_decN (b : List UInt8) : ∀ (k at_ : Nat), at_ + 16 * k ≤ b.length → DigsOk (decN getDig b k at_).1
  | 0, _, _ => fun d hd => by simp [decN] at hd
  | k + 1, at_, h => by
    have ih := digs_decN b k (at_ + 16) (by omega)
    intro d hd
    simp only [decN, getDig] at hd
    by_cases h2 : (decN getDig b k (at_ + 16)).2.2 = 0
    case neg => simp [h2] at hd
    case pos =>
      simp only [ne_eq, not_true, if_false, h2, List.mem_cons] at hd
      rcases hd with rfl | hd
      · rw [List.length_take, List.length_drop]; omega
      · exact ih d hd
theorem digs_get (b : List UInt8) : DigsOk (getDigests b).1 := by
  obtain ⟨⟨m, at0, e0⟩, hx⟩ : ∃ x, cnt b 16 = x := ⟨_, rfl⟩
  unfold getDigests
  rw [hx]
  by_cases he : e0 = 0
  · subst he
    obtain ⟨_, h2, h3, _⟩ := cnt_ok hx
    simp only [ne_eq, not_true, if_false]
    exact digs_decN b m at0 (by omega)
  · simp only [ne_eq, he, not_false_eq_true, if_true]
    intro d hd; simp at hd

theorem digs_snoc {acc : List (List UInt8)} {d : List UInt8} (h : DigsOk acc) (hd : d.length = 16) : DigsOk (acc ++ [d]) := by
  intro x hx
  simp only [List.mem_append, List.mem_singleton] at hx
  rcases hx with hx | rfl
  · exact h x hx
  · exact hd
theorem bv_snoc_flat (acc : List (List UInt8)) (d : List UInt8) : bv acc.flatten ++ bv d = bv (acc ++ [d]).flatten := by
  rw [← bv_append]; simp

set_option maxRecDepth 100000 in
set_option maxHeartbeats 800000 in
theorem getdigests_any (v : Value) (n : Nat) (b : List UInt8) (w : World) (hv : Rd w 1 v n (bv b)) (hn1 : n ≤ 1099511627776) :
    Calls Try.prog 34 #[v] w fun e w' => ∃ v, e = .returned (.tuple #[v, .int .i64 ((getDigests b).2.1 : Int), .int .i64 ((getDigests b).2.2 : Int)]) ∧ w'.ownsRow w.heap.size 57 16 v (getDigests b).1.length (bv (getDigests b).1.flatten) ∧ Below w.heap.size w w' := by
  have hl : b.length = n := by have := hv.1; rw [bv_length] at this; omega
  have HL := Lib.hid hl; clear hl
  obtain ⟨⟨m, at0, e0⟩, hx⟩ : ∃ x, cnt b 16 = x := ⟨_, rfl⟩
  have HC := Lib.hid hx
  by_cases he : e0 = 0
  · subst he
    obtain ⟨_, h2, h3, _, h5⟩ := cnt_ok hx
    rw [HL.out] at h2 h3
    have hgl : getDigests b = behind [] (decN getDig b m at0) := by rw [behind_nil]; simp [getDigests, HC.out]
    have HG := Lib.hid hgl
    clear hx hgl
    go_enter Try.func34, Try.ntmps34
    go_wp2_with (first | (go_at_call 38; refine (count_any _ _ _ 16 _ hv (by omega) (by omega)).mono ?_; rintro e w' ⟨x, y, rfl, hxy, rfl⟩; rw [HC.out] at hxy ⊢; obtain ⟨rfl, rfl⟩ := hxy rfl; clear hxy))
    go_loopw [6, 8, 19] (fun a o i wr => ∃ (j : Nat) (acc : List (List UInt8)), j ≤ m ∧ acc.length = j ∧ DigsOk acc ∧ i = .int .i64 j ∧ a = .int .i64 ((at0 + 16 * j : Nat) : Int) ∧ wr.ownsRow w.heap.size 57 16 o j (bv acc.flatten) ∧ Below w.heap.size w wr ∧ getDigests b = behind acc (decN getDig b (m - j) (at0 + 16 * j))) (fun _ _ i _ => m - (intOf i).toNat)
    case atStart => exact ⟨0, [], Nat.zero_le _, rfl, (fun d hd => by simp at hd), rfl, by simp, World.ownsRow_nil _ _ _ _, Below.refl _ _, HG.out⟩
    case round =>
      obtain ⟨j, acc, hj, hacc, hok, rfl, rfl, hown, hbl, hdec⟩ := hrel
      have HO := Lib.hid hown
      have HD := Lib.hid hdec
      have HA := Lib.hid hacc
      clear hown hdec hacc
      have hg := hv.below hbl
      by_cases hlt : j < m
      · obtain ⟨at_, hat⟩ : ∃ at_, at_ = at0 + 16 * j := ⟨_, rfl⟩
        have hat2 : at_ + 16 ≤ n := by omega
        have hd := HD.out
        rw [← hat, show m - j = (m - (j + 1)) + 1 by omega, behind_step (f := getDig) (x := (b.drop at_).take 16) (used := 16) rfl] at hd
        have hnext : at_ + 16 = at0 + 16 * (j + 1) := by omega
        rw [hnext] at hd
        rw [← hat]
        have HD2 := Lib.hid hd
        have HN := Lib.hid hnext
        have HAT := Lib.hid hat
        clear hd hnext hat
        obtain ⟨d, hd⟩ : ∃ d, d = (b.drop at_).take (at_ + 16 - at_) := ⟨_, rfl⟩
        have hdl : d.length = 16 := by rw [hd, List.length_take, List.length_drop, HL.out]; omega
        have G : 0 + 16 ≤ (bv d).length := by rw [bv_length]; omega
        have G1 : 0 < (bv d).length := by omega
        have hone := bv_one d
        have HDE := Lib.hid hd
        have HDL := Lib.hid hdl
        clear hd hdl
        go_wp2_with (first | (((with_reducible refine' wpList_cut_b (.tmp 22) (.tmp 23) (.tmp 25) 28 rfl ?_ Try.underlying28 sz_u8 ?_ hg (at_) (at_ + 16) ?_ ?_ ?_ ?_ ?_); exact rfl; exact rfl; (show (_ : Int) = _; omega); (show (_ : Int) = _; omega); omega; omega; intro v1 hv1; simp only [Act.put, List.setIfInBounds_toArray, List.set_cons_succ, List.set_cons_zero]); rw [← HDE.out, Nat.add_sub_cancel_left] at hv1) | ((with_reducible refine' wpList_arr_ptr (.tmp 26) 57 rfl ?_ Try.underlying57 ?_ hv1 ?_ (G1) ?_); exact rfl; exact rfl; omega; simp only [Act.put, List.setIfInBounds_toArray, List.set_cons_succ, List.set_cons_zero]) | (((with_reducible refine' wpList_load_arr (.tmp 27) 57 rfl ?_ Try.underlying57 sz_dig (0) ?_ hv1 ?_ (by decide) ?_); exact rfl; exact rfl; exact G; simp only [Act.put, List.setIfInBounds_toArray, List.set_cons_succ, List.set_cons_zero]); rw [List.drop_zero, List.take_of_length_le (by rw [bv_length, HDL.out]; omega)]) | ((with_reducible refine' wpList_build_one (cs := bv d) (.tmp 28) 24 rfl ?_ Try.underlying24 inf_dig ?_ ?_ ?_ ?_ ?_ ?_); exact rfl; exact rfl; omega; omega; exact rfl; rw [bv_length]; exact HDL.out; intro v2 w2 hr2 hb2 hz2; simp only [Act.put, List.setIfInBounds_toArray, List.set_cons_succ, List.set_cons_zero]) | ((with_reducible refine' wpList_append_rd (.tmp 21) (.tmp 29) 24 rfl ?_ Try.underlying24 inf_dig ?_ ?_ ?_ (own_below HO.out hb2) ?_ hr2 hone ?_ ?_ (Nat.le_trans hbl.size hb2.size) ?_); exact rfl; exact rfl; omega; exact rfl; exact rfl; (first | omega | (unfold maxLen; omega)); omega; intro v3 w3 ho3 hb3; simp only [Act.put, List.setIfInBounds_toArray, List.set_cons_succ, List.set_cons_zero]))
        rw [bv_snoc_flat] at ho3
        have hde := HDE.out
        rw [Nat.add_sub_cancel_left] at hde
        have hd2 := HD2.out
        rw [← hde] at hd2
        have HD3 := Lib.hid hd2
        have HO3 := Lib.hid ho3
        clear hde hd2 ho3
        go_roundw
        case rel => exact ⟨j + 1, acc ++ [d], by omega, by simp [HA.out], digs_snoc hok HDL.out, by go_num, by rw [← HN.out]; go_num, HO3.out, (hbl.trans (hb2.mono hbl.size)).trans hb3, HD3.out⟩
        case measure => simp [intOf]; omega
      · obtain rfl : j = m := by omega
        go_wp2_with fail
        go_ret3
        have hd := HD.out
        rw [Nat.sub_self, behind_zero] at hd
        rw [hd]
        refine ⟨_, rfl, ?_, hbl⟩
        rw [HA.out]
        exact HO.out
  · have heb : ((e0 : Int) != 0) = true := by rw [bne_iff_ne]; omega
    have hgl : getDigests b = ([], 0, e0) := by simp [getDigests, HC.out, he]
    have HG := Lib.hid hgl
    clear he hx hgl
    go_enter Try.func34, Try.ntmps34
    go_wp2_with (first | (go_at_call 38; refine (count_any _ _ _ 16 _ hv (by omega) (by omega)).mono ?_; rintro e w' ⟨x, y, rfl, hxy, rfl⟩; rw [HC.out]; clear hxy))
    go_ret3
    rw [HG.out]
    exact ⟨_, rfl, World.ownsRow_nil _ _ _ _, Below.refl _ _⟩

set_option maxRecDepth 100000 in
set_option maxHeartbeats 1600000 in
theorem refgetdigests_any (v : Value) (n : Nat) (b : List UInt8) (w : World) (hv : Rd w 1 v n (bv b)) (hn1 : n ≤ 1099511627776) :
    Calls Try.prog 35 #[v] w fun e w' => ∃ v, e = .returned (.tuple #[v, .int .i64 ((getDigests b).2.1 : Int), .int .i64 ((getDigests b).2.2 : Int)]) ∧ w'.ownsRow w.heap.size 57 16 v (getDigests b).1.length (bv (getDigests b).1.flatten) ∧ Below w.heap.size w w' := by
  have hl : b.length = n := by have := hv.1; rw [bv_length] at this; omega
  have HL := Lib.hid hl; clear hl
  obtain ⟨⟨m, at0, e0⟩, hx⟩ : ∃ x, cnt b 16 = x := ⟨_, rfl⟩
  have HC := Lib.hid hx
  by_cases he : e0 = 0
  · subst he
    obtain ⟨_, h2, h3, _, h5⟩ := cnt_ok hx
    rw [HL.out] at h2 h3
    have hgl : getDigests b = behind [] (decN getDig b m at0) := by rw [behind_nil]; simp [getDigests, HC.out]
    have HG := Lib.hid hgl
    clear hx hgl
    go_enter Try.func35, Try.ntmps35
    go_wp2_with (first | (go_at_call 39; refine (refcount_any _ _ _ 16 _ hv (by omega) (by omega) (by omega)).mono ?_; rintro e w' ⟨rfl, hb1⟩; rw [HC.out]))
    go_loopw [6, 8, 9] (fun a o i wr => ∃ (j : Nat) (acc : List (List UInt8)), j ≤ m ∧ acc.length = j ∧ DigsOk acc ∧ i = .int .i64 j ∧ a = .int .i64 ((at0 + 16 * j : Nat) : Int) ∧ wr.ownsRow w.heap.size 57 16 o j (bv acc.flatten) ∧ Below w.heap.size w wr ∧ getDigests b = behind acc (decN getDig b (m - j) (at0 + 16 * j))) (fun _ _ i _ => m - (intOf i).toNat)
    case atStart => exact ⟨0, [], Nat.zero_le _, rfl, (fun d hd => by simp at hd), rfl, by simp, World.ownsRow_nil _ _ _ _, hb1, HG.out⟩
    case round =>
      obtain ⟨j, acc, hj, hacc, hok, rfl, rfl, hown, hbl, hdec⟩ := hrel
      have HO := Lib.hid hown
      have HD := Lib.hid hdec
      have HA := Lib.hid hacc
      clear hown hdec hacc
      have hg := hv.below hbl
      by_cases hlt : j < m
      · obtain ⟨at_, hat⟩ : ∃ at_, at_ = at0 + 16 * j := ⟨_, rfl⟩
        have hat2 : at_ + 16 ≤ n := by omega
        have hd := HD.out
        rw [← hat, show m - j = (m - (j + 1)) + 1 by omega, behind_step (f := getDig) (x := (b.drop at_).take 16) (used := 16) rfl] at hd
        have hnext : at_ + 16 = at0 + 16 * (j + 1) := by omega
        rw [hnext] at hd
        rw [← hat]
        have HD2 := Lib.hid hd
        have HN := Lib.hid hnext
        have HAT := Lib.hid hat
        clear hd hnext hat
        obtain ⟨d, hd⟩ : ∃ d, d = (b.drop at_).take 16 := ⟨_, rfl⟩
        have hdl : d.length = 16 := by rw [hd, List.length_take, List.length_drop, HL.out]; omega
        have hone := bv_one d
        have HDE := Lib.hid hd
        have HDL := Lib.hid hdl
        clear hd hdl
        obtain ⟨wo, rfl⟩ : ∃ wo : World, wo = wr := ⟨_, rfl⟩
        go_upto_block 2 with (first | ((with_reducible refine' wpList_alloc_blk (cs := List.replicate 16 (.int .u8 0)) 57 rfl ?_ zr_dig ?_ ?_); exact rfl; exact zeros_cells; intro w2 hk2 hb2 hz2; simp only [Act.put, List.setIfInBounds_toArray, List.set_cons_succ, List.set_cons_zero]))
        go_cut [] (fun w' => Blk w' wo.heap.size 57 (bv d) ∧ Below wo.heap.size wo w')
        case first =>
          go_wp2_with fail
          go_loopw [11] (fun i wx => ∃ q : Nat, q ≤ 16 ∧ i = .int .i64 q ∧ Blk wx wo.heap.size 57 (bv (d.take q) ++ List.replicate (16 - q) (.int .u8 0)) ∧ Below wo.heap.size wo wx) (fun i _ => 16 - (intOf i).toNat)
          case atStart => exact ⟨0, by omega, rfl, hk2, hb2⟩
          case round =>
            obtain ⟨q, hq, rfl, hk3, hb3⟩ := hrel
            have HK := Lib.hid hk3; clear hk3
            have hg3 := hg.below hb3
            by_cases hq16 : q < 16
            · obtain ⟨c, hc⟩ : ∃ c, d[q]? = some c := get_lt (by rw [HDL.out]; exact hq16)
              have hcb : b[at_ + q]? = some c := by
                have h := hc
                rw [HDE.out] at h
                have h2 := get_of_take h
                rwa [List.getElem?_drop] at h2
              have C := Lib.hid (bv_at hcb)
              have hpl : (bv (d.take q)).length = q := by rw [bv_length, List.length_take, HDL.out]; omega
              have hlen : q < (bv (d.take q) ++ List.replicate (16 - q) (Value.int .u8 0)).length := by rw [List.length_append, hpl, List.length_replicate]; omega
              have hst := fill_step hpl hq16 (Value.int .u8 0) (Value.int .u8 (c.toNat : Int))
              rw [show bv (d.take q) ++ [Value.int .u8 (c.toNat : Int)] = bv (d.take (q + 1)) by rw [take_snoc' hc, bv_append]; rfl] at hst
              have HS := Lib.hid hst
              clear hc hcb hpl hst
              go_wp2_with (first | ((with_reducible refine' wpList_at1_rd (.tmp 31) (.tmp 34) 28 rfl ?_ Try.underlying28 sz_u8 ?_ hg3 (at_ + q) ?_ ?_ ?_); exact rfl; exact rfl; (show (_ : Int) = _; omega); omega; simp only [Act.put, List.setIfInBounds_toArray, List.set_cons_succ, List.set_cons_zero]) | ((with_reducible refine' wpList_load_rd (.tmp 35) 5 rfl ?_ ld_u8 ?_ hg3 (C.out) ?_); exact rfl; exact rfl; simp only [Act.put, List.setIfInBounds_toArray, List.set_cons_succ, List.set_cons_zero]) | ((with_reducible refine' wpList_at_blk (.tmp 10) (.tmp 30) 57 rfl ?_ Try.underlying57 sz_u8 ?_ (q) ?_ ?_ ?_); exact rfl; exact rfl; (show (_ : Int) = _; omega); omega; simp only [Act.put, List.setIfInBounds_toArray, List.set_cons_succ, List.set_cons_zero]) | (((with_reducible refine' wpList_set_blk (u := .int .u8 (c.toNat : Int)) 5 (.tmp 37) (.tmp 36) rfl ?_ sz_u8 ?_ ?_ HK.out (hlen) ?_ ?_); exact rfl; exact rfl; exact rfl; exact rfl; intro w4 hk4 hq4 hz4; simp only [Act.put]); rw [HS.out] at hk4; have hb4 := hb3.trans (hq4.below (Nat.le_refl _) hb3.size); have HK4 := Lib.hid hk4; clear hk4))
              go_roundw
              case rel => exact ⟨q + 1, by omega, by go_num, HK4.out, hb4⟩
              case measure => simp [intOf]; omega
            · go_wp2_with fail
              go_meet
              case rel =>
                have hk := HK.out
                obtain rfl : q = 16 := by omega
                rw [List.take_of_length_le (by rw [HDL.out]; omega)] at hk
                simp only [Nat.sub_self, List.replicate_zero, List.append_nil] at hk
                exact ⟨hk, hb3⟩
        case rest =>
          obtain ⟨hk5, hb5⟩ := hcut
          have hlen5 : (bv d).length = 16 := by rw [bv_length]; exact HDL.out
          have HL5 := Lib.hid hlen5; clear hlen5
          go_wp2_with (first | ((with_reducible refine' wpList_loadall_blk (.tmp 10) 57 rfl ?_ Try.underlying57 sz_dig ?_ hk5 ?_ ?_ ?_); exact rfl; exact rfl; exact HL5.out; omega; simp only [Act.put, List.setIfInBounds_toArray, List.set_cons_succ, List.set_cons_zero]) | ((with_reducible refine' wpList_build_one (cs := bv d) (.tmp 39) 24 rfl ?_ Try.underlying24 inf_dig ?_ ?_ ?_ ?_ ?_ ?_); exact rfl; exact rfl; omega; omega; exact rfl; exact HL5.out; intro w6 w7 hr7 hb7 hz7; have hb8 := hb5.trans (hb7.mono hb5.size); simp only [Act.put, List.setIfInBounds_toArray, List.set_cons_succ, List.set_cons_zero]) | ((with_reducible refine' wpList_append_rd (.tmp 38) (.tmp 40) 24 rfl ?_ Try.underlying24 inf_dig ?_ ?_ ?_ (own_below HO.out hb8) ?_ hr7 hone ?_ ?_ (Nat.le_trans hbl.size hb8.size) ?_); exact rfl; exact rfl; omega; exact rfl; exact rfl; (first | omega | (unfold maxLen; omega)); omega; intro v3 w3 ho3 hb9; simp only [Act.put, List.setIfInBounds_toArray, List.set_cons_succ, List.set_cons_zero]))
          rw [bv_snoc_flat] at ho3
          have hd2 := HD2.out
          rw [← HDE.out] at hd2
          have HD3 := Lib.hid hd2
          have HO3 := Lib.hid ho3
          clear hd2 ho3
          go_roundw
          case rel => exact ⟨j + 1, acc ++ [d], by omega, by simp [HA.out], digs_snoc hok HDL.out, by go_num, by rw [← HN.out]; go_num, HO3.out, (hbl.trans (hb8.mono hbl.size)).trans hb9, HD3.out⟩
          case measure => simp [intOf]; omega
      · obtain rfl : j = m := by omega
        go_wp2_with fail
        go_ret3
        have hd := HD.out
        rw [Nat.sub_self, behind_zero] at hd
        rw [hd]
        refine ⟨_, rfl, ?_, hbl⟩
        rw [HA.out]
        exact HO.out
  · have heb : ((e0 : Int) != 0) = true := by rw [bne_iff_ne]; omega
    have hgl : getDigests b = ([], 0, e0) := by simp [getDigests, HC.out, he]
    have HG := Lib.hid hgl
    clear he hx hgl
    go_enter Try.func35, Try.ntmps35
    go_wp2_with (first | (go_at_call 39; refine (refcount_any _ _ _ 16 _ hv (by omega) (by omega) (by omega)).mono ?_; rintro e w' ⟨rfl, hb1⟩; rw [HC.out]))
    go_ret3
    rw [HG.out]
    exact ⟨_, rfl, World.ownsRow_nil _ _ _ _, hb1⟩
end Go.Proofs.Ytomjniijnpnehaa.Wi
