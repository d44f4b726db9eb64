/-
  The decoders of lists of integers and of byte strings. Conditions: the argument reads as at most 2^40 bytes.
-/
import Derived.Test.YtomjniijnpnehaaLst
namespace Go.Proofs.Ytomjniijnpnehaa.Wi
open Go Go.RowKit Pu Lb

theorem getBytes_used {b : List UInt8} {s : List UInt8} {used : Nat} (h : getBytes b = (s, used, 0)) : used ≤ b.length := by
  obtain ⟨⟨m, u, e⟩, hx⟩ : ∃ x, cnt b 1 = x := ⟨_, rfl⟩
  unfold getBytes at h
  rw [hx] at h
  by_cases he : e = 0
  · subst he
    simp only [ne_eq, not_true, if_false, Prod.mk.injEq, and_true] at h
    obtain ⟨_, h2, h3, _⟩ := cnt_ok hx
    omega
  · simp [he] at h

theorem getInt_used {b : List UInt8} {x : Int} {used : Nat} (h : getInt b = (x, used, 0)) : used ≤ b.length := (enc_get h).2.2.1

set_option maxRecDepth 100000 in
set_option maxHeartbeats 800000 in
theorem refgetints_any (v : Value) (n : Nat) (b : List UInt8) (w : World) (hv : Rd w 1 v n (bv b)) (hn1 : n ≤ 1099511627776) :
    Calls Try.prog 29 #[v] w fun e w' => ∃ v, e = .returned (.tuple #[v, .int .i64 ((getInts b).2.1 : Int), .int .i64 ((getInts b).2.2 : Int)]) ∧ w'.ownsRow w.heap.size 3 1 v (getInts b).1.length (iv (getInts b).1) ∧ Below w.heap.size w w' := by
  have hl : b.length = n := by have := hv.1; rw [bv_length] at this; omega
  have HL := Lib.hid hl; clear hl
  obtain ⟨⟨m, at0, e0⟩, hx⟩ : ∃ x, cnt b 1 = x := ⟨_, rfl⟩
  have HC := Lib.hid hx
  by_cases he : e0 = 0
  · subst he
    obtain ⟨_, h2, h3, _, h5⟩ := cnt_ok hx
    rw [HL.out] at h2 h3
    have hgl : getInts b = behind [] (decN getInt b m at0) := by rw [behind_nil]; simp [getInts, HC.out]
    have HG := Lib.hid hgl
    clear hx hgl
    go_enter Try.func29, Try.ntmps29
    go_wp2_with (first | (go_at_call 39; refine (refcount_any _ _ _ 1 _ hv (by omega) (by omega) (by omega)).mono ?_; rintro e w' ⟨rfl, hb1⟩; rw [HC.out]))
    go_loopw [6, 8, 9] (fun a o i wr => ∃ (j at_ : Nat) (acc : List Int), j ≤ m ∧ at_ ≤ n ∧ acc.length = j ∧ i = .int .i64 j ∧ a = .int .i64 at_ ∧ wr.ownsRow w.heap.size 3 1 o j (iv acc) ∧ Below w.heap.size w wr ∧ getInts b = behind acc (decN getInt b (m - j) at_)) (fun _ _ i _ => m - (intOf i).toNat)
    case atStart => exact ⟨0, at0, [], Nat.zero_le _, h2, rfl, rfl, rfl, World.ownsRow_nil _ _ _ _, hb1, HG.out⟩
    case round =>
      obtain ⟨j, at_, acc, hj, hat, hacc, rfl, rfl, hown, hbl, hdec⟩ := hrel
      have HO := Lib.hid hown
      have HD := Lib.hid hdec
      have HA := Lib.hid hacc
      clear hown hdec hacc
      have hg := hv.below hbl
      by_cases hlt : j < m
      · obtain ⟨⟨x, used, e⟩, hx⟩ : ∃ x, getInt (b.drop at_) = x := ⟨_, rfl⟩
        have HX := Lib.hid hx
        have hmj : m - j = (m - (j + 1)) + 1 := by omega
        have HMJ := Lib.hid hmj; clear hmj
        by_cases he : e = 0
        · subst he
          have hu := getInt_used hx
          rw [List.length_drop, HL.out] at hu
          clear hx
          go_wp2_with (first | ((with_reducible refine' wpList_from_b (.tmp 28) (.tmp 29) 28 rfl ?_ Try.underlying28 sz_u8 ?_ hg (at_) ?_ ?_ ?_); exact rfl; exact rfl; (show (_ : Int) = _; omega); omega; intro v1 hv1; simp only [Act.put, List.setIfInBounds_toArray, List.set_cons_succ, List.set_cons_zero]) | (go_at_call 25; refine (refget_any _ _ _ _ hv1).mono ?_; rintro e w' ⟨rfl, hb2⟩; rw [HX.out]; unfold R3) | ((with_reducible refine' wpList_append_one (.tmp 38) (.tmp 40) 22 rfl ?_ Try.underlying22 inf_int ?_ ?_ (own_below HO.out hb2) ?_ ?_ ?_ ?_ (Nat.le_trans hbl.size hb2.size) ?_); exact rfl; exact rfl; exact rfl; exact rfl; exact rfl; (first | omega | (unfold maxLen; omega)); omega; intro v3 w3 ho3 hb3; simp only [Act.put, List.setIfInBounds_toArray, List.set_cons_succ, List.set_cons_zero]))
          have hd := HD.out
          rw [HMJ.out, behind_step HX.out] at hd
          have hc : iv acc ++ [.int .i64 x] = iv (acc ++ [x]) := by simp [iv]
          rw [hc] at ho3
          have HO3 := Lib.hid ho3
          have HD3 := Lib.hid hd
          clear ho3 hd hc
          go_roundw
          case rel => exact ⟨j + 1, at_ + used, acc ++ [x], by omega, by omega, by simp [HA.out], by go_num, by go_num, HO3.out, (hbl.trans (hb2.mono hbl.size)).trans hb3, HD3.out⟩
          case measure => simp [intOf]; omega
        · have heb : ((e : Int) != 0) = true := by rw [bne_iff_ne]; omega
          have HE := Lib.hid he
          clear he hx
          go_wp2_with (first | ((with_reducible refine' wpList_from_b (.tmp 28) (.tmp 29) 28 rfl ?_ Try.underlying28 sz_u8 ?_ hg (at_) ?_ ?_ ?_); exact rfl; exact rfl; (show (_ : Int) = _; omega); omega; intro v1 hv1; simp only [Act.put, List.setIfInBounds_toArray, List.set_cons_succ, List.set_cons_zero]) | (go_at_call 25; refine (refget_any _ _ _ _ hv1).mono ?_; rintro e w' ⟨rfl, hb2⟩; rw [HX.out]; unfold R3))
          go_ret3
          have hd := HD.out
          rw [HMJ.out, behind_fail HX.out HE.out] at hd
          rw [hd]
          exact ⟨_, rfl, World.ownsRow_nil _ _ _ _, hbl.trans (hb2.mono hbl.size)⟩
      · obtain rfl : j = m := by omega
        go_wp2_with fail
        go_ret3
        have hd := HD.out
        rw [Nat.sub_self, behind_zero] at hd
        rw [hd]
        refine ⟨_, rfl, ?_, hbl⟩
        rw [HA.out]
        exact HO.out
  · have heb : ((e0 : Int) != 0) = true := by rw [bne_iff_ne]; omega
    have hgl : getInts b = ([], 0, e0) := by simp [getInts, HC.out, he]
    have HG := Lib.hid hgl
    clear he hx hgl
    go_enter Try.func29, Try.ntmps29
    go_wp2_with (first | (go_at_call 39; refine (refcount_any _ _ _ 1 _ hv (by omega) (by omega) (by omega)).mono ?_; rintro e w' ⟨rfl, hb1⟩; rw [HC.out]))
    go_ret3
    rw [HG.out]
    exact ⟨_, rfl, World.ownsRow_nil _ _ _ _, hb1⟩

set_option maxRecDepth 100000 in
set_option maxHeartbeats 800000 in
theorem refgetstrings_any (v : Value) (n : Nat) (b : List UInt8) (w : World) (hv : Rd w 1 v n (bv b)) (hn1 : n ≤ 1099511627776) :
    Calls Try.prog 32 #[v] w fun e w' => ∃ v, e = .returned (.tuple #[v, .int .i64 ((getStrings b).2.1 : Int), .int .i64 ((getStrings b).2.2 : Int)]) ∧ w'.ownsRow w.heap.size 9 1 v (getStrings b).1.length (sv (getStrings b).1) ∧ Below w.heap.size w w' := by
  have hl : b.length = n := by have := hv.1; rw [bv_length] at this; omega
  have HL := Lib.hid hl; clear hl
  obtain ⟨⟨m, at0, e0⟩, hx⟩ : ∃ x, cnt b 1 = x := ⟨_, rfl⟩
  have HC := Lib.hid hx
  by_cases he : e0 = 0
  · subst he
    obtain ⟨_, h2, h3, _, h5⟩ := cnt_ok hx
    rw [HL.out] at h2 h3
    have hgl : getStrings b = behind [] (decN getBytes b m at0) := by rw [behind_nil]; simp [getStrings, HC.out]
    have HG := Lib.hid hgl
    clear hx hgl
    go_enter Try.func32, Try.ntmps32
    go_wp2_with (first | (go_at_call 39; refine (refcount_any _ _ _ 1 _ hv (by omega) (by omega) (by omega)).mono ?_; rintro e w' ⟨rfl, hb1⟩; rw [HC.out]))
    go_loopw [6, 8, 9] (fun a o i wr => ∃ (j at_ : Nat) (acc : List (List UInt8)), j ≤ m ∧ at_ ≤ n ∧ acc.length = j ∧ i = .int .i64 j ∧ a = .int .i64 at_ ∧ wr.ownsRow w.heap.size 9 1 o j (sv acc) ∧ Below w.heap.size w wr ∧ getStrings b = behind acc (decN getBytes b (m - j) at_)) (fun _ _ i _ => m - (intOf i).toNat)
    case atStart => exact ⟨0, at0, [], Nat.zero_le _, h2, rfl, rfl, rfl, World.ownsRow_nil _ _ _ _, hb1, HG.out⟩
    case round =>
      obtain ⟨j, at_, acc, hj, hat, hacc, rfl, rfl, hown, hbl, hdec⟩ := hrel
      have HO := Lib.hid hown
      have HD := Lib.hid hdec
      have HA := Lib.hid hacc
      clear hown hdec hacc
      have hg := hv.below hbl
      by_cases hlt : j < m
      · obtain ⟨⟨x, used, e⟩, hx⟩ : ∃ x, getBytes (b.drop at_) = x := ⟨_, rfl⟩
        have HX := Lib.hid hx
        have hmj : m - j = (m - (j + 1)) + 1 := by omega
        have HMJ := Lib.hid hmj; clear hmj
        by_cases he : e = 0
        · subst he
          have hu := getBytes_used hx
          rw [List.length_drop, HL.out] at hu
          clear hx
          go_wp2_with (first | ((with_reducible refine' wpList_from_b (.tmp 28) (.tmp 29) 28 rfl ?_ Try.underlying28 sz_u8 ?_ hg (at_) ?_ ?_ ?_); exact rfl; exact rfl; (show (_ : Int) = _; omega); omega; intro v1 hv1; simp only [Act.put, List.setIfInBounds_toArray, List.set_cons_succ, List.set_cons_zero]) | (go_at_call 27; refine (refgetbytes_any _ _ _ _ hv1 (by omega)).mono ?_; rintro e w' ⟨rfl, hb2⟩; rw [HX.out]; unfold RS) | ((with_reducible refine' wpList_append_one (.tmp 38) (.tmp 40) 23 rfl ?_ Try.underlying23 inf_str ?_ ?_ (own_below HO.out hb2) ?_ ?_ ?_ ?_ (Nat.le_trans hbl.size hb2.size) ?_); exact rfl; exact rfl; exact rfl; exact rfl; exact rfl; (first | omega | (unfold maxLen; omega)); omega; intro v3 w3 ho3 hb3; simp only [Act.put, List.setIfInBounds_toArray, List.set_cons_succ, List.set_cons_zero]))
          have hd := HD.out
          rw [HMJ.out, behind_step HX.out] at hd
          have hc : sv acc ++ [.string ⟨x.toArray⟩] = sv (acc ++ [x]) := by simp [sv]
          rw [hc] at ho3
          have HO3 := Lib.hid ho3
          have HD3 := Lib.hid hd
          clear ho3 hd hc
          go_roundw
          case rel => exact ⟨j + 1, at_ + used, acc ++ [x], by omega, by omega, by simp [HA.out], by go_num, by go_num, HO3.out, (hbl.trans (hb2.mono hbl.size)).trans hb3, HD3.out⟩
          case measure => simp [intOf]; omega
        · have heb : ((e : Int) != 0) = true := by rw [bne_iff_ne]; omega
          have HE := Lib.hid he
          clear he hx
          go_wp2_with (first | ((with_reducible refine' wpList_from_b (.tmp 28) (.tmp 29) 28 rfl ?_ Try.underlying28 sz_u8 ?_ hg (at_) ?_ ?_ ?_); exact rfl; exact rfl; (show (_ : Int) = _; omega); omega; intro v1 hv1; simp only [Act.put, List.setIfInBounds_toArray, List.set_cons_succ, List.set_cons_zero]) | (go_at_call 27; refine (refgetbytes_any _ _ _ _ hv1 (by omega)).mono ?_; rintro e w' ⟨rfl, hb2⟩; rw [HX.out]; unfold RS))
          go_ret3
          have hd := HD.out
          rw [HMJ.out, behind_fail HX.out HE.out] at hd
          rw [hd]
          exact ⟨_, rfl, World.ownsRow_nil _ _ _ _, hbl.trans (hb2.mono hbl.size)⟩
      · obtain rfl : j = m := by omega
        go_wp2_with fail
        go_ret3
        have hd := HD.out
        rw [Nat.sub_self, behind_zero] at hd
        rw [hd]
        refine ⟨_, rfl, ?_, hbl⟩
        rw [HA.out]
        exact HO.out
  · have heb : ((e0 : Int) != 0) = true := by rw [bne_iff_ne]; omega
    have hgl : getStrings b = ([], 0, e0) := by simp [getStrings, HC.out, he]
    have HG := Lib.hid hgl
    clear he hx hgl
    go_enter Try.func32, Try.ntmps32
    go_wp2_with (first | (go_at_call 39; refine (refcount_any _ _ _ 1 _ hv (by omega) (by omega) (by omega)).mono ?_; rintro e w' ⟨rfl, hb1⟩; rw [HC.out]))
    go_ret3
    rw [HG.out]
    exact ⟨_, rfl, World.ownsRow_nil _ _ _ _, hb1⟩

set_option maxRecDepth 100000 in
set_option maxHeartbeats 800000 in
theorem getstrings_any (v : Value) (n : Nat) (b : List UInt8) (w : World) (hv : Rd w 1 v n (bv b)) (hn1 : n ≤ 1099511627776) :
    Calls Try.prog 31 #[v] w fun e w' => ∃ v, e = .returned (.tuple #[v, .int .i64 ((getStrings b).2.1 : Int), .int .i64 ((getStrings b).2.2 : Int)]) ∧ w'.ownsRow w.heap.size 9 1 v (getStrings b).1.length (sv (getStrings b).1) ∧ Below w.heap.size w w' := by
  have hl : b.length = n := by have := hv.1; rw [bv_length] at this; omega
  have HL := Lib.hid hl; clear hl
  obtain ⟨⟨m, at0, e0⟩, hx⟩ : ∃ x, cnt b 1 = x := ⟨_, rfl⟩
  have HC := Lib.hid hx
  by_cases he : e0 = 0
  · subst he
    obtain ⟨_, h2, h3, _, h5⟩ := cnt_ok hx
    rw [HL.out] at h2 h3
    have hgl : getStrings b = behind [] (decN getBytes b m at0) := by rw [behind_nil]; simp [getStrings, HC.out]
    have HG := Lib.hid hgl
    clear hx hgl
    go_enter Try.func31, Try.ntmps31
    go_wp2_with (first | (go_at_call 38; refine (count_any _ _ _ 1 _ hv (by omega) (by omega)).mono ?_; rintro e w' ⟨x, y, rfl, hxy, rfl⟩; rw [HC.out] at hxy ⊢; obtain ⟨rfl, rfl⟩ := hxy rfl; clear hxy))
    go_loopw [6, 8, 22] (fun a o i wr => ∃ (j at_ : Nat) (acc : List (List UInt8)), j ≤ m ∧ at_ ≤ n ∧ acc.length = j ∧ i = .int .i64 j ∧ a = .int .i64 at_ ∧ wr.ownsRow w.heap.size 9 1 o j (sv acc) ∧ Below w.heap.size w wr ∧ getStrings b = behind acc (decN getBytes b (m - j) at_)) (fun _ _ i _ => m - (intOf i).toNat)
    case atStart => exact ⟨0, at0, [], Nat.zero_le _, h2, rfl, rfl, rfl, World.ownsRow_nil _ _ _ _, (Below.refl _ _), HG.out⟩
    case round =>
      obtain ⟨j, at_, acc, hj, hat, hacc, rfl, rfl, hown, hbl, hdec⟩ := hrel
      have HO := Lib.hid hown
      have HD := Lib.hid hdec
      have HA := Lib.hid hacc
      clear hown hdec hacc
      have hg := hv.below hbl
      by_cases hlt : j < m
      · obtain ⟨⟨x, used, e⟩, hx⟩ : ∃ x, getBytes (b.drop at_) = x := ⟨_, rfl⟩
        have HX := Lib.hid hx
        have hmj : m - j = (m - (j + 1)) + 1 := by omega
        have HMJ := Lib.hid hmj; clear hmj
        by_cases he : e = 0
        · subst he
          have hu := getBytes_used hx
          rw [List.length_drop, HL.out] at hu
          clear hx
          go_wp2_with (first | ((with_reducible refine' wpList_from_b (.tmp 25) (.tmp 26) 28 rfl ?_ Try.underlying28 sz_u8 ?_ hg (at_) ?_ ?_ ?_); exact rfl; exact rfl; (show (_ : Int) = _; omega); omega; intro v1 hv1; simp only [Act.put, List.setIfInBounds_toArray, List.set_cons_succ, List.set_cons_zero]) | (go_at_call 26; refine (getbytes_any _ _ _ _ hv1 (by omega)).mono ?_; rintro e w' ⟨rfl, rfl⟩; rw [HX.out]; unfold RS) | ((with_reducible refine' wpList_append_one (.tmp 35) (.tmp 37) 23 rfl ?_ Try.underlying23 inf_str ?_ ?_ (own_below HO.out (Below.refl _ _)) ?_ ?_ ?_ ?_ (Nat.le_trans hbl.size (Nat.le_refl _)) ?_); exact rfl; exact rfl; exact rfl; exact rfl; exact rfl; (first | omega | (unfold maxLen; omega)); omega; intro v3 w3 ho3 hb3; simp only [Act.put, List.setIfInBounds_toArray, List.set_cons_succ, List.set_cons_zero]))
          have hd := HD.out
          rw [HMJ.out, behind_step HX.out] at hd
          have hc : sv acc ++ [.string ⟨x.toArray⟩] = sv (acc ++ [x]) := by simp [sv]
          rw [hc] at ho3
          have HO3 := Lib.hid ho3
          have HD3 := Lib.hid hd
          clear ho3 hd hc
          go_roundw
          case rel => exact ⟨j + 1, at_ + used, acc ++ [x], by omega, by omega, by simp [HA.out], by go_num, by go_num, HO3.out, (hbl.trans (Below.refl _ _)).trans hb3, HD3.out⟩
          case measure => simp [intOf]; omega
        · have heb : ((e : Int) != 0) = true := by rw [bne_iff_ne]; omega
          have HE := Lib.hid he
          clear he hx
          go_wp2_with (first | ((with_reducible refine' wpList_from_b (.tmp 25) (.tmp 26) 28 rfl ?_ Try.underlying28 sz_u8 ?_ hg (at_) ?_ ?_ ?_); exact rfl; exact rfl; (show (_ : Int) = _; omega); omega; intro v1 hv1; simp only [Act.put, List.setIfInBounds_toArray, List.set_cons_succ, List.set_cons_zero]) | (go_at_call 26; refine (getbytes_any _ _ _ _ hv1 (by omega)).mono ?_; rintro e w' ⟨rfl, rfl⟩; rw [HX.out]; unfold RS))
          go_ret3
          have hd := HD.out
          rw [HMJ.out, behind_fail HX.out HE.out] at hd
          rw [hd]
          exact ⟨_, rfl, World.ownsRow_nil _ _ _ _, hbl.trans (Below.refl _ _)⟩
      · obtain rfl : j = m := by omega
        go_wp2_with fail
        go_ret3
        have hd := HD.out
        rw [Nat.sub_self, behind_zero] at hd
        rw [hd]
        refine ⟨_, rfl, ?_, hbl⟩
        rw [HA.out]
        exact HO.out
  · have heb : ((e0 : Int) != 0) = true := by rw [bne_iff_ne]; omega
    have hgl : getStrings b = ([], 0, e0) := by simp [getStrings, HC.out, he]
    have HG := Lib.hid hgl
    clear he hx hgl
    go_enter Try.func31, Try.ntmps31
    go_wp2_with (first | (go_at_call 38; refine (count_any _ _ _ 1 _ hv (by omega) (by omega)).mono ?_; rintro e w' ⟨x, y, rfl, hxy, rfl⟩; rw [HC.out]; clear hxy))
    go_ret3
    rw [HG.out]
    exact ⟨_, rfl, World.ownsRow_nil _ _ _ _, (Below.refl _ _)⟩
end Go.Proofs.Ytomjniijnpnehaa.Wi
