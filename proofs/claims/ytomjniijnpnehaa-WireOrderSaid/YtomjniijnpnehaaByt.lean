/-
  Byte strings: the two encoders, the two counters of a list, the two decoders. Conditions: a string of at most 2^46 bytes; an argument that reads as bytes.
-/
import Derived.Test.YtomjniijnpnehaaGet
namespace Go.Proofs.Ytomjniijnpnehaa.Wi
open Go Go.RowKit Pu Lb

theorem encBytes_length (s : List UInt8) : (encBytes s).length = (enc s.length).length + s.length := by simp [encBytes]
theorem enc_len_bd {n : Int} (h0 : -9223372036854775808 ≤ n) (h1 : n ≤ 9223372036854775807) : 1 ≤ (enc n).length ∧ (enc n).length ≤ 9 := by
  rw [enc_length]; have := nd_mag_le h0 h1; omega

set_option maxRecDepth 100000 in
theorem bytes_any (s : List UInt8) (w : World) (hs : s.length ≤ 70368744177664) :
    Calls Try.prog 16 #[.string ⟨s.toArray⟩] w fun e w' => ∃ v, e = .returned v ∧ w'.ownsRow w.heap.size 5 1 v (encBytes s).length (bv (encBytes s)) ∧ Below w.heap.size w w' := by
  have hsz := size_str s
  have hb := enc_len_bd (n := s.length) (by omega) (by omega)
  go_enter Try.func16, Try.ntmps16
  go_wp2_with (first | (go_at_call 14; refine (int_any _ _ (by omega) (by omega)).mono ?_; rintro e w' ⟨v1, rfl, ho1, hb1⟩) | ((with_reducible refine' wpList_append_str (l := s) (.tmp 5) (.tmp 6) 28 9 rfl ?_ Try.underlying28 Try.underlying9 inf_u8 ?_ ho1 ?_ ?_ hb1.size ?_); exact rfl; exact rfl; exact rfl; omega; intro v2 w2 ho2 hb2; simp only [Act.put, List.setIfInBounds_toArray, List.set_cons_succ, List.set_cons_zero]))
  go_ret
  rw [← bv_append] at ho2
  exact ⟨_, rfl, by rw [encBytes_length]; exact ho2, hb1.trans hb2⟩

set_option maxRecDepth 100000 in
theorem refbytes_any (s : List UInt8) (w : World) (hs : s.length ≤ 70368744177664) :
    Calls Try.prog 17 #[.string ⟨s.toArray⟩] w fun e w' => ∃ v, e = .returned v ∧ w'.ownsRow w.heap.size 5 1 v (encBytes s).length (bv (encBytes s)) ∧ Below w.heap.size w w' := by
  have hsz := size_str s
  have hb := enc_len_bd (n := s.length) (by omega) (by omega)
  have h1 := bv_one s
  go_enter Try.func17, Try.ntmps17
  go_wp2_with (first | (go_at_call 15; refine (refint_any _ _ (by omega) (by omega)).mono ?_; rintro e w' ⟨v1, rfl, ho1, hb1⟩) | ((with_reducible refine' wpList_bytes_l (l := s) (.tmp 6) 9 28 rfl ?_ Try.underlying9 Try.underlying28 Try.underlying5 ?_ (by unfold maxLen; omega) ?_); exact rfl; exact rfl; intro v2 w2 hr2 hb2; simp only [Act.put, List.setIfInBounds_toArray, List.set_cons_succ, List.set_cons_zero]) | ((with_reducible refine' wpList_append_rd (.tmp 5) (.tmp 7) 28 rfl ?_ Try.underlying28 inf_u8 ?_ ?_ ?_ (own_below ho1 hb2) ?_ hr2 h1 ?_ ?_ (Nat.le_trans hb1.size hb2.size) ?_); exact rfl; exact rfl; omega; exact rfl; exact rfl; (first | omega | (unfold maxLen; omega)); omega; intro v3 w3 ho3 hb3; simp only [Act.put, List.setIfInBounds_toArray, List.set_cons_succ, List.set_cons_zero]))
  go_ret
  rw [← bv_append] at ho3
  exact ⟨_, rfl, by rw [encBytes_length]; exact ho3, (hb1.trans (hb2.mono hb1.size)).trans hb3⟩

/-! ### counters -/
set_option maxRecDepth 100000 in
theorem count_any (v : Value) (n : Nat) (b : List UInt8) (sz : Nat) (w : World) (hv : Rd w 1 v n (bv b)) (hsz : 0 < sz) (hsz2 : sz ≤ 16) :
    Calls Try.prog 38 #[v, .int .i64 (sz : Int)] w fun e w' => ∃ x y, e = .returned (.tuple #[.int .i64 x, .int .i64 y, .int .i64 ((cnt b sz).2.2 : Int)]) ∧ ((cnt b sz).2.2 = 0 → x = ((cnt b sz).1 : Int) ∧ y = ((cnt b sz).2.1 : Int)) ∧ w = w' := by
  have hn := hv.len
  unfold maxLen at hn
  have hl : b.length = n := by have := hv.1; rw [bv_length] at this; omega
  obtain ⟨⟨x, used, e⟩, hx⟩ : ∃ x, getInt b = x := ⟨_, rfl⟩
  have HX := Lib.hid hx
  have HL := Lib.hid hl
  by_cases he : e = 0
  · subst he
    obtain ⟨h1, h2, h3, _, h5, h6⟩ := enc_get hx
    clear hx
    rw [hl] at h3
    clear hl
    by_cases hneg : x < 0
    · have hc : cnt b sz = (0, 0, 2) := by simp [cnt, HX.out, hneg]
      have HC := Lib.hid hc; clear hc
      rw [HC.out]
      go_enter Try.func38, Try.ntmps38
      go_wp2_with (first | (go_at_call 24; refine (getint_any _ _ _ _ hv).mono ?_; rintro e w' ⟨rfl, rfl⟩; rw [HX.out]; unfold R3) | ((with_reducible refine' wpList_len_rd (.tmp 21) 28 rfl ?_ Try.underlying28 ?_ hv ?_); exact rfl; exact rfl; simp only [Act.put, List.setIfInBounds_toArray, List.set_cons_succ, List.set_cons_zero]))
      go_ret3
      exact ⟨_, _, rfl, by simp, rfl⟩
    · obtain ⟨m, rfl⟩ : ∃ m : Nat, x = (m : Int) := ⟨x.toNat, by omega⟩
      have hq : (n - used : Nat) / sz ≤ n - used := Nat.div_le_self _ _
      have hqe : ((n : Int) - (used : Int)) / (sz : Int) = (((n - used) / sz : Nat) : Int) := by
        rw [show (n : Int) - (used : Int) = ((n - used : Nat) : Int) by omega]; rfl
      obtain ⟨q, hqd⟩ : ∃ q, q = (n - used) / sz := ⟨_, rfl⟩
      rw [← hqd] at hq hqe
      have HQ := Lib.hid hqd; clear hqd
      have hsz1 : 1 ≤ (sz : Int) := by omega
      by_cases hbig : q < m
      · have hc : cnt b sz = (0, 0, 3) := by simp [cnt, HX.out, HL.out, hneg]; rw [← HQ.out]; exact hbig
        have HC := Lib.hid hc; clear hc
        rw [HC.out]
        go_enter Try.func38, Try.ntmps38
        go_wp2_with (first | (go_at_call 24; refine (getint_any _ _ _ _ hv).mono ?_; rintro e w' ⟨rfl, rfl⟩; rw [HX.out]; unfold R3) | ((with_reducible refine' wpList_len_rd (.tmp 21) 28 rfl ?_ Try.underlying28 ?_ hv ?_); exact rfl; exact rfl; simp only [Act.put, List.setIfInBounds_toArray, List.set_cons_succ, List.set_cons_zero]))
        go_ret3
        exact ⟨_, _, rfl, by simp, rfl⟩
      · have hc : cnt b sz = (m, used, 0) := by simp [cnt, HX.out, HL.out, hneg]; rw [← HQ.out]; omega
        have HC := Lib.hid hc; clear hc
        rw [HC.out]
        go_enter Try.func38, Try.ntmps38
        go_wp2_with (first | (go_at_call 24; refine (getint_any _ _ _ _ hv).mono ?_; rintro e w' ⟨rfl, rfl⟩; rw [HX.out]; unfold R3) | ((with_reducible refine' wpList_len_rd (.tmp 21) 28 rfl ?_ Try.underlying28 ?_ hv ?_); exact rfl; exact rfl; simp only [Act.put, List.setIfInBounds_toArray, List.set_cons_succ, List.set_cons_zero]))
        go_ret3
        exact ⟨_, _, rfl, fun _ => ⟨rfl, rfl⟩, rfl⟩
  · have hc : cnt b sz = (0, 0, e) := by simp [cnt, HX.out, he]
    have heb : ((e : Int) != 0) = true := by rw [bne_iff_ne]; omega
    have HC := Lib.hid hc; clear hc hx hl
    have HE := Lib.hid he; clear he
    rw [HC.out]
    go_enter Try.func38, Try.ntmps38
    go_wp2_with (first | (go_at_call 24; refine (getint_any _ _ _ _ hv).mono ?_; rintro e w' ⟨rfl, rfl⟩; rw [HX.out]; unfold R3) | ((with_reducible refine' wpList_len_rd (.tmp 21) 28 rfl ?_ Try.underlying28 ?_ hv ?_); exact rfl; exact rfl; simp only [Act.put, List.setIfInBounds_toArray, List.set_cons_succ, List.set_cons_zero]))
    go_ret3
    exact ⟨_, _, rfl, fun h => absurd h HE.out, rfl⟩

set_option maxRecDepth 100000 in
theorem refcount_any (v : Value) (n : Nat) (b : List UInt8) (sz : Nat) (w : World) (hv : Rd w 1 v n (bv b)) (hsz : 0 < sz) (hsz2 : sz ≤ 16) (hn1 : n ≤ 140737488355328) :
    Calls Try.prog 39 #[v, .int .i64 (sz : Int)] w fun e w' => e = .returned (.tuple #[.int .i64 ((cnt b sz).1 : Int), .int .i64 ((cnt b sz).2.1 : Int), .int .i64 ((cnt b sz).2.2 : Int)]) ∧ Below w.heap.size w w' := by
  have hl : b.length = n := by have := hv.1; rw [bv_length] at this; omega
  obtain ⟨⟨x, used, e⟩, hx⟩ : ∃ x, getInt b = x := ⟨_, rfl⟩
  have HX := Lib.hid hx
  have HL := Lib.hid hl
  by_cases he : e = 0
  · subst he
    obtain ⟨h1, h2, h3, _, h5, h6⟩ := enc_get hx
    clear hx
    rw [hl] at h3
    clear hl
    by_cases hneg : x < 0
    · have hc : cnt b sz = (0, 0, 2) := by simp [cnt, HX.out, hneg]
      have HC := Lib.hid hc; clear hc
      rw [HC.out]
      go_enter Try.func39, Try.ntmps39
      go_wp2_with (first | (go_at_call 25; refine (refget_any _ _ _ _ hv).mono ?_; rintro e w' ⟨rfl, hb1⟩; rw [HX.out]; unfold R3; have hv1 := hv.below hb1) | ((with_reducible refine' wpList_len_rd (.tmp 22) 28 rfl ?_ Try.underlying28 ?_ hv ?_); exact rfl; exact rfl; simp only [Act.put, List.setIfInBounds_toArray, List.set_cons_succ, List.set_cons_zero]) | ((with_reducible refine' wpList_len_rd (.tmp 29) 28 rfl ?_ Try.underlying28 ?_ hv ?_); exact rfl; exact rfl; simp only [Act.put, List.setIfInBounds_toArray, List.set_cons_succ, List.set_cons_zero]))
      go_ret3
      exact ⟨rfl, hb1⟩
    · obtain ⟨m, rfl⟩ : ∃ m : Nat, x = (m : Int) := ⟨x.toNat, by omega⟩
      by_cases hml : n < m
      · have hc : cnt b sz = (0, 0, 3) := by
          simp [cnt, HX.out, HL.out, hneg]
          exact Nat.lt_of_le_of_lt (Nat.div_le_self _ _) (by omega)
        have HC := Lib.hid hc; clear hc
        rw [HC.out]
        go_enter Try.func39, Try.ntmps39
        go_wp2_with (first | (go_at_call 25; refine (refget_any _ _ _ _ hv).mono ?_; rintro e w' ⟨rfl, hb1⟩; rw [HX.out]; unfold R3; have hv1 := hv.below hb1) | ((with_reducible refine' wpList_len_rd (.tmp 22) 28 rfl ?_ Try.underlying28 ?_ hv ?_); exact rfl; exact rfl; simp only [Act.put, List.setIfInBounds_toArray, List.set_cons_succ, List.set_cons_zero]) | ((with_reducible refine' wpList_len_rd (.tmp 29) 28 rfl ?_ Try.underlying28 ?_ hv ?_); exact rfl; exact rfl; simp only [Act.put, List.setIfInBounds_toArray, List.set_cons_succ, List.set_cons_zero]))
        go_ret3
        exact ⟨rfl, hb1⟩
      · have hms : m * sz ≤ m * 16 := Nat.mul_le_mul_left _ hsz2
        have hmb : (m : Int) * (sz : Int) = ((m * sz : Nat) : Int) := rfl
        obtain ⟨p, hp⟩ : ∃ p, p = m * sz := ⟨_, rfl⟩
        rw [← hp] at hmb hms
        have HP := Lib.hid hp; clear hp
        have hdec : (n - used) / sz < m ↔ n - used < p := by rw [HP.out]; exact Nat.div_lt_iff_lt_mul hsz
        have HDC := Lib.hid hdec; clear hdec
        by_cases hbig : n - used < p
        · have hc : cnt b sz = (0, 0, 3) := by simp [cnt, HX.out, HL.out, hneg]; exact HDC.out.2 hbig
          have HC := Lib.hid hc; clear hc
          have hbi : (n : Int) - used < p := by omega
          rw [HC.out]
          go_enter Try.func39, Try.ntmps39
          go_wp2_with (first | (go_at_call 25; refine (refget_any _ _ _ _ hv).mono ?_; rintro e w' ⟨rfl, hb1⟩; rw [HX.out]; unfold R3; have hv1 := hv.below hb1) | ((with_reducible refine' wpList_len_rd (.tmp 22) 28 rfl ?_ Try.underlying28 ?_ hv ?_); exact rfl; exact rfl; simp only [Act.put, List.setIfInBounds_toArray, List.set_cons_succ, List.set_cons_zero]) | ((with_reducible refine' wpList_len_rd (.tmp 29) 28 rfl ?_ Try.underlying28 ?_ hv ?_); exact rfl; exact rfl; simp only [Act.put, List.setIfInBounds_toArray, List.set_cons_succ, List.set_cons_zero]))
          go_ret3
          exact ⟨rfl, hb1⟩
        · have hc : cnt b sz = (m, used, 0) := by
            simp [cnt, HX.out, HL.out, hneg]
            exact Nat.le_of_not_lt fun h => hbig (HDC.out.1 h)
          have HC := Lib.hid hc; clear hc
          have hbi : (p : Int) ≤ n - used := by omega
          rw [HC.out]
          go_enter Try.func39, Try.ntmps39
          go_wp2_with (first | (go_at_call 25; refine (refget_any _ _ _ _ hv).mono ?_; rintro e w' ⟨rfl, hb1⟩; rw [HX.out]; unfold R3; have hv1 := hv.below hb1) | ((with_reducible refine' wpList_len_rd (.tmp 22) 28 rfl ?_ Try.underlying28 ?_ hv ?_); exact rfl; exact rfl; simp only [Act.put, List.setIfInBounds_toArray, List.set_cons_succ, List.set_cons_zero]) | ((with_reducible refine' wpList_len_rd (.tmp 29) 28 rfl ?_ Try.underlying28 ?_ hv ?_); exact rfl; exact rfl; simp only [Act.put, List.setIfInBounds_toArray, List.set_cons_succ, List.set_cons_zero]))
          go_ret3
          exact ⟨rfl, hb1⟩
  · have hc : cnt b sz = (0, 0, e) := by simp [cnt, HX.out, he]
    have heb : ((e : Int) != 0) = true := by rw [bne_iff_ne]; omega
    have HC := Lib.hid hc; clear hc hx hl
    have HE := Lib.hid he; clear he
    rw [HC.out]
    go_enter Try.func39, Try.ntmps39
    go_wp2_with (first | (go_at_call 25; refine (refget_any _ _ _ _ hv).mono ?_; rintro e w' ⟨rfl, hb1⟩; rw [HX.out]; unfold R3; have hv1 := hv.below hb1) | ((with_reducible refine' wpList_len_rd (.tmp 22) 28 rfl ?_ Try.underlying28 ?_ hv ?_); exact rfl; exact rfl; simp only [Act.put, List.setIfInBounds_toArray, List.set_cons_succ, List.set_cons_zero]) | ((with_reducible refine' wpList_len_rd (.tmp 29) 28 rfl ?_ Try.underlying28 ?_ hv ?_); exact rfl; exact rfl; simp only [Act.put, List.setIfInBounds_toArray, List.set_cons_succ, List.set_cons_zero]))
    go_ret3
    exact ⟨rfl, hb1⟩

/-! ### byte strings -/
/-- a string and two numbers as a result -/
def RS (x : List UInt8 × Nat × Nat) : Value := .tuple #[.string ⟨x.1.toArray⟩, .int .i64 (x.2.1 : Int), .int .i64 (x.2.2 : Int)]

set_option maxRecDepth 100000 in
theorem getbytes_any (v : Value) (n : Nat) (b : List UInt8) (w : World) (hv : Rd w 1 v n (bv b)) (hn1 : n ≤ 140737488355328) :
    Calls Try.prog 26 #[v] w fun e w' => e = .returned (RS (getBytes b)) ∧ w = w' := by
  have hl : b.length = n := by have := hv.1; rw [bv_length] at this; omega
  obtain ⟨⟨m, used, e⟩, hx⟩ : ∃ x, cnt b 1 = x := ⟨_, rfl⟩
  have HX := Lib.hid hx
  by_cases he : e = 0
  · subst he
    obtain ⟨_, h2, h3, _, h5⟩ := cnt_ok hx
    rw [hl] at h2 h3
    clear hx hl
    go_enter Try.func26, Try.ntmps26
    go_wp2_with (first | (go_at_call 38; refine (count_any _ _ _ 1 _ hv (by omega) (by omega)).mono ?_; rintro e w' ⟨x, y, rfl, hxy, rfl⟩; rw [HX.out] at hxy ⊢; obtain ⟨rfl, rfl⟩ := hxy rfl; clear hxy) | ((with_reducible refine' wpList_cut_b (.tmp 17) (.tmp 18) (.tmp 21) 28 rfl ?_ Try.underlying28 sz_u8 ?_ hv (used) (used + m) ?_ ?_ ?_ ?_ ?_); exact rfl; exact rfl; (show (_ : Int) = _; omega); (show (_ : Int) = _; omega); omega; omega; intro v1 hv1; simp only [Act.put, List.setIfInBounds_toArray, List.set_cons_succ, List.set_cons_zero]) | (rw [Nat.add_sub_cancel_left] at hv1; ((with_reducible refine' wpList_str_rd (.tmp 22) 28 9 rfl ?_ Try.underlying28 Try.underlying5 Try.underlying9 ?_ hv1 ?_); exact rfl; exact rfl; simp only [Act.put, List.setIfInBounds_toArray, List.set_cons_succ, List.set_cons_zero])))
    go_ret3
    exact ⟨by simp [getBytes, HX.out, RS], rfl⟩
  · have heb : ((e : Int) != 0) = true := by rw [bne_iff_ne]; omega
    have HE := Lib.hid he; clear he hx hl
    go_enter Try.func26, Try.ntmps26
    go_wp2_with (first | (go_at_call 38; refine (count_any _ _ _ 1 _ hv (by omega) (by omega)).mono ?_; rintro e w' ⟨x, y, rfl, hxy, rfl⟩; rw [HX.out]; clear hxy))
    go_ret3
    exact ⟨by simp [getBytes, HX.out, HE.out, RS], rfl⟩

set_option maxRecDepth 100000 in
theorem refgetbytes_any (v : Value) (n : Nat) (b : List UInt8) (w : World) (hv : Rd w 1 v n (bv b)) (hn1 : n ≤ 140737488355328) :
    Calls Try.prog 27 #[v] w fun e w' => e = .returned (RS (getBytes b)) ∧ Below w.heap.size w w' := by
  have hl : b.length = n := by have := hv.1; rw [bv_length] at this; omega
  obtain ⟨⟨m, used, e⟩, hx⟩ : ∃ x, cnt b 1 = x := ⟨_, rfl⟩
  have HX := Lib.hid hx
  by_cases he : e = 0
  · subst he
    obtain ⟨_, h2, h3, _, h5⟩ := cnt_ok hx
    rw [hl] at h2 h3
    clear hx hl
    go_enter Try.func27, Try.ntmps27
    go_wp2_with (first | (go_at_call 39; refine (refcount_any _ _ _ 1 _ hv (by omega) (by omega) hn1).mono ?_; rintro e w' ⟨rfl, hb1⟩; rw [HX.out]; have hv2 := hv.below hb1) | ((with_reducible refine' wpList_cut_b (.tmp 17) (.tmp 18) (.tmp 21) 28 rfl ?_ Try.underlying28 sz_u8 ?_ hv2 (used) (used + m) ?_ ?_ ?_ ?_ ?_); exact rfl; exact rfl; (show (_ : Int) = _; omega); (show (_ : Int) = _; omega); omega; omega; intro v1 hv1; simp only [Act.put, List.setIfInBounds_toArray, List.set_cons_succ, List.set_cons_zero]) | (rw [Nat.add_sub_cancel_left] at hv1; ((with_reducible refine' wpList_str_rd (.tmp 22) 28 9 rfl ?_ Try.underlying28 Try.underlying5 Try.underlying9 ?_ hv1 ?_); exact rfl; exact rfl; simp only [Act.put, List.setIfInBounds_toArray, List.set_cons_succ, List.set_cons_zero])))
    go_ret3
    exact ⟨by simp [getBytes, HX.out, RS], hb1⟩
  · have heb : ((e : Int) != 0) = true := by rw [bne_iff_ne]; omega
    have HE := Lib.hid he; clear he hx hl
    go_enter Try.func27, Try.ntmps27
    go_wp2_with (first | (go_at_call 39; refine (refcount_any _ _ _ 1 _ hv (by omega) (by omega) hn1).mono ?_; rintro e w' ⟨rfl, hb1⟩; rw [HX.out]))
    go_ret3
    exact ⟨by simp [getBytes, HX.out, HE.out, RS], hb1⟩
end Go.Proofs.Ytomjniijnpnehaa.Wi
