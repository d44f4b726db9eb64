/-
  The program's decoder of a list of integers, and the closure that it reads by. Conditions: the argument reads as at most 2^40 bytes.
-/
import Derived.Test.YtomjniijnpnehaaDig
namespace Go.Proofs.Ytomjniijnpnehaa.Wi
open Go Go.RowKit Pu Lb

theorem only_drewN {B : Nat} {w w' : World} (h : Only B w w') (n : Nat) : Only B w (w'.drewN n) := ⟨h.os, h.tape, h.output, h.size, h.block⟩

set_option maxRecDepth 100000 in
set_option maxHeartbeats 800000 in
theorem reader1_any (B C : Nat) (v : Value) (n at_ : Nat) (b : List UInt8) (w : World) (hB : Blk w B 28 [v]) (hC : Blk w C 3 [.int .i64 (at_ : Int)]) (hv : Rd w 1 v n (bv b)) (hat : at_ ≤ n) (hn1 : n ≤ 1099511627776) :
    Calls Try.prog 41 #[.pointer (some ⟨B, 0, none⟩), .pointer (some ⟨C, 0, none⟩)] w fun e w' =>
      e = .returned (.tuple #[.int .i64 (getInt (b.drop at_)).1, .int .i64 ((at_ + (getInt (b.drop at_)).2.1 : Nat) : Int), .int .i64 ((getInt (b.drop at_)).2.2 : Int)]) ∧ Blk w' C 3 [.int .i64 ((at_ + (getInt (b.drop at_)).2.1 : Nat) : Int)] ∧ Only C w w' := by
  have hl : b.length = n := by have := hv.1; rw [bv_length] at this; omega
  obtain ⟨⟨x, used, err⟩, hx⟩ : ∃ x, getInt (b.drop at_) = x := ⟨_, rfl⟩
  have hu : used ≤ n := by
    by_cases he : err = 0
    · subst he; have := getInt_used hx; rw [List.length_drop] at this; omega
    · have := (get_used_zero hx he).2.1; omega
  rw [hx]
  have HX := Lib.hid hx
  clear hx hl
  have hat1 : [Value.int .i64 (at_ : Int)][0]? = some (.int .i64 (at_ : Int)) := rfl
  have HAT := Lib.hid hat1; clear hat1
  have hone : (0 : Nat) < [Value.int .i64 (at_ : Int)].length := by simp
  go_enter Try.func41, Try.ntmps41
  go_wp2_with (first | ((with_reducible refine' wpList_load_blk (.tmp 0) 28 rfl ?_ ld_bs ?_ hB ((rfl : [v][0]? = some v)) ?_); exact rfl; exact rfl; simp only [Act.put, List.setIfInBounds_toArray, List.set_cons_succ, List.set_cons_zero]) | ((with_reducible refine' wpList_load_blk (.tmp 1) 3 rfl ?_ ld_int ?_ hC (HAT.out) ?_); exact rfl; exact rfl; simp only [Act.put, List.setIfInBounds_toArray, List.set_cons_succ, List.set_cons_zero]) | ((with_reducible refine' wpList_from_b (.tmp 9) (.tmp 10) 28 rfl ?_ Try.underlying28 sz_u8 ?_ hv (at_) ?_ ?_ ?_); exact rfl; exact rfl; (show (_ : Int) = _; omega); omega; intro v1 hv1; simp only [Act.put, List.setIfInBounds_toArray, List.set_cons_succ, List.set_cons_zero]) | (go_at_call 24; refine (getint_any _ _ _ _ hv1).mono ?_; rintro e w' ⟨rfl, rfl⟩; rw [HX.out]; unfold R3) | ((with_reducible refine' wpList_set_blk (u := .int .i64 ((at_ : Int) + used)) 3 (.tmp 1) (.tmp 18) rfl ?_ sz_int ?_ ?_ hC (hone) ?_ ?_); exact rfl; exact rfl; exact rfl; exact rfl; intro w2 hk2 hq2 hz2; simp only [Act.put]))
  have hk3 : Blk w2 C 3 [.int .i64 ((at_ : Int) + used)] := hk2
  have hat2 : [Value.int .i64 ((at_ : Int) + used)][0]? = some (.int .i64 ((at_ : Int) + used)) := rfl
  have HAT2 := Lib.hid hat2; clear hat2
  go_wp2_with ((refine wp_region_quiet_lit (by kernel_rfl) (by kernel_rfl) ?_; (repeat (first | ((with_reducible refine' wpQuiet_load_blk (fun _ h => h) (.tmp 1) 3 rfl ?_ ld_int ?_ hk3 (HAT2.out) ?_); exact rfl; exact rfl; simp only [Act.put, List.setIfInBounds_toArray, List.set_cons_succ, List.set_cons_zero]) | go_big_quiet_step (fail))); refine wpQuiet_nil ?_; intro _ hw'; obtain ⟨nq, hw''⟩ := hw'; subst hw''))
  go_ret3
  refine ⟨by rw [Int.natCast_add]; rfl, ?_, only_drewN hq2 nq⟩
  rw [Int.natCast_add]
  exact hk3.drewN nq

theorem ownsRow_only {w w' : World} {base B : Nat} {e : TypeId} {s : Nat} {v : Value} {n : Nat} {xs : List Value} (h : w.ownsRow base e s v n xs) (hO : Only B w w') (hB : B < base) : w'.ownsRow base e s v n xs := by
  refine h.kept hO ?_
  cases hv : v.ownBlock with
  | none => exact .inl rfl
  | some k => exact .inr (by have := (h.lt k hv).1; simp; omega)

theorem heap_alloc2 (w : World) (o p : Obj) : ((w.alloc o).alloc p).heap[w.heap.size]? = some o := by
  have h : ((w.alloc o).alloc p).heap[w.heap.size]? = (w.alloc o).heap[w.heap.size]? := heap_alloc_old (w.alloc o) p (by simp)
  rw [h]; exact heap_alloc_new w o

set_option maxRecDepth 100000 in
theorem reader_any (v : Value) (n at_ : Nat) (xs : List Value) (w : World) (hv : Rd w 1 v n xs) :
    Calls Try.prog 40 #[v, .int .i64 (at_ : Int)] w fun e w' => e = .returned (.func (.func 41) #[] #[.pointer (some ⟨w.heap.size, 0, none⟩), .pointer (some ⟨w.heap.size + 1, 0, none⟩)]) ∧
      Blk w' w.heap.size 28 [v] ∧ Blk w' (w.heap.size + 1) 3 [.int .i64 (at_ : Int)] ∧ Below w.heap.size w w' ∧ w'.heap.size = w.heap.size + 2 := by
  obtain ⟨_, ad, cap, rfl, _⟩ := hv
  go_enter Try.func40, Try.ntmps40
  go_wp2
  go_ret
  refine ⟨rfl, heap_alloc2 w _ _, ?_, ((Below.refl _ _).alloc (Nat.le_refl _) _).alloc (by simp) _, by simp⟩
  have h := heap_alloc_new (w.alloc (.cells #[.slice ad n cap] 28)) (.cells #[.int .i64 (at_ : Int)] 3)
  rw [World.size_alloc] at h
  exact h

set_option maxRecDepth 100000 in
set_option maxHeartbeats 1600000 in
theorem getints_any (v : Value) (n : Nat) (b : List UInt8) (w : World) (hv : Rd w 1 v n (bv b)) (hn1 : n ≤ 1099511627776) :
    Calls Try.prog 28 #[v] w fun e w' => ∃ v, e = .returned (.tuple #[v, .int .i64 ((getInts b).2.1 : Int), .int .i64 ((getInts b).2.2 : Int)]) ∧ w'.ownsRow w.heap.size 3 1 v (getInts b).1.length (iv (getInts b).1) ∧ Below w.heap.size w w' := by
  have hl : b.length = n := by have := hv.1; rw [bv_length] at this; omega
  have HL := Lib.hid hl; clear hl
  obtain ⟨⟨m, at0, e0⟩, hx⟩ : ∃ x, cnt b 1 = x := ⟨_, rfl⟩
  have HC := Lib.hid hx
  by_cases he : e0 = 0
  · subst he
    obtain ⟨_, h2, h3, _, h5⟩ := cnt_ok hx
    rw [HL.out] at h2 h3
    have hgl : getInts b = behind [] (decN getInt b m at0) := by rw [behind_nil]; simp [getInts, HC.out]
    have HG := Lib.hid hgl
    clear hx hgl
    go_enter Try.func28, Try.ntmps28
    go_wp2_with (first | (go_at_call 38; refine (count_any _ _ _ 1 _ hv (by omega) (by omega)).mono ?_; rintro e w' ⟨x, y, rfl, hxy, rfl⟩; rw [HC.out] at hxy ⊢; obtain ⟨rfl, rfl⟩ := hxy rfl; clear hxy) | (go_at_call 40; refine (reader_any _ _ _ _ _ hv).mono ?_; rintro e w' ⟨rfl, hB1, hC1, hb1, hz1⟩))
    go_loopw [6, 9, 26] (fun a o i wr => ∃ (j at_ : Nat) (acc : List Int), j ≤ m ∧ at_ ≤ n ∧ acc.length = j ∧ i = .int .i64 j ∧ a = .int .i64 at_ ∧ wr.ownsRow (w.heap.size + 2) 3 1 o j (iv acc) ∧ Blk wr w.heap.size 28 [v] ∧ Blk wr (w.heap.size + 1) 3 [.int .i64 (at_ : Int)] ∧ Below w.heap.size w wr ∧ w.heap.size + 2 ≤ wr.heap.size ∧ getInts b = behind acc (decN getInt b (m - j) at_)) (fun _ _ i _ => m - (intOf i).toNat)
    case atStart => exact ⟨0, at0, [], Nat.zero_le _, h2, rfl, rfl, rfl, World.ownsRow_nil _ _ _ _, hB1, hC1, hb1, by omega, HG.out⟩
    case round =>
      obtain ⟨j, at_, acc, hj, hat, hacc, rfl, rfl, hown, hB, hC, hbl, hsz, hdec⟩ := hrel
      have HO := Lib.hid hown
      have HD := Lib.hid hdec
      have HA := Lib.hid hacc
      clear hown hdec hacc
      have hg := hv.below hbl
      by_cases hlt : j < m
      · obtain ⟨⟨x, used, e⟩, hx⟩ : ∃ x, getInt (b.drop at_) = x := ⟨_, rfl⟩
        have HX := Lib.hid hx
        have hmj : m - j = (m - (j + 1)) + 1 := by omega
        have HMJ := Lib.hid hmj; clear hmj
        by_cases he : e = 0
        · subst he
          have hu := getInt_used hx
          rw [List.length_drop, HL.out] at hu
          clear hx
          go_wp2_with (first | (go_at_call 41; refine (reader1_any _ _ _ _ _ _ _ hB hC hg hat hn1).mono ?_; rintro e w' ⟨rfl, hC2, hO2⟩; rw [HX.out] at hC2 ⊢; have hb2 := hO2.below (C := w.heap.size) (by omega) (by omega); have hO3 := ownsRow_only HO.out hO2 (by omega); have hB2 := hO2.blk hB (by omega)) | ((with_reducible refine' wpList_append_one (.tmp 37) (.tmp 39) 22 rfl ?_ Try.underlying22 inf_int ?_ ?_ hO3 ?_ ?_ ?_ ?_ (Nat.le_trans hsz hO2.size) ?_); exact rfl; exact rfl; exact rfl; exact rfl; exact rfl; (first | omega | (unfold maxLen; omega)); omega; intro v3 w3 ho3 hb3; simp only [Act.put, List.setIfInBounds_toArray, List.set_cons_succ, List.set_cons_zero]))
          have hd := HD.out
          rw [HMJ.out, behind_step HX.out] at hd
          have hc : iv acc ++ [.int .i64 x] = iv (acc ++ [x]) := by simp [iv]
          rw [hc] at ho3
          have HO3 := Lib.hid ho3
          have HD3 := Lib.hid hd
          clear ho3 hd hc
          go_roundw
          case rel => exact ⟨j + 1, at_ + used, acc ++ [x], by omega, by omega, by simp [HA.out], by go_num, rfl, HO3.out, hB2.below hb3 (by omega), hC2.below hb3 (by omega), (hbl.trans hb2).trans (hb3.mono (by omega)), Nat.le_trans (Nat.le_trans hsz hO2.size) hb3.size, HD3.out⟩
          case measure => simp [intOf]; omega
        · have heb : ((e : Int) != 0) = true := by rw [bne_iff_ne]; omega
          have HE := Lib.hid he
          clear he hx
          go_wp2_with (first | (go_at_call 41; refine (reader1_any _ _ _ _ _ _ _ hB hC hg hat hn1).mono ?_; rintro e w' ⟨rfl, hC2, hO2⟩; rw [HX.out]; have hb2 := hO2.below (C := w.heap.size) (by omega) (by omega)))
          go_ret3
          have hd := HD.out
          rw [HMJ.out, behind_fail HX.out HE.out] at hd
          rw [hd]
          exact ⟨_, rfl, World.ownsRow_nil _ _ _ _, hbl.trans hb2⟩
      · obtain rfl : j = m := by omega
        go_wp2_with fail
        go_ret3
        have hd := HD.out
        rw [Nat.sub_self, behind_zero] at hd
        rw [hd]
        refine ⟨_, rfl, ?_, hbl⟩
        rw [HA.out]
        exact own_mono HO.out (by omega)
  · have heb : ((e0 : Int) != 0) = true := by rw [bne_iff_ne]; omega
    have hgl : getInts b = ([], 0, e0) := by simp [getInts, HC.out, he]
    have HG := Lib.hid hgl
    clear he hx hgl
    go_enter Try.func28, Try.ntmps28
    go_wp2_with (first | (go_at_call 38; refine (count_any _ _ _ 1 _ hv (by omega) (by omega)).mono ?_; rintro e w' ⟨x, y, rfl, hxy, rfl⟩; rw [HC.out]; clear hxy))
    go_ret3
    rw [HG.out]
    exact ⟨_, rfl, World.ownsRow_nil _ _ _ _, Below.refl _ _⟩
end Go.Proofs.Ytomjniijnpnehaa.Wi
