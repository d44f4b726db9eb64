/-
  The specification's hash: the padded message, the words of a block, the sum. Conditions: the constants lie as the program's text lays them; a message of at most 2^46 bytes.
-/
import Derived.Test.YtomjniijnpnehaaDoorHz
import Derived.Test.YtomjniijnpnehaaDoorBn
namespace Go.Proofs.YtomjniijnpnehaaDoor.Wi
open Go Go.RowKit Pu Lb
set_option linter.unusedSimpArgs false
set_option linter.unusedVariables false
attribute [local irreducible] comp sched comps sha outS

/-- the message, the mark, j zeros -/
def padz (m : List UInt8) (j : Nat) : List UInt8 := m ++ 128 :: List.replicate j 0
theorem padz_len (m : List UInt8) (j : Nat) : (padz m j).length = m.length + 1 + j := by simp [padz]; omega
theorem padz_snoc (m : List UInt8) (j : Nat) : bv (padz m j) ++ [.int .u8 0] = bv (padz m (j + 1)) := by
  unfold padz
  rw [List.replicate_succ', ← List.cons_append, ← List.append_assoc, bv_append (m ++ _)]; rfl
theorem padz_zero (m : List UInt8) : bv m ++ [.int .u8 128] = bv (padz m 0) := by rw [padz, bv_append]; rfl
theorem padz_all (m : List UInt8) : padz m (zn m.length) ++ be64 (8 * m.length) = padded m := by
  unfold padz padded padTail zn
  simp
theorem be_snoc2 (l : List UInt8) (n t : Nat) (h : t < 8) : bv (l ++ (be64 (8 * n)).take t) ++ [.int .u8 ((8 * (n : Int)) / 2 ^ (56 - 8 * t) % 256)] = bv (l ++ (be64 (8 * n)).take (t + 1)) := be_snoc l n t h

set_option maxRecDepth 100000 in
set_option maxHeartbeats 800000 in
theorem refpadded_any (x : Value) (n : Nat) (m : List UInt8) (w : World) (hx : Rd w 1 x n (bv m)) (hn : m.length ≤ 70368744177664) :
    Calls Tryd.prog 27 #[x] w fun e w' => ∃ v, e = .returned v ∧ w'.ownsRow w.heap.size 5 1 v (padded m).length (bv (padded m)) ∧ Below w.heap.size w w' := by
  have hl : m.length = n := by have := hx.1; rw [bv_length] at this; omega
  have h1m := bv_one m
  have h1o : ∀ u ∈ ([Value.int .u8 128] : List Value), u.oneCell' = true := by intro u hu; simp at hu; subst hu; rfl
  have hzn : zn m.length < 64 := by unfold zn; omega
  have HL := Lib.hid hl
  have hnn : n ≤ 70368744177664 := by omega
  clear hl
  go_enter Tryd.func27, Tryd.ntmps27
  go_upto_region 3 with (first
    | (((with_reducible refine' wpList_build_nil rfl ?_ Tryd.underlying22 sz_u8 ?_); exact rfl; intro v0 w0 o0 hN0; simp only [Act.put, List.setIfInBounds_toArray, List.set_cons_succ, List.set_cons_zero]); have hx0 := hx.below hN0)
    | (((with_reducible refine' wpList_append_rd (.tmp 6) (.tmp 7) 22 rfl ?_ Tryd.underlying22 inf_u8 ?_ ?_ ?_ o0 ?_ hx0 h1m ?_ ?_ hN0.size ?_); exact rfl; exact rfl; omega; exact rfl; exact rfl; (first | omega | (unfold maxLen; omega)); omega; intro v1 w1 o1 hN1; simp only [Act.put, List.setIfInBounds_toArray, List.set_cons_succ, List.set_cons_zero]); rw [Nat.zero_add, List.nil_append] at o1)
    | (((with_reducible refine' wpList_build_own (u := .int .u8 128) (.const (.int .u8 128)) 22 rfl ?_ Tryd.underlying22 inf_u8 ?_ ?_ ?_); exact rfl; exact rfl; exact rfl; intro v2 w2 o2 hN2 hz2; simp only [Act.put, List.setIfInBounds_toArray, List.set_cons_succ, List.set_cons_zero]); have o1b := own_below o1 hN2; have r2 := Rd.of_own o2)
    | (((with_reducible refine' wpList_append_rd (.tmp 9) (.tmp 10) 22 rfl ?_ Tryd.underlying22 inf_u8 ?_ ?_ ?_ o1b ?_ r2 h1o ?_ ?_ (Nat.le_trans (Nat.le_trans hN0.size hN1.size) hN2.size) ?_); exact rfl; exact rfl; omega; exact rfl; exact rfl; (first | omega | (unfold maxLen; omega)); omega; intro v3 w3 o3 hN3; simp only [Act.put, List.setIfInBounds_toArray, List.set_cons_succ, List.set_cons_zero])))
  have hb3 := ((hN0.trans (hN1)).trans (hN2.mono (by have := hN0.size; have := hN1.size; omega))).trans hN3
  rw [padz_zero, ← HL.out] at o3
  have O3 := Lib.hid o3
  clear o3 hN0 hN1 hN2 hN3 hz2 o0 o1 o2 o1b r2 hx0
  go_loopw [3] (fun v wr => ∃ j : Nat, j ≤ zn m.length ∧ wr.ownsRow w.heap.size 5 1 v (m.length + 1 + j) (bv (padz m j)) ∧ Below w.heap.size w wr) (fun v _ => m.length + 100 - lenV v)
  case atStart => exact ⟨0, Nat.zero_le _, O3.out, hb3⟩
  case round =>
    obtain ⟨j, hj, hown, hbl⟩ := hrel
    have HO := Lib.hid hown
    have hrd := Rd.of_own hown
    clear hown
    by_cases hlt : j < zn m.length
    · obtain ⟨wo, rfl⟩ : ∃ wo : World, wo = wr := ⟨_, rfl⟩
      have hneq : (((m.length : Int) + 1 + (j : Int)) % 64 != 56) = true := by have := zn_lt hlt; simp; omega
      go_wp2_with (first | ((with_reducible refine' wpList_len_rd (.tmp 12) 22 rfl ?_ Tryd.underlying22 ?_ hrd ?_); exact rfl; exact rfl; simp only [Act.put, List.setIfInBounds_toArray, List.set_cons_succ, List.set_cons_zero]) | ((with_reducible refine' wpList_append_one (.tmp 16) (.tmp 17) 22 rfl ?_ Tryd.underlying22 inf_u8 ?_ ?_ HO.out ?_ ?_ ?_ ?_ hbl.size ?_); exact rfl; exact rfl; exact rfl; exact rfl; exact rfl; (first | omega | (unfold maxLen; omega)); omega; intro v4 w4 ho4 hb4; simp only [Act.put, List.setIfInBounds_toArray, List.set_cons_succ, List.set_cons_zero]))
      go_roundw
      case rel =>
        rw [padz_snoc] at ho4
        exact ⟨j + 1, by omega, ho4, hbl.trans hb4⟩
      case measure => rw [lenV_own ho4, lenV_own HO.out]; omega
    · obtain rfl : j = zn m.length := by omega
      have hneq : (((m.length : Int) + 1 + (zn m.length : Int)) % 64 != 56) = false := by have := zn_eq m.length; simp; omega
      have hxw := hx.below hbl
      go_upto_region 7 with (first | ((with_reducible refine' wpList_len_rd (.tmp 12) 22 rfl ?_ Tryd.underlying22 ?_ hrd ?_); exact rfl; exact rfl; simp only [Act.put, List.setIfInBounds_toArray, List.set_cons_succ, List.set_cons_zero]) | ((with_reducible refine' wpList_len_rd (.tmp 19) 22 rfl ?_ Tryd.underlying22 ?_ hxw ?_); exact rfl; exact rfl; simp only [Act.put, List.setIfInBounds_toArray, List.set_cons_succ, List.set_cons_zero]))
      clear hneq hrd
      go_loopw [5, 3] (fun i v wr => ∃ t : Nat, t ≤ 8 ∧ i = .int .i64 t ∧ wr.ownsRow w.heap.size 5 1 v (m.length + 1 + zn m.length + t) (bv (padz m (zn m.length) ++ (be64 (8 * m.length)).take t)) ∧ Below w.heap.size w wr) (fun i _ _ => 8 - (intOf i).toNat)
      case atStart => exact ⟨0, by omega, rfl, by rw [List.take_zero, List.append_nil]; exact HO.out, hbl⟩
      case round =>
        obtain ⟨t, ht, rfl, hown, hbl⟩ := hrel
        have HO := Lib.hid hown
        clear hown
        by_cases hlt : t < 8
        · obtain ⟨wo, rfl⟩ : ∃ wo : World, wo = wr := ⟨_, rfl⟩
          go_wp2_with (first | ((with_reducible refine' wpList_append_one (.tmp 27) (.tmp 34) 22 rfl ?_ Tryd.underlying22 inf_u8 ?_ ?_ HO.out ?_ ?_ ?_ ?_ hbl.size ?_); exact rfl; exact rfl; exact rfl; exact rfl; exact rfl; (first | omega | (unfold maxLen; omega)); omega; intro v4 w4 ho4 hb4; simp only [Act.put, List.setIfInBounds_toArray, List.set_cons_succ, List.set_cons_zero]))
          go_roundw
          case rel =>
            rw [← HL.out, be_snoc _ _ _ hlt] at ho4
            exact ⟨t + 1, by omega, by go_num, ho4, hbl.trans hb4⟩
          case measure => simp [intOf]; omega
        · obtain rfl : t = 8 := by omega
          have ho := HO.out
          rw [List.take_of_length_le (by rw [be64_len]; omega), padz_all] at ho
          have hpl : (padded m).length = m.length + 1 + zn m.length + 8 := by unfold padded; rw [List.length_append, padTail_len]; omega
          rw [← hpl] at ho
          go_wp2_with fail
          go_ret
          exact ⟨_, rfl, ho, hbl⟩

/-! ### the words of a block -/
def s3 (x : UInt32) : UInt32 := x >>> 3
def s10 (x : UInt32) : UInt32 := x >>> 10
theorem s3_eq (x : UInt32) : (x.toNat : Int) / 8 = ((s3 x).toNat : Int) := us x 3 (by omega)
theorem s10_eq (x : UInt32) : (x.toNat : Int) / 1024 = ((s10 x).toNat : Int) := us x 10 (by omega)
theorem rotr_q (x : UInt32) (n : Nat) (z : Int) (hz : z = (n : Int)) (hn : 0 < n) (hn2 : n < 32) (w : World) (k : Nat) :
    Calls Tryd.prog 29 #[.int .u32 (x.toNat : Int), .int .i64 z] (w.drewN k) fun e w' => e = .returned (.int .u32 ((rr x n).toNat : Int)) ∧ ∃ q, w' = w.drewN q := by
  refine (rotr_any x n z hz hn hn2 (w.drewN k)).mono ?_
  rintro e w' ⟨rfl, q, rfl⟩
  exact ⟨rfl, k + q, by rw [World.drewN_drewN]⟩
theorem be_word (a b c d : UInt8) : bits .or .u32 (bits .or .u32 (bits .or .u32 ((a.toNat : Int) * 16777216 % 4294967296) ((b.toNat : Int) * 65536 % 4294967296)) ((c.toNat : Int) * 256 % 4294967296)) (d.toNat : Int) = ((be32 a b c d).toNat : Int) := by
  have e : ∀ x : UInt8, (x.toNat : Int) = ((x.toUInt32).toNat : Int) := fun x => by rw [UInt8.toNat_toUInt32]
  rw [e a, e b, e c, e d, show (16777216 : Int) = 2 ^ 24 from rfl, show (65536 : Int) = 2 ^ 16 from rfl, show (256 : Int) = 2 ^ 8 from rfl, ul _ 24 (by omega), ul _ 16 (by omega), ul _ 8 (by omega), uo, uo, uo]
  rfl
theorem be_word2 (a b c d : UInt8) : bits .or .u32 (bits .or .u32 (bits .or .u32 ((a.toNat : Int) * 16777216) ((b.toNat : Int) * 65536)) ((c.toNat : Int) * 256)) (d.toNat : Int) = ((be32 a b c d).toNat : Int) := by
  have ha := u8_lt a; have hb := u8_lt b; have hc := u8_lt c
  rw [← be_word, Int.emod_eq_of_lt (by omega) (by omega), Int.emod_eq_of_lt (by omega) (by omega), Int.emod_eq_of_lt (by omega) (by omega)]
theorem wcells_nil : wcells [] = List.replicate 64 (.int .u32 0) := rfl

set_option maxRecDepth 100000 in
set_option maxHeartbeats 1600000 in
theorem refwords_any (v : Value) (b : List UInt8) (w : World) (hv : Rd w 1 v 64 (bv b)) :
    Calls Tryd.prog 28 #[v] w fun e w' => e = .returned (.agg (uv (sched b 64)).toArray) ∧ Below w.heap.size w w' := by
  have hl : b.length = 64 := by have := hv.1; rw [bv_length] at this; omega
  have HL := Lib.hid hl; clear hl
  go_enter Tryd.func28, Tryd.ntmps28
  go_upto_region 1 with (((with_reducible refine' wpList_alloc_blk (cs := List.replicate 64 (.int .u32 0)) 54 rfl ?_ zr_w64 ?_ ?_); exact rfl; exact zeros_u32 64; intro w1 hkA hN1 hz1; simp only [Act.put, List.setIfInBounds_toArray, List.set_cons_succ, List.set_cons_zero]))
  go_upto_region 3 with (((with_reducible refine' wpList_alloc_blk (cs := List.replicate 64 (.int .u32 0)) 54 rfl ?_ zr_w64 ?_ ?_); exact rfl; exact zeros_u32 64; intro w2 hkB hN2 hz2; simp only [Act.put, List.setIfInBounds_toArray, List.set_cons_succ, List.set_cons_zero]))
  have hb := hN1.trans (hN2.mono hN1.size)
  replace hkA := hkA.below hN2 (by omega)
  have hlt1 : w.heap.size < w1.heap.size := by omega
  clear hz1 hz2 hN1 hN2
  go_loopw [4] (fun i wr => ∃ t : Nat, t ≤ 16 ∧ i = .int .i64 t ∧ Blk wr w1.heap.size 54 (wcells (sched b t)) ∧ Blk wr w.heap.size 54 (List.replicate 64 (.int .u32 0)) ∧ Below w.heap.size w wr) (fun i _ => 16 - (intOf i).toNat)
  case atStart => exact ⟨0, by omega, rfl, by rw [sched_zero, wcells_nil]; exact hkB, hkA, hb⟩
  case round =>
    obtain ⟨t, ht, rfl, hkW, hkR, hbl⟩ := hrel
    have hsl := sched_len b t
    have SL := Lib.hid hsl
    have WL := Lib.hid (wcells_len (l := sched b t) (by omega))
    by_cases hlt : t < 16
    · obtain ⟨wo, rfl⟩ : ∃ wo : World, wo = wr := ⟨_, rfl⟩
      have hset : ∀ x : UInt32, (wcells (sched b t)).set t (.int .u32 (x.toNat : Int)) = wcells (sched b t ++ [x]) := fun x => by
        have := wcells_set (l := sched b t) (x := x) (by omega)
        rwa [hsl] at this
      have HSET := Lib.hid hset
      have HK := Lib.hid hkW
      clear hset hsl hkW
      have r1 := hv.below hbl
      have g0 := get_lt (l := b) (k := 4 * t) (by rw [HL.out]; omega)
      have C0 := Lib.hid (part_get (b := b) (t := 0) (j := 4 * t) (n := 64) (by omega) (by rw [HL.out]; omega))
      have C1 := Lib.hid (part_get (b := b) (t := 0) (j := 4 * t + 1) (n := 64) (by omega) (by rw [HL.out]; omega))
      have C2 := Lib.hid (part_get (b := b) (t := 0) (j := 4 * t + 2) (n := 64) (by omega) (by rw [HL.out]; omega))
      have C3 := Lib.hid (part_get (b := b) (t := 0) (j := 4 * t + 3) (n := 64) (by omega) (by rw [HL.out]; omega))
      have e0 : (b.drop 0).take 64 = b := by rw [List.drop_zero, List.take_of_length_le (by rw [HL.out]; exact Nat.le_refl _)]
      rw [e0, Nat.zero_add] at C0 C1 C2 C3
      clear e0 g0
      obtain ⟨x0, hx0⟩ : ∃ x, gb b (4 * t) = x := ⟨_, rfl⟩
      obtain ⟨x1, hx1⟩ : ∃ x, gb b (4 * t + 1) = x := ⟨_, rfl⟩
      obtain ⟨x2, hx2⟩ : ∃ x, gb b (4 * t + 2) = x := ⟨_, rfl⟩
      obtain ⟨x3, hx3⟩ : ∃ x, gb b (4 * t + 3) = x := ⟨_, rfl⟩
      rw [hx0] at C0; rw [hx1] at C1; rw [hx2] at C2; rw [hx3] at C3
      have hbe : sched b (t + 1) = sched b t ++ [be32 x0 x1 x2 x3] := by rw [sched_low b hlt, hx0, hx1, hx2, hx3]
      have HBE := Lib.hid hbe
      clear hx0 hx1 hx2 hx3 hbe
      have b0 := u8_lt x0; have b1 := u8_lt x1; have b2 := u8_lt x2; have b3 := u8_lt x3
      have q0 : IntKind.i64.wrap (4 * (t : Int)) = 4 * (t : Int) := by rw [IntKind.wrap_i64]; omega
      have q1 : IntKind.i64.wrap (4 * (t : Int) + 1) = 4 * (t : Int) + 1 := by rw [IntKind.wrap_i64]; omega
      have q2 : IntKind.i64.wrap (4 * (t : Int) + 2) = 4 * (t : Int) + 2 := by rw [IntKind.wrap_i64]; omega
      have q3 : IntKind.i64.wrap (4 * (t : Int) + 3) = 4 * (t : Int) + 3 := by rw [IntKind.wrap_i64]; omega
      go_upto_region 5 with fail
      (refine wp_region_tail 35 (by kernel_rfl) (by kernel_rfl) ?_; simp only [List.take_succ_cons, List.take_zero, List.drop_succ_cons, List.drop_zero]; (repeat (first | ((with_reducible refine' wpQuiet_at1_rd (.tmp 13) (.tmp 15) 22 rfl ?_ Tryd.underlying22 sz_u8 ?_ r1 (4 * t) ?_ ?_ ?_); exact rfl; exact rfl; (show (_ : Int) = _; omega); omega; simp only [Act.put, List.setIfInBounds_toArray, List.set_cons_succ, List.set_cons_zero]) | ((with_reducible refine' wpQuiet_at1_rd (.tmp 20) (.tmp 23) 22 rfl ?_ Tryd.underlying22 sz_u8 ?_ r1 (4 * t + 1) ?_ ?_ ?_); exact rfl; exact rfl; (show (_ : Int) = _; omega); omega; simp only [Act.put, List.setIfInBounds_toArray, List.set_cons_succ, List.set_cons_zero]) | ((with_reducible refine' wpQuiet_at1_rd (.tmp 29) (.tmp 32) 22 rfl ?_ Tryd.underlying22 sz_u8 ?_ r1 (4 * t + 2) ?_ ?_ ?_); exact rfl; exact rfl; (show (_ : Int) = _; omega); omega; simp only [Act.put, List.setIfInBounds_toArray, List.set_cons_succ, List.set_cons_zero]) | ((with_reducible refine' wpQuiet_at1_rd (.tmp 38) (.tmp 41) 22 rfl ?_ Tryd.underlying22 sz_u8 ?_ r1 (4 * t + 3) ?_ ?_ ?_); exact rfl; exact rfl; (show (_ : Int) = _; omega); omega; simp only [Act.put, List.setIfInBounds_toArray, List.set_cons_succ, List.set_cons_zero]) | ((with_reducible refine' wpQuiet_load_rd still_drew (.tmp 16) 5 rfl ?_ ld_u8 ?_ r1 (C0.out) ?_); exact rfl; exact rfl; simp only [Act.put, List.setIfInBounds_toArray, List.set_cons_succ, List.set_cons_zero]) | ((with_reducible refine' wpQuiet_load_rd still_drew (.tmp 24) 5 rfl ?_ ld_u8 ?_ r1 (C1.out) ?_); exact rfl; exact rfl; simp only [Act.put, List.setIfInBounds_toArray, List.set_cons_succ, List.set_cons_zero]) | ((with_reducible refine' wpQuiet_load_rd still_drew (.tmp 33) 5 rfl ?_ ld_u8 ?_ r1 (C2.out) ?_); exact rfl; exact rfl; simp only [Act.put, List.setIfInBounds_toArray, List.set_cons_succ, List.set_cons_zero]) | ((with_reducible refine' wpQuiet_load_rd still_drew (.tmp 42) 5 rfl ?_ ld_u8 ?_ r1 (C3.out) ?_); exact rfl; exact rfl; simp only [Act.put, List.setIfInBounds_toArray, List.set_cons_succ, List.set_cons_zero]) | ((with_reducible refine' wpQuiet_at_blk (.tmp 3) (.tmp 12) 54 rfl ?_ Tryd.underlying54 sz_u32 ?_ (t) ?_ ?_ ?_); exact rfl; exact rfl; (show (_ : Int) = _; omega); omega; simp only [Act.put, List.setIfInBounds_toArray, List.set_cons_succ, List.set_cons_zero]) | go_big_quiet_step (fail))); refine wpQuiet_nil ?_; show wpList _ _ _ _ _ _)
      (with_reducible refine' wpList_set_blk (k := t) 29 (.tmp 46) (.tmp 45) rfl ?_ sz_u32 ?_ rfl (Blk.drew HK.out) (by rw [WL.out]; omega) ?_ ?_); exact rfl; exact rfl; exact rfl; intro w4 hk4 hq4 hz4; simp only [Act.put]
      simp [Act.eval] at hk4
      rw [be_word2, HSET.out, ← HBE.out] at hk4
      go_wp2_with fail
      go_roundw
      case rel => exact ⟨t + 1, by omega, by go_num, hk4, hq4.blk (Blk.drew hkR) (by omega), (below_drew hbl).trans (hq4.below (by omega) hbl.size)⟩
      case measure => simp [intOf]; omega
    · obtain rfl : t = 16 := by omega
      clear WL
      go_upto_region 7 with fail
      go_loopw [5] (fun i wr => ∃ t : Nat, 16 ≤ t ∧ t ≤ 64 ∧ i = .int .i64 t ∧ Blk wr w1.heap.size 54 (wcells (sched b t)) ∧ Blk wr w.heap.size 54 (List.replicate 64 (.int .u32 0)) ∧ Below w.heap.size w wr) (fun i _ => 64 - (intOf i).toNat)
      case atStart => exact ⟨16, by omega, by omega, rfl, hkW, hkR, hbl⟩
      case round =>
        obtain ⟨t, ht0, ht, rfl, hkW, hkR, hbl⟩ := hrel
        have hsl := sched_len b t
        have WL := Lib.hid (wcells_len (l := sched b t) (by omega))
        by_cases hlt : t < 64
        · obtain ⟨wo, rfl⟩ : ∃ wo : World, wo = wr := ⟨_, rfl⟩
          have hset : ∀ x : UInt32, (wcells (sched b t)).set t (.int .u32 (x.toNat : Int)) = wcells (sched b t ++ [x]) := fun x => by
            have := wcells_set (l := sched b t) (x := x) (by omega)
            rwa [hsl] at this
          have HSET := Lib.hid hset
          have W1 := Lib.hid (wcells_get (l := sched b t) (k := t - 15) (by omega))
          have W2 := Lib.hid (wcells_get (l := sched b t) (k := t - 2) (by omega))
          have W3 := Lib.hid (wcells_get (l := sched b t) (k := t - 16) (by omega))
          have W4 := Lib.hid (wcells_get (l := sched b t) (k := t - 7) (by omega))
          have hnw : nextw (sched b t) = gw (sched b t) (t - 16) + sg0 (gw (sched b t) (t - 15)) + gw (sched b t) (t - 7) + sg1 (gw (sched b t) (t - 2)) := by unfold nextw; rw [hsl]
          obtain ⟨x1, hx1⟩ : ∃ x, gw (sched b t) (t - 15) = x := ⟨_, rfl⟩
          obtain ⟨x2, hx2⟩ : ∃ x, gw (sched b t) (t - 2) = x := ⟨_, rfl⟩
          obtain ⟨x3, hx3⟩ : ∃ x, gw (sched b t) (t - 16) = x := ⟨_, rfl⟩
          obtain ⟨x4, hx4⟩ : ∃ x, gw (sched b t) (t - 7) = x := ⟨_, rfl⟩
          rw [hx1] at W1 hnw; rw [hx2] at W2 hnw; rw [hx3] at W3 hnw; rw [hx4] at W4 hnw
          have NW := Lib.hid hnw
          clear hx1 hx2 hx3 hx4 hset hsl hnw
          have hb1 := lt32 x1; have hb2 := lt32 x2; have hb3 := lt32 x3; have hb4 := lt32 x4
          have XR := xr_eq; have e3 := s3_eq x1; have e10 := s10_eq x2
          have q15 : IntKind.i64.wrap ((t : Int) - 15) = (t : Int) - 15 := by rw [IntKind.wrap_i64]; omega
          have q2 : IntKind.i64.wrap ((t : Int) - 2) = (t : Int) - 2 := by rw [IntKind.wrap_i64]; omega
          go_upto_region 9 with fail
          (refine wp_region_quiet_lit (by kernel_rfl) (by kernel_rfl) ?_; (repeat (first | ((with_reducible refine' wpQuiet_at_blk (.tmp 3) (.tmp 52) 54 rfl ?_ Tryd.underlying54 sz_u32 ?_ (t - 15) ?_ ?_ ?_); exact rfl; exact rfl; (show (_ : Int) = _; omega); omega; simp only [Act.put, List.setIfInBounds_toArray, List.set_cons_succ, List.set_cons_zero]) | ((with_reducible refine' wpQuiet_at_blk (.tmp 3) (.tmp 57) 54 rfl ?_ Tryd.underlying54 sz_u32 ?_ (t - 15) ?_ ?_ ?_); exact rfl; exact rfl; (show (_ : Int) = _; omega); omega; simp only [Act.put, List.setIfInBounds_toArray, List.set_cons_succ, List.set_cons_zero]) | ((with_reducible refine' wpQuiet_at_blk (.tmp 3) (.tmp 63) 54 rfl ?_ Tryd.underlying54 sz_u32 ?_ (t - 15) ?_ ?_ ?_); exact rfl; exact rfl; (show (_ : Int) = _; omega); omega; simp only [Act.put, List.setIfInBounds_toArray, List.set_cons_succ, List.set_cons_zero]) | ((with_reducible refine' wpQuiet_load_blk (fun _ h => h) (.tmp 53) 29 rfl ?_ ld_u32 ?_ hkW (W1.out) ?_); exact rfl; exact rfl; simp only [Act.put, List.setIfInBounds_toArray, List.set_cons_succ, List.set_cons_zero]) | ((with_reducible refine' wpQuiet_load_blk (fun _ h => h) (.tmp 58) 29 rfl ?_ ld_u32 ?_ hkW (W1.out) ?_); exact rfl; exact rfl; simp only [Act.put, List.setIfInBounds_toArray, List.set_cons_succ, List.set_cons_zero]) | ((with_reducible refine' wpQuiet_load_blk (fun _ h => h) (.tmp 64) 29 rfl ?_ ld_u32 ?_ hkW (W1.out) ?_); exact rfl; exact rfl; simp only [Act.put, List.setIfInBounds_toArray, List.set_cons_succ, List.set_cons_zero]) | go_big_quiet_step ((go_at_call 29; first | (with_reducible refine rotr_q x1 7 7 rfl (by omega) (by omega) _ _) | (with_reducible refine rotr_q x1 18 18 rfl (by omega) (by omega) _ _))) | go_big_quiet_step (fail))); refine wpQuiet_nil ?_; intro _ hw'; obtain ⟨nq, hw''⟩ := hw'; subst hw'')
          go_upto_region 10 with fail
          replace hkW := hkW.drewN nq; replace hkR := hkR.drewN nq; replace hbl := below_drewN hbl nq
          generalize wo.drewN nq = wq at hkW hkR hbl ⊢
          (refine wp_region_quiet_lit (by kernel_rfl) (by kernel_rfl) ?_; (repeat (first | ((with_reducible refine' wpQuiet_at_blk (.tmp 3) (.tmp 69) 54 rfl ?_ Tryd.underlying54 sz_u32 ?_ (t - 2) ?_ ?_ ?_); exact rfl; exact rfl; (show (_ : Int) = _; omega); omega; simp only [Act.put, List.setIfInBounds_toArray, List.set_cons_succ, List.set_cons_zero]) | ((with_reducible refine' wpQuiet_at_blk (.tmp 3) (.tmp 74) 54 rfl ?_ Tryd.underlying54 sz_u32 ?_ (t - 2) ?_ ?_ ?_); exact rfl; exact rfl; (show (_ : Int) = _; omega); omega; simp only [Act.put, List.setIfInBounds_toArray, List.set_cons_succ, List.set_cons_zero]) | ((with_reducible refine' wpQuiet_at_blk (.tmp 3) (.tmp 80) 54 rfl ?_ Tryd.underlying54 sz_u32 ?_ (t - 2) ?_ ?_ ?_); exact rfl; exact rfl; (show (_ : Int) = _; omega); omega; simp only [Act.put, List.setIfInBounds_toArray, List.set_cons_succ, List.set_cons_zero]) | ((with_reducible refine' wpQuiet_load_blk (fun _ h => h) (.tmp 70) 29 rfl ?_ ld_u32 ?_ hkW (W2.out) ?_); exact rfl; exact rfl; simp only [Act.put, List.setIfInBounds_toArray, List.set_cons_succ, List.set_cons_zero]) | ((with_reducible refine' wpQuiet_load_blk (fun _ h => h) (.tmp 75) 29 rfl ?_ ld_u32 ?_ hkW (W2.out) ?_); exact rfl; exact rfl; simp only [Act.put, List.setIfInBounds_toArray, List.set_cons_succ, List.set_cons_zero]) | ((with_reducible refine' wpQuiet_load_blk (fun _ h => h) (.tmp 81) 29 rfl ?_ ld_u32 ?_ hkW (W2.out) ?_); exact rfl; exact rfl; simp only [Act.put, List.setIfInBounds_toArray, List.set_cons_succ, List.set_cons_zero]) | go_big_quiet_step ((go_at_call 29; first | (with_reducible refine rotr_q x2 17 17 rfl (by omega) (by omega) _ _) | (with_reducible refine rotr_q x2 19 19 rfl (by omega) (by omega) _ _))) | go_big_quiet_step (fail))); refine wpQuiet_nil ?_; intro _ hw'; obtain ⟨nq, hw''⟩ := hw'; subst hw'')
          replace hkW := hkW.drewN nq; replace hkR := hkR.drewN nq; replace hbl := below_drewN hbl nq
          generalize wq.drewN nq = wp at hkW hkR hbl ⊢
          obtain ⟨g0, hg0⟩ : ∃ g, xr (xr (rr x1 7) (rr x1 18)) (s3 x1) = g := ⟨_, rfl⟩
          obtain ⟨g1, hg1⟩ : ∃ g, xr (xr (rr x2 17) (rr x2 19)) (s10 x2) = g := ⟨_, rfl⟩
          rw [hg0, hg1]
          have G0 := Lib.hid hg0; have G1 := Lib.hid hg1
          clear hg0 hg1 XR e3 e10 q15 q2
          have hb5 := lt32 g0; have hb6 := lt32 g1
          have PL := pl_eq; have PL' := pl_eq'
          have q16 : IntKind.i64.wrap ((t : Int) - 16) = (t : Int) - 16 := by rw [IntKind.wrap_i64]; omega
          have q7 : IntKind.i64.wrap ((t : Int) - 7) = (t : Int) - 7 := by rw [IntKind.wrap_i64]; omega
          go_upto_region 11 with fail
          (refine wp_region_tail 15 (by kernel_rfl) (by kernel_rfl) ?_; simp only [List.take_succ_cons, List.take_zero, List.drop_succ_cons, List.drop_zero]; (repeat (first | ((with_reducible refine' wpQuiet_at_blk (.tmp 3) (.tmp 87) 54 rfl ?_ Tryd.underlying54 sz_u32 ?_ (t - 16) ?_ ?_ ?_); exact rfl; exact rfl; (show (_ : Int) = _; omega); omega; simp only [Act.put, List.setIfInBounds_toArray, List.set_cons_succ, List.set_cons_zero]) | ((with_reducible refine' wpQuiet_at_blk (.tmp 3) (.tmp 93) 54 rfl ?_ Tryd.underlying54 sz_u32 ?_ (t - 7) ?_ ?_ ?_); exact rfl; exact rfl; (show (_ : Int) = _; omega); omega; simp only [Act.put, List.setIfInBounds_toArray, List.set_cons_succ, List.set_cons_zero]) | ((with_reducible refine' wpQuiet_at_blk (.tmp 3) (.tmp 85) 54 rfl ?_ Tryd.underlying54 sz_u32 ?_ (t) ?_ ?_ ?_); exact rfl; exact rfl; (show (_ : Int) = _; omega); omega; simp only [Act.put, List.setIfInBounds_toArray, List.set_cons_succ, List.set_cons_zero]) | ((with_reducible refine' wpQuiet_load_blk still_drew (.tmp 88) 29 rfl ?_ ld_u32 ?_ hkW (W3.out) ?_); exact rfl; exact rfl; simp only [Act.put, List.setIfInBounds_toArray, List.set_cons_succ, List.set_cons_zero]) | ((with_reducible refine' wpQuiet_load_blk still_drew (.tmp 94) 29 rfl ?_ ld_u32 ?_ hkW (W4.out) ?_); exact rfl; exact rfl; simp only [Act.put, List.setIfInBounds_toArray, List.set_cons_succ, List.set_cons_zero]) | go_big_quiet_step (fail))); refine wpQuiet_nil ?_; show wpList _ _ _ _ _ _)
          clear q16 q7
          (with_reducible refine' wpList_set_blk (k := t) 29 (.tmp 99) (.tmp 98) rfl ?_ sz_u32 ?_ rfl (Blk.drew hkW) (by rw [WL.out]; exact hlt) ?_ ?_); exact rfl; exact rfl; exact rfl; intro w4 hk4 hq4 hz4; simp only [Act.put]
          simp [Act.eval] at hk4
          rw [HSET.out] at hk4
          go_wp2_with fail
          go_roundw
          case rel =>
            refine ⟨t + 1, by omega, by omega, by go_num, ?_, hq4.blk (Blk.drew hkR) (by omega), (below_drew hbl).trans (hq4.below (by omega) hbl.size)⟩
            rw [← G0.out, ← G1.out] at hk4
            rw [sched_high b ht0, NW.out]
            exact hk4
          case measure => simp [intOf]; omega
        · obtain rfl : t = 64 := by omega
          go_wp2_with (first | ((with_reducible refine' wpList_loadall_blk (.tmp 3) 54 rfl ?_ Tryd.underlying54 sz_w64 ?_ hkW ?_ ?_ ?_); exact rfl; exact rfl; exact WL.out; omega; simp only [Act.put, List.setIfInBounds_toArray, List.set_cons_succ, List.set_cons_zero]) | ((with_reducible refine' wpList_store_blk (cs := (wcells (sched b 64))) 54 (.tmp 2) (.tmp 100) rfl ?_ ?_ ?_ hkR sz_w64 ?_ ?_ ?_ ?_); exact rfl; exact rfl; exact rfl; exact WL.out; simp; exact wcells_one _; intro w3 hk3 hO3 hz3; simp only [Act.put]))
          rw [wcells_full hsl] at hk3
          ((try simp only [Exit.inBlock, Exit.then]); refine bodyPost_ret (results_cell_row rfl _ _ _ _ _ _ _ rfl hk3 Tryd.underlying54 rfl (by rw [sz_w64]; simp [uv_length, hsl])) rfl ?_)
          exact ⟨rfl, hbl.trans (hO3.below (Nat.le_refl _) hbl.size)⟩
end Go.Proofs.YtomjniijnpnehaaDoor.Wi
