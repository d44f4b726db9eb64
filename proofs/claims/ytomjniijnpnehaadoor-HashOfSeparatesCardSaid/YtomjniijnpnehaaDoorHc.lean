/-
  The message schedule of a block. Conditions: a slice of 64 bytes.
-/
import Derived.Test.YtomjniijnpnehaaDoorHt
import Derived.Deep.DeepCutAuto
import Derived.Deep.CutBlock
namespace Go.Proofs.YtomjniijnpnehaaDoor.Pu
open Go
theorem growW_step : ∀ (k : Nat) (l : List UInt32), growW (k + 1) l = growW k l ++ [nextw (growW k l)]
  | 0, _ => rfl
  | k + 1, l => by
    have := growW_step k (l ++ [nextw l])
    exact this
theorem growW_len : ∀ (k : Nat) (l : List UInt32), (growW k l).length = l.length + k
  | 0, _ => rfl
  | k + 1, l => by
    have := growW_len k (l ++ [nextw l])
    rw [growW, this, List.length_append]; simp; omega
theorem w16_len (b : List UInt8) : ∀ k, (w16 b k).length = k
  | 0 => rfl
  | k + 1 => by rw [w16, List.length_append, w16_len]; rfl
theorem sched_len (b : List UInt8) (t : Nat) : (sched b t).length = t := by
  unfold sched
  rw [growW_len, w16_len]; omega
theorem sched_zero (b : List UInt8) : sched b 0 = [] := rfl
theorem sched_low (b : List UInt8) {t : Nat} (h : t < 16) : sched b (t + 1) = sched b t ++ [be32 (gb b (4 * t)) (gb b (4 * t + 1)) (gb b (4 * t + 2)) (gb b (4 * t + 3))] := by
  unfold sched
  rw [show t + 1 - 16 = 0 by omega, show t - 16 = 0 by omega, Nat.min_eq_left (by omega : t + 1 ≤ 16), Nat.min_eq_left (by omega : t ≤ 16)]
  rfl
theorem sched_high (b : List UInt8) {t : Nat} (h : 16 ≤ t) : sched b (t + 1) = sched b t ++ [nextw (sched b t)] := by
  unfold sched
  rw [show t + 1 - 16 = (t - 16) + 1 by omega, Nat.min_eq_right (by omega : 16 ≤ t + 1), Nat.min_eq_right h, growW_step]
/-- byte by byte -/
def acc32 (b : List UInt8) (t : Nat) : Nat → UInt32
  | 0 => 0
  | j + 1 => acc32 b t j <<< 8 ||| (gb b (4 * t + j)).toUInt32
theorem shl_shl (x : UInt32) (i j : Nat) (h : i + j < 32) : (x <<< UInt32.ofNat i) <<< UInt32.ofNat j = x <<< UInt32.ofNat (i + j) := by
  apply UInt32.toNat_inj.1
  rw [UInt32.toNat_shiftLeft, UInt32.toNat_shiftLeft, UInt32.toNat_shiftLeft, ofn (by omega), ofn (by omega), ofn (by omega), Nat.mod_eq_of_lt (by omega : i < 32), Nat.mod_eq_of_lt (by omega : j < 32), Nat.mod_eq_of_lt h]
  simp only [Nat.shiftLeft_eq]
  rw [Nat.mod_mul_mod, Nat.mul_assoc, ← Nat.pow_add]
theorem or_shl (x y z : UInt32) : (x ||| y) <<< z = x <<< z ||| y <<< z := by
  apply UInt32.toBitVec_inj.1
  rw [UInt32.toBitVec_or, UInt32.toBitVec_shiftLeft, UInt32.toBitVec_shiftLeft, UInt32.toBitVec_shiftLeft, UInt32.toBitVec_or]
  exact BitVec.shiftLeft_or_distrib _ _ _
theorem acc_be (b : List UInt8) (t : Nat) : acc32 b t 4 = be32 (gb b (4 * t)) (gb b (4 * t + 1)) (gb b (4 * t + 2)) (gb b (4 * t + 3)) := by
  simp only [acc32, be32, Nat.add_zero]
  have h8 : ∀ x : UInt32, (x <<< 8) <<< 8 = x <<< 16 := fun x => shl_shl x 8 8 (by omega)
  have h16 : ∀ x : UInt32, (x <<< 16) <<< 8 = x <<< 24 := fun x => shl_shl x 16 8 (by omega)
  have h0 : (0 : UInt32) <<< 8 = 0 := by decide
  simp only [h0, UInt32.zero_or, or_shl, h8, h16]
end Go.Proofs.YtomjniijnpnehaaDoor.Pu
namespace Go.Proofs.YtomjniijnpnehaaDoor.Wi
open Go Go.RowKit Pu Lb

/-- the block of the words so far -/
def wcells (l : List UInt32) : List Value := uv l ++ List.replicate (64 - l.length) (.int .u32 0)
theorem wcells_len {l : List UInt32} (h : l.length ≤ 64) : (wcells l).length = 64 := by
  unfold wcells
  rw [List.length_append, uv_length, List.length_replicate]; omega
theorem wcells_get {l : List UInt32} {k : Nat} (h : k < l.length) : (wcells l)[k]? = some (.int .u32 ((gw l k).toNat : Int)) := by
  unfold wcells
  rw [List.getElem?_append_left (by rw [uv_length]; exact h), uv_get h]
theorem wcells_top {l : List UInt32} (h : l.length < 64) : (wcells l)[l.length]? = some (.int .u32 0) := by
  unfold wcells
  rw [List.getElem?_append_right (by rw [uv_length]; exact Nat.le_refl _), uv_length, Nat.sub_self, List.getElem?_replicate, if_pos (by omega)]
theorem wcells_set {l : List UInt32} {x : UInt32} (h : l.length < 64) : (wcells l).set l.length (.int .u32 (x.toNat : Int)) = wcells (l ++ [x]) := by
  unfold wcells
  have := fill_step (pre := uv l) (n := 64) (q := l.length) (uv_length l) h (.int .u32 0) (.int .u32 (x.toNat : Int))
  rw [this, uv_append, List.length_append]
  rfl

theorem wcells_zero {l : List UInt32} (h : l.length < 64) : wcells (l ++ [0]) = wcells l := by
  unfold wcells
  rw [uv_append, List.length_append, List.append_assoc, show 64 - l.length = (64 - (l.length + 1)) + 1 by omega, List.replicate_succ]
  rfl
theorem gw_top (l : List UInt32) (x : UInt32) : gw (l ++ [x]) l.length = x := by simp [gw]
theorem wcells_reset {l : List UInt32} {x y : UInt32} (h : l.length < 64) : (wcells (l ++ [x])).set l.length (.int .u32 (y.toNat : Int)) = wcells (l ++ [y]) := by
  rw [← wcells_set h, List.set_set, wcells_set h]
theorem wcells_one (l : List UInt32) : ∀ u ∈ wcells l, u.oneCell' = true := by
  intro u hu
  rcases List.mem_append.1 hu with h | h
  · exact uv_one l u h
  · rw [List.eq_of_mem_replicate h]; rfl
theorem wcells_full {l : List UInt32} (h : l.length = 64) : wcells l = uv l := by
  unfold wcells
  rw [h, Nat.sub_self]; simp
theorem part_get {b : List UInt8} {t j n : Nat} (hj : j < n) (h : t + n ≤ b.length) : (bv ((b.drop t).take n))[j]? = some (.int .u8 ((gb b (t + j)).toNat : Int)) := by
  have h1 : ((b.drop t).take n)[j]? = some (gb b (t + j)) := by
    rw [List.getElem?_take, if_pos hj, List.getElem?_drop]
    simp [gb, List.getD_eq_getElem?_getD, show t + j < b.length by omega]
  exact bv_at h1
theorem sg0_eq (x : UInt32) : bits .xor .u32 (bits .xor .u32 ((rr x 7).toNat : Int) ((rr x 18).toNat : Int)) ((x.toNat : Int) / 8) = ((sg0 x).toNat : Int) := by
  have h := us x 3 (by omega)
  rw [show (8 : Int) = 2 ^ 3 from rfl, h, ux, ux]
  rfl
theorem sg1_eq (x : UInt32) : bits .xor .u32 (bits .xor .u32 ((rr x 17).toNat : Int) ((rr x 19).toNat : Int)) ((x.toNat : Int) / 1024) = ((sg1 x).toNat : Int) := by
  have h := us x 10 (by omega)
  rw [show (1024 : Int) = 2 ^ 10 from rfl, h, ux, ux]
  rfl
theorem up4 (a b c d : UInt32) : ((a.toNat : Int) + (b.toNat : Int) + (c.toNat : Int) + (d.toNat : Int)) % 4294967296 = ((a + b + c + d).toNat : Int) := by
  rw [← up, ← up, ← up]; omega
theorem acc_step (b : List UInt8) (t j : Nat) : bits .or .u32 ((acc32 b t j).toNat * 256 % 4294967296 : Int) ((gb b (4 * t + j)).toNat : Int) = ((acc32 b t (j + 1)).toNat : Int) := by
  have h1 := ul (acc32 b t j) 8 (by omega)
  rw [show (256 : Int) = 2 ^ 8 from rfl, h1, show ((gb b (4 * t + j)).toNat : Int) = ((gb b (4 * t + j)).toUInt32.toNat : Int) by rw [UInt8.toNat_toUInt32], uo]
  rfl

set_option maxRecDepth 100000 in
set_option maxHeartbeats 1600000 in
theorem schedule_any (v : Value) (b : List UInt8) (w : World) (hv : Rd w 1 v 64 (bv b)) :
    Calls Tryd.prog 36 #[v] w fun e w' => e = .returned (.agg (uv (sched b 64)).toArray) ∧ Below w.heap.size w w' := by
  have hl : b.length = 64 := by have := hv.1; rw [bv_length] at this; omega
  have HL := Lib.hid hl; clear hl
  go_enter Tryd.func36, Tryd.ntmps36
  go_upto_region 1 with (((with_reducible refine' wpList_alloc_blk (cs := List.replicate 64 (.int .u32 0)) 54 rfl ?_ zr_w64 ?_ ?_); exact rfl; exact zeros_u32 64; intro w1 hkA hN1 hz1; simp only [Act.put, List.setIfInBounds_toArray, List.set_cons_succ, List.set_cons_zero]))
  go_wp2_with (((with_reducible refine' wpList_alloc_blk (cs := List.replicate 64 (.int .u32 0)) 54 rfl ?_ zr_w64 ?_ ?_); exact rfl; exact zeros_u32 64; intro w2 hkB hN2 hz2; simp only [Act.put, List.setIfInBounds_toArray, List.set_cons_succ, List.set_cons_zero]))
  have hb := hN1.trans (hN2.mono hN1.size)
  replace hkA := hkA.below hN2 (by omega)
  have hlt1 : w.heap.size < w1.heap.size := by omega
  clear hz1 hz2
  go_loopw [11] (fun i wr => ∃ t : Nat, t ≤ 64 ∧ i = .int .i64 t ∧ Blk wr w1.heap.size 54 (wcells (sched b t)) ∧ Blk wr w.heap.size 54 (List.replicate 64 (.int .u32 0)) ∧ Below w.heap.size w wr) (fun i _ => 64 - (intOf i).toNat)
  case atStart => exact ⟨0, by omega, rfl, hkB, hkA, hb⟩
  case round =>
    obtain ⟨t, ht, rfl, hkW, hkR, hbl⟩ := hrel
    have hsl := sched_len b t
    have hwl := wcells_len (l := sched b t) (by omega)
    by_cases hlt : t < 64
    · obtain ⟨wo, rfl⟩ : ∃ wo : World, wo = wr := ⟨_, rfl⟩
      have hset : ∀ x : UInt32, (wcells (sched b t)).set t (.int .u32 (x.toNat : Int)) = wcells (sched b t ++ [x]) := fun x => by
        have := wcells_set (l := sched b t) (x := x) (by omega)
        rwa [hsl] at this
      have HSET := Lib.hid hset
      have HSL := Lib.hid hsl
      have HK := Lib.hid hkW
      clear hset hsl hkW
      go_upto_block 1 with fail
      go_cut [] (fun w' => Blk w' w1.heap.size 54 (wcells (sched b (t + 1))) ∧ Blk w' w.heap.size 54 (List.replicate 64 (.int .u32 0)) ∧ Below w.heap.size w w')
      case first =>
        by_cases h16 : t < 16
        · go_wp2_with (first | (((with_reducible refine' wpList_cut_b (.tmp 16) (.tmp 18) (.tmp 21) 22 rfl ?_ Tryd.underlying22 sz_u8 ?_ hv (4 * t) (4 * t + 4) ?_ ?_ ?_ ?_ ?_); exact rfl; exact rfl; (show (_ : Int) = _; omega); (show (_ : Int) = _; omega); omega; omega; intro v1 r1; simp only [Act.put, List.setIfInBounds_toArray, List.set_cons_succ, List.set_cons_zero]); rw [show 4 * t + 4 - 4 * t = 4 by omega] at r1) | ((with_reducible refine' wpList_len_rd (.tmp 22) 22 rfl ?_ Tryd.underlying22 ?_ r1 ?_); exact rfl; exact rfl; simp only [Act.put, List.setIfInBounds_toArray, List.set_cons_succ, List.set_cons_zero]))
          go_loopw [24] (fun i wr => ∃ j : Nat, j ≤ 4 ∧ i = .int .i64 j ∧ Blk wr w1.heap.size 54 (wcells (sched b t ++ [acc32 b t j])) ∧ Blk wr w.heap.size 54 (List.replicate 64 (.int .u32 0)) ∧ Below w.heap.size w wr) (fun i _ => 4 - (intOf i).toNat)
          case atStart => exact ⟨0, by omega, rfl, by rw [acc32, wcells_zero (by rw [HSL.out]; exact hlt)]; exact HK.out, hkR, hbl⟩
          case round =>
            obtain ⟨j, hj, rfl, hkj, hkR2, hbj⟩ := hrel
            have HJ := Lib.hid hkj
            clear hkj
            have rj := r1.below hbj
            by_cases hj4 : j < 4
            · have hc := part_get (b := b) (t := 4 * t) (n := 4) hj4 (by rw [HL.out]; omega)
              have hlen : t < (wcells (sched b t ++ [acc32 b t j])).length := by rw [wcells_len (by rw [List.length_append, HSL.out]; simp; omega)]; exact hlt
              have hw := wcells_get (l := sched b t ++ [acc32 b t j]) (k := t) (by rw [List.length_append, HSL.out]; simp)
              have ht2 := gw_top (sched b t) (acc32 b t j)
              rw [HSL.out] at ht2
              rw [ht2] at hw
              have hre := wcells_reset (l := sched b t) (x := acc32 b t j) (y := acc32 b t (j + 1)) (by rw [HSL.out]; exact hlt)
              rw [HSL.out, ← acc_step] at hre
              have hax := lt32 (acc32 b t j)
              have hby := u8_lt (gb b (4 * t + j))
              have C := Lib.hid hc
              have W := Lib.hid hw
              have RE := Lib.hid hre
              clear hc hw ht2 hre
              go_wp2_with (first | ((with_reducible refine' wpList_at1_rd (.tmp 22) (.tmp 24) 22 rfl ?_ Tryd.underlying22 sz_u8 ?_ r1 (j) ?_ ?_ ?_); exact rfl; exact rfl; (show (_ : Int) = _; omega); omega; simp only [Act.put, List.setIfInBounds_toArray, List.set_cons_succ, List.set_cons_zero]) | ((with_reducible refine' wpList_load_rd (.tmp 26) 5 rfl ?_ ld_u8 ?_ rj (C.out) ?_); exact rfl; exact rfl; simp only [Act.put, List.setIfInBounds_toArray, List.set_cons_succ, List.set_cons_zero]) | ((with_reducible refine' wpList_at_blk (.tmp 3) (.tmp 29) 54 rfl ?_ Tryd.underlying54 sz_u32 ?_ (t) ?_ ?_ ?_); exact rfl; exact rfl; (show (_ : Int) = _; omega); omega; simp only [Act.put, List.setIfInBounds_toArray, List.set_cons_succ, List.set_cons_zero]) | ((with_reducible refine' wpList_load_blk (.tmp 30) 29 rfl ?_ ld_u32 ?_ HJ.out (W.out) ?_); exact rfl; exact rfl; simp only [Act.put, List.setIfInBounds_toArray, List.set_cons_succ, List.set_cons_zero]) | ((with_reducible refine' wpList_at_blk (.tmp 3) (.tmp 28) 54 rfl ?_ Tryd.underlying54 sz_u32 ?_ (t) ?_ ?_ ?_); exact rfl; exact rfl; (show (_ : Int) = _; omega); omega; simp only [Act.put, List.setIfInBounds_toArray, List.set_cons_succ, List.set_cons_zero]) | (((with_reducible refine' wpList_set_blk (u := .int .u32 (bits .or .u32 ((acc32 b t j).toNat * 256 % 4294967296) ((gb b (4 * t + j)).toNat : Int))) 29 (.tmp 36) (.tmp 35) rfl ?_ sz_u32 ?_ ?_ HJ.out (hlen) ?_ ?_); exact rfl; exact rfl; exact rfl; exact rfl; intro w4 hk4 hq4 hz4; simp only [Act.put]); rw [RE.out] at hk4; have HK4 := Lib.hid hk4; clear hk4; have hb4 := hbj.trans (hq4.below (by omega) hbj.size); have hkR4 := hq4.blk hkR2 (by omega)))
              go_roundw
              case rel => exact ⟨j + 1, by omega, by go_num, HK4.out, hkR4, hb4⟩
              case measure => simp [intOf]; omega
            · obtain rfl : j = 4 := by omega
              go_wp2_with fail
              go_meet
              case rel =>
                have h := HJ.out
                rw [acc_be, ← sched_low b h16] at h
                exact ⟨h, hkR2, hbj⟩
        · have hW1 := wcells_get (l := sched b t) (k := t - 15) (by rw [HSL.out]; omega)
          have hW2 := wcells_get (l := sched b t) (k := t - 2) (by rw [HSL.out]; omega)
          have hW3 := wcells_get (l := sched b t) (k := t - 16) (by rw [HSL.out]; omega)
          have hW4 := wcells_get (l := sched b t) (k := t - 7) (by rw [HSL.out]; omega)
          obtain ⟨x1, hx1⟩ : ∃ x, gw (sched b t) (t - 15) = x := ⟨_, rfl⟩
          obtain ⟨x2, hx2⟩ : ∃ x, gw (sched b t) (t - 2) = x := ⟨_, rfl⟩
          obtain ⟨x3, hx3⟩ : ∃ x, gw (sched b t) (t - 16) = x := ⟨_, rfl⟩
          obtain ⟨x4, hx4⟩ : ∃ x, gw (sched b t) (t - 7) = x := ⟨_, rfl⟩
          rw [hx1] at hW1; rw [hx2] at hW2; rw [hx3] at hW3; rw [hx4] at hW4
          have W1 := Lib.hid hW1; have W2 := Lib.hid hW2; have W3 := Lib.hid hW3; have W4 := Lib.hid hW4
          have X1 := Lib.hid hx1; have X2 := Lib.hid hx2; have X3 := Lib.hid hx3; have X4 := Lib.hid hx4
          clear hW1 hW2 hW3 hW4 hx1 hx2 hx3 hx4
          have hlen : t < (wcells (sched b t)).length := by rw [hwl]; exact hlt
          have e9 := sg0_eq x1; have e10 := sg1_eq x2
          obtain ⟨g0, hg0⟩ : ∃ x, sg0 x1 = x := ⟨_, rfl⟩
          obtain ⟨g1, hg1⟩ : ∃ x, sg1 x2 = x := ⟨_, rfl⟩
          rw [hg0] at e9; rw [hg1] at e10
          have G0 := Lib.hid hg0; have G1 := Lib.hid hg1
          clear hg0 hg1
          have hb5 := lt32 g0; have hb6 := lt32 g1
          have hb1 := lt32 x1; have hb2 := lt32 x2; have hb3 := lt32 x3; have hb4 := lt32 x4
          go_wp2_with (first
            | (refine wp_region_quiet_lit (by kernel_rfl) (by kernel_rfl) ?_; (repeat (first | ((with_reducible refine' wpQuiet_at_blk (.tmp 3) (.tmp 39) 54 rfl ?_ Tryd.underlying54 sz_u32 ?_ (t - 15) ?_ ?_ ?_); exact rfl; exact rfl; (show (_ : Int) = _; omega); omega; simp only [Act.put, List.setIfInBounds_toArray, List.set_cons_succ, List.set_cons_zero]) | ((with_reducible refine' wpQuiet_load_blk (fun _ h => h) (.tmp 40) 29 rfl ?_ ld_u32 ?_ HK.out (W1.out) ?_); exact rfl; exact rfl; simp only [Act.put, List.setIfInBounds_toArray, List.set_cons_succ, List.set_cons_zero]) | ((with_reducible refine' wpQuiet_at_blk (.tmp 3) (.tmp 43) 54 rfl ?_ Tryd.underlying54 sz_u32 ?_ (t - 2) ?_ ?_ ?_); exact rfl; exact rfl; (show (_ : Int) = _; omega); omega; simp only [Act.put, List.setIfInBounds_toArray, List.set_cons_succ, List.set_cons_zero]) | ((with_reducible refine' wpQuiet_load_blk (fun _ h => h) (.tmp 44) 29 rfl ?_ ld_u32 ?_ HK.out (W2.out) ?_); exact rfl; exact rfl; simp only [Act.put, List.setIfInBounds_toArray, List.set_cons_succ, List.set_cons_zero]) | go_big_quiet_step (fail))); refine wpQuiet_nil ?_; intro _ hw'; obtain ⟨nq, hw''⟩ := hw'; subst hw'')
            | (go_at_call 40; (with_reducible refine (rotl_any x1 7 (-7) rfl (by omega) (by omega) _).mono ?_); rintro e w' ⟨rfl, rfl⟩)
            | (go_at_call 40; (with_reducible refine (rotl_any x1 18 (-18) rfl (by omega) (by omega) _).mono ?_); rintro e w' ⟨rfl, rfl⟩)
            | (go_at_call 40; (with_reducible refine (rotl_any x2 17 (-17) rfl (by omega) (by omega) _).mono ?_); rintro e w' ⟨rfl, rfl⟩)
            | (go_at_call 40; (with_reducible refine (rotl_any x2 19 (-19) rfl (by omega) (by omega) _).mono ?_); rintro e w' ⟨rfl, rfl⟩))
          (refine wp_region_tail 15 (by kernel_rfl) (by kernel_rfl) ?_; simp only [List.take_succ_cons, List.take_zero, List.drop_succ_cons, List.drop_zero]; (repeat (first | ((with_reducible refine' wpQuiet_at_blk (.tmp 3) (.tmp 64) 54 rfl ?_ Tryd.underlying54 sz_u32 ?_ (t - 16) ?_ ?_ ?_); exact rfl; exact rfl; (show (_ : Int) = _; omega); omega; simp only [Act.put, List.setIfInBounds_toArray, List.set_cons_succ, List.set_cons_zero]) | ((with_reducible refine' wpQuiet_load_blk still_drew (.tmp 65) 29 rfl ?_ ld_u32 ?_ (Blk.drewN HK.out nq) (W3.out) ?_); exact rfl; exact rfl; simp only [Act.put, List.setIfInBounds_toArray, List.set_cons_succ, List.set_cons_zero]) | ((with_reducible refine' wpQuiet_at_blk (.tmp 3) (.tmp 70) 54 rfl ?_ Tryd.underlying54 sz_u32 ?_ (t - 7) ?_ ?_ ?_); exact rfl; exact rfl; (show (_ : Int) = _; omega); omega; simp only [Act.put, List.setIfInBounds_toArray, List.set_cons_succ, List.set_cons_zero]) | ((with_reducible refine' wpQuiet_load_blk still_drew (.tmp 71) 29 rfl ?_ ld_u32 ?_ (Blk.drewN HK.out nq) (W4.out) ?_); exact rfl; exact rfl; simp only [Act.put, List.setIfInBounds_toArray, List.set_cons_succ, List.set_cons_zero]) | ((with_reducible refine' wpQuiet_at_blk (.tmp 3) (.tmp 62) 54 rfl ?_ Tryd.underlying54 sz_u32 ?_ (t) ?_ ?_ ?_); exact rfl; exact rfl; (show (_ : Int) = _; omega); omega; simp only [Act.put, List.setIfInBounds_toArray, List.set_cons_succ, List.set_cons_zero]) | go_big_quiet_step (fail))); refine wpQuiet_nil ?_; show wpList _ _ _ _ _ _)
          (with_reducible refine' wpList_set_blk 29 (.tmp 76) (.tmp 75) rfl ?_ sz_u32 ?_ rfl (Blk.drew (Blk.drewN HK.out nq)) hlen ?_ ?_); exact rfl; exact rfl; exact rfl; intro w4 hk4 hq4 hz4
          simp [Act.eval] at hk4
          go_wp2
          go_meet
          case rel =>
            refine ⟨?_, hq4.blk hkR (by omega), (below_drew (below_drewN hbl nq)).trans (hq4.below (by omega) hbl.size)⟩
            have hn : nextw (sched b t) = x3 + g0 + x4 + g1 := by
              unfold nextw
              rw [HSL.out, X1.out, X2.out, X3.out, X4.out, G0.out, G1.out]
            rw [up4, HSET.out] at hk4
            rw [sched_high b (by omega), hn]
            exact hk4
      case rest =>
        obtain ⟨hk3, hk4, hb3⟩ := hcut
        have HK3 := Lib.hid hk3
        clear hk3
        go_wp2_with fail
        go_roundw
        case rel => exact ⟨t + 1, by omega, by go_num, HK3.out, hk4, hb3⟩
        case measure => simp [intOf]; omega
    · obtain rfl : t = 64 := by omega
      go_wp2_with (first | ((with_reducible refine' wpList_loadall_blk (.tmp 3) 54 rfl ?_ Tryd.underlying54 sz_w64 ?_ hkW ?_ ?_ ?_); exact rfl; exact rfl; exact hwl; omega; simp only [Act.put, List.setIfInBounds_toArray, List.set_cons_succ, List.set_cons_zero]) | ((with_reducible refine' wpList_store_blk (cs := (wcells (sched b 64))) 54 (.tmp 2) (.tmp 78) rfl ?_ ?_ ?_ hkR sz_w64 ?_ ?_ ?_ ?_); exact rfl; exact rfl; exact rfl; exact hwl; simp; exact wcells_one _; intro w3 hk3 hO3 hz3; simp only [Act.put]))
      rw [wcells_full hsl] at hk3
      ((try simp only [Exit.inBlock, Exit.then]); refine bodyPost_ret (results_cell_row rfl _ _ _ _ _ _ _ rfl hk3 Tryd.underlying54 rfl (by rw [sz_w64]; simp [uv_length, hsl])) rfl ?_)
      exact ⟨rfl, hbl.trans (hO3.below (Nat.le_refl _) hbl.size)⟩
end Go.Proofs.YtomjniijnpnehaaDoor.Wi
