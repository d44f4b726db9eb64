/-
  The two encoders of an integer, the program's and the specification's: each returns a slice of its own that holds 'enc n'. Conditions: the integer is one of Go's.
-/
import Derived.Test.YtomjniijnpnehaaDoorProg
import Derived.Test.YtomjniijnpnehaaDoorPure
import Derived.Test.YtomjniijnpnehaaDoorTy
import Derived.Deep.DeepCutAuto
import Derived.Deep.CutBlock
import Derived.Lib.Hide
namespace Go.Proofs.YtomjniijnpnehaaDoor.Wi
open Go Go.RowKit Pu Lb

theorem not_u64 (n : Int) (h0 : -9223372036854775808 ≤ n) (h : n < 0) : bits .xor .u64 IntKind.u64.max (IntKind.u64.wrap n) = (mag n : Int) := by
  have e : IntKind.u64.wrap n = 18446744073709551616 + n := by rw [IntKind.wrap_u64]; omega
  have e2 : IntKind.u64.max = 18446744073709551615 := by decide
  rw [e, e2, u64_xor _ _ (by omega) (by omega) (by omega) (by omega)]
  unfold mag
  rw [if_pos h]
  have e3 : (18446744073709551615 : Int).toNat = 2 ^ 64 - 1 := by decide
  have e4 : (18446744073709551616 + n).toNat < 2 ^ 64 := by omega
  rw [e3, Nat.xor_comm, xor_ones 64 _ e4]
  omega

theorem shr_eq (m j : Nat) : (m : Int) / 2 ^ (8 * j) = ((m / 256 ^ j : Nat) : Int) := by
  rw [← pow8]; norm_cast
theorem nonneg_div (m k : Nat) : 0 ≤ ((m / k : Nat) : Int) := Int.natCast_nonneg _
theorem shr_pos {m j : Nat} (h : (0 : Int) < (m : Int) / 2 ^ (8 * j)) : 0 < m / 256 ^ j := by
  rw [shr_eq] at h; exact Int.natCast_pos.1 h
theorem shr_zero {m j : Nat} (h : (m : Int) / 2 ^ (8 * j) ≤ 0) : m < 256 ^ j := by
  rw [shr_eq] at h
  have : m / 256 ^ j = 0 := Int.ofNat_eq_zero.1 (Int.le_antisymm h (Int.natCast_nonneg _))
  have h2 := Nat.div_eq_zero_iff.1 this
  have h3 : 0 < 256 ^ j := Nat.pow_pos (by omega)
  omega

/-- a byte of a number, turned round -/
theorem cell_eq (z : Int) (neg : Bool) : bits .xor .u8 (z % 256) (fb neg) = ((fl neg (bt z)).toNat : Int) := by
  have h := bt_toNat z
  have hz : 0 ≤ z % 256 ∧ z % 256 < 256 := ⟨Int.emod_nonneg _ (by omega), Int.emod_lt_of_pos _ (by omega)⟩
  have hb := fb_bd neg
  rw [u8_xor _ _ hz.1 hz.2 hb.1 (by omega), ← h]
  unfold fl
  rw [UInt8.toNat_xor]
  cases neg <;> simp [fb]
theorem head_eq (z : Int) (h0 : 0 ≤ z) (h1 : z ≤ 255) (neg : Bool) : bits .xor .u8 z (fb neg) = ((fl neg (bt z)).toNat : Int) := by
  rw [← cell_eq, Int.emod_eq_of_lt h0 (by omega)]

theorem step_eq (m j : Nat) (neg : Bool) (h0 : 0 < j) (h1 : j ≤ nd m) :
    bv ((bt (128 + nd m) :: be (m / 256 ^ j) (nd m - j)).map (fl neg)) ++ [.int .u8 (bits .xor .u8 ((m : Int) / 2 ^ (8 * (j - 1)) % 256) (fb neg))] =
      bv ((bt (128 + nd m) :: be (m / 256 ^ (j - 1)) (nd m - (j - 1))).map (fl neg)) := by
  rw [cell_eq, shr_eq, be_step m (nd m) j h0 h1]
  simp [bv]

set_option maxHeartbeats 800000 in
theorem int_any (n : Int) (w : World) (h0 : -9223372036854775808 ≤ n) (h1 : n ≤ 9223372036854775807) :
    Calls Tryd.prog 38 #[.int .i64 n] w fun e w' => ∃ v, e = .returned v ∧ w'.ownsRow w.heap.size 5 1 v (enc n).length (bv (enc n)) ∧ Below w.heap.size w w' := by
  obtain ⟨m, hm⟩ : ∃ m, m = mag n := ⟨_, rfl⟩
  obtain ⟨neg, hneg⟩ : ∃ neg : Bool, neg = decide (n < 0) := ⟨_, rfl⟩
  have hml : m ≤ 9223372036854775807 := by have := mag_lt h0 h1; omega
  have HM := Lib.hid hm; clear hm
  have HN := Lib.hid hneg; clear hneg
  have hfb := fb_bd neg
  go_enter Tryd.func38, Tryd.ntmps38
  go_wp2
  go_step3
  go_upto_if 11 with fail
  go_cut [3, 4] (fun s3 s4 w' => s3 = .int .u64 m ∧ s4 = .int .u8 (fb neg) ∧ w' = w)
  case first =>
    by_cases hng : n < 0
    · go_wp2
      go_meet
      case rel => exact ⟨by rw [not_u64 n h0 hng, HM.out], by rw [HN.out]; simp [hng, fb], rfl⟩
    · go_wp2
      go_meet
      case rel => exact ⟨by rw [HM.out]; unfold mag; rw [if_neg (by omega), IntWalk.u64_in n (by omega)]; congr 1; omega, by rw [HN.out]; unfold fb; simp; omega, rfl⟩
  case rest =>
    obtain ⟨rfl, rfl, rfl⟩ := hcut
    go_upto_region 4 with fail
    go_wp2
    go_step3
    go_upto_block 0 with fail
    go_cut [5] (fun k w' => k = .int .i64 (nd m) ∧ w' = wc)
    case first =>
      go_wp2_with fail
      go_loop [5] (fun k => ∃ j : Nat, j ≤ 8 ∧ k = .int .i64 j ∧ m < 256 ^ j) (fun k => (intOf k).toNat)
      case atStart => exact ⟨8, by omega, rfl, by omega⟩
      case round =>
        obtain ⟨j, hj, rfl, hmj⟩ := hrel
        have HJ := Lib.hid hmj; clear hmj
        by_cases hp : 0 < j
        · go_wp2_with fail
          · go_meet
            case rel =>
              refine ⟨?_, rfl⟩
              have hd : (0 : Int) < (m : Int) / 2 ^ (8 * (j - 1)) := by assumption
              rw [nd_eq HJ.out (.inr (shr_pos hd))]
          · go_round
            case rel =>
              have hd : (m : Int) / 2 ^ (8 * (j - 1)) ≤ 0 := by assumption
              exact ⟨j - 1, by omega, by congr 1; omega, shr_zero hd⟩
            case measure => simp [intOf]; omega
        · go_wp2_with fail
          go_meet
          case rel =>
            refine ⟨?_, rfl⟩
            rw [nd_eq HJ.out (.inl (by omega))]
    case rest =>
      obtain ⟨rfl, rfl⟩ := hcut
      have hn8 : nd m ≤ 8 := nd_le (by omega)
      go_upto_block 2 with fail
      have hown := own_lit wc 5 [.int .u8 (bits BinOp.xor IntKind.u8 (128 + ↑(nd m)) (fb neg))] (by unfold maxLen; simp)
      rw [head_eq _ (by omega) (by omega)] at hown
      have HO := Lib.hid hown; clear hown
      go_wp2_with fail
      go_loopw [6, 7] (fun v i wr => ∃ j : Nat, j ≤ nd m ∧ i = .int .i64 ((j : Int) - 1) ∧ wr.ownsRow wc.heap.size 5 1 v (nd m - j + 1) (bv ((bt (128 + nd m) :: be (m / 256 ^ j) (nd m - j)).map (fl neg))) ∧ Below wc.heap.size wc wr)
        (fun _ i _ => (intOf i + 1).toNat)
      case atStart =>
        refine ⟨nd m, Nat.le_refl _, rfl, ?_, (Below.refl _ _).alloc (Nat.le_refl _) _⟩
        rw [head_eq _ (by omega) (by omega), Nat.sub_self]
        exact HO.out
      case round =>
        obtain ⟨j, hj, rfl, hown, hbl⟩ := hrel
        have HO := Lib.hid hown; clear hown
        by_cases hp : 0 < j
        · go_wp2_with (((with_reducible refine' wpList_append_one (.tmp 36) (.tmp 44) 22 rfl ?_ Tryd.underlying22 inf_u8 ?_ ?_ HO.out ?_ ?_ ?_ ?_ hbl.size ?_); exact rfl; exact rfl; exact rfl; exact rfl; exact rfl; (first | omega | (unfold maxLen; omega)); omega; intro v' w' ho hb'; simp only [Act.put, List.setIfInBounds_toArray, List.set_cons_succ, List.set_cons_zero]))
          · have he := step_eq m j neg hp hj
            rw [he] at ho
            have HO' := Lib.hid ho; clear ho he HO
            go_wp2_with fail
            go_roundw
            case rel => exact ⟨j - 1, by omega, by congr 1; omega, by rw [show nd m - (j - 1) + 1 = nd m - j + 1 + 1 by omega]; exact HO'.out, hbl.trans hb'⟩
            case measure => simp [intOf]; omega
        · go_wp2_with fail
          rw [Exit.noGoto_ret]
          go_ret
          obtain rfl : j = 0 := by omega
          have ho := HO.out
          simp only [Nat.pow_zero, Nat.div_one, Nat.sub_zero] at ho
          refine ⟨_, rfl, ?_, hbl⟩
          rw [enc_length, enc, ← HM.out, ← HN.out]
          exact ho

/-! ### the specification's encoder -/
theorem step_eq' (m j : Nat) (neg : Bool) (h0 : 0 < j) (h1 : j ≤ nd m) :
    bv ((bt (128 + nd m) :: be (m / 256 ^ j) (nd m - j)).map (fl neg)) ++ [.int .u8 ((fl neg (bt ((m / 256 ^ (j - 1) : Nat) : Int))).toNat : Int)] =
      bv ((bt (128 + nd m) :: be (m / 256 ^ (j - 1)) (nd m - (j - 1))).map (fl neg)) := by
  rw [be_step m (nd m) j h0 h1]
  simp [bv]
theorem neg_head (z : Int) (h0 : 0 ≤ z) (h1 : z ≤ 255) : ([] : List Value) ++ [.int .u8 (255 - z)] = bv [fl true (bt z)] := by
  have := fl_true (bt z)
  have h2 := bt_toNat z
  rw [Int.emod_eq_of_lt h0 (by omega)] at h2
  simp only [bv, List.map_cons, List.map_nil, List.nil_append, this, h2]
theorem pos_head (z : Int) (h0 : 0 ≤ z) (h1 : z ≤ 255) : ([] : List Value) ++ [.int .u8 z] = bv [fl false (bt z)] := by
  have h2 := bt_toNat z
  rw [Int.emod_eq_of_lt h0 (by omega)] at h2
  simp only [bv, List.map_cons, List.map_nil, List.nil_append, fl_false, h2]
theorem nd_gt {m j : Nat} (h : 0 < m / 256 ^ j) : j < nd m := by
  by_cases hj : nd m ≤ j
  · exfalso
    have h3 := lt_pow_nd m
    have h4 : 256 ^ nd m ≤ 256 ^ j := Nat.pow_le_pow_right (by omega) hj
    have h5 : m / 256 ^ j = 0 := Nat.div_eq_of_lt (by omega)
    omega
  · omega
theorem bt_mod (z : Int) : z % 256 = ((bt z).toNat : Int) := (bt_toNat z).symm
theorem fl_cell (b : UInt8) (neg : Bool) : (fl neg b).toNat = if neg then 255 - b.toNat else b.toNat := by
  cases neg
  · simp [fl]
  · have := fl_true b; have := u8_lt b; simp only [if_true]; omega

set_option maxHeartbeats 800000 in
theorem refint_any (n : Int) (w : World) (h0 : -9223372036854775808 ≤ n) (h1 : n ≤ 9223372036854775807) :
    Calls Tryd.prog 39 #[.int .i64 n] w fun e w' => ∃ v, e = .returned v ∧ w'.ownsRow w.heap.size 5 1 v (enc n).length (bv (enc n)) ∧ Below w.heap.size w w' := by
  obtain ⟨m, hm⟩ : ∃ m, m = mag n := ⟨_, rfl⟩
  have hml : m ≤ 9223372036854775807 := by have := mag_lt h0 h1; omega
  have HM := Lib.hid hm; clear hm
  go_enter Tryd.func39, Tryd.ntmps39
  go_upto_if 11 with fail
  go_cut [3] (fun s3 w' => s3 = .int .i64 m ∧ w = w')
  case first =>
    by_cases hng : n < 0
    · go_wp2
      go_meet
      case rel => exact ⟨by rw [HM.out]; unfold mag; rw [if_pos hng]; congr 1; omega, rfl⟩
    · go_wp2
      go_meet
      case rel => exact ⟨by rw [HM.out]; unfold mag; rw [if_neg (by omega)]; congr 1; omega, rfl⟩
  case rest =>
    obtain ⟨rfl, rfl⟩ := hcut
    go_upto_block 0 with fail
    go_cut [4] (fun v w' => w'.ownsRow w.heap.size 5 1 v (nd m) (bv (le m (nd m))) ∧ Below w.heap.size w w')
    case first =>
      go_wp2_with fail
      go_loopw [3, 4] (fun x v wr => ∃ j : Nat, j ≤ nd m ∧ x = .int .i64 ((m / 256 ^ j : Nat) : Int) ∧ wr.ownsRow w.heap.size 5 1 v j (bv (le m j)) ∧ Below w.heap.size w wr) (fun x _ _ => (intOf x).toNat)
      case atStart => exact ⟨0, Nat.zero_le _, by simp, World.ownsRow_nil _ _ _ _, Below.refl _ _⟩
      case round =>
        obtain ⟨j, hj, rfl, hown, hbl⟩ := hrel
        have HO := Lib.hid hown; clear hown
        have hle : m / 256 ^ j ≤ m := Nat.div_le_self _ _
        obtain ⟨q, hq⟩ : ∃ q, q = m / 256 ^ j := ⟨_, rfl⟩
        rw [← hq] at hle ⊢
        have HQ := Lib.hid hq; clear hq
        have hn8 : nd m ≤ 8 := nd_le (by omega)
        by_cases hp : 0 < q
        · go_wp2_with (((with_reducible refine' wpList_append_one (.tmp 16) (.tmp 20) 22 rfl ?_ Tryd.underlying22 inf_u8 ?_ ?_ HO.out ?_ ?_ ?_ ?_ hbl.size ?_); exact rfl; exact rfl; exact rfl; exact rfl; exact rfl; (first | omega | (unfold maxLen; omega)); omega; intro v' w' ho hb'; simp only [Act.put, List.setIfInBounds_toArray, List.set_cons_succ, List.set_cons_zero]))
          have hjn : j < nd m := nd_gt (by rw [← HQ.out]; exact hp)
          have he : bv (le m j) ++ [.int .u8 ((q : Int) % 256)] = bv (le m (j + 1)) := by rw [le_snoc, ← HQ.out, bv_append, bt_mod]; rfl
          rw [he] at ho
          have HO' := Lib.hid ho; clear ho he HO
          go_roundw
          case rel => exact ⟨j + 1, by omega, by rw [Nat.pow_succ, ← Nat.div_div_eq_div_mul, ← HQ.out]; rfl, HO'.out, hbl.trans hb'⟩
          case measure => simp [intOf]; omega
        · go_wp2_with fail
          go_meet
          have hjn : nd m ≤ j := nd_le (by
            have h0 : m / 256 ^ j = 0 := by rw [← HQ.out]; omega
            have h2 := Nat.div_eq_zero_iff.1 h0
            have h3 : 0 < 256 ^ j := Nat.pow_pos (by omega)
            omega)
          obtain rfl : j = nd m := by omega
          case rel => exact ⟨HO.out, hbl⟩
    case rest =>
      obtain ⟨hown, hbl⟩ := hcut
      have HO := Lib.hid hown; clear hown
      have hn8 : nd m ≤ 8 := nd_le (by omega)
      have hrd := Rd.of_own HO.out
      obtain ⟨w1, rfl⟩ : ∃ x : World, x = wc := ⟨_, rfl⟩
      go_upto_if 27 with ((with_reducible refine' wpList_len_rd (.tmp 24) 22 rfl ?_ Tryd.underlying22 ?_ hrd ?_); exact rfl; exact rfl; simp only [Act.put, List.setIfInBounds_toArray, List.set_cons_succ, List.set_cons_zero])
      go_cut [6] (fun v w' => w'.ownsRow w1.heap.size 5 1 v 1 (bv [fl (decide (n < 0)) (bt (128 + nd m))]) ∧ Below w1.heap.size w1 w')
      case first =>
        have hz := World.ownsRow_nil w1 w1.heap.size 5 1
        by_cases hng : n < 0
        · go_wp2_with (first | ((with_reducible refine' wpList_append_one (.tmp 28) (.tmp 32) 22 rfl ?_ Tryd.underlying22 inf_u8 ?_ ?_ hz ?_ ?_ ?_ ?_ (Nat.le_refl _) ?_); exact rfl; exact rfl; exact rfl; exact rfl; exact rfl; (first | omega | (unfold maxLen; omega)); omega; intro v' w' ho hb'; simp only [Act.put, List.setIfInBounds_toArray, List.set_cons_succ, List.set_cons_zero]) | ((with_reducible refine' wpList_append_one (.tmp 34) (.tmp 38) 22 rfl ?_ Tryd.underlying22 inf_u8 ?_ ?_ hz ?_ ?_ ?_ ?_ (Nat.le_refl _) ?_); exact rfl; exact rfl; exact rfl; exact rfl; exact rfl; (first | omega | (unfold maxLen; omega)); omega; intro v' w' ho hb'; simp only [Act.put, List.setIfInBounds_toArray, List.set_cons_succ, List.set_cons_zero]))
          go_meet
          case rel =>
            rw [show (127 : Int) - nd m = 255 - (128 + nd m) by omega, neg_head _ (by omega) (by omega)] at ho
            rw [decide_eq_true (by omega)]
            exact ⟨ho, hb'⟩
        · go_wp2_with (first | ((with_reducible refine' wpList_append_one (.tmp 28) (.tmp 32) 22 rfl ?_ Tryd.underlying22 inf_u8 ?_ ?_ hz ?_ ?_ ?_ ?_ (Nat.le_refl _) ?_); exact rfl; exact rfl; exact rfl; exact rfl; exact rfl; (first | omega | (unfold maxLen; omega)); omega; intro v' w' ho hb'; simp only [Act.put, List.setIfInBounds_toArray, List.set_cons_succ, List.set_cons_zero]) | ((with_reducible refine' wpList_append_one (.tmp 34) (.tmp 38) 22 rfl ?_ Tryd.underlying22 inf_u8 ?_ ?_ hz ?_ ?_ ?_ ?_ (Nat.le_refl _) ?_); exact rfl; exact rfl; exact rfl; exact rfl; exact rfl; (first | omega | (unfold maxLen; omega)); omega; intro v' w' ho hb'; simp only [Act.put, List.setIfInBounds_toArray, List.set_cons_succ, List.set_cons_zero]))
          go_meet
          case rel =>
            rw [pos_head _ (by omega) (by omega)] at ho
            rw [decide_eq_false (by omega)]
            exact ⟨ho, hb'⟩
      case rest =>
        obtain ⟨ho, hb'⟩ := hcut
        have HO2 := Lib.hid ho; clear ho
        go_wp2_with fail
        go_loopw [6, 7] (fun v i wr => ∃ j : Nat, j ≤ nd m ∧ i = .int .i64 ((j : Int) - 1) ∧ wr.ownsRow w1.heap.size 5 1 v (nd m - j + 1) (bv ((bt (128 + nd m) :: be (m / 256 ^ j) (nd m - j)).map (fl (decide (n < 0))))) ∧ Below w1.heap.size w1 wr)
          (fun _ i _ => (intOf i + 1).toNat)
        case atStart => exact ⟨nd m, Nat.le_refl _, rfl, by rw [Nat.sub_self]; exact HO2.out, hb'⟩
        case round =>
          obtain ⟨j, hj, rfl, hown, hbl2⟩ := hrel
          have HO3 := Lib.hid hown; clear hown
          by_cases hp : 0 < j
          · have hg := hrd.below hbl2
            have c1 := bv_at (le_get m (k := nd m) (j := j - 1) (by omega))
            obtain ⟨b, hb⟩ : ∃ b, b = bt ((m / 256 ^ (j - 1) : Nat) : Int) := ⟨_, rfl⟩
            rw [← hb] at c1
            have C1 := Lib.hid c1; clear c1
            have HB := Lib.hid hb; clear hb
            have hb256 := u8_lt b
            by_cases hng : n < 0
            · go_wp2_with (first | ((with_reducible refine' wpList_at1_rd (.tmp 46) (.tmp 47) 22 rfl ?_ Tryd.underlying22 sz_u8 ?_ hg (j - 1) ?_ ?_ ?_); exact rfl; exact rfl; (show (_ : Int) = _; omega); omega; simp only [Act.put, List.setIfInBounds_toArray, List.set_cons_succ, List.set_cons_zero]) | ((with_reducible refine' wpList_load_rd (.tmp 48) 5 rfl ?_ ld_u8 ?_ hg (C1.out) ?_); exact rfl; exact rfl; simp only [Act.put, List.setIfInBounds_toArray, List.set_cons_succ, List.set_cons_zero]) | ((with_reducible refine' wpList_append_one (.tmp 54) (.tmp 56) 22 rfl ?_ Tryd.underlying22 inf_u8 ?_ ?_ HO3.out ?_ ?_ ?_ ?_ hbl2.size ?_); exact rfl; exact rfl; exact rfl; exact rfl; exact rfl; (first | omega | (unfold maxLen; omega)); omega; intro v' w' ho hb'; simp only [Act.put, List.setIfInBounds_toArray, List.set_cons_succ, List.set_cons_zero]))
              rw [← fl_true, HB.out] at ho
              have hd : decide (n < 0) = true := decide_eq_true hng
              rw [← hd, step_eq' m j _ hp hj] at ho
              have HO' := Lib.hid ho; clear ho
              go_roundw
              case rel => exact ⟨j - 1, by omega, by congr 1; omega, by rw [show nd m - (j - 1) + 1 = nd m - j + 1 + 1 by omega]; exact HO'.out, hbl2.trans hb'⟩
              case measure => simp [intOf]; omega
            · go_wp2_with (first | ((with_reducible refine' wpList_at1_rd (.tmp 46) (.tmp 47) 22 rfl ?_ Tryd.underlying22 sz_u8 ?_ hg (j - 1) ?_ ?_ ?_); exact rfl; exact rfl; (show (_ : Int) = _; omega); omega; simp only [Act.put, List.setIfInBounds_toArray, List.set_cons_succ, List.set_cons_zero]) | ((with_reducible refine' wpList_load_rd (.tmp 48) 5 rfl ?_ ld_u8 ?_ hg (C1.out) ?_); exact rfl; exact rfl; simp only [Act.put, List.setIfInBounds_toArray, List.set_cons_succ, List.set_cons_zero]) | ((with_reducible refine' wpList_append_one (.tmp 54) (.tmp 56) 22 rfl ?_ Tryd.underlying22 inf_u8 ?_ ?_ HO3.out ?_ ?_ ?_ ?_ hbl2.size ?_); exact rfl; exact rfl; exact rfl; exact rfl; exact rfl; (first | omega | (unfold maxLen; omega)); omega; intro v' w' ho hb'; simp only [Act.put, List.setIfInBounds_toArray, List.set_cons_succ, List.set_cons_zero]))
              rw [← fl_false b, HB.out] at ho
              have hd : decide (n < 0) = false := decide_eq_false (by omega)
              rw [← hd, step_eq' m j _ hp hj] at ho
              have HO' := Lib.hid ho; clear ho
              go_roundw
              case rel => exact ⟨j - 1, by omega, by congr 1; omega, by rw [show nd m - (j - 1) + 1 = nd m - j + 1 + 1 by omega]; exact HO'.out, hbl2.trans hb'⟩
              case measure => simp [intOf]; omega
          · go_wp2_with fail
            go_ret
            obtain rfl : j = 0 := by omega
            have ho := HO3.out
            simp only [Nat.pow_zero, Nat.div_one, Nat.sub_zero] at ho
            refine ⟨_, rfl, ?_, hbl.trans (hbl2.mono hbl.size)⟩
            rw [enc_length, enc, ← HM.out]
            exact own_mono ho hbl.size
end Go.Proofs.YtomjniijnpnehaaDoor.Wi
