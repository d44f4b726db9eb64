/-
  The two decoders of an integer, the program's and the specification's: each returns what 'getInt' says, and writes nothing. Conditions: the argument reads as bytes.
-/
import Derived.Test.YtomjniijnpnehaaInt
import Derived.Test.YtomjniijnpnehaaSame
import Derived.Test.YtomjniijnpnehaaDec
import Derived.Deep.RegionWith
namespace Go.Proofs.Ytomjniijnpnehaa.Wi
open Go Go.RowKit Pu Lb

/-- three numbers as a result -/
def R3 (x : Int × Nat × Nat) : Value := .tuple #[.int .i64 x.1, .int .i64 (x.2.1 : Int), .int .i64 (x.2.2 : Int)]

theorem xor_cell (c : UInt8) (neg : Bool) : bits .xor .u8 (c.toNat : Int) (fb neg) = ((fl neg c).toNat : Int) := by
  have hc := u8_lt c
  have hb := fb_bd neg
  rw [u8_xor _ _ (by omega) (by omega) hb.1 (by omega)]
  unfold fl
  rw [UInt8.toNat_xor]
  cases neg <;> simp [fb]

theorem not_back (m : Nat) (h : m < 9223372036854775808) : wrap64 (bits .xor .u64 IntKind.u64.max (m : Int)) = -1 - (m : Int) := by
  have e2 : IntKind.u64.max = 18446744073709551615 := by decide
  rw [e2, u64_xor _ _ (by omega) (by omega) (by omega) (by omega)]
  have e3 : (18446744073709551615 : Int).toNat = 2 ^ 64 - 1 := by decide
  rw [e3, Int.toNat_natCast, Nat.xor_comm, xor_ones 64 _ (by omega)]
  unfold wrap64
  omega
theorem fin_yes {neg : Bool} {ds : List UInt8} {k m : Nat} {x : Int} (hz : ¬(0 < k ∧ ds.head? = some 0)) (hl : ds.length = k) (hm : m = val ds) (h : m < 9223372036854775808) (hx : x = if neg then -1 - (m : Int) else m) :
    Ending.returned (R3 (fin neg ds)) = .returned (.tuple #[.int .i64 x, .int .i64 ((k : Int) + 1), .int .i64 0]) := by
  have hd : ds.head? ≠ some 0 := by
    intro h0
    apply hz
    refine ⟨?_, h0⟩
    cases ds with
    | nil => simp at h0
    | cons a l => rw [← hl]; simp
  rw [fin, if_neg (by rintro (h1 | h1); · exact hd h1
                      · omega), hl, ← hm, ← hx]
  rfl
theorem or_cell (m d : Nat) (hm : m < 72057594037927936) (hd : d < 256) : bits .or .u64 ((m : Int) * 256) (d : Int) = ((256 * m + d : Nat) : Int) := by
  have e : (m : Int) * 256 = ((m * 256 : Nat) : Int) := by omega
  rw [e, u64_or_nat _ _ (by omega) (by omega), nat_join 8 _ _ (by omega) (by omega), Nat.mul_comm]

set_option maxRecDepth 100000 in
set_option maxHeartbeats 1600000 in
theorem getint_any (v : Value) (n : Nat) (b : List UInt8) (w : World) (hv : Rd w 1 v n (bv b)) :
    Calls Try.prog 24 #[v] w fun e w' => e = .returned (R3 (getInt b)) ∧ w = w' := by
  have hn := hv.len
  unfold maxLen at hn
  have hl : b.length = n := by have := hv.1; rw [bv_length] at this; omega
  cases b with
  | nil =>
    obtain rfl : n = 0 := by simpa using hl.symm
    clear hl
    go_enter Try.func24, Try.ntmps24
    go_wp2_with ((with_reducible refine' wpList_len_rd (.tmp 10) 28 rfl ?_ Try.underlying28 ?_ hv ?_); exact rfl; exact rfl; simp only [Act.put, List.setIfInBounds_toArray, List.set_cons_succ, List.set_cons_zero])
    go_ret3
    exact ⟨rfl, rfl⟩
  | cons c r =>
    have c0 := Lib.hid (bv_at (l := c :: r) (k := 0) (x := c) rfl)
    have hn1 : 0 < n := by rw [← hl]; simp
    have hc := u8_lt c
    obtain ⟨neg, hneg⟩ : ∃ neg : Bool, neg = decide (c.toNat < 128) := ⟨_, rfl⟩
    have hq := fl_head c
    rw [← hneg] at hq
    have hx := xor_cell c neg
    have HL := Lib.hid hl; clear hl
    obtain ⟨k, hqe⟩ : ∃ k, (fl neg c).toNat = 128 + k := ⟨_, (Nat.add_sub_cancel' hq).symm⟩
    rw [hqe] at hx
    rw [Int.natCast_add, Int.cast_ofNat_Int] at hx
    have hk6 : (128 : Int) + k - 128 = k := by omega
    have hq2 : k < 128 := by have := u8_lt (fl neg c); omega
    have hfb := fb_bd neg
    have hd : decide ((c.toNat : Int) < 128) = neg := by rw [hneg, Bool.eq_iff_iff, decide_eq_true_iff, decide_eq_true_iff]; omega
    have HN := Lib.hid hneg; clear hneg
    have HQ := Lib.hid hqe; clear hqe hq
    go_enter Try.func24, Try.ntmps24
    go_upto_if 16 with (first | ((with_reducible refine' wpList_len_rd (.tmp 10) 28 rfl ?_ Try.underlying28 ?_ hv ?_); exact rfl; exact rfl; simp only [Act.put, List.setIfInBounds_toArray, List.set_cons_succ, List.set_cons_zero]) | ((with_reducible refine' wpList_at1_rd (.tmp 13) (.const (.int .i64 0)) 28 rfl ?_ Try.underlying28 sz_u8 ?_ hv (0) ?_ ?_ ?_); exact rfl; exact rfl; (show (_ : Int) = _; omega); omega; simp only [Act.put, List.setIfInBounds_toArray, List.set_cons_succ, List.set_cons_zero]) | ((with_reducible refine' wpList_load_rd (.tmp 14) 5 rfl ?_ ld_u8 ?_ hv (c0.out) ?_); exact rfl; exact rfl; simp only [Act.put, List.setIfInBounds_toArray, List.set_cons_succ, List.set_cons_zero]))
    go_cut [5] (fun s5 w' => s5 = .int .u8 (fb neg) ∧ w = w')
    case first =>
      go_wp2
      all_goals
        go_meet
        case rel => exact ⟨by first | rw [‹neg = true›]; rfl | rw [‹neg = false›]; rfl, rfl⟩
    case rest =>
      obtain ⟨rfl, rfl⟩ := hcut
      by_cases hk8 : 8 < k
      · go_wp2_with (first | ((with_reducible refine' wpList_len_rd (.tmp 28) 28 rfl ?_ Try.underlying28 ?_ hv ?_); exact rfl; exact rfl; simp only [Act.put, List.setIfInBounds_toArray, List.set_cons_succ, List.set_cons_zero]) | ((with_reducible refine' wpList_at1_rd (.tmp 17) (.const (.int .i64 0)) 28 rfl ?_ Try.underlying28 sz_u8 ?_ hv (0) ?_ ?_ ?_); exact rfl; exact rfl; (show (_ : Int) = _; omega); omega; simp only [Act.put, List.setIfInBounds_toArray, List.set_cons_succ, List.set_cons_zero]) | ((with_reducible refine' wpList_load_rd (.tmp 18) 5 rfl ?_ ld_u8 ?_ hv (c0.out) ?_); exact rfl; exact rfl; simp only [Act.put, List.setIfInBounds_toArray, List.set_cons_succ, List.set_cons_zero]))
        go_ret3
        refine ⟨?_, rfl⟩
        rw [getInt, ← HN.out, HQ.out, if_pos (by omega)]
        rfl
      · by_cases hlk : n ≤ k
        · go_wp2_with (first | ((with_reducible refine' wpList_len_rd (.tmp 28) 28 rfl ?_ Try.underlying28 ?_ hv ?_); exact rfl; exact rfl; simp only [Act.put, List.setIfInBounds_toArray, List.set_cons_succ, List.set_cons_zero]) | ((with_reducible refine' wpList_at1_rd (.tmp 17) (.const (.int .i64 0)) 28 rfl ?_ Try.underlying28 sz_u8 ?_ hv (0) ?_ ?_ ?_); exact rfl; exact rfl; (show (_ : Int) = _; omega); omega; simp only [Act.put, List.setIfInBounds_toArray, List.set_cons_succ, List.set_cons_zero]) | ((with_reducible refine' wpList_load_rd (.tmp 18) 5 rfl ?_ ld_u8 ?_ hv (c0.out) ?_); exact rfl; exact rfl; simp only [Act.put, List.setIfInBounds_toArray, List.set_cons_succ, List.set_cons_zero]))
          go_ret3
          refine ⟨?_, rfl⟩
          have := HL.out
          rw [List.length_cons] at this
          rw [getInt, ← HN.out, HQ.out, if_neg (by omega), if_pos (by omega)]
          rfl
        · have hgt : getInt (c :: r) = fin neg ((r.take k).map (fl neg)) := by
            have := HL.out
            rw [List.length_cons] at this
            rw [getInt, ← HN.out, HQ.out, if_neg (by omega), if_neg (by omega), show 128 + k - 128 = k by omega]
          have hlr : k ≤ r.length := by have := HL.out; rw [List.length_cons] at this; omega
          have HG := Lib.hid hgt; clear hgt
          obtain ⟨ds, hds⟩ : ∃ ds, ds = (r.take k).map (fl neg) := ⟨_, rfl⟩
          have hdl : ds.length = k := by rw [hds, List.length_map, List.length_take]; omega
          have HD := Lib.hid hds; clear hds
          have HDL := Lib.hid hdl; clear hdl
          by_cases hz : 0 < k ∧ ds.head? = some 0
          · obtain ⟨hk0, hz⟩ := hz
            obtain ⟨d, r', rfl⟩ : ∃ d r', r = d :: r' := by cases r with | nil => (simp at hlr; omega) | cons d r' => exact ⟨d, r', rfl⟩
            have c1 := Lib.hid (bv_at (l := c :: d :: r') (k := 1) (x := d) rfl)
            have hx2 := xor_cell d neg
            have hd0 : (fl neg d).toNat = 0 := by
              rw [HD.out, List.head?_map] at hz
              cases k with
              | zero => omega
              | succ k => simp at hz; rw [hz]; rfl
            rw [hd0] at hx2
            have HZ := Lib.hid hz; clear hz
            have HD0 := Lib.hid hd0; clear hd0
            go_wp2_with (first | ((with_reducible refine' wpList_len_rd (.tmp 28) 28 rfl ?_ Try.underlying28 ?_ hv ?_); exact rfl; exact rfl; simp only [Act.put, List.setIfInBounds_toArray, List.set_cons_succ, List.set_cons_zero]) | ((with_reducible refine' wpList_at1_rd (.tmp 17) (.const (.int .i64 0)) 28 rfl ?_ Try.underlying28 sz_u8 ?_ hv (0) ?_ ?_ ?_); exact rfl; exact rfl; (show (_ : Int) = _; omega); omega; simp only [Act.put, List.setIfInBounds_toArray, List.set_cons_succ, List.set_cons_zero]) | ((with_reducible refine' wpList_load_rd (.tmp 18) 5 rfl ?_ ld_u8 ?_ hv (c0.out) ?_); exact rfl; exact rfl; simp only [Act.put, List.setIfInBounds_toArray, List.set_cons_succ, List.set_cons_zero]) | ((with_reducible refine' wpList_at1_rd (.tmp 36) (.const (.int .i64 1)) 28 rfl ?_ Try.underlying28 sz_u8 ?_ hv (1) ?_ ?_ ?_); exact rfl; exact rfl; (show (_ : Int) = _; omega); omega; simp only [Act.put, List.setIfInBounds_toArray, List.set_cons_succ, List.set_cons_zero]) | ((with_reducible refine' wpList_load_rd (.tmp 37) 5 rfl ?_ ld_u8 ?_ hv (c1.out) ?_); exact rfl; exact rfl; simp only [Act.put, List.setIfInBounds_toArray, List.set_cons_succ, List.set_cons_zero]))
            go_ret3
            refine ⟨?_, rfl⟩
            rw [HG.out, fin, if_pos (.inl (by rw [← HD.out]; exact HZ.out))]
            rfl
          · go_upto_region 11 with (first | ((with_reducible refine' wpList_len_rd (.tmp 28) 28 rfl ?_ Try.underlying28 ?_ hv ?_); exact rfl; exact rfl; simp only [Act.put, List.setIfInBounds_toArray, List.set_cons_succ, List.set_cons_zero]) | ((with_reducible refine' wpList_at1_rd (.tmp 17) (.const (.int .i64 0)) 28 rfl ?_ Try.underlying28 sz_u8 ?_ hv (0) ?_ ?_ ?_); exact rfl; exact rfl; (show (_ : Int) = _; omega); omega; simp only [Act.put, List.setIfInBounds_toArray, List.set_cons_succ, List.set_cons_zero]) | ((with_reducible refine' wpList_load_rd (.tmp 18) 5 rfl ?_ ld_u8 ?_ hv (c0.out) ?_); exact rfl; exact rfl; simp only [Act.put, List.setIfInBounds_toArray, List.set_cons_succ, List.set_cons_zero]))
            go_cut [32] (fun s32 w' => s32 = .bool false ∧ w = w')
            case first =>
              by_cases hk0 : 0 < k
              · obtain ⟨d, r', rfl⟩ : ∃ d r', r = d :: r' := by cases r with | nil => (simp at hlr; omega) | cons d r' => exact ⟨d, r', rfl⟩
                have c1 := Lib.hid (bv_at (l := c :: d :: r') (k := 1) (x := d) rfl)
                have hx2 := xor_cell d neg
                have hne : (((fl neg d).toNat : Int) == 0) = false := by
                  rw [beq_eq_false_iff_ne]
                  intro h0
                  apply hz
                  refine ⟨hk0, ?_⟩
                  rw [HD.out, List.head?_map]
                  cases k with
                  | zero => omega
                  | succ k => simp; exact UInt8.toNat_inj.1 (by rw [show (0 : UInt8).toNat = 0 from rfl]; omega)
                have HZ := Lib.hid hz; clear hz
                go_wp2_with (first | ((with_reducible refine' wpList_at1_rd (.tmp 36) (.const (.int .i64 1)) 28 rfl ?_ Try.underlying28 sz_u8 ?_ hv (1) ?_ ?_ ?_); exact rfl; exact rfl; (show (_ : Int) = _; omega); omega; simp only [Act.put, List.setIfInBounds_toArray, List.set_cons_succ, List.set_cons_zero]) | ((with_reducible refine' wpList_load_rd (.tmp 37) 5 rfl ?_ ld_u8 ?_ hv (c1.out) ?_); exact rfl; exact rfl; simp only [Act.put, List.setIfInBounds_toArray, List.set_cons_succ, List.set_cons_zero]))
                go_meet
                case rel => exact ⟨rfl, rfl⟩
              · go_wp2
                go_meet
                case rel => exact ⟨rfl, rfl⟩
            case rest =>
              obtain ⟨rfl, rfl⟩ := hcut
              have HZ := Lib.hid hz; clear hz
              go_wp2_with (first | ((with_reducible refine' wpList_cut_b (.tmp 43) (.const (.int .i64 1)) (.tmp 45) 28 rfl ?_ Try.underlying28 sz_u8 ?_ hv (1) (k + 1) ?_ ?_ ?_ ?_ ?_); exact rfl; exact rfl; (show (_ : Int) = _; omega); (show (_ : Int) = _; omega); omega; omega; intro v1 hv1; simp only [Act.put, List.setIfInBounds_toArray, List.set_cons_succ, List.set_cons_zero]) | ((with_reducible refine' wpList_len_rd (.tmp 46) 28 rfl ?_ Try.underlying28 ?_ hv1 ?_); exact rfl; exact rfl; simp only [Act.put, List.setIfInBounds_toArray, List.set_cons_succ, List.set_cons_zero]))
              go_loop [7, 48] (fun m i => ∃ j : Nat, j ≤ k ∧ i = .int .i64 j ∧ m = .int .u64 (val (ds.take j))) (fun _ i => k - (intOf i).toNat)
              case atStart => exact ⟨0, Nat.zero_le _, rfl, rfl⟩
              case round =>
                obtain ⟨j, hj, rfl, rfl⟩ := hrel
                have hb1 := val_lt (ds.take j)
                rw [List.length_take, HDL.out, Nat.min_eq_left hj] at hb1
                obtain ⟨m, hm⟩ : ∃ m, m = val (ds.take j) := ⟨_, rfl⟩
                rw [← hm] at hb1 ⊢
                have HM := Lib.hid hm; clear hm
                by_cases hjk : j < k
                · obtain ⟨x, hx⟩ : ∃ x, (r.take k)[j]? = some x := get_lt (by rw [List.length_take]; omega)
                  have c2 : (bv (((c :: r).drop 1).take (k + 1 - 1)))[j]? = some (.int .u8 (x.toNat : Int)) := bv_at (by simpa using hx)
                  have C2 := Lib.hid c2
                  have hx3 := xor_cell x neg
                  have hx4 := u8_lt (fl neg x)
                  have hd : ds[j]? = some (fl neg x) := by rw [HD.out, List.getElem?_map, hx]; rfl
                  have hv2 : val (ds.take (j + 1)) = 256 * m + (fl neg x).toNat := by rw [List.take_add_one, hd, HM.out]; exact val_snoc _ _
                  have hm7 : m < 72057594037927936 := by
                    have : 256 ^ j ≤ 256 ^ 7 := Nat.pow_le_pow_right (by omega) (by omega)
                    omega
                  have HV := Lib.hid hv2
                  clear hx hd hv2 c2 hb1
                  go_wp2_with (first | ((with_reducible refine' wpList_at1_rd (.tmp 46) (.tmp 48) 28 rfl ?_ Try.underlying28 sz_u8 ?_ hv1 (j) ?_ ?_ ?_); exact rfl; exact rfl; (show (_ : Int) = _; omega); omega; simp only [Act.put, List.setIfInBounds_toArray, List.set_cons_succ, List.set_cons_zero]) | ((with_reducible refine' wpList_load_rd (.tmp 50) 5 rfl ?_ ld_u8 ?_ hv1 (C2.out) ?_); exact rfl; exact rfl; simp only [Act.put, List.setIfInBounds_toArray, List.set_cons_succ, List.set_cons_zero]))
                  rw [or_cell m _ (by omega) hx4]
                  go_round
                  case rel => exact ⟨j + 1, by omega, by go_num, by rw [HV.out]⟩
                  case measure => simp [intOf]; omega
                · go_upto_if 62 with fail
                  have hmv : m = val ds := by rw [HM.out, List.take_of_length_le (by rw [HDL.out]; omega)]
                  have HMV := Lib.hid hmv; clear hmv
                  go_wp2_with fail
                  · have h1 : 0 < (m : Int) / 9223372036854775808 := by assumption
                    go_ret3
                    refine ⟨?_, rfl⟩
                    rw [HG.out, ← HD.out, fin, if_pos (.inr (by rw [← HMV.out]; omega))]
                    rfl
                  · have h1 : (m : Int) / 9223372036854775808 ≤ 0 := by assumption
                    have h2 : 0 < fb neg := by assumption
                    have h3 : neg = true := by cases neg; · simp [fb] at h2
                                               · rfl
                    go_ret3
                    refine ⟨?_, rfl⟩
                    rw [HG.out, ← HD.out]
                    exact (fin_yes HZ.out HDL.out HMV.out (by omega) (by rw [h3, not_back m (by omega)]; rfl)).symm
                  · have h1 : (m : Int) / 9223372036854775808 ≤ 0 := by assumption
                    have h2 : fb neg ≤ 0 := by assumption
                    have h3 : neg = false := by cases neg; · rfl
                                                · simp [fb] at h2
                    go_ret3
                    refine ⟨?_, rfl⟩
                    rw [HG.out, ← HD.out]
                    exact (fin_yes HZ.out HDL.out HMV.out (by omega) (by rw [h3]; rfl)).symm

/-! ### the specification's decoder -/
theorem canon {b : List UInt8} {neg : Bool} {c : UInt8} {r ds : List UInt8} {k m : Nat} {n : Int} (hb : b = c :: r) (hq : (fl neg c).toNat = 128 + k) (hk : k ≤ r.length) (hds : ds = (r.take k).map (fl neg)) (hm : m = val ds)
    (hv : n = if neg then -1 - (m : Int) else m) : (enc n = b.take (k + 1)) ↔ ¬(0 < k ∧ ds.head? = some 0) := by
  have hl : ds.length = k := by rw [hds, List.length_map, List.length_take]; omega
  obtain ⟨e1, e2⟩ := mag_sgn neg m
  have hc : c = fl neg (bt (128 + k)) := by
    apply fl_inj (neg := neg)
    rw [fl_fl]
    apply u8_ext
    have := u8_lt (fl neg c)
    rw [bt_toNat]; omega
  have hr : r.take k = ds.map (fl neg) := by rw [hds, fl_map]
  subst hb
  rw [List.take_succ_cons, hr]
  subst hv
  unfold enc
  rw [e1, e2, List.map_cons]
  constructor
  · intro h ⟨hk0, h0⟩
    simp only [List.cons.injEq] at h
    have h3 : be m (nd m) = ds := by
      have := congrArg (List.map (fl neg)) h.2
      rwa [fl_map, fl_map] at this
    exact be_head m (by rw [h3]; exact h0)
  · intro h
    have hd : ds.head? ≠ some 0 := by
      intro h0
      apply h
      refine ⟨?_, h0⟩
      cases ds with
      | nil => simp at h0
      | cons a l => rw [← hl]; simp
    have hnd := nd_val hd
    rw [hm, hnd, be_val, hl, ← hc]

theorem get_of_take {α : Type} {l : List α} {k j : Nat} {x : α} (h : (l.take k)[j]? = some x) : l[j]? = some x := by
  rw [List.getElem?_take] at h
  split at h
  · exact h
  · cases h
theorem val_take (l : List UInt8) (j : Nat) : val (l.take j) ≤ val l := by
  conv => rhs; rw [← List.take_append_drop j l]
  unfold val
  rw [List.foldl_append, val_foldl (l.drop j)]
  have h1 : 1 ≤ 256 ^ (l.drop j).length := Nat.pow_pos (by omega)
  have h2 := Nat.mul_le_mul_left (List.foldl (fun m c => 256 * m + c.toNat) 0 (l.take j)) h1
  omega

set_option maxRecDepth 100000 in
set_option maxHeartbeats 1600000 in
theorem refget_any (v : Value) (n : Nat) (b : List UInt8) (w : World) (hv : Rd w 1 v n (bv b)) :
    Calls Try.prog 25 #[v] w fun e w' => e = .returned (R3 (getInt b)) ∧ Below w.heap.size w w' := by
  have hn := hv.len
  unfold maxLen at hn
  have hl : b.length = n := by have := hv.1; rw [bv_length] at this; omega
  cases b with
  | nil =>
    obtain rfl : n = 0 := by simpa using hl.symm
    clear hl
    go_enter Try.func25, Try.ntmps25
    go_wp2_with ((with_reducible refine' wpList_len_rd (.tmp 11) 28 rfl ?_ Try.underlying28 ?_ hv ?_); exact rfl; exact rfl; simp only [Act.put, List.setIfInBounds_toArray, List.set_cons_succ, List.set_cons_zero])
    go_ret3
    exact ⟨rfl, Below.refl _ _⟩
  | cons c r =>
    have c0 := Lib.hid (bv_at (l := c :: r) (k := 0) (x := c) rfl)
    have hn1 : 0 < n := by rw [← hl]; simp
    have hc := u8_lt c
    obtain ⟨neg, hneg⟩ : ∃ neg : Bool, neg = decide (c.toNat < 128) := ⟨_, rfl⟩
    have hq := fl_head c
    rw [← hneg] at hq
    have HL := Lib.hid hl; clear hl
    obtain ⟨k, hqe⟩ : ∃ k, (fl neg c).toNat = 128 + k := ⟨_, (Nat.add_sub_cancel' hq).symm⟩
    have hq2 : k < 128 := by have := u8_lt (fl neg c); omega
    have hd : decide ((c.toNat : Int) < 128) = neg := by rw [hneg, Bool.eq_iff_iff, decide_eq_true_iff, decide_eq_true_iff]; omega
    have HN := Lib.hid hneg; clear hneg
    have HQ := Lib.hid hqe; clear hqe hq
    by_cases h8 : 8 < k
    · have hf : c.toNat < 119 ∨ 136 < c.toNat := by
        have := HQ.out
        cases neg
        · rw [fl_false] at this; omega
        · have := fl_true c; omega
      rcases hf with hf | hf
      · have h119 : decide ((c.toNat : Int) < 119) = true := decide_eq_true (by omega)
        clear hf hd
        go_enter Try.func25, Try.ntmps25
        go_wp2_with (first | ((with_reducible refine' wpList_len_rd (.tmp 11) 28 rfl ?_ Try.underlying28 ?_ hv ?_); exact rfl; exact rfl; simp only [Act.put, List.setIfInBounds_toArray, List.set_cons_succ, List.set_cons_zero]) | ((with_reducible refine' wpList_at1_rd (.tmp 14) (.const (.int .i64 0)) 28 rfl ?_ Try.underlying28 sz_u8 ?_ hv (0) ?_ ?_ ?_); exact rfl; exact rfl; (show (_ : Int) = _; omega); omega; simp only [Act.put, List.setIfInBounds_toArray, List.set_cons_succ, List.set_cons_zero]) | ((with_reducible refine' wpList_load_rd (.tmp 15) 5 rfl ?_ ld_u8 ?_ hv (c0.out) ?_); exact rfl; exact rfl; simp only [Act.put, List.setIfInBounds_toArray, List.set_cons_succ, List.set_cons_zero]))
        go_ret3
        exact ⟨by rw [getInt, ← HN.out, HQ.out, if_pos (by omega)]; rfl, Below.refl _ _⟩
      · have h119 : decide ((c.toNat : Int) < 119) = false := decide_eq_false (by omega)
        have h136 : decide (136 < (c.toNat : Int)) = true := decide_eq_true (by omega)
        clear hf hd
        go_enter Try.func25, Try.ntmps25
        go_wp2_with (first | ((with_reducible refine' wpList_len_rd (.tmp 11) 28 rfl ?_ Try.underlying28 ?_ hv ?_); exact rfl; exact rfl; simp only [Act.put, List.setIfInBounds_toArray, List.set_cons_succ, List.set_cons_zero]) | ((with_reducible refine' wpList_at1_rd (.tmp 14) (.const (.int .i64 0)) 28 rfl ?_ Try.underlying28 sz_u8 ?_ hv (0) ?_ ?_ ?_); exact rfl; exact rfl; (show (_ : Int) = _; omega); omega; simp only [Act.put, List.setIfInBounds_toArray, List.set_cons_succ, List.set_cons_zero]) | ((with_reducible refine' wpList_load_rd (.tmp 15) 5 rfl ?_ ld_u8 ?_ hv (c0.out) ?_); exact rfl; exact rfl; simp only [Act.put, List.setIfInBounds_toArray, List.set_cons_succ, List.set_cons_zero]))
        go_ret3
        exact ⟨by rw [getInt, ← HN.out, HQ.out, if_pos (by omega)]; rfl, Below.refl _ _⟩
    · have h119 : decide ((c.toNat : Int) < 119) = false := decide_eq_false (by
        have := HQ.out
        cases neg
        · rw [fl_false] at this; omega
        · have := fl_true c; omega)
      have h136 : decide (136 < (c.toNat : Int)) = false := decide_eq_false (by
        have := HQ.out
        cases neg
        · rw [fl_false] at this; omega
        · have := fl_true c; omega)
      cases neg
      · have hk6 : (c.toNat : Int) - 128 = k := by have := HQ.out; rw [fl_false] at this; omega
        have hk8 : ¬ 8 < k := h8
        have hgt : getInt (c :: r) = if r.length < k then (0, 0, 3) else fin false ((r.take k).map (fl false)) := by
          rw [getInt, ← HN.out, HQ.out, if_neg (by omega), show 128 + k - 128 = k by omega]
        have HG := Lib.hid hgt; clear hgt
        go_enter Try.func25, Try.ntmps25
        by_cases hlk : n ≤ k
        · go_wp2_with (first | ((with_reducible refine' wpList_len_rd (.tmp 11) 28 rfl ?_ Try.underlying28 ?_ hv ?_); exact rfl; exact rfl; simp only [Act.put, List.setIfInBounds_toArray, List.set_cons_succ, List.set_cons_zero]) | ((with_reducible refine' wpList_at1_rd (.tmp 14) (.const (.int .i64 0)) 28 rfl ?_ Try.underlying28 sz_u8 ?_ hv (0) ?_ ?_ ?_); exact rfl; exact rfl; (show (_ : Int) = _; omega); omega; simp only [Act.put, List.setIfInBounds_toArray, List.set_cons_succ, List.set_cons_zero]) | ((with_reducible refine' wpList_load_rd (.tmp 15) 5 rfl ?_ ld_u8 ?_ hv (c0.out) ?_); exact rfl; exact rfl; simp only [Act.put, List.setIfInBounds_toArray, List.set_cons_succ, List.set_cons_zero]) | ((with_reducible refine' wpList_len_rd (.tmp 30) 28 rfl ?_ Try.underlying28 ?_ hv ?_); exact rfl; exact rfl; simp only [Act.put, List.setIfInBounds_toArray, List.set_cons_succ, List.set_cons_zero]))
          go_ret3
          have hl2 := HL.out
          rw [List.length_cons] at hl2
          exact ⟨by rw [HG.out, if_pos (by omega)]; rfl, Below.refl _ _⟩
        · have hlr : k ≤ r.length := by have := HL.out; rw [List.length_cons] at this; omega
          have hl3 : k < n := by omega
          obtain ⟨ds, hds⟩ : ∃ ds, ds = (r.take k).map (fl false) := ⟨_, rfl⟩
          have hdl : ds.length = k := by rw [hds, List.length_map, List.length_take]; omega
          have HD := Lib.hid hds; clear hds
          have HDL := Lib.hid hdl; clear hdl
          go_wp2_with (first | ((with_reducible refine' wpList_len_rd (.tmp 11) 28 rfl ?_ Try.underlying28 ?_ hv ?_); exact rfl; exact rfl; simp only [Act.put, List.setIfInBounds_toArray, List.set_cons_succ, List.set_cons_zero]) | ((with_reducible refine' wpList_at1_rd (.tmp 14) (.const (.int .i64 0)) 28 rfl ?_ Try.underlying28 sz_u8 ?_ hv (0) ?_ ?_ ?_); exact rfl; exact rfl; (show (_ : Int) = _; omega); omega; simp only [Act.put, List.setIfInBounds_toArray, List.set_cons_succ, List.set_cons_zero]) | ((with_reducible refine' wpList_load_rd (.tmp 15) 5 rfl ?_ ld_u8 ?_ hv (c0.out) ?_); exact rfl; exact rfl; simp only [Act.put, List.setIfInBounds_toArray, List.set_cons_succ, List.set_cons_zero]) | ((with_reducible refine' wpList_len_rd (.tmp 30) 28 rfl ?_ Try.underlying28 ?_ hv ?_); exact rfl; exact rfl; simp only [Act.put, List.setIfInBounds_toArray, List.set_cons_succ, List.set_cons_zero]))
          go_loop [7, 8] (fun m i => ∃ j : Nat, j ≤ k ∧ i = .int .i64 ((j : Int) + 1) ∧ m = .int .i64 (val (ds.take j)) ∧ val (ds.take j) < 9223372036854775808) (fun _ i => k + 1 - (intOf i).toNat)
          case atStart => exact ⟨0, Nat.zero_le _, rfl, rfl, by simp [val]⟩
          case round =>
            obtain ⟨j, hj, rfl, rfl, hmb⟩ := hrel
            obtain ⟨m, hm⟩ : ∃ m, m = val (ds.take j) := ⟨_, rfl⟩
            rw [← hm] at hmb ⊢
            have HM := Lib.hid hm; clear hm
            by_cases hjk : j < k
            · obtain ⟨x, hx⟩ : ∃ x, (r.take k)[j]? = some x := get_lt (by rw [List.length_take]; omega)
              have c2 : (bv (c :: r))[j + 1]? = some (.int .u8 (x.toNat : Int)) := bv_at (by rw [List.getElem?_cons_succ]; exact get_of_take hx)
              have C2 := Lib.hid c2
              have hx4 := u8_lt (fl false x)
              have hx6 := u8_lt x
              have hx5 : (x.toNat : Int) = ((fl false x).toNat : Int) := by rw [fl_false]
              have hdx : ds[j]? = some (fl false x) := by rw [HD.out, List.getElem?_map, hx]; rfl
              have hv2 : val (ds.take (j + 1)) = 256 * m + (fl false x).toNat := by rw [List.take_add_one, hdx, HM.out]; exact val_snoc _ _
              have HV := Lib.hid hv2
              clear hx hdx hv2 c2
              by_cases hbig : 36028797018963967 < m
              · have hge : 9223372036854775808 ≤ val ds := by
                  have h1 := val_take ds (j + 1)
                  have h2 := HV.out
                  omega
                have HB := Lib.hid hge; clear hge
                go_wp2_with (first | ((with_reducible refine' wpList_at1_rd (.tmp 40) (.tmp 41) 28 rfl ?_ Try.underlying28 sz_u8 ?_ hv (j + 1) ?_ ?_ ?_); exact rfl; exact rfl; (show (_ : Int) = _; omega); omega; simp only [Act.put, List.setIfInBounds_toArray, List.set_cons_succ, List.set_cons_zero]) | ((with_reducible refine' wpList_load_rd (.tmp 42) 5 rfl ?_ ld_u8 ?_ hv (C2.out) ?_); exact rfl; exact rfl; simp only [Act.put, List.setIfInBounds_toArray, List.set_cons_succ, List.set_cons_zero]))
                go_ret3
                have hl2 := HL.out
                rw [List.length_cons] at hl2
                exact ⟨by rw [HG.out, if_neg (by omega), ← HD.out, fin, if_pos (.inr HB.out)]; rfl, Below.refl _ _⟩
              · go_wp2_with (first | ((with_reducible refine' wpList_at1_rd (.tmp 40) (.tmp 41) 28 rfl ?_ Try.underlying28 sz_u8 ?_ hv (j + 1) ?_ ?_ ?_); exact rfl; exact rfl; (show (_ : Int) = _; omega); omega; simp only [Act.put, List.setIfInBounds_toArray, List.set_cons_succ, List.set_cons_zero]) | ((with_reducible refine' wpList_load_rd (.tmp 42) 5 rfl ?_ ld_u8 ?_ hv (C2.out) ?_); exact rfl; exact rfl; simp only [Act.put, List.setIfInBounds_toArray, List.set_cons_succ, List.set_cons_zero]))
                go_round
                case rel => exact ⟨j + 1, by omega, by go_num, by rw [HV.out]; go_num, by rw [HV.out]; omega⟩
                case measure => simp [intOf]; omega
            · obtain rfl : j = k := by omega
              have hmv : m = val ds := by rw [HM.out, List.take_of_length_le (by rw [HDL.out]; omega)]
              have HMV := Lib.hid hmv; clear hmv HM
              obtain ⟨v', hsl, hrd⟩ := cut_run_to Try.underlying28 sz_u8 hv .i64 (j + 1) (z := (j : Int) + 1) (by omega) (by omega)
              rw [Nat.mul_one, bv_take] at hrd
              have hcan := canon (b := c :: r) (n := (m : Int)) rfl HQ.out hlr HD.out HMV.out rfl
              obtain ⟨pre, hpre⟩ : ∃ pre, pre = (c :: r).take (j + 1) := ⟨_, rfl⟩
              rw [← hpre] at hrd hcan
              have HPR := Lib.hid hpre; clear hpre
              have HC := Lib.hid hcan; clear hcan
              have hwr : IntKind.i64.wrap ((j : Int) + 1) = (j : Int) + 1 := IntWalk.i64_in _ (by omega)
              go_upto_region 24 with fail
              go_cut [67] (fun s w' => s = .bool (decide (0 < j ∧ ds.head? = some 0)) ∧ Below w.heap.size w w')
              case first =>
                go_region_with (first | (go_at_call 15; refine (refint_any _ _ (by omega) (by omega)).mono ?_; rintro e w' ⟨v1, rfl, ho1, hb1⟩) | (go_at_call 13; refine (same_any _ _ _ _ _ _ _ (Rd.of_own ho1) (Rd.below (w := World.drew w) hrd hb1)).mono ?_; rintro e w' ⟨rfl, nq, rfl⟩))
                all_goals
                  go_wp2_with fail
                  go_meet
                case rel =>
                  refine ⟨?_, below_drewN (below_undrew hb1) nq⟩
                  congr 1
                  rw [Bool.eq_iff_iff, Bool.not_eq_true', decide_eq_false_iff_not, decide_eq_true_iff, HC.out]
                  exact Classical.not_not
              case rest =>
                obtain ⟨rfl, hbl⟩ := hcut
                by_cases hz : 0 < j ∧ ds.head? = some 0
                · have hzb : decide (0 < j ∧ ds.head? = some 0) = true := decide_eq_true hz
                  have HZ := Lib.hid hz; clear hz
                  go_wp2_with fail
                  go_ret3
                  have hl2 := HL.out
                  rw [List.length_cons] at hl2
                  exact ⟨by rw [HG.out, if_neg (by omega), ← HD.out, fin, if_pos (.inl HZ.out.2)]; rfl, hbl⟩
                · have hzb : decide (0 < j ∧ ds.head? = some 0) = false := decide_eq_false hz
                  have HZ := Lib.hid hz; clear hz
                  go_wp2_with fail
                  go_ret3
                  have hl2 := HL.out
                  rw [List.length_cons] at hl2
                  refine ⟨?_, hbl⟩
                  rw [HG.out, if_neg (by omega), ← HD.out]
                  exact (fin_yes HZ.out HDL.out HMV.out hmb (x := (m : Int)) rfl).symm
      · have hk6 : (127 : Int) - c.toNat = k := by have := HQ.out; have := fl_true c; omega
        have hk8 : ¬ 8 < k := h8
        have hgt : getInt (c :: r) = if r.length < k then (0, 0, 3) else fin true ((r.take k).map (fl true)) := by
          rw [getInt, ← HN.out, HQ.out, if_neg (by omega), show 128 + k - 128 = k by omega]
        have HG := Lib.hid hgt; clear hgt
        go_enter Try.func25, Try.ntmps25
        by_cases hlk : n ≤ k
        · go_wp2_with (first | ((with_reducible refine' wpList_len_rd (.tmp 11) 28 rfl ?_ Try.underlying28 ?_ hv ?_); exact rfl; exact rfl; simp only [Act.put, List.setIfInBounds_toArray, List.set_cons_succ, List.set_cons_zero]) | ((with_reducible refine' wpList_at1_rd (.tmp 14) (.const (.int .i64 0)) 28 rfl ?_ Try.underlying28 sz_u8 ?_ hv (0) ?_ ?_ ?_); exact rfl; exact rfl; (show (_ : Int) = _; omega); omega; simp only [Act.put, List.setIfInBounds_toArray, List.set_cons_succ, List.set_cons_zero]) | ((with_reducible refine' wpList_load_rd (.tmp 15) 5 rfl ?_ ld_u8 ?_ hv (c0.out) ?_); exact rfl; exact rfl; simp only [Act.put, List.setIfInBounds_toArray, List.set_cons_succ, List.set_cons_zero]) | ((with_reducible refine' wpList_len_rd (.tmp 30) 28 rfl ?_ Try.underlying28 ?_ hv ?_); exact rfl; exact rfl; simp only [Act.put, List.setIfInBounds_toArray, List.set_cons_succ, List.set_cons_zero]))
          go_ret3
          have hl2 := HL.out
          rw [List.length_cons] at hl2
          exact ⟨by rw [HG.out, if_pos (by omega)]; rfl, Below.refl _ _⟩
        · have hlr : k ≤ r.length := by have := HL.out; rw [List.length_cons] at this; omega
          have hl3 : k < n := by omega
          obtain ⟨ds, hds⟩ : ∃ ds, ds = (r.take k).map (fl true) := ⟨_, rfl⟩
          have hdl : ds.length = k := by rw [hds, List.length_map, List.length_take]; omega
          have HD := Lib.hid hds; clear hds
          have HDL := Lib.hid hdl; clear hdl
          go_wp2_with (first | ((with_reducible refine' wpList_len_rd (.tmp 11) 28 rfl ?_ Try.underlying28 ?_ hv ?_); exact rfl; exact rfl; simp only [Act.put, List.setIfInBounds_toArray, List.set_cons_succ, List.set_cons_zero]) | ((with_reducible refine' wpList_at1_rd (.tmp 14) (.const (.int .i64 0)) 28 rfl ?_ Try.underlying28 sz_u8 ?_ hv (0) ?_ ?_ ?_); exact rfl; exact rfl; (show (_ : Int) = _; omega); omega; simp only [Act.put, List.setIfInBounds_toArray, List.set_cons_succ, List.set_cons_zero]) | ((with_reducible refine' wpList_load_rd (.tmp 15) 5 rfl ?_ ld_u8 ?_ hv (c0.out) ?_); exact rfl; exact rfl; simp only [Act.put, List.setIfInBounds_toArray, List.set_cons_succ, List.set_cons_zero]) | ((with_reducible refine' wpList_len_rd (.tmp 30) 28 rfl ?_ Try.underlying28 ?_ hv ?_); exact rfl; exact rfl; simp only [Act.put, List.setIfInBounds_toArray, List.set_cons_succ, List.set_cons_zero]))
          go_loop [7, 8] (fun m i => ∃ j : Nat, j ≤ k ∧ i = .int .i64 ((j : Int) + 1) ∧ m = .int .i64 (val (ds.take j)) ∧ val (ds.take j) < 9223372036854775808) (fun _ i => k + 1 - (intOf i).toNat)
          case atStart => exact ⟨0, Nat.zero_le _, rfl, rfl, by simp [val]⟩
          case round =>
            obtain ⟨j, hj, rfl, rfl, hmb⟩ := hrel
            obtain ⟨m, hm⟩ : ∃ m, m = val (ds.take j) := ⟨_, rfl⟩
            rw [← hm] at hmb ⊢
            have HM := Lib.hid hm; clear hm
            by_cases hjk : j < k
            · obtain ⟨x, hx⟩ : ∃ x, (r.take k)[j]? = some x := get_lt (by rw [List.length_take]; omega)
              have c2 : (bv (c :: r))[j + 1]? = some (.int .u8 (x.toNat : Int)) := bv_at (by rw [List.getElem?_cons_succ]; exact get_of_take hx)
              have C2 := Lib.hid c2
              have hx4 := u8_lt (fl true x)
              have hx6 := u8_lt x
              have hx5 : (255 : Int) - x.toNat = ((fl true x).toNat : Int) := by rw [fl_true]
              have hdx : ds[j]? = some (fl true x) := by rw [HD.out, List.getElem?_map, hx]; rfl
              have hv2 : val (ds.take (j + 1)) = 256 * m + (fl true x).toNat := by rw [List.take_add_one, hdx, HM.out]; exact val_snoc _ _
              have HV := Lib.hid hv2
              clear hx hdx hv2 c2
              by_cases hbig : 36028797018963967 < m
              · have hge : 9223372036854775808 ≤ val ds := by
                  have h1 := val_take ds (j + 1)
                  have h2 := HV.out
                  omega
                have HB := Lib.hid hge; clear hge
                go_wp2_with (first | ((with_reducible refine' wpList_at1_rd (.tmp 40) (.tmp 41) 28 rfl ?_ Try.underlying28 sz_u8 ?_ hv (j + 1) ?_ ?_ ?_); exact rfl; exact rfl; (show (_ : Int) = _; omega); omega; simp only [Act.put, List.setIfInBounds_toArray, List.set_cons_succ, List.set_cons_zero]) | ((with_reducible refine' wpList_load_rd (.tmp 42) 5 rfl ?_ ld_u8 ?_ hv (C2.out) ?_); exact rfl; exact rfl; simp only [Act.put, List.setIfInBounds_toArray, List.set_cons_succ, List.set_cons_zero]))
                go_ret3
                have hl2 := HL.out
                rw [List.length_cons] at hl2
                exact ⟨by rw [HG.out, if_neg (by omega), ← HD.out, fin, if_pos (.inr HB.out)]; rfl, Below.refl _ _⟩
              · go_wp2_with (first | ((with_reducible refine' wpList_at1_rd (.tmp 40) (.tmp 41) 28 rfl ?_ Try.underlying28 sz_u8 ?_ hv (j + 1) ?_ ?_ ?_); exact rfl; exact rfl; (show (_ : Int) = _; omega); omega; simp only [Act.put, List.setIfInBounds_toArray, List.set_cons_succ, List.set_cons_zero]) | ((with_reducible refine' wpList_load_rd (.tmp 42) 5 rfl ?_ ld_u8 ?_ hv (C2.out) ?_); exact rfl; exact rfl; simp only [Act.put, List.setIfInBounds_toArray, List.set_cons_succ, List.set_cons_zero]))
                go_round
                case rel => exact ⟨j + 1, by omega, by go_num, by rw [HV.out]; go_num, by rw [HV.out]; omega⟩
                case measure => simp [intOf]; omega
            · obtain rfl : j = k := by omega
              have hmv : m = val ds := by rw [HM.out, List.take_of_length_le (by rw [HDL.out]; omega)]
              have HMV := Lib.hid hmv; clear hmv HM
              obtain ⟨v', hsl, hrd⟩ := cut_run_to Try.underlying28 sz_u8 hv .i64 (j + 1) (z := (j : Int) + 1) (by omega) (by omega)
              rw [Nat.mul_one, bv_take] at hrd
              have hcan := canon (b := c :: r) (n := -1 - (m : Int)) rfl HQ.out hlr HD.out HMV.out rfl
              obtain ⟨pre, hpre⟩ : ∃ pre, pre = (c :: r).take (j + 1) := ⟨_, rfl⟩
              rw [← hpre] at hrd hcan
              have HPR := Lib.hid hpre; clear hpre
              have HC := Lib.hid hcan; clear hcan
              have hwr : IntKind.i64.wrap ((j : Int) + 1) = (j : Int) + 1 := IntWalk.i64_in _ (by omega)
              go_upto_region 24 with fail
              go_cut [67] (fun s w' => s = .bool (decide (0 < j ∧ ds.head? = some 0)) ∧ Below w.heap.size w w')
              case first =>
                go_region_with (first | (go_at_call 15; refine (refint_any _ _ (by omega) (by omega)).mono ?_; rintro e w' ⟨v1, rfl, ho1, hb1⟩) | (go_at_call 13; refine (same_any _ _ _ _ _ _ _ (Rd.of_own ho1) (Rd.below (w := World.drew w) hrd hb1)).mono ?_; rintro e w' ⟨rfl, nq, rfl⟩))
                all_goals
                  go_wp2_with fail
                  go_meet
                case rel =>
                  refine ⟨?_, below_drewN (below_undrew hb1) nq⟩
                  congr 1
                  rw [Bool.eq_iff_iff, Bool.not_eq_true', decide_eq_false_iff_not, decide_eq_true_iff, HC.out]
                  exact Classical.not_not
              case rest =>
                obtain ⟨rfl, hbl⟩ := hcut
                by_cases hz : 0 < j ∧ ds.head? = some 0
                · have hzb : decide (0 < j ∧ ds.head? = some 0) = true := decide_eq_true hz
                  have HZ := Lib.hid hz; clear hz
                  go_wp2_with fail
                  go_ret3
                  have hl2 := HL.out
                  rw [List.length_cons] at hl2
                  exact ⟨by rw [HG.out, if_neg (by omega), ← HD.out, fin, if_pos (.inl HZ.out.2)]; rfl, hbl⟩
                · have hzb : decide (0 < j ∧ ds.head? = some 0) = false := decide_eq_false hz
                  have HZ := Lib.hid hz; clear hz
                  go_wp2_with fail
                  go_ret3
                  have hl2 := HL.out
                  rw [List.length_cons] at hl2
                  refine ⟨?_, hbl⟩
                  rw [HG.out, if_neg (by omega), ← HD.out]
                  exact (fin_yes HZ.out HDL.out HMV.out hmb (x := -1 - (m : Int)) rfl).symm
end Go.Proofs.Ytomjniijnpnehaa.Wi
