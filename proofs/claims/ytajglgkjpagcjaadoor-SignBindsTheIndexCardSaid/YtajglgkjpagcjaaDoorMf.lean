/-
  Same, Get, Byt, Lst, Rm, Rk, Ro: my texts of these names, one behind the other. Conditions: those that each law names.
-/
import Derived.Test.YtajglgkjpagcjaaDoorMa
import Derived.Deep.DeepCutAuto
import Derived.Deep.CutBlock
import Derived.Lib.Hide
import Derived.Test.YtajglgkjpagcjaaDoorMd
import Derived.Deep.RegionWith
import Derived.Test.YtajglgkjpagcjaaDoorMc
namespace Go.Proofs.YtajglgkjpagcjaaDoor.Wi
open Go Go.RowKit Lb

theorem take_ne {α : Type} {A B : List α} {k : Nat} {x y : α} (ha : A[k]? = some x) (hb : B[k]? = some y) (h : x ≠ y) : A ≠ B := by
  intro e; subst e; rw [ha] at hb; exact h (Option.some.inj hb)
theorem take_step {α : Type} {A B : List α} {k : Nat} {x : α} (ha : A[k]? = some x) (hb : B[k]? = some x) (ht : A.take k = B.take k) : A.take (k + 1) = B.take (k + 1) := by
  rw [List.take_add_one, List.take_add_one, ha, hb, ht]

set_option maxHeartbeats 800000 in
theorem same_any (v1 v2 : Value) (n1 n2 : Nat) (A B : List UInt8) (w : World) (h1 : Rd w 1 v1 n1 (bv A)) (h2 : Rd w 1 v2 n2 (bv B)) :
    Calls Tryd.prog 58 #[v1, v2] w fun e w' => e = .returned (.bool (decide (A = B))) ∧ ∃ n, w' = w.drewN n := by
  have l1 := h1.len
  have l2 := h2.len
  unfold maxLen at l1 l2
  have e1 : A.length = n1 := by have := h1.1; rw [bv_length] at this; omega
  have e2 : B.length = n2 := by have := h2.1; rw [bv_length] at this; omega
  have HE1 := Lib.hid e1
  have HE2 := Lib.hid e2
  by_cases hne : n1 = n2
  · obtain rfl := hne
    clear e1 e2
    go_enter Tryd.func58, Tryd.ntmps58
    go_wp2_with (first | ((with_reducible refine' wpList_len_rd (.tmp 6) 52 rfl ?_ Tryd.underlying52 ?_ h1 ?_); exact rfl; exact rfl; simp only [Act.put, List.setIfInBounds_toArray, List.set_cons_succ, List.set_cons_zero]) | ((with_reducible refine' wpList_len_rd (.tmp 8) 52 rfl ?_ Tryd.underlying52 ?_ h2 ?_); exact rfl; exact rfl; simp only [Act.put, List.setIfInBounds_toArray, List.set_cons_succ, List.set_cons_zero]))
    go_loopw [5] (fun i wr => ∃ k : Nat, k ≤ n1 ∧ i = .int .i64 k ∧ A.take k = B.take k ∧ ∃ nq, wr = w.drewN nq) (fun i _ => n1 - (intOf i).toNat)
    case atStart => exact ⟨0, Nat.zero_le _, rfl, rfl, 0, rfl⟩
    case round =>
      obtain ⟨k, hk, rfl, ht, nq0, rfl⟩ := hrel
      have HT := Lib.hid ht
      clear ht
      have g1 := h1.drewN nq0
      have g2 := h2.drewN nq0
      by_cases hlt : k < n1
      · obtain ⟨x, hx⟩ : ∃ x, A[k]? = some x := get_lt (by rw [HE1.out]; exact hlt)
        obtain ⟨y, hy⟩ : ∃ y, B[k]? = some y := get_lt (by rw [HE2.out]; exact hlt)
        have C1 := Lib.hid (bv_at hx)
        have C2 := Lib.hid (bv_at hy)
        by_cases he : x = y
        · subst he
          have HT' := Lib.hid (take_step hx hy HT.out)
          clear hx hy
          go_wp2_with (first | ((with_reducible refine' wpList_len_rd (.tmp 12) 52 rfl ?_ Tryd.underlying52 ?_ h1 ?_); exact rfl; exact rfl; simp only [Act.put, List.setIfInBounds_toArray, List.set_cons_succ, List.set_cons_zero]) | (refine wp_region_quiet_lit (by kernel_rfl) (by kernel_rfl) ?_; (repeat (first | ((with_reducible refine' wpQuiet_at1_rd (.tmp 17) (.tmp 18) 52 rfl ?_ Tryd.underlying52 sz_u8 ?_ g1 (k) ?_ ?_ ?_); exact rfl; exact rfl; (show (_ : Int) = _; omega); omega; simp only [Act.put, List.setIfInBounds_toArray, List.set_cons_succ, List.set_cons_zero]) | ((with_reducible refine' wpQuiet_load_rd (fun _ h => h) (.tmp 19) 5 rfl ?_ ld_u8 ?_ g1 (C1.out) ?_); exact rfl; exact rfl; simp only [Act.put, List.setIfInBounds_toArray, List.set_cons_succ, List.set_cons_zero]) | ((with_reducible refine' wpQuiet_at1_rd (.tmp 21) (.tmp 22) 52 rfl ?_ Tryd.underlying52 sz_u8 ?_ g2 (k) ?_ ?_ ?_); exact rfl; exact rfl; (show (_ : Int) = _; omega); omega; simp only [Act.put, List.setIfInBounds_toArray, List.set_cons_succ, List.set_cons_zero]) | ((with_reducible refine' wpQuiet_load_rd (fun _ h => h) (.tmp 23) 5 rfl ?_ ld_u8 ?_ g2 (C2.out) ?_); exact rfl; exact rfl; simp only [Act.put, List.setIfInBounds_toArray, List.set_cons_succ, List.set_cons_zero]) | go_big_quiet_step (fail))); refine wpQuiet_nil ?_; intro _ hw'; obtain ⟨nq, hw''⟩ := hw'; subst hw''))
          go_roundw
          case rel => exact ⟨k + 1, by omega, by go_num, HT'.out, nq0 + nq, by first | rfl | rw [World.drewN_drewN]⟩
          case measure => simp [intOf]; omega
        · have hb : ((x.toNat : Int) != (y.toNat : Int)) = true := by rw [bne_iff_ne]; intro h; exact he (UInt8.toNat_inj.1 (by omega))
          have hn : decide (A = B) = false := decide_eq_false_iff_not.2 (take_ne hx hy he)
          have HN := Lib.hid hn
          clear he hx hy hn
          go_wp2_with (first | ((with_reducible refine' wpList_len_rd (.tmp 12) 52 rfl ?_ Tryd.underlying52 ?_ h1 ?_); exact rfl; exact rfl; simp only [Act.put, List.setIfInBounds_toArray, List.set_cons_succ, List.set_cons_zero]) | (refine wp_region_quiet_lit (by kernel_rfl) (by kernel_rfl) ?_; (repeat (first | ((with_reducible refine' wpQuiet_at1_rd (.tmp 17) (.tmp 18) 52 rfl ?_ Tryd.underlying52 sz_u8 ?_ g1 (k) ?_ ?_ ?_); exact rfl; exact rfl; (show (_ : Int) = _; omega); omega; simp only [Act.put, List.setIfInBounds_toArray, List.set_cons_succ, List.set_cons_zero]) | ((with_reducible refine' wpQuiet_load_rd (fun _ h => h) (.tmp 19) 5 rfl ?_ ld_u8 ?_ g1 (C1.out) ?_); exact rfl; exact rfl; simp only [Act.put, List.setIfInBounds_toArray, List.set_cons_succ, List.set_cons_zero]) | ((with_reducible refine' wpQuiet_at1_rd (.tmp 21) (.tmp 22) 52 rfl ?_ Tryd.underlying52 sz_u8 ?_ g2 (k) ?_ ?_ ?_); exact rfl; exact rfl; (show (_ : Int) = _; omega); omega; simp only [Act.put, List.setIfInBounds_toArray, List.set_cons_succ, List.set_cons_zero]) | ((with_reducible refine' wpQuiet_load_rd (fun _ h => h) (.tmp 23) 5 rfl ?_ ld_u8 ?_ g2 (C2.out) ?_); exact rfl; exact rfl; simp only [Act.put, List.setIfInBounds_toArray, List.set_cons_succ, List.set_cons_zero]) | go_big_quiet_step (fail))); refine wpQuiet_nil ?_; intro _ hw'; obtain ⟨nq, hw''⟩ := hw'; subst hw''))
          go_ret
          exact ⟨by rw [HN.out]; rfl, nq0 + nq, by first | rfl | rw [World.drewN_drewN]⟩
      · obtain rfl : k = n1 := by omega
        have he : decide (A = B) = true := by
          have h := HT.out
          rw [List.take_of_length_le (by rw [HE1.out]; omega), List.take_of_length_le (by rw [HE2.out]; omega)] at h
          exact decide_eq_true h
        have HE := Lib.hid he
        clear he
        go_wp2_with (first | ((with_reducible refine' wpList_len_rd (.tmp 12) 52 rfl ?_ Tryd.underlying52 ?_ h1 ?_); exact rfl; exact rfl; simp only [Act.put, List.setIfInBounds_toArray, List.set_cons_succ, List.set_cons_zero]))
        go_ret
        exact ⟨by rw [HE.out]; rfl, nq0, rfl⟩
  · have hne' : ((n1 : Int) != (n2 : Int)) = true := by rw [bne_iff_ne]; omega
    have hAB : decide (A = B) = false := by rw [decide_eq_false_iff_not]; intro h; subst h; omega
    have HA := Lib.hid hAB
    clear e1 e2 hAB
    go_enter Tryd.func58, Tryd.ntmps58
    go_wp2_with (first | ((with_reducible refine' wpList_len_rd (.tmp 6) 52 rfl ?_ Tryd.underlying52 ?_ h1 ?_); exact rfl; exact rfl; simp only [Act.put, List.setIfInBounds_toArray, List.set_cons_succ, List.set_cons_zero]) | ((with_reducible refine' wpList_len_rd (.tmp 8) 52 rfl ?_ Tryd.underlying52 ?_ h2 ?_); exact rfl; exact rfl; simp only [Act.put, List.setIfInBounds_toArray, List.set_cons_succ, List.set_cons_zero]))
    go_ret
    exact ⟨by rw [HA.out]; rfl, 0, rfl⟩
end Go.Proofs.YtajglgkjpagcjaaDoor.Wi
namespace Go.Proofs.YtajglgkjpagcjaaDoor.Wi
open Go Go.RowKit Pu Lb

/-- three numbers as a result -/
def R3 (x : Int × Nat × Nat) : Value := .tuple #[.int .i64 x.1, .int .i64 (x.2.1 : Int), .int .i64 (x.2.2 : Int)]

theorem rd_drew0 {w : World} {s : Nat} {v : Value} {n : Nat} {xs : List Value} (h : Rd w s v n xs) : Rd w.drew s v n xs := h
theorem xor_cell (c : UInt8) (neg : Bool) : bits .xor .u8 (c.toNat : Int) (fb neg) = ((fl neg c).toNat : Int) := by
  have hc := u8_lt c
  have hb := fb_bd neg
  rw [u8_xor _ _ (by omega) (by omega) hb.1 (by omega)]
  unfold fl
  rw [UInt8.toNat_xor]
  cases neg <;> simp [fb]

theorem not_back (m : Nat) (h : m < 9223372036854775808) : wrap64 (bits .xor .u64 IntKind.u64.max (m : Int)) = -1 - (m : Int) := by
  have e2 : IntKind.u64.max = 18446744073709551615 := by decide
  rw [e2, u64_xor _ _ (by omega) (by omega) (by omega) (by omega)]
  have e3 : (18446744073709551615 : Int).toNat = 2 ^ 64 - 1 := by decide
  rw [e3, Int.toNat_natCast, Nat.xor_comm, xor_ones 64 _ (by omega)]
  unfold wrap64
  omega
theorem fin_yes {neg : Bool} {ds : List UInt8} {k m : Nat} {x : Int} (hz : ¬(0 < k ∧ ds.head? = some 0)) (hl : ds.length = k) (hm : m = val ds) (h : m < 9223372036854775808) (hx : x = if neg then -1 - (m : Int) else m) :
    Ending.returned (R3 (fin neg ds)) = .returned (.tuple #[.int .i64 x, .int .i64 ((k : Int) + 1), .int .i64 0]) := by
  have hd : ds.head? ≠ some 0 := by
    intro h0
    apply hz
    refine ⟨?_, h0⟩
    cases ds with
    | nil => simp at h0
    | cons a l => rw [← hl]; simp
  rw [fin, if_neg (by rintro (h1 | h1); · exact hd h1
                      · omega), hl, ← hm, ← hx]
  rfl
theorem or_cell (m d : Nat) (hm : m < 72057594037927936) (hd : d < 256) : bits .or .u64 ((m : Int) * 256) (d : Int) = ((256 * m + d : Nat) : Int) := by
  have e : (m : Int) * 256 = ((m * 256 : Nat) : Int) := by omega
  rw [e, u64_or_nat _ _ (by omega) (by omega), nat_join 8 _ _ (by omega) (by omega), Nat.mul_comm]

set_option maxRecDepth 100000 in
set_option maxHeartbeats 1600000 in
theorem getint_any (v : Value) (n : Nat) (b : List UInt8) (w : World) (hv : Rd w 1 v n (bv b)) :
    Calls Tryd.prog 36 #[v] w fun e w' => e = .returned (R3 (getInt b)) ∧ w = w' := by
  have hn := hv.len
  unfold maxLen at hn
  have hl : b.length = n := by have := hv.1; rw [bv_length] at this; omega
  cases b with
  | nil =>
    obtain rfl : n = 0 := by simpa using hl.symm
    clear hl
    go_enter Tryd.func36, Tryd.ntmps36
    go_wp2_with ((with_reducible refine' wpList_len_rd (.tmp 10) 52 rfl ?_ Tryd.underlying52 ?_ hv ?_); exact rfl; exact rfl; simp only [Act.put, List.setIfInBounds_toArray, List.set_cons_succ, List.set_cons_zero])
    go_ret3
    exact ⟨rfl, rfl⟩
  | cons c r =>
    have c0 := Lib.hid (bv_at (l := c :: r) (k := 0) (x := c) rfl)
    have hn1 : 0 < n := by rw [← hl]; simp
    have hc := u8_lt c
    obtain ⟨neg, hneg⟩ : ∃ neg : Bool, neg = decide (c.toNat < 128) := ⟨_, rfl⟩
    have hq := fl_head c
    rw [← hneg] at hq
    have hx := xor_cell c neg
    have HL := Lib.hid hl; clear hl
    obtain ⟨k, hqe⟩ : ∃ k, (fl neg c).toNat = 128 + k := ⟨_, (Nat.add_sub_cancel' hq).symm⟩
    rw [hqe] at hx
    rw [Int.natCast_add, Int.cast_ofNat_Int] at hx
    have hk6 : (128 : Int) + k - 128 = k := by omega
    have hq2 : k < 128 := by have := u8_lt (fl neg c); omega
    have hfb := fb_bd neg
    have hd : decide ((c.toNat : Int) < 128) = neg := by rw [hneg, Bool.eq_iff_iff, decide_eq_true_iff, decide_eq_true_iff]; omega
    have HN := Lib.hid hneg; clear hneg
    have HQ := Lib.hid hqe; clear hqe hq
    go_enter Tryd.func36, Tryd.ntmps36
    go_upto_if 16 with (first | ((with_reducible refine' wpList_len_rd (.tmp 10) 52 rfl ?_ Tryd.underlying52 ?_ hv ?_); exact rfl; exact rfl; simp only [Act.put, List.setIfInBounds_toArray, List.set_cons_succ, List.set_cons_zero]) | ((with_reducible refine' wpList_at1_rd (.tmp 13) (.const (.int .i64 0)) 52 rfl ?_ Tryd.underlying52 sz_u8 ?_ hv (0) ?_ ?_ ?_); exact rfl; exact rfl; (show (_ : Int) = _; omega); omega; simp only [Act.put, List.setIfInBounds_toArray, List.set_cons_succ, List.set_cons_zero]) | ((with_reducible refine' wpList_load_rd (.tmp 14) 5 rfl ?_ ld_u8 ?_ hv (c0.out) ?_); exact rfl; exact rfl; simp only [Act.put, List.setIfInBounds_toArray, List.set_cons_succ, List.set_cons_zero]))
    go_cut [5] (fun s5 w' => s5 = .int .u8 (fb neg) ∧ w = w')
    case first =>
      go_wp2
      all_goals
        go_meet
        case rel => exact ⟨by first | rw [‹neg = true›]; rfl | rw [‹neg = false›]; rfl, rfl⟩
    case rest =>
      obtain ⟨rfl, rfl⟩ := hcut
      by_cases hk8 : 8 < k
      · go_wp2_with (first | ((with_reducible refine' wpList_len_rd (.tmp 28) 52 rfl ?_ Tryd.underlying52 ?_ hv ?_); exact rfl; exact rfl; simp only [Act.put, List.setIfInBounds_toArray, List.set_cons_succ, List.set_cons_zero]) | ((with_reducible refine' wpList_at1_rd (.tmp 17) (.const (.int .i64 0)) 52 rfl ?_ Tryd.underlying52 sz_u8 ?_ hv (0) ?_ ?_ ?_); exact rfl; exact rfl; (show (_ : Int) = _; omega); omega; simp only [Act.put, List.setIfInBounds_toArray, List.set_cons_succ, List.set_cons_zero]) | ((with_reducible refine' wpList_load_rd (.tmp 18) 5 rfl ?_ ld_u8 ?_ hv (c0.out) ?_); exact rfl; exact rfl; simp only [Act.put, List.setIfInBounds_toArray, List.set_cons_succ, List.set_cons_zero]))
        go_ret3
        refine ⟨?_, rfl⟩
        rw [getInt, ← HN.out, HQ.out, if_pos (by omega)]
        rfl
      · by_cases hlk : n ≤ k
        · go_wp2_with (first | ((with_reducible refine' wpList_len_rd (.tmp 28) 52 rfl ?_ Tryd.underlying52 ?_ hv ?_); exact rfl; exact rfl; simp only [Act.put, List.setIfInBounds_toArray, List.set_cons_succ, List.set_cons_zero]) | ((with_reducible refine' wpList_at1_rd (.tmp 17) (.const (.int .i64 0)) 52 rfl ?_ Tryd.underlying52 sz_u8 ?_ hv (0) ?_ ?_ ?_); exact rfl; exact rfl; (show (_ : Int) = _; omega); omega; simp only [Act.put, List.setIfInBounds_toArray, List.set_cons_succ, List.set_cons_zero]) | ((with_reducible refine' wpList_load_rd (.tmp 18) 5 rfl ?_ ld_u8 ?_ hv (c0.out) ?_); exact rfl; exact rfl; simp only [Act.put, List.setIfInBounds_toArray, List.set_cons_succ, List.set_cons_zero]))
          go_ret3
          refine ⟨?_, rfl⟩
          have := HL.out
          rw [List.length_cons] at this
          rw [getInt, ← HN.out, HQ.out, if_neg (by omega), if_pos (by omega)]
          rfl
        · have hgt : getInt (c :: r) = fin neg ((r.take k).map (fl neg)) := by
            have := HL.out
            rw [List.length_cons] at this
            rw [getInt, ← HN.out, HQ.out, if_neg (by omega), if_neg (by omega), show 128 + k - 128 = k by omega]
          have hlr : k ≤ r.length := by have := HL.out; rw [List.length_cons] at this; omega
          have HG := Lib.hid hgt; clear hgt
          obtain ⟨ds, hds⟩ : ∃ ds, ds = (r.take k).map (fl neg) := ⟨_, rfl⟩
          have hdl : ds.length = k := by rw [hds, List.length_map, List.length_take]; omega
          have HD := Lib.hid hds; clear hds
          have HDL := Lib.hid hdl; clear hdl
          by_cases hz : 0 < k ∧ ds.head? = some 0
          · obtain ⟨hk0, hz⟩ := hz
            obtain ⟨d, r', rfl⟩ : ∃ d r', r = d :: r' := by cases r with | nil => (simp at hlr; omega) | cons d r' => exact ⟨d, r', rfl⟩
            have c1 := Lib.hid (bv_at (l := c :: d :: r') (k := 1) (x := d) rfl)
            have hx2 := xor_cell d neg
            have hd0 : (fl neg d).toNat = 0 := by
              rw [HD.out, List.head?_map] at hz
              cases k with
              | zero => omega
              | succ k => simp at hz; rw [hz]; rfl
            rw [hd0] at hx2
            have HZ := Lib.hid hz; clear hz
            have HD0 := Lib.hid hd0; clear hd0
            go_wp2_with (first | ((with_reducible refine' wpList_len_rd (.tmp 28) 52 rfl ?_ Tryd.underlying52 ?_ hv ?_); exact rfl; exact rfl; simp only [Act.put, List.setIfInBounds_toArray, List.set_cons_succ, List.set_cons_zero]) | ((with_reducible refine' wpList_at1_rd (.tmp 17) (.const (.int .i64 0)) 52 rfl ?_ Tryd.underlying52 sz_u8 ?_ hv (0) ?_ ?_ ?_); exact rfl; exact rfl; (show (_ : Int) = _; omega); omega; simp only [Act.put, List.setIfInBounds_toArray, List.set_cons_succ, List.set_cons_zero]) | ((with_reducible refine' wpList_load_rd (.tmp 18) 5 rfl ?_ ld_u8 ?_ hv (c0.out) ?_); exact rfl; exact rfl; simp only [Act.put, List.setIfInBounds_toArray, List.set_cons_succ, List.set_cons_zero]) | ((with_reducible refine' wpList_at1_rd (.tmp 36) (.const (.int .i64 1)) 52 rfl ?_ Tryd.underlying52 sz_u8 ?_ hv (1) ?_ ?_ ?_); exact rfl; exact rfl; (show (_ : Int) = _; omega); omega; simp only [Act.put, List.setIfInBounds_toArray, List.set_cons_succ, List.set_cons_zero]) | ((with_reducible refine' wpList_load_rd (.tmp 37) 5 rfl ?_ ld_u8 ?_ hv (c1.out) ?_); exact rfl; exact rfl; simp only [Act.put, List.setIfInBounds_toArray, List.set_cons_succ, List.set_cons_zero]))
            go_ret3
            refine ⟨?_, rfl⟩
            rw [HG.out, fin, if_pos (.inl (by rw [← HD.out]; exact HZ.out))]
            rfl
          · go_upto_region 11 with (first | ((with_reducible refine' wpList_len_rd (.tmp 28) 52 rfl ?_ Tryd.underlying52 ?_ hv ?_); exact rfl; exact rfl; simp only [Act.put, List.setIfInBounds_toArray, List.set_cons_succ, List.set_cons_zero]) | ((with_reducible refine' wpList_at1_rd (.tmp 17) (.const (.int .i64 0)) 52 rfl ?_ Tryd.underlying52 sz_u8 ?_ hv (0) ?_ ?_ ?_); exact rfl; exact rfl; (show (_ : Int) = _; omega); omega; simp only [Act.put, List.setIfInBounds_toArray, List.set_cons_succ, List.set_cons_zero]) | ((with_reducible refine' wpList_load_rd (.tmp 18) 5 rfl ?_ ld_u8 ?_ hv (c0.out) ?_); exact rfl; exact rfl; simp only [Act.put, List.setIfInBounds_toArray, List.set_cons_succ, List.set_cons_zero]))
            go_cut [32] (fun s32 w' => s32 = .bool false ∧ w = w')
            case first =>
              by_cases hk0 : 0 < k
              · obtain ⟨d, r', rfl⟩ : ∃ d r', r = d :: r' := by cases r with | nil => (simp at hlr; omega) | cons d r' => exact ⟨d, r', rfl⟩
                have c1 := Lib.hid (bv_at (l := c :: d :: r') (k := 1) (x := d) rfl)
                have hx2 := xor_cell d neg
                have hne : (((fl neg d).toNat : Int) == 0) = false := by
                  rw [beq_eq_false_iff_ne]
                  intro h0
                  apply hz
                  refine ⟨hk0, ?_⟩
                  rw [HD.out, List.head?_map]
                  cases k with
                  | zero => omega
                  | succ k => simp; exact UInt8.toNat_inj.1 (by rw [show (0 : UInt8).toNat = 0 from rfl]; omega)
                have HZ := Lib.hid hz; clear hz
                go_wp2_with (first | ((with_reducible refine' wpList_at1_rd (.tmp 36) (.const (.int .i64 1)) 52 rfl ?_ Tryd.underlying52 sz_u8 ?_ hv (1) ?_ ?_ ?_); exact rfl; exact rfl; (show (_ : Int) = _; omega); omega; simp only [Act.put, List.setIfInBounds_toArray, List.set_cons_succ, List.set_cons_zero]) | ((with_reducible refine' wpList_load_rd (.tmp 37) 5 rfl ?_ ld_u8 ?_ hv (c1.out) ?_); exact rfl; exact rfl; simp only [Act.put, List.setIfInBounds_toArray, List.set_cons_succ, List.set_cons_zero]))
                go_meet
                case rel => exact ⟨rfl, rfl⟩
              · go_wp2
                go_meet
                case rel => exact ⟨rfl, rfl⟩
            case rest =>
              obtain ⟨rfl, rfl⟩ := hcut
              have HZ := Lib.hid hz; clear hz
              go_wp2_with (first | ((with_reducible refine' wpList_cut_b (.tmp 43) (.const (.int .i64 1)) (.tmp 45) 52 rfl ?_ Tryd.underlying52 sz_u8 ?_ hv (1) (k + 1) ?_ ?_ ?_ ?_ ?_); exact rfl; exact rfl; (show (_ : Int) = _; omega); (show (_ : Int) = _; omega); omega; omega; intro v1 hv1; simp only [Act.put, List.setIfInBounds_toArray, List.set_cons_succ, List.set_cons_zero]) | ((with_reducible refine' wpList_len_rd (.tmp 46) 52 rfl ?_ Tryd.underlying52 ?_ hv1 ?_); exact rfl; exact rfl; simp only [Act.put, List.setIfInBounds_toArray, List.set_cons_succ, List.set_cons_zero]))
              go_loop [7, 48] (fun m i => ∃ j : Nat, j ≤ k ∧ i = .int .i64 j ∧ m = .int .u64 (val (ds.take j))) (fun _ i => k - (intOf i).toNat)
              case atStart => exact ⟨0, Nat.zero_le _, rfl, rfl⟩
              case round =>
                obtain ⟨j, hj, rfl, rfl⟩ := hrel
                have hb1 := val_lt (ds.take j)
                rw [List.length_take, HDL.out, Nat.min_eq_left hj] at hb1
                obtain ⟨m, hm⟩ : ∃ m, m = val (ds.take j) := ⟨_, rfl⟩
                rw [← hm] at hb1 ⊢
                have HM := Lib.hid hm; clear hm
                by_cases hjk : j < k
                · obtain ⟨x, hx⟩ : ∃ x, (r.take k)[j]? = some x := get_lt (by rw [List.length_take]; omega)
                  have c2 : (bv (((c :: r).drop 1).take (k + 1 - 1)))[j]? = some (.int .u8 (x.toNat : Int)) := bv_at (by simpa using hx)
                  have C2 := Lib.hid c2
                  have hx3 := xor_cell x neg
                  have hx4 := u8_lt (fl neg x)
                  have hd : ds[j]? = some (fl neg x) := by rw [HD.out, List.getElem?_map, hx]; rfl
                  have hv2 : val (ds.take (j + 1)) = 256 * m + (fl neg x).toNat := by rw [List.take_add_one, hd, HM.out]; exact val_snoc _ _
                  have hm7 : m < 72057594037927936 := by
                    have : 256 ^ j ≤ 256 ^ 7 := Nat.pow_le_pow_right (by omega) (by omega)
                    omega
                  have HV := Lib.hid hv2
                  clear hx hd hv2 c2 hb1
                  go_wp2_with (first | ((with_reducible refine' wpList_at1_rd (.tmp 46) (.tmp 48) 52 rfl ?_ Tryd.underlying52 sz_u8 ?_ hv1 (j) ?_ ?_ ?_); exact rfl; exact rfl; (show (_ : Int) = _; omega); omega; simp only [Act.put, List.setIfInBounds_toArray, List.set_cons_succ, List.set_cons_zero]) | ((with_reducible refine' wpList_load_rd (.tmp 50) 5 rfl ?_ ld_u8 ?_ hv1 (C2.out) ?_); exact rfl; exact rfl; simp only [Act.put, List.setIfInBounds_toArray, List.set_cons_succ, List.set_cons_zero]))
                  rw [or_cell m _ (by omega) hx4]
                  go_round
                  case rel => exact ⟨j + 1, by omega, by go_num, by rw [HV.out]⟩
                  case measure => simp [intOf]; omega
                · go_upto_if 62 with fail
                  have hmv : m = val ds := by rw [HM.out, List.take_of_length_le (by rw [HDL.out]; omega)]
                  have HMV := Lib.hid hmv; clear hmv
                  go_wp2_with fail
                  · have h1 : 0 < (m : Int) / 9223372036854775808 := by assumption
                    go_ret3
                    refine ⟨?_, rfl⟩
                    rw [HG.out, ← HD.out, fin, if_pos (.inr (by rw [← HMV.out]; omega))]
                    rfl
                  · have h1 : (m : Int) / 9223372036854775808 ≤ 0 := by assumption
                    have h2 : 0 < fb neg := by assumption
                    have h3 : neg = true := by cases neg; · simp [fb] at h2
                                               · rfl
                    go_ret3
                    refine ⟨?_, rfl⟩
                    rw [HG.out, ← HD.out]
                    exact (fin_yes HZ.out HDL.out HMV.out (by omega) (by rw [h3, not_back m (by omega)]; rfl)).symm
                  · have h1 : (m : Int) / 9223372036854775808 ≤ 0 := by assumption
                    have h2 : fb neg ≤ 0 := by assumption
                    have h3 : neg = false := by cases neg; · rfl
                                                · simp [fb] at h2
                    go_ret3
                    refine ⟨?_, rfl⟩
                    rw [HG.out, ← HD.out]
                    exact (fin_yes HZ.out HDL.out HMV.out (by omega) (by rw [h3]; rfl)).symm

/-! ### the specification's decoder -/
theorem canon {b : List UInt8} {neg : Bool} {c : UInt8} {r ds : List UInt8} {k m : Nat} {n : Int} (hb : b = c :: r) (hq : (fl neg c).toNat = 128 + k) (hk : k ≤ r.length) (hds : ds = (r.take k).map (fl neg)) (hm : m = val ds)
    (hv : n = if neg then -1 - (m : Int) else m) : (enc n = b.take (k + 1)) ↔ ¬(0 < k ∧ ds.head? = some 0) := by
  have hl : ds.length = k := by rw [hds, List.length_map, List.length_take]; omega
  obtain ⟨e1, e2⟩ := mag_sgn neg m
  have hc : c = fl neg (bt (128 + k)) := by
    apply fl_inj (neg := neg)
    rw [fl_fl]
    apply u8_ext
    have := u8_lt (fl neg c)
    rw [bt_toNat]; omega
  have hr : r.take k = ds.map (fl neg) := by rw [hds, fl_map]
  subst hb
  rw [List.take_succ_cons, hr]
  subst hv
  unfold enc
  rw [e1, e2, List.map_cons]
  constructor
  · intro h ⟨hk0, h0⟩
    simp only [List.cons.injEq] at h
    have h3 : be m (nd m) = ds := by
      have := congrArg (List.map (fl neg)) h.2
      rwa [fl_map, fl_map] at this
    exact be_head m (by rw [h3]; exact h0)
  · intro h
    have hd : ds.head? ≠ some 0 := by
      intro h0
      apply h
      refine ⟨?_, h0⟩
      cases ds with
      | nil => simp at h0
      | cons a l => rw [← hl]; simp
    have hnd := nd_val hd
    rw [hm, hnd, be_val, hl, ← hc]

theorem get_of_take {α : Type} {l : List α} {k j : Nat} {x : α} (h : (l.take k)[j]? = some x) : l[j]? = some x := by
  rw [List.getElem?_take] at h
  split at h
  · exact h
  · cases h
theorem val_take (l : List UInt8) (j : Nat) : val (l.take j) ≤ val l := by
  conv => rhs; rw [← List.take_append_drop j l]
  unfold val
  rw [List.foldl_append, val_foldl (l.drop j)]
  have h1 : 1 ≤ 256 ^ (l.drop j).length := Nat.pow_pos (by omega)
  have h2 := Nat.mul_le_mul_left (List.foldl (fun m c => 256 * m + c.toNat) 0 (l.take j)) h1
  omega

set_option maxRecDepth 100000 in
set_option maxHeartbeats 1600000 in
theorem refget_any (v : Value) (n : Nat) (b : List UInt8) (w : World) (hv : Rd w 1 v n (bv b)) :
    Calls Tryd.prog 41 #[v] w fun e w' => e = .returned (R3 (getInt b)) ∧ Below w.heap.size w w' := by
  have hn := hv.len
  unfold maxLen at hn
  have hl : b.length = n := by have := hv.1; rw [bv_length] at this; omega
  cases b with
  | nil =>
    obtain rfl : n = 0 := by simpa using hl.symm
    clear hl
    go_enter Tryd.func41, Tryd.ntmps41
    go_wp2_with ((with_reducible refine' wpList_len_rd (.tmp 11) 52 rfl ?_ Tryd.underlying52 ?_ hv ?_); exact rfl; exact rfl; simp only [Act.put, List.setIfInBounds_toArray, List.set_cons_succ, List.set_cons_zero])
    go_ret3
    exact ⟨rfl, Below.refl _ _⟩
  | cons c r =>
    have c0 := Lib.hid (bv_at (l := c :: r) (k := 0) (x := c) rfl)
    have hn1 : 0 < n := by rw [← hl]; simp
    have hc := u8_lt c
    obtain ⟨neg, hneg⟩ : ∃ neg : Bool, neg = decide (c.toNat < 128) := ⟨_, rfl⟩
    have hq := fl_head c
    rw [← hneg] at hq
    have HL := Lib.hid hl; clear hl
    obtain ⟨k, hqe⟩ : ∃ k, (fl neg c).toNat = 128 + k := ⟨_, (Nat.add_sub_cancel' hq).symm⟩
    have hq2 : k < 128 := by have := u8_lt (fl neg c); omega
    have hd : decide ((c.toNat : Int) < 128) = neg := by rw [hneg, Bool.eq_iff_iff, decide_eq_true_iff, decide_eq_true_iff]; omega
    have HN := Lib.hid hneg; clear hneg
    have HQ := Lib.hid hqe; clear hqe hq
    by_cases h8 : 8 < k
    · have hf : c.toNat < 119 ∨ 136 < c.toNat := by
        have := HQ.out
        cases neg
        · rw [fl_false] at this; omega
        · have := fl_true c; omega
      rcases hf with hf | hf
      · have h119 : decide ((c.toNat : Int) < 119) = true := decide_eq_true (by omega)
        clear hf hd
        go_enter Tryd.func41, Tryd.ntmps41
        go_wp2_with (first | ((with_reducible refine' wpList_len_rd (.tmp 11) 52 rfl ?_ Tryd.underlying52 ?_ hv ?_); exact rfl; exact rfl; simp only [Act.put, List.setIfInBounds_toArray, List.set_cons_succ, List.set_cons_zero]) | ((with_reducible refine' wpList_at1_rd (.tmp 14) (.const (.int .i64 0)) 52 rfl ?_ Tryd.underlying52 sz_u8 ?_ hv (0) ?_ ?_ ?_); exact rfl; exact rfl; (show (_ : Int) = _; omega); omega; simp only [Act.put, List.setIfInBounds_toArray, List.set_cons_succ, List.set_cons_zero]) | ((with_reducible refine' wpList_load_rd (.tmp 15) 5 rfl ?_ ld_u8 ?_ hv (c0.out) ?_); exact rfl; exact rfl; simp only [Act.put, List.setIfInBounds_toArray, List.set_cons_succ, List.set_cons_zero]))
        go_ret3
        exact ⟨by rw [getInt, ← HN.out, HQ.out, if_pos (by omega)]; rfl, Below.refl _ _⟩
      · have h119 : decide ((c.toNat : Int) < 119) = false := decide_eq_false (by omega)
        have h136 : decide (136 < (c.toNat : Int)) = true := decide_eq_true (by omega)
        clear hf hd
        go_enter Tryd.func41, Tryd.ntmps41
        go_wp2_with (first | ((with_reducible refine' wpList_len_rd (.tmp 11) 52 rfl ?_ Tryd.underlying52 ?_ hv ?_); exact rfl; exact rfl; simp only [Act.put, List.setIfInBounds_toArray, List.set_cons_succ, List.set_cons_zero]) | ((with_reducible refine' wpList_at1_rd (.tmp 14) (.const (.int .i64 0)) 52 rfl ?_ Tryd.underlying52 sz_u8 ?_ hv (0) ?_ ?_ ?_); exact rfl; exact rfl; (show (_ : Int) = _; omega); omega; simp only [Act.put, List.setIfInBounds_toArray, List.set_cons_succ, List.set_cons_zero]) | ((with_reducible refine' wpList_load_rd (.tmp 15) 5 rfl ?_ ld_u8 ?_ hv (c0.out) ?_); exact rfl; exact rfl; simp only [Act.put, List.setIfInBounds_toArray, List.set_cons_succ, List.set_cons_zero]))
        go_ret3
        exact ⟨by rw [getInt, ← HN.out, HQ.out, if_pos (by omega)]; rfl, Below.refl _ _⟩
    · have h119 : decide ((c.toNat : Int) < 119) = false := decide_eq_false (by
        have := HQ.out
        cases neg
        · rw [fl_false] at this; omega
        · have := fl_true c; omega)
      have h136 : decide (136 < (c.toNat : Int)) = false := decide_eq_false (by
        have := HQ.out
        cases neg
        · rw [fl_false] at this; omega
        · have := fl_true c; omega)
      cases neg
      · have hk6 : (c.toNat : Int) - 128 = k := by have := HQ.out; rw [fl_false] at this; omega
        have hk8 : ¬ 8 < k := h8
        have hgt : getInt (c :: r) = if r.length < k then (0, 0, 3) else fin false ((r.take k).map (fl false)) := by
          rw [getInt, ← HN.out, HQ.out, if_neg (by omega), show 128 + k - 128 = k by omega]
        have HG := Lib.hid hgt; clear hgt
        go_enter Tryd.func41, Tryd.ntmps41
        by_cases hlk : n ≤ k
        · go_wp2_with (first | ((with_reducible refine' wpList_len_rd (.tmp 11) 52 rfl ?_ Tryd.underlying52 ?_ hv ?_); exact rfl; exact rfl; simp only [Act.put, List.setIfInBounds_toArray, List.set_cons_succ, List.set_cons_zero]) | ((with_reducible refine' wpList_at1_rd (.tmp 14) (.const (.int .i64 0)) 52 rfl ?_ Tryd.underlying52 sz_u8 ?_ hv (0) ?_ ?_ ?_); exact rfl; exact rfl; (show (_ : Int) = _; omega); omega; simp only [Act.put, List.setIfInBounds_toArray, List.set_cons_succ, List.set_cons_zero]) | ((with_reducible refine' wpList_load_rd (.tmp 15) 5 rfl ?_ ld_u8 ?_ hv (c0.out) ?_); exact rfl; exact rfl; simp only [Act.put, List.setIfInBounds_toArray, List.set_cons_succ, List.set_cons_zero]) | ((with_reducible refine' wpList_len_rd (.tmp 30) 52 rfl ?_ Tryd.underlying52 ?_ hv ?_); exact rfl; exact rfl; simp only [Act.put, List.setIfInBounds_toArray, List.set_cons_succ, List.set_cons_zero]))
          go_ret3
          have hl2 := HL.out
          rw [List.length_cons] at hl2
          exact ⟨by rw [HG.out, if_pos (by omega)]; rfl, Below.refl _ _⟩
        · have hlr : k ≤ r.length := by have := HL.out; rw [List.length_cons] at this; omega
          have hl3 : k < n := by omega
          obtain ⟨ds, hds⟩ : ∃ ds, ds = (r.take k).map (fl false) := ⟨_, rfl⟩
          have hdl : ds.length = k := by rw [hds, List.length_map, List.length_take]; omega
          have HD := Lib.hid hds; clear hds
          have HDL := Lib.hid hdl; clear hdl
          go_wp2_with (first | ((with_reducible refine' wpList_len_rd (.tmp 11) 52 rfl ?_ Tryd.underlying52 ?_ hv ?_); exact rfl; exact rfl; simp only [Act.put, List.setIfInBounds_toArray, List.set_cons_succ, List.set_cons_zero]) | ((with_reducible refine' wpList_at1_rd (.tmp 14) (.const (.int .i64 0)) 52 rfl ?_ Tryd.underlying52 sz_u8 ?_ hv (0) ?_ ?_ ?_); exact rfl; exact rfl; (show (_ : Int) = _; omega); omega; simp only [Act.put, List.setIfInBounds_toArray, List.set_cons_succ, List.set_cons_zero]) | ((with_reducible refine' wpList_load_rd (.tmp 15) 5 rfl ?_ ld_u8 ?_ hv (c0.out) ?_); exact rfl; exact rfl; simp only [Act.put, List.setIfInBounds_toArray, List.set_cons_succ, List.set_cons_zero]) | ((with_reducible refine' wpList_len_rd (.tmp 30) 52 rfl ?_ Tryd.underlying52 ?_ hv ?_); exact rfl; exact rfl; simp only [Act.put, List.setIfInBounds_toArray, List.set_cons_succ, List.set_cons_zero]))
          go_loop [7, 8] (fun m i => ∃ j : Nat, j ≤ k ∧ i = .int .i64 ((j : Int) + 1) ∧ m = .int .i64 (val (ds.take j)) ∧ val (ds.take j) < 9223372036854775808) (fun _ i => k + 1 - (intOf i).toNat)
          case atStart => exact ⟨0, Nat.zero_le _, rfl, rfl, by simp [val]⟩
          case round =>
            obtain ⟨j, hj, rfl, rfl, hmb⟩ := hrel
            obtain ⟨m, hm⟩ : ∃ m, m = val (ds.take j) := ⟨_, rfl⟩
            rw [← hm] at hmb ⊢
            have HM := Lib.hid hm; clear hm
            by_cases hjk : j < k
            · obtain ⟨x, hx⟩ : ∃ x, (r.take k)[j]? = some x := get_lt (by rw [List.length_take]; omega)
              have c2 : (bv (c :: r))[j + 1]? = some (.int .u8 (x.toNat : Int)) := bv_at (by rw [List.getElem?_cons_succ]; exact get_of_take hx)
              have C2 := Lib.hid c2
              have hx4 := u8_lt (fl false x)
              have hx6 := u8_lt x
              have hx5 : (x.toNat : Int) = ((fl false x).toNat : Int) := by rw [fl_false]
              have hdx : ds[j]? = some (fl false x) := by rw [HD.out, List.getElem?_map, hx]; rfl
              have hv2 : val (ds.take (j + 1)) = 256 * m + (fl false x).toNat := by rw [List.take_add_one, hdx, HM.out]; exact val_snoc _ _
              have HV := Lib.hid hv2
              clear hx hdx hv2 c2
              by_cases hbig : 36028797018963967 < m
              · have hge : 9223372036854775808 ≤ val ds := by
                  have h1 := val_take ds (j + 1)
                  have h2 := HV.out
                  omega
                have HB := Lib.hid hge; clear hge
                go_wp2_with (first | ((with_reducible refine' wpList_at1_rd (.tmp 40) (.tmp 41) 52 rfl ?_ Tryd.underlying52 sz_u8 ?_ hv (j + 1) ?_ ?_ ?_); exact rfl; exact rfl; (show (_ : Int) = _; omega); omega; simp only [Act.put, List.setIfInBounds_toArray, List.set_cons_succ, List.set_cons_zero]) | ((with_reducible refine' wpList_load_rd (.tmp 42) 5 rfl ?_ ld_u8 ?_ hv (C2.out) ?_); exact rfl; exact rfl; simp only [Act.put, List.setIfInBounds_toArray, List.set_cons_succ, List.set_cons_zero]))
                go_ret3
                have hl2 := HL.out
                rw [List.length_cons] at hl2
                exact ⟨by rw [HG.out, if_neg (by omega), ← HD.out, fin, if_pos (.inr HB.out)]; rfl, Below.refl _ _⟩
              · go_wp2_with (first | ((with_reducible refine' wpList_at1_rd (.tmp 40) (.tmp 41) 52 rfl ?_ Tryd.underlying52 sz_u8 ?_ hv (j + 1) ?_ ?_ ?_); exact rfl; exact rfl; (show (_ : Int) = _; omega); omega; simp only [Act.put, List.setIfInBounds_toArray, List.set_cons_succ, List.set_cons_zero]) | ((with_reducible refine' wpList_load_rd (.tmp 42) 5 rfl ?_ ld_u8 ?_ hv (C2.out) ?_); exact rfl; exact rfl; simp only [Act.put, List.setIfInBounds_toArray, List.set_cons_succ, List.set_cons_zero]))
                go_round
                case rel => exact ⟨j + 1, by omega, by go_num, by rw [HV.out]; go_num, by rw [HV.out]; omega⟩
                case measure => simp [intOf]; omega
            · obtain rfl : j = k := by omega
              have hmv : m = val ds := by rw [HM.out, List.take_of_length_le (by rw [HDL.out]; omega)]
              have HMV := Lib.hid hmv; clear hmv HM
              obtain ⟨v', hsl, hrd⟩ := cut_run_to Tryd.underlying52 sz_u8 hv .i64 (j + 1) (z := (j : Int) + 1) (by omega) (by omega)
              rw [Nat.mul_one, bv_take] at hrd
              have hcan := canon (b := c :: r) (n := (m : Int)) rfl HQ.out hlr HD.out HMV.out rfl
              obtain ⟨pre, hpre⟩ : ∃ pre, pre = (c :: r).take (j + 1) := ⟨_, rfl⟩
              rw [← hpre] at hrd hcan
              have HPR := Lib.hid hpre; clear hpre
              have HC := Lib.hid hcan; clear hcan
              have hwr : IntKind.i64.wrap ((j : Int) + 1) = (j : Int) + 1 := IntWalk.i64_in _ (by omega)
              go_upto_region 24 with fail
              go_cut [67] (fun s w' => s = .bool (decide (0 < j ∧ ds.head? = some 0)) ∧ Below w.heap.size w w')
              case first =>
                go_region_with (first | (go_at_call 30; (with_reducible refine (refint_any _ _ (by omega) (by omega)).mono ?_); rintro e w' ⟨v1, rfl, ho1, hb1⟩) | (go_at_call 58; (with_reducible refine (same_any _ _ _ _ _ _ _ (Rd.of_own ho1) (Rd.below (rd_drew0 hrd) hb1)).mono ?_); rintro e w' ⟨rfl, nq, rfl⟩))
                all_goals
                  go_wp2_with fail
                  go_meet
                case rel =>
                  refine ⟨?_, below_drewN (below_undrew hb1) nq⟩
                  congr 1
                  rw [Bool.eq_iff_iff, Bool.not_eq_true', decide_eq_false_iff_not, decide_eq_true_iff, HC.out]
                  exact Classical.not_not
              case rest =>
                obtain ⟨rfl, hbl⟩ := hcut
                by_cases hz : 0 < j ∧ ds.head? = some 0
                · have hzb : decide (0 < j ∧ ds.head? = some 0) = true := decide_eq_true hz
                  have HZ := Lib.hid hz; clear hz
                  go_wp2_with fail
                  go_ret3
                  have hl2 := HL.out
                  rw [List.length_cons] at hl2
                  exact ⟨by rw [HG.out, if_neg (by omega), ← HD.out, fin, if_pos (.inl HZ.out.2)]; rfl, hbl⟩
                · have hzb : decide (0 < j ∧ ds.head? = some 0) = false := decide_eq_false hz
                  have HZ := Lib.hid hz; clear hz
                  go_wp2_with fail
                  go_ret3
                  have hl2 := HL.out
                  rw [List.length_cons] at hl2
                  refine ⟨?_, hbl⟩
                  rw [HG.out, if_neg (by omega), ← HD.out]
                  exact (fin_yes HZ.out HDL.out HMV.out hmb (x := (m : Int)) rfl).symm
      · have hk6 : (127 : Int) - c.toNat = k := by have := HQ.out; have := fl_true c; omega
        have hk8 : ¬ 8 < k := h8
        have hgt : getInt (c :: r) = if r.length < k then (0, 0, 3) else fin true ((r.take k).map (fl true)) := by
          rw [getInt, ← HN.out, HQ.out, if_neg (by omega), show 128 + k - 128 = k by omega]
        have HG := Lib.hid hgt; clear hgt
        go_enter Tryd.func41, Tryd.ntmps41
        by_cases hlk : n ≤ k
        · go_wp2_with (first | ((with_reducible refine' wpList_len_rd (.tmp 11) 52 rfl ?_ Tryd.underlying52 ?_ hv ?_); exact rfl; exact rfl; simp only [Act.put, List.setIfInBounds_toArray, List.set_cons_succ, List.set_cons_zero]) | ((with_reducible refine' wpList_at1_rd (.tmp 14) (.const (.int .i64 0)) 52 rfl ?_ Tryd.underlying52 sz_u8 ?_ hv (0) ?_ ?_ ?_); exact rfl; exact rfl; (show (_ : Int) = _; omega); omega; simp only [Act.put, List.setIfInBounds_toArray, List.set_cons_succ, List.set_cons_zero]) | ((with_reducible refine' wpList_load_rd (.tmp 15) 5 rfl ?_ ld_u8 ?_ hv (c0.out) ?_); exact rfl; exact rfl; simp only [Act.put, List.setIfInBounds_toArray, List.set_cons_succ, List.set_cons_zero]) | ((with_reducible refine' wpList_len_rd (.tmp 30) 52 rfl ?_ Tryd.underlying52 ?_ hv ?_); exact rfl; exact rfl; simp only [Act.put, List.setIfInBounds_toArray, List.set_cons_succ, List.set_cons_zero]))
          go_ret3
          have hl2 := HL.out
          rw [List.length_cons] at hl2
          exact ⟨by rw [HG.out, if_pos (by omega)]; rfl, Below.refl _ _⟩
        · have hlr : k ≤ r.length := by have := HL.out; rw [List.length_cons] at this; omega
          have hl3 : k < n := by omega
          obtain ⟨ds, hds⟩ : ∃ ds, ds = (r.take k).map (fl true) := ⟨_, rfl⟩
          have hdl : ds.length = k := by rw [hds, List.length_map, List.length_take]; omega
          have HD := Lib.hid hds; clear hds
          have HDL := Lib.hid hdl; clear hdl
          go_wp2_with (first | ((with_reducible refine' wpList_len_rd (.tmp 11) 52 rfl ?_ Tryd.underlying52 ?_ hv ?_); exact rfl; exact rfl; simp only [Act.put, List.setIfInBounds_toArray, List.set_cons_succ, List.set_cons_zero]) | ((with_reducible refine' wpList_at1_rd (.tmp 14) (.const (.int .i64 0)) 52 rfl ?_ Tryd.underlying52 sz_u8 ?_ hv (0) ?_ ?_ ?_); exact rfl; exact rfl; (show (_ : Int) = _; omega); omega; simp only [Act.put, List.setIfInBounds_toArray, List.set_cons_succ, List.set_cons_zero]) | ((with_reducible refine' wpList_load_rd (.tmp 15) 5 rfl ?_ ld_u8 ?_ hv (c0.out) ?_); exact rfl; exact rfl; simp only [Act.put, List.setIfInBounds_toArray, List.set_cons_succ, List.set_cons_zero]) | ((with_reducible refine' wpList_len_rd (.tmp 30) 52 rfl ?_ Tryd.underlying52 ?_ hv ?_); exact rfl; exact rfl; simp only [Act.put, List.setIfInBounds_toArray, List.set_cons_succ, List.set_cons_zero]))
          go_loop [7, 8] (fun m i => ∃ j : Nat, j ≤ k ∧ i = .int .i64 ((j : Int) + 1) ∧ m = .int .i64 (val (ds.take j)) ∧ val (ds.take j) < 9223372036854775808) (fun _ i => k + 1 - (intOf i).toNat)
          case atStart => exact ⟨0, Nat.zero_le _, rfl, rfl, by simp [val]⟩
          case round =>
            obtain ⟨j, hj, rfl, rfl, hmb⟩ := hrel
            obtain ⟨m, hm⟩ : ∃ m, m = val (ds.take j) := ⟨_, rfl⟩
            rw [← hm] at hmb ⊢
            have HM := Lib.hid hm; clear hm
            by_cases hjk : j < k
            · obtain ⟨x, hx⟩ : ∃ x, (r.take k)[j]? = some x := get_lt (by rw [List.length_take]; omega)
              have c2 : (bv (c :: r))[j + 1]? = some (.int .u8 (x.toNat : Int)) := bv_at (by rw [List.getElem?_cons_succ]; exact get_of_take hx)
              have C2 := Lib.hid c2
              have hx4 := u8_lt (fl true x)
              have hx6 := u8_lt x
              have hx5 : (255 : Int) - x.toNat = ((fl true x).toNat : Int) := by rw [fl_true]
              have hdx : ds[j]? = some (fl true x) := by rw [HD.out, List.getElem?_map, hx]; rfl
              have hv2 : val (ds.take (j + 1)) = 256 * m + (fl true x).toNat := by rw [List.take_add_one, hdx, HM.out]; exact val_snoc _ _
              have HV := Lib.hid hv2
              clear hx hdx hv2 c2
              by_cases hbig : 36028797018963967 < m
              · have hge : 9223372036854775808 ≤ val ds := by
                  have h1 := val_take ds (j + 1)
                  have h2 := HV.out
                  omega
                have HB := Lib.hid hge; clear hge
                go_wp2_with (first | ((with_reducible refine' wpList_at1_rd (.tmp 40) (.tmp 41) 52 rfl ?_ Tryd.underlying52 sz_u8 ?_ hv (j + 1) ?_ ?_ ?_); exact rfl; exact rfl; (show (_ : Int) = _; omega); omega; simp only [Act.put, List.setIfInBounds_toArray, List.set_cons_succ, List.set_cons_zero]) | ((with_reducible refine' wpList_load_rd (.tmp 42) 5 rfl ?_ ld_u8 ?_ hv (C2.out) ?_); exact rfl; exact rfl; simp only [Act.put, List.setIfInBounds_toArray, List.set_cons_succ, List.set_cons_zero]))
                go_ret3
                have hl2 := HL.out
                rw [List.length_cons] at hl2
                exact ⟨by rw [HG.out, if_neg (by omega), ← HD.out, fin, if_pos (.inr HB.out)]; rfl, Below.refl _ _⟩
              · go_wp2_with (first | ((with_reducible refine' wpList_at1_rd (.tmp 40) (.tmp 41) 52 rfl ?_ Tryd.underlying52 sz_u8 ?_ hv (j + 1) ?_ ?_ ?_); exact rfl; exact rfl; (show (_ : Int) = _; omega); omega; simp only [Act.put, List.setIfInBounds_toArray, List.set_cons_succ, List.set_cons_zero]) | ((with_reducible refine' wpList_load_rd (.tmp 42) 5 rfl ?_ ld_u8 ?_ hv (C2.out) ?_); exact rfl; exact rfl; simp only [Act.put, List.setIfInBounds_toArray, List.set_cons_succ, List.set_cons_zero]))
                go_round
                case rel => exact ⟨j + 1, by omega, by go_num, by rw [HV.out]; go_num, by rw [HV.out]; omega⟩
                case measure => simp [intOf]; omega
            · obtain rfl : j = k := by omega
              have hmv : m = val ds := by rw [HM.out, List.take_of_length_le (by rw [HDL.out]; omega)]
              have HMV := Lib.hid hmv; clear hmv HM
              obtain ⟨v', hsl, hrd⟩ := cut_run_to Tryd.underlying52 sz_u8 hv .i64 (j + 1) (z := (j : Int) + 1) (by omega) (by omega)
              rw [Nat.mul_one, bv_take] at hrd
              have hcan := canon (b := c :: r) (n := -1 - (m : Int)) rfl HQ.out hlr HD.out HMV.out rfl
              obtain ⟨pre, hpre⟩ : ∃ pre, pre = (c :: r).take (j + 1) := ⟨_, rfl⟩
              rw [← hpre] at hrd hcan
              have HPR := Lib.hid hpre; clear hpre
              have HC := Lib.hid hcan; clear hcan
              have hwr : IntKind.i64.wrap ((j : Int) + 1) = (j : Int) + 1 := IntWalk.i64_in _ (by omega)
              go_upto_region 24 with fail
              go_cut [67] (fun s w' => s = .bool (decide (0 < j ∧ ds.head? = some 0)) ∧ Below w.heap.size w w')
              case first =>
                go_region_with (first | (go_at_call 30; (with_reducible refine (refint_any _ _ (by omega) (by omega)).mono ?_); rintro e w' ⟨v1, rfl, ho1, hb1⟩) | (go_at_call 58; (with_reducible refine (same_any _ _ _ _ _ _ _ (Rd.of_own ho1) (Rd.below (rd_drew0 hrd) hb1)).mono ?_); rintro e w' ⟨rfl, nq, rfl⟩))
                all_goals
                  go_wp2_with fail
                  go_meet
                case rel =>
                  refine ⟨?_, below_drewN (below_undrew hb1) nq⟩
                  congr 1
                  rw [Bool.eq_iff_iff, Bool.not_eq_true', decide_eq_false_iff_not, decide_eq_true_iff, HC.out]
                  exact Classical.not_not
              case rest =>
                obtain ⟨rfl, hbl⟩ := hcut
                by_cases hz : 0 < j ∧ ds.head? = some 0
                · have hzb : decide (0 < j ∧ ds.head? = some 0) = true := decide_eq_true hz
                  have HZ := Lib.hid hz; clear hz
                  go_wp2_with fail
                  go_ret3
                  have hl2 := HL.out
                  rw [List.length_cons] at hl2
                  exact ⟨by rw [HG.out, if_neg (by omega), ← HD.out, fin, if_pos (.inl HZ.out.2)]; rfl, hbl⟩
                · have hzb : decide (0 < j ∧ ds.head? = some 0) = false := decide_eq_false hz
                  have HZ := Lib.hid hz; clear hz
                  go_wp2_with fail
                  go_ret3
                  have hl2 := HL.out
                  rw [List.length_cons] at hl2
                  refine ⟨?_, hbl⟩
                  rw [HG.out, if_neg (by omega), ← HD.out]
                  exact (fin_yes HZ.out HDL.out HMV.out hmb (x := -1 - (m : Int)) rfl).symm
end Go.Proofs.YtajglgkjpagcjaaDoor.Wi
namespace Go.Proofs.YtajglgkjpagcjaaDoor.Wi
open Go Go.RowKit Pu Lb

/-! ### counters -/
/-! ### byte strings -/
/-- a string and two numbers as a result -/
def RS (x : List UInt8 × Nat × Nat) : Value := .tuple #[.string ⟨x.1.toArray⟩, .int .i64 (x.2.1 : Int), .int .i64 (x.2.2 : Int)]

end Go.Proofs.YtajglgkjpagcjaaDoor.Wi
namespace Go.Proofs.YtajglgkjpagcjaaDoor.Wi
open Go Go.RowKit Pu Lb

set_option maxRecDepth 100000 in
theorem ints_any (v : Value) (n : Nat) (l : List Int) (w : World) (hv : Rd w 1 v n (iv l)) (hl0 : IntsOk l) (hT : (encList enc l).length ≤ 70368744177664) :
    Calls Tryd.prog 60 #[v] w fun e w' => ∃ v, e = .returned v ∧ w'.ownsRow w.heap.size 5 1 v (encList enc l).length (bv (encList enc l)) ∧ Below w.heap.size w w' := by
  have hn := hv.len
  unfold maxLen at hn
  have hl : l.length = n := by have := hv.1; rw [iv_length] at this; omega
  have HL := Lib.hid hl; clear hl
  have hT1 := encTo_le enc l
  obtain ⟨T, hTe⟩ : ∃ T, T = (encList enc l).length := ⟨_, rfl⟩
  rw [← hTe] at hT hT1
  have HT := Lib.hid hTe; clear hTe
  go_enter Tryd.func60, Tryd.ntmps60
  go_wp2_with (first | ((with_reducible refine' wpList_len_rd (.tmp 6) 25 rfl ?_ Tryd.underlying25 ?_ hv ?_); exact rfl; exact rfl; simp only [Act.put, List.setIfInBounds_toArray, List.set_cons_succ, List.set_cons_zero]) | (go_at_call 26; (with_reducible refine (int_any _ _ (by omega) (by omega)).mono ?_); rintro e w' ⟨v1, rfl, ho1, hb1⟩; rw [← HL.out, ← encTo_zero enc l] at ho1; have hv1 := hv.below hb1) | ((with_reducible refine' wpList_len_rd (.tmp 9) 25 rfl ?_ Tryd.underlying25 ?_ hv1 ?_); exact rfl; exact rfl; simp only [Act.put, List.setIfInBounds_toArray, List.set_cons_succ, List.set_cons_zero]))
  go_loopw [3, 11] (fun x i wr => ∃ k : Nat, k ≤ n ∧ i = .int .i64 k ∧ wr.ownsRow w.heap.size 5 1 x (encTo enc l k).length (bv (encTo enc l k)) ∧ Below w.heap.size w wr) (fun _ i _ => n - (intOf i).toNat)
  case atStart => exact ⟨0, Nat.zero_le _, rfl, ho1, hb1⟩
  case round =>
    obtain ⟨k, hk, rfl, hown, hbl⟩ := hrel
    have HO := Lib.hid hown; clear hown
    have hg := hv.below hbl
    by_cases hlt : k < n
    · obtain ⟨x, hx⟩ : ∃ x, l[k]? = some x := get_lt (by rw [HL.out]; exact hlt)
      have C := Lib.hid (iv_at hx)
      have hxb := hl0 x (mem_of_get hx)
      have hst := encTo_step enc hx
      have h2 := hT1 (k + 1)
      rw [hst, List.length_append] at h2
      have HS := Lib.hid hst; clear hst hx
      have h1 := bv_one (enc x)
      go_wp2_with (first | ((with_reducible refine' wpList_at1_rd (.tmp 9) (.tmp 11) 25 rfl ?_ Tryd.underlying25 sz_int ?_ hg (k) ?_ ?_ ?_); exact rfl; exact rfl; (show (_ : Int) = _; omega); omega; simp only [Act.put, List.setIfInBounds_toArray, List.set_cons_succ, List.set_cons_zero]) | ((with_reducible refine' wpList_load_rd (.tmp 13) 3 rfl ?_ ld_int ?_ hg (C.out) ?_); exact rfl; exact rfl; simp only [Act.put, List.setIfInBounds_toArray, List.set_cons_succ, List.set_cons_zero]) | (go_at_call 26; (with_reducible refine (int_any _ _ hxb.1 hxb.2).mono ?_); rintro e w' ⟨v2, rfl, ho2, hb2⟩) | ((with_reducible refine' wpList_append_rd (.tmp 15) (.tmp 17) 52 rfl ?_ Tryd.underlying52 inf_u8 ?_ ?_ ?_ (own_below HO.out hb2) ?_ (Rd.of_own ho2) h1 ?_ ?_ (Nat.le_trans hbl.size hb2.size) ?_); exact rfl; exact rfl; omega; exact rfl; exact rfl; (first | omega | (unfold maxLen; omega)); omega; intro v3 w3 ho3 hb3; simp only [Act.put, List.setIfInBounds_toArray, List.set_cons_succ, List.set_cons_zero]))
      rw [← bv_append, ← List.length_append, ← HS.out] at ho3
      have HO3 := Lib.hid ho3; clear ho3
      go_roundw
      case rel => exact ⟨k + 1, by omega, by go_num, HO3.out, (hbl.trans (hb2.mono hbl.size)).trans hb3⟩
      case measure => simp [intOf]; omega
    · go_wp2_with fail
      go_ret
      refine ⟨_, rfl, ?_, hbl⟩
      rw [← encTo_all enc l (k := k) (by rw [HL.out]; omega)]
      exact HO.out

set_option maxRecDepth 100000 in
theorem refints_any (v : Value) (n : Nat) (l : List Int) (w : World) (hv : Rd w 1 v n (iv l)) (hl0 : IntsOk l) (hT : (encList enc l).length ≤ 70368744177664) :
    Calls Tryd.prog 63 #[v] w fun e w' => ∃ v, e = .returned v ∧ w'.ownsRow w.heap.size 5 1 v (encList enc l).length (bv (encList enc l)) ∧ Below w.heap.size w w' := by
  have hn := hv.len
  unfold maxLen at hn
  have hl : l.length = n := by have := hv.1; rw [iv_length] at this; omega
  have HL := Lib.hid hl; clear hl
  have hT1 := encTo_le enc l
  obtain ⟨T, hTe⟩ : ∃ T, T = (encList enc l).length := ⟨_, rfl⟩
  rw [← hTe] at hT hT1
  have HT := Lib.hid hTe; clear hTe
  go_enter Tryd.func63, Tryd.ntmps63
  go_wp2_with (first | ((with_reducible refine' wpList_len_rd (.tmp 5) 25 rfl ?_ Tryd.underlying25 ?_ hv ?_); exact rfl; exact rfl; simp only [Act.put, List.setIfInBounds_toArray, List.set_cons_succ, List.set_cons_zero]) | (go_at_call 30; (with_reducible refine (refint_any _ _ (by omega) (by omega)).mono ?_); rintro e w' ⟨v1, rfl, ho1, hb1⟩; rw [← HL.out, ← encTo_zero enc l] at ho1; have hv1 := hv.below hb1))
  go_loopw [3, 4] (fun x i wr => ∃ k : Nat, k ≤ n ∧ i = .int .i64 k ∧ wr.ownsRow w.heap.size 5 1 x (encTo enc l k).length (bv (encTo enc l k)) ∧ Below w.heap.size w wr) (fun _ i _ => n - (intOf i).toNat)
  case atStart => exact ⟨0, Nat.zero_le _, rfl, ho1, hb1⟩
  case round =>
    obtain ⟨k, hk, rfl, hown, hbl⟩ := hrel
    have HO := Lib.hid hown; clear hown
    have hg := hv.below hbl
    by_cases hlt : k < n
    · obtain ⟨x, hx⟩ : ∃ x, l[k]? = some x := get_lt (by rw [HL.out]; exact hlt)
      have C := Lib.hid (iv_at hx)
      have hxb := hl0 x (mem_of_get hx)
      have hst := encTo_step enc hx
      have h2 := hT1 (k + 1)
      rw [hst, List.length_append] at h2
      have HS := Lib.hid hst; clear hst hx
      have h1 := bv_one (enc x)
      go_wp2_with (first | ((with_reducible refine' wpList_len_rd (.tmp 9) 25 rfl ?_ Tryd.underlying25 ?_ hg ?_); exact rfl; exact rfl; simp only [Act.put, List.setIfInBounds_toArray, List.set_cons_succ, List.set_cons_zero]) | ((with_reducible refine' wpList_at1_rd (.tmp 15) (.tmp 16) 25 rfl ?_ Tryd.underlying25 sz_int ?_ hg (k) ?_ ?_ ?_); exact rfl; exact rfl; (show (_ : Int) = _; omega); omega; simp only [Act.put, List.setIfInBounds_toArray, List.set_cons_succ, List.set_cons_zero]) | ((with_reducible refine' wpList_load_rd (.tmp 17) 3 rfl ?_ ld_int ?_ hg (C.out) ?_); exact rfl; exact rfl; simp only [Act.put, List.setIfInBounds_toArray, List.set_cons_succ, List.set_cons_zero]) | (go_at_call 30; (with_reducible refine (refint_any _ _ hxb.1 hxb.2).mono ?_); rintro e w' ⟨v2, rfl, ho2, hb2⟩) | ((with_reducible refine' wpList_append_rd (.tmp 14) (.tmp 19) 52 rfl ?_ Tryd.underlying52 inf_u8 ?_ ?_ ?_ (own_below HO.out hb2) ?_ (Rd.of_own ho2) h1 ?_ ?_ (Nat.le_trans hbl.size hb2.size) ?_); exact rfl; exact rfl; omega; exact rfl; exact rfl; (first | omega | (unfold maxLen; omega)); omega; intro v3 w3 ho3 hb3; simp only [Act.put, List.setIfInBounds_toArray, List.set_cons_succ, List.set_cons_zero]))
      rw [← bv_append, ← List.length_append, ← HS.out] at ho3
      have HO3 := Lib.hid ho3; clear ho3
      go_roundw
      case rel => exact ⟨k + 1, by omega, by go_num, HO3.out, (hbl.trans (hb2.mono hbl.size)).trans hb3⟩
      case measure => simp [intOf]; omega
    · go_wp2_with (first | ((with_reducible refine' wpList_len_rd (.tmp 9) 25 rfl ?_ Tryd.underlying25 ?_ hg ?_); exact rfl; exact rfl; simp only [Act.put, List.setIfInBounds_toArray, List.set_cons_succ, List.set_cons_zero]))
      go_ret
      refine ⟨_, rfl, ?_, hbl⟩
      rw [← encTo_all enc l (k := k) (by rw [HL.out]; omega)]
      exact HO.out

end Go.Proofs.YtajglgkjpagcjaaDoor.Wi
namespace Go.Proofs.YtajglgkjpagcjaaDoor.Lb
open Go Go.RowKit Go.Lib
theorem own_nil (w : World) (B : Nat) (e : TypeId) (s : Nat) : w.ownsRow B e s (.slice none 0 0) 0 [] := ⟨by simp, .inl ⟨rfl, rfl⟩⟩
section
variable {P : Program} {ops : Array Oper} {Q : Exit → Act → World → Prop} {a : Act} {w : World} {rest : List Oper} {o : Oper}
/-- 's + t' -/
theorem wpList_str_add (x y : Operand) (t r : TypeId) (ho : o.op = .binOp .add t x y r) (hw : Region.wanted o (yielded ops a.tmps) = true) {l m : List UInt8} (hx : a.eval x = .string ⟨l.toArray⟩) (hy : a.eval y = .string ⟨m.toArray⟩)
    (hl : l.length + m.length ≤ 9223372036854775807)
    (h : wpList P ops Q rest (a.put o.dst (.string ⟨(l ++ m).toArray⟩)) w) : wpList P ops Q (o :: rest) a w := by
  refine wpList_of_run hw (v := .string ⟨(l ++ m).toArray⟩) (w' := w) ?_ h
  have h1 := run_string_add_sum (P := P) w ⟨l.toArray⟩ ⟨m.toArray⟩ (by rw [size_str, size_str]; omega)
  rw [ByteArray.mk_append_mk] at h1
  unfold execOp
  simp [ho, hx, hy, eqGuard, binOp, h1]
theorem str_eql (l m : List UInt8) : ((ByteArray.mk l.toArray).toList == (ByteArray.mk m.toArray).toList) = decide (l = m) := by
  have e : ∀ l : List UInt8, (ByteArray.mk l.toArray).toList = l := fun l => by rw [ByteArray.toList_eq]
  rw [e, e, Bool.eq_iff_iff]; simp
/-- 's == t' -/
theorem wpList_str_eql (x y : Operand) (t r : TypeId) (ho : o.op = .binOp .eql t x y r) (hw : Region.wanted o (yielded ops a.tmps) = true) {l m : List UInt8} (hx : a.eval x = .string ⟨l.toArray⟩) (hy : a.eval y = .string ⟨m.toArray⟩)
    (h : wpList P ops Q rest (a.put o.dst (.bool (decide (l = m)))) w) : wpList P ops Q (o :: rest) a w := by
  refine wpList_of_run hw (v := .bool (decide (l = m))) (w' := w) ?_ h
  unfold execOp
  simp only [ho, hx, hy, eqGuard, binOp, Op.stringOp, str_eql]
  simp
/-- '==' of two arrays of bytes -/
theorem wpList_arr_eql (x y : Operand) (t r : TypeId) (ho : o.op = .binOp .eql t x y r) (hw : Region.wanted o (yielded ops a.tmps) = true) {e : TypeId} {n : Nat} (ht : P.underlying t = some (.array n e)) (he : P.underlying e = some (.int .u8)) (hsz : (P.info? e).map (·.size) = some 1) (hg : P.eqGuardType P.depth t = false)
    {l m : List UInt8} (hx : a.eval x = .agg (bv l).toArray) (hy : a.eval y = .agg (bv m).toArray) (hl : l.length = n) (hm : m.length = n)
    (h : wpList P ops Q rest (a.put o.dst (.bool (decide (l = m)))) w) : wpList P ops Q (o :: rest) a w := by
  refine wpList_of_run hw (v := .bool (decide (l = m))) (w' := w) ?_ h
  have h1 := run_eqGuard_agg (P := P) (w := w) .eql t x y (bv l).toArray (bv m).toArray hg
  have h2 := fun d => run_eq_bytes (P := P) d t e n ht he hsz l m hl hm w
  have h3 : (Op.equal t (.agg (bv l).toArray) (.agg (bv m).toArray)).run P w = .ok (decide (l = m)) w := h2 _
  unfold execOp
  simp only [ho, hx, hy, binOp, Sem.run_bind, h1, Result.andThen_ok, h3, Sem.run_pure]
end
end Go.Proofs.YtajglgkjpagcjaaDoor.Lb
namespace Go.Proofs.YtajglgkjpagcjaaDoor.Wi
open Go Go.RowKit Pu Lb
set_option linter.unusedSimpArgs false
set_option linter.unusedVariables false
attribute [local irreducible] comp sched comps sha outS

theorem take_bv {l : List UInt8} {i : Nat} {x : UInt8} (h : l[i]? = some x) : bv (l.take i) ++ [.int .u8 (x.toNat : Int)] = bv (l.take (i + 1)) := by
  have hi : i < l.length := (List.getElem?_eq_some_iff.1 h).1
  have hx : l[i] = x := (List.getElem?_eq_some_iff.1 h).2
  rw [List.take_succ_eq_append_getElem hi, hx, bv_append]; rfl

set_option maxRecDepth 100000 in
theorem bytes32_any (l : List UInt8) (w : World) (hl : l.length = 32) :
    Calls Tryd.prog 65 #[.agg (bv l).toArray] w fun e w' => e = .returned (.string ⟨l.toArray⟩) ∧ Below w.heap.size w w' := by
  have HL := Lib.hid hl; clear hl
  go_enter Tryd.func65, Tryd.ntmps65
  go_upto_region 3 with (((with_reducible refine' wpList_boxa (cs := bv l) 89 (.tmp 0) rfl ?_ ?_ ?_); exact rfl; exact rfl; intro w1 hk1 hN1 hz1; simp only [Act.put, List.setIfInBounds_toArray, List.set_cons_succ, List.set_cons_zero]))
  clear hz1
  go_loopw [4, 3] (fun i v wr => ∃ k : Nat, k ≤ 32 ∧ i = .int .i64 k ∧ wr.ownsRow w1.heap.size 5 1 v k (bv (l.take k)) ∧ Blk wr w.heap.size 89 (bv l) ∧ w1.heap.size ≤ wr.heap.size ∧ Below w.heap.size w wr) (fun i _ _ => 32 - (intOf i).toNat)
  case atStart => exact ⟨0, by omega, rfl, by rw [List.take_zero]; exact own_nil _ _ _ _, hk1, Nat.le_refl _, hN1⟩
  case round =>
    obtain ⟨k, hk, rfl, hown, hkB, hsz2, hbl⟩ := hrel
    have HO := Lib.hid hown
    have hl1 := hk1.lt

    clear hown
    by_cases hlt : k < 32
    · obtain ⟨wo, rfl⟩ : ∃ wo : World, wo = wr := ⟨_, rfl⟩
      obtain ⟨x, hx⟩ := get_lt (l := l) (k := k) (by rw [HL.out]; exact hlt)
      have C := Lib.hid (bv_at hx)
      have TK := Lib.hid (take_bv hx)
      have hx8 := u8_lt x
      clear hx
      go_wp2_with (first | ((with_reducible refine' wpList_at_blk (.tmp 1) (.tmp 10) 89 rfl ?_ Tryd.underlying89 sz_u8 ?_ (k) ?_ ?_ ?_); exact rfl; exact rfl; (show (_ : Int) = _; omega); omega; simp only [Act.put, List.setIfInBounds_toArray, List.set_cons_succ, List.set_cons_zero]) | ((with_reducible refine' wpList_load_blk (.tmp 11) 5 rfl ?_ ld_u8 ?_ hkB (C.out) ?_); exact rfl; exact rfl; simp only [Act.put, List.setIfInBounds_toArray, List.set_cons_succ, List.set_cons_zero]) | ((with_reducible refine' wpList_append_one (.tmp 9) (.tmp 13) 52 rfl ?_ Tryd.underlying52 inf_u8 ?_ ?_ HO.out ?_ ?_ ?_ ?_ hsz2 ?_); exact rfl; exact rfl; exact rfl; exact rfl; exact rfl; (first | omega | (unfold maxLen; omega)); omega; intro v4 w4 ho4 hb4; simp only [Act.put, List.setIfInBounds_toArray, List.set_cons_succ, List.set_cons_zero]))
      go_roundw
      case rel =>
        rw [TK.out] at ho4
        exact ⟨k + 1, by omega, by go_num, ho4, hkB.below hb4 hl1, Nat.le_trans hsz2 hb4.size, hbl.trans (hb4.mono (by omega))⟩
      case measure => simp [intOf]; omega
    · obtain rfl : k = 32 := by omega
      have hrd := Rd.of_own HO.out
      rw [List.take_of_length_le (by rw [HL.out]; exact Nat.le_refl _)] at hrd
      go_wp2_with (((with_reducible refine' wpList_str_rd (.tmp 15) 52 9 rfl ?_ Tryd.underlying52 Tryd.underlying5 Tryd.underlying9 ?_ hrd ?_); exact rfl; exact rfl; simp only [Act.put, List.setIfInBounds_toArray, List.set_cons_succ, List.set_cons_zero]))
      go_ret
      exact ⟨rfl, hbl⟩
set_option maxRecDepth 100000 in
theorem text_any (l : List UInt8) (w : World) (hl : l.length = 16) :
    Calls Tryd.prog 31 #[.agg (bv l).toArray] w fun e w' => e = .returned (.string ⟨l.toArray⟩) ∧ Below w.heap.size w w' := by
  have HL := Lib.hid hl; clear hl
  go_enter Tryd.func31, Tryd.ntmps31
  go_upto_region 3 with (((with_reducible refine' wpList_boxa (cs := bv l) 23 (.tmp 0) rfl ?_ ?_ ?_); exact rfl; exact rfl; intro w1 hk1 hN1 hz1; simp only [Act.put, List.setIfInBounds_toArray, List.set_cons_succ, List.set_cons_zero]))
  clear hz1
  go_loopw [4, 3] (fun i v wr => ∃ k : Nat, k ≤ 16 ∧ i = .int .i64 k ∧ wr.ownsRow w1.heap.size 5 1 v k (bv (l.take k)) ∧ Blk wr w.heap.size 23 (bv l) ∧ w1.heap.size ≤ wr.heap.size ∧ Below w.heap.size w wr) (fun i _ _ => 16 - (intOf i).toNat)
  case atStart => exact ⟨0, by omega, rfl, by rw [List.take_zero]; exact own_nil _ _ _ _, hk1, Nat.le_refl _, hN1⟩
  case round =>
    obtain ⟨k, hk, rfl, hown, hkB, hsz2, hbl⟩ := hrel
    have HO := Lib.hid hown
    have hl1 := hk1.lt

    clear hown
    by_cases hlt : k < 16
    · obtain ⟨wo, rfl⟩ : ∃ wo : World, wo = wr := ⟨_, rfl⟩
      obtain ⟨x, hx⟩ := get_lt (l := l) (k := k) (by rw [HL.out]; exact hlt)
      have C := Lib.hid (bv_at hx)
      have TK := Lib.hid (take_bv hx)
      have hx8 := u8_lt x
      clear hx
      go_wp2_with (first | ((with_reducible refine' wpList_at_blk (.tmp 1) (.tmp 10) 23 rfl ?_ Tryd.underlying23 sz_u8 ?_ (k) ?_ ?_ ?_); exact rfl; exact rfl; (show (_ : Int) = _; omega); omega; simp only [Act.put, List.setIfInBounds_toArray, List.set_cons_succ, List.set_cons_zero]) | ((with_reducible refine' wpList_load_blk (.tmp 11) 5 rfl ?_ ld_u8 ?_ hkB (C.out) ?_); exact rfl; exact rfl; simp only [Act.put, List.setIfInBounds_toArray, List.set_cons_succ, List.set_cons_zero]) | ((with_reducible refine' wpList_append_one (.tmp 9) (.tmp 13) 52 rfl ?_ Tryd.underlying52 inf_u8 ?_ ?_ HO.out ?_ ?_ ?_ ?_ hsz2 ?_); exact rfl; exact rfl; exact rfl; exact rfl; exact rfl; (first | omega | (unfold maxLen; omega)); omega; intro v4 w4 ho4 hb4; simp only [Act.put, List.setIfInBounds_toArray, List.set_cons_succ, List.set_cons_zero]))
      go_roundw
      case rel =>
        rw [TK.out] at ho4
        exact ⟨k + 1, by omega, by go_num, ho4, hkB.below hb4 hl1, Nat.le_trans hsz2 hb4.size, hbl.trans (hb4.mono (by omega))⟩
      case measure => simp [intOf]; omega
    · obtain rfl : k = 16 := by omega
      have hrd := Rd.of_own HO.out
      rw [List.take_of_length_le (by rw [HL.out]; exact Nat.le_refl _)] at hrd
      go_wp2_with (((with_reducible refine' wpList_str_rd (.tmp 15) 52 9 rfl ?_ Tryd.underlying52 Tryd.underlying5 Tryd.underlying9 ?_ hrd ?_); exact rfl; exact rfl; simp only [Act.put, List.setIfInBounds_toArray, List.set_cons_succ, List.set_cons_zero]))
      go_ret
      exact ⟨rfl, hbl⟩
end Go.Proofs.YtajglgkjpagcjaaDoor.Wi
namespace Go.Proofs.YtajglgkjpagcjaaDoor.Wi
open Go Go.RowKit Pu Lb
set_option linter.unusedSimpArgs false
set_option linter.unusedVariables false

theorem pad_get {k : List UInt8} (hk : k.length ≤ 64) {i : Nat} (hi : i < 64) : (pad64 k)[i]? = some (if i < k.length then gb k i else 0) := by
  unfold pad64
  by_cases h : i < k.length
  · rw [if_pos h, List.getElem?_append_left h]; simp [gb, h]
  · rw [if_neg h, List.getElem?_append_right (by omega), List.getElem?_replicate, if_pos (by omega)]
theorem padKey_get {key k : List UInt8} {c : UInt8} (hk : (if 64 < key.length then sha key else key) = k) {i : Nat} (hi : i < 64) : (padKey key c)[i]? = some ((if i < k.length then gb k i else 0) ^^^ c) := by
  subst hk
  rw [padKey_eq, List.getElem?_map, pad_get (short_key key) hi]; rfl
attribute [local irreducible] comp sched comps sha outS padKey

set_option maxRecDepth 100000 in
set_option maxHeartbeats 800000 in
theorem refpadkey_any (key : List UInt8) (c : UInt8) (w : World) (hT : TabR w) (hk : key.length ≤ 70368744177664) :
    Calls Tryd.prog 64 #[.string ⟨key.toArray⟩, .int .u8 (c.toNat : Int)] w fun e w' => ∃ v, e = .returned v ∧ w'.ownsRow w.heap.size 5 1 v 64 (bv (padKey key c)) ∧ Below w.heap.size w w' := by
  have hz1 := size_str key
  have SK := Lib.hid (short_key key)
  have PL := Lib.hid (padKey_len key c)
  have hc8 := u8_lt c
  go_enter Tryd.func64, Tryd.ntmps64
  go_upto_if 12 with fail
  go_cut [5] from 10 (fun v wr => v = .string ⟨(if 64 < key.length then sha key else key).toArray⟩ ∧ Below w.heap.size w wr)
  case first =>
    by_cases h64 : 64 < key.length
    · have SL := Lib.hid (sha_len key)
      go_wp2_with (first
        | (((with_reducible refine' wpList_bytes_l (l := key) (.tmp 13) 9 52 rfl ?_ Tryd.underlying9 Tryd.underlying52 Tryd.underlying5 ?_ ((by unfold maxLen; omega)) ?_); exact rfl; exact rfl; intro v2 w2 hr2 hN2; simp only [Act.put, List.setIfInBounds_toArray, List.set_cons_succ, List.set_cons_zero]); have hT2 := hT.below hN2)
        | (go_at_call 66; (with_reducible refine (refsum_any _ _ key _ hT2 hr2 hk).mono ?_); rintro e w' ⟨rfl, hN3⟩)
        | (go_at_call 65; (with_reducible refine (bytes32_any (sha key) _ SL.out).mono ?_); rintro e w' ⟨rfl, hN4⟩))
      go_meet
      case rel =>
        have z2 := hN2.size
        have z3 := hN3.size
        exact ⟨by rw [if_pos h64], (hN2.trans (hN3.mono z2)).trans (hN4.mono (by omega))⟩
    · go_wp2_with fail
      go_meet
      case rel => exact ⟨by rw [if_neg h64], Below.refl _ _⟩
  case rest =>
    obtain ⟨rfl, hbc⟩ := hcut
    obtain ⟨k, hkk⟩ : ∃ k, (if 64 < key.length then sha key else key) = k := ⟨_, rfl⟩
    have hsk := SK.out
    rw [hkk] at hsk ⊢
    have KK := Lib.hid hkk
    have hzk := size_str k
    clear hkk
    go_upto_region 6 with fail
    go_loopw [7, 6] (fun i v wr => ∃ t : Nat, t ≤ 64 ∧ i = .int .i64 t ∧ wr.ownsRow w.heap.size 5 1 v t (bv ((padKey key c).take t)) ∧ Below w.heap.size w wr) (fun i _ _ => 64 - (intOf i).toNat)
    case atStart => exact ⟨0, by omega, rfl, by rw [List.take_zero]; exact own_nil _ _ _ _, hbc⟩
    case round =>
      obtain ⟨t, ht, rfl, hown, hbl⟩ := hrel
      have HO := Lib.hid hown
      clear hown
      by_cases hlt : t < 64
      · obtain ⟨wo, rfl⟩ : ∃ wo : World, wo = wr := ⟨_, rfl⟩
        have TK := Lib.hid (take_bv (padKey_get (key := key) (c := c) KK.out hlt))
        by_cases htk : t < k.length
        · have hx8 := u8_lt (gb k t)
          have X8 := x8 (gb k t) c
          go_wp2_with (first | ((with_reducible refine' wpList_index_str (.tmp 25) (.tmp 26) 9 rfl ?_ Tryd.underlying9 (l := k) ?_ (t) ?_ ?_ ?_); exact rfl; exact rfl; (show (_ : Int) = _; omega); exact htk; simp only [Act.put, List.setIfInBounds_toArray, List.set_cons_succ, List.set_cons_zero]) | ((with_reducible refine' wpList_append_one (.tmp 28) (.tmp 32) 52 rfl ?_ Tryd.underlying52 inf_u8 ?_ ?_ HO.out ?_ ?_ ?_ ?_ hbl.size ?_); exact rfl; exact rfl; exact rfl; exact rfl; exact rfl; (first | omega | (unfold maxLen; omega)); omega; intro v4 w4 ho4 hb4; simp only [Act.put, List.setIfInBounds_toArray, List.set_cons_succ, List.set_cons_zero]))
          go_roundw
          case rel =>
            have h := TK.out
            rw [if_pos htk, UInt8.toNat_xor] at h
            rw [h] at ho4
            exact ⟨t + 1, by omega, by go_num, ho4, hbl.trans hb4⟩
          case measure => simp [intOf]; omega
        · have X8 := x8 0 c
          simp only [UInt8.toNat_zero, Int.natCast_zero] at X8
          go_wp2_with (first | ((with_reducible refine' wpList_append_one (.tmp 28) (.tmp 32) 52 rfl ?_ Tryd.underlying52 inf_u8 ?_ ?_ HO.out ?_ ?_ ?_ ?_ hbl.size ?_); exact rfl; exact rfl; exact rfl; exact rfl; exact rfl; (first | omega | (unfold maxLen; omega)); omega; intro v4 w4 ho4 hb4; simp only [Act.put, List.setIfInBounds_toArray, List.set_cons_succ, List.set_cons_zero]))
          go_roundw
          case rel =>
            have h := TK.out
            rw [if_neg htk, UInt8.zero_xor] at h
            rw [h] at ho4
            exact ⟨t + 1, by omega, by go_num, ho4, hbl.trans hb4⟩
          case measure => simp [intOf]; omega
      · obtain rfl : t = 64 := by omega
        have ho := HO.out
        rw [List.take_of_length_le (by rw [PL.out]; exact Nat.le_refl _)] at ho
        go_wp2_with fail
        go_ret
        exact ⟨_, rfl, ho, hbl⟩
theorem refpad54_any (key : List UInt8) (w : World) (hT : TabR w) (hk : key.length ≤ 70368744177664) :
    Calls Tryd.prog 64 #[.string ⟨key.toArray⟩, .int .u8 54] w fun e w' => ∃ v, e = .returned v ∧ w'.ownsRow w.heap.size 5 1 v 64 (bv (padKey key 54)) ∧ Below w.heap.size w w' := refpadkey_any key 54 w hT hk
theorem refpad92_any (key : List UInt8) (w : World) (hT : TabR w) (hk : key.length ≤ 70368744177664) :
    Calls Tryd.prog 64 #[.string ⟨key.toArray⟩, .int .u8 92] w fun e w' => ∃ v, e = .returned v ∧ w'.ownsRow w.heap.size 5 1 v 64 (bv (padKey key 92)) ∧ Below w.heap.size w w' := refpadkey_any key 92 w hT hk

set_option maxRecDepth 100000 in
set_option maxHeartbeats 800000 in
theorem refmac_any (key text : List UInt8) (w : World) (hT : TabR w) (hk : key.length ≤ 70368744177664) (ht : text.length ≤ 1000000) :
    Calls Tryd.prog 51 #[.string ⟨key.toArray⟩, .string ⟨text.toArray⟩] w fun e w' => e = .returned (.string ⟨(mac key text).toArray⟩) ∧ Below w.heap.size w w' := by
  have ME := Lib.hid (mac_eq key text)
  have PL := Lib.hid (padKey_len key 54)
  obtain ⟨H1, hH1⟩ : ∃ H, sha (padKey key 54 ++ text) = H := ⟨_, rfl⟩
  have L1 := Lib.hid (show H1.length = 32 by rw [← hH1, sha_len])
  have HH := Lib.hid hH1
  have L2 := Lib.hid (sha_len (padKey key 92 ++ H1))
  clear hH1
  go_enter Tryd.func51, Tryd.ntmps51
  go_wp2_with (first
    | ((go_at_call 64; (with_reducible refine (refpad54_any key _ hT hk).mono ?_); rintro e w' ⟨v1, rfl, o1, hN1⟩); have hT1 := hT.below hN1)
    | (((with_reducible refine' wpList_append_str (l := text) (.tmp 9) (.tmp 10) 52 9 rfl ?_ Tryd.underlying52 Tryd.underlying9 inf_u8 ?_ o1 ?_ ?_ hN1.size ?_); exact rfl; exact rfl; exact rfl; omega; intro v2 w2 o2 hN2; simp only [Act.put, List.setIfInBounds_toArray, List.set_cons_succ, List.set_cons_zero]); rw [← bv_append] at o2; have hb2 := hN1.trans hN2; have hT2 := hT.below hb2)
    | ((go_at_call 64; (with_reducible refine (refpad92_any key _ hT2 hk).mono ?_); rintro e w' ⟨v3, rfl, o3, hN3⟩); have hb3 := hb2.trans (hN3.mono hb2.size); have hT3 := hT.below hb3; have r2 := (Rd.of_own o2).below hN3)
    | ((go_at_call 66; (with_reducible refine (refsum_any v2 _ (padKey key 54 ++ text) _ hT3 r2 (by rw [List.length_append, PL.out]; omega)).mono ?_); rintro e w' ⟨rfl, hN4⟩); rw [HH.out]; have hb4 := hb3.trans (hN4.mono hb3.size); have o4 := own_below o3 hN4)
    | ((go_at_call 65; (with_reducible refine (bytes32_any H1 _ L1.out).mono ?_); rintro e w' ⟨rfl, hN5⟩); have hb5 := hb4.trans (hN5.mono hb4.size); have o5 := own_below o4 hN5; have z2 := hb2.size; have z3 := hN3.size; have z4 := hN4.size; have z5 := hN5.size)
    | (have q1 := L1.out; ((with_reducible refine' wpList_append_str (l := H1) (.tmp 14) (.tmp 17) 52 9 rfl ?_ Tryd.underlying52 Tryd.underlying9 inf_u8 ?_ o5 ?_ ?_ (by omega) ?_); exact rfl; exact rfl; exact rfl; omega; intro v6 w6 o6 hN6; simp only [Act.put, List.setIfInBounds_toArray, List.set_cons_succ, List.set_cons_zero]); rw [← bv_append] at o6; have hb6 := hb5.trans (hN6.mono hb2.size); have hT6 := hT.below hb6; have r6 := Rd.of_own o6)
    | ((go_at_call 66; (with_reducible refine (refsum_any v6 _ (padKey key 92 ++ H1) _ hT6 r6 (by rw [List.length_append, padKey_len, L1.out]; omega)).mono ?_); rintro e w' ⟨rfl, hN7⟩); have hb7 := hb6.trans (hN7.mono hb6.size))
    | ((go_at_call 65; (with_reducible refine (bytes32_any (sha (padKey key 92 ++ H1)) _ L2.out).mono ?_); rintro e w' ⟨rfl, hN8⟩)))
  go_ret
  refine ⟨?_, hb7.trans (hN8.mono hb7.size)⟩
  rw [ME.out, HH.out]; rfl

def fewB (l : List (List UInt8)) : Bool := decide (l.length ≤ 12 ∧ ∀ s ∈ l, s.length ≤ 400)
attribute [local irreducible] fewB
end Go.Proofs.YtajglgkjpagcjaaDoor.Wi
namespace Go.Proofs.YtajglgkjpagcjaaDoor.Wi
open Go Go.RowKit Pu Lb
set_option linter.unusedSimpArgs false
set_option linter.unusedVariables false
attribute [local irreducible] comp sched comps sha outS

set_option maxRecDepth 100000 in
theorem refinput_any (tag : Int) (x : Value) (n : Nat) (l : List (List UInt8)) (w : World) (hx : Rd w 1 x n (sv l)) (h0 : -9223372036854775808 ≤ tag) (h1 : tag ≤ 9223372036854775807) (hL : (inp tag l).length ≤ 70368744177664) :
    Calls Tryd.prog 57 #[.int .i64 tag, x] w fun e w' => ∃ v, e = .returned v ∧ w'.ownsRow w.heap.size 5 1 v (inp tag l).length (bv (inp tag l)) ∧ Below w.heap.size w w' := by
  have hl : l.length = n := by have := hx.1; rw [sv_length] at this; omega
  have HL := Lib.hid hl
  have hnm := hx.len
  unfold maxLen at hnm
  clear hl
  have BT := Lib.hid (bt_toNat tag)
  have hML : (inp tag l).length = (l.flatMap encBytes).length + 1 := by unfold inp; rfl
  go_enter Tryd.func57, Tryd.ntmps57
  go_upto_region 3 with (rw [← BT.out]; ((with_reducible refine' wpList_build_own (u := .int .u8 ((bt tag).toNat : Int)) (.tmp 8) 52 rfl ?_ Tryd.underlying52 inf_u8 ?_ ?_ ?_); exact rfl; exact rfl; exact rfl; intro v3 w3 ho hN3 hz; simp only [Act.put, List.setIfInBounds_toArray, List.set_cons_succ, List.set_cons_zero]))
  go_loopw [6, 5] (fun i v wr => ∃ k : Nat, k ≤ n ∧ i = .int .i64 k ∧ wr.ownsRow w.heap.size 5 1 v (bt tag :: (l.take k).flatMap encBytes).length (bv (bt tag :: (l.take k).flatMap encBytes)) ∧ Below w.heap.size w wr) (fun i _ _ => n - (intOf i).toNat)
  case atStart => exact ⟨0, by omega, rfl, ho, hN3⟩
  case round =>
    obtain ⟨k, hk, rfl, hown, hbl⟩ := hrel
    have HO := Lib.hid hown
    clear hown
    have hxr := hx.below hbl
    by_cases hlt : k < n
    · obtain ⟨wo, rfl⟩ : ∃ wo : World, wo = wr := ⟨_, rfl⟩
      obtain ⟨p, hp⟩ := get_lt (l := l) (k := k) (by rw [HL.out]; exact hlt)
      have SP := Lib.hid (sv_at hp)
      have hst := flat_step encBytes hp
      have hle := flat_le l (k + 1) encBytes
      rw [hst, List.length_append] at hle
      have hpl := encBytes_length p
      have hMb : (bt tag :: (l.take k).flatMap encBytes).length = ((l.take k).flatMap encBytes).length + 1 := rfl
      have b1 : p.length ≤ 70368744177664 := by omega
      have h1b := bv_one (encBytes p)
      go_wp2_with (first
        | ((with_reducible refine' wpList_len_rd (.tmp 11) 66 rfl ?_ Tryd.underlying66 ?_ hxr ?_); exact rfl; exact rfl; simp only [Act.put, List.setIfInBounds_toArray, List.set_cons_succ, List.set_cons_zero]) | ((with_reducible refine' wpList_at1_rd (.tmp 17) (.tmp 18) 66 rfl ?_ Tryd.underlying66 sz_str ?_ hxr (k) ?_ ?_ ?_); exact rfl; exact rfl; (show (_ : Int) = _; omega); omega; simp only [Act.put, List.setIfInBounds_toArray, List.set_cons_succ, List.set_cons_zero]) | ((with_reducible refine' wpList_load_rd (.tmp 19) 9 rfl ?_ ld_str ?_ hxr (SP.out) ?_); exact rfl; exact rfl; simp only [Act.put, List.setIfInBounds_toArray, List.set_cons_succ, List.set_cons_zero])
        | (go_at_call 68; (with_reducible refine (refbytes_any p _ b1).mono ?_); rintro e w' ⟨v2, rfl, ho2, hb2⟩)
        | ((with_reducible refine' wpList_append_rd (.tmp 16) (.tmp 21) 52 rfl ?_ Tryd.underlying52 inf_u8 ?_ ?_ ?_ (own_below HO.out hb2) ?_ (Rd.of_own ho2) h1b ?_ ?_ (Nat.le_trans hbl.size hb2.size) ?_); exact rfl; exact rfl; omega; exact rfl; exact rfl; (first | omega | (unfold maxLen; omega)); omega; intro v4 w4 ho4 hb4; simp only [Act.put, List.setIfInBounds_toArray, List.set_cons_succ, List.set_cons_zero]))
      go_roundw
      case rel =>
        refine ⟨k + 1, by omega, by go_num, ?_, hbl.trans ((hb2.mono hbl.size).trans hb4)⟩
        rw [← bv_append] at ho4
        rw [hst, ← List.cons_append, List.length_append]
        exact ho4
      case measure => simp [intOf]; omega
    · obtain rfl : k = n := by omega
      have ho := HO.out
      rw [List.take_of_length_le (by rw [HL.out]; exact Nat.le_refl _)] at ho
      go_wp2_with (((with_reducible refine' wpList_len_rd (.tmp 11) 66 rfl ?_ Tryd.underlying66 ?_ hxr ?_); exact rfl; exact rfl; simp only [Act.put, List.setIfInBounds_toArray, List.set_cons_succ, List.set_cons_zero]))
      go_ret
      exact ⟨_, rfl, ho, hbl⟩

set_option maxRecDepth 100000 in
theorem refshort_any (x : Value) (n : Nat) (m : List UInt8) (w : World) (hT : TabR w) (hx : Rd w 1 x n (bv m)) (hn : m.length ≤ 70368744177664) :
    Calls Tryd.prog 56 #[x] w fun e w' => e = .returned (.agg (bv ((sha m).take 16)).toArray) ∧ Below w.heap.size w w' := by
  obtain ⟨d, hd⟩ : ∃ d, sha m = d := ⟨_, rfl⟩
  have D32 := Lib.hid (show (bv d).length = 32 by rw [bv_length, ← hd, sha_len])
  have HD := Lib.hid hd
  have DL := Lib.hid (show d.length = 32 by rw [← hd, sha_len])
  have D16 := Lib.hid (show (bv (d.take 16)).length = 16 by rw [bv_length, List.length_take, DL.out]; rfl)
  clear hd
  go_enter Tryd.func56, Tryd.ntmps56
  go_upto_region 1 with (((with_reducible refine' wpList_alloc_blk (cs := List.replicate 16 (.int .u8 0)) 23 rfl ?_ zr_dig ?_ ?_); exact rfl; exact zeros_u8 16; intro w1 hkR hN1 hz1; simp only [Act.put, List.setIfInBounds_toArray, List.set_cons_succ, List.set_cons_zero]))
  have hT1 := hT.below hN1
  have hx1 := hx.below hN1
  have hlR := hkR.lt
  go_upto_region 2 with (first
    | ((go_at_call 66; (with_reducible refine (refsum_any x n m _ hT1 hx1 hn).mono ?_); rintro e w' ⟨rfl, hN2⟩); rw [HD.out]; have hb2 := hN1.trans (hN2.mono hN1.size); have hkR2 := hkR.below hN2 hlR)
    | (((with_reducible refine' wpList_alloc_blk (cs := List.replicate 32 (.int .u8 0)) 89 rfl ?_ zr_b32 ?_ ?_); exact rfl; exact zeros_u8 32; intro w3 hkD hN3 hz3; simp only [Act.put, List.setIfInBounds_toArray, List.set_cons_succ, List.set_cons_zero]); have hb3 := hb2.trans (hN3.mono hb2.size); have hkR3 := hkR2.below hN3 hkR2.lt; have q2 := hkR2.lt)
    | (((with_reducible refine' wpList_store_blk (cs := bv d) 89 (.tmp 3) (.tmp 7) rfl ?_ ?_ ?_ hkD sz_b32 ?_ ?_ ?_ ?_); exact rfl; exact rfl; exact rfl; exact D32.out; exact List.length_replicate; exact bv_one _; intro w4 hkD4 hO4 hz4; simp only [Act.put]); have hkR4 := hO4.blk hkR3 (by omega); have hb4 := hb3.trans (hO4.below (by omega) hb3.size); have hlD := hkD4.lt; have hlR4 := hkR4.lt))
  clear hz1 hz3 hz4 hkR hkR2 hkR3 hkD hO4
  go_upto_region 4 with (first
    | ((with_reducible refine' wpList_of_run (o := ⟨_, .build _ _, _, _, _, _⟩) (v := .agg (List.replicate 16 (.int .u8 0)).toArray) (w' := w4) ?_ ?_ ?_); exact rfl; kernel_rfl; simp only [Act.put, List.setIfInBounds_toArray, List.set_cons_succ, List.set_cons_zero])
    | (((with_reducible refine' wpList_alloc_blk (cs := List.replicate 16 (.int .u8 0)) 23 rfl ?_ zr_dig ?_ ?_); exact rfl; exact zeros_u8 16; intro w5 hkE hN5 hz5; simp only [Act.put, List.setIfInBounds_toArray, List.set_cons_succ, List.set_cons_zero]); have hb5 := hb4.trans (hN5.mono hb4.size); have hkR5 := hkR4.below hN5 hlR4; have hkD5 := hkD4.below hN5 hlD)
    | (((with_reducible refine' wpList_store_blk (cs := List.replicate 16 (.int .u8 0)) 23 (.tmp 4) (.tmp 8) rfl ?_ ?_ ?_ hkE sz_dig ?_ ?_ ?_ ?_); exact rfl; exact rfl; exact rfl; exact List.length_replicate; exact List.length_replicate; (intro u hu; rw [List.eq_of_mem_replicate hu]; rfl); intro w6 hkE6 hO6 hz6; simp only [Act.put]); have hkR6 := hO6.blk hkR5 (by omega); have hkD6 := hO6.blk hkD5 (by omega); have hb6 := hb5.trans (hO6.below (by omega) hb5.size)))
  obtain ⟨B3, hB3⟩ : ∃ B, w'.heap.size = B := ⟨_, rfl⟩
  obtain ⟨B4, hB4⟩ : ∃ B, w4.heap.size = B := ⟨_, rfl⟩
  rw [hB3] at hkD6 hlD ⊢
  rw [hB4] at hkE6 ⊢
  go_loopw [5] (fun i wr => ∃ t : Nat, t ≤ 16 ∧ i = .int .i64 t ∧ Blk wr B4 23 ((bv d).take t ++ List.replicate (16 - t) (.int .u8 0)) ∧ Blk wr B3 89 (bv d) ∧ Blk wr w.heap.size 23 (List.replicate 16 (.int .u8 0)) ∧ Below w.heap.size w wr) (fun i _ => 16 - (intOf i).toNat)
  case atStart => exact ⟨0, by omega, rfl, by simpa using hkE6, hkD6, hkR6, hb6⟩
  case round =>
    obtain ⟨t, ht, rfl, hkE, hkD, hkR, hbl⟩ := hrel
    by_cases hlt : t < 16
    · obtain ⟨wo, rfl⟩ : ∃ wo : World, wo = wr := ⟨_, rfl⟩
      have hbt : d[t]? = some (gb d t) := by simp [gb, show t < d.length by rw [DL.out]; omega]
      have X : (bv d)[t]? = some (.int .u8 ((gb d t).toNat : Int)) := by unfold bv; rw [List.getElem?_map, hbt]; rfl
      have TL : ((bv d).take t).length = t := by rw [List.length_take, D32.out]; omega
      have SET := Lib.hid (fill_step TL hlt (.int .u8 0) (.int .u8 ((gb d t).toNat : Int)))
      have X := Lib.hid X
      have HLEN := Lib.hid (show t < ((bv d).take t ++ List.replicate (16 - t) (Value.int .u8 0)).length by rw [List.length_append, TL, List.length_replicate]; omega)
      have TS := Lib.hid (take_bv hbt)
      have T1 := Lib.hid (bv_take d t)
      have T2 := Lib.hid (bv_take d (t + 1))
      clear TL hbt
      go_wp2_with (first
        | ((with_reducible refine' wpList_at_blk (.tmp 3) (.tmp 14) 89 rfl ?_ Tryd.underlying89 sz_u8 ?_ (t) ?_ ?_ ?_); exact rfl; exact rfl; (show (_ : Int) = _; omega); omega; simp only [Act.put, List.setIfInBounds_toArray, List.set_cons_succ, List.set_cons_zero]) | ((with_reducible refine' wpList_load_blk (.tmp 15) 5 rfl ?_ ld_u8 ?_ hkD (X.out) ?_); exact rfl; exact rfl; simp only [Act.put, List.setIfInBounds_toArray, List.set_cons_succ, List.set_cons_zero]) | ((with_reducible refine' wpList_at_blk (.tmp 4) (.tmp 13) 23 rfl ?_ Tryd.underlying23 sz_u8 ?_ (t) ?_ ?_ ?_); exact rfl; exact rfl; (show (_ : Int) = _; omega); omega; simp only [Act.put, List.setIfInBounds_toArray, List.set_cons_succ, List.set_cons_zero])
        | (((with_reducible refine' wpList_set_blk (u := .int .u8 ((gb d t).toNat : Int)) 5 (.tmp 17) (.tmp 16) rfl ?_ sz_u8 ?_ ?_ hkE (HLEN.out) ?_ ?_); exact rfl; exact rfl; exact rfl; exact rfl; intro w7 hk7 hO7 hz7; simp only [Act.put]); rw [SET.out, T1.out, TS.out, ← T2.out] at hk7))
      go_roundw
      case rel => exact ⟨t + 1, by omega, by go_num, hk7, hO7.blk hkD (by omega), hO7.blk hkR (by omega), hbl.trans (hO7.below (by omega) hbl.size)⟩
      case measure => simp [intOf]; omega
    · obtain rfl : t = 16 := by omega
      rw [bv_take, Nat.sub_self, List.replicate_zero, List.append_nil] at hkE
      go_wp2_with (first | ((with_reducible refine' wpList_loadall_blk (.tmp 4) 23 rfl ?_ Tryd.underlying23 sz_dig ?_ hkE ?_ ?_ ?_); exact rfl; exact rfl; exact D16.out; omega; simp only [Act.put, List.setIfInBounds_toArray, List.set_cons_succ, List.set_cons_zero]) | ((with_reducible refine' wpList_store_blk (cs := bv (d.take 16)) 23 (.tmp 2) (.tmp 18) rfl ?_ ?_ ?_ hkR sz_dig ?_ ?_ ?_ ?_); exact rfl; exact rfl; exact rfl; exact D16.out; exact List.length_replicate; exact bv_one _; intro w8 hk8 hO8 hz8; simp only [Act.put]))
      ((try simp only [Exit.inBlock, Exit.then]); refine bodyPost_ret (results_cell_row rfl _ _ _ _ _ _ _ rfl hk8 Tryd.underlying23 rfl (by rw [sz_dig]; simp [D16.out])) rfl ?_)
      exact ⟨by rw [HD.out], hbl.trans (hO8.below (by omega) hbl.size)⟩

set_option maxRecDepth 100000 in
theorem refof_any (tag : Int) (x : Value) (n : Nat) (l : List (List UInt8)) (w : World) (hT : TabR w) (hx : Rd w 1 x n (sv l)) (h0 : -9223372036854775808 ≤ tag) (h1 : tag ≤ 9223372036854775807) (hL : (inp tag l).length ≤ 70368744177664) :
    Calls Tryd.prog 35 #[.int .i64 tag, x] w fun e w' => e = .returned (.agg (bv (digOf tag l)).toArray) ∧ Below w.heap.size w w' := by
  have DL := Lib.hid (show (bv (digOf tag l)).length = 16 by rw [bv_length, digOf_len])
  have DE := Lib.hid (show (sha (inp tag l)).take 16 = digOf tag l from rfl)
  go_enter Tryd.func35, Tryd.ntmps35
  go_upto_region 1 with (((with_reducible refine' wpList_alloc_blk (cs := List.replicate 16 (.int .u8 0)) 23 rfl ?_ zr_dig ?_ ?_); exact rfl; exact zeros_u8 16; intro w1 hkR hN1 hz1; simp only [Act.put, List.setIfInBounds_toArray, List.set_cons_succ, List.set_cons_zero]))
  have hT1 := hT.below hN1
  have hx1 := hx.below hN1
  have hlR := hkR.lt
  go_wp2_with (first
    | ((go_at_call 57; (with_reducible refine (refinput_any tag x n l _ hx1 h0 h1 hL).mono ?_); rintro e w' ⟨v2, rfl, o2, hN2⟩); have hT2 := hT1.below hN2; have r2 := Rd.of_own o2; have hb2 := hN1.trans (hN2.mono hN1.size); have hkR2 := hkR.below hN2 hlR; have hlR2 := hkR2.lt)
    | ((go_at_call 56; (with_reducible refine (refshort_any v2 _ (inp tag l) _ hT2 r2 hL).mono ?_); rintro e w' ⟨rfl, hN3⟩); rw [DE.out]; have hkR3 := hkR2.below hN3 hlR2; have hb3 := hb2.trans (hN3.mono hb2.size))
    | ((with_reducible refine' wpList_store_blk (cs := bv (digOf tag l)) 23 (.tmp 4) (.tmp 8) rfl ?_ ?_ ?_ hkR3 sz_dig ?_ ?_ ?_ ?_); exact rfl; exact rfl; exact rfl; exact DL.out; exact List.length_replicate; exact bv_one _; intro w9 hk9 hO9 hz9; simp only [Act.put]))
  ((try simp only [Exit.inBlock, Exit.then]); refine bodyPost_ret (results_cell_row rfl _ _ _ _ _ _ _ rfl hk9 Tryd.underlying23 rfl (by rw [sz_dig]; simp [DL.out])) rfl ?_)
  exact ⟨rfl, hb3.trans (hO9.below (Nat.le_refl _) hb3.size)⟩
end Go.Proofs.YtajglgkjpagcjaaDoor.Wi
