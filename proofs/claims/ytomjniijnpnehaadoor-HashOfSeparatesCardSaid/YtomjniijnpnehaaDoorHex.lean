/-
  The law's text of bytes. Conditions: a bounded length.
-/
import Derived.Test.YtomjniijnpnehaaDoorRo
namespace Go.Proofs.YtomjniijnpnehaaDoor.Pu
def digs : List UInt8 := [48, 49, 50, 51, 52, 53, 54, 55, 56, 57, 97, 98, 99, 100, 101, 102]
def hex2 (b : UInt8) : List UInt8 := [gb digs (b.toNat / 16), gb digs (b.toNat % 16)]
def hexOf (l : List UInt8) : List UInt8 := l.flatMap hex2
theorem hexOf_len (l : List UInt8) : (hexOf l).length = 2 * l.length := by
  unfold hexOf
  induction l with
  | nil => rfl
  | cons b l ih => rw [List.flatMap_cons, List.length_append, ih, List.length_cons]; simp [hex2]; omega
end Go.Proofs.YtomjniijnpnehaaDoor.Pu
namespace Go.Proofs.YtomjniijnpnehaaDoor.Wi
open Go Go.RowKit Pu Lb
set_option linter.unusedSimpArgs false
set_option linter.unusedVariables false

set_option maxRecDepth 100000 in
theorem hex_any (s : List UInt8) (w : World) (hs : s.length ≤ 70368744177664) :
    Calls Tryd.prog 25 #[.string ⟨s.toArray⟩] w fun e w' => e = .returned (.string ⟨(hexOf s).toArray⟩) ∧ Below w.heap.size w w' := by
  have hz := size_str s
  have HXL := Lib.hid (hexOf_len s)
  obtain ⟨dg, hdg⟩ : ∃ d, Hid (digs = d) := ⟨_, Lib.hid rfl⟩
  have DL := Lib.hid (show dg.length = 16 by rw [← hdg.out]; rfl)
  have DG := Lib.hid (show (Value.string ⟨#[48, 49, 50, 51, 52, 53, 54, 55, 56, 57, 97, 98, 99, 100, 101, 102]⟩) = .string ⟨dg.toArray⟩ by rw [← hdg.out]; rfl)
  go_enter Tryd.func25, Tryd.ntmps25
  go_upto_region 4 with fail
  rw [DG.out]
  go_loopw [5, 4] (fun i v wr => ∃ k : Nat, k ≤ s.length ∧ i = .int .i64 k ∧ wr.ownsRow w.heap.size 5 1 v (hexOf (s.take k)).length (bv (hexOf (s.take k))) ∧ Below w.heap.size w wr) (fun i _ _ => s.length - (intOf i).toNat)
  case atStart => exact ⟨0, by omega, rfl, own_nil _ _ _ _, Below.refl _ _⟩
  case round =>
    obtain ⟨k, hk, rfl, hown, hbl⟩ := hrel
    have HO := Lib.hid hown
    clear hown
    by_cases hlt : k < s.length
    · obtain ⟨wo, rfl⟩ : ∃ wo : World, wo = wr := ⟨_, rfl⟩
      have hkz : s[k]? = some (gb s k) := by simp [gb, hlt]
      have ST := Lib.hid (flat_step hex2 hkz)
      obtain ⟨b, hb⟩ : ∃ b, gb s k = b := ⟨_, rfl⟩
      rw [hb] at ST
      have HBK := Lib.hid hb
      have hb8 := u8_lt b
      clear hb hkz
      obtain ⟨vo, rfl⟩ : ∃ vo : Value, vo = u4 := ⟨_, rfl⟩
      have hh : b.toNat / 16 < 16 := by omega
      have hl : b.toNat % 16 < 16 := by omega
      obtain ⟨qh, hqh⟩ : ∃ q, b.toNat / 16 = q := ⟨_, rfl⟩
      obtain ⟨ql, hql⟩ : ∃ q, b.toNat % 16 = q := ⟨_, rfl⟩
      rw [hqh] at hh
      rw [hql] at hl
      have BH : ((b.toNat : Int) / 16) = (qh : Int) := by omega
      have BL : ((b.toNat : Int) % 16) = (ql : Int) := by omega
      have H2 := Lib.hid (show hex2 b = [gb dg qh, gb dg ql] by unfold hex2; rw [hqh, hql, hdg.out])
      obtain ⟨xh, hxh⟩ : ∃ x, gb dg qh = x := ⟨_, rfl⟩
      obtain ⟨xl, hxl⟩ : ∃ x, gb dg ql = x := ⟨_, rfl⟩
      rw [hxh, hxl] at H2
      have BH := Lib.hid BH
      have BL := Lib.hid BL
      clear hqh hql
      go_upto_region 6 with fail
      refine wp_region_mono (w := wo) 14 (fun i => match i with | 0 => fun (vv : Value) (ww : World) => vv = vo | 1 => fun (vv : Value) (ww : World) => vv = .string ⟨dg.toArray⟩ | 2 => fun (vv : Value) (ww : World) => vv = .string ⟨s.toArray⟩ | 3 => fun (vv : Value) (ww : World) => vv = .int .i64 (k : Int) | 4 => fun (vv : Value) (ww : World) => vv = .int .u8 (b.toNat : Int) | 5 => fun (vv : Value) (ww : World) => vv = .int .u8 (qh : Int) | 6 => fun (vv : Value) (ww : World) => vv = .int .u8 (xh.toNat : Int) | 7 => fun (vv : Value) (ww : World) => vv = .string ⟨dg.toArray⟩ | 8 => fun (vv : Value) (ww : World) => vv = .string ⟨s.toArray⟩ | 9 => fun (vv : Value) (ww : World) => vv = .int .i64 (k : Int) | 10 => fun (vv : Value) (ww : World) => vv = .int .u8 (b.toNat : Int) | 11 => fun (vv : Value) (ww : World) => vv = .int .u8 (ql : Int) | 12 => fun (vv : Value) (ww : World) => vv = .int .u8 (xl.toNat : Int) | 13 => fun (vv : Value) (ww : World) => Rd ww 1 vv 2 (bv [xh, xl]) | _ => fun _ _ => True) (by kernel_rfl) (by kernel_rfl) ?_ ?_ ?_
      · intro i vv w1 w2 h hb
        rcases i with _ | _ | _ | _ | _ | _ | _ | _ | _ | _ | _ | _ | _ | _ | i
        all_goals first | exact h | exact Rd.below h hb | exact own_below h hb | (obtain ⟨B, h1, h2, h3⟩ := h; exact ⟨B, h1, h2, Blk.below h3 hb (Blk.lt h3)⟩) | trivial
      · intro i o hi ho us wz hl hbz hd
        obtain ⟨u0, u1, u2, u3, u4, u5, u6, u7, u8, u9, u10, u11, u12, u13, rfl⟩ := len14 hl
        rcases i with _ | _ | _ | _ | _ | _ | _ | _ | _ | _ | _ | _ | _ | _ | i
        · simp only [List.getElem?_cons_succ, List.getElem?_cons_zero, Option.some.injEq] at ho; subst ho; clear hi hl
          clear hd
          simp only [List.take_succ_cons, List.take_zero, List.drop_succ_cons, List.drop_zero, List.map_cons, List.map_nil, puts, Act.put, List.setIfInBounds_toArray, List.set_cons_succ, List.set_cons_zero]
          go_wp2_with (fail)
          exact ⟨rfl, _, rfl, Below.refl _ _, rfl⟩
        · simp only [List.getElem?_cons_succ, List.getElem?_cons_zero, Option.some.injEq] at ho; subst ho; clear hi hl
          clear hd
          simp only [List.take_succ_cons, List.take_zero, List.drop_succ_cons, List.drop_zero, List.map_cons, List.map_nil, puts, Act.put, List.setIfInBounds_toArray, List.set_cons_succ, List.set_cons_zero]
          go_wp2_with (fail)
          exact ⟨rfl, _, rfl, Below.refl _ _, rfl⟩
        · simp only [List.getElem?_cons_succ, List.getElem?_cons_zero, Option.some.injEq] at ho; subst ho; clear hi hl
          clear hd
          simp only [List.take_succ_cons, List.take_zero, List.drop_succ_cons, List.drop_zero, List.map_cons, List.map_nil, puts, Act.put, List.setIfInBounds_toArray, List.set_cons_succ, List.set_cons_zero]
          go_wp2_with (fail)
          exact ⟨rfl, _, rfl, Below.refl _ _, rfl⟩
        · simp only [List.getElem?_cons_succ, List.getElem?_cons_zero, Option.some.injEq] at ho; subst ho; clear hi hl
          clear hd
          simp only [List.take_succ_cons, List.take_zero, List.drop_succ_cons, List.drop_zero, List.map_cons, List.map_nil, puts, Act.put, List.setIfInBounds_toArray, List.set_cons_succ, List.set_cons_zero]
          go_wp2_with (fail)
          exact ⟨rfl, _, rfl, Below.refl _ _, rfl⟩
        · simp only [List.getElem?_cons_succ, List.getElem?_cons_zero, Option.some.injEq] at ho; subst ho; clear hi hl
          have s2 : (fun (vv : Value) (ww : World) => vv = .string ⟨s.toArray⟩) u2 wz := hd 2 (by kernel_rfl)
          simp only at s2
          obtain rfl := s2
          have s3 : (fun (vv : Value) (ww : World) => vv = .int .i64 (k : Int)) u3 wz := hd 3 (by kernel_rfl)
          simp only at s3
          obtain rfl := s3
          clear hd
          simp only [List.take_succ_cons, List.take_zero, List.drop_succ_cons, List.drop_zero, List.map_cons, List.map_nil, puts, Act.put, List.setIfInBounds_toArray, List.set_cons_succ, List.set_cons_zero]
          go_wp2_with (((with_reducible refine' wpList_index_str (.tmp 14) (.tmp 15) 9 rfl ?_ Tryd.underlying9 (l := s) ?_ (k) ?_ ?_ ?_); exact rfl; exact rfl; (show (_ : Int) = _; omega); exact hlt; simp only [Act.put, List.setIfInBounds_toArray, List.set_cons_succ, List.set_cons_zero]))
          exact ⟨rfl, _, rfl, Below.refl _ _, by rw [HBK.out]⟩
        · simp only [List.getElem?_cons_succ, List.getElem?_cons_zero, Option.some.injEq] at ho; subst ho; clear hi hl
          have s4 : (fun (vv : Value) (ww : World) => vv = .int .u8 (b.toNat : Int)) u4 wz := hd 4 (by kernel_rfl)
          simp only at s4
          obtain rfl := s4
          clear hd
          simp only [List.take_succ_cons, List.take_zero, List.drop_succ_cons, List.drop_zero, List.map_cons, List.map_nil, puts, Act.put, List.setIfInBounds_toArray, List.set_cons_succ, List.set_cons_zero]
          go_wp2_with (fail)
          exact ⟨rfl, _, rfl, Below.refl _ _, by first | rfl | rw [BH.out]⟩
        · simp only [List.getElem?_cons_succ, List.getElem?_cons_zero, Option.some.injEq] at ho; subst ho; clear hi hl
          have s1 : (fun (vv : Value) (ww : World) => vv = .string ⟨dg.toArray⟩) u1 wz := hd 1 (by kernel_rfl)
          simp only at s1
          obtain rfl := s1
          have s5 : (fun (vv : Value) (ww : World) => vv = .int .u8 (qh : Int)) u5 wz := hd 5 (by kernel_rfl)
          simp only at s5
          obtain rfl := s5
          clear hd
          simp only [List.take_succ_cons, List.take_zero, List.drop_succ_cons, List.drop_zero, List.map_cons, List.map_nil, puts, Act.put, List.setIfInBounds_toArray, List.set_cons_succ, List.set_cons_zero]
          go_wp2_with (((with_reducible refine' wpList_index_str (.tmp 13) (.tmp 17) 9 rfl ?_ Tryd.underlying9 (l := dg) ?_ (qh) ?_ ?_ ?_); exact rfl; exact rfl; (show (_ : Int) = _; omega); rw [DL.out]; exact hh; simp only [Act.put, List.setIfInBounds_toArray, List.set_cons_succ, List.set_cons_zero]))
          exact ⟨rfl, _, rfl, Below.refl _ _, by rw [hxh]⟩
        · simp only [List.getElem?_cons_succ, List.getElem?_cons_zero, Option.some.injEq] at ho; subst ho; clear hi hl
          clear hd
          simp only [List.take_succ_cons, List.take_zero, List.drop_succ_cons, List.drop_zero, List.map_cons, List.map_nil, puts, Act.put, List.setIfInBounds_toArray, List.set_cons_succ, List.set_cons_zero]
          go_wp2_with (fail)
          exact ⟨rfl, _, rfl, Below.refl _ _, rfl⟩
        · simp only [List.getElem?_cons_succ, List.getElem?_cons_zero, Option.some.injEq] at ho; subst ho; clear hi hl
          clear hd
          simp only [List.take_succ_cons, List.take_zero, List.drop_succ_cons, List.drop_zero, List.map_cons, List.map_nil, puts, Act.put, List.setIfInBounds_toArray, List.set_cons_succ, List.set_cons_zero]
          go_wp2_with (fail)
          exact ⟨rfl, _, rfl, Below.refl _ _, rfl⟩
        · simp only [List.getElem?_cons_succ, List.getElem?_cons_zero, Option.some.injEq] at ho; subst ho; clear hi hl
          clear hd
          simp only [List.take_succ_cons, List.take_zero, List.drop_succ_cons, List.drop_zero, List.map_cons, List.map_nil, puts, Act.put, List.setIfInBounds_toArray, List.set_cons_succ, List.set_cons_zero]
          go_wp2_with (fail)
          exact ⟨rfl, _, rfl, Below.refl _ _, rfl⟩
        · simp only [List.getElem?_cons_succ, List.getElem?_cons_zero, Option.some.injEq] at ho; subst ho; clear hi hl
          have s8 : (fun (vv : Value) (ww : World) => vv = .string ⟨s.toArray⟩) u8 wz := hd 8 (by kernel_rfl)
          simp only at s8
          obtain rfl := s8
          have s9 : (fun (vv : Value) (ww : World) => vv = .int .i64 (k : Int)) u9 wz := hd 9 (by kernel_rfl)
          simp only at s9
          obtain rfl := s9
          clear hd
          simp only [List.take_succ_cons, List.take_zero, List.drop_succ_cons, List.drop_zero, List.map_cons, List.map_nil, puts, Act.put, List.setIfInBounds_toArray, List.set_cons_succ, List.set_cons_zero]
          go_wp2_with (((with_reducible refine' wpList_index_str (.tmp 20) (.tmp 21) 9 rfl ?_ Tryd.underlying9 (l := s) ?_ (k) ?_ ?_ ?_); exact rfl; exact rfl; (show (_ : Int) = _; omega); exact hlt; simp only [Act.put, List.setIfInBounds_toArray, List.set_cons_succ, List.set_cons_zero]))
          exact ⟨rfl, _, rfl, Below.refl _ _, by rw [HBK.out]⟩
        · simp only [List.getElem?_cons_succ, List.getElem?_cons_zero, Option.some.injEq] at ho; subst ho; clear hi hl
          have s10 : (fun (vv : Value) (ww : World) => vv = .int .u8 (b.toNat : Int)) u10 wz := hd 10 (by kernel_rfl)
          simp only at s10
          obtain rfl := s10
          clear hd
          simp only [List.take_succ_cons, List.take_zero, List.drop_succ_cons, List.drop_zero, List.map_cons, List.map_nil, puts, Act.put, List.setIfInBounds_toArray, List.set_cons_succ, List.set_cons_zero]
          go_wp2_with (fail)
          exact ⟨rfl, _, rfl, Below.refl _ _, by first | rfl | rw [BL.out]⟩
        · simp only [List.getElem?_cons_succ, List.getElem?_cons_zero, Option.some.injEq] at ho; subst ho; clear hi hl
          have s7 : (fun (vv : Value) (ww : World) => vv = .string ⟨dg.toArray⟩) u7 wz := hd 7 (by kernel_rfl)
          simp only at s7
          obtain rfl := s7
          have s11 : (fun (vv : Value) (ww : World) => vv = .int .u8 (ql : Int)) u11 wz := hd 11 (by kernel_rfl)
          simp only at s11
          obtain rfl := s11
          clear hd
          simp only [List.take_succ_cons, List.take_zero, List.drop_succ_cons, List.drop_zero, List.map_cons, List.map_nil, puts, Act.put, List.setIfInBounds_toArray, List.set_cons_succ, List.set_cons_zero]
          go_wp2_with (((with_reducible refine' wpList_index_str (.tmp 19) (.tmp 23) 9 rfl ?_ Tryd.underlying9 (l := dg) ?_ (ql) ?_ ?_ ?_); exact rfl; exact rfl; (show (_ : Int) = _; omega); rw [DL.out]; exact hl; simp only [Act.put, List.setIfInBounds_toArray, List.set_cons_succ, List.set_cons_zero]))
          exact ⟨rfl, _, rfl, Below.refl _ _, by rw [hxl]⟩
        · simp only [List.getElem?_cons_succ, List.getElem?_cons_zero, Option.some.injEq] at ho; subst ho; clear hi hl
          have s6 : (fun (vv : Value) (ww : World) => vv = .int .u8 (xh.toNat : Int)) u6 wz := hd 6 (by kernel_rfl)
          simp only at s6
          obtain rfl := s6
          have s12 : (fun (vv : Value) (ww : World) => vv = .int .u8 (xl.toNat : Int)) u12 wz := hd 12 (by kernel_rfl)
          simp only at s12
          obtain rfl := s12
          clear hd
          simp only [List.take_succ_cons, List.take_zero, List.drop_succ_cons, List.drop_zero, List.map_cons, List.map_nil, puts, Act.put, List.setIfInBounds_toArray, List.set_cons_succ, List.set_cons_zero]
          go_wp2_with (((with_reducible refine' wpList_build_cs (cs := [.int .u8 (xh.toNat : Int), .int .u8 (xl.toNat : Int)]) rfl ?_ Tryd.underlying22 inf_u8 ?_ ?_ ?_ ?_ ?_ ?_); exact rfl; exact rfl; omega; omega; exact rfl; exact bv_one [xh, xl]; intro v3 w3 hr3 hNq; simp only [Act.put, List.setIfInBounds_toArray, List.set_cons_succ, List.set_cons_zero]))
          exact ⟨rfl, _, rfl, hNq, hr3⟩
        · omega
      intro us wz hl hbz hS
      obtain ⟨u0, u1, u2, u3, u4, u5, u6, u7, u8, u9, u10, u11, u12, u13, rfl⟩ := len14 hl
      have s0 : (fun (vv : Value) (ww : World) => vv = vo) u0 wz := hS 0 (by omega)
      simp only at s0
      have s13 : (fun (vv : Value) (ww : World) => Rd ww 1 vv 2 (bv [xh, xl])) u13 wz := hS 13 (by omega)
      simp only at s13
      clear hS hl
      simp only [List.take_succ_cons, List.take_zero, List.drop_succ_cons, List.drop_zero, List.map_cons, List.map_nil, puts, Act.put, List.setIfInBounds_toArray, List.set_cons_succ, List.set_cons_zero]
      subst s0
      have hb1 := bv_one [xh, xl]
      have hln := hexOf_len (s.take k)
      rw [List.length_take] at hln
      go_wp2_with (((with_reducible refine' wpList_append_rd (.tmp 12) (.tmp 25) 22 rfl ?_ Tryd.underlying22 inf_u8 ?_ ?_ ?_ (own_below HO.out hbz) ?_ s13 hb1 ?_ ?_ (Nat.le_trans hbl.size hbz.size) ?_); exact rfl; exact rfl; omega; exact rfl; exact rfl; (first | omega | (unfold maxLen; omega)); omega; intro v4 w4 ho4 hb4; simp only [Act.put, List.setIfInBounds_toArray, List.set_cons_succ, List.set_cons_zero]))
      refine onlyN ?_
      go_wp2_with fail
      go_roundw
      case rel =>
        refine ⟨k + 1, by omega, by go_num, ?_, hbl.trans ((hbz.mono hbl.size).trans hb4)⟩
        rw [← bv_append, ← H2.out] at ho4
        unfold hexOf
        rw [ST.out, List.length_append]
        exact ho4
      case measure => simp [intOf]; omega
    · obtain rfl : k = s.length := by omega
      have ho := HO.out
      rw [List.take_of_length_le (Nat.le_refl _)] at ho
      have hr := Rd.of_own ho
      go_wp2_with (((with_reducible refine' wpList_str_rd (.tmp 27) 22 9 rfl ?_ Tryd.underlying22 Tryd.underlying5 Tryd.underlying9 ?_ hr ?_); exact rfl; exact rfl; simp only [Act.put, List.setIfInBounds_toArray, List.set_cons_succ, List.set_cons_zero]))
      go_ret
      exact ⟨rfl, hbl⟩
end Go.Proofs.YtomjniijnpnehaaDoor.Wi
