/-
  The law HashSumMatchesSpec, walked. Conditions: the constants lie as the program's text lays them.
-/
import Derived.Test.YtomjniijnpnehaaDoorLsan
namespace Go.Proofs.YtomjniijnpnehaaDoor.Wi
open Go Go.RowKit Pu Lb
set_option linter.unusedSimpArgs false
set_option linter.unusedVariables false
attribute [local irreducible] comp sched comps sha outS mac digOf hexOf

set_option maxRecDepth 100000 in
theorem law_sum_any (x : Value) (b : List UInt8) (w : World) (hR : TabR w) (hT : TabH w) (hx : Rd w 1 x b.length (bv b)) :
    Calls Tryd.prog 3 #[x] w fun e w' => e = .returned (.bool true) ∧ Below w.heap.size w w' := by
  have hz := size_str b
  have hb := Below.refl w.heap.size w
  have SL := Lib.hid (sha_len b)
  have SB := Lib.hid (show (bv (sha b)).length = 32 by rw [bv_length, sha_len])
  have hx0 := hx
  have hxm := hx.len
  unfold maxLen at hxm
  by_cases h1 : 1000 < b.length
  · go_enter Tryd.func3, Tryd.ntmps3
    go_wp2_with (first
      | ((go_at_call 10; (with_reducible refine (sanity_any _ hT).mono ?_); rintro e w' ⟨rfl, hN⟩); replace hb := hb.trans ((by exact hN : Below _ _ _).mono hb.size); (try replace hx := Rd.below hx hN))
      | ((with_reducible refine' wpList_len_rd (.tmp 7) 22 rfl ?_ Tryd.underlying22 ?_ hx ?_); exact rfl; exact rfl; simp only [Act.put, List.setIfInBounds_toArray, List.set_cons_succ, List.set_cons_zero]))
    go_ret
    exact ⟨rfl, hb⟩
  · go_enter Tryd.func3, Tryd.ntmps3
    have hnm : b.length ≤ 1000 := by omega
    go_upto_region 6 with (first
      | ((go_at_call 10; (with_reducible refine (sanity_any _ hT).mono ?_); rintro e w' ⟨rfl, hN⟩); replace hb := hb.trans ((by exact hN : Below _ _ _).mono hb.size); (try replace hx := Rd.below hx hN); have hT2 := hT.below hb)
      | ((with_reducible refine' wpList_len_rd (.tmp 7) 22 rfl ?_ Tryd.underlying22 ?_ hx ?_); exact rfl; exact rfl; simp only [Act.put, List.setIfInBounds_toArray, List.set_cons_succ, List.set_cons_zero]) | ((with_reducible refine' wpList_str_rd (.tmp 11) 22 9 rfl ?_ Tryd.underlying22 Tryd.underlying5 Tryd.underlying9 ?_ hx ?_); exact rfl; exact rfl; simp only [Act.put, List.setIfInBounds_toArray, List.set_cons_succ, List.set_cons_zero])
      | ((go_at_call 11; (with_reducible refine (sum_any x _ b _ hT2 hx (by omega)).mono ?_); rintro e w' ⟨rfl, hN⟩); replace hb := hb.trans ((by exact hN : Below _ _ _).mono hb.size); (try replace hx := Rd.below hx hN); have z1 := hb.size)
      | (((with_reducible refine' wpList_alloc_blk (cs := List.replicate 32 (.int .u8 0)) 24 rfl ?_ zr_b32 ?_ ?_); exact rfl; exact zeros_u8 32; intro w2 k1 hN hz1; simp only [Act.put, List.setIfInBounds_toArray, List.set_cons_succ, List.set_cons_zero]); replace hb := hb.trans ((by exact hN : Below _ _ _).mono hb.size); (try replace hx := Rd.below hx hN))
      | (((with_reducible refine' wpList_store_blk (cs := bv (sha b)) 24 (.tmp 5) (.tmp 14) rfl ?_ ?_ ?_ k1 sz_b32 ?_ ?_ ?_ ?_); exact rfl; exact rfl; exact rfl; exact SB.out; exact List.length_replicate; exact bv_one _; intro w3 k2 hO hz2; simp only [Act.put]); replace hb := hb.trans (hO.below z1 hb.size)))
    obtain ⟨B, hB⟩ : ∃ B, w'.heap.size = B := ⟨_, rfl⟩
    rw [hB] at k2 ⊢
    have hxs := hx0.below hb
    have hRs := hR.below hb
    have hl := k2.lt
    clear hx k1 hO hT2 hz1 hz2 hN
    refine wp_region_mono (w := w3) 14 (fun i => match i with | 0 => fun (vv : Value) (ww : World) => vv = .bool true | 1 => fun (vv : Value) (ww : World) => vv = .bool true | 2 => fun (vv : Value) (ww : World) => vv = .agg (bv (sha b)).toArray | 3 => fun (vv : Value) (ww : World) => vv = .string ⟨b.toArray⟩ | 4 => fun (vv : Value) (ww : World) => Rd ww 1 vv b.length (bv b) | 5 => fun (vv : Value) (ww : World) => vv = .agg (bv (sha b)).toArray | 6 => fun (vv : Value) (ww : World) => vv = .bool true | 7 => fun (vv : Value) (ww : World) => vv = .bool true | 8 => fun (vv : Value) (ww : World) => vv = .bool true | 9 => fun (vv : Value) (ww : World) => vv = x | 10 => fun (vv : Value) (ww : World) => vv = .string ⟨b.toArray⟩ | 11 => fun (vv : Value) (ww : World) => vv = .string ⟨b.toArray⟩ | 12 => fun (vv : Value) (ww : World) => vv = .bool true | 13 => fun (vv : Value) (ww : World) => vv = .bool true | _ => fun _ _ => True) (by kernel_rfl) (by kernel_rfl) ?_ ?_ ?_
    · intro i vv w1 w2 h hb
      rcases i with _ | _ | _ | _ | _ | _ | _ | _ | _ | _ | _ | _ | _ | _ | i
      all_goals first | exact h | exact Rd.below h hb | exact own_below h hb | (obtain ⟨B, h1, h2, h3⟩ := h; exact ⟨B, h1, h2, Blk.below h3 hb (Blk.lt h3)⟩) | trivial
    · intro i o hi ho us wz hl hbz hd
      obtain ⟨u0, u1, u2, u3, u4, u5, u6, u7, u8, u9, u10, u11, u12, u13, rfl⟩ := len14 hl
      rcases i with _ | _ | _ | _ | _ | _ | _ | _ | _ | _ | _ | _ | _ | _ | i
      · simp only [List.getElem?_cons_succ, List.getElem?_cons_zero, Option.some.injEq] at ho; subst ho; clear hi hl
        clear hd
        simp only [List.take_succ_cons, List.take_zero, List.drop_succ_cons, List.drop_zero, List.map_cons, List.map_nil, puts, Act.put, List.setIfInBounds_toArray, List.set_cons_succ, List.set_cons_zero]
        go_wp2_with (fail)
        exact ⟨rfl, _, rfl, Below.refl _ _, rfl⟩
      · simp only [List.getElem?_cons_succ, List.getElem?_cons_zero, Option.some.injEq] at ho; subst ho; clear hi hl
        have s0 : (fun (vv : Value) (ww : World) => vv = .bool true) u0 wz := hd 0 (by kernel_rfl)
        simp only at s0
        obtain rfl := s0
        clear hd
        simp only [List.take_succ_cons, List.take_zero, List.drop_succ_cons, List.drop_zero, List.map_cons, List.map_nil, puts, Act.put, List.setIfInBounds_toArray, List.set_cons_succ, List.set_cons_zero]
        go_wp2_with (fail)
        exact ⟨rfl, _, rfl, Below.refl _ _, rfl⟩
      · simp only [List.getElem?_cons_succ, List.getElem?_cons_zero, Option.some.injEq] at ho; subst ho; clear hi hl
        have s1 : (fun (vv : Value) (ww : World) => vv = .bool true) u1 wz := hd 1 (by kernel_rfl)
        simp only at s1
        obtain rfl := s1
        clear hd
        simp only [List.take_succ_cons, List.take_zero, List.drop_succ_cons, List.drop_zero, List.map_cons, List.map_nil, puts, Act.put, List.setIfInBounds_toArray, List.set_cons_succ, List.set_cons_zero]
        go_wp2_with (((with_reducible refine' wpList_loadall_blk (.tmp 5) 24 rfl ?_ Tryd.underlying24 sz_b32 ?_ (k2.below hbz hl) ?_ ?_ ?_); exact rfl; exact rfl; exact SB.out; omega; simp only [Act.put, List.setIfInBounds_toArray, List.set_cons_succ, List.set_cons_zero]))
        exact ⟨rfl, _, rfl, Below.refl _ _, rfl⟩
      · simp only [List.getElem?_cons_succ, List.getElem?_cons_zero, Option.some.injEq] at ho; subst ho; clear hi hl
        have s1 : (fun (vv : Value) (ww : World) => vv = .bool true) u1 wz := hd 1 (by kernel_rfl)
        simp only at s1
        obtain rfl := s1
        clear hd
        simp only [List.take_succ_cons, List.take_zero, List.drop_succ_cons, List.drop_zero, List.map_cons, List.map_nil, puts, Act.put, List.setIfInBounds_toArray, List.set_cons_succ, List.set_cons_zero]
        go_wp2_with (fail)
        exact ⟨rfl, _, rfl, Below.refl _ _, rfl⟩
      · simp only [List.getElem?_cons_succ, List.getElem?_cons_zero, Option.some.injEq] at ho; subst ho; clear hi hl
        have s1 : (fun (vv : Value) (ww : World) => vv = .bool true) u1 wz := hd 1 (by kernel_rfl)
        simp only at s1
        obtain rfl := s1
        have s3 : (fun (vv : Value) (ww : World) => vv = .string ⟨b.toArray⟩) u3 wz := hd 3 (by kernel_rfl)
        simp only at s3
        obtain rfl := s3
        clear hd
        simp only [List.take_succ_cons, List.take_zero, List.drop_succ_cons, List.drop_zero, List.map_cons, List.map_nil, puts, Act.put, List.setIfInBounds_toArray, List.set_cons_succ, List.set_cons_zero]
        go_wp2_with (((with_reducible refine' wpList_bytes_l (l := b) (.tmp 18) 9 22 rfl ?_ Tryd.underlying9 Tryd.underlying22 Tryd.underlying5 ?_ ((by unfold maxLen; omega)) ?_); exact rfl; exact rfl; intro v4 w4 hr hNq; simp only [Act.put, List.setIfInBounds_toArray, List.set_cons_succ, List.set_cons_zero]))
        exact ⟨rfl, _, rfl, hNq, hr⟩
      · simp only [List.getElem?_cons_succ, List.getElem?_cons_zero, Option.some.injEq] at ho; subst ho; clear hi hl
        have s1 : (fun (vv : Value) (ww : World) => vv = .bool true) u1 wz := hd 1 (by kernel_rfl)
        simp only at s1
        obtain rfl := s1
        have s4 : (fun (vv : Value) (ww : World) => Rd ww 1 vv b.length (bv b)) u4 wz := hd 4 (by kernel_rfl)
        simp only at s4
        clear hd
        simp only [List.take_succ_cons, List.take_zero, List.drop_succ_cons, List.drop_zero, List.map_cons, List.map_nil, puts, Act.put, List.setIfInBounds_toArray, List.set_cons_succ, List.set_cons_zero]
        go_wp2_with ((go_at_call 12; (with_reducible refine (refsum_any _ _ b _ (hRs.below hbz) s4 (by omega)).mono ?_); rintro e w' ⟨rfl, hNq⟩))
        exact ⟨rfl, _, rfl, hNq, rfl⟩
      · simp only [List.getElem?_cons_succ, List.getElem?_cons_zero, Option.some.injEq] at ho; subst ho; clear hi hl
        have s1 : (fun (vv : Value) (ww : World) => vv = .bool true) u1 wz := hd 1 (by kernel_rfl)
        simp only at s1
        obtain rfl := s1
        have s2 : (fun (vv : Value) (ww : World) => vv = .agg (bv (sha b)).toArray) u2 wz := hd 2 (by kernel_rfl)
        simp only at s2
        obtain rfl := s2
        have s5 : (fun (vv : Value) (ww : World) => vv = .agg (bv (sha b)).toArray) u5 wz := hd 5 (by kernel_rfl)
        simp only at s5
        obtain rfl := s5
        clear hd
        simp only [List.take_succ_cons, List.take_zero, List.drop_succ_cons, List.drop_zero, List.map_cons, List.map_nil, puts, Act.put, List.setIfInBounds_toArray, List.set_cons_succ, List.set_cons_zero]
        go_wp2_with (((with_reducible refine' wpList_arr_eql (l := sha b) (m := sha b) (.tmp 17) (.tmp 20) 24 _ rfl ?_ Tryd.underlying24 Tryd.underlying5 sz_u8 (by kernel_rfl) ?_ ?_ SL.out SL.out ?_); exact rfl; exact rfl; exact rfl; simp only [Act.put, List.setIfInBounds_toArray, List.set_cons_succ, List.set_cons_zero]))
        exact ⟨rfl, _, rfl, Below.refl _ _, rfl⟩
      · simp only [List.getElem?_cons_succ, List.getElem?_cons_zero, Option.some.injEq] at ho; subst ho; clear hi hl
        have s1 : (fun (vv : Value) (ww : World) => vv = .bool true) u1 wz := hd 1 (by kernel_rfl)
        simp only at s1
        obtain rfl := s1
        have s6 : (fun (vv : Value) (ww : World) => vv = .bool true) u6 wz := hd 6 (by kernel_rfl)
        simp only at s6
        obtain rfl := s6
        clear hd
        simp only [List.take_succ_cons, List.take_zero, List.drop_succ_cons, List.drop_zero, List.map_cons, List.map_nil, puts, Act.put, List.setIfInBounds_toArray, List.set_cons_succ, List.set_cons_zero]
        go_wp2_with (fail)
        exact ⟨rfl, _, rfl, Below.refl _ _, rfl⟩
      · simp only [List.getElem?_cons_succ, List.getElem?_cons_zero, Option.some.injEq] at ho; subst ho; clear hi hl
        have s7 : (fun (vv : Value) (ww : World) => vv = .bool true) u7 wz := hd 7 (by kernel_rfl)
        simp only at s7
        obtain rfl := s7
        clear hd
        simp only [List.take_succ_cons, List.take_zero, List.drop_succ_cons, List.drop_zero, List.map_cons, List.map_nil, puts, Act.put, List.setIfInBounds_toArray, List.set_cons_succ, List.set_cons_zero]
        go_wp2_with (fail)
        exact ⟨rfl, _, rfl, Below.refl _ _, rfl⟩
      · simp only [List.getElem?_cons_succ, List.getElem?_cons_zero, Option.some.injEq] at ho; subst ho; clear hi hl
        have s8 : (fun (vv : Value) (ww : World) => vv = .bool true) u8 wz := hd 8 (by kernel_rfl)
        simp only at s8
        obtain rfl := s8
        clear hd
        simp only [List.take_succ_cons, List.take_zero, List.drop_succ_cons, List.drop_zero, List.map_cons, List.map_nil, puts, Act.put, List.setIfInBounds_toArray, List.set_cons_succ, List.set_cons_zero]
        go_wp2_with (fail)
        exact ⟨rfl, _, rfl, Below.refl _ _, rfl⟩
      · simp only [List.getElem?_cons_succ, List.getElem?_cons_zero, Option.some.injEq] at ho; subst ho; clear hi hl
        have s8 : (fun (vv : Value) (ww : World) => vv = .bool true) u8 wz := hd 8 (by kernel_rfl)
        simp only at s8
        obtain rfl := s8
        have s9 : (fun (vv : Value) (ww : World) => vv = x) u9 wz := hd 9 (by kernel_rfl)
        simp only at s9
        obtain rfl := s9
        clear hd
        simp only [List.take_succ_cons, List.take_zero, List.drop_succ_cons, List.drop_zero, List.map_cons, List.map_nil, puts, Act.put, List.setIfInBounds_toArray, List.set_cons_succ, List.set_cons_zero]
        go_wp2_with (((with_reducible refine' wpList_str_rd (.tmp 24) 22 9 rfl ?_ Tryd.underlying22 Tryd.underlying5 Tryd.underlying9 ?_ (hxs.below hbz) ?_); exact rfl; exact rfl; simp only [Act.put, List.setIfInBounds_toArray, List.set_cons_succ, List.set_cons_zero]))
        exact ⟨rfl, _, rfl, Below.refl _ _, rfl⟩
      · simp only [List.getElem?_cons_succ, List.getElem?_cons_zero, Option.some.injEq] at ho; subst ho; clear hi hl
        have s8 : (fun (vv : Value) (ww : World) => vv = .bool true) u8 wz := hd 8 (by kernel_rfl)
        simp only at s8
        obtain rfl := s8
        clear hd
        simp only [List.take_succ_cons, List.take_zero, List.drop_succ_cons, List.drop_zero, List.map_cons, List.map_nil, puts, Act.put, List.setIfInBounds_toArray, List.set_cons_succ, List.set_cons_zero]
        go_wp2_with (fail)
        exact ⟨rfl, _, rfl, Below.refl _ _, rfl⟩
      · simp only [List.getElem?_cons_succ, List.getElem?_cons_zero, Option.some.injEq] at ho; subst ho; clear hi hl
        have s8 : (fun (vv : Value) (ww : World) => vv = .bool true) u8 wz := hd 8 (by kernel_rfl)
        simp only at s8
        obtain rfl := s8
        have s10 : (fun (vv : Value) (ww : World) => vv = .string ⟨b.toArray⟩) u10 wz := hd 10 (by kernel_rfl)
        simp only at s10
        obtain rfl := s10
        have s11 : (fun (vv : Value) (ww : World) => vv = .string ⟨b.toArray⟩) u11 wz := hd 11 (by kernel_rfl)
        simp only at s11
        obtain rfl := s11
        clear hd
        simp only [List.take_succ_cons, List.take_zero, List.drop_succ_cons, List.drop_zero, List.map_cons, List.map_nil, puts, Act.put, List.setIfInBounds_toArray, List.set_cons_succ, List.set_cons_zero]
        go_wp2_with (((with_reducible refine' wpList_str_eql (l := b) (m := b) (.tmp 25) (.tmp 26) 9 _ rfl ?_ ?_ ?_ ?_); exact rfl; exact rfl; exact rfl; simp only [Act.put, List.setIfInBounds_toArray, List.set_cons_succ, List.set_cons_zero]))
        exact ⟨rfl, _, rfl, Below.refl _ _, rfl⟩
      · simp only [List.getElem?_cons_succ, List.getElem?_cons_zero, Option.some.injEq] at ho; subst ho; clear hi hl
        have s8 : (fun (vv : Value) (ww : World) => vv = .bool true) u8 wz := hd 8 (by kernel_rfl)
        simp only at s8
        obtain rfl := s8
        have s12 : (fun (vv : Value) (ww : World) => vv = .bool true) u12 wz := hd 12 (by kernel_rfl)
        simp only at s12
        obtain rfl := s12
        clear hd
        simp only [List.take_succ_cons, List.take_zero, List.drop_succ_cons, List.drop_zero, List.map_cons, List.map_nil, puts, Act.put, List.setIfInBounds_toArray, List.set_cons_succ, List.set_cons_zero]
        go_wp2_with (fail)
        exact ⟨rfl, _, rfl, Below.refl _ _, rfl⟩
      · omega
    intro us wz hl hbz hS
    obtain ⟨u0, u1, u2, u3, u4, u5, u6, u7, u8, u9, u10, u11, u12, u13, rfl⟩ := len14 hl
    have s13 : (fun (vv : Value) (ww : World) => vv = .bool true) u13 wz := hS 13 (by omega)
    simp only at s13
    obtain rfl := s13
    clear hS hl
    simp only [List.take_succ_cons, List.take_zero, List.drop_succ_cons, List.drop_zero, List.map_cons, List.map_nil, puts, Act.put, List.setIfInBounds_toArray, List.set_cons_succ, List.set_cons_zero]
    go_wp2_with fail
    refine onlyN ?_
    go_wp2_with fail
    go_ret
    exact ⟨rfl, hb.trans (hbz.mono hb.size)⟩
end Go.Proofs.YtomjniijnpnehaaDoor.Wi
