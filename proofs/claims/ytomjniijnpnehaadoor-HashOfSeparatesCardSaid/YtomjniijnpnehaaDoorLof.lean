/-
  The law HashOfMatchesSpec, walked. Conditions: the constants lie as the program's text lays them.
-/
import Derived.Test.YtomjniijnpnehaaDoorLsan
import Derived.Laws.Bits128
namespace Go.Proofs.YtomjniijnpnehaaDoor.Wi
open Go Go.RowKit Pu Lb
set_option linter.unusedSimpArgs false
set_option linter.unusedVariables false

theorem i64_and255 (n : Int) : bits .and .i64 n 255 = n % 256 := by
  have h255 : (BitVec.ofInt 64 255).toNat = 2 ^ 8 - 1 := by decide
  have key : (BitVec.ofInt 64 n &&& BitVec.ofInt 64 255).toNat = (n % ((2 ^ 64 : Nat) : Int)).toNat % 2 ^ 8 := by
    rw [BitVec.toNat_and, BitVec.toNat_ofInt, h255, Nat.and_two_pow_sub_one_eq_mod]
  show IntKind.i64.wrap ((BitVec.ofInt 64 n &&& BitVec.ofInt 64 255).toNat : Nat) = n % 256
  rw [key, IntKind.wrap_i64]
  omega
theorem fewB_iff (l : List (List UInt8)) : fewB l = true ↔ l.length ≤ 12 ∧ ∀ s ∈ l, s.length ≤ 400 := by unfold fewB; simp
theorem flat_few : ∀ (l : List (List UInt8)), (∀ s ∈ l, s.length ≤ 400) → (l.flatMap encBytes).length ≤ 409 * l.length
  | [], _ => by simp
  | x :: r, h => by
    have h1 := flat_few r fun s hs => h s (by simp [hs])
    have h2 := h x (by simp)
    have h3 := encBytes_length x
    have h4 := enc_len_bd (n := x.length) (by omega) (by omega)
    rw [List.flatMap_cons, List.length_append, List.length_cons]
    omega
theorem inp_few (tag : Int) {l : List (List UInt8)} (h : fewB l = true) : (inp tag l).length ≤ 10000 := by
  obtain ⟨h1, h2⟩ := (fewB_iff l).1 h
  have := flat_few l h2
  unfold inp
  rw [List.length_cons]
  omega
theorem bt_bt (tag : Int) : bt ((bt tag).toNat : Int) = bt tag := by
  have h1 := bt_toNat tag
  have h2 := bt_toNat ((bt tag).toNat : Int)
  apply UInt8.toNat_inj.1
  omega
theorem digOf_bt (tag : Int) (l : List (List UInt8)) : digOf ((bt tag).toNat : Int) l = digOf tag l := by unfold digOf inp; rw [bt_bt]
attribute [local irreducible] comp sched comps sha outS mac digOf hexOf fewB

set_option maxRecDepth 100000 in
theorem law_of_any (tag : Int) (x : Value) (l : List (List UInt8)) (w : World) (hR : TabR w) (hT : TabH w) (h0 : -9223372036854775808 ≤ tag) (h1 : tag ≤ 9223372036854775807) (hx : Rd w 1 x l.length (sv l)) (hs : ∀ s ∈ l, s.length ≤ 140737488351232) :
    Calls Tryd.prog 7 #[.int .i64 tag, x] w fun e w' => e = .returned (.bool true) ∧ Below w.heap.size w w' := by
  have hb := Below.refl w.heap.size w
  have GL := Lib.hid (digOf_len tag l)
  have GB := Lib.hid (show (bv (digOf tag l)).length = 16 by rw [bv_length, digOf_len])
  have hx0 := hx
  have hs2 : ∀ s ∈ l, s.length ≤ 140737488355328 := fun s h => Nat.le_trans (hs s h) (by decide)
  have HS := Lib.hid hs2
  clear hs hs2
  by_cases hf : fewB l = true
  · have hi := inp_few tag hf
    have hi2 := inp_few ((bt tag).toNat : Int) hf
    have A1 := Lib.hid (show bits .and .i64 tag 255 = ((bt tag).toNat : Int) by rw [i64_and255, bt_toNat])
    have b8 := u8_lt (bt tag)
    have DB := Lib.hid (digOf_bt tag l)
    have IL := Lib.hid hi
    have IL2 := Lib.hid hi2
    clear hi hi2
    go_enter Tryd.func7, Tryd.ntmps7
    go_upto_region 5 with (first
      | ((go_at_call 10; (with_reducible refine (sanity_any _ hT).mono ?_); rintro e w' ⟨rfl, hN⟩); replace hb := hb.trans ((by exact hN : Below _ _ _).mono hb.size); (try replace hx := Rd.below hx hN); have hT2 := hT.below hb)
      | ((go_at_call 13; (with_reducible refine (reffew_any x _ l _ hx HS.out).mono ?_); rintro e w' ⟨rfl, rfl⟩); rw [hf])
      | ((go_at_call 21; (with_reducible refine (of_any tag x _ l _ hT2 hx h0 h1 (Nat.le_trans IL.out (by decide))).mono ?_); rintro e w' ⟨rfl, hN⟩); replace hb := hb.trans ((by exact hN : Below _ _ _).mono hb.size); (try replace hx := Rd.below hx hN); have z1 := hb.size)
      | (((with_reducible refine' wpList_alloc_blk (cs := List.replicate 16 (.int .u8 0)) 44 rfl ?_ zr_dig ?_ ?_); exact rfl; exact zeros_u8 16; intro w2 k1 hN hz1; simp only [Act.put, List.setIfInBounds_toArray, List.set_cons_succ, List.set_cons_zero]); replace hb := hb.trans ((by exact hN : Below _ _ _).mono hb.size); (try replace hx := Rd.below hx hN))
      | (((with_reducible refine' wpList_store_blk (cs := bv (digOf tag l)) 44 (.tmp 6) (.tmp 14) rfl ?_ ?_ ?_ k1 sz_dig ?_ ?_ ?_ ?_); exact rfl; exact rfl; exact rfl; exact GB.out; exact List.length_replicate; exact bv_one _; intro w3 k2 hO hz2; simp only [Act.put]); replace hb := hb.trans (hO.below z1 hb.size)))
    obtain ⟨B, hB⟩ : ∃ B, w'.heap.size = B := ⟨_, rfl⟩
    rw [hB] at k2 ⊢
    have hxs := hx0.below hb
    have hRs := hR.below hb
    have hTs := hT.below hb
    have hl := k2.lt
    clear hx k1 hO hT2 hz1 hz2 hN
    refine wp_region_mono (w := w3) 16 (fun i => match i with | 0 => fun (vv : Value) (ww : World) => vv = .bool true | 1 => fun (vv : Value) (ww : World) => vv = .bool true | 2 => fun (vv : Value) (ww : World) => vv = .agg (bv (digOf tag l)).toArray | 3 => fun (vv : Value) (ww : World) => vv = .int .i64 tag | 4 => fun (vv : Value) (ww : World) => vv = x | 5 => fun (vv : Value) (ww : World) => vv = .agg (bv (digOf tag l)).toArray | 6 => fun (vv : Value) (ww : World) => vv = .bool true | 7 => fun (vv : Value) (ww : World) => vv = .bool true | 8 => fun (vv : Value) (ww : World) => vv = .bool true | 9 => fun (vv : Value) (ww : World) => vv = .agg (bv (digOf tag l)).toArray | 10 => fun (vv : Value) (ww : World) => vv = .int .i64 tag | 11 => fun (vv : Value) (ww : World) => vv = .int .i64 ((bt tag).toNat : Int) | 12 => fun (vv : Value) (ww : World) => vv = x | 13 => fun (vv : Value) (ww : World) => vv = .agg (bv (digOf tag l)).toArray | 14 => fun (vv : Value) (ww : World) => vv = .bool true | 15 => fun (vv : Value) (ww : World) => vv = .bool true | _ => fun _ _ => True) (by kernel_rfl) (by kernel_rfl) ?_ ?_ ?_
    · intro i vv w1 w2 h hb
      rcases i with _ | _ | _ | _ | _ | _ | _ | _ | _ | _ | _ | _ | _ | _ | _ | _ | i
      all_goals first | exact h | exact Rd.below h hb | exact own_below h hb | (obtain ⟨B, h1, h2, h3⟩ := h; exact ⟨B, h1, h2, Blk.below h3 hb (Blk.lt h3)⟩) | trivial
    · intro i o hi ho us wz hl hbz hd
      obtain ⟨u0, u1, u2, u3, u4, u5, u6, u7, u8, u9, u10, u11, u12, u13, u14, u15, rfl⟩ := len16 hl
      rcases i with _ | _ | _ | _ | _ | _ | _ | _ | _ | _ | _ | _ | _ | _ | _ | _ | i
      · simp only [List.getElem?_cons_succ, List.getElem?_cons_zero, Option.some.injEq] at ho; subst ho; clear hi hl
        clear hd
        simp only [List.take_succ_cons, List.take_zero, List.drop_succ_cons, List.drop_zero, List.map_cons, List.map_nil, puts, Act.put, List.setIfInBounds_toArray, List.set_cons_succ, List.set_cons_zero]
        go_wp2_with (fail)
        exact ⟨rfl, _, rfl, Below.refl _ _, rfl⟩
      · simp only [List.getElem?_cons_succ, List.getElem?_cons_zero, Option.some.injEq] at ho; subst ho; clear hi hl
        have s0 : (fun (vv : Value) (ww : World) => vv = .bool true) u0 wz := hd 0 (by kernel_rfl)
        simp only at s0
        obtain rfl := s0
        clear hd
        simp only [List.take_succ_cons, List.take_zero, List.drop_succ_cons, List.drop_zero, List.map_cons, List.map_nil, puts, Act.put, List.setIfInBounds_toArray, List.set_cons_succ, List.set_cons_zero]
        go_wp2_with (fail)
        exact ⟨rfl, _, rfl, Below.refl _ _, rfl⟩
      · simp only [List.getElem?_cons_succ, List.getElem?_cons_zero, Option.some.injEq] at ho; subst ho; clear hi hl
        have s1 : (fun (vv : Value) (ww : World) => vv = .bool true) u1 wz := hd 1 (by kernel_rfl)
        simp only at s1
        obtain rfl := s1
        clear hd
        simp only [List.take_succ_cons, List.take_zero, List.drop_succ_cons, List.drop_zero, List.map_cons, List.map_nil, puts, Act.put, List.setIfInBounds_toArray, List.set_cons_succ, List.set_cons_zero]
        go_wp2_with (((with_reducible refine' wpList_loadall_blk (.tmp 6) 44 rfl ?_ Tryd.underlying44 sz_dig ?_ (k2.below hbz hl) ?_ ?_ ?_); exact rfl; exact rfl; exact GB.out; omega; simp only [Act.put, List.setIfInBounds_toArray, List.set_cons_succ, List.set_cons_zero]))
        exact ⟨rfl, _, rfl, Below.refl _ _, rfl⟩
      · simp only [List.getElem?_cons_succ, List.getElem?_cons_zero, Option.some.injEq] at ho; subst ho; clear hi hl
        have s1 : (fun (vv : Value) (ww : World) => vv = .bool true) u1 wz := hd 1 (by kernel_rfl)
        simp only at s1
        obtain rfl := s1
        clear hd
        simp only [List.take_succ_cons, List.take_zero, List.drop_succ_cons, List.drop_zero, List.map_cons, List.map_nil, puts, Act.put, List.setIfInBounds_toArray, List.set_cons_succ, List.set_cons_zero]
        go_wp2_with (fail)
        exact ⟨rfl, _, rfl, Below.refl _ _, rfl⟩
      · simp only [List.getElem?_cons_succ, List.getElem?_cons_zero, Option.some.injEq] at ho; subst ho; clear hi hl
        have s1 : (fun (vv : Value) (ww : World) => vv = .bool true) u1 wz := hd 1 (by kernel_rfl)
        simp only at s1
        obtain rfl := s1
        clear hd
        simp only [List.take_succ_cons, List.take_zero, List.drop_succ_cons, List.drop_zero, List.map_cons, List.map_nil, puts, Act.put, List.setIfInBounds_toArray, List.set_cons_succ, List.set_cons_zero]
        go_wp2_with (fail)
        exact ⟨rfl, _, rfl, Below.refl _ _, rfl⟩
      · simp only [List.getElem?_cons_succ, List.getElem?_cons_zero, Option.some.injEq] at ho; subst ho; clear hi hl
        have s1 : (fun (vv : Value) (ww : World) => vv = .bool true) u1 wz := hd 1 (by kernel_rfl)
        simp only at s1
        obtain rfl := s1
        have s3 : (fun (vv : Value) (ww : World) => vv = .int .i64 tag) u3 wz := hd 3 (by kernel_rfl)
        simp only at s3
        obtain rfl := s3
        have s4 : (fun (vv : Value) (ww : World) => vv = x) u4 wz := hd 4 (by kernel_rfl)
        simp only at s4
        obtain rfl := s4
        clear hd
        simp only [List.take_succ_cons, List.take_zero, List.drop_succ_cons, List.drop_zero, List.map_cons, List.map_nil, puts, Act.put, List.setIfInBounds_toArray, List.set_cons_succ, List.set_cons_zero]
        go_wp2_with ((go_at_call 22; (with_reducible refine (refof_any tag _ _ l _ (hRs.below hbz) (hxs.below hbz) h0 h1 (Nat.le_trans IL.out (by decide))).mono ?_); rintro e w' ⟨rfl, hNq⟩))
        exact ⟨rfl, _, rfl, hNq, rfl⟩
      · simp only [List.getElem?_cons_succ, List.getElem?_cons_zero, Option.some.injEq] at ho; subst ho; clear hi hl
        have s1 : (fun (vv : Value) (ww : World) => vv = .bool true) u1 wz := hd 1 (by kernel_rfl)
        simp only at s1
        obtain rfl := s1
        have s2 : (fun (vv : Value) (ww : World) => vv = .agg (bv (digOf tag l)).toArray) u2 wz := hd 2 (by kernel_rfl)
        simp only at s2
        obtain rfl := s2
        have s5 : (fun (vv : Value) (ww : World) => vv = .agg (bv (digOf tag l)).toArray) u5 wz := hd 5 (by kernel_rfl)
        simp only at s5
        obtain rfl := s5
        clear hd
        simp only [List.take_succ_cons, List.take_zero, List.drop_succ_cons, List.drop_zero, List.map_cons, List.map_nil, puts, Act.put, List.setIfInBounds_toArray, List.set_cons_succ, List.set_cons_zero]
        go_wp2_with (((with_reducible refine' wpList_arr_eql (l := digOf tag l) (m := digOf tag l) (.tmp 17) (.tmp 20) 44 _ rfl ?_ Tryd.underlying44 Tryd.underlying5 sz_u8 (by kernel_rfl) ?_ ?_ GL.out GL.out ?_); exact rfl; exact rfl; exact rfl; simp only [Act.put, List.setIfInBounds_toArray, List.set_cons_succ, List.set_cons_zero]))
        exact ⟨rfl, _, rfl, Below.refl _ _, rfl⟩
      · simp only [List.getElem?_cons_succ, List.getElem?_cons_zero, Option.some.injEq] at ho; subst ho; clear hi hl
        have s1 : (fun (vv : Value) (ww : World) => vv = .bool true) u1 wz := hd 1 (by kernel_rfl)
        simp only at s1
        obtain rfl := s1
        have s6 : (fun (vv : Value) (ww : World) => vv = .bool true) u6 wz := hd 6 (by kernel_rfl)
        simp only at s6
        obtain rfl := s6
        clear hd
        simp only [List.take_succ_cons, List.take_zero, List.drop_succ_cons, List.drop_zero, List.map_cons, List.map_nil, puts, Act.put, List.setIfInBounds_toArray, List.set_cons_succ, List.set_cons_zero]
        go_wp2_with (fail)
        exact ⟨rfl, _, rfl, Below.refl _ _, rfl⟩
      · simp only [List.getElem?_cons_succ, List.getElem?_cons_zero, Option.some.injEq] at ho; subst ho; clear hi hl
        have s7 : (fun (vv : Value) (ww : World) => vv = .bool true) u7 wz := hd 7 (by kernel_rfl)
        simp only at s7
        obtain rfl := s7
        clear hd
        simp only [List.take_succ_cons, List.take_zero, List.drop_succ_cons, List.drop_zero, List.map_cons, List.map_nil, puts, Act.put, List.setIfInBounds_toArray, List.set_cons_succ, List.set_cons_zero]
        go_wp2_with (fail)
        exact ⟨rfl, _, rfl, Below.refl _ _, rfl⟩
      · simp only [List.getElem?_cons_succ, List.getElem?_cons_zero, Option.some.injEq] at ho; subst ho; clear hi hl
        have s8 : (fun (vv : Value) (ww : World) => vv = .bool true) u8 wz := hd 8 (by kernel_rfl)
        simp only at s8
        obtain rfl := s8
        clear hd
        simp only [List.take_succ_cons, List.take_zero, List.drop_succ_cons, List.drop_zero, List.map_cons, List.map_nil, puts, Act.put, List.setIfInBounds_toArray, List.set_cons_succ, List.set_cons_zero]
        go_wp2_with (((with_reducible refine' wpList_loadall_blk (.tmp 6) 44 rfl ?_ Tryd.underlying44 sz_dig ?_ (k2.below hbz hl) ?_ ?_ ?_); exact rfl; exact rfl; exact GB.out; omega; simp only [Act.put, List.setIfInBounds_toArray, List.set_cons_succ, List.set_cons_zero]))
        exact ⟨rfl, _, rfl, Below.refl _ _, rfl⟩
      · simp only [List.getElem?_cons_succ, List.getElem?_cons_zero, Option.some.injEq] at ho; subst ho; clear hi hl
        have s8 : (fun (vv : Value) (ww : World) => vv = .bool true) u8 wz := hd 8 (by kernel_rfl)
        simp only at s8
        obtain rfl := s8
        clear hd
        simp only [List.take_succ_cons, List.take_zero, List.drop_succ_cons, List.drop_zero, List.map_cons, List.map_nil, puts, Act.put, List.setIfInBounds_toArray, List.set_cons_succ, List.set_cons_zero]
        go_wp2_with (fail)
        exact ⟨rfl, _, rfl, Below.refl _ _, rfl⟩
      · simp only [List.getElem?_cons_succ, List.getElem?_cons_zero, Option.some.injEq] at ho; subst ho; clear hi hl
        have s8 : (fun (vv : Value) (ww : World) => vv = .bool true) u8 wz := hd 8 (by kernel_rfl)
        simp only at s8
        obtain rfl := s8
        have s10 : (fun (vv : Value) (ww : World) => vv = .int .i64 tag) u10 wz := hd 10 (by kernel_rfl)
        simp only at s10
        obtain rfl := s10
        clear hd
        simp only [List.take_succ_cons, List.take_zero, List.drop_succ_cons, List.drop_zero, List.map_cons, List.map_nil, puts, Act.put, List.setIfInBounds_toArray, List.set_cons_succ, List.set_cons_zero]
        go_wp2_with (fail)
        exact ⟨rfl, _, rfl, Below.refl _ _, by rw [A1.out]⟩
      · simp only [List.getElem?_cons_succ, List.getElem?_cons_zero, Option.some.injEq] at ho; subst ho; clear hi hl
        have s8 : (fun (vv : Value) (ww : World) => vv = .bool true) u8 wz := hd 8 (by kernel_rfl)
        simp only at s8
        obtain rfl := s8
        clear hd
        simp only [List.take_succ_cons, List.take_zero, List.drop_succ_cons, List.drop_zero, List.map_cons, List.map_nil, puts, Act.put, List.setIfInBounds_toArray, List.set_cons_succ, List.set_cons_zero]
        go_wp2_with (fail)
        exact ⟨rfl, _, rfl, Below.refl _ _, rfl⟩
      · simp only [List.getElem?_cons_succ, List.getElem?_cons_zero, Option.some.injEq] at ho; subst ho; clear hi hl
        have s8 : (fun (vv : Value) (ww : World) => vv = .bool true) u8 wz := hd 8 (by kernel_rfl)
        simp only at s8
        obtain rfl := s8
        have s11 : (fun (vv : Value) (ww : World) => vv = .int .i64 ((bt tag).toNat : Int)) u11 wz := hd 11 (by kernel_rfl)
        simp only at s11
        obtain rfl := s11
        have s12 : (fun (vv : Value) (ww : World) => vv = x) u12 wz := hd 12 (by kernel_rfl)
        simp only at s12
        obtain rfl := s12
        clear hd
        simp only [List.take_succ_cons, List.take_zero, List.drop_succ_cons, List.drop_zero, List.map_cons, List.map_nil, puts, Act.put, List.setIfInBounds_toArray, List.set_cons_succ, List.set_cons_zero]
        go_wp2_with (((go_at_call 21; (with_reducible refine (of_any ((bt tag).toNat : Int) _ _ l _ (hTs.below hbz) (hxs.below hbz) (by omega) (by omega) (Nat.le_trans IL2.out (by decide))).mono ?_); rintro e w' ⟨rfl, hNq⟩); rw [DB.out]))
        exact ⟨rfl, _, rfl, hNq, rfl⟩
      · simp only [List.getElem?_cons_succ, List.getElem?_cons_zero, Option.some.injEq] at ho; subst ho; clear hi hl
        have s8 : (fun (vv : Value) (ww : World) => vv = .bool true) u8 wz := hd 8 (by kernel_rfl)
        simp only at s8
        obtain rfl := s8
        have s9 : (fun (vv : Value) (ww : World) => vv = .agg (bv (digOf tag l)).toArray) u9 wz := hd 9 (by kernel_rfl)
        simp only at s9
        obtain rfl := s9
        have s13 : (fun (vv : Value) (ww : World) => vv = .agg (bv (digOf tag l)).toArray) u13 wz := hd 13 (by kernel_rfl)
        simp only at s13
        obtain rfl := s13
        clear hd
        simp only [List.take_succ_cons, List.take_zero, List.drop_succ_cons, List.drop_zero, List.map_cons, List.map_nil, puts, Act.put, List.setIfInBounds_toArray, List.set_cons_succ, List.set_cons_zero]
        go_wp2_with (((with_reducible refine' wpList_arr_eql (l := digOf tag l) (m := digOf tag l) (.tmp 24) (.tmp 28) 44 _ rfl ?_ Tryd.underlying44 Tryd.underlying5 sz_u8 (by kernel_rfl) ?_ ?_ GL.out GL.out ?_); exact rfl; exact rfl; exact rfl; simp only [Act.put, List.setIfInBounds_toArray, List.set_cons_succ, List.set_cons_zero]))
        exact ⟨rfl, _, rfl, Below.refl _ _, rfl⟩
      · simp only [List.getElem?_cons_succ, List.getElem?_cons_zero, Option.some.injEq] at ho; subst ho; clear hi hl
        have s8 : (fun (vv : Value) (ww : World) => vv = .bool true) u8 wz := hd 8 (by kernel_rfl)
        simp only at s8
        obtain rfl := s8
        have s14 : (fun (vv : Value) (ww : World) => vv = .bool true) u14 wz := hd 14 (by kernel_rfl)
        simp only at s14
        obtain rfl := s14
        clear hd
        simp only [List.take_succ_cons, List.take_zero, List.drop_succ_cons, List.drop_zero, List.map_cons, List.map_nil, puts, Act.put, List.setIfInBounds_toArray, List.set_cons_succ, List.set_cons_zero]
        go_wp2_with (fail)
        exact ⟨rfl, _, rfl, Below.refl _ _, rfl⟩
      · omega
    intro us wz hl hbz hS
    obtain ⟨u0, u1, u2, u3, u4, u5, u6, u7, u8, u9, u10, u11, u12, u13, u14, u15, rfl⟩ := len16 hl
    have s15 : (fun (vv : Value) (ww : World) => vv = .bool true) u15 wz := hS 15 (by omega)
    simp only at s15
    obtain rfl := s15
    clear hS hl
    simp only [List.take_succ_cons, List.take_zero, List.drop_succ_cons, List.drop_zero, List.map_cons, List.map_nil, puts, Act.put, List.setIfInBounds_toArray, List.set_cons_succ, List.set_cons_zero]
    go_wp2_with fail
    refine onlyN ?_
    go_wp2_with fail
    go_ret
    exact ⟨rfl, hb.trans (hbz.mono hb.size)⟩
  · have hf2 : fewB l = false := by simpa using hf
    go_enter Tryd.func7, Tryd.ntmps7
    go_wp2_with (first
      | ((go_at_call 10; (with_reducible refine (sanity_any _ hT).mono ?_); rintro e w' ⟨rfl, hN⟩); replace hb := hb.trans ((by exact hN : Below _ _ _).mono hb.size); (try replace hx := Rd.below hx hN))
      | ((go_at_call 13; (with_reducible refine (reffew_any x _ l _ hx HS.out).mono ?_); rintro e w' ⟨rfl, rfl⟩); rw [hf2]))
    go_ret
    exact ⟨rfl, hb⟩
end Go.Proofs.YtomjniijnpnehaaDoor.Wi
