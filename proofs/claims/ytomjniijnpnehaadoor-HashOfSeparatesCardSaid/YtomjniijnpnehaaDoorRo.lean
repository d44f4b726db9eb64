/-
  The specification's digest of parts. Conditions: the constants lie as the program's text lays them; bounded lengths.
-/
import Derived.Test.YtomjniijnpnehaaDoorRk
import Derived.Test.YtomjniijnpnehaaDoorHo
namespace Go.Proofs.YtomjniijnpnehaaDoor.Wi
open Go Go.RowKit Pu Lb
set_option linter.unusedSimpArgs false
set_option linter.unusedVariables false
attribute [local irreducible] comp sched comps sha outS

set_option maxRecDepth 100000 in
theorem refinput_any (tag : Int) (x : Value) (n : Nat) (l : List (List UInt8)) (w : World) (hx : Rd w 1 x n (sv l)) (h0 : -9223372036854775808 ≤ tag) (h1 : tag ≤ 9223372036854775807) (hL : (inp tag l).length ≤ 70368744177664) :
    Calls Tryd.prog 23 #[.int .i64 tag, x] w fun e w' => ∃ v, e = .returned v ∧ w'.ownsRow w.heap.size 5 1 v (inp tag l).length (bv (inp tag l)) ∧ Below w.heap.size w w' := by
  have hl : l.length = n := by have := hx.1; rw [sv_length] at this; omega
  have HL := Lib.hid hl
  have hnm := hx.len
  unfold maxLen at hnm
  clear hl
  have BT := Lib.hid (bt_toNat tag)
  have hML : (inp tag l).length = (l.flatMap encBytes).length + 1 := by unfold inp; rfl
  go_enter Tryd.func23, Tryd.ntmps23
  go_upto_region 3 with (rw [← BT.out]; ((with_reducible refine' wpList_build_own (u := .int .u8 ((bt tag).toNat : Int)) (.tmp 8) 22 rfl ?_ Tryd.underlying22 inf_u8 ?_ ?_ ?_); exact rfl; exact rfl; exact rfl; intro v3 w3 ho hN3 hz; simp only [Act.put, List.setIfInBounds_toArray, List.set_cons_succ, List.set_cons_zero]))
  go_loopw [6, 5] (fun i v wr => ∃ k : Nat, k ≤ n ∧ i = .int .i64 k ∧ wr.ownsRow w.heap.size 5 1 v (bt tag :: (l.take k).flatMap encBytes).length (bv (bt tag :: (l.take k).flatMap encBytes)) ∧ Below w.heap.size w wr) (fun i _ _ => n - (intOf i).toNat)
  case atStart => exact ⟨0, by omega, rfl, ho, hN3⟩
  case round =>
    obtain ⟨k, hk, rfl, hown, hbl⟩ := hrel
    have HO := Lib.hid hown
    clear hown
    have hxr := hx.below hbl
    by_cases hlt : k < n
    · obtain ⟨wo, rfl⟩ : ∃ wo : World, wo = wr := ⟨_, rfl⟩
      obtain ⟨p, hp⟩ := get_lt (l := l) (k := k) (by rw [HL.out]; exact hlt)
      have SP := Lib.hid (sv_at hp)
      have hst := flat_step encBytes hp
      have hle := flat_le l (k + 1) encBytes
      rw [hst, List.length_append] at hle
      have hpl := encBytes_length p
      have hMb : (bt tag :: (l.take k).flatMap encBytes).length = ((l.take k).flatMap encBytes).length + 1 := rfl
      have b1 : p.length ≤ 70368744177664 := by omega
      have h1b := bv_one (encBytes p)
      go_wp2_with (first
        | ((with_reducible refine' wpList_len_rd (.tmp 11) 27 rfl ?_ Tryd.underlying27 ?_ hxr ?_); exact rfl; exact rfl; simp only [Act.put, List.setIfInBounds_toArray, List.set_cons_succ, List.set_cons_zero]) | ((with_reducible refine' wpList_at1_rd (.tmp 17) (.tmp 18) 27 rfl ?_ Tryd.underlying27 sz_str ?_ hxr (k) ?_ ?_ ?_); exact rfl; exact rfl; (show (_ : Int) = _; omega); omega; simp only [Act.put, List.setIfInBounds_toArray, List.set_cons_succ, List.set_cons_zero]) | ((with_reducible refine' wpList_load_rd (.tmp 19) 9 rfl ?_ ld_str ?_ hxr (SP.out) ?_); exact rfl; exact rfl; simp only [Act.put, List.setIfInBounds_toArray, List.set_cons_succ, List.set_cons_zero])
        | (go_at_call 35; (with_reducible refine (refbytes_any p _ b1).mono ?_); rintro e w' ⟨v2, rfl, ho2, hb2⟩)
        | ((with_reducible refine' wpList_append_rd (.tmp 16) (.tmp 21) 22 rfl ?_ Tryd.underlying22 inf_u8 ?_ ?_ ?_ (own_below HO.out hb2) ?_ (Rd.of_own ho2) h1b ?_ ?_ (Nat.le_trans hbl.size hb2.size) ?_); exact rfl; exact rfl; omega; exact rfl; exact rfl; (first | omega | (unfold maxLen; omega)); omega; intro v4 w4 ho4 hb4; simp only [Act.put, List.setIfInBounds_toArray, List.set_cons_succ, List.set_cons_zero]))
      go_roundw
      case rel =>
        refine ⟨k + 1, by omega, by go_num, ?_, hbl.trans ((hb2.mono hbl.size).trans hb4)⟩
        rw [← bv_append] at ho4
        rw [hst, ← List.cons_append, List.length_append]
        exact ho4
      case measure => simp [intOf]; omega
    · obtain rfl : k = n := by omega
      have ho := HO.out
      rw [List.take_of_length_le (by rw [HL.out]; exact Nat.le_refl _)] at ho
      go_wp2_with (((with_reducible refine' wpList_len_rd (.tmp 11) 27 rfl ?_ Tryd.underlying27 ?_ hxr ?_); exact rfl; exact rfl; simp only [Act.put, List.setIfInBounds_toArray, List.set_cons_succ, List.set_cons_zero]))
      go_ret
      exact ⟨_, rfl, ho, hbl⟩

set_option maxRecDepth 100000 in
theorem refshort_any (x : Value) (n : Nat) (m : List UInt8) (w : World) (hT : TabR w) (hx : Rd w 1 x n (bv m)) (hn : m.length ≤ 70368744177664) :
    Calls Tryd.prog 34 #[x] w fun e w' => e = .returned (.agg (bv ((sha m).take 16)).toArray) ∧ Below w.heap.size w w' := by
  obtain ⟨d, hd⟩ : ∃ d, sha m = d := ⟨_, rfl⟩
  have D32 := Lib.hid (show (bv d).length = 32 by rw [bv_length, ← hd, sha_len])
  have HD := Lib.hid hd
  have DL := Lib.hid (show d.length = 32 by rw [← hd, sha_len])
  have D16 := Lib.hid (show (bv (d.take 16)).length = 16 by rw [bv_length, List.length_take, DL.out]; rfl)
  clear hd
  go_enter Tryd.func34, Tryd.ntmps34
  go_upto_region 1 with (((with_reducible refine' wpList_alloc_blk (cs := List.replicate 16 (.int .u8 0)) 44 rfl ?_ zr_dig ?_ ?_); exact rfl; exact zeros_u8 16; intro w1 hkR hN1 hz1; simp only [Act.put, List.setIfInBounds_toArray, List.set_cons_succ, List.set_cons_zero]))
  have hT1 := hT.below hN1
  have hx1 := hx.below hN1
  have hlR := hkR.lt
  go_upto_region 2 with (first
    | ((go_at_call 12; (with_reducible refine (refsum_any x n m _ hT1 hx1 hn).mono ?_); rintro e w' ⟨rfl, hN2⟩); rw [HD.out]; have hb2 := hN1.trans (hN2.mono hN1.size); have hkR2 := hkR.below hN2 hlR)
    | (((with_reducible refine' wpList_alloc_blk (cs := List.replicate 32 (.int .u8 0)) 24 rfl ?_ zr_b32 ?_ ?_); exact rfl; exact zeros_u8 32; intro w3 hkD hN3 hz3; simp only [Act.put, List.setIfInBounds_toArray, List.set_cons_succ, List.set_cons_zero]); have hb3 := hb2.trans (hN3.mono hb2.size); have hkR3 := hkR2.below hN3 hkR2.lt; have q2 := hkR2.lt)
    | (((with_reducible refine' wpList_store_blk (cs := bv d) 24 (.tmp 3) (.tmp 7) rfl ?_ ?_ ?_ hkD sz_b32 ?_ ?_ ?_ ?_); exact rfl; exact rfl; exact rfl; exact D32.out; exact List.length_replicate; exact bv_one _; intro w4 hkD4 hO4 hz4; simp only [Act.put]); have hkR4 := hO4.blk hkR3 (by omega); have hb4 := hb3.trans (hO4.below (by omega) hb3.size); have hlD := hkD4.lt; have hlR4 := hkR4.lt))
  clear hz1 hz3 hz4 hkR hkR2 hkR3 hkD hO4
  go_upto_region 4 with (first
    | ((with_reducible refine' wpList_of_run (o := ⟨_, .build _ _, _, _, _, _⟩) (v := .agg (List.replicate 16 (.int .u8 0)).toArray) (w' := w4) ?_ ?_ ?_); exact rfl; kernel_rfl; simp only [Act.put, List.setIfInBounds_toArray, List.set_cons_succ, List.set_cons_zero])
    | (((with_reducible refine' wpList_alloc_blk (cs := List.replicate 16 (.int .u8 0)) 44 rfl ?_ zr_dig ?_ ?_); exact rfl; exact zeros_u8 16; intro w5 hkE hN5 hz5; simp only [Act.put, List.setIfInBounds_toArray, List.set_cons_succ, List.set_cons_zero]); have hb5 := hb4.trans (hN5.mono hb4.size); have hkR5 := hkR4.below hN5 hlR4; have hkD5 := hkD4.below hN5 hlD)
    | (((with_reducible refine' wpList_store_blk (cs := List.replicate 16 (.int .u8 0)) 44 (.tmp 4) (.tmp 8) rfl ?_ ?_ ?_ hkE sz_dig ?_ ?_ ?_ ?_); exact rfl; exact rfl; exact rfl; exact List.length_replicate; exact List.length_replicate; (intro u hu; rw [List.eq_of_mem_replicate hu]; rfl); intro w6 hkE6 hO6 hz6; simp only [Act.put]); have hkR6 := hO6.blk hkR5 (by omega); have hkD6 := hO6.blk hkD5 (by omega); have hb6 := hb5.trans (hO6.below (by omega) hb5.size)))
  obtain ⟨B3, hB3⟩ : ∃ B, w'.heap.size = B := ⟨_, rfl⟩
  obtain ⟨B4, hB4⟩ : ∃ B, w4.heap.size = B := ⟨_, rfl⟩
  rw [hB3] at hkD6 hlD ⊢
  rw [hB4] at hkE6 ⊢
  go_loopw [5] (fun i wr => ∃ t : Nat, t ≤ 16 ∧ i = .int .i64 t ∧ Blk wr B4 44 ((bv d).take t ++ List.replicate (16 - t) (.int .u8 0)) ∧ Blk wr B3 24 (bv d) ∧ Blk wr w.heap.size 44 (List.replicate 16 (.int .u8 0)) ∧ Below w.heap.size w wr) (fun i _ => 16 - (intOf i).toNat)
  case atStart => exact ⟨0, by omega, rfl, by simpa using hkE6, hkD6, hkR6, hb6⟩
  case round =>
    obtain ⟨t, ht, rfl, hkE, hkD, hkR, hbl⟩ := hrel
    by_cases hlt : t < 16
    · obtain ⟨wo, rfl⟩ : ∃ wo : World, wo = wr := ⟨_, rfl⟩
      have hbt : d[t]? = some (gb d t) := by simp [gb, show t < d.length by rw [DL.out]; omega]
      have X : (bv d)[t]? = some (.int .u8 ((gb d t).toNat : Int)) := by unfold bv; rw [List.getElem?_map, hbt]; rfl
      have TL : ((bv d).take t).length = t := by rw [List.length_take, D32.out]; omega
      have SET := Lib.hid (fill_step TL hlt (.int .u8 0) (.int .u8 ((gb d t).toNat : Int)))
      have X := Lib.hid X
      have HLEN := Lib.hid (show t < ((bv d).take t ++ List.replicate (16 - t) (Value.int .u8 0)).length by rw [List.length_append, TL, List.length_replicate]; omega)
      have TS := Lib.hid (take_bv hbt)
      have T1 := Lib.hid (bv_take d t)
      have T2 := Lib.hid (bv_take d (t + 1))
      clear TL hbt
      go_wp2_with (first
        | ((with_reducible refine' wpList_at_blk (.tmp 3) (.tmp 14) 24 rfl ?_ Tryd.underlying24 sz_u8 ?_ (t) ?_ ?_ ?_); exact rfl; exact rfl; (show (_ : Int) = _; omega); omega; simp only [Act.put, List.setIfInBounds_toArray, List.set_cons_succ, List.set_cons_zero]) | ((with_reducible refine' wpList_load_blk (.tmp 15) 5 rfl ?_ ld_u8 ?_ hkD (X.out) ?_); exact rfl; exact rfl; simp only [Act.put, List.setIfInBounds_toArray, List.set_cons_succ, List.set_cons_zero]) | ((with_reducible refine' wpList_at_blk (.tmp 4) (.tmp 13) 44 rfl ?_ Tryd.underlying44 sz_u8 ?_ (t) ?_ ?_ ?_); exact rfl; exact rfl; (show (_ : Int) = _; omega); omega; simp only [Act.put, List.setIfInBounds_toArray, List.set_cons_succ, List.set_cons_zero])
        | (((with_reducible refine' wpList_set_blk (u := .int .u8 ((gb d t).toNat : Int)) 5 (.tmp 17) (.tmp 16) rfl ?_ sz_u8 ?_ ?_ hkE (HLEN.out) ?_ ?_); exact rfl; exact rfl; exact rfl; exact rfl; intro w7 hk7 hO7 hz7; simp only [Act.put]); rw [SET.out, T1.out, TS.out, ← T2.out] at hk7))
      go_roundw
      case rel => exact ⟨t + 1, by omega, by go_num, hk7, hO7.blk hkD (by omega), hO7.blk hkR (by omega), hbl.trans (hO7.below (by omega) hbl.size)⟩
      case measure => simp [intOf]; omega
    · obtain rfl : t = 16 := by omega
      rw [bv_take, Nat.sub_self, List.replicate_zero, List.append_nil] at hkE
      go_wp2_with (first | ((with_reducible refine' wpList_loadall_blk (.tmp 4) 44 rfl ?_ Tryd.underlying44 sz_dig ?_ hkE ?_ ?_ ?_); exact rfl; exact rfl; exact D16.out; omega; simp only [Act.put, List.setIfInBounds_toArray, List.set_cons_succ, List.set_cons_zero]) | ((with_reducible refine' wpList_store_blk (cs := bv (d.take 16)) 44 (.tmp 2) (.tmp 18) rfl ?_ ?_ ?_ hkR sz_dig ?_ ?_ ?_ ?_); exact rfl; exact rfl; exact rfl; exact D16.out; exact List.length_replicate; exact bv_one _; intro w8 hk8 hO8 hz8; simp only [Act.put]))
      ((try simp only [Exit.inBlock, Exit.then]); refine bodyPost_ret (results_cell_row rfl _ _ _ _ _ _ _ rfl hk8 Tryd.underlying44 rfl (by rw [sz_dig]; simp [D16.out])) rfl ?_)
      exact ⟨by rw [HD.out], hbl.trans (hO8.below (by omega) hbl.size)⟩

set_option maxRecDepth 100000 in
theorem refof_any (tag : Int) (x : Value) (n : Nat) (l : List (List UInt8)) (w : World) (hT : TabR w) (hx : Rd w 1 x n (sv l)) (h0 : -9223372036854775808 ≤ tag) (h1 : tag ≤ 9223372036854775807) (hL : (inp tag l).length ≤ 70368744177664) :
    Calls Tryd.prog 22 #[.int .i64 tag, x] w fun e w' => e = .returned (.agg (bv (digOf tag l)).toArray) ∧ Below w.heap.size w w' := by
  have DL := Lib.hid (show (bv (digOf tag l)).length = 16 by rw [bv_length, digOf_len])
  have DE := Lib.hid (show (sha (inp tag l)).take 16 = digOf tag l from rfl)
  go_enter Tryd.func22, Tryd.ntmps22
  go_upto_region 1 with (((with_reducible refine' wpList_alloc_blk (cs := List.replicate 16 (.int .u8 0)) 44 rfl ?_ zr_dig ?_ ?_); exact rfl; exact zeros_u8 16; intro w1 hkR hN1 hz1; simp only [Act.put, List.setIfInBounds_toArray, List.set_cons_succ, List.set_cons_zero]))
  have hT1 := hT.below hN1
  have hx1 := hx.below hN1
  have hlR := hkR.lt
  go_wp2_with (first
    | ((go_at_call 23; (with_reducible refine (refinput_any tag x n l _ hx1 h0 h1 hL).mono ?_); rintro e w' ⟨v2, rfl, o2, hN2⟩); have hT2 := hT1.below hN2; have r2 := Rd.of_own o2; have hb2 := hN1.trans (hN2.mono hN1.size); have hkR2 := hkR.below hN2 hlR; have hlR2 := hkR2.lt)
    | ((go_at_call 34; (with_reducible refine (refshort_any v2 _ (inp tag l) _ hT2 r2 hL).mono ?_); rintro e w' ⟨rfl, hN3⟩); rw [DE.out]; have hkR3 := hkR2.below hN3 hlR2; have hb3 := hb2.trans (hN3.mono hb2.size))
    | ((with_reducible refine' wpList_store_blk (cs := bv (digOf tag l)) 44 (.tmp 4) (.tmp 8) rfl ?_ ?_ ?_ hkR3 sz_dig ?_ ?_ ?_ ?_); exact rfl; exact rfl; exact rfl; exact DL.out; exact List.length_replicate; exact bv_one _; intro w9 hk9 hO9 hz9; simp only [Act.put]))
  ((try simp only [Exit.inBlock, Exit.then]); refine bodyPost_ret (results_cell_row rfl _ _ _ _ _ _ _ rfl hk9 Tryd.underlying44 rfl (by rw [sz_dig]; simp [DL.out])) rfl ?_)
  exact ⟨rfl, hb3.trans (hO9.below (Nat.le_refl _) hb3.size)⟩
end Go.Proofs.YtomjniijnpnehaaDoor.Wi
