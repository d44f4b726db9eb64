/-
  The specification's hash of a byte sequence. Conditions: the constants lie as the program's text lays them; a message of at most 2^46 bytes.
-/
import Derived.Test.YtomjniijnpnehaaDoorRw
namespace Go.Proofs.YtomjniijnpnehaaDoor.Wi
open Go Go.RowKit Pu Lb
set_option linter.unusedSimpArgs false
set_option linter.unusedVariables false

abbrev TabR (w : World) : Prop := Tb w 0 (uv kk)
theorem TabR.below {w w' : World} (h : TabR w) (hb : Below w.heap.size w w') : TabR w' := Tb.below h hb
theorem own_only {w w' : World} {base B : Nat} {e : TypeId} {s : Nat} {v : Value} {n : Nat} {xs : List Value} (h : w.ownsRow base e s v n xs) (ho : Only B w w') (hB : B < base) : w'.ownsRow base e s v n xs := by
  refine ⟨h.1, ?_⟩
  rcases h.2 with hn | ⟨g, cap, cur, rfl, hbg, hg, rest⟩
  · exact .inl hn
  · refine .inr ⟨g, cap, cur, rfl, hbg, ?_, rest⟩
    rw [ho.block g (Array.getElem?_eq_some_iff.1 hg).1 (by simp; omega)]
    exact hg
theorem nt_eq2 (x : UInt32) : bits .xor .u32 (x.toNat : Int) 4294967295 = ((nt x).toNat : Int) := by
  have h : (4294967295 : Int) = ((4294967295 : UInt32).toNat : Int) := by decide
  rw [h, ux, UInt32.xor_comm]
  congr 2
theorem comps_zero (s : S8) (m : List UInt8) : comps s m 0 = s := rfl
theorem comps_succ (s : S8) (m : List UInt8) (k : Nat) : comps s m (k + 1) = comp (comps s m k) ((m.drop (64 * k)).take 64) := rfl
attribute [local irreducible] comp sched comps sha outS rnds

set_option maxRecDepth 100000 in
set_option maxHeartbeats 3200000 in
theorem refsum_any (x : Value) (n : Nat) (m : List UInt8) (w : World) (hT : TabR w) (hx : Rd w 1 x n (bv m)) (hn : m.length ≤ 70368744177664) :
    Calls Tryd.prog 12 #[x] w fun e w' => e = .returned (.agg (bv (sha m)).toArray) ∧ Below w.heap.size w w' := by
  have hpm := padded_mod m
  have hpl : (padded m).length = m.length + (zn m.length + 9) := by unfold padded; rw [List.length_append, padTail_len]
  have hzn : zn m.length < 64 := by unfold zn; omega
  obtain ⟨pm, hpme⟩ : ∃ pm, padded m = pm := ⟨_, rfl⟩
  have SHA := Lib.hid (show sha m = outS (comps h0 pm (pm.length / 64)) by rw [← hpme]; unfold sha; rfl)
  rw [hpme] at hpm hpl
  have HPM := Lib.hid hpme
  obtain ⟨L, hLe⟩ : ∃ L, pm.length = L := ⟨_, rfl⟩
  rw [hLe] at hpm hpl
  have HLE := Lib.hid hLe
  have hL46 : L < 70368744177664 + 100 := by omega
  clear hpme hLe hpl hzn
  go_enter Tryd.func12, Tryd.ntmps12
  go_upto_region 1 with (((with_reducible refine' wpList_alloc_blk (cs := List.replicate 32 (.int .u8 0)) 24 rfl ?_ zr_b32 ?_ ?_); exact rfl; exact zeros_u8 32; intro w1 hkR hN1 hz1; simp only [Act.put, List.setIfInBounds_toArray, List.set_cons_succ, List.set_cons_zero]))
  refine wp_region_lit ?_
  ((with_reducible refine' wpList_of_run (v := .agg (uv (l8 h0)).toArray) (w' := w1) ?_ ?_ ?_); exact rfl; kernel_rfl; simp only [Act.put, List.setIfInBounds_toArray, List.set_cons_succ, List.set_cons_zero])
  ((with_reducible refine' wpList_alloc_blk (cs := List.replicate 8 (.int .u32 0)) 30 rfl ?_ zr_w8 ?_ ?_); exact rfl; exact zeros_u32 8; intro w2 hkS hN2 hz2; simp only [Act.put, List.setIfInBounds_toArray, List.set_cons_succ, List.set_cons_zero])
  ((with_reducible refine' wpList_store_blk (cs := uv (l8 h0)) 30 (.tmp 3) (.tmp 20) rfl ?_ ?_ ?_ hkS sz_w8 ?_ ?_ ?_ ?_); exact rfl; exact rfl; exact rfl; rfl; rfl; exact uv_one _; intro w3 hkS hO3 hz3; simp only [Act.put])
  replace hkR := hO3.blk (hkR.below hN2 (by omega)) (by omega)
  have hb3 := (hN1.trans (hN2.mono hN1.size)).trans (hO3.below (by have := hN1.size; omega) (by have := hN1.size; omega))
  have hx3 := hx.below hb3
  have hB2 : w.heap.size < w3.heap.size := by omega
  have hB3 : w1.heap.size < w3.heap.size := by omega
  have hB23 : w.heap.size < w1.heap.size := by omega
  clear hz1 hz2 hz3 hN1 hN2 hO3
  go_upto_region 4 with ((go_at_call 27; (with_reducible refine (refpadded_any x n m _ hx3 hn).mono ?_); rintro e w' ⟨vp, rfl, hop, hN4⟩))
  rw [HPM.out, HLE.out] at hop
  replace hkR := hkR.below hN4 hB2
  replace hkS := hkS.below hN4 hB3
  have hb4 := hb3.trans (hN4.mono hb3.size)
  have HOP := Lib.hid hop
  clear hop hN4 hx3
  go_loopw [5] (fun i wr => ∃ k : Nat, 64 * k ≤ L ∧ i = .int .i64 ((64 * k : Nat) : Int) ∧ Hid (wr.ownsRow w3.heap.size 5 1 vp L (bv pm)) ∧ Blk wr w1.heap.size 30 (uv (l8 (comps h0 pm k))) ∧ Blk wr w.heap.size 24 (List.replicate 32 (.int .u8 0)) ∧ Below w.heap.size w wr) (fun i _ => L - (intOf i).toNat)
  case atStart => exact ⟨0, by omega, rfl, HOP, by rw [comps_zero]; exact hkS, hkR, hb4⟩
  case round =>
    obtain ⟨k, hk, rfl, HO, hkS, hkR, hbl⟩ := hrel
    by_cases hlt : 64 * k < L
    · obtain ⟨wo, rfl⟩ : ∃ wo : World, wo = wr := ⟨_, rfl⟩
      have hk64 : 64 * k + 64 ≤ L := by omega
      have hrd := Rd.of_own HO.out
      have hCS := Lib.hid (comps_succ h0 pm k)
      obtain ⟨s, hs⟩ : ∃ s, comps h0 pm k = s := ⟨_, rfl⟩
      rw [hs] at hkS hCS
      obtain ⟨blk, hblk⟩ : ∃ bl, (pm.drop (64 * k)).take 64 = bl := ⟨_, rfl⟩
      rw [hblk] at hCS
      have HBK := Lib.hid hblk
      have BL := Lib.hid (show blk.length = 64 by rw [← hblk, List.length_take, List.length_drop, HLE.out]; omega)
      have SL := Lib.hid (sched_len blk 64)
      clear hs hblk
      go_upto_region 7 with (first
        | ((with_reducible refine' wpList_len_rd (.tmp 24) 22 rfl ?_ Tryd.underlying22 ?_ hrd ?_); exact rfl; exact rfl; simp only [Act.put, List.setIfInBounds_toArray, List.set_cons_succ, List.set_cons_zero])
        | (((with_reducible refine' wpList_cut_b (.tmp 29) (.tmp 30) (.tmp 32) 22 rfl ?_ Tryd.underlying22 sz_u8 ?_ hrd (64 * k) (64 * k + 64) ?_ ?_ ?_ ?_ ?_); exact rfl; exact rfl; (show (_ : Int) = _; omega); (show (_ : Int) = _; omega); omega; omega; intro v1 r1; simp only [Act.put, List.setIfInBounds_toArray, List.set_cons_succ, List.set_cons_zero]); rw [show 64 * k + 64 - 64 * k = 64 by omega, HBK.out] at r1)
        | ((go_at_call 28; (with_reducible refine (refwords_any _ blk _ r1).mono ?_); rintro e w' ⟨rfl, hN5⟩); have hkS5 := hkS.below hN5 hkS.lt; have hkR5 := hkR.below hN5 hkR.lt; have HO5 := Lib.hid (own_below HO.out hN5); have hb5 := hbl.trans (hN5.mono hbl.size); have hls := hkS.lt; have hz5 := hN5.size)
        | (((with_reducible refine' wpList_alloc_blk (cs := List.replicate 64 (.int .u32 0)) 54 rfl ?_ zr_w64 ?_ ?_); exact rfl; exact zeros_u32 64; intro w6 hkW hN6 hz6; simp only [Act.put, List.setIfInBounds_toArray, List.set_cons_succ, List.set_cons_zero]); have hkS6 := hkS5.below hN6 hkS5.lt; have hkR6 := hkR5.below hN6 hkR5.lt; have HO6 := Lib.hid (own_below HO5.out hN6); have hb6 := hb5.trans (hN6.mono hb5.size))
        | (((with_reducible refine' wpList_store_blk (cs := (uv (sched blk 64))) 54 (.tmp 6) (.tmp 34) rfl ?_ ?_ ?_ hkW sz_w64 ?_ ?_ ?_ ?_); exact rfl; exact rfl; exact rfl; rw [uv_length]; exact SL.out; simp; exact uv_one _; intro w7 hkW7 hO7 hz7; simp only [Act.put])))
      have hkS7 := hO7.blk hkS6 (by omega)
      have hkR7 := hO7.blk hkR6 (by omega)
      have hb7 := hb6.trans (hO7.below (by have := hbl.size; omega) hb6.size)
      have HO7 : Hid (w7.ownsRow w3.heap.size 5 1 vp L (bv pm)) := Lib.hid (by
        have h1 := hN6.size
        rcases HO6.out.2 with hn | ⟨g, cap, cur, rfl, hbg, hg, rest⟩
        · exact ⟨HO6.out.1, .inl hn⟩
        · refine ⟨HO6.out.1, .inr ⟨g, cap, cur, rfl, hbg, ?_, rest⟩⟩
          have hg5 : g < w'.heap.size := by
            rcases HO5.out.2 with ⟨hn, _⟩ | ⟨g2, cap2, cur2, he, _, hg2, _⟩
            · cases hn
            · simp only [Value.slice.injEq, Option.some.injEq, Addr.mk.injEq] at he
              obtain ⟨⟨rfl, _⟩, _⟩ := he
              exact (Array.getElem?_eq_some_iff.1 hg2).1
          rw [hO7.block g (Array.getElem?_eq_some_iff.1 hg).1 (by simp; omega)]
          exact hg)
      have hl6 := hkW7.lt
      have hz0 := hbl.size
      have hwl : w.heap.size < w'.heap.size ∧ w1.heap.size < w'.heap.size := by have := hkR.lt; omega
      obtain ⟨B6, hB6⟩ : ∃ B, w'.heap.size = B := ⟨_, rfl⟩
      rw [hB6] at hkW7 hwl ⊢
      clear hkS5 hkS6 hkR5 hkR6 hkS hkR hb5 hb6 HO5 HO6 HO hN5 hN6 hO7 hkW hz6 hz7 hz5 hls hB6 hrd r1 hl6
      have S0 := Lib.hid (show (uv (l8 s))[0]? = some (.int .u32 (s.a.toNat : Int)) from rfl)
      have S1 := Lib.hid (show (uv (l8 s))[1]? = some (.int .u32 (s.b.toNat : Int)) from rfl)
      have S2 := Lib.hid (show (uv (l8 s))[2]? = some (.int .u32 (s.c.toNat : Int)) from rfl)
      have S3 := Lib.hid (show (uv (l8 s))[3]? = some (.int .u32 (s.d.toNat : Int)) from rfl)
      have S4 := Lib.hid (show (uv (l8 s))[4]? = some (.int .u32 (s.e.toNat : Int)) from rfl)
      have S5 := Lib.hid (show (uv (l8 s))[5]? = some (.int .u32 (s.f.toNat : Int)) from rfl)
      have S6 := Lib.hid (show (uv (l8 s))[6]? = some (.int .u32 (s.g.toNat : Int)) from rfl)
      have S7 := Lib.hid (show (uv (l8 s))[7]? = some (.int .u32 (s.h.toNat : Int)) from rfl)
      (refine wp_region_quiet_lit (by kernel_rfl) (by kernel_rfl) ?_; (repeat (first | ((with_reducible refine' wpQuiet_at_blk (.tmp 3) (.const (.int .i64 0)) 30 rfl ?_ Tryd.underlying30 sz_u32 ?_ (0) ?_ ?_ ?_); exact rfl; exact rfl; (show (_ : Int) = _; omega); omega; simp only [Act.put, List.setIfInBounds_toArray, List.set_cons_succ, List.set_cons_zero]) | ((with_reducible refine' wpQuiet_at_blk (.tmp 3) (.const (.int .i64 1)) 30 rfl ?_ Tryd.underlying30 sz_u32 ?_ (1) ?_ ?_ ?_); exact rfl; exact rfl; (show (_ : Int) = _; omega); omega; simp only [Act.put, List.setIfInBounds_toArray, List.set_cons_succ, List.set_cons_zero]) | ((with_reducible refine' wpQuiet_at_blk (.tmp 3) (.const (.int .i64 2)) 30 rfl ?_ Tryd.underlying30 sz_u32 ?_ (2) ?_ ?_ ?_); exact rfl; exact rfl; (show (_ : Int) = _; omega); omega; simp only [Act.put, List.setIfInBounds_toArray, List.set_cons_succ, List.set_cons_zero]) | ((with_reducible refine' wpQuiet_at_blk (.tmp 3) (.const (.int .i64 3)) 30 rfl ?_ Tryd.underlying30 sz_u32 ?_ (3) ?_ ?_ ?_); exact rfl; exact rfl; (show (_ : Int) = _; omega); omega; simp only [Act.put, List.setIfInBounds_toArray, List.set_cons_succ, List.set_cons_zero]) | ((with_reducible refine' wpQuiet_at_blk (.tmp 3) (.const (.int .i64 4)) 30 rfl ?_ Tryd.underlying30 sz_u32 ?_ (4) ?_ ?_ ?_); exact rfl; exact rfl; (show (_ : Int) = _; omega); omega; simp only [Act.put, List.setIfInBounds_toArray, List.set_cons_succ, List.set_cons_zero]) | ((with_reducible refine' wpQuiet_at_blk (.tmp 3) (.const (.int .i64 5)) 30 rfl ?_ Tryd.underlying30 sz_u32 ?_ (5) ?_ ?_ ?_); exact rfl; exact rfl; (show (_ : Int) = _; omega); omega; simp only [Act.put, List.setIfInBounds_toArray, List.set_cons_succ, List.set_cons_zero]) | ((with_reducible refine' wpQuiet_at_blk (.tmp 3) (.const (.int .i64 6)) 30 rfl ?_ Tryd.underlying30 sz_u32 ?_ (6) ?_ ?_ ?_); exact rfl; exact rfl; (show (_ : Int) = _; omega); omega; simp only [Act.put, List.setIfInBounds_toArray, List.set_cons_succ, List.set_cons_zero]) | ((with_reducible refine' wpQuiet_at_blk (.tmp 3) (.const (.int .i64 7)) 30 rfl ?_ Tryd.underlying30 sz_u32 ?_ (7) ?_ ?_ ?_); exact rfl; exact rfl; (show (_ : Int) = _; omega); omega; simp only [Act.put, List.setIfInBounds_toArray, List.set_cons_succ, List.set_cons_zero]) | ((with_reducible refine' wpQuiet_load_blk (fun _ h => h) (.tmp 35) 29 rfl ?_ ld_u32 ?_ hkS7 (S0.out) ?_); exact rfl; exact rfl; simp only [Act.put, List.setIfInBounds_toArray, List.set_cons_succ, List.set_cons_zero]) | ((with_reducible refine' wpQuiet_load_blk (fun _ h => h) (.tmp 37) 29 rfl ?_ ld_u32 ?_ hkS7 (S1.out) ?_); exact rfl; exact rfl; simp only [Act.put, List.setIfInBounds_toArray, List.set_cons_succ, List.set_cons_zero]) | ((with_reducible refine' wpQuiet_load_blk (fun _ h => h) (.tmp 39) 29 rfl ?_ ld_u32 ?_ hkS7 (S2.out) ?_); exact rfl; exact rfl; simp only [Act.put, List.setIfInBounds_toArray, List.set_cons_succ, List.set_cons_zero]) | ((with_reducible refine' wpQuiet_load_blk (fun _ h => h) (.tmp 41) 29 rfl ?_ ld_u32 ?_ hkS7 (S3.out) ?_); exact rfl; exact rfl; simp only [Act.put, List.setIfInBounds_toArray, List.set_cons_succ, List.set_cons_zero]) | ((with_reducible refine' wpQuiet_load_blk (fun _ h => h) (.tmp 43) 29 rfl ?_ ld_u32 ?_ hkS7 (S4.out) ?_); exact rfl; exact rfl; simp only [Act.put, List.setIfInBounds_toArray, List.set_cons_succ, List.set_cons_zero]) | ((with_reducible refine' wpQuiet_load_blk (fun _ h => h) (.tmp 45) 29 rfl ?_ ld_u32 ?_ hkS7 (S5.out) ?_); exact rfl; exact rfl; simp only [Act.put, List.setIfInBounds_toArray, List.set_cons_succ, List.set_cons_zero]) | ((with_reducible refine' wpQuiet_load_blk (fun _ h => h) (.tmp 47) 29 rfl ?_ ld_u32 ?_ hkS7 (S6.out) ?_); exact rfl; exact rfl; simp only [Act.put, List.setIfInBounds_toArray, List.set_cons_succ, List.set_cons_zero]) | ((with_reducible refine' wpQuiet_load_blk (fun _ h => h) (.tmp 49) 29 rfl ?_ ld_u32 ?_ hkS7 (S7.out) ?_); exact rfl; exact rfl; simp only [Act.put, List.setIfInBounds_toArray, List.set_cons_succ, List.set_cons_zero]) | go_big_quiet_step (fail))); refine wpQuiet_nil ?_; intro _ hw'; obtain ⟨nq, hw''⟩ := hw'; subst hw'')
      replace hkS7 := hkS7.drewN nq; replace hkR7 := hkR7.drewN nq; replace hkW7 := hkW7.drewN nq; replace hb7 := below_drewN hb7 nq
      have HO8 : Hid ((w7.drewN nq).ownsRow w3.heap.size 5 1 vp L (bv pm)) := Lib.hid HO7.out
      generalize w7.drewN nq = w8 at hkS7 hkR7 hkW7 hb7 HO8 ⊢
      clear HO7
      go_upto_region 9 with fail
      go_loopw [15, 7, 8, 9, 10, 11, 12, 13, 14] (fun i va vb vc vd ve vf vg vh wr => ∃ t : Nat, t ≤ 64 ∧ i = .int .i64 t ∧ va = .int .u32 ((rnds s (sched blk 64) t).a.toNat : Int) ∧ vb = .int .u32 ((rnds s (sched blk 64) t).b.toNat : Int) ∧ vc = .int .u32 ((rnds s (sched blk 64) t).c.toNat : Int) ∧ vd = .int .u32 ((rnds s (sched blk 64) t).d.toNat : Int) ∧ ve = .int .u32 ((rnds s (sched blk 64) t).e.toNat : Int) ∧ vf = .int .u32 ((rnds s (sched blk 64) t).f.toNat : Int) ∧ vg = .int .u32 ((rnds s (sched blk 64) t).g.toNat : Int) ∧ vh = .int .u32 ((rnds s (sched blk 64) t).h.toNat : Int) ∧
        Hid (wr.ownsRow w3.heap.size 5 1 vp L (bv pm)) ∧ Blk wr B6 54 (uv (sched blk 64)) ∧ Blk wr w1.heap.size 30 (uv (l8 s)) ∧ Blk wr w.heap.size 24 (List.replicate 32 (.int .u8 0)) ∧ Below w.heap.size w wr) (fun i _ _ _ _ _ _ _ _ _ => 64 - (intOf i).toNat)
      case atStart => exact ⟨0, by omega, rfl, by rw [rnds_zero], by rw [rnds_zero], by rw [rnds_zero], by rw [rnds_zero], by rw [rnds_zero], by rw [rnds_zero], by rw [rnds_zero], by rw [rnds_zero], HO8, hkW7, hkS7, hkR7, hb7⟩
      case round =>
        obtain ⟨t, ht, rfl, rfl, rfl, rfl, rfl, rfl, rfl, rfl, rfl, HO, hkW, hkS, hkR, hbl⟩ := hrel
        obtain ⟨r, hr⟩ : ∃ r, rnds s (sched blk 64) t = r := ⟨_, rfl⟩
        rw [hr]
        obtain ⟨ra, rb, rc, rd, re, rf, rg, rh⟩ := r
        simp only
        have HR := Lib.hid hr
        clear hr
        have b1 := lt32 re; have b2 := lt32 rf; have b3 := lt32 rg; have b4 := lt32 rh
        have c1 := lt32 ra; have c2 := lt32 rb; have c3 := lt32 rc; have c4 := lt32 rd
        have PL := pl_eq; have PL' := pl_eq'
        by_cases hlt2 : t < 64
        · obtain ⟨wo2, rfl⟩ : ∃ wo : World, wo = wr := ⟨_, rfl⟩
          have WT := Lib.hid (uv_get (l := sched blk 64) (k := t) (by rw [SL.out]; exact hlt2))
          have KT := Lib.hid (uv_get (l := kk) (k := t) hlt2)
          obtain ⟨xk, hxk⟩ : ∃ x, gw kk t = x := ⟨_, rfl⟩
          obtain ⟨xw, hxw⟩ : ∃ x, gw (sched blk 64) t = x := ⟨_, rfl⟩
          rw [hxk] at KT; rw [hxw] at WT
          have XK := Lib.hid hxk; have XW := Lib.hid hxw
          clear hxk hxw
          have hTr := hT.below hbl
          have hk1 := lt32 xk; have hk2 := lt32 xw
          have XR := xr_eq; have AN := an_eq; have NT := nt_eq2
          go_upto_region 11 with fail
          (refine wp_region_quiet_lit (by kernel_rfl) (by kernel_rfl) ?_; (repeat (first | ((with_reducible refine' wpQuiet_at_blk (.global 0) (.tmp 74) 54 rfl ?_ Tryd.underlying54 sz_u32 ?_ (t) ?_ ?_ ?_); exact rfl; exact rfl; (show (_ : Int) = _; omega); omega; simp only [Act.put, List.setIfInBounds_toArray, List.set_cons_succ, List.set_cons_zero]) | ((with_reducible refine' wpQuiet_load_tb (fun _ h => h) (.tmp 75) 29 rfl ?_ ld_u32 ?_ hTr (KT.out) ?_); exact rfl; exact rfl; simp only [Act.put, List.setIfInBounds_toArray, List.set_cons_succ, List.set_cons_zero]) | ((with_reducible refine' wpQuiet_at_blk (.tmp 6) (.tmp 78) 54 rfl ?_ Tryd.underlying54 sz_u32 ?_ (t) ?_ ?_ ?_); exact rfl; exact rfl; (show (_ : Int) = _; omega); omega; simp only [Act.put, List.setIfInBounds_toArray, List.set_cons_succ, List.set_cons_zero]) | ((with_reducible refine' wpQuiet_load_blk (fun _ h => h) (.tmp 79) 29 rfl ?_ ld_u32 ?_ hkW (WT.out) ?_); exact rfl; exact rfl; simp only [Act.put, List.setIfInBounds_toArray, List.set_cons_succ, List.set_cons_zero]) | go_big_quiet_step ((go_at_call 29; first | (with_reducible refine rotr_q re 6 6 rfl (by omega) (by omega) _ _) | (with_reducible refine rotr_q re 11 11 rfl (by omega) (by omega) _ _) | (with_reducible refine rotr_q re 25 25 rfl (by omega) (by omega) _ _))) | go_big_quiet_step (fail))); refine wpQuiet_nil ?_; intro _ hw'; obtain ⟨nq, hw''⟩ := hw'; subst hw'')
          obtain ⟨X, hX⟩ : ∃ X, pl (pl (pl (pl rh (xr (xr (rr re 6) (rr re 11)) (rr re 25))) (xr (an re rf) (an (nt re) rg))) xk) xw = X := ⟨_, rfl⟩
          rw [hX]
          have HX := Lib.hid hX
          have d1 := lt32 X
          clear hX
          have YY : Hid (pl (xr (xr (rr ra 2) (rr ra 13)) (rr ra 22)) (xr (xr (an ra rb) (an ra rc)) (an rb rc)) = pl (xr (xr (rr ra 2) (rr ra 13)) (rr ra 22)) (xr (xr (an ra rb) (an ra rc)) (an rb rc))) := Lib.hid rfl
          have hE : rnds s (sched blk 64) (t + 1) = ⟨pl X (pl (xr (xr (rr ra 2) (rr ra 13)) (rr ra 22)) (xr (xr (an ra rb) (an ra rc)) (an rb rc))), ra, rb, rc, pl rd X, re, rf, rg⟩ := by
            rw [rnds_succ, HR.out, XK.out, XW.out, ← HX.out]; rfl
          have HE := Lib.hid hE
          clear hE
          go_wp2_with (first
            | (go_at_call 29; (with_reducible refine (rotr_any ra 2 2 rfl (by omega) (by omega) _).mono ?_); rintro e w' ⟨rfl, q1, rfl⟩)
            | (go_at_call 29; (with_reducible refine (rotr_any ra 13 13 rfl (by omega) (by omega) _).mono ?_); rintro e w' ⟨rfl, q2, rfl⟩)
            | (go_at_call 29; (with_reducible refine (rotr_any ra 22 22 rfl (by omega) (by omega) _).mono ?_); rintro e w' ⟨rfl, q3, rfl⟩))
          go_roundw
          case rel => exact ⟨t + 1, by omega, by go_num, by rw [HE.out], by rw [HE.out], by rw [HE.out], by rw [HE.out], by rw [HE.out], by rw [HE.out], by rw [HE.out], by rw [HE.out], Lib.hid HO.out, hkW, hkS, hkR, below_drewN hbl _⟩
          case measure => simp [intOf]; omega
        · obtain rfl : t = 64 := by omega
          go_wp2_with (first | ((with_reducible refine' wpList_at_blk (.tmp 3) (.const (.int .i64 0)) 30 rfl ?_ Tryd.underlying30 sz_u32 ?_ (0) ?_ ?_ ?_); exact rfl; exact rfl; (show (_ : Int) = _; omega); omega; simp only [Act.put, List.setIfInBounds_toArray, List.set_cons_succ, List.set_cons_zero]) | ((with_reducible refine' wpList_at_blk (.tmp 3) (.const (.int .i64 1)) 30 rfl ?_ Tryd.underlying30 sz_u32 ?_ (1) ?_ ?_ ?_); exact rfl; exact rfl; (show (_ : Int) = _; omega); omega; simp only [Act.put, List.setIfInBounds_toArray, List.set_cons_succ, List.set_cons_zero]) | ((with_reducible refine' wpList_at_blk (.tmp 3) (.const (.int .i64 2)) 30 rfl ?_ Tryd.underlying30 sz_u32 ?_ (2) ?_ ?_ ?_); exact rfl; exact rfl; (show (_ : Int) = _; omega); omega; simp only [Act.put, List.setIfInBounds_toArray, List.set_cons_succ, List.set_cons_zero]) | ((with_reducible refine' wpList_at_blk (.tmp 3) (.const (.int .i64 3)) 30 rfl ?_ Tryd.underlying30 sz_u32 ?_ (3) ?_ ?_ ?_); exact rfl; exact rfl; (show (_ : Int) = _; omega); omega; simp only [Act.put, List.setIfInBounds_toArray, List.set_cons_succ, List.set_cons_zero]) | ((with_reducible refine' wpList_at_blk (.tmp 3) (.const (.int .i64 4)) 30 rfl ?_ Tryd.underlying30 sz_u32 ?_ (4) ?_ ?_ ?_); exact rfl; exact rfl; (show (_ : Int) = _; omega); omega; simp only [Act.put, List.setIfInBounds_toArray, List.set_cons_succ, List.set_cons_zero]) | ((with_reducible refine' wpList_at_blk (.tmp 3) (.const (.int .i64 5)) 30 rfl ?_ Tryd.underlying30 sz_u32 ?_ (5) ?_ ?_ ?_); exact rfl; exact rfl; (show (_ : Int) = _; omega); omega; simp only [Act.put, List.setIfInBounds_toArray, List.set_cons_succ, List.set_cons_zero]) | ((with_reducible refine' wpList_at_blk (.tmp 3) (.const (.int .i64 6)) 30 rfl ?_ Tryd.underlying30 sz_u32 ?_ (6) ?_ ?_ ?_); exact rfl; exact rfl; (show (_ : Int) = _; omega); omega; simp only [Act.put, List.setIfInBounds_toArray, List.set_cons_succ, List.set_cons_zero]) | ((with_reducible refine' wpList_at_blk (.tmp 3) (.const (.int .i64 7)) 30 rfl ?_ Tryd.underlying30 sz_u32 ?_ (7) ?_ ?_ ?_); exact rfl; exact rfl; (show (_ : Int) = _; omega); omega; simp only [Act.put, List.setIfInBounds_toArray, List.set_cons_succ, List.set_cons_zero]) | ((with_reducible refine' wpList_load_blk (.tmp 114) 29 rfl ?_ ld_u32 ?_ hkS (S0.out) ?_); exact rfl; exact rfl; simp only [Act.put, List.setIfInBounds_toArray, List.set_cons_succ, List.set_cons_zero]) | ((with_reducible refine' wpList_load_blk (.tmp 118) 29 rfl ?_ ld_u32 ?_ hkS (S1.out) ?_); exact rfl; exact rfl; simp only [Act.put, List.setIfInBounds_toArray, List.set_cons_succ, List.set_cons_zero]) | ((with_reducible refine' wpList_load_blk (.tmp 122) 29 rfl ?_ ld_u32 ?_ hkS (S2.out) ?_); exact rfl; exact rfl; simp only [Act.put, List.setIfInBounds_toArray, List.set_cons_succ, List.set_cons_zero]) | ((with_reducible refine' wpList_load_blk (.tmp 126) 29 rfl ?_ ld_u32 ?_ hkS (S3.out) ?_); exact rfl; exact rfl; simp only [Act.put, List.setIfInBounds_toArray, List.set_cons_succ, List.set_cons_zero]) | ((with_reducible refine' wpList_load_blk (.tmp 130) 29 rfl ?_ ld_u32 ?_ hkS (S4.out) ?_); exact rfl; exact rfl; simp only [Act.put, List.setIfInBounds_toArray, List.set_cons_succ, List.set_cons_zero]) | ((with_reducible refine' wpList_load_blk (.tmp 134) 29 rfl ?_ ld_u32 ?_ hkS (S5.out) ?_); exact rfl; exact rfl; simp only [Act.put, List.setIfInBounds_toArray, List.set_cons_succ, List.set_cons_zero]) | ((with_reducible refine' wpList_load_blk (.tmp 138) 29 rfl ?_ ld_u32 ?_ hkS (S6.out) ?_); exact rfl; exact rfl; simp only [Act.put, List.setIfInBounds_toArray, List.set_cons_succ, List.set_cons_zero]) | ((with_reducible refine' wpList_load_blk (.tmp 142) 29 rfl ?_ ld_u32 ?_ hkS (S7.out) ?_); exact rfl; exact rfl; simp only [Act.put, List.setIfInBounds_toArray, List.set_cons_succ, List.set_cons_zero]) | (((with_reducible refine' wpList_store_blk (cs := uv [pl s.a ra, pl s.b rb, pl s.c rc, pl s.d rd, pl s.e re, pl s.f rf, pl s.g rg, pl s.h rh]) 30 (.tmp 3) (.tmp 146) rfl ?_ ?_ ?_ hkS sz_w8 ?_ ?_ ?_ ?_); exact rfl; exact rfl; exact rfl; rfl; rfl; exact uv_one _; intro w9 hkS9 hO9 hz9; simp only [Act.put])))
          go_roundw
          case rel =>
            refine ⟨k + 1, by omega, by congr 1, Lib.hid (own_only HO.out hO9 hB3), ?_, hO9.blk hkR (by omega), hbl.trans (hO9.below (by omega) hbl.size)⟩
            rw [hCS.out, comp_eq, HR.out]
            exact hkS9
          case measure => simp [intOf]; omega
    · have hkL : 64 * k = L := by omega
      have hS : sha m = outS (comps h0 pm k) := by rw [SHA.out, HLE.out]; congr 2; omega
      have HS := Lib.hid hS
      obtain ⟨S, hSe⟩ : ∃ S, comps h0 pm k = S := ⟨_, rfl⟩
      rw [hSe] at hkS
      have HSE := Lib.hid hSe
      have hll := hkS.lt
      have hrd := Rd.of_own HO.out
      have hlr := hkR.lt
      clear hS hSe
      go_upto_region 24 with (first | ((with_reducible refine' wpList_len_rd (.tmp 24) 22 rfl ?_ Tryd.underlying22 ?_ hrd ?_); exact rfl; exact rfl; simp only [Act.put, List.setIfInBounds_toArray, List.set_cons_succ, List.set_cons_zero]) | (((with_reducible refine' wpList_alloc_blk (cs := List.replicate 32 (.int .u8 0)) 24 rfl ?_ zr_b32 ?_ ?_); exact rfl; exact zeros_u8 32; intro w7 hkO hN7 hz7; simp only [Act.put, List.setIfInBounds_toArray, List.set_cons_succ, List.set_cons_zero]); have hkS7 := hkS.below hN7 hll; have hkR7 := hkR.below hN7 hlr; have hb7 := hbl.trans (hN7.mono hbl.size)))
      clear hkS hkR hbl hN7 hz7 hrd
      obtain ⟨B7, hB7⟩ : ∃ B, wr.heap.size = B := ⟨_, rfl⟩
      rw [hB7] at hkO hll hlr ⊢
      clear hB7
      go_loopw [19] (fun i wr => ∃ t : Nat, t ≤ 32 ∧ i = .int .i64 t ∧ Blk wr B7 24 (ocells S t) ∧ Blk wr w1.heap.size 30 (uv (l8 S)) ∧ Blk wr w.heap.size 24 (List.replicate 32 (.int .u8 0)) ∧ Below w.heap.size w wr) (fun i _ => 32 - (intOf i).toNat)
      case atStart => exact ⟨0, by omega, rfl, by rw [ocells_zero]; exact hkO, hkS7, hkR7, hb7⟩
      case round =>
        obtain ⟨i, hi, rfl, hkO, hkS, hkR, hbl⟩ := hrel
        have OL := Lib.hid (ocells_len S hi)
        by_cases hlt : i < 32
        · obtain ⟨wo, rfl⟩ : ∃ wo : World, wo = wr := ⟨_, rfl⟩
          have W := Lib.hid (uv_get (l := l8 S) (k := i / 4) (by show i / 4 < 8; omega))
          have SET := Lib.hid (ocells_set S hlt)
          obtain ⟨q, hq⟩ : ∃ q, gw (l8 S) (i / 4) = q := ⟨_, rfl⟩
          rw [hq] at W SET
          have hq32 := lt32 q
          clear hq
          go_wp2_with (first
            | ((with_reducible refine' wpList_at_blk (.tmp 3) (.tmp 153) 30 rfl ?_ Tryd.underlying30 sz_u32 ?_ (i / 4) ?_ ?_ ?_); exact rfl; exact rfl; (show (_ : Int) = _; omega); omega; simp only [Act.put, List.setIfInBounds_toArray, List.set_cons_succ, List.set_cons_zero]) | ((with_reducible refine' wpList_load_blk (.tmp 154) 29 rfl ?_ ld_u32 ?_ hkS (W.out) ?_); exact rfl; exact rfl; simp only [Act.put, List.setIfInBounds_toArray, List.set_cons_succ, List.set_cons_zero]) | ((with_reducible refine' wpList_at_blk (.tmp 18) (.tmp 151) 24 rfl ?_ Tryd.underlying24 sz_u8 ?_ (i) ?_ ?_ ?_); exact rfl; exact rfl; (show (_ : Int) = _; omega); omega; simp only [Act.put, List.setIfInBounds_toArray, List.set_cons_succ, List.set_cons_zero])
            | ((with_reducible refine' wpList_set_blk (k := i) (B := B7) (u := .int .u8 ((q.toNat : Int) / 2 ^ (24 - 8 * (i % 4)) % 256)) 5 (.tmp 162) (.tmp 161) rfl ?_ sz_u8 ?_ ?_ hkO (by rw [OL.out]; exact hlt) ?_ ?_); exact rfl; exact rfl; exact rfl; exact rfl; intro wB hkB hOB hzB; rw [SET.out] at hkB; simp only [Act.put]))
          go_roundw
          case rel => exact ⟨i + 1, by omega, by go_num, hkB, hOB.blk hkS (by omega), hOB.blk hkR (by omega), hbl.trans (hOB.below (by omega) hbl.size)⟩
          case measure => simp [intOf]; omega
        · obtain rfl : i = 32 := by omega
          rw [ocells_all] at hkO
          have OL2 := Lib.hid (show (bv (outS S)).length = 32 by rw [bv_length, outS_len])
          go_wp2_with (first | ((with_reducible refine' wpList_loadall_blk (.tmp 18) 24 rfl ?_ Tryd.underlying24 sz_b32 ?_ hkO ?_ ?_ ?_); exact rfl; exact rfl; exact OL2.out; omega; simp only [Act.put, List.setIfInBounds_toArray, List.set_cons_succ, List.set_cons_zero]) | ((with_reducible refine' wpList_store_blk (cs := bv (outS S)) 24 (.tmp 2) (.tmp 163) rfl ?_ ?_ ?_ hkR sz_b32 ?_ ?_ ?_ ?_); exact rfl; exact rfl; exact rfl; exact OL2.out; exact List.length_replicate; exact bv_one _; intro w8 hk8 hO8 hz8; simp only [Act.put]))
          ((try simp only [Exit.inBlock, Exit.then]); refine bodyPost_ret (results_cell_row rfl _ _ _ _ _ _ _ rfl hk8 Tryd.underlying24 rfl (by rw [sz_b32]; simp [OL2.out])) rfl ?_)
          exact ⟨by rw [HS.out, HSE.out], hbl.trans (hO8.below (Nat.le_refl _) hbl.size)⟩
end Go.Proofs.YtomjniijnpnehaaDoor.Wi
