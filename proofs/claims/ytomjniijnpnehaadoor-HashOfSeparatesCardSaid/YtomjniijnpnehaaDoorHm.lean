/-
  The compression of a block, the program's. Conditions: a slice of 64 bytes; the constants lie as the program's text lays them.
-/
import Derived.Test.YtomjniijnpnehaaDoorHc
import Derived.Test.YtomjniijnpnehaaDoorHl
import Derived.Test.YtomjniijnpnehaaDoorHp
import Derived.BigRegion
namespace Go.Proofs.YtomjniijnpnehaaDoor.Wi
open Go Go.RowKit Pu Lb

/-- the round constants in their place -/
abbrev TabH (w : World) : Prop := Tb w 1 (uv kk)
theorem TabH.below {w w' : World} (h : TabH w) (hb : Below w.heap.size w w') : TabH w' := Tb.below h hb
/-- the sums of the walk, each opaque -/
def pl (x y : UInt32) : UInt32 := x + y
def xr (x y : UInt32) : UInt32 := x ^^^ y
def an (x y : UInt32) : UInt32 := x &&& y
def nt (x : UInt32) : UInt32 := ~~~x
theorem pl_eq (x y : UInt32) : ((x.toNat : Int) + (y.toNat : Int)) % 4294967296 = ((pl x y).toNat : Int) := up x y
theorem pl_eq' (x y : UInt32) : IntKind.u32.wrap ((x.toNat : Int) + (y.toNat : Int)) = ((pl x y).toNat : Int) := by rw [IntKind.wrap_u32]; exact up x y
theorem xr_eq (x y : UInt32) : bits .xor .u32 (x.toNat : Int) (y.toNat : Int) = ((xr x y).toNat : Int) := ux x y
theorem an_eq (x y : UInt32) : bits .and .u32 (x.toNat : Int) (y.toNat : Int) = ((an x y).toNat : Int) := ua x y

def mx (x : UInt32) (i j k : Nat) : UInt32 := rr x i ^^^ rr x j ^^^ rr x k
theorem mx_any (x : UInt32) (i j k : Nat) (zi zj zk : Int) (ei : zi = (i : Int)) (ej : zj = (j : Int)) (ek : zk = (k : Int)) (hi : 0 < i ∧ i < 32) (hj : 0 < j ∧ j < 32) (hk : 0 < k ∧ k < 32) (w : World) :
    Calls Tryd.prog 37 #[.int .u32 (x.toNat : Int), .int .i64 zi, .int .i64 zj, .int .i64 zk] w fun e w' => e = .returned (.int .u32 ((mx x i j k).toNat : Int)) ∧ w' = w := mix_any x i j k zi zj zk ei ej ek hi hj hk w
theorem nt_eq (x : UInt32) : bits .xor .u32 (if IntKind.u32.signed = true then -1 else IntKind.u32.max) (x.toNat : Int) = ((nt x).toNat : Int) := by
  have h : (if IntKind.u32.signed = true then (-1 : Int) else IntKind.u32.max) = ((4294967295 : UInt32).toNat : Int) := by decide
  rw [h, ux]
  congr 2
/-- the state while its words are added: the first half up to i, the second half up to j -/
def adds (s r : S8) (i j : Nat) : List UInt32 := [if 0 < i then pl s.a r.a else s.a, if 1 < i then pl s.b r.b else s.b, if 2 < i then pl s.c r.c else s.c, if 3 < i then pl s.d r.d else s.d,
  if 0 < j then pl s.e r.e else s.e, if 1 < j then pl s.f r.f else s.f, if 2 < j then pl s.g r.g else s.g, if 3 < j then pl s.h r.h else s.h]
theorem four {i : Nat} (h : i < 4) : i = 0 ∨ i = 1 ∨ i = 2 ∨ i = 3 := by omega
theorem adds_at {s r : S8} {i : Nat} (h : i < 4) : (uv (adds s r i i))[i]? = some (.int .u32 ((gw [s.a, s.b, s.c, s.d] i).toNat : Int)) := by
  rcases four h with rfl | rfl | rfl | rfl <;> rfl
theorem adds_at2 {s r : S8} {i : Nat} (h : i < 4) : (uv (adds s r (i + 1) i))[i + 4]? = some (.int .u32 ((gw [s.e, s.f, s.g, s.h] i).toNat : Int)) := by
  rcases four h with rfl | rfl | rfl | rfl <;> rfl
theorem half_at {a b c d : UInt32} {i : Nat} (h : i < 4) : (uv [a, b, c, d])[i]? = some (.int .u32 ((gw [a, b, c, d] i).toNat : Int)) := by
  rcases four h with rfl | rfl | rfl | rfl <;> rfl
theorem adds_set {s r : S8} {i : Nat} (h : i < 4) : (uv (adds s r i i)).set i (.int .u32 ((pl (gw [s.a, s.b, s.c, s.d] i) (gw [r.a, r.b, r.c, r.d] i)).toNat : Int)) = uv (adds s r (i + 1) i) := by
  rcases four h with rfl | rfl | rfl | rfl <;> rfl
theorem adds_set2 {s r : S8} {i : Nat} (h : i < 4) : (uv (adds s r (i + 1) i)).set (i + 4) (.int .u32 ((pl (gw [s.e, s.f, s.g, s.h] i) (gw [r.e, r.f, r.g, r.h] i)).toNat : Int)) = uv (adds s r (i + 1) (i + 1)) := by
  rcases four h with rfl | rfl | rfl | rfl <;> rfl
theorem adds_zero (s r : S8) : adds s r 0 0 = l8 s := rfl
theorem adds_all (s r : S8) : adds s r 4 4 = l8 (addS s r) := rfl
theorem adds_len (s r : S8) (i j : Nat) : (uv (adds s r i j)).length = 8 := rfl
theorem sz_kk : (Tryd.prog.info? 54).map (·.size) = some (uv kk).length := by kernel_rfl
theorem heap_first (w : World) (c d : List Value) {t t' : TypeId} : Blk ((w.alloc (.cells c.toArray t)).alloc (.cells d.toArray t')).drew w.heap.size t c := by
  have h : Blk (w.alloc (.cells c.toArray t)) w.heap.size t c := heap_alloc_new w _
  exact Blk.below h (((Below.refl _ _).alloc (Nat.le_refl _) _).drew) (by rw [World.size_alloc]; omega)
theorem heap_second (w : World) (c d : List Value) {t t' : TypeId} : Blk ((w.alloc (.cells c.toArray t)).alloc (.cells d.toArray t')).drew (w.heap.size + 1) t' d := by
  have h : Blk ((w.alloc (.cells c.toArray t)).alloc (.cells d.toArray t')) (w.alloc (.cells c.toArray t)).heap.size t' d := heap_alloc_new _ _
  rw [World.size_alloc] at h
  exact h
theorem heap_two (w : World) (c d : List Value) {t t' : TypeId} : Below w.heap.size w ((w.alloc (.cells c.toArray t)).alloc (.cells d.toArray t')).drew :=
  (((Below.refl _ w).alloc (Nat.le_refl _) _).alloc (by simp) _).drew

theorem rnds_zero (s : S8) (w : List UInt32) : rnds s w 0 = s := rfl
theorem rnds_succ (s : S8) (w : List UInt32) (t : Nat) : rnds s w (t + 1) = rnd (rnds s w t) (gw kk t) (gw w t) := rfl
theorem comp_eq (s : S8) (b : List UInt8) : comp s b = addS s (rnds s (sched b 64) 64) := rfl
attribute [local irreducible] rnds comp sched
set_option maxRecDepth 100000 in
set_option maxHeartbeats 400000 in
theorem compress_any (v : Value) (s : S8) (b : List UInt8) (w : World) (hT : TabH w) (hv : Rd w 1 v 64 (bv b)) :
    Calls Tryd.prog 30 #[.agg (uv (l8 s)).toArray, v] w fun e w' => e = .returned (.agg (uv (l8 (comp s b))).toArray) ∧ Below w.heap.size w w' := by
  have sl := sched_len b 64
  have SL := Lib.hid sl; clear sl
  go_enter Tryd.func30, Tryd.ntmps30
  go_upto_region 1 with (first | ((with_reducible refine' wpList_boxa (cs := (uv (l8 s))) 30 (.tmp 0) rfl ?_ ?_ ?_); exact rfl; exact rfl; intro w1 hkS hN1 hz1; simp only [Act.put, List.setIfInBounds_toArray, List.set_cons_succ, List.set_cons_zero]) | ((with_reducible refine' wpList_alloc_blk (cs := List.replicate 8 (.int .u32 0)) 30 rfl ?_ zr_w8 ?_ ?_); exact rfl; exact zeros_u32 8; intro w2 hkR hN2 hz2; simp only [Act.put, List.setIfInBounds_toArray, List.set_cons_succ, List.set_cons_zero]))
  have hb := hN1.trans (hN2.mono hN1.size)
  replace hkS := hkS.below hN2 (by omega)
  have hv2 := hv.below hb
  go_upto_region 2 with (first | (go_at_call 36; (with_reducible refine (schedule_any v b w2 hv2).mono ?_); rintro e w' ⟨rfl, hb3⟩) | ((with_reducible refine' wpList_alloc_blk (cs := List.replicate 64 (.int .u32 0)) 54 rfl ?_ zr_w64 ?_ ?_); exact rfl; exact zeros_u32 64; intro w4 hkW hN4 hz4; simp only [Act.put, List.setIfInBounds_toArray, List.set_cons_succ, List.set_cons_zero]) | ((with_reducible refine' wpList_store_blk (cs := (uv (sched b 64))) 54 (.tmp 5) (.tmp 14) rfl ?_ ?_ ?_ hkW sz_w64 ?_ ?_ ?_ ?_); exact rfl; exact rfl; exact rfl; rw [uv_length]; exact SL.out; simp; exact uv_one _; intro w5 hkW hO5 hz5; simp only [Act.put]))
  have hN3 := hb3.trans (hN4.mono hb3.size)
  replace hkS := (hkS.below hN3 (by omega))
  replace hkR := (hkR.below hN3 (by omega))
  replace hkS := hO5.blk hkS (by have := hb3.size; omega)
  replace hkR := hO5.blk hkR (by have := hb3.size; omega)
  have hb5 : Below w.heap.size w w5 := (hb.trans (hN3.mono hb.size)).trans (hO5.below (by have := hb3.size; omega) (by have := hb3.size; omega))
  have hz : w.heap.size + 2 < w5.heap.size := by have := hb3.size; omega
  have hBW : w.heap.size + 1 < w'.heap.size := by have := hb3.size; omega
  have hBW5 : w'.heap.size < w5.heap.size := by omega
  clear hN3 hb3 hN4 hz4 hO5 hz5 hb hN1 hN2
  go_cut [6, 7] (fun x6 x7 w' => ∃ B6 B7 : Nat, x6 = .pointer (some ⟨B6, 0, none⟩) ∧ x7 = .pointer (some ⟨B7, 0, none⟩) ∧ B6 ≠ B7 ∧ w5.heap.size ≤ B6 ∧ w5.heap.size ≤ B7 ∧ Blk w' B6 63 (uv [s.a, s.b, s.c, s.d]) ∧ Blk w' B7 63 (uv [s.e, s.f, s.g, s.h]) ∧ Below w5.heap.size w5 w')
  case first =>
    rename_i J K2 hJ hK2
    have c0 := hkS.cell (j := 0) rfl
    have c1 := hkS.cell (j := 1) rfl
    have c2 := hkS.cell (j := 2) rfl
    have c3 := hkS.cell (j := 3) rfl
    have c4 := hkS.cell (j := 4) rfl
    have c5 := hkS.cell (j := 5) rfl
    have c6 := hkS.cell (j := 6) rfl
    have c7 := hkS.cell (j := 7) rfl
    have ha : ∀ (w : World) (ad : Addr) (cap : Nat), (Instr.arrayAt 63 (.slice (some ad) 4 cap)).run Tryd.prog w = .ok (.pointer (some ad)) w := fun w ad cap => by simp [Instr.arrayAt, run_underlying Tryd.underlying63]
    have hl0 : w.heap.size < w5.heap.size := by omega
    have hl1 : w.heap.size < w5.heap.size + 1 := by omega
    have hl2 : w.heap.size ≠ w5.heap.size := by omega
    have hl3 : w.heap.size ≠ w5.heap.size + 1 := by omega
    go_region
    all_goals
      refine hK2 _ _ (Met.intro (hJ _ _ ?_))
      (repeat apply Exists.intro)
      refine ⟨?_, rfl⟩
    · exact ⟨_, _, rfl, rfl, by omega, by omega, by omega, heap_first _ _ _, heap_second _ _ _, heap_two _ _ _⟩
    · exact ⟨_, _, rfl, rfl, by omega, by omega, by omega, heap_second _ _ _, heap_first _ _ _, heap_two _ _ _⟩
  case rest =>
    obtain ⟨B6, B7, rfl, rfl, hne, hB6, hB7, hkV, hkE, hN⟩ := hcut
    replace hkS := hkS.below hN (by omega)
    replace hkR := hkR.below hN (by omega)
    replace hkW := hkW.below hN (by omega)
    have hb := hb5.trans (hN.mono (by omega))
    have hT' := hT.below hb
    obtain ⟨KV, hKV⟩ : ∃ KV, uv kk = KV := ⟨_, rfl⟩
    have hsk := sz_kk
    unfold TabH at hT'
    rw [hKV] at hT' hsk
    have HKV := Lib.hid hKV
    have HSK := Lib.hid hsk
    clear hKV hsk
    have hn1 : w1.heap.size ≠ B6 ∧ w1.heap.size ≠ B7 ∧ w1.heap.size ≠ w.heap.size := by omega
    have hn2 : w'.heap.size ≠ B6 ∧ w'.heap.size ≠ B7 ∧ w'.heap.size ≠ w.heap.size ∧ w'.heap.size ≠ w1.heap.size := by omega
    have hn3 : w.heap.size ≠ B6 ∧ w.heap.size ≠ B7 := by omega
    have hn4 : w.heap.size ≤ B6 ∧ w.heap.size ≤ B7 := by omega
    obtain ⟨C5, hC5⟩ : ∃ C, w'.heap.size = C := ⟨_, rfl⟩
    rw [hC5] at hkW hn2 ⊢
    have EZ1 := Lib.hid hz1
    clear hz1 hz2 hN hz hBW hBW5 hv2 hb5 hB6 hB7 hC5
    have HNE := Lib.hid hne; have HN1 := Lib.hid hn1; have HN2 := Lib.hid hn2; have HN3 := Lib.hid hn3
    clear hne hn1 hn2 hn3
    go_upto_region 4 with (((with_reducible refine' wpList_load_tab (cs := KV) (.global 1) 54 rfl ?_ Tryd.underlying54 rfl (HSK.out) ?_ hT' ?_); exact rfl; exact rfl; simp only [Act.put, List.setIfInBounds_toArray, List.set_cons_succ, List.set_cons_zero]))
    go_loopw [22] (fun i wr => ∃ t : Nat, t ≤ 64 ∧ i = .int .i64 t ∧ Blk wr B6 63 (uv [(rnds s (sched b 64) t).a, (rnds s (sched b 64) t).b, (rnds s (sched b 64) t).c, (rnds s (sched b 64) t).d]) ∧ Blk wr B7 63 (uv [(rnds s (sched b 64) t).e, (rnds s (sched b 64) t).f, (rnds s (sched b 64) t).g, (rnds s (sched b 64) t).h]) ∧ Blk wr C5 54 (uv (sched b 64)) ∧ Blk wr w.heap.size 30 (uv (l8 s)) ∧ Blk wr w1.heap.size 30 (List.replicate 8 (.int .u32 0)) ∧ Below w.heap.size w wr) (fun i _ => 64 - (intOf i).toNat)
    case atStart => exact ⟨0, by omega, rfl, by rw [rnds_zero]; exact hkV, by rw [rnds_zero]; exact hkE, hkW, hkS, hkR, hb⟩
    case round =>
      obtain ⟨t, ht, rfl, hkV, hkE, hkW, hkS, hkR, hbl⟩ := hrel
      obtain ⟨r, hr⟩ : ∃ r, rnds s (sched b 64) t = r := ⟨_, rfl⟩
      rw [hr] at hkV hkE
      obtain ⟨ra, rb, rc, rd, re, rf, rg, rh⟩ := r
      simp only at hkV hkE
      have HR := Lib.hid hr
      clear hr
      by_cases hlt : t < 64
      · obtain ⟨wo, rfl⟩ : ∃ wo : World, wo = wr := ⟨_, rfl⟩
        have E0 := Lib.hid (show (uv [re, rf, rg, rh])[0]? = some (.int .u32 (re.toNat : Int)) from rfl)
        have E1 := Lib.hid (show (uv [re, rf, rg, rh])[1]? = some (.int .u32 (rf.toNat : Int)) from rfl)
        have E2 := Lib.hid (show (uv [re, rf, rg, rh])[2]? = some (.int .u32 (rg.toNat : Int)) from rfl)
        have E3 := Lib.hid (show (uv [re, rf, rg, rh])[3]? = some (.int .u32 (rh.toNat : Int)) from rfl)
        have V0 := Lib.hid (show (uv [ra, rb, rc, rd])[0]? = some (.int .u32 (ra.toNat : Int)) from rfl)
        have V1 := Lib.hid (show (uv [ra, rb, rc, rd])[1]? = some (.int .u32 (rb.toNat : Int)) from rfl)
        have V2 := Lib.hid (show (uv [ra, rb, rc, rd])[2]? = some (.int .u32 (rc.toNat : Int)) from rfl)
        have V3 := Lib.hid (show (uv [ra, rb, rc, rd])[3]? = some (.int .u32 (rd.toNat : Int)) from rfl)
        have WT := Lib.hid (uv_get (l := sched b 64) (k := t) (by rw [SL.out]; exact hlt))
        have KT := Lib.hid (uv_get (l := kk) (k := t) hlt)
        obtain ⟨xk, hxk⟩ : ∃ x, gw kk t = x := ⟨_, rfl⟩
        obtain ⟨xw, hxw⟩ : ∃ x, gw (sched b 64) t = x := ⟨_, rfl⟩
        rw [hxk, HKV.out] at KT; rw [hxw] at WT
        have XK := Lib.hid hxk; have XW := Lib.hid hxw
        clear hxk hxw
        have hk1 := lt32 xk; have hk2 := lt32 xw; have b1 := lt32 re; have b2 := lt32 rf; have b3 := lt32 rg; have b4 := lt32 rh
        have c1 := lt32 ra; have c2 := lt32 rb; have c3 := lt32 rc; have c4 := lt32 rd
        have PL := pl_eq; have PL' := pl_eq'; have XR := xr_eq; have AN := an_eq; have NT := nt_eq
        go_upto_region 6 with (((with_reducible refine' wpList_index_agg (.tmp 21) (.tmp 22) 54 rfl ?_ Tryd.underlying54 Tryd.underlying29 rfl sz_u32 ?_ (t) ?_ ?_ KT.out ?_); exact rfl; exact rfl; (show (_ : Int) = _; omega); omega; simp only [Act.put, List.setIfInBounds_toArray, List.set_cons_succ, List.set_cons_zero]))
        (refine wp_region_quiet_lit (by kernel_rfl) (by kernel_rfl) ?_; (repeat (first | ((with_reducible refine' wpQuiet_at_blk (.tmp 7) (.const (.int .i64 0)) 63 rfl ?_ Tryd.underlying63 sz_u32 ?_ (0) ?_ ?_ ?_); exact rfl; exact rfl; (show (_ : Int) = _; omega); omega; simp only [Act.put, List.setIfInBounds_toArray, List.set_cons_succ, List.set_cons_zero]) | ((with_reducible refine' wpQuiet_at_blk (.tmp 7) (.const (.int .i64 1)) 63 rfl ?_ Tryd.underlying63 sz_u32 ?_ (1) ?_ ?_ ?_); exact rfl; exact rfl; (show (_ : Int) = _; omega); omega; simp only [Act.put, List.setIfInBounds_toArray, List.set_cons_succ, List.set_cons_zero]) | ((with_reducible refine' wpQuiet_at_blk (.tmp 7) (.const (.int .i64 2)) 63 rfl ?_ Tryd.underlying63 sz_u32 ?_ (2) ?_ ?_ ?_); exact rfl; exact rfl; (show (_ : Int) = _; omega); omega; simp only [Act.put, List.setIfInBounds_toArray, List.set_cons_succ, List.set_cons_zero]) | ((with_reducible refine' wpQuiet_at_blk (.tmp 7) (.const (.int .i64 3)) 63 rfl ?_ Tryd.underlying63 sz_u32 ?_ (3) ?_ ?_ ?_); exact rfl; exact rfl; (show (_ : Int) = _; omega); omega; simp only [Act.put, List.setIfInBounds_toArray, List.set_cons_succ, List.set_cons_zero]) | ((with_reducible refine' wpQuiet_load_blk (fun _ h => h) (.tmp 26) 29 rfl ?_ ld_u32 ?_ hkE (E3.out) ?_); exact rfl; exact rfl; simp only [Act.put, List.setIfInBounds_toArray, List.set_cons_succ, List.set_cons_zero]) | ((with_reducible refine' wpQuiet_load_blk (fun _ h => h) (.tmp 28) 29 rfl ?_ ld_u32 ?_ hkE (E0.out) ?_); exact rfl; exact rfl; simp only [Act.put, List.setIfInBounds_toArray, List.set_cons_succ, List.set_cons_zero]) | ((with_reducible refine' wpQuiet_load_blk (fun _ h => h) (.tmp 32) 29 rfl ?_ ld_u32 ?_ hkE (E0.out) ?_); exact rfl; exact rfl; simp only [Act.put, List.setIfInBounds_toArray, List.set_cons_succ, List.set_cons_zero]) | ((with_reducible refine' wpQuiet_load_blk (fun _ h => h) (.tmp 34) 29 rfl ?_ ld_u32 ?_ hkE (E1.out) ?_); exact rfl; exact rfl; simp only [Act.put, List.setIfInBounds_toArray, List.set_cons_succ, List.set_cons_zero]) | ((with_reducible refine' wpQuiet_load_blk (fun _ h => h) (.tmp 37) 29 rfl ?_ ld_u32 ?_ hkE (E0.out) ?_); exact rfl; exact rfl; simp only [Act.put, List.setIfInBounds_toArray, List.set_cons_succ, List.set_cons_zero]) | ((with_reducible refine' wpQuiet_load_blk (fun _ h => h) (.tmp 40) 29 rfl ?_ ld_u32 ?_ hkE (E2.out) ?_); exact rfl; exact rfl; simp only [Act.put, List.setIfInBounds_toArray, List.set_cons_succ, List.set_cons_zero]) | ((with_reducible refine' wpQuiet_at_blk (.tmp 5) (.tmp 47) 54 rfl ?_ Tryd.underlying54 sz_u32 ?_ (t) ?_ ?_ ?_); exact rfl; exact rfl; (show (_ : Int) = _; omega); omega; simp only [Act.put, List.setIfInBounds_toArray, List.set_cons_succ, List.set_cons_zero]) | ((with_reducible refine' wpQuiet_load_blk (fun _ h => h) (.tmp 48) 29 rfl ?_ ld_u32 ?_ hkW (WT.out) ?_); exact rfl; exact rfl; simp only [Act.put, List.setIfInBounds_toArray, List.set_cons_succ, List.set_cons_zero]) | go_big_quiet_step ((go_at_call 37; (with_reducible refine Calls.quiet_of_same (mx_any re 6 11 25 6 11 25 rfl rfl rfl (by omega) (by omega) (by omega) _)))) | go_big_quiet_step (fail))); refine wpQuiet_nil ?_; intro _ hw'; obtain ⟨nq, hw''⟩ := hw'; subst hw'')
        go_upto_region 7 with fail
        replace hkV := hkV.drewN nq; replace hkE := hkE.drewN nq; replace hkW := hkW.drewN nq; replace hkS := hkS.drewN nq; replace hkR := hkR.drewN nq; replace hbl := below_drewN hbl nq
        generalize wo.drewN nq = wq at hkV hkE hkW hkS hkR hbl ⊢
        (refine wp_region_quiet_lit (by kernel_rfl) (by kernel_rfl) ?_; (repeat (first | ((with_reducible refine' wpQuiet_at_blk (.tmp 6) (.const (.int .i64 0)) 63 rfl ?_ Tryd.underlying63 sz_u32 ?_ (0) ?_ ?_ ?_); exact rfl; exact rfl; (show (_ : Int) = _; omega); omega; simp only [Act.put, List.setIfInBounds_toArray, List.set_cons_succ, List.set_cons_zero]) | ((with_reducible refine' wpQuiet_at_blk (.tmp 6) (.const (.int .i64 1)) 63 rfl ?_ Tryd.underlying63 sz_u32 ?_ (1) ?_ ?_ ?_); exact rfl; exact rfl; (show (_ : Int) = _; omega); omega; simp only [Act.put, List.setIfInBounds_toArray, List.set_cons_succ, List.set_cons_zero]) | ((with_reducible refine' wpQuiet_at_blk (.tmp 6) (.const (.int .i64 2)) 63 rfl ?_ Tryd.underlying63 sz_u32 ?_ (2) ?_ ?_ ?_); exact rfl; exact rfl; (show (_ : Int) = _; omega); omega; simp only [Act.put, List.setIfInBounds_toArray, List.set_cons_succ, List.set_cons_zero]) | ((with_reducible refine' wpQuiet_load_blk (fun _ h => h) (.tmp 51) 29 rfl ?_ ld_u32 ?_ hkV (V0.out) ?_); exact rfl; exact rfl; simp only [Act.put, List.setIfInBounds_toArray, List.set_cons_succ, List.set_cons_zero]) | ((with_reducible refine' wpQuiet_load_blk (fun _ h => h) (.tmp 54) 29 rfl ?_ ld_u32 ?_ hkV (V0.out) ?_); exact rfl; exact rfl; simp only [Act.put, List.setIfInBounds_toArray, List.set_cons_succ, List.set_cons_zero]) | ((with_reducible refine' wpQuiet_load_blk (fun _ h => h) (.tmp 56) 29 rfl ?_ ld_u32 ?_ hkV (V1.out) ?_); exact rfl; exact rfl; simp only [Act.put, List.setIfInBounds_toArray, List.set_cons_succ, List.set_cons_zero]) | ((with_reducible refine' wpQuiet_load_blk (fun _ h => h) (.tmp 59) 29 rfl ?_ ld_u32 ?_ hkV (V0.out) ?_); exact rfl; exact rfl; simp only [Act.put, List.setIfInBounds_toArray, List.set_cons_succ, List.set_cons_zero]) | ((with_reducible refine' wpQuiet_load_blk (fun _ h => h) (.tmp 61) 29 rfl ?_ ld_u32 ?_ hkV (V2.out) ?_); exact rfl; exact rfl; simp only [Act.put, List.setIfInBounds_toArray, List.set_cons_succ, List.set_cons_zero]) | ((with_reducible refine' wpQuiet_load_blk (fun _ h => h) (.tmp 65) 29 rfl ?_ ld_u32 ?_ hkV (V1.out) ?_); exact rfl; exact rfl; simp only [Act.put, List.setIfInBounds_toArray, List.set_cons_succ, List.set_cons_zero]) | ((with_reducible refine' wpQuiet_load_blk (fun _ h => h) (.tmp 67) 29 rfl ?_ ld_u32 ?_ hkV (V2.out) ?_); exact rfl; exact rfl; simp only [Act.put, List.setIfInBounds_toArray, List.set_cons_succ, List.set_cons_zero]) | go_big_quiet_step ((go_at_call 37; (with_reducible refine Calls.quiet_of_same (mx_any ra 2 13 22 2 13 22 rfl rfl rfl (by omega) (by omega) (by omega) _)))) | go_big_quiet_step (fail))); refine wpQuiet_nil ?_; intro _ hw'; obtain ⟨nq, hw''⟩ := hw'; subst hw'')
        replace hkV := hkV.drewN nq; replace hkE := hkE.drewN nq; replace hkW := hkW.drewN nq; replace hkS := hkS.drewN nq; replace hkR := hkR.drewN nq; replace hbl := below_drewN hbl nq
        generalize wq.drewN nq = wp at hkV hkE hkW hkS hkR hbl ⊢
        obtain ⟨X, hX⟩ : ∃ X, pl (pl (pl (pl rh (mx re 6 11 25)) (xr (an re rf) (an (nt re) rg))) xk) xw = X := ⟨_, rfl⟩
        obtain ⟨Y, hY⟩ : ∃ Y, pl (mx ra 2 13 22) (xr (xr (an ra rb) (an ra rc)) (an rb rc)) = Y := ⟨_, rfl⟩
        rw [hX, hY]
        have HX := Lib.hid hX; have HY := Lib.hid hY
        clear hX hY
        have d1 := lt32 X; have d2 := lt32 Y
        go_wp2_with (first
          | ((with_reducible refine' wpList_at_blk (.tmp 7) (.const (.int .i64 0)) 63 rfl ?_ Tryd.underlying63 sz_u32 ?_ (0) ?_ ?_ ?_); exact rfl; exact rfl; (show (_ : Int) = _; omega); omega; simp only [Act.put, List.setIfInBounds_toArray, List.set_cons_succ, List.set_cons_zero]) | ((with_reducible refine' wpList_at_blk (.tmp 7) (.const (.int .i64 1)) 63 rfl ?_ Tryd.underlying63 sz_u32 ?_ (1) ?_ ?_ ?_); exact rfl; exact rfl; (show (_ : Int) = _; omega); omega; simp only [Act.put, List.setIfInBounds_toArray, List.set_cons_succ, List.set_cons_zero]) | ((with_reducible refine' wpList_at_blk (.tmp 7) (.const (.int .i64 2)) 63 rfl ?_ Tryd.underlying63 sz_u32 ?_ (2) ?_ ?_ ?_); exact rfl; exact rfl; (show (_ : Int) = _; omega); omega; simp only [Act.put, List.setIfInBounds_toArray, List.set_cons_succ, List.set_cons_zero]) | ((with_reducible refine' wpList_at_blk (.tmp 6) (.const (.int .i64 0)) 63 rfl ?_ Tryd.underlying63 sz_u32 ?_ (0) ?_ ?_ ?_); exact rfl; exact rfl; (show (_ : Int) = _; omega); omega; simp only [Act.put, List.setIfInBounds_toArray, List.set_cons_succ, List.set_cons_zero]) | ((with_reducible refine' wpList_at_blk (.tmp 6) (.const (.int .i64 1)) 63 rfl ?_ Tryd.underlying63 sz_u32 ?_ (1) ?_ ?_ ?_); exact rfl; exact rfl; (show (_ : Int) = _; omega); omega; simp only [Act.put, List.setIfInBounds_toArray, List.set_cons_succ, List.set_cons_zero]) | ((with_reducible refine' wpList_at_blk (.tmp 6) (.const (.int .i64 2)) 63 rfl ?_ Tryd.underlying63 sz_u32 ?_ (2) ?_ ?_ ?_); exact rfl; exact rfl; (show (_ : Int) = _; omega); omega; simp only [Act.put, List.setIfInBounds_toArray, List.set_cons_succ, List.set_cons_zero]) | ((with_reducible refine' wpList_at_blk (.tmp 6) (.const (.int .i64 3)) 63 rfl ?_ Tryd.underlying63 sz_u32 ?_ (3) ?_ ?_ ?_); exact rfl; exact rfl; (show (_ : Int) = _; omega); omega; simp only [Act.put, List.setIfInBounds_toArray, List.set_cons_succ, List.set_cons_zero])
          | ((with_reducible refine' wpList_load_blk (.tmp 72) 29 rfl ?_ ld_u32 ?_ hkV (V3.out) ?_); exact rfl; exact rfl; simp only [Act.put, List.setIfInBounds_toArray, List.set_cons_succ, List.set_cons_zero]) | ((with_reducible refine' wpList_load_blk (.tmp 76) 29 rfl ?_ ld_u32 ?_ hkE (E0.out) ?_); exact rfl; exact rfl; simp only [Act.put, List.setIfInBounds_toArray, List.set_cons_succ, List.set_cons_zero]) | ((with_reducible refine' wpList_load_blk (.tmp 78) 29 rfl ?_ ld_u32 ?_ hkE (E1.out) ?_); exact rfl; exact rfl; simp only [Act.put, List.setIfInBounds_toArray, List.set_cons_succ, List.set_cons_zero]) | ((with_reducible refine' wpList_load_blk (.tmp 80) 29 rfl ?_ ld_u32 ?_ hkE (E2.out) ?_); exact rfl; exact rfl; simp only [Act.put, List.setIfInBounds_toArray, List.set_cons_succ, List.set_cons_zero]) | (((with_reducible refine' wpList_store_blk (cs := uv [pl rd X, re, rf, rg]) 63 (.tmp 7) (.tmp 82) rfl ?_ ?_ ?_ hkE sz_w4 ?_ ?_ ?_ ?_); exact rfl; exact rfl; exact rfl; rfl; rfl; exact uv_one _; intro wA hkE8 hO8 hz8; simp only [Act.put]); have hkV8 := hO8.blk hkV HNE.out)
          | ((with_reducible refine' wpList_load_blk (.tmp 86) 29 rfl ?_ ld_u32 ?_ hkV8 (V0.out) ?_); exact rfl; exact rfl; simp only [Act.put, List.setIfInBounds_toArray, List.set_cons_succ, List.set_cons_zero]) | ((with_reducible refine' wpList_load_blk (.tmp 88) 29 rfl ?_ ld_u32 ?_ hkV8 (V1.out) ?_); exact rfl; exact rfl; simp only [Act.put, List.setIfInBounds_toArray, List.set_cons_succ, List.set_cons_zero]) | ((with_reducible refine' wpList_load_blk (.tmp 90) 29 rfl ?_ ld_u32 ?_ hkV8 (V2.out) ?_); exact rfl; exact rfl; simp only [Act.put, List.setIfInBounds_toArray, List.set_cons_succ, List.set_cons_zero]) | (((with_reducible refine' wpList_store_blk (cs := uv [pl X Y, ra, rb, rc]) 63 (.tmp 6) (.tmp 92) rfl ?_ ?_ ?_ hkV8 sz_w4 ?_ ?_ ?_ ?_); exact rfl; exact rfl; exact rfl; rfl; rfl; exact uv_one _; intro wB hkV9 hO9 hz9; simp only [Act.put]); have hkE9 := hO9.blk hkE8 HNE.out.symm))
        go_roundw
        case rel =>
          rw [← HX.out] at hkE9 hkV9
          rw [← HY.out] at hkV9
          have hs := hbl.size
          have hs8 := hO8.size
          refine ⟨t + 1, by omega, by go_num, ?_, ?_, hO9.blk (hO8.blk hkW HN2.out.2.1) HN2.out.1, hO9.blk (hO8.blk hkS HN3.out.2) HN3.out.1, hO9.blk (hO8.blk hkR HN1.out.2.1) HN1.out.1, (hbl.trans (hO8.below (by omega) hs)).trans (hO9.below (by omega) (by omega))⟩
          · rw [rnds_succ, HR.out, XK.out, XW.out]
            exact hkV9
          · rw [rnds_succ, HR.out, XK.out, XW.out]
            exact hkE9
        case measure => simp [intOf]; omega
      · obtain rfl : t = 64 := by omega
        go_upto_region 12 with fail
        go_loopw [94] (fun i wr => ∃ t : Nat, t ≤ 4 ∧ i = .int .i64 t ∧ Blk wr B6 63 (uv [ra, rb, rc, rd]) ∧ Blk wr B7 63 (uv [re, rf, rg, rh]) ∧ Blk wr w.heap.size 30 (uv (adds s ⟨ra, rb, rc, rd, re, rf, rg, rh⟩ t t)) ∧ Blk wr w1.heap.size 30 (List.replicate 8 (.int .u32 0)) ∧ Below w.heap.size w wr) (fun i _ => 4 - (intOf i).toNat)
        case atStart => exact ⟨0, by omega, rfl, hkV, hkE, by rw [adds_zero]; exact hkS, hkR, hbl⟩
        case round =>
          obtain ⟨t, ht, rfl, hkV, hkE, hkS, hkR, hbl⟩ := hrel
          by_cases hlt : t < 4
          · obtain ⟨wo, rfl⟩ : ∃ wo : World, wo = wr := ⟨_, rfl⟩
            have SA := Lib.hid (adds_at (s := s) (r := ⟨ra, rb, rc, rd, re, rf, rg, rh⟩) hlt)
            have SB := Lib.hid (adds_at2 (s := s) (r := ⟨ra, rb, rc, rd, re, rf, rg, rh⟩) hlt)
            have VI := Lib.hid (half_at (a := ra) (b := rb) (c := rc) (d := rd) hlt)
            have EI := Lib.hid (half_at (a := re) (b := rf) (c := rg) (d := rh) hlt)
            have SET := Lib.hid (adds_set (s := s) (r := ⟨ra, rb, rc, rd, re, rf, rg, rh⟩) hlt)
            have SET2 := Lib.hid (adds_set2 (s := s) (r := ⟨ra, rb, rc, rd, re, rf, rg, rh⟩) hlt)
            obtain ⟨x1, hx1⟩ : ∃ x, gw [s.a, s.b, s.c, s.d] t = x := ⟨_, rfl⟩
            obtain ⟨x2, hx2⟩ : ∃ x, gw [s.e, s.f, s.g, s.h] t = x := ⟨_, rfl⟩
            obtain ⟨x3, hx3⟩ : ∃ x, gw [ra, rb, rc, rd] t = x := ⟨_, rfl⟩
            obtain ⟨x4, hx4⟩ : ∃ x, gw [re, rf, rg, rh] t = x := ⟨_, rfl⟩
            simp only at SET SET2
            rw [hx1] at SA SET; rw [hx2] at SB SET2; rw [hx3] at VI SET; rw [hx4] at EI SET2
            clear hx1 hx2 hx3 hx4
            have b1 := lt32 x1; have b2 := lt32 x2; have b3 := lt32 x3; have b4 := lt32 x4
            have PL := pl_eq; have PL' := pl_eq'
            have hl8 := adds_len s ⟨ra, rb, rc, rd, re, rf, rg, rh⟩
            have LA := Lib.hid hl8
            clear hl8
            go_upto_region 14 with fail
            (refine wp_region_tail 8 (by kernel_rfl) (by kernel_rfl) ?_; simp only [List.take_succ_cons, List.take_zero, List.drop_succ_cons, List.drop_zero]; (repeat (first | ((with_reducible refine' wpQuiet_at_blk (.tmp 2) (.tmp 97) 30 rfl ?_ Tryd.underlying30 sz_u32 ?_ (t) ?_ ?_ ?_); exact rfl; exact rfl; (show (_ : Int) = _; omega); omega; simp only [Act.put, List.setIfInBounds_toArray, List.set_cons_succ, List.set_cons_zero]) | ((with_reducible refine' wpQuiet_at_blk (.tmp 6) (.tmp 100) 63 rfl ?_ Tryd.underlying63 sz_u32 ?_ (t) ?_ ?_ ?_); exact rfl; exact rfl; (show (_ : Int) = _; omega); omega; simp only [Act.put, List.setIfInBounds_toArray, List.set_cons_succ, List.set_cons_zero]) | ((with_reducible refine' wpQuiet_load_blk still_drew (.tmp 98) 29 rfl ?_ ld_u32 ?_ hkS (SA.out) ?_); exact rfl; exact rfl; simp only [Act.put, List.setIfInBounds_toArray, List.set_cons_succ, List.set_cons_zero]) | ((with_reducible refine' wpQuiet_load_blk still_drew (.tmp 101) 29 rfl ?_ ld_u32 ?_ hkV (VI.out) ?_); exact rfl; exact rfl; simp only [Act.put, List.setIfInBounds_toArray, List.set_cons_succ, List.set_cons_zero]) | go_big_quiet_step (fail))); refine wpQuiet_nil ?_; show wpList _ _ _ _ _ _)
            (with_reducible refine' wpList_set_blk (k := t) 29 (.tmp 104) (.tmp 103) rfl ?_ sz_u32 ?_ rfl (Blk.drew hkS) (by rw [LA.out]; omega) ?_ ?_); exact rfl; exact rfl; exact rfl; intro wA hkA hOA hzA; simp only [Act.put]
            simp [Act.eval] at hkA
            rw [SET.out] at hkA
            replace hkV := hOA.blk (Blk.drew hkV) HN3.out.1.symm
            replace hkE := hOA.blk (Blk.drew hkE) HN3.out.2.symm
            replace hkR := hOA.blk (Blk.drew hkR) HN1.out.2.2
            replace hbl := (below_drew hbl).trans (hOA.below (Nat.le_refl _) hbl.size)
            clear hkS hOA hzA
            have hw1 : IntKind.i64.wrap ((t : Int) + 4) = (t : Int) + 4 := by rw [IntKind.wrap_i64]; omega
            go_upto_region 15 with fail
            (refine wp_region_tail 9 (by kernel_rfl) (by kernel_rfl) ?_; simp only [List.take_succ_cons, List.take_zero, List.drop_succ_cons, List.drop_zero]; (repeat (first | ((with_reducible refine' wpQuiet_at_blk (.tmp 2) (.tmp 106) 30 rfl ?_ Tryd.underlying30 sz_u32 ?_ (t + 4) ?_ ?_ ?_); exact rfl; exact rfl; (show (_ : Int) = _; omega); omega; simp only [Act.put, List.setIfInBounds_toArray, List.set_cons_succ, List.set_cons_zero]) | ((with_reducible refine' wpQuiet_at_blk (.tmp 7) (.tmp 109) 63 rfl ?_ Tryd.underlying63 sz_u32 ?_ (t) ?_ ?_ ?_); exact rfl; exact rfl; (show (_ : Int) = _; omega); omega; simp only [Act.put, List.setIfInBounds_toArray, List.set_cons_succ, List.set_cons_zero]) | ((with_reducible refine' wpQuiet_load_blk still_drew (.tmp 107) 29 rfl ?_ ld_u32 ?_ hkA (SB.out) ?_); exact rfl; exact rfl; simp only [Act.put, List.setIfInBounds_toArray, List.set_cons_succ, List.set_cons_zero]) | ((with_reducible refine' wpQuiet_load_blk still_drew (.tmp 110) 29 rfl ?_ ld_u32 ?_ hkE (EI.out) ?_); exact rfl; exact rfl; simp only [Act.put, List.setIfInBounds_toArray, List.set_cons_succ, List.set_cons_zero]) | go_big_quiet_step (fail))); refine wpQuiet_nil ?_; show wpList _ _ _ _ _ _)
            clear hw1
            (with_reducible refine' wpList_set_blk (k := t + 4) 29 (.tmp 113) (.tmp 112) rfl ?_ sz_u32 ?_ rfl (Blk.drew hkA) (by rw [LA.out]; omega) ?_ ?_); exact rfl; exact rfl; exact rfl; intro wB hkB hOB hzB; simp only [Act.put]
            simp [Act.eval] at hkB
            rw [SET2.out] at hkB
            replace hkV := hOB.blk (Blk.drew hkV) HN3.out.1.symm
            replace hkE := hOB.blk (Blk.drew hkE) HN3.out.2.symm
            replace hkR := hOB.blk (Blk.drew hkR) HN1.out.2.2
            replace hbl := (below_drew hbl).trans (hOB.below (Nat.le_refl _) hbl.size)
            clear hkA hOB hzB
            go_wp2_with fail
            go_roundw
            case rel => exact ⟨t + 1, by omega, by go_num, hkV, hkE, hkB, hkR, hbl⟩
            case measure => simp [intOf]; omega
          · obtain rfl : t = 4 := by omega
            rw [adds_all] at hkS
            rw [EZ1.out] at hkR
            go_upto_region 17 with fail
            refine wp_region_lit ?_
            ((with_reducible refine' wpList_loadall_blk (.tmp 2) 30 rfl ?_ Tryd.underlying30 sz_w8 ?_ hkS ?_ ?_ ?_); exact rfl; exact rfl; rfl; omega; simp only [Act.put, List.setIfInBounds_toArray, List.set_cons_succ, List.set_cons_zero])
            ((with_reducible refine' wpList_store_blk (cs := (uv (l8 (addS s ⟨ra, rb, rc, rd, re, rf, rg, rh⟩)))) 30 (.tmp 4) (.tmp 115) rfl ?_ ?_ ?_ hkR sz_w8 ?_ ?_ ?_ ?_); exact rfl; exact rfl; exact rfl; rfl; rfl; exact uv_one _; intro w3 hk3 hO3 hz3; simp only [Act.put])
            go_wp2_with fail
            ((try simp only [Exit.inBlock, Exit.then]); refine bodyPost_ret (results_cell_row rfl _ _ _ _ _ _ _ rfl hk3 Tryd.underlying30 rfl (by rw [sz_w8]; rfl)) rfl ?_)
            exact ⟨by rw [comp_eq, HR.out], hbl.trans (hO3.below (by omega) hbl.size)⟩
end Go.Proofs.YtomjniijnpnehaaDoor.Wi
