/-
  The digest of parts, the program's. Conditions: the constants lie as the program's text lays them; bounded lengths.
-/
import Derived.Test.YtomjniijnpnehaaDoorHy
import Derived.Test.YtomjniijnpnehaaDoorBye
import Derived.Test.YtomjniijnpnehaaDoorSv
namespace Go.Proofs.YtomjniijnpnehaaDoor.Lb
open Go Go.RowKit Go.Lib
section
variable {P : Program} {ops : Array Oper} {Q : Exit → Act → World → Prop} {a : Act} {w : World} {rest : List Oper} {o : Oper}
theorem wpList_arrptr (x : Operand) (t : TypeId) (ho : o.op = .sliceToArrayPointer t x) (hw : Region.wanted o (yielded ops a.tmps) = true) {e : TypeId} {m : Nat} (ht : P.underlying t = some (.array m e)) {ad : Addr} {n cap : Nat} (hx : a.eval x = .slice (some ad) n cap) (hm : m ≤ n)
    (h : wpList P ops Q rest (a.put o.dst (.pointer (some ad))) w) : wpList P ops Q (o :: rest) a w := wpList_of_run hw (run_arr_ptr x t ho ht hx hm w) h
end
end Go.Proofs.YtomjniijnpnehaaDoor.Lb
namespace Go.Proofs.YtomjniijnpnehaaDoor.Pu
/-- what is hashed for a tag and parts -/
def inp (tag : Int) (l : List (List UInt8)) : List UInt8 := bt tag :: l.flatMap encBytes
def digOf (tag : Int) (l : List (List UInt8)) : List UInt8 := (sha (inp tag l)).take 16
theorem digOf_len (tag : Int) (l : List (List UInt8)) : (digOf tag l).length = 16 := by unfold digOf; rw [List.length_take, sha_len]; rfl
end Go.Proofs.YtomjniijnpnehaaDoor.Pu
namespace Go.Proofs.YtomjniijnpnehaaDoor.Wi
open Go Go.RowKit Pu Lb
set_option linter.unusedSimpArgs false
set_option linter.unusedVariables false
attribute [local irreducible] comp sched comps sha outS

theorem zr_dig2 : (Tryd.prog.info? 44).map (·.zero) = some (some (.agg (Array.replicate 16 (.int .u8 0)))) := by kernel_rfl
set_option maxRecDepth 100000 in
set_option maxHeartbeats 1600000 in
theorem of_any (tag : Int) (x : Value) (n : Nat) (l : List (List UInt8)) (w : World) (hT : TabH w) (hx : Rd w 1 x n (sv l)) (h0 : -9223372036854775808 ≤ tag) (h1 : tag ≤ 9223372036854775807) (hL : (inp tag l).length ≤ 70368744177664) :
    Calls Tryd.prog 21 #[.int .i64 tag, x] w fun e w' => e = .returned (.agg (bv (digOf tag l)).toArray) ∧ Below w.heap.size w w' := by
  have hl : l.length = n := by have := hx.1; rw [sv_length] at this; omega
  have hnm := hx.len
  unfold maxLen at hnm
  have HL := Lib.hid hl
  clear hl
  go_enter Tryd.func21, Tryd.ntmps21
  go_upto_region 1 with (((with_reducible refine' wpList_alloc_blk (cs := List.replicate 16 (.int .u8 0)) 44 rfl ?_ zr_dig ?_ ?_); exact rfl; exact zeros_u8 16; intro w1 hkR hN1 hz1; simp only [Act.put, List.setIfInBounds_toArray, List.set_cons_succ, List.set_cons_zero]))
  have hT1 := hT.below hN1
  have hx1 := hx.below hN1
  have hlR := hkR.lt
  clear hz1
  refine wp_region_mono (w := w1) 7 (fun i => match i with | 0 => fun (vv : Value) (ww : World) => vv = .agg (stv begin0).toArray | 1 => fun (vv : Value) (ww : World) => vv = .int .i64 tag | 2 => fun (vv : Value) (ww : World) => vv = .int .u8 ((bt tag).toNat : Int) | 3 => fun (vv : Value) (ww : World) => Rd ww 1 vv 1 (bv [bt tag]) | 4 => fun (vv : Value) (ww : World) => vv = .string ⟨[bt tag].toArray⟩ | 5 => fun (vv : Value) (ww : World) => ∃ y, vv = .agg (stv y).toArray ∧ IsS [bt tag] y | 6 => fun (vv : Value) (ww : World) => ∃ B, vv = .pointer (some ⟨B, 0, none⟩) ∧ w1.heap.size ≤ B ∧ Blk ww B 34 stz | _ => fun _ _ => True) (by kernel_rfl) (by kernel_rfl) ?_ ?_ ?_
  · intro i vv w1 w2 h hb
    rcases i with _ | _ | _ | _ | _ | _ | _ | i
    all_goals first | exact h | exact Rd.below h hb | exact own_below h hb | (obtain ⟨B, h1, h2, h3⟩ := h; exact ⟨B, h1, h2, Blk.below h3 hb (Blk.lt h3)⟩) | trivial
  · intro i o hi ho us wz hl hbz hd
    obtain ⟨u0, u1, u2, u3, u4, u5, u6, rfl⟩ := len7 hl
    rcases i with _ | _ | _ | _ | _ | _ | _ | i
    · simp only [List.getElem?_cons_succ, List.getElem?_cons_zero, Option.some.injEq] at ho; subst ho; clear hi hl
      clear hd
      simp only [List.take_succ_cons, List.take_zero, List.drop_succ_cons, List.drop_zero, List.map_cons, List.map_nil, puts, Act.put, List.setIfInBounds_toArray, List.set_cons_succ, List.set_cons_zero]
      go_wp2_with ((go_at_call 14; (with_reducible refine (begin_any _).mono ?_); rintro e w' ⟨rfl, hq⟩))
      exact ⟨rfl, _, rfl, hq, rfl⟩
    · simp only [List.getElem?_cons_succ, List.getElem?_cons_zero, Option.some.injEq] at ho; subst ho; clear hi hl
      clear hd
      simp only [List.take_succ_cons, List.take_zero, List.drop_succ_cons, List.drop_zero, List.map_cons, List.map_nil, puts, Act.put, List.setIfInBounds_toArray, List.set_cons_succ, List.set_cons_zero]
      go_wp2_with (fail)
      exact ⟨rfl, _, rfl, Below.refl _ _, rfl⟩
    · simp only [List.getElem?_cons_succ, List.getElem?_cons_zero, Option.some.injEq] at ho; subst ho; clear hi hl
      have s1 : (fun (vv : Value) (ww : World) => vv = .int .i64 tag) u1 wz := hd 1 (by kernel_rfl)
      simp only at s1
      obtain rfl := s1
      clear hd
      simp only [List.take_succ_cons, List.take_zero, List.drop_succ_cons, List.drop_zero, List.map_cons, List.map_nil, puts, Act.put, List.setIfInBounds_toArray, List.set_cons_succ, List.set_cons_zero]
      go_wp2_with (fail)
      exact ⟨rfl, _, rfl, Below.refl _ _, by rw [bt_toNat]⟩
    · simp only [List.getElem?_cons_succ, List.getElem?_cons_zero, Option.some.injEq] at ho; subst ho; clear hi hl
      have s2 : (fun (vv : Value) (ww : World) => vv = .int .u8 ((bt tag).toNat : Int)) u2 wz := hd 2 (by kernel_rfl)
      simp only at s2
      obtain rfl := s2
      clear hd
      simp only [List.take_succ_cons, List.take_zero, List.drop_succ_cons, List.drop_zero, List.map_cons, List.map_nil, puts, Act.put, List.setIfInBounds_toArray, List.set_cons_succ, List.set_cons_zero]
      go_wp2_with (((with_reducible refine' wpList_build_own (u := .int .u8 ((bt tag).toNat : Int)) (.tmp 11) 22 rfl ?_ Tryd.underlying22 inf_u8 ?_ ?_ ?_); exact rfl; exact rfl; exact rfl; intro v3 w3 ho hNq hz; simp only [Act.put, List.setIfInBounds_toArray, List.set_cons_succ, List.set_cons_zero]))
      exact ⟨rfl, _, rfl, hNq, Rd.of_own ho⟩
    · simp only [List.getElem?_cons_succ, List.getElem?_cons_zero, Option.some.injEq] at ho; subst ho; clear hi hl
      have s3 : (fun (vv : Value) (ww : World) => Rd ww 1 vv 1 (bv [bt tag])) u3 wz := hd 3 (by kernel_rfl)
      simp only at s3
      clear hd
      simp only [List.take_succ_cons, List.take_zero, List.drop_succ_cons, List.drop_zero, List.map_cons, List.map_nil, puts, Act.put, List.setIfInBounds_toArray, List.set_cons_succ, List.set_cons_zero]
      go_wp2_with (((with_reducible refine' wpList_str_rd (.tmp 12) 22 9 rfl ?_ Tryd.underlying22 Tryd.underlying5 Tryd.underlying9 ?_ s3 ?_); exact rfl; exact rfl; simp only [Act.put, List.setIfInBounds_toArray, List.set_cons_succ, List.set_cons_zero]))
      exact ⟨rfl, _, rfl, Below.refl _ _, rfl⟩
    · simp only [List.getElem?_cons_succ, List.getElem?_cons_zero, Option.some.injEq] at ho; subst ho; clear hi hl
      have s0 : (fun (vv : Value) (ww : World) => vv = .agg (stv begin0).toArray) u0 wz := hd 0 (by kernel_rfl)
      simp only at s0
      obtain rfl := s0
      have s4 : (fun (vv : Value) (ww : World) => vv = .string ⟨[bt tag].toArray⟩) u4 wz := hd 4 (by kernel_rfl)
      simp only at s4
      obtain rfl := s4
      clear hd
      simp only [List.take_succ_cons, List.take_zero, List.drop_succ_cons, List.drop_zero, List.map_cons, List.map_nil, puts, Act.put, List.setIfInBounds_toArray, List.set_cons_succ, List.set_cons_zero]
      go_wp2_with ((go_at_call 15; (with_reducible refine (add_any [] [bt tag] begin0 _ (hT1.below hbz) begin_isS (by simp)).mono ?_); rintro e w' ⟨y, rfl, hy, hq⟩))
      exact ⟨rfl, _, rfl, hq, ⟨y, rfl, hy⟩⟩
    · simp only [List.getElem?_cons_succ, List.getElem?_cons_zero, Option.some.injEq] at ho; subst ho; clear hi hl
      clear hd
      simp only [List.take_succ_cons, List.take_zero, List.drop_succ_cons, List.drop_zero, List.map_cons, List.map_nil, puts, Act.put, List.setIfInBounds_toArray, List.set_cons_succ, List.set_cons_zero]
      go_wp2_with (((with_reducible refine' wpList_alloc_blk (cs := stz) 34 rfl ?_ zr_stm ?_ ?_); exact rfl; exact stv_zero; intro wq hkq hNq hzq; simp only [Act.put, List.setIfInBounds_toArray, List.set_cons_succ, List.set_cons_zero]))
      exact ⟨rfl, _, rfl, hNq, ⟨_, rfl, hbz.size, hkq⟩⟩
    · omega
  intro us wz hl hbz hS
  obtain ⟨u0, u1, u2, u3, u4, u5, u6, rfl⟩ := len7 hl
  have s5 : (fun (vv : Value) (ww : World) => ∃ y, vv = .agg (stv y).toArray ∧ IsS [bt tag] y) u5 wz := hS 5 (by omega)
  simp only at s5
  obtain ⟨y, rfl, hy⟩ := s5
  have s6 : (fun (vv : Value) (ww : World) => ∃ B, vv = .pointer (some ⟨B, 0, none⟩) ∧ w1.heap.size ≤ B ∧ Blk ww B 34 stz) u6 wz := hS 6 (by omega)
  simp only at s6
  obtain ⟨B5, rfl, hB5, hkz⟩ := s6
  clear hS hl
  simp only [List.take_succ_cons, List.take_zero, List.drop_succ_cons, List.drop_zero, List.map_cons, List.map_nil, puts, Act.put, List.setIfInBounds_toArray, List.set_cons_succ, List.set_cons_zero]
  have LY := Lib.hid (stv_len hy.1)
  ((with_reducible refine' wpList_store_blk (cs := stv y) 34 (.tmp 5) (.tmp 14) rfl ?_ ?_ ?_ hkz sz_stm ?_ ?_ ?_ ?_); exact rfl; exact rfl; exact rfl; exact LY.out; exact stz_len; exact stv_one _; intro w3 hk3 hO3 hz3; simp only [Act.put])
  refine onlyN ?_
  have hb3 := hbz.trans (hO3.below (by omega) hbz.size)
  have hxs := hx1.below hb3
  have hkR3 := hkR.below hb3 hlR
  have hb1 := hN1.trans (hb3.mono hN1.size)
  clear hz3 hO3 hkz hbz hx1 hkR
  go_upto_region 3 with (((with_reducible refine' wpList_len_rd (.tmp 15) 27 rfl ?_ Tryd.underlying27 ?_ hxs ?_); exact rfl; exact rfl; simp only [Act.put, List.setIfInBounds_toArray, List.set_cons_succ, List.set_cons_zero]))
  go_loopw [17] (fun i wr => ∃ (k : Nat) (y : Strm), k ≤ n ∧ i = .int .i64 k ∧ Hid (IsS (bt tag :: (l.take k).flatMap encBytes) y) ∧ Blk wr B5 34 (stv y) ∧ Blk wr w.heap.size 44 (List.replicate 16 (.int .u8 0)) ∧ Below w.heap.size w wr) (fun i _ => n - (intOf i).toNat)
  case atStart => exact ⟨0, y, by omega, rfl, Lib.hid (by simpa using hy), hk3, hkR3, hb1⟩
  case round =>
    obtain ⟨k, y, hk, rfl, HY, hk5, hkR, hbl⟩ := hrel
    have hxr := hx.below hbl
    have hl5 := hk5.lt
    have LY := Lib.hid (stv_len HY.out.1)
    have hTr := hT.below hbl
    have hlR := hkR.lt
    by_cases hlt : k < n
    · obtain ⟨wo, rfl⟩ : ∃ wo : World, wo = wr := ⟨_, rfl⟩
      obtain ⟨p, hp⟩ := get_lt (l := l) (k := k) (by rw [HL.out]; exact hlt)
      have SP := Lib.hid (sv_at hp)
      have hst := flat_step encBytes hp
      have hle := flat_le l (k + 1) encBytes
      rw [hst, List.length_append] at hle
      have hpl := encBytes_length p
      have hML : (inp tag l).length = (l.flatMap encBytes).length + 1 := rfl
      have hMb : (bt tag :: (l.take k).flatMap encBytes).length = ((l.take k).flatMap encBytes).length + 1 := rfl
      have b1 : p.length ≤ 70368744177664 := by omega
      have b2 : (bt tag :: (l.take k).flatMap encBytes).length + (encBytes p).length < 1152921504606846976 := by omega
      have ST := Lib.hid hst
      clear hst hle hpl hML hMb hp
      obtain ⟨M, hM⟩ : ∃ M, bt tag :: (l.take k).flatMap encBytes = M := ⟨_, rfl⟩
      rw [hM] at HY b2
      have HM := Lib.hid hM
      clear hM
      have hB : B5 ≠ w.heap.size := by intro h; omega
      have HB := Lib.hid hB
      clear hB
      go_upto_region 5 with (first | ((with_reducible refine' wpList_at1_rd (.tmp 15) (.tmp 17) 27 rfl ?_ Tryd.underlying27 sz_str ?_ hxr (k) ?_ ?_ ?_); exact rfl; exact rfl; (show (_ : Int) = _; omega); omega; simp only [Act.put, List.setIfInBounds_toArray, List.set_cons_succ, List.set_cons_zero]) | ((with_reducible refine' wpList_load_rd (.tmp 19) 9 rfl ?_ ld_str ?_ hxr (SP.out) ?_); exact rfl; exact rfl; simp only [Act.put, List.setIfInBounds_toArray, List.set_cons_succ, List.set_cons_zero]))
      refine wp_region_mono (w := wo) 5 (fun i => match i with | 0 => fun (vv : Value) (ww : World) => vv = .agg (stv y).toArray | 1 => fun (vv : Value) (ww : World) => vv = .string ⟨p.toArray⟩ | 2 => fun (vv : Value) (ww : World) => Rd ww 1 vv (encBytes p).length (bv (encBytes p)) | 3 => fun (vv : Value) (ww : World) => vv = .string ⟨(encBytes p).toArray⟩ | 4 => fun (vv : Value) (ww : World) => ∃ y2, vv = .agg (stv y2).toArray ∧ IsS (M ++ encBytes p) y2 | _ => fun _ _ => True) (by kernel_rfl) (by kernel_rfl) ?_ ?_ ?_
      · intro i vv w1 w2 h hb
        rcases i with _ | _ | _ | _ | _ | i
        all_goals first | exact h | exact Rd.below h hb | exact own_below h hb | (obtain ⟨B, h1, h2, h3⟩ := h; exact ⟨B, h1, h2, Blk.below h3 hb (Blk.lt h3)⟩) | trivial
      · intro i o hi ho us wz hl hbz hd
        obtain ⟨u0, u1, u2, u3, u4, rfl⟩ := len5 hl
        rcases i with _ | _ | _ | _ | _ | i
        · simp only [List.getElem?_cons_succ, List.getElem?_cons_zero, Option.some.injEq] at ho; subst ho; clear hi hl
          clear hd
          simp only [List.take_succ_cons, List.take_zero, List.drop_succ_cons, List.drop_zero, List.map_cons, List.map_nil, puts, Act.put, List.setIfInBounds_toArray, List.set_cons_succ, List.set_cons_zero]
          go_wp2_with (((with_reducible refine' wpList_load_part (f := 0) (cp := stv y) (.tmp 5) 34 rfl ?_ Tryd.underlying34 rfl sz_stm ?_ (hk5.below hbz hl5) ?_ ?_ ?_); exact rfl; exact rfl; rw [LY.out]; decide; rw [List.drop_zero, List.take_of_length_le (by rw [LY.out]; decide)]; simp only [Act.put, List.setIfInBounds_toArray, List.set_cons_succ, List.set_cons_zero]))
          exact ⟨rfl, _, rfl, Below.refl _ _, rfl⟩
        · simp only [List.getElem?_cons_succ, List.getElem?_cons_zero, Option.some.injEq] at ho; subst ho; clear hi hl
          clear hd
          simp only [List.take_succ_cons, List.take_zero, List.drop_succ_cons, List.drop_zero, List.map_cons, List.map_nil, puts, Act.put, List.setIfInBounds_toArray, List.set_cons_succ, List.set_cons_zero]
          go_wp2_with (fail)
          exact ⟨rfl, _, rfl, Below.refl _ _, rfl⟩
        · simp only [List.getElem?_cons_succ, List.getElem?_cons_zero, Option.some.injEq] at ho; subst ho; clear hi hl
          have s1 : (fun (vv : Value) (ww : World) => vv = .string ⟨p.toArray⟩) u1 wz := hd 1 (by kernel_rfl)
          simp only at s1
          obtain rfl := s1
          clear hd
          simp only [List.take_succ_cons, List.take_zero, List.drop_succ_cons, List.drop_zero, List.map_cons, List.map_nil, puts, Act.put, List.setIfInBounds_toArray, List.set_cons_succ, List.set_cons_zero]
          go_wp2_with ((go_at_call 33; (with_reducible refine (bytes_any p _ b1).mono ?_); rintro e w' ⟨vq, rfl, hoq, hq⟩))
          exact ⟨rfl, _, rfl, hq, Rd.of_own hoq⟩
        · simp only [List.getElem?_cons_succ, List.getElem?_cons_zero, Option.some.injEq] at ho; subst ho; clear hi hl
          have s2 : (fun (vv : Value) (ww : World) => Rd ww 1 vv (encBytes p).length (bv (encBytes p))) u2 wz := hd 2 (by kernel_rfl)
          simp only at s2
          clear hd
          simp only [List.take_succ_cons, List.take_zero, List.drop_succ_cons, List.drop_zero, List.map_cons, List.map_nil, puts, Act.put, List.setIfInBounds_toArray, List.set_cons_succ, List.set_cons_zero]
          go_wp2_with (((with_reducible refine' wpList_str_rd (.tmp 23) 22 9 rfl ?_ Tryd.underlying22 Tryd.underlying5 Tryd.underlying9 ?_ s2 ?_); exact rfl; exact rfl; simp only [Act.put, List.setIfInBounds_toArray, List.set_cons_succ, List.set_cons_zero]))
          exact ⟨rfl, _, rfl, Below.refl _ _, rfl⟩
        · simp only [List.getElem?_cons_succ, List.getElem?_cons_zero, Option.some.injEq] at ho; subst ho; clear hi hl
          have s0 : (fun (vv : Value) (ww : World) => vv = .agg (stv y).toArray) u0 wz := hd 0 (by kernel_rfl)
          simp only at s0
          obtain rfl := s0
          have s3 : (fun (vv : Value) (ww : World) => vv = .string ⟨(encBytes p).toArray⟩) u3 wz := hd 3 (by kernel_rfl)
          simp only at s3
          obtain rfl := s3
          clear hd
          simp only [List.take_succ_cons, List.take_zero, List.drop_succ_cons, List.drop_zero, List.map_cons, List.map_nil, puts, Act.put, List.setIfInBounds_toArray, List.set_cons_succ, List.set_cons_zero]
          go_wp2_with ((go_at_call 15; (with_reducible refine (add_any M (encBytes p) y _ (hTr.below hbz) HY.out b2).mono ?_); rintro e w' ⟨y2, rfl, hy2, hq⟩))
          exact ⟨rfl, _, rfl, hq, ⟨y2, rfl, hy2⟩⟩
        · omega
      intro us wz hl hbz hS
      obtain ⟨u0, u1, u2, u3, u4, rfl⟩ := len5 hl
      have s4 : (fun (vv : Value) (ww : World) => ∃ y2, vv = .agg (stv y2).toArray ∧ IsS (M ++ encBytes p) y2) u4 wz := hS 4 (by omega)
      simp only at s4
      obtain ⟨y2, rfl, hy2⟩ := s4
      clear hS hl
      simp only [List.take_succ_cons, List.take_zero, List.drop_succ_cons, List.drop_zero, List.map_cons, List.map_nil, puts, Act.put, List.setIfInBounds_toArray, List.set_cons_succ, List.set_cons_zero]
      have L2 := Lib.hid (stv_len hy2.1)
      have hk5z := hk5.below hbz hl5
      have hkRz := hkR.below hbz hlR
      have hbz2 := hbl.trans (hbz.mono hbl.size)
      ((with_reducible refine' wpList_store_blk (cs := stv y2) 34 (.tmp 5) (.tmp 25) rfl ?_ ?_ ?_ hk5z sz_stm ?_ ?_ ?_ ?_); exact rfl; exact rfl; exact rfl; exact L2.out; exact LY.out; exact stv_one _; intro w4 hk4 hO4 hz4; simp only [Act.put])
      refine onlyN ?_
      have HY2 := Lib.hid hy2
      clear hy2 hz4
      go_wp2_with fail
      go_roundw
      case rel =>
        refine ⟨k + 1, y2, by omega, by go_num, Lib.hid ?_, hk4, hO4.blk hkRz HB.out.symm, hbz2.trans (hO4.below (by omega) hbz2.size)⟩
        have h := HY2.out
        rw [← HM.out] at h
        rw [ST.out]
        exact h
      case measure => simp [intOf]; omega
    · obtain rfl : k = n := by omega
      have h := HY.out
      rw [List.take_of_length_le (by rw [HL.out]; exact Nat.le_refl _)] at h
      have hY : IsS (inp tag l) y := h
      have HY2 := Lib.hid hY
      clear h hY
      have SL := Lib.hid (show (bv (sha (inp tag l))).length = 32 by rw [bv_length, sha_len])
      have DL := Lib.hid (show (bv (digOf tag l)).length = 16 by rw [bv_length, digOf_len])
      have DE := Lib.hid (show ((bv (sha (inp tag l))).drop 0).take 16 = bv (digOf tag l) by rw [List.drop_zero, bv_take]; rfl)
      go_wp2_with (first
        | ((with_reducible refine' wpList_load_part (f := 0) (cp := stv y) (.tmp 5) 34 rfl ?_ Tryd.underlying34 rfl sz_stm ?_ hk5 ?_ ?_ ?_); exact rfl; exact rfl; rw [LY.out]; decide; rw [List.drop_zero, List.take_of_length_le (by rw [LY.out]; decide)]; simp only [Act.put, List.setIfInBounds_toArray, List.set_cons_succ, List.set_cons_zero])
        | ((go_at_call 17; (with_reducible refine (strsum_any (inp tag l) y _ hTr HY2.out (by omega)).mono ?_); rintro e w' ⟨rfl, hN6⟩); have hkR6 := hkR.below hN6 hlR; have hb6 := hbl.trans (hN6.mono hbl.size))
        | (((with_reducible refine' wpList_alloc_blk (cs := List.replicate 32 (.int .u8 0)) 24 rfl ?_ zr_b32 ?_ ?_); exact rfl; exact zeros_u8 32; intro w7 hk7 hN7 hz7; simp only [Act.put, List.setIfInBounds_toArray, List.set_cons_succ, List.set_cons_zero]); have hkR7 := hkR6.below hN7 hkR6.lt; have hb7 := hb6.trans (hN7.mono hb6.size); have hl6 := hkR6.lt)
        | (((with_reducible refine' wpList_store_blk (cs := bv (sha (inp tag l))) 24 (.tmp 8) (.tmp 28) rfl ?_ ?_ ?_ hk7 sz_b32 ?_ ?_ ?_ ?_); exact rfl; exact rfl; exact rfl; exact SL.out; exact List.length_replicate; exact bv_one _; intro w8 hk8 hO8 hz8; simp only [Act.put]); have hkR8 := hO8.blk hkR7 (by omega); have hb8 := hb7.trans (hO8.below (by omega) hb7.size))
        | ((with_reducible refine' wpList_arr_to (B := w'.heap.size) (f := 0) (.tmp 8) (.const (.int .i64 16)) 24 rfl ?_ Tryd.underlying24 sz_u8 ?_ (16) ?_ ?_ ?_); exact rfl; exact rfl; (show (_ : Int) = _; omega); omega; simp only [Act.put, List.setIfInBounds_toArray, List.set_cons_succ, List.set_cons_zero]) | ((with_reducible refine' wpList_arrptr (ad := ⟨w'.heap.size, 0, none⟩) (n := 16) (cap := 32) (.tmp 29) 44 rfl ?_ Tryd.underlying44 ?_ ?_ ?_); exact rfl; exact rfl; omega; simp only [Act.put, List.setIfInBounds_toArray, List.set_cons_succ, List.set_cons_zero]) | ((with_reducible refine' wpList_load_part (f := 0) (cp := bv (digOf tag l)) (.tmp 30) 44 rfl ?_ Tryd.underlying44 rfl sz_dig ?_ hk8 ?_ ?_ ?_); exact rfl; exact rfl; rw [SL.out]; decide; exact DE.out; simp only [Act.put, List.setIfInBounds_toArray, List.set_cons_succ, List.set_cons_zero])
        | (((with_reducible refine' wpList_store_blk (cs := bv (digOf tag l)) 44 (.tmp 4) (.tmp 31) rfl ?_ ?_ ?_ hkR8 sz_dig ?_ ?_ ?_ ?_); exact rfl; exact rfl; exact rfl; exact DL.out; exact List.length_replicate; exact bv_one _; intro w9 hk9 hO9 hz9; simp only [Act.put])))
      ((try simp only [Exit.inBlock, Exit.then]); refine bodyPost_ret (results_cell_row rfl _ _ _ _ _ _ _ rfl hk9 Tryd.underlying44 rfl (by rw [sz_dig]; simp [DL.out])) rfl ?_)
      exact ⟨rfl, hb8.trans (hO9.below (Nat.le_refl _) hb8.size)⟩
end Go.Proofs.YtomjniijnpnehaaDoor.Wi
