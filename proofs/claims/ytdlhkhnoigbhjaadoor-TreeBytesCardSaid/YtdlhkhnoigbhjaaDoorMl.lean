/-
  Ho, Rm, Rk, Ro, Tdg, Pul, Tde, Gtl: my texts of these names, one behind the other. Conditions: those that each law names.
-/
import Derived.Test.YtdlhkhnoigbhjaaDoorMk
import Derived.Test.YtdlhkhnoigbhjaaDoorMh
import Derived.Test.YtdlhkhnoigbhjaaDoorMa
namespace Go.Proofs.YtdlhkhnoigbhjaaDoor.Lb
open Go Go.RowKit Go.Lib
section
variable {P : Program} {ops : Array Oper} {Q : Exit → Act → World → Prop} {a : Act} {w : World} {rest : List Oper} {o : Oper}
theorem wpList_arrptr (x : Operand) (t : TypeId) (ho : o.op = .sliceToArrayPointer t x) (hw : Region.wanted o (yielded ops a.tmps) = true) {e : TypeId} {m : Nat} (ht : P.underlying t = some (.array m e)) {ad : Addr} {n cap : Nat} (hx : a.eval x = .slice (some ad) n cap) (hm : m ≤ n)
    (h : wpList P ops Q rest (a.put o.dst (.pointer (some ad))) w) : wpList P ops Q (o :: rest) a w := wpList_of_run hw (run_arr_ptr x t ho ht hx hm w) h
end
end Go.Proofs.YtdlhkhnoigbhjaaDoor.Lb
namespace Go.Proofs.YtdlhkhnoigbhjaaDoor.Pu
/-- what is hashed for a tag and parts -/
def inp (tag : Int) (l : List (List UInt8)) : List UInt8 := bt tag :: l.flatMap encBytes
def digOf (tag : Int) (l : List (List UInt8)) : List UInt8 := (sha (inp tag l)).take 16
theorem digOf_len (tag : Int) (l : List (List UInt8)) : (digOf tag l).length = 16 := by unfold digOf; rw [List.length_take, sha_len]; rfl
end Go.Proofs.YtdlhkhnoigbhjaaDoor.Pu
namespace Go.Proofs.YtdlhkhnoigbhjaaDoor.Wi
open Go Go.RowKit Pu Lb
set_option linter.unusedSimpArgs false
set_option linter.unusedVariables false
attribute [local irreducible] comp sched comps sha outS

theorem zr_dig2 : (Tryd.prog.info? 53).map (·.zero) = some (some (.agg (Array.replicate 16 (.int .u8 0)))) := by kernel_rfl
set_option maxRecDepth 100000 in
set_option maxHeartbeats 1600000 in
theorem of_any (tag : Int) (x : Value) (n : Nat) (l : List (List UInt8)) (w : World) (hT : TabH w) (hx : Rd w 1 x n (sv l)) (h0 : -9223372036854775808 ≤ tag) (h1 : tag ≤ 9223372036854775807) (hL : (inp tag l).length ≤ 70368744177664) :
    Calls Tryd.prog 45 #[.int .i64 tag, x] w fun e w' => e = .returned (.agg (bv (digOf tag l)).toArray) ∧ Below w.heap.size w w' := by
  have hl : l.length = n := by have := hx.1; rw [sv_length] at this; omega
  have hnm := hx.len
  unfold maxLen at hnm
  have HL := Lib.hid hl
  clear hl
  go_enter Tryd.func45, Tryd.ntmps45
  go_upto_region 1 with (((with_reducible refine' wpList_alloc_blk (cs := List.replicate 16 (.int .u8 0)) 53 rfl ?_ zr_dig ?_ ?_); exact rfl; exact zeros_u8 16; intro w1 hkR hN1 hz1; simp only [Act.put, List.setIfInBounds_toArray, List.set_cons_succ, List.set_cons_zero]))
  have hT1 := hT.below hN1
  have hx1 := hx.below hN1
  have hlR := hkR.lt
  clear hz1
  refine wp_region_mono (w := w1) 7 (fun i => match i with | 0 => fun (vv : Value) (ww : World) => vv = .agg (stv begin0).toArray | 1 => fun (vv : Value) (ww : World) => vv = .int .i64 tag | 2 => fun (vv : Value) (ww : World) => vv = .int .u8 ((bt tag).toNat : Int) | 3 => fun (vv : Value) (ww : World) => Rd ww 1 vv 1 (bv [bt tag]) | 4 => fun (vv : Value) (ww : World) => vv = .string ⟨[bt tag].toArray⟩ | 5 => fun (vv : Value) (ww : World) => ∃ y, vv = .agg (stv y).toArray ∧ IsS [bt tag] y | 6 => fun (vv : Value) (ww : World) => ∃ B, vv = .pointer (some ⟨B, 0, none⟩) ∧ w1.heap.size ≤ B ∧ Blk ww B 95 stz | _ => fun _ _ => True) (by kernel_rfl) (by kernel_rfl) ?_ ?_ ?_
  · intro i vv w1 w2 h hb
    rcases i with _ | _ | _ | _ | _ | _ | _ | i
    all_goals first | exact h | exact Rd.below h hb | exact own_below h hb | (obtain ⟨B, h1, h2, h3⟩ := h; exact ⟨B, h1, h2, Blk.below h3 hb (Blk.lt h3)⟩) | trivial
  · intro i o hi ho us wz hl hbz hd
    obtain ⟨u0, u1, u2, u3, u4, u5, u6, rfl⟩ := len7 hl
    rcases i with _ | _ | _ | _ | _ | _ | _ | i
    · simp only [List.getElem?_cons_succ, List.getElem?_cons_zero, Option.some.injEq] at ho; subst ho; clear hi hl
      clear hd
      simp only [List.take_succ_cons, List.take_zero, List.drop_succ_cons, List.drop_zero, List.map_cons, List.map_nil, puts, Act.put, List.setIfInBounds_toArray, List.set_cons_succ, List.set_cons_zero]
      go_wp2_with ((go_at_call 68; (with_reducible refine (begin_any _).mono ?_); rintro e w' ⟨rfl, hq⟩))
      exact ⟨rfl, _, rfl, hq, rfl⟩
    · simp only [List.getElem?_cons_succ, List.getElem?_cons_zero, Option.some.injEq] at ho; subst ho; clear hi hl
      clear hd
      simp only [List.take_succ_cons, List.take_zero, List.drop_succ_cons, List.drop_zero, List.map_cons, List.map_nil, puts, Act.put, List.setIfInBounds_toArray, List.set_cons_succ, List.set_cons_zero]
      go_wp2_with (fail)
      exact ⟨rfl, _, rfl, Below.refl _ _, rfl⟩
    · simp only [List.getElem?_cons_succ, List.getElem?_cons_zero, Option.some.injEq] at ho; subst ho; clear hi hl
      have s1 : (fun (vv : Value) (ww : World) => vv = .int .i64 tag) u1 wz := hd 1 (by kernel_rfl)
      simp only at s1
      obtain rfl := s1
      clear hd
      simp only [List.take_succ_cons, List.take_zero, List.drop_succ_cons, List.drop_zero, List.map_cons, List.map_nil, puts, Act.put, List.setIfInBounds_toArray, List.set_cons_succ, List.set_cons_zero]
      go_wp2_with (fail)
      exact ⟨rfl, _, rfl, Below.refl _ _, by rw [bt_toNat]⟩
    · simp only [List.getElem?_cons_succ, List.getElem?_cons_zero, Option.some.injEq] at ho; subst ho; clear hi hl
      have s2 : (fun (vv : Value) (ww : World) => vv = .int .u8 ((bt tag).toNat : Int)) u2 wz := hd 2 (by kernel_rfl)
      simp only at s2
      obtain rfl := s2
      clear hd
      simp only [List.take_succ_cons, List.take_zero, List.drop_succ_cons, List.drop_zero, List.map_cons, List.map_nil, puts, Act.put, List.setIfInBounds_toArray, List.set_cons_succ, List.set_cons_zero]
      go_wp2_with (((with_reducible refine' wpList_build_ownH (u := .int .u8 ((bt tag).toNat : Int)) (.tmp 11) 49 rfl ?_ Tryd.underlying49 inf_u8 ?_ ?_ ?_); exact rfl; exact rfl; exact rfl; intro v3 w3 ho hNq hz; simp only [Act.put, List.setIfInBounds_toArray, List.set_cons_succ, List.set_cons_zero]))
      exact ⟨rfl, _, rfl, hNq, Rd.of_own ho⟩
    · simp only [List.getElem?_cons_succ, List.getElem?_cons_zero, Option.some.injEq] at ho; subst ho; clear hi hl
      have s3 : (fun (vv : Value) (ww : World) => Rd ww 1 vv 1 (bv [bt tag])) u3 wz := hd 3 (by kernel_rfl)
      simp only at s3
      clear hd
      simp only [List.take_succ_cons, List.take_zero, List.drop_succ_cons, List.drop_zero, List.map_cons, List.map_nil, puts, Act.put, List.setIfInBounds_toArray, List.set_cons_succ, List.set_cons_zero]
      go_wp2_with (((with_reducible refine' wpList_str_rd (.tmp 12) 49 9 rfl ?_ Tryd.underlying49 Tryd.underlying5 Tryd.underlying9 ?_ s3 ?_); exact rfl; exact rfl; simp only [Act.put, List.setIfInBounds_toArray, List.set_cons_succ, List.set_cons_zero]))
      exact ⟨rfl, _, rfl, Below.refl _ _, rfl⟩
    · simp only [List.getElem?_cons_succ, List.getElem?_cons_zero, Option.some.injEq] at ho; subst ho; clear hi hl
      have s0 : (fun (vv : Value) (ww : World) => vv = .agg (stv begin0).toArray) u0 wz := hd 0 (by kernel_rfl)
      simp only at s0
      obtain rfl := s0
      have s4 : (fun (vv : Value) (ww : World) => vv = .string ⟨[bt tag].toArray⟩) u4 wz := hd 4 (by kernel_rfl)
      simp only at s4
      obtain rfl := s4
      clear hd
      simp only [List.take_succ_cons, List.take_zero, List.drop_succ_cons, List.drop_zero, List.map_cons, List.map_nil, puts, Act.put, List.setIfInBounds_toArray, List.set_cons_succ, List.set_cons_zero]
      go_wp2_with ((go_at_call 69; (with_reducible refine (add_any [] [bt tag] begin0 _ (hT1.below hbz) begin_isS (by simp)).mono ?_); rintro e w' ⟨y, rfl, hy, hq⟩))
      exact ⟨rfl, _, rfl, hq, ⟨y, rfl, hy⟩⟩
    · simp only [List.getElem?_cons_succ, List.getElem?_cons_zero, Option.some.injEq] at ho; subst ho; clear hi hl
      clear hd
      simp only [List.take_succ_cons, List.take_zero, List.drop_succ_cons, List.drop_zero, List.map_cons, List.map_nil, puts, Act.put, List.setIfInBounds_toArray, List.set_cons_succ, List.set_cons_zero]
      go_wp2_with (((with_reducible refine' wpList_alloc_blk (cs := stz) 95 rfl ?_ zr_stm ?_ ?_); exact rfl; exact stv_zero; intro wq hkq hNq hzq; simp only [Act.put, List.setIfInBounds_toArray, List.set_cons_succ, List.set_cons_zero]))
      exact ⟨rfl, _, rfl, hNq, ⟨_, rfl, hbz.size, hkq⟩⟩
    · omega
  intro us wz hl hbz hS
  obtain ⟨u0, u1, u2, u3, u4, u5, u6, rfl⟩ := len7 hl
  have s5 : (fun (vv : Value) (ww : World) => ∃ y, vv = .agg (stv y).toArray ∧ IsS [bt tag] y) u5 wz := hS 5 (by omega)
  simp only at s5
  obtain ⟨y, rfl, hy⟩ := s5
  have s6 : (fun (vv : Value) (ww : World) => ∃ B, vv = .pointer (some ⟨B, 0, none⟩) ∧ w1.heap.size ≤ B ∧ Blk ww B 95 stz) u6 wz := hS 6 (by omega)
  simp only at s6
  obtain ⟨B5, rfl, hB5, hkz⟩ := s6
  clear hS hl
  simp only [List.take_succ_cons, List.take_zero, List.drop_succ_cons, List.drop_zero, List.map_cons, List.map_nil, puts, Act.put, List.setIfInBounds_toArray, List.set_cons_succ, List.set_cons_zero]
  have LY := Lib.hid (stv_len hy.1)
  ((with_reducible refine' wpList_store_blk (cs := stv y) 95 (.tmp 5) (.tmp 14) rfl ?_ ?_ ?_ hkz sz_stm ?_ ?_ ?_ ?_); exact rfl; exact rfl; exact rfl; exact LY.out; exact stz_len; exact stv_one _; intro w3 hk3 hO3 hz3; simp only [Act.put])
  refine onlyN ?_
  have hb3 := hbz.trans (hO3.below (by omega) hbz.size)
  have hxs := hx1.below hb3
  have hkR3 := hkR.below hb3 hlR
  have hb1 := hN1.trans (hb3.mono hN1.size)
  clear hz3 hO3 hkz hbz hx1 hkR
  go_upto_region 3 with (((with_reducible refine' wpList_len_rd (.tmp 15) 81 rfl ?_ Tryd.underlying81 ?_ hxs ?_); exact rfl; exact rfl; simp only [Act.put, List.setIfInBounds_toArray, List.set_cons_succ, List.set_cons_zero]))
  go_loopw [17] (fun i wr => ∃ (k : Nat) (y : Strm), k ≤ n ∧ i = .int .i64 k ∧ Hid (IsS (bt tag :: (l.take k).flatMap encBytes) y) ∧ Blk wr B5 95 (stv y) ∧ Blk wr w.heap.size 53 (List.replicate 16 (.int .u8 0)) ∧ Below w.heap.size w wr) (fun i _ => n - (intOf i).toNat)
  case atStart => exact ⟨0, y, by omega, rfl, Lib.hid (by simpa using hy), hk3, hkR3, hb1⟩
  case round =>
    obtain ⟨k, y, hk, rfl, HY, hk5, hkR, hbl⟩ := hrel
    have hxr := hx.below hbl
    have hl5 := hk5.lt
    have LY := Lib.hid (stv_len HY.out.1)
    have hTr := hT.below hbl
    have hlR := hkR.lt
    by_cases hlt : k < n
    · obtain ⟨wo, rfl⟩ : ∃ wo : World, wo = wr := ⟨_, rfl⟩
      obtain ⟨p, hp⟩ := get_lt (l := l) (k := k) (by rw [HL.out]; exact hlt)
      have SP := Lib.hid (sv_at hp)
      have hst := flat_step encBytes hp
      have hle := flat_le l (k + 1) encBytes
      rw [hst, List.length_append] at hle
      have hpl := encBytes_length p
      have hML : (inp tag l).length = (l.flatMap encBytes).length + 1 := rfl
      have hMb : (bt tag :: (l.take k).flatMap encBytes).length = ((l.take k).flatMap encBytes).length + 1 := rfl
      have b1 : p.length ≤ 70368744177664 := by omega
      have b2 : (bt tag :: (l.take k).flatMap encBytes).length + (encBytes p).length < 1152921504606846976 := by omega
      have ST := Lib.hid hst
      clear hst hle hpl hML hMb hp
      obtain ⟨M, hM⟩ : ∃ M, bt tag :: (l.take k).flatMap encBytes = M := ⟨_, rfl⟩
      rw [hM] at HY b2
      have HM := Lib.hid hM
      clear hM
      have hB : B5 ≠ w.heap.size := by intro h; omega
      have HB := Lib.hid hB
      clear hB
      go_upto_region 5 with (first | ((with_reducible refine' wpList_at1_rd (.tmp 15) (.tmp 17) 81 rfl ?_ Tryd.underlying81 sz_str ?_ hxr (k) ?_ ?_ ?_); exact rfl; exact rfl; (show (_ : Int) = _; omega); omega; simp only [Act.put, List.setIfInBounds_toArray, List.set_cons_succ, List.set_cons_zero]) | ((with_reducible refine' wpList_load_rd (.tmp 19) 9 rfl ?_ ld_str ?_ hxr (SP.out) ?_); exact rfl; exact rfl; simp only [Act.put, List.setIfInBounds_toArray, List.set_cons_succ, List.set_cons_zero]))
      refine wp_region_mono (w := wo) 5 (fun i => match i with | 0 => fun (vv : Value) (ww : World) => vv = .agg (stv y).toArray | 1 => fun (vv : Value) (ww : World) => vv = .string ⟨p.toArray⟩ | 2 => fun (vv : Value) (ww : World) => Rd ww 1 vv (encBytes p).length (bv (encBytes p)) | 3 => fun (vv : Value) (ww : World) => vv = .string ⟨(encBytes p).toArray⟩ | 4 => fun (vv : Value) (ww : World) => ∃ y2, vv = .agg (stv y2).toArray ∧ IsS (M ++ encBytes p) y2 | _ => fun _ _ => True) (by kernel_rfl) (by kernel_rfl) ?_ ?_ ?_
      · intro i vv w1 w2 h hb
        rcases i with _ | _ | _ | _ | _ | i
        all_goals first | exact h | exact Rd.below h hb | exact own_below h hb | (obtain ⟨B, h1, h2, h3⟩ := h; exact ⟨B, h1, h2, Blk.below h3 hb (Blk.lt h3)⟩) | trivial
      · intro i o hi ho us wz hl hbz hd
        obtain ⟨u0, u1, u2, u3, u4, rfl⟩ := len5 hl
        rcases i with _ | _ | _ | _ | _ | i
        · simp only [List.getElem?_cons_succ, List.getElem?_cons_zero, Option.some.injEq] at ho; subst ho; clear hi hl
          clear hd
          simp only [List.take_succ_cons, List.take_zero, List.drop_succ_cons, List.drop_zero, List.map_cons, List.map_nil, puts, Act.put, List.setIfInBounds_toArray, List.set_cons_succ, List.set_cons_zero]
          go_wp2_with (((with_reducible refine' wpList_load_part (f := 0) (cp := stv y) (.tmp 5) 95 rfl ?_ Tryd.underlying95 rfl sz_stm ?_ (hk5.below hbz hl5) ?_ ?_ ?_); exact rfl; exact rfl; rw [LY.out]; decide; rw [List.drop_zero, List.take_of_length_le (by rw [LY.out]; decide)]; simp only [Act.put, List.setIfInBounds_toArray, List.set_cons_succ, List.set_cons_zero]))
          exact ⟨rfl, _, rfl, Below.refl _ _, rfl⟩
        · simp only [List.getElem?_cons_succ, List.getElem?_cons_zero, Option.some.injEq] at ho; subst ho; clear hi hl
          clear hd
          simp only [List.take_succ_cons, List.take_zero, List.drop_succ_cons, List.drop_zero, List.map_cons, List.map_nil, puts, Act.put, List.setIfInBounds_toArray, List.set_cons_succ, List.set_cons_zero]
          go_wp2_with (fail)
          exact ⟨rfl, _, rfl, Below.refl _ _, rfl⟩
        · simp only [List.getElem?_cons_succ, List.getElem?_cons_zero, Option.some.injEq] at ho; subst ho; clear hi hl
          have s1 : (fun (vv : Value) (ww : World) => vv = .string ⟨p.toArray⟩) u1 wz := hd 1 (by kernel_rfl)
          simp only at s1
          obtain rfl := s1
          clear hd
          simp only [List.take_succ_cons, List.take_zero, List.drop_succ_cons, List.drop_zero, List.map_cons, List.map_nil, puts, Act.put, List.setIfInBounds_toArray, List.set_cons_succ, List.set_cons_zero]
          go_wp2_with ((go_at_call 70; (with_reducible refine (bytes_any p _ b1).mono ?_); rintro e w' ⟨vq, rfl, hoq, hq⟩))
          exact ⟨rfl, _, rfl, hq, Rd.of_own hoq⟩
        · simp only [List.getElem?_cons_succ, List.getElem?_cons_zero, Option.some.injEq] at ho; subst ho; clear hi hl
          have s2 : (fun (vv : Value) (ww : World) => Rd ww 1 vv (encBytes p).length (bv (encBytes p))) u2 wz := hd 2 (by kernel_rfl)
          simp only at s2
          clear hd
          simp only [List.take_succ_cons, List.take_zero, List.drop_succ_cons, List.drop_zero, List.map_cons, List.map_nil, puts, Act.put, List.setIfInBounds_toArray, List.set_cons_succ, List.set_cons_zero]
          go_wp2_with (((with_reducible refine' wpList_str_rd (.tmp 23) 49 9 rfl ?_ Tryd.underlying49 Tryd.underlying5 Tryd.underlying9 ?_ s2 ?_); exact rfl; exact rfl; simp only [Act.put, List.setIfInBounds_toArray, List.set_cons_succ, List.set_cons_zero]))
          exact ⟨rfl, _, rfl, Below.refl _ _, rfl⟩
        · simp only [List.getElem?_cons_succ, List.getElem?_cons_zero, Option.some.injEq] at ho; subst ho; clear hi hl
          have s0 : (fun (vv : Value) (ww : World) => vv = .agg (stv y).toArray) u0 wz := hd 0 (by kernel_rfl)
          simp only at s0
          obtain rfl := s0
          have s3 : (fun (vv : Value) (ww : World) => vv = .string ⟨(encBytes p).toArray⟩) u3 wz := hd 3 (by kernel_rfl)
          simp only at s3
          obtain rfl := s3
          clear hd
          simp only [List.take_succ_cons, List.take_zero, List.drop_succ_cons, List.drop_zero, List.map_cons, List.map_nil, puts, Act.put, List.setIfInBounds_toArray, List.set_cons_succ, List.set_cons_zero]
          go_wp2_with ((go_at_call 69; (with_reducible refine (add_any M (encBytes p) y _ (hTr.below hbz) HY.out b2).mono ?_); rintro e w' ⟨y2, rfl, hy2, hq⟩))
          exact ⟨rfl, _, rfl, hq, ⟨y2, rfl, hy2⟩⟩
        · omega
      intro us wz hl hbz hS
      obtain ⟨u0, u1, u2, u3, u4, rfl⟩ := len5 hl
      have s4 : (fun (vv : Value) (ww : World) => ∃ y2, vv = .agg (stv y2).toArray ∧ IsS (M ++ encBytes p) y2) u4 wz := hS 4 (by omega)
      simp only at s4
      obtain ⟨y2, rfl, hy2⟩ := s4
      clear hS hl
      simp only [List.take_succ_cons, List.take_zero, List.drop_succ_cons, List.drop_zero, List.map_cons, List.map_nil, puts, Act.put, List.setIfInBounds_toArray, List.set_cons_succ, List.set_cons_zero]
      have L2 := Lib.hid (stv_len hy2.1)
      have hk5z := hk5.below hbz hl5
      have hkRz := hkR.below hbz hlR
      have hbz2 := hbl.trans (hbz.mono hbl.size)
      ((with_reducible refine' wpList_store_blk (cs := stv y2) 95 (.tmp 5) (.tmp 25) rfl ?_ ?_ ?_ hk5z sz_stm ?_ ?_ ?_ ?_); exact rfl; exact rfl; exact rfl; exact L2.out; exact LY.out; exact stv_one _; intro w4 hk4 hO4 hz4; simp only [Act.put])
      refine onlyN ?_
      have HY2 := Lib.hid hy2
      clear hy2 hz4
      go_wp2_with fail
      go_roundw
      case rel =>
        refine ⟨k + 1, y2, by omega, by go_num, Lib.hid ?_, hk4, hO4.blk hkRz HB.out.symm, hbz2.trans (hO4.below (by omega) hbz2.size)⟩
        have h := HY2.out
        rw [← HM.out] at h
        rw [ST.out]
        exact h
      case measure => simp [intOf]; omega
    · obtain rfl : k = n := by omega
      have h := HY.out
      rw [List.take_of_length_le (by rw [HL.out]; exact Nat.le_refl _)] at h
      have hY : IsS (inp tag l) y := h
      have HY2 := Lib.hid hY
      clear h hY
      have SL := Lib.hid (show (bv (sha (inp tag l))).length = 32 by rw [bv_length, sha_len])
      have DL := Lib.hid (show (bv (digOf tag l)).length = 16 by rw [bv_length, digOf_len])
      have DE := Lib.hid (show ((bv (sha (inp tag l))).drop 0).take 16 = bv (digOf tag l) by rw [List.drop_zero, bv_take]; rfl)
      go_wp2_with (first
        | ((with_reducible refine' wpList_load_part (f := 0) (cp := stv y) (.tmp 5) 95 rfl ?_ Tryd.underlying95 rfl sz_stm ?_ hk5 ?_ ?_ ?_); exact rfl; exact rfl; rw [LY.out]; decide; rw [List.drop_zero, List.take_of_length_le (by rw [LY.out]; decide)]; simp only [Act.put, List.setIfInBounds_toArray, List.set_cons_succ, List.set_cons_zero])
        | ((go_at_call 71; (with_reducible refine (strsum_any (inp tag l) y _ hTr HY2.out (by omega)).mono ?_); rintro e w' ⟨rfl, hN6⟩); have hkR6 := hkR.below hN6 hlR; have hb6 := hbl.trans (hN6.mono hbl.size))
        | (((with_reducible refine' wpList_alloc_blk (cs := List.replicate 32 (.int .u8 0)) 99 rfl ?_ zr_b32 ?_ ?_); exact rfl; exact zeros_u8 32; intro w7 hk7 hN7 hz7; simp only [Act.put, List.setIfInBounds_toArray, List.set_cons_succ, List.set_cons_zero]); have hkR7 := hkR6.below hN7 hkR6.lt; have hb7 := hb6.trans (hN7.mono hb6.size); have hl6 := hkR6.lt)
        | (((with_reducible refine' wpList_store_blk (cs := bv (sha (inp tag l))) 99 (.tmp 8) (.tmp 28) rfl ?_ ?_ ?_ hk7 sz_b32 ?_ ?_ ?_ ?_); exact rfl; exact rfl; exact rfl; exact SL.out; exact List.length_replicate; exact bv_one _; intro w8 hk8 hO8 hz8; simp only [Act.put]); have hkR8 := hO8.blk hkR7 (by omega); have hb8 := hb7.trans (hO8.below (by omega) hb7.size))
        | ((with_reducible refine' wpList_arr_to (B := w'.heap.size) (f := 0) (.tmp 8) (.const (.int .i64 16)) 99 rfl ?_ Tryd.underlying99 sz_u8 ?_ (16) ?_ ?_ ?_); exact rfl; exact rfl; (show (_ : Int) = _; omega); omega; simp only [Act.put, List.setIfInBounds_toArray, List.set_cons_succ, List.set_cons_zero]) | ((with_reducible refine' wpList_arrptr (ad := ⟨w'.heap.size, 0, none⟩) (n := 16) (cap := 32) (.tmp 29) 53 rfl ?_ Tryd.underlying53 ?_ ?_ ?_); exact rfl; exact rfl; omega; simp only [Act.put, List.setIfInBounds_toArray, List.set_cons_succ, List.set_cons_zero]) | ((with_reducible refine' wpList_load_part (f := 0) (cp := bv (digOf tag l)) (.tmp 30) 53 rfl ?_ Tryd.underlying53 rfl sz_dig ?_ hk8 ?_ ?_ ?_); exact rfl; exact rfl; rw [SL.out]; decide; exact DE.out; simp only [Act.put, List.setIfInBounds_toArray, List.set_cons_succ, List.set_cons_zero])
        | (((with_reducible refine' wpList_store_blk (cs := bv (digOf tag l)) 53 (.tmp 4) (.tmp 31) rfl ?_ ?_ ?_ hkR8 sz_dig ?_ ?_ ?_ ?_); exact rfl; exact rfl; exact rfl; exact DL.out; exact List.length_replicate; exact bv_one _; intro w9 hk9 hO9 hz9; simp only [Act.put])))
      ((try simp only [Exit.inBlock, Exit.then]); refine bodyPost_ret (results_cell_row rfl _ _ _ _ _ _ _ rfl hk9 Tryd.underlying53 rfl (by rw [sz_dig]; simp [DL.out])) rfl ?_)
      exact ⟨rfl, hb8.trans (hO9.below (Nat.le_refl _) hb8.size)⟩
end Go.Proofs.YtdlhkhnoigbhjaaDoor.Wi
namespace Go.Proofs.YtdlhkhnoigbhjaaDoor.Lb
open Go Go.RowKit Go.Lib
theorem own_nil (w : World) (B : Nat) (e : TypeId) (s : Nat) : w.ownsRow B e s (.slice none 0 0) 0 [] := ⟨by simp, .inl ⟨rfl, rfl⟩⟩
section
variable {P : Program} {ops : Array Oper} {Q : Exit → Act → World → Prop} {a : Act} {w : World} {rest : List Oper} {o : Oper}
/-- 's + t' -/
theorem wpList_str_add (x y : Operand) (t r : TypeId) (ho : o.op = .binOp .add t x y r) (hw : Region.wanted o (yielded ops a.tmps) = true) {l m : List UInt8} (hx : a.eval x = .string ⟨l.toArray⟩) (hy : a.eval y = .string ⟨m.toArray⟩)
    (hl : l.length + m.length ≤ 9223372036854775807)
    (h : wpList P ops Q rest (a.put o.dst (.string ⟨(l ++ m).toArray⟩)) w) : wpList P ops Q (o :: rest) a w := by
  refine wpList_of_run hw (v := .string ⟨(l ++ m).toArray⟩) (w' := w) ?_ h
  have h1 := run_string_add_sum (P := P) w ⟨l.toArray⟩ ⟨m.toArray⟩ (by rw [size_str, size_str]; omega)
  rw [ByteArray.mk_append_mk] at h1
  unfold execOp
  simp [ho, hx, hy, eqGuard, binOp, h1]
theorem str_eql (l m : List UInt8) : ((ByteArray.mk l.toArray).toList == (ByteArray.mk m.toArray).toList) = decide (l = m) := by
  have e : ∀ l : List UInt8, (ByteArray.mk l.toArray).toList = l := fun l => by rw [ByteArray.toList_eq]
  rw [e, e, Bool.eq_iff_iff]; simp
/-- 's == t' -/
theorem wpList_str_eql (x y : Operand) (t r : TypeId) (ho : o.op = .binOp .eql t x y r) (hw : Region.wanted o (yielded ops a.tmps) = true) {l m : List UInt8} (hx : a.eval x = .string ⟨l.toArray⟩) (hy : a.eval y = .string ⟨m.toArray⟩)
    (h : wpList P ops Q rest (a.put o.dst (.bool (decide (l = m)))) w) : wpList P ops Q (o :: rest) a w := by
  refine wpList_of_run hw (v := .bool (decide (l = m))) (w' := w) ?_ h
  unfold execOp
  simp only [ho, hx, hy, eqGuard, binOp, Op.stringOp, str_eql]
  simp
/-- '==' of two arrays of bytes -/
theorem wpList_arr_eql (x y : Operand) (t r : TypeId) (ho : o.op = .binOp .eql t x y r) (hw : Region.wanted o (yielded ops a.tmps) = true) {e : TypeId} {n : Nat} (ht : P.underlying t = some (.array n e)) (he : P.underlying e = some (.int .u8)) (hsz : (P.info? e).map (·.size) = some 1) (hg : P.eqGuardType P.depth t = false)
    {l m : List UInt8} (hx : a.eval x = .agg (bv l).toArray) (hy : a.eval y = .agg (bv m).toArray) (hl : l.length = n) (hm : m.length = n)
    (h : wpList P ops Q rest (a.put o.dst (.bool (decide (l = m)))) w) : wpList P ops Q (o :: rest) a w := by
  refine wpList_of_run hw (v := .bool (decide (l = m))) (w' := w) ?_ h
  have h1 := run_eqGuard_agg (P := P) (w := w) .eql t x y (bv l).toArray (bv m).toArray hg
  have h2 := fun d => run_eq_bytes (P := P) d t e n ht he hsz l m hl hm w
  have h3 : (Op.equal t (.agg (bv l).toArray) (.agg (bv m).toArray)).run P w = .ok (decide (l = m)) w := h2 _
  unfold execOp
  simp only [ho, hx, hy, binOp, Sem.run_bind, h1, Result.andThen_ok, h3, Sem.run_pure]
end
end Go.Proofs.YtdlhkhnoigbhjaaDoor.Lb
namespace Go.Proofs.YtdlhkhnoigbhjaaDoor.Wi
open Go Go.RowKit Pu Lb
set_option linter.unusedSimpArgs false
set_option linter.unusedVariables false
attribute [local irreducible] comp sched comps sha outS

theorem take_bv {l : List UInt8} {i : Nat} {x : UInt8} (h : l[i]? = some x) : bv (l.take i) ++ [.int .u8 (x.toNat : Int)] = bv (l.take (i + 1)) := by
  have hi : i < l.length := (List.getElem?_eq_some_iff.1 h).1
  have hx : l[i] = x := (List.getElem?_eq_some_iff.1 h).2
  rw [List.take_succ_eq_append_getElem hi, hx, bv_append]; rfl

end Go.Proofs.YtdlhkhnoigbhjaaDoor.Wi
namespace Go.Proofs.YtdlhkhnoigbhjaaDoor.Wi
open Go Go.RowKit Pu Lb
set_option linter.unusedSimpArgs false
set_option linter.unusedVariables false

theorem pad_get {k : List UInt8} (hk : k.length ≤ 64) {i : Nat} (hi : i < 64) : (pad64 k)[i]? = some (if i < k.length then gb k i else 0) := by
  unfold pad64
  by_cases h : i < k.length
  · rw [if_pos h, List.getElem?_append_left h]; simp [gb, h]
  · rw [if_neg h, List.getElem?_append_right (by omega), List.getElem?_replicate, if_pos (by omega)]
theorem padKey_get {key k : List UInt8} {c : UInt8} (hk : (if 64 < key.length then sha key else key) = k) {i : Nat} (hi : i < 64) : (padKey key c)[i]? = some ((if i < k.length then gb k i else 0) ^^^ c) := by
  subst hk
  rw [padKey_eq, List.getElem?_map, pad_get (short_key key) hi]; rfl
attribute [local irreducible] comp sched comps sha outS padKey

def fewB (l : List (List UInt8)) : Bool := decide (l.length ≤ 12 ∧ ∀ s ∈ l, s.length ≤ 400)
attribute [local irreducible] fewB
end Go.Proofs.YtdlhkhnoigbhjaaDoor.Wi
namespace Go.Proofs.YtdlhkhnoigbhjaaDoor.Wi
open Go Go.RowKit Pu Lb
set_option linter.unusedSimpArgs false
set_option linter.unusedVariables false
attribute [local irreducible] comp sched comps sha outS

set_option maxRecDepth 100000 in
theorem refinput_any (tag : Int) (x : Value) (n : Nat) (l : List (List UInt8)) (w : World) (hx : Rd w 1 x n (sv l)) (h0 : -9223372036854775808 ≤ tag) (h1 : tag ≤ 9223372036854775807) (hL : (inp tag l).length ≤ 70368744177664) :
    Calls Tryd.prog 86 #[.int .i64 tag, x] w fun e w' => ∃ v, e = .returned v ∧ w'.ownsRow w.heap.size 5 1 v (inp tag l).length (bv (inp tag l)) ∧ Below w.heap.size w w' := by
  have hl : l.length = n := by have := hx.1; rw [sv_length] at this; omega
  have HL := Lib.hid hl
  have hnm := hx.len
  unfold maxLen at hnm
  clear hl
  have BT := Lib.hid (bt_toNat tag)
  have hML : (inp tag l).length = (l.flatMap encBytes).length + 1 := by unfold inp; rfl
  go_enter Tryd.func86, Tryd.ntmps86
  go_upto_region 3 with (rw [← BT.out]; ((with_reducible refine' wpList_build_ownH (u := .int .u8 ((bt tag).toNat : Int)) (.tmp 8) 49 rfl ?_ Tryd.underlying49 inf_u8 ?_ ?_ ?_); exact rfl; exact rfl; exact rfl; intro v3 w3 ho hN3 hz; simp only [Act.put, List.setIfInBounds_toArray, List.set_cons_succ, List.set_cons_zero]))
  go_loopw [6, 5] (fun i v wr => ∃ k : Nat, k ≤ n ∧ i = .int .i64 k ∧ wr.ownsRow w.heap.size 5 1 v (bt tag :: (l.take k).flatMap encBytes).length (bv (bt tag :: (l.take k).flatMap encBytes)) ∧ Below w.heap.size w wr) (fun i _ _ => n - (intOf i).toNat)
  case atStart => exact ⟨0, by omega, rfl, ho, hN3⟩
  case round =>
    obtain ⟨k, hk, rfl, hown, hbl⟩ := hrel
    have HO := Lib.hid hown
    clear hown
    have hxr := hx.below hbl
    by_cases hlt : k < n
    · obtain ⟨wo, rfl⟩ : ∃ wo : World, wo = wr := ⟨_, rfl⟩
      obtain ⟨p, hp⟩ := get_lt (l := l) (k := k) (by rw [HL.out]; exact hlt)
      have SP := Lib.hid (sv_at hp)
      have hst := flat_step encBytes hp
      have hle := flat_le l (k + 1) encBytes
      rw [hst, List.length_append] at hle
      have hpl := encBytes_length p
      have hMb : (bt tag :: (l.take k).flatMap encBytes).length = ((l.take k).flatMap encBytes).length + 1 := rfl
      have b1 : p.length ≤ 70368744177664 := by omega
      have h1b := bv_one (encBytes p)
      go_wp2_with (first
        | ((with_reducible refine' wpList_len_rd (.tmp 11) 81 rfl ?_ Tryd.underlying81 ?_ hxr ?_); exact rfl; exact rfl; simp only [Act.put, List.setIfInBounds_toArray, List.set_cons_succ, List.set_cons_zero]) | ((with_reducible refine' wpList_at1_rd (.tmp 17) (.tmp 18) 81 rfl ?_ Tryd.underlying81 sz_str ?_ hxr (k) ?_ ?_ ?_); exact rfl; exact rfl; (show (_ : Int) = _; omega); omega; simp only [Act.put, List.setIfInBounds_toArray, List.set_cons_succ, List.set_cons_zero]) | ((with_reducible refine' wpList_load_rd (.tmp 19) 9 rfl ?_ ld_str ?_ hxr (SP.out) ?_); exact rfl; exact rfl; simp only [Act.put, List.setIfInBounds_toArray, List.set_cons_succ, List.set_cons_zero])
        | (go_at_call 95; (with_reducible refine (refbytes_any p _ b1).mono ?_); rintro e w' ⟨v2, rfl, ho2, hb2⟩)
        | ((with_reducible refine' wpList_append_rd (.tmp 16) (.tmp 21) 49 rfl ?_ Tryd.underlying49 inf_u8 ?_ ?_ ?_ (own_below HO.out hb2) ?_ (Rd.of_own ho2) h1b ?_ ?_ (Nat.le_trans hbl.size hb2.size) ?_); exact rfl; exact rfl; omega; exact rfl; exact rfl; (first | omega | (unfold maxLen; omega)); omega; intro v4 w4 ho4 hb4; simp only [Act.put, List.setIfInBounds_toArray, List.set_cons_succ, List.set_cons_zero]))
      go_roundw
      case rel =>
        refine ⟨k + 1, by omega, by go_num, ?_, hbl.trans ((hb2.mono hbl.size).trans hb4)⟩
        rw [← bv_append] at ho4
        rw [hst, ← List.cons_append, List.length_append]
        exact ho4
      case measure => simp [intOf]; omega
    · obtain rfl : k = n := by omega
      have ho := HO.out
      rw [List.take_of_length_le (by rw [HL.out]; exact Nat.le_refl _)] at ho
      go_wp2_with (((with_reducible refine' wpList_len_rd (.tmp 11) 81 rfl ?_ Tryd.underlying81 ?_ hxr ?_); exact rfl; exact rfl; simp only [Act.put, List.setIfInBounds_toArray, List.set_cons_succ, List.set_cons_zero]))
      go_ret
      exact ⟨_, rfl, ho, hbl⟩

set_option maxRecDepth 100000 in
theorem refshort_any (x : Value) (n : Nat) (m : List UInt8) (w : World) (hT : TabR w) (hx : Rd w 1 x n (bv m)) (hn : m.length ≤ 70368744177664) :
    Calls Tryd.prog 85 #[x] w fun e w' => e = .returned (.agg (bv ((sha m).take 16)).toArray) ∧ Below w.heap.size w w' := by
  obtain ⟨d, hd⟩ : ∃ d, sha m = d := ⟨_, rfl⟩
  have D32 := Lib.hid (show (bv d).length = 32 by rw [bv_length, ← hd, sha_len])
  have HD := Lib.hid hd
  have DL := Lib.hid (show d.length = 32 by rw [← hd, sha_len])
  have D16 := Lib.hid (show (bv (d.take 16)).length = 16 by rw [bv_length, List.length_take, DL.out]; rfl)
  clear hd
  go_enter Tryd.func85, Tryd.ntmps85
  go_upto_region 1 with (((with_reducible refine' wpList_alloc_blk (cs := List.replicate 16 (.int .u8 0)) 53 rfl ?_ zr_dig ?_ ?_); exact rfl; exact zeros_u8 16; intro w1 hkR hN1 hz1; simp only [Act.put, List.setIfInBounds_toArray, List.set_cons_succ, List.set_cons_zero]))
  have hT1 := hT.below hN1
  have hx1 := hx.below hN1
  have hlR := hkR.lt
  go_upto_region 2 with (first
    | ((go_at_call 94; (with_reducible refine (refsum_any x n m _ hT1 hx1 hn).mono ?_); rintro e w' ⟨rfl, hN2⟩); rw [HD.out]; have hb2 := hN1.trans (hN2.mono hN1.size); have hkR2 := hkR.below hN2 hlR)
    | (((with_reducible refine' wpList_alloc_blk (cs := List.replicate 32 (.int .u8 0)) 99 rfl ?_ zr_b32 ?_ ?_); exact rfl; exact zeros_u8 32; intro w3 hkD hN3 hz3; simp only [Act.put, List.setIfInBounds_toArray, List.set_cons_succ, List.set_cons_zero]); have hb3 := hb2.trans (hN3.mono hb2.size); have hkR3 := hkR2.below hN3 hkR2.lt; have q2 := hkR2.lt)
    | (((with_reducible refine' wpList_store_blk (cs := bv d) 99 (.tmp 3) (.tmp 7) rfl ?_ ?_ ?_ hkD sz_b32 ?_ ?_ ?_ ?_); exact rfl; exact rfl; exact rfl; exact D32.out; exact List.length_replicate; exact bv_one _; intro w4 hkD4 hO4 hz4; simp only [Act.put]); have hkR4 := hO4.blk hkR3 (by omega); have hb4 := hb3.trans (hO4.below (by omega) hb3.size); have hlD := hkD4.lt; have hlR4 := hkR4.lt))
  clear hz1 hz3 hz4 hkR hkR2 hkR3 hkD hO4
  go_upto_region 4 with (first
    | ((with_reducible refine' wpList_of_run (o := ⟨_, .build _ _, _, _, _, _⟩) (v := .agg (List.replicate 16 (.int .u8 0)).toArray) (w' := w4) ?_ ?_ ?_); exact rfl; kernel_rfl; simp only [Act.put, List.setIfInBounds_toArray, List.set_cons_succ, List.set_cons_zero])
    | (((with_reducible refine' wpList_alloc_blk (cs := List.replicate 16 (.int .u8 0)) 53 rfl ?_ zr_dig ?_ ?_); exact rfl; exact zeros_u8 16; intro w5 hkE hN5 hz5; simp only [Act.put, List.setIfInBounds_toArray, List.set_cons_succ, List.set_cons_zero]); have hb5 := hb4.trans (hN5.mono hb4.size); have hkR5 := hkR4.below hN5 hlR4; have hkD5 := hkD4.below hN5 hlD)
    | (((with_reducible refine' wpList_store_blk (cs := List.replicate 16 (.int .u8 0)) 53 (.tmp 4) (.tmp 8) rfl ?_ ?_ ?_ hkE sz_dig ?_ ?_ ?_ ?_); exact rfl; exact rfl; exact rfl; exact List.length_replicate; exact List.length_replicate; (intro u hu; rw [List.eq_of_mem_replicate hu]; rfl); intro w6 hkE6 hO6 hz6; simp only [Act.put]); have hkR6 := hO6.blk hkR5 (by omega); have hkD6 := hO6.blk hkD5 (by omega); have hb6 := hb5.trans (hO6.below (by omega) hb5.size)))
  obtain ⟨B3, hB3⟩ : ∃ B, w'.heap.size = B := ⟨_, rfl⟩
  obtain ⟨B4, hB4⟩ : ∃ B, w4.heap.size = B := ⟨_, rfl⟩
  rw [hB3] at hkD6 hlD ⊢
  rw [hB4] at hkE6 ⊢
  go_loopw [5] (fun i wr => ∃ t : Nat, t ≤ 16 ∧ i = .int .i64 t ∧ Blk wr B4 53 ((bv d).take t ++ List.replicate (16 - t) (.int .u8 0)) ∧ Blk wr B3 99 (bv d) ∧ Blk wr w.heap.size 53 (List.replicate 16 (.int .u8 0)) ∧ Below w.heap.size w wr) (fun i _ => 16 - (intOf i).toNat)
  case atStart => exact ⟨0, by omega, rfl, by simpa using hkE6, hkD6, hkR6, hb6⟩
  case round =>
    obtain ⟨t, ht, rfl, hkE, hkD, hkR, hbl⟩ := hrel
    by_cases hlt : t < 16
    · obtain ⟨wo, rfl⟩ : ∃ wo : World, wo = wr := ⟨_, rfl⟩
      have hbt : d[t]? = some (gb d t) := by simp [gb, show t < d.length by rw [DL.out]; omega]
      have X : (bv d)[t]? = some (.int .u8 ((gb d t).toNat : Int)) := by unfold bv; rw [List.getElem?_map, hbt]; rfl
      have TL : ((bv d).take t).length = t := by rw [List.length_take, D32.out]; omega
      have SET := Lib.hid (fill_step TL hlt (.int .u8 0) (.int .u8 ((gb d t).toNat : Int)))
      have X := Lib.hid X
      have HLEN := Lib.hid (show t < ((bv d).take t ++ List.replicate (16 - t) (Value.int .u8 0)).length by rw [List.length_append, TL, List.length_replicate]; omega)
      have TS := Lib.hid (take_bv hbt)
      have T1 := Lib.hid (bv_take d t)
      have T2 := Lib.hid (bv_take d (t + 1))
      clear TL hbt
      go_wp2_with (first
        | ((with_reducible refine' wpList_at_blk (.tmp 3) (.tmp 14) 99 rfl ?_ Tryd.underlying99 sz_u8 ?_ (t) ?_ ?_ ?_); exact rfl; exact rfl; (show (_ : Int) = _; omega); omega; simp only [Act.put, List.setIfInBounds_toArray, List.set_cons_succ, List.set_cons_zero]) | ((with_reducible refine' wpList_load_blk (.tmp 15) 5 rfl ?_ ld_u8 ?_ hkD (X.out) ?_); exact rfl; exact rfl; simp only [Act.put, List.setIfInBounds_toArray, List.set_cons_succ, List.set_cons_zero]) | ((with_reducible refine' wpList_at_blk (.tmp 4) (.tmp 13) 53 rfl ?_ Tryd.underlying53 sz_u8 ?_ (t) ?_ ?_ ?_); exact rfl; exact rfl; (show (_ : Int) = _; omega); omega; simp only [Act.put, List.setIfInBounds_toArray, List.set_cons_succ, List.set_cons_zero])
        | (((with_reducible refine' wpList_set_blk (u := .int .u8 ((gb d t).toNat : Int)) 5 (.tmp 17) (.tmp 16) rfl ?_ sz_u8 ?_ ?_ hkE (HLEN.out) ?_ ?_); exact rfl; exact rfl; exact rfl; exact rfl; intro w7 hk7 hO7 hz7; simp only [Act.put]); rw [SET.out, T1.out, TS.out, ← T2.out] at hk7))
      go_roundw
      case rel => exact ⟨t + 1, by omega, by go_num, hk7, hO7.blk hkD (by omega), hO7.blk hkR (by omega), hbl.trans (hO7.below (by omega) hbl.size)⟩
      case measure => simp [intOf]; omega
    · obtain rfl : t = 16 := by omega
      rw [bv_take, Nat.sub_self, List.replicate_zero, List.append_nil] at hkE
      go_wp2_with (first | ((with_reducible refine' wpList_loadall_blk (.tmp 4) 53 rfl ?_ Tryd.underlying53 sz_dig ?_ hkE ?_ ?_ ?_); exact rfl; exact rfl; exact D16.out; omega; simp only [Act.put, List.setIfInBounds_toArray, List.set_cons_succ, List.set_cons_zero]) | ((with_reducible refine' wpList_store_blk (cs := bv (d.take 16)) 53 (.tmp 2) (.tmp 18) rfl ?_ ?_ ?_ hkR sz_dig ?_ ?_ ?_ ?_); exact rfl; exact rfl; exact rfl; exact D16.out; exact List.length_replicate; exact bv_one _; intro w8 hk8 hO8 hz8; simp only [Act.put]))
      ((try simp only [Exit.inBlock, Exit.then]); refine bodyPost_ret (results_cell_row rfl _ _ _ _ _ _ _ rfl hk8 Tryd.underlying53 rfl (by rw [sz_dig]; simp [D16.out])) rfl ?_)
      exact ⟨by rw [HD.out], hbl.trans (hO8.below (by omega) hbl.size)⟩

set_option maxRecDepth 100000 in
theorem refof_any (tag : Int) (x : Value) (n : Nat) (l : List (List UInt8)) (w : World) (hT : TabR w) (hx : Rd w 1 x n (sv l)) (h0 : -9223372036854775808 ≤ tag) (h1 : tag ≤ 9223372036854775807) (hL : (inp tag l).length ≤ 70368744177664) :
    Calls Tryd.prog 63 #[.int .i64 tag, x] w fun e w' => e = .returned (.agg (bv (digOf tag l)).toArray) ∧ Below w.heap.size w w' := by
  have DL := Lib.hid (show (bv (digOf tag l)).length = 16 by rw [bv_length, digOf_len])
  have DE := Lib.hid (show (sha (inp tag l)).take 16 = digOf tag l from rfl)
  go_enter Tryd.func63, Tryd.ntmps63
  go_upto_region 1 with (((with_reducible refine' wpList_alloc_blk (cs := List.replicate 16 (.int .u8 0)) 53 rfl ?_ zr_dig ?_ ?_); exact rfl; exact zeros_u8 16; intro w1 hkR hN1 hz1; simp only [Act.put, List.setIfInBounds_toArray, List.set_cons_succ, List.set_cons_zero]))
  have hT1 := hT.below hN1
  have hx1 := hx.below hN1
  have hlR := hkR.lt
  go_wp2_with (first
    | ((go_at_call 86; (with_reducible refine (refinput_any tag x n l _ hx1 h0 h1 hL).mono ?_); rintro e w' ⟨v2, rfl, o2, hN2⟩); have hT2 := hT1.below hN2; have r2 := Rd.of_own o2; have hb2 := hN1.trans (hN2.mono hN1.size); have hkR2 := hkR.below hN2 hlR; have hlR2 := hkR2.lt)
    | ((go_at_call 85; (with_reducible refine (refshort_any v2 _ (inp tag l) _ hT2 r2 hL).mono ?_); rintro e w' ⟨rfl, hN3⟩); rw [DE.out]; have hkR3 := hkR2.below hN3 hlR2; have hb3 := hb2.trans (hN3.mono hb2.size))
    | ((with_reducible refine' wpList_store_blk (cs := bv (digOf tag l)) 53 (.tmp 4) (.tmp 8) rfl ?_ ?_ ?_ hkR3 sz_dig ?_ ?_ ?_ ?_); exact rfl; exact rfl; exact rfl; exact DL.out; exact List.length_replicate; exact bv_one _; intro w9 hk9 hO9 hz9; simp only [Act.put]))
  ((try simp only [Exit.inBlock, Exit.then]); refine bodyPost_ret (results_cell_row rfl _ _ _ _ _ _ _ rfl hk9 Tryd.underlying53 rfl (by rw [sz_dig]; simp [DL.out])) rfl ?_)
  exact ⟨rfl, hb3.trans (hO9.below (Nat.le_refl _) hb3.size)⟩
end Go.Proofs.YtdlhkhnoigbhjaaDoor.Wi
namespace Go.Proofs.YtdlhkhnoigbhjaaDoor.Wi
open Go Go.RowKit Pu Lb
set_option linter.unusedSimpArgs false
set_option linter.unusedVariables false
theorem inp_one (tag : Int) {s : List UInt8} (h : s.length ≤ 45000000) : (inp tag [s]).length ≤ 70368744177664 := by
  have h1 := encBytes_length s
  have h2 := enc_len_bd (n := s.length) (by omega) (by omega)
  unfold inp
  rw [List.length_cons, List.flatMap_cons, List.flatMap_nil, List.append_nil]
  omega
attribute [local irreducible] digOf
set_option maxRecDepth 100000 in
theorem treedig_any (t : Tree) (cs : List Value) (w : World) (hT : IsT w t cs) (hH : TabH w) (hi : tInts t) (hs : tsize t ≤ 1000000) :
    Calls Tryd.prog 38 #[.agg cs.toArray] w fun e w' => e = .returned (.agg (bv (digOf 1 [tenc t])).toArray) ∧ Below w.heap.size w w' := by
  have CL := Lib.hid hT.len
  have CO := Lib.hid hT.ones
  have htl := tenc_len t hi hs
  have IL := Lib.hid (inp_one 1 (s := tenc t) (by omega))
  have DL := Lib.hid (show (bv (digOf 1 [tenc t])).length = 16 by rw [bv_length, digOf_len])
  have DO := Lib.hid (bv_one (digOf 1 [tenc t]))
  obtain ⟨dg, hdg⟩ : ∃ dg, digOf 1 [tenc t] = dg := ⟨_, rfl⟩
  have HD := Lib.hid hdg
  have HC := Lib.hid (fun w' h => treeenc_any t cs w' h hi hs)
  obtain ⟨en, hen⟩ : ∃ en, tenc t = en := ⟨_, rfl⟩
  have HE := Lib.hid hen
  rw [hdg] at DL DO ⊢
  rw [hen] at IL HD HC
  clear hdg hen htl
  go_enter Tryd.func38, Tryd.ntmps38
  go_wp2_with (first
    | (((with_reducible refine' wpList_boxa (cs := cs) 25 (.tmp 0) rfl ?_ ?_ ?_); exact rfl; exact rfl; intro w1 kA hN1 hz1; simp only [Act.put, List.setIfInBounds_toArray, List.set_cons_succ, List.set_cons_zero]); have lA := kA.lt)
    | (((with_reducible refine' wpList_alloc_blk (cs := List.replicate 16 (.int .u8 0)) 53 rfl ?_ zr_dig ?_ ?_); exact rfl; exact zeros_u8 16; intro w2 k2 hN2 hz2; simp only [Act.put, List.setIfInBounds_toArray, List.set_cons_succ, List.set_cons_zero]); have kA2 := kA.below hN2 lA; have hb2 := hN1.trans (hN2.mono hN1.size); have hT2 := hT.below hb2; have l2 := k2.lt)
    | ((with_reducible refine' wpList_loadst_blk (.tmp 1) 25 rfl ?_ Tryd.underlying25 ?_ sz_node ?_ kA2 ?_ ?_ ?_); exact rfl; exact rfl; exact rfl; exact CL.out; decide; simp only [Act.put, List.setIfInBounds_toArray, List.set_cons_succ, List.set_cons_zero])
    | ((go_at_call 37; (with_reducible refine (HC.out _ hT2).mono ?_); rintro e w' ⟨v4, rfl, o4, hN4⟩); have r4 := Rd.of_own o4)
    | ((with_reducible refine' wpList_str_rd (.tmp 4) 49 9 rfl ?_ Tryd.underlying49 Tryd.underlying5 Tryd.underlying9 ?_ r4 ?_); exact rfl; exact rfl; simp only [Act.put, List.setIfInBounds_toArray, List.set_cons_succ, List.set_cons_zero])
    | (((with_reducible refine' wpList_build_ownH (u := .string ⟨en.toArray⟩) (.tmp 5) 81 rfl ?_ Tryd.underlying81 inf_str ?_ ?_ ?_); exact rfl; exact rfl; exact rfl; intro v6 w6 o6 hN6 hz6; simp only [Act.put, List.setIfInBounds_toArray, List.set_cons_succ, List.set_cons_zero]); have r6 : Rd w6 1 v6 1 (sv [en]) := Rd.of_own o6; have hb26 := hN4.trans (hN6.mono hN4.size); have k6 := k2.below hb26 l2; have hb6 := hb2.trans (hb26.mono hb2.size); have hH6 := hH.below hb6; have l6 := k6.lt)
    | ((go_at_call 45; (with_reducible refine (of_any 1 v6 _ [en] _ hH6 r6 (by decide) (by decide) IL.out).mono ?_); rintro e w' ⟨rfl, hN7⟩); rw [HD.out]; have k7 := k6.below hN7 l6; rw [hz1] at k7; have hb7 := hb6.trans (hN7.mono hb6.size))
    | ((with_reducible refine' wpList_store_blk (cs := bv dg) 53 (.tmp 2) (.tmp 7) rfl ?_ ?_ ?_ k7 sz_dig ?_ ?_ ?_ ?_); exact rfl; exact rfl; exact rfl; exact DL.out; exact List.length_replicate; exact DO.out; intro w9 k9 hO9 hz9; simp only [Act.put]))
  ((try simp only [Exit.inBlock, Exit.then]); refine bodyPost_ret (results_cell_row rfl _ _ _ _ _ _ _ rfl k9 Tryd.underlying53 rfl (by rw [sz_dig]; simp [DL.out])) rfl ?_)
  exact ⟨rfl, hb7.trans (hO9.below (by omega) hb7.size)⟩
set_option maxRecDepth 100000 in
theorem refdig_any (t : Tree) (cs : List Value) (w : World) (hT : IsT w t cs) (hH : TabR w) (hi : tInts t) (hs : tsize t ≤ 1000000) :
    Calls Tryd.prog 39 #[.agg cs.toArray] w fun e w' => e = .returned (.agg (bv (digOf 1 [tenc t])).toArray) ∧ Below w.heap.size w w' := by
  have CL := Lib.hid hT.len
  have CO := Lib.hid hT.ones
  have htl := tenc_len t hi hs
  have IL := Lib.hid (inp_one 1 (s := tenc t) (by omega))
  have DL := Lib.hid (show (bv (digOf 1 [tenc t])).length = 16 by rw [bv_length, digOf_len])
  have DO := Lib.hid (bv_one (digOf 1 [tenc t]))
  obtain ⟨dg, hdg⟩ : ∃ dg, digOf 1 [tenc t] = dg := ⟨_, rfl⟩
  have HD := Lib.hid hdg
  have HC := Lib.hid (fun w' h => refenc_any t cs w' h hi hs)
  obtain ⟨en, hen⟩ : ∃ en, tenc t = en := ⟨_, rfl⟩
  have HE := Lib.hid hen
  rw [hdg] at DL DO ⊢
  rw [hen] at IL HD HC
  clear hdg hen htl
  go_enter Tryd.func39, Tryd.ntmps39
  go_wp2_with (first
    | (((with_reducible refine' wpList_boxa (cs := cs) 25 (.tmp 0) rfl ?_ ?_ ?_); exact rfl; exact rfl; intro w1 kA hN1 hz1; simp only [Act.put, List.setIfInBounds_toArray, List.set_cons_succ, List.set_cons_zero]); have lA := kA.lt)
    | (((with_reducible refine' wpList_alloc_blk (cs := List.replicate 16 (.int .u8 0)) 53 rfl ?_ zr_dig ?_ ?_); exact rfl; exact zeros_u8 16; intro w2 k2 hN2 hz2; simp only [Act.put, List.setIfInBounds_toArray, List.set_cons_succ, List.set_cons_zero]); have kA2 := kA.below hN2 lA; have hb2 := hN1.trans (hN2.mono hN1.size); have hT2 := hT.below hb2; have l2 := k2.lt)
    | ((with_reducible refine' wpList_loadst_blk (.tmp 1) 25 rfl ?_ Tryd.underlying25 ?_ sz_node ?_ kA2 ?_ ?_ ?_); exact rfl; exact rfl; exact rfl; exact CL.out; decide; simp only [Act.put, List.setIfInBounds_toArray, List.set_cons_succ, List.set_cons_zero])
    | ((go_at_call 35; (with_reducible refine (HC.out _ hT2).mono ?_); rintro e w' ⟨v4, rfl, o4, hN4⟩); have r4 := Rd.of_own o4)
    | ((with_reducible refine' wpList_str_rd (.tmp 4) 49 9 rfl ?_ Tryd.underlying49 Tryd.underlying5 Tryd.underlying9 ?_ r4 ?_); exact rfl; exact rfl; simp only [Act.put, List.setIfInBounds_toArray, List.set_cons_succ, List.set_cons_zero])
    | (((with_reducible refine' wpList_build_ownH (u := .string ⟨en.toArray⟩) (.tmp 5) 81 rfl ?_ Tryd.underlying81 inf_str ?_ ?_ ?_); exact rfl; exact rfl; exact rfl; intro v6 w6 o6 hN6 hz6; simp only [Act.put, List.setIfInBounds_toArray, List.set_cons_succ, List.set_cons_zero]); have r6 : Rd w6 1 v6 1 (sv [en]) := Rd.of_own o6; have hb26 := hN4.trans (hN6.mono hN4.size); have k6 := k2.below hb26 l2; have hb6 := hb2.trans (hb26.mono hb2.size); have hH6 := hH.below hb6; have l6 := k6.lt)
    | ((go_at_call 63; (with_reducible refine (refof_any 1 v6 _ [en] _ hH6 r6 (by decide) (by decide) IL.out).mono ?_); rintro e w' ⟨rfl, hN7⟩); rw [HD.out]; have k7 := k6.below hN7 l6; rw [hz1] at k7; have hb7 := hb6.trans (hN7.mono hb6.size))
    | ((with_reducible refine' wpList_store_blk (cs := bv dg) 53 (.tmp 2) (.tmp 7) rfl ?_ ?_ ?_ k7 sz_dig ?_ ?_ ?_ ?_); exact rfl; exact rfl; exact rfl; exact DL.out; exact List.length_replicate; exact DO.out; intro w9 k9 hO9 hz9; simp only [Act.put]))
  ((try simp only [Exit.inBlock, Exit.then]); refine bodyPost_ret (results_cell_row rfl _ _ _ _ _ _ _ rfl k9 Tryd.underlying53 rfl (by rw [sz_dig]; simp [DL.out])) rfl ?_)
  exact ⟨rfl, hb7.trans (hO9.below (by omega) hb7.size)⟩
end Go.Proofs.YtdlhkhnoigbhjaaDoor.Wi
namespace Go.Proofs.YtdlhkhnoigbhjaaDoor.Pu
open Go

/-- what is known of a coding of elements -/
structure Codec {α : Type} (g : α → List UInt8) (f : List UInt8 → α × Nat × Nat) (ok : α → Prop) : Prop where
  rt : ∀ x t, ok x → f (g x ++ t) = (x, (g x).length, 0)
  can : ∀ b x used, f b = (x, used, 0) → ok x ∧ used ≤ b.length ∧ g x = b.take used
  part : ∀ x i, ok x → i < (g x).length → (f ((g x).take i)).2.2 = 3
  pos : ∀ x, 1 ≤ (g x).length

theorem take_take_drop {α : Type} {b : List α} {i j : Nat} (h : i ≤ j) : b.take i ++ (b.drop i).take (j - i) = b.take j := by
  rw [show j = i + (j - i) by omega, List.take_add, show i + (j - i) - i = j - i by omega]

section
variable {α : Type} {g : α → List UInt8} {f : List UInt8 → α × Nat × Nat} {ok : α → Prop}

theorem decN_rt (c : Codec g f ok) : ∀ (l : List α) (p t : List UInt8), (∀ x ∈ l, ok x) → decN f (p ++ (l.flatMap g ++ t)) l.length p.length = (l, p.length + (l.flatMap g).length, 0)
  | [], p, t, _ => by simp [decN]
  | x :: l, p, t, h => by
    have ih := decN_rt c l (p ++ g x) t (fun y hy => h y (List.mem_cons_of_mem _ hy))
    simp only [List.length_cons, decN]
    rw [List.drop_left, List.flatMap_cons, List.append_assoc, c.rt x _ (h x (List.mem_cons_self ..))]
    rw [List.length_append, List.append_assoc] at ih
    simp only [ih]
    simp; omega

theorem decN_can (c : Codec g f ok) {b : List UInt8} : ∀ (k at_ : Nat) (l : List α) (e : Nat), decN f b k at_ = (l, e, 0) → at_ ≤ b.length →
    l.length = k ∧ at_ ≤ e ∧ e ≤ b.length ∧ l.flatMap g = (b.drop at_).take (e - at_) ∧ ∀ x ∈ l, ok x
  | 0, at_, l, e, h, hat => by
    simp only [decN, Prod.mk.injEq, and_true] at h
    obtain ⟨rfl, rfl⟩ := h
    simpa using hat
  | k + 1, at_, l, e, h, hat => by
    simp only [decN] at h
    split at h
    · rename_i h1; simp only [Prod.mk.injEq] at h; exact absurd h.2.2 h1
    · split at h
      · rename_i h1; simp only [Prod.mk.injEq] at h; exact absurd h.2.2 h1
      · rename_i h1 h2
        simp only [Prod.mk.injEq, and_true] at h
        obtain ⟨rfl, rfl⟩ := h
        have e1 : f (b.drop at_) = ((f (b.drop at_)).1, (f (b.drop at_)).2.1, 0) := by
          rw [← Decidable.of_not_not h1]
        obtain ⟨o1, o2, o3⟩ := c.can _ _ _ e1
        rw [List.length_drop] at o2
        have e2 : decN f b k (at_ + (f (b.drop at_)).2.1) = ((decN f b k (at_ + (f (b.drop at_)).2.1)).1, (decN f b k (at_ + (f (b.drop at_)).2.1)).2.1, 0) := by
          rw [← Decidable.of_not_not h2]
        obtain ⟨i1, i2, i3, i4, i5⟩ := decN_can c _ _ _ _ e2 (by omega)
        generalize (decN f b k (at_ + (f (b.drop at_)).2.1)).2.1 = E at i2 i3 i4
        generalize (decN f b k (at_ + (f (b.drop at_)).2.1)).1 = L at i1 i4 i5
        refine ⟨by simp [i1], by omega, i3, ?_, ?_⟩
        · rw [List.flatMap_cons, i4, o3]
          generalize (f (b.drop at_)).2.1 = u at o2 i2 ⊢
          rw [← take_take_drop (b := b.drop at_) (i := u) (j := E - at_) (by omega), List.drop_drop, show E - at_ - u = E - (at_ + u) by omega]
        · intro y hy
          rcases List.mem_cons.1 hy with rfl | hy
          · exact o1
          · exact i5 y hy

theorem decN_part (c : Codec g f ok) : ∀ (l : List α) (p : List UInt8) (i : Nat), (∀ x ∈ l, ok x) → p.length ≤ i → i < p.length + (l.flatMap g).length →
    (decN f ((p ++ l.flatMap g).take i) l.length p.length).2.2 = 3
  | [], p, i, _, h1, h2 => by simp at h2; omega
  | x :: l, p, i, h, h1, h2 => by
    simp only [List.length_cons, decN]
    have hd : ((p ++ (x :: l).flatMap g).take i).drop p.length = (g x ++ l.flatMap g).take (i - p.length) := by
      rw [List.drop_take, List.drop_left, List.flatMap_cons]
    rw [hd]
    by_cases hi : i - p.length < (g x).length
    · rw [List.take_append_of_le_length (by omega)]
      have := c.part x _ (h x (List.mem_cons_self ..)) hi
      simp only [this]; simp
    · rw [List.flatMap_cons, List.length_append] at h2
      have ih := decN_part c l (p ++ g x) i (fun y hy => h y (List.mem_cons_of_mem _ hy)) (by rw [List.length_append]; omega) (by rw [List.length_append]; omega)
      rw [List.take_append, List.take_of_length_le (by omega), c.rt x _ (h x (List.mem_cons_self ..))]
      rw [List.length_append, List.append_assoc] at ih
      rw [List.flatMap_cons]
      simp only [ih]; simp

theorem flat_ge (sz : Nat) : ∀ (l : List α), (∀ x ∈ l, sz ≤ (g x).length) → l.length * sz ≤ (l.flatMap g).length
  | [], _ => by simp
  | x :: l, h => by
    have ih := flat_ge sz l (fun y hy => h y (List.mem_cons_of_mem _ hy))
    have := h x (List.mem_cons_self ..)
    rw [List.flatMap_cons, List.length_append, List.length_cons, Nat.add_mul]; omega
end

theorem cnt_enc {n sz : Nat} (t : List UInt8) (hn : (n : Int) ≤ 9223372036854775807) (hsz : 0 < sz) (h : n * sz ≤ t.length) : cnt (enc n ++ t) sz = (n, (enc n).length, 0) := by
  unfold cnt
  simp only [get_enc (n : Int) t (by omega) hn]
  rw [if_neg (by simp), if_neg (by omega), if_neg]
  · simp
  · rw [List.length_append, Nat.add_sub_cancel_left, Nat.not_lt, Int.toNat_natCast]
    exact (Nat.le_div_iff_mul_le hsz).2 h

/-- the count of a part: too short, or it is read and less follows than it says -/
theorem cnt_part {n sz : Nat} (r : List UInt8) (i : Nat) (hn : (n : Int) ≤ 9223372036854775807) (hsz : 0 < sz) : cnt ((enc n ++ r).take i) sz = (0, 0, 3) ∨
    ((enc n).length ≤ i ∧ n * sz ≤ (r.take (i - (enc n).length)).length ∧ cnt ((enc n ++ r).take i) sz = (n, (enc n).length, 0)) := by
  by_cases hi : i < (enc n).length
  · left
    rw [List.take_append_of_le_length (by omega)]
    unfold cnt
    simp only [get_part (n : Int) i (by omega) hn hi]; simp
  · rw [List.take_append, List.take_of_length_le (by omega)]
    by_cases h : n * sz ≤ (r.take (i - (enc n).length)).length
    · exact .inr ⟨by omega, h, cnt_enc _ hn hsz h⟩
    · left
      unfold cnt
      simp only [get_enc (n : Int) _ (by omega : (-9223372036854775808 : Int) ≤ n) hn]
      rw [if_neg (by simp), if_neg (by omega), if_pos]
      rw [List.length_append, Nat.add_sub_cancel_left, Int.toNat_natCast, Nat.div_lt_iff_lt_mul hsz]; omega

theorem codec_int : Codec enc getInt (fun n => -9223372036854775808 ≤ n ∧ n ≤ 9223372036854775807) where
  rt x t h := get_enc x t h.1 h.2
  can b x used h := by obtain ⟨a1, a2, a3, a4, _⟩ := enc_get h; exact ⟨⟨a1, a2⟩, a3, a4⟩
  part x i h hi := by rw [get_part x i h.1 h.2 hi]
  pos x := by rw [enc_length]; omega

theorem codec_bytes : Codec encBytes getBytes (fun s => (s.length : Int) ≤ 9223372036854775807) where
  rt x t h := by
    unfold encBytes getBytes
    rw [List.append_assoc, cnt_enc (sz := 1) (x ++ t) h (by omega) (by simp)]
    simp
  can b x used h := by
    unfold getBytes at h
    simp only at h
    split at h
    · rename_i h1; simp only [Prod.mk.injEq] at h; exact absurd h.2.2 h1
    · rename_i h1
      simp only [Prod.mk.injEq, and_true] at h
      obtain ⟨rfl, rfl⟩ := h
      have e1 : cnt b 1 = ((cnt b 1).1, (cnt b 1).2.1, 0) := by rw [← Decidable.of_not_not h1]
      obtain ⟨a1, a2, a3, _, _⟩ := cnt_ok e1
      obtain ⟨_, a5, _, a6, _⟩ := enc_get a1
      generalize (cnt b 1).1 = n at a1 a3 a5 a6 ⊢
      generalize (cnt b 1).2.1 = at_ at a1 a2 a3 a6 ⊢
      have hl : ((b.drop at_).take n).length = n := by rw [List.length_take, List.length_drop]; omega
      refine ⟨by rw [hl]; exact a5, by omega, ?_⟩
      unfold encBytes
      rw [hl, a6, ← take_take_drop (b := b) (i := at_) (j := at_ + n) (by omega), Nat.add_sub_cancel_left]
  part x i h hi := by
    unfold getBytes
    unfold encBytes at hi ⊢
    rw [List.length_append] at hi
    rcases cnt_part (sz := 1) x i h (by omega) with h1 | ⟨h1, h2, _⟩
    · rw [h1]; simp
    · rw [List.length_take] at h2; omega
  pos x := by unfold encBytes; rw [List.length_append, enc_length]; omega

/-! ### lists -/
theorem list_rt {α : Type} {g : α → List UInt8} {f : List UInt8 → α × Nat × Nat} {ok : α → Prop} (c : Codec g f ok) (l : List α) (t : List UInt8) (hl : (l.length : Int) ≤ 9223372036854775807) (h : ∀ x ∈ l, ok x) :
    (let x := cnt (encList g l ++ t) 1; if x.2.2 ≠ 0 then ([], 0, x.2.2) else decN f (encList g l ++ t) x.1 x.2.1) = (l, (encList g l).length, 0) := by
  have hg := flat_ge (g := g) 1 l (fun x _ => c.pos x)
  unfold encList
  rw [List.append_assoc, cnt_enc (sz := 1) _ hl (by omega) (by rw [List.length_append]; omega)]
  simp only [ne_eq, not_true_eq_false, if_false]
  rw [decN_rt c l _ t h, List.length_append]

theorem list_can {α : Type} {g : α → List UInt8} {f : List UInt8 → α × Nat × Nat} {ok : α → Prop} (c : Codec g f ok) {b : List UInt8} {l : List α} {used : Nat}
    (h : (let x := cnt b 1; if x.2.2 ≠ 0 then ([], 0, x.2.2) else decN f b x.1 x.2.1) = (l, used, 0)) : (∀ x ∈ l, ok x) ∧ used ≤ b.length ∧ encList g l = b.take used := by
  simp only at h
  split at h
  · rename_i h1; simp only [Prod.mk.injEq] at h; exact absurd h.2.2 h1
  · rename_i h1
    have e1 : cnt b 1 = ((cnt b 1).1, (cnt b 1).2.1, 0) := by rw [← Decidable.of_not_not h1]
    obtain ⟨a1, a2, a3, _, _⟩ := cnt_ok e1
    obtain ⟨_, a5, _, a6, _⟩ := enc_get a1
    obtain ⟨d1, d2, d3, d4, d5⟩ := decN_can c _ _ _ _ h a2
    refine ⟨d5, d3, ?_⟩
    unfold encList
    rw [d1, d4, a6, take_take_drop d2]

theorem list_part {α : Type} {g : α → List UInt8} {f : List UInt8 → α × Nat × Nat} {ok : α → Prop} (c : Codec g f ok) (l : List α) (i : Nat) (hl : (l.length : Int) ≤ 9223372036854775807) (h : ∀ x ∈ l, ok x) (hi : i < (encList g l).length) :
    (let x := cnt ((encList g l).take i) 1; if x.2.2 ≠ 0 then ([], 0, x.2.2) else decN f ((encList g l).take i) x.1 x.2.1).2.2 = 3 := by
  unfold encList at hi ⊢
  rw [List.length_append] at hi
  rcases cnt_part (sz := 1) (l.flatMap g) i hl (by omega) with h1 | ⟨h1, _, h3⟩
  · rw [h1]; simp
  · rw [h3]
    simp only [ne_eq, not_true_eq_false, if_false]
    exact decN_part c l _ i h h1 (by omega)

/-! ### digests -/
theorem decN_dig : ∀ (l : List (List UInt8)) (p t : List UInt8), (∀ x ∈ l, x.length = 16) → decN getDig (p ++ (l.flatten ++ t)) l.length p.length = (l, p.length + l.flatten.length, 0)
  | [], p, t, _ => by simp [decN]
  | x :: l, p, t, h => by
    have ih := decN_dig l (p ++ x) t (fun y hy => h y (List.mem_cons_of_mem _ hy))
    have hx := h x (List.mem_cons_self ..)
    simp only [List.length_cons, decN]
    rw [List.drop_left, List.flatten_cons, List.append_assoc]
    simp only [getDig]
    rw [List.take_append_of_le_length (by omega), List.take_of_length_le (by omega)]
    rw [List.length_append, List.append_assoc, hx] at ih
    simp only [ih]
    simp [hx]; omega

theorem decN_dig_can {b : List UInt8} : ∀ (k at_ : Nat), at_ + k * 16 ≤ b.length → ∃ l, decN getDig b k at_ = (l, at_ + k * 16, 0) ∧ l.length = k ∧ (∀ x ∈ l, x.length = 16) ∧ l.flatten = (b.drop at_).take (k * 16)
  | 0, at_, h => ⟨[], by simp [decN], rfl, by simp, by simp⟩
  | k + 1, at_, h => by
    obtain ⟨l, h1, h2, h3, h4⟩ := decN_dig_can (b := b) k (at_ + 16) (by omega)
    refine ⟨(b.drop at_).take 16 :: l, ?_, by simp [h2], ?_, ?_⟩
    · simp only [decN, getDig, h1]
      simp; omega
    · intro y hy
      rcases List.mem_cons.1 hy with rfl | hy
      · rw [List.length_take, List.length_drop]; omega
      · exact h3 y hy
    · rw [List.flatten_cons, h4, ← List.drop_drop, show (k + 1) * 16 = 16 + k * 16 by omega, List.take_add]

theorem flat_id (l : List (List UInt8)) : l.flatMap id = l.flatten := by simp [List.flatMap]
theorem dig_flat : ∀ {l : List (List UInt8)}, (∀ x ∈ l, x.length = 16) → l.flatten.length = l.length * 16
  | [], _ => rfl
  | x :: l, h => by
    rw [List.flatten_cons, List.length_append, h x (List.mem_cons_self ..), dig_flat (fun y hy => h y (List.mem_cons_of_mem _ hy)), List.length_cons]; omega

theorem getInts_rt (l : List Int) (t : List UInt8) (hl : (l.length : Int) ≤ 9223372036854775807) (h : ∀ x ∈ l, -9223372036854775808 ≤ x ∧ x ≤ 9223372036854775807) : getInts (encList enc l ++ t) = (l, (encList enc l).length, 0) :=
  list_rt codec_int l t hl h
theorem getStrings_rt (l : List (List UInt8)) (t : List UInt8) (hl : (l.length : Int) ≤ 9223372036854775807) (h : ∀ x ∈ l, (x.length : Int) ≤ 9223372036854775807) : getStrings (encList encBytes l ++ t) = (l, (encList encBytes l).length, 0) :=
  list_rt codec_bytes l t hl h
theorem getDigests_rt (l : List (List UInt8)) (t : List UInt8) (hl : (l.length : Int) ≤ 9223372036854775807) (h : ∀ x ∈ l, x.length = 16) : getDigests (encList id l ++ t) = (l, (encList id l).length, 0) := by
  unfold getDigests encList
  have := dig_flat h
  rw [flat_id, List.append_assoc, cnt_enc (sz := 16) _ hl (by omega) (by rw [List.length_append]; omega)]
  simp only [ne_eq, not_true_eq_false, if_false]
  rw [decN_dig l _ t h, List.length_append]
theorem getBytes_rt (s t : List UInt8) (h : (s.length : Int) ≤ 9223372036854775807) : getBytes (encBytes s ++ t) = (s, (encBytes s).length, 0) := codec_bytes.rt s t h

theorem getInts_can {b : List UInt8} {l : List Int} {used : Nat} (h : getInts b = (l, used, 0)) : (∀ x ∈ l, -9223372036854775808 ≤ x ∧ x ≤ 9223372036854775807) ∧ used ≤ b.length ∧ encList enc l = b.take used := list_can codec_int h
theorem getStrings_can {b : List UInt8} {l : List (List UInt8)} {used : Nat} (h : getStrings b = (l, used, 0)) : (∀ x ∈ l, (x.length : Int) ≤ 9223372036854775807) ∧ used ≤ b.length ∧ encList encBytes l = b.take used := list_can codec_bytes h
theorem getBytes_can {b s : List UInt8} {used : Nat} (h : getBytes b = (s, used, 0)) : (s.length : Int) ≤ 9223372036854775807 ∧ used ≤ b.length ∧ encBytes s = b.take used := codec_bytes.can b s used h

theorem getDigests_ok (b : List UInt8) : ∀ x ∈ (getDigests b).1, x.length = 16 := by
  unfold getDigests
  simp only
  split
  · simp
  · rename_i h1
    have e1 : cnt b 16 = ((cnt b 16).1, (cnt b 16).2.1, 0) := by rw [← Decidable.of_not_not h1]
    obtain ⟨_, a2, a3, _, _⟩ := cnt_ok e1
    obtain ⟨l, h1, h2, h3, h4⟩ := decN_dig_can (b := b) (cnt b 16).1 (cnt b 16).2.1 (by omega)
    rw [h1]; exact h3
theorem getDigests_can {b : List UInt8} {l : List (List UInt8)} {used : Nat} (h : getDigests b = (l, used, 0)) : (∀ x ∈ l, x.length = 16) ∧ used ≤ b.length ∧ encList id l = b.take used := by
  have hok := getDigests_ok b
  rw [h] at hok
  refine ⟨hok, ?_⟩
  unfold getDigests at h
  simp only at h
  split at h
  · rename_i h1; simp only [Prod.mk.injEq] at h; exact absurd h.2.2 h1
  · rename_i h1
    have e1 : cnt b 16 = ((cnt b 16).1, (cnt b 16).2.1, 0) := by rw [← Decidable.of_not_not h1]
    obtain ⟨a1, a2, a3, _, _⟩ := cnt_ok e1
    obtain ⟨_, a5, _, a6, _⟩ := enc_get a1
    obtain ⟨l', g1, g2, g3, g4⟩ := decN_dig_can (b := b) (cnt b 16).1 (cnt b 16).2.1 (by omega)
    rw [g1] at h
    simp only [Prod.mk.injEq, and_true] at h
    obtain ⟨rfl, rfl⟩ := h
    refine ⟨by omega, ?_⟩
    unfold encList
    rw [flat_id, g2, g4, a6]
    generalize (cnt b 16).2.1 = u
    generalize (cnt b 16).1 * 16 = m
    rw [← take_take_drop (b := b) (i := u) (j := u + m) (by omega), Nat.add_sub_cancel_left]

theorem getInts_part (l : List Int) (i : Nat) (hl : (l.length : Int) ≤ 9223372036854775807) (h : ∀ x ∈ l, -9223372036854775808 ≤ x ∧ x ≤ 9223372036854775807) (hi : i < (encList enc l).length) : (getInts ((encList enc l).take i)).2.2 = 3 := list_part codec_int l i hl h hi
theorem getStrings_part (l : List (List UInt8)) (i : Nat) (hl : (l.length : Int) ≤ 9223372036854775807) (h : ∀ x ∈ l, (x.length : Int) ≤ 9223372036854775807) (hi : i < (encList encBytes l).length) : (getStrings ((encList encBytes l).take i)).2.2 = 3 := list_part codec_bytes l i hl h hi
theorem getBytes_part (s : List UInt8) (i : Nat) (h : (s.length : Int) ≤ 9223372036854775807) (hi : i < (encBytes s).length) : (getBytes ((encBytes s).take i)).2.2 = 3 := codec_bytes.part s i h hi
theorem getDigests_part (l : List (List UInt8)) (i : Nat) (hl : (l.length : Int) ≤ 9223372036854775807) (h : ∀ x ∈ l, x.length = 16) (hi : i < (encList id l).length) : (getDigests ((encList id l).take i)).2.2 = 3 := by
  unfold encList at hi ⊢
  rw [flat_id] at hi ⊢
  rw [List.length_append] at hi
  unfold getDigests
  have := dig_flat h
  rcases cnt_part (sz := 16) l.flatten i hl (by omega) with h1 | ⟨h1, h2, _⟩
  · rw [h1]; simp
  · rw [List.length_take] at h2; omega
theorem encs_le : ∀ {l : List Int}, (∀ x ∈ l, -9223372036854775808 ≤ x ∧ x ≤ 9223372036854775807) → (l.flatMap enc).length ≤ 9 * l.length
  | [], _ => by simp
  | x :: l, h => by
    have ih := encs_le (l := l) (fun y hy => h y (List.mem_cons_of_mem _ hy))
    obtain ⟨h0, h1⟩ := h x (List.mem_cons_self ..)
    have := nd_mag_le h0 h1
    rw [List.flatMap_cons, List.length_append, enc_length, List.length_cons]; omega
theorem enc_nat_le {n : Nat} (h : n ≤ 9223372036854775807) : (enc n).length ≤ 9 := by
  have := nd_mag_le (n := (n : Int)) (by omega) (by omega)
  rw [enc_length]; omega
theorem encInts_le {l : List Int} (h : ∀ x ∈ l, -9223372036854775808 ≤ x ∧ x ≤ 9223372036854775807) (hl : l.length ≤ 9223372036854775807) : (encList enc l).length ≤ 9 + 9 * l.length := by
  unfold encList
  have := encs_le h
  have := enc_nat_le hl
  rw [List.length_append]; omega
theorem encBytes_le {s : List UInt8} (hl : s.length ≤ 9223372036854775807) : (encBytes s).length ≤ 9 + s.length := by
  unfold encBytes
  have := enc_nat_le hl
  rw [List.length_append]; omega
theorem encDigs_le {l : List (List UInt8)} (h : ∀ x ∈ l, x.length = 16) (hl : l.length ≤ 9223372036854775807) : (encList id l).length ≤ 9 + 16 * l.length := by
  unfold encList
  have := dig_flat h
  have := enc_nat_le hl
  rw [flat_id, List.length_append]; omega
end Go.Proofs.YtdlhkhnoigbhjaaDoor.Pu
namespace Go.Proofs.YtdlhkhnoigbhjaaDoor.Pu
/-- i trees, one behind the other, from place a0 on -/
def rdTs (rd : List UInt8 → Option (Tree × Nat)) (b : List UInt8) (a0 : Nat) : Nat → Option (List Tree × Nat)
  | 0 => some ([], a0)
  | i + 1 => match rdTs rd b a0 i with
    | none => none
    | some (ts, a) => match rd (b.drop a) with
      | none => none
      | some (t, u) => some (ts ++ [t], a + u)
def rdT : Nat → List UInt8 → Option (Tree × Nat)
  | 0, _ => none
  | d + 1, b => match getInts b with
    | ([k, n, m, c], a0, 0) => if c < 0 then none else (rdTs (rdT d) b a0 c.toNat).map fun r => (.mk k n m r.1, r.2)
    | _ => none
theorem rdTs_some {rd : List UInt8 → Option (Tree × Nat)} {b : List UInt8} {a0 i : Nat} {ts : List Tree} {a : Nat} (h : rdTs rd b a0 i = some (ts, a)) {t : Tree} {u : Nat} (ht : rd (b.drop a) = some (t, u)) : rdTs rd b a0 (i + 1) = some (ts ++ [t], a + u) := by
  rw [rdTs, h]; simp only; rw [ht]
theorem rdTs_fail {rd : List UInt8 → Option (Tree × Nat)} {b : List UInt8} {a0 i : Nat} {ts : List Tree} {a : Nat} (h : rdTs rd b a0 i = some (ts, a)) (ht : rd (b.drop a) = none) : rdTs rd b a0 (i + 1) = none := by
  rw [rdTs, h]; simp only; rw [ht]
theorem rdTs_none {rd : List UInt8 → Option (Tree × Nat)} {b : List UInt8} {a0 i : Nat} (h : rdTs rd b a0 i = none) : ∀ j, i ≤ j → rdTs rd b a0 j = none := by
  intro j hj
  obtain ⟨k, rfl⟩ : ∃ k, j = i + k := ⟨j - i, by omega⟩
  induction k with
  | zero => exact h
  | succ k ih => rw [← Nat.add_assoc, rdTs, ih (by omega)]
theorem rdTs_inv {rd : List UInt8 → Option (Tree × Nat)} {b : List UInt8} {a0 i : Nat} {ts : List Tree} {a : Nat} (h : rdTs rd b a0 (i + 1) = some (ts, a)) : ∃ ts0 a1 t u, rdTs rd b a0 i = some (ts0, a1) ∧ rd (b.drop a1) = some (t, u) ∧ ts = ts0 ++ [t] ∧ a = a1 + u := by
  rw [rdTs] at h
  split at h
  · cases h
  · rename_i ts0 a1 h0
    split at h
    · cases h
    · rename_i t u h1
      simp only [Option.some.injEq, Prod.mk.injEq] at h
      exact ⟨ts0, a1, t, u, h0, h1, h.1.symm, h.2.symm⟩
theorem tdepths_snoc_le {ts : List Tree} {t : Tree} {d : Nat} (h1 : tdepths ts ≤ d) (h2 : tdepth t ≤ d) : tdepths (ts ++ [t]) ≤ d := by rw [tdepths_snoc]; omega
theorem tsInts_snoc {ts : List Tree} {t : Tree} : tsInts ts → tInts t → tsInts (ts ++ [t]) := by
  induction ts with
  | nil => intro _ h; rw [List.nil_append, tsInts, tsInts]; exact ⟨h, trivial⟩
  | cons u ts ih => intro h1 h2; rw [tsInts] at h1; rw [List.cons_append, tsInts]; exact ⟨h1.1, ih h1.2 h2⟩
theorem tencs_one (t : Tree) : tencs [t] = tenc t := by rw [tencs, tencs, List.append_nil]
/-- what a reader of trees promises -/
def RdOk (rd : List UInt8 → Option (Tree × Nat)) (d : Nat) : Prop := ∀ b t u, rd b = some (t, u) → tenc t = b.take u ∧ tInts t ∧ tdepth t ≤ d ∧ tsize t ≤ u ∧ 1 ≤ u ∧ u ≤ b.length
theorem rdTs_can {rd : List UInt8 → Option (Tree × Nat)} {d : Nat} (hrd : RdOk rd d) {b : List UInt8} {a0 : Nat} (ha : a0 ≤ b.length) : ∀ {i : Nat} {ts : List Tree} {a : Nat}, rdTs rd b a0 i = some (ts, a) →
    tencs ts = (b.drop a0).take (a - a0) ∧ tsInts ts ∧ tdepths ts ≤ d ∧ tsizes ts + a0 ≤ a ∧ a0 + i ≤ a ∧ a ≤ b.length ∧ ts.length = i := by
  intro i
  induction i with
  | zero =>
    intro ts a h
    rw [rdTs] at h
    simp only [Option.some.injEq, Prod.mk.injEq] at h
    obtain ⟨rfl, rfl⟩ := h
    refine ⟨by rw [tencs]; simp, by rw [tsInts]; trivial, by rw [tdepths]; omega, by rw [tsizes]; omega, by omega, ha, rfl⟩
  | succ i ih =>
    intro ts a h
    obtain ⟨ts0, a1, t, u, h0, h1, rfl, rfl⟩ := rdTs_inv h
    obtain ⟨e1, e2, e3, e4, e5, e6, e7⟩ := ih h0
    obtain ⟨f1, f2, f3, f4, f5, f6⟩ := hrd _ _ _ h1
    rw [List.length_drop] at f6
    refine ⟨?_, tsInts_snoc e2 f2, tdepths_snoc_le e3 f3, by rw [tsizes_snoc]; omega, by omega, by omega, by rw [List.length_append, e7]; rfl⟩
    rw [tencs_app, tencs_one, e1, f1]
    rw [show a1 + u - a0 = (a1 - a0) + u by omega, List.take_add, List.drop_drop, show a0 + (a1 - a0) = a1 by omega]
theorem rdT_succ {d : Nat} {b : List UInt8} {k n m c : Int} {a0 : Nat} (h : getInts b = ([k, n, m, c], a0, 0)) (hc : 0 ≤ c) : rdT (d + 1) b = (rdTs (rdT d) b a0 c.toNat).map fun r => (.mk k n m r.1, r.2) := by
  rw [rdT, h]; simp only; rw [if_neg (by omega)]
theorem rdT_inv {d : Nat} {b : List UInt8} {t : Tree} {u : Nat} (h : rdT (d + 1) b = some (t, u)) : ∃ k n m c a0 ts, getInts b = ([k, n, m, c], a0, 0) ∧ 0 ≤ c ∧ rdTs (rdT d) b a0 c.toNat = some (ts, u) ∧ t = .mk k n m ts := by
  rw [rdT] at h
  split at h
  · rename_i k n m c a0 hg
    split at h
    · cases h
    · obtain ⟨r, hr, he⟩ := Option.map_eq_some_iff.1 h
      simp only [Prod.mk.injEq] at he
      obtain ⟨rfl, rfl⟩ := he
      exact ⟨k, n, m, c, a0, r.1, hg, by omega, hr, rfl⟩
  · cases h
theorem tdepth_mem {t : Tree} : ∀ {ts : List Tree}, t ∈ ts → tdepth t ≤ tdepths ts
  | _ :: ts, h => by
    rw [tdepths]
    rcases List.mem_cons.1 h with rfl | h
    · omega
    · have := tdepth_mem h; omega
theorem encList_pos1 (l : List Int) : 1 ≤ (encList enc l).length := by
  unfold encList; rw [List.length_append, enc_length]; omega
theorem rdT_can : ∀ d, RdOk (rdT d) d
  | 0 => fun b t u h => by rw [rdT] at h; cases h
  | d + 1 => fun b t u h => by
    obtain ⟨k, n, m, c, a0, ts, hg, hc, hr, rfl⟩ := rdT_inv h
    obtain ⟨hi, hu, he⟩ := getInts_can hg
    obtain ⟨e1, e2, e3, e4, e5, e6, e7⟩ := rdTs_can (rdT_can d) hu hr
    have hp := encList_pos1 [k, n, m, c]
    rw [he, List.length_take] at hp
    have hlen : ((ts.length : Nat) : Int) = c := by rw [e7]; omega
    refine ⟨?_, ?_, by rw [tdepth]; omega, by rw [tsize]; omega, by omega, e6⟩
    · rw [tenc, hlen, he, e1, show u = a0 + (u - a0) by omega, List.take_add]; simp
    · rw [tInts]
      exact ⟨hi k (by simp), hi n (by simp), hi m (by simp), e2⟩
theorem rdT_none_e {d : Nat} {b : List UInt8} (h : (getInts b).2.2 ≠ 0) : rdT d b = none := by
  cases hr : rdT d b with
  | none => rfl
  | some r =>
    cases d with
    | zero => rw [rdT] at hr; cases hr
    | succ d => obtain ⟨k, n, m, c, a0, ts, hg, _⟩ := rdT_inv (t := r.1) (u := r.2) hr; rw [hg] at h; exact absurd rfl h
theorem rdT_none_l {d : Nat} {b : List UInt8} (h : (getInts b).1.length ≠ 4) : rdT d b = none := by
  cases hr : rdT d b with
  | none => rfl
  | some r =>
    cases d with
    | zero => rw [rdT] at hr; cases hr
    | succ d => obtain ⟨k, n, m, c, a0, ts, hg, _⟩ := rdT_inv (t := r.1) (u := r.2) hr; rw [hg] at h; exact absurd rfl h
theorem rdT_none_c {d : Nat} {b : List UInt8} {k n m c : Int} {a0 : Nat} (h : getInts b = ([k, n, m, c], a0, 0)) (hc : c < 0 ∨ (b.length : Int) < c) : rdT d b = none := by
  cases hr : rdT d b with
  | none => rfl
  | some r =>
    cases d with
    | zero => rw [rdT] at hr; cases hr
    | succ d =>
      obtain ⟨k2, n2, m2, c2, a2, ts, hg, h0, hrs, _⟩ := rdT_inv (t := r.1) (u := r.2) hr
      rw [h] at hg
      simp only [Prod.mk.injEq, List.cons.injEq, and_true] at hg
      obtain ⟨⟨rfl, rfl, rfl, rfl⟩, rfl⟩ := hg
      obtain ⟨_, hu, _⟩ := getInts_can h
      obtain ⟨_, _, _, _, e5, e6, _⟩ := rdTs_can (rdT_can d) hu hrs
      omega
theorem drop_at {hd tl : List UInt8} {n : Nat} (h : hd.length = n) : (hd ++ tl).drop n = tl := by subst h; simp
/-- what was written is read -/
theorem rdT_enc : ∀ (t : Tree) (d : Nat) (rest : List UInt8), tInts t → tdepth t ≤ d → tsize t ≤ 1000000 → rdT d (tenc t ++ rest) = some (t, (tenc t).length) := by
  refine Tree.ind fun k n m ts ih d rest hi hd hs => ?_
  rw [tInts] at hi
  rw [tdepth] at hd
  rw [tsize] at hs
  obtain ⟨d, rfl⟩ : ∃ d', d = d' + 1 := ⟨d - 1, by omega⟩
  have hl := tsizes_len ts
  have hrt := getInts_rt [k, n, m, (ts.length : Int)] (tencs ts ++ rest) (by simp) (by
    intro x hx
    simp only [List.mem_cons, List.not_mem_nil, or_false] at hx
    rcases hx with rfl | rfl | rfl | rfl
    · exact hi.1
    · exact hi.2.1
    · exact hi.2.2.1
    · omega)
  rw [tenc, List.append_assoc]
  obtain ⟨hh, hhh⟩ : ∃ hh, encList enc [k, n, m, (ts.length : Int)] = hh := ⟨_, rfl⟩
  rw [hhh] at hrt ⊢
  rw [rdT_succ hrt (by omega), Int.toNat_natCast]
  have key : ∀ i, i ≤ ts.length → rdTs (rdT d) (hh ++ (tencs ts ++ rest)) hh.length i = some (ts.take i, hh.length + (tencs (ts.take i)).length) := by
    intro i
    induction i with
    | zero => intro _; rw [rdTs, List.take_zero, tencs]; rfl
    | succ i ihi =>
      intro hle
      obtain ⟨t, ht⟩ : ∃ t, ts[i]? = some t := ⟨_, List.getElem?_eq_getElem (by omega)⟩
      have hmem := List.mem_of_getElem? ht
      have hdi := (List.getElem?_eq_some_iff.1 ht)
      have h1 : (hh ++ (tencs ts ++ rest)).drop (hh.length + (tencs (ts.take i)).length) = tenc t ++ (tencs (ts.drop (i + 1)) ++ rest) := by
        rw [← List.drop_drop, drop_at rfl]
        have e : tencs ts = tencs (ts.take i) ++ (tenc t ++ tencs (ts.drop (i + 1))) := by
          have h2 : ts = ts.take i ++ (t :: ts.drop (i + 1)) := by
            rw [← hdi.2, List.getElem_cons_drop, List.take_append_drop]
          have h3 := congrArg tencs h2
          rw [tencs_app, tencs] at h3
          exact h3
        rw [e, List.append_assoc, drop_at rfl, List.append_assoc]
      have h2 := ih t hmem d (tencs (ts.drop (i + 1)) ++ rest) (tsInts.mem hi.2.2.2 t hmem) (by have := tdepth_mem hmem; omega) (by have := tsize_mem hmem; omega)
      rw [rdTs_some (ihi (by omega)) (h1 ▸ h2), List.take_add_one, ht]
      simp only [Option.toList_some]
      rw [tencs_app, tencs_one, List.length_append, Nat.add_assoc]
  rw [key ts.length (Nat.le_refl _), List.take_length]
  simp [List.length_append]
/-- no beginning of what was written is read -/
theorem rdT_part {t : Tree} {d k : Nat} (hi : tInts t) (hs : tsize t ≤ 20000) (hk : k < (tenc t).length) : rdT d ((tenc t).take k) = none := by
  cases hr : rdT d ((tenc t).take k) with
  | none => rfl
  | some r =>
    obtain ⟨e1, e2, e3, e4, e5, e6⟩ := rdT_can d _ r.1 r.2 hr
    rw [List.length_take] at e6
    have hb := tenc_len t hi (by omega)
    rw [List.take_take, Nat.min_eq_left (by omega)] at e1
    have h1 := rdT_enc r.1 (max d (tdepth t)) ((tenc t).drop r.2) e2 (by omega) (by omega)
    rw [e1, List.take_append_drop, List.length_take, Nat.min_eq_left (by omega)] at h1
    have h2 := rdT_enc t (max d (tdepth t)) [] hi (by omega) (by omega)
    rw [List.append_nil, h1] at h2
    simp only [Option.some.injEq, Prod.mk.injEq] at h2
    omega
theorem tenc_inj {x y : Tree} (hx : tInts x) (hy : tInts y) (zx : tsize x ≤ 1000000) (zy : tsize y ≤ 1000000) (h : tenc x = tenc y) : x = y := by
  have h1 := rdT_enc x (max (tdepth x) (tdepth y)) [] hx (by omega) zx
  have h2 := rdT_enc y (max (tdepth x) (tdepth y)) [] hy (by omega) zy
  rw [h, h2] at h1
  simp only [Option.some.injEq, Prod.mk.injEq] at h1
  exact h1.1.symm
end Go.Proofs.YtdlhkhnoigbhjaaDoor.Pu
namespace Go.Proofs.YtdlhkhnoigbhjaaDoor.Wi
open Go Go.RowKit Pu Lb

theorem refcount_1 (v : Value) (n : Nat) (b : List UInt8) (w : World) (hv : Rd w 1 v n (bv b)) (hn1 : n ≤ 140737488355328) :
    Calls Tryd.prog 96 #[v, .int .i64 1] w fun e w' => e = .returned (.tuple #[.int .i64 ((cnt b 1).1 : Int), .int .i64 ((cnt b 1).2.1 : Int), .int .i64 ((cnt b 1).2.2 : Int)]) ∧ Below w.heap.size w w' :=
  refcount_any v n b 1 w hv (by omega) (by omega) hn1
theorem count_1 (v : Value) (n : Nat) (b : List UInt8) (w : World) (hv : Rd w 1 v n (bv b)) :
    Calls Tryd.prog 66 #[v, .int .i64 1] w fun e w' => ∃ x y, e = .returned (.tuple #[.int .i64 x, .int .i64 y, .int .i64 ((cnt b 1).2.2 : Int)]) ∧ ((cnt b 1).2.2 = 0 → x = ((cnt b 1).1 : Int) ∧ y = ((cnt b 1).2.1 : Int)) ∧ w = w' :=
  count_any v n b 1 w hv (by omega) (by omega)
theorem getBytes_used {b : List UInt8} {s : List UInt8} {used : Nat} (h : getBytes b = (s, used, 0)) : used ≤ b.length := by
  obtain ⟨⟨m, u, e⟩, hx⟩ : ∃ x, cnt b 1 = x := ⟨_, rfl⟩
  unfold getBytes at h
  rw [hx] at h
  by_cases he : e = 0
  · subst he
    simp only [ne_eq, not_true, if_false, Prod.mk.injEq, and_true] at h
    obtain ⟨_, h2, h3, _⟩ := cnt_ok hx
    omega
  · simp [he] at h

theorem getInt_used {b : List UInt8} {x : Int} {used : Nat} (h : getInt b = (x, used, 0)) : used ≤ b.length := (enc_get h).2.2.1

set_option maxRecDepth 100000 in
set_option maxHeartbeats 800000 in
theorem refgetints_any (v : Value) (n : Nat) (b : List UInt8) (w : World) (hv : Rd w 1 v n (bv b)) (hn1 : n ≤ 1099511627776) :
    Calls Tryd.prog 87 #[v] w fun e w' => ∃ v, e = .returned (.tuple #[v, .int .i64 ((getInts b).2.1 : Int), .int .i64 ((getInts b).2.2 : Int)]) ∧ w'.ownsRow w.heap.size 3 1 v (getInts b).1.length (iv (getInts b).1) ∧ Below w.heap.size w w' := by
  have hl : b.length = n := by have := hv.1; rw [bv_length] at this; omega
  have HL := Lib.hid hl; clear hl
  obtain ⟨⟨m, at0, e0⟩, hx⟩ : ∃ x, cnt b 1 = x := ⟨_, rfl⟩
  have HC := Lib.hid hx
  by_cases he : e0 = 0
  · subst he
    obtain ⟨_, h2, h3, _, h5⟩ := cnt_ok hx
    rw [HL.out] at h2 h3
    have hgl : getInts b = behind [] (decN getInt b m at0) := by rw [behind_nil]; simp [getInts, HC.out]
    have HG := Lib.hid hgl
    clear hx hgl
    go_enter Tryd.func87, Tryd.ntmps87
    go_wp2_with (first | (go_at_call 96; (with_reducible refine (refcount_1 _ _ _ _ hv (by omega)).mono ?_); rintro e w' ⟨rfl, hb1⟩; rw [HC.out]))
    go_loopw [6, 8, 9] (fun a o i wr => ∃ (j at_ : Nat) (acc : List Int), j ≤ m ∧ at_ ≤ n ∧ acc.length = j ∧ i = .int .i64 j ∧ a = .int .i64 at_ ∧ wr.ownsRow w.heap.size 3 1 o j (iv acc) ∧ Below w.heap.size w wr ∧ getInts b = behind acc (decN getInt b (m - j) at_)) (fun _ _ i _ => m - (intOf i).toNat)
    case atStart => exact ⟨0, at0, [], Nat.zero_le _, h2, rfl, rfl, rfl, World.ownsRow_nil _ _ _ _, hb1, HG.out⟩
    case round =>
      obtain ⟨j, at_, acc, hj, hat, hacc, rfl, rfl, hown, hbl, hdec⟩ := hrel
      have HO := Lib.hid hown
      have HD := Lib.hid hdec
      have HA := Lib.hid hacc
      clear hown hdec hacc
      have hg := hv.below hbl
      by_cases hlt : j < m
      · obtain ⟨⟨x, used, e⟩, hx⟩ : ∃ x, getInt (b.drop at_) = x := ⟨_, rfl⟩
        have HX := Lib.hid hx
        have hmj : m - j = (m - (j + 1)) + 1 := by omega
        have HMJ := Lib.hid hmj; clear hmj
        by_cases he : e = 0
        · subst he
          have hu := getInt_used hx
          rw [List.length_drop, HL.out] at hu
          clear hx
          go_wp2_with (first | ((with_reducible refine' wpList_from_b (.tmp 28) (.tmp 29) 49 rfl ?_ Tryd.underlying49 sz_u8 ?_ hg (at_) ?_ ?_ ?_); exact rfl; exact rfl; (show (_ : Int) = _; omega); omega; intro v1 hv1; simp only [Act.put, List.setIfInBounds_toArray, List.set_cons_succ, List.set_cons_zero]) | (go_at_call 97; (with_reducible refine (refget_any _ _ _ _ hv1).mono ?_); rintro e w' ⟨rfl, hb2⟩; rw [HX.out]; unfold R3) | ((with_reducible refine' wpList_append_one (.tmp 38) (.tmp 40) 22 rfl ?_ Tryd.underlying22 inf_int ?_ ?_ (own_below HO.out hb2) ?_ ?_ ?_ ?_ (Nat.le_trans hbl.size hb2.size) ?_); exact rfl; exact rfl; exact rfl; exact rfl; exact rfl; (first | omega | (unfold maxLen; omega)); omega; intro v3 w3 ho3 hb3; simp only [Act.put, List.setIfInBounds_toArray, List.set_cons_succ, List.set_cons_zero]))
          have hd := HD.out
          rw [HMJ.out, behind_step HX.out] at hd
          have hc : iv acc ++ [.int .i64 x] = iv (acc ++ [x]) := by simp [iv]
          rw [hc] at ho3
          have HO3 := Lib.hid ho3
          have HD3 := Lib.hid hd
          clear ho3 hd hc
          go_roundw
          case rel => exact ⟨j + 1, at_ + used, acc ++ [x], by omega, by omega, by simp [HA.out], by go_num, by go_num, HO3.out, (hbl.trans (hb2.mono hbl.size)).trans hb3, HD3.out⟩
          case measure => simp [intOf]; omega
        · have heb : ((e : Int) != 0) = true := by rw [bne_iff_ne]; omega
          have HE := Lib.hid he
          clear he hx
          go_wp2_with (first | ((with_reducible refine' wpList_from_b (.tmp 28) (.tmp 29) 49 rfl ?_ Tryd.underlying49 sz_u8 ?_ hg (at_) ?_ ?_ ?_); exact rfl; exact rfl; (show (_ : Int) = _; omega); omega; intro v1 hv1; simp only [Act.put, List.setIfInBounds_toArray, List.set_cons_succ, List.set_cons_zero]) | (go_at_call 97; (with_reducible refine (refget_any _ _ _ _ hv1).mono ?_); rintro e w' ⟨rfl, hb2⟩; rw [HX.out]; unfold R3))
          go_ret3
          have hd := HD.out
          rw [HMJ.out, behind_fail HX.out HE.out] at hd
          rw [hd]
          exact ⟨_, rfl, World.ownsRow_nil _ _ _ _, hbl.trans (hb2.mono hbl.size)⟩
      · obtain rfl : j = m := by omega
        go_wp2_with fail
        go_ret3
        have hd := HD.out
        rw [Nat.sub_self, behind_zero] at hd
        rw [hd]
        refine ⟨_, rfl, ?_, hbl⟩
        rw [HA.out]
        exact HO.out
  · have heb : ((e0 : Int) != 0) = true := by rw [bne_iff_ne]; omega
    have hgl : getInts b = ([], 0, e0) := by simp [getInts, HC.out, he]
    have HG := Lib.hid hgl
    clear he hx hgl
    go_enter Tryd.func87, Tryd.ntmps87
    go_wp2_with (first | (go_at_call 96; (with_reducible refine (refcount_1 _ _ _ _ hv (by omega)).mono ?_); rintro e w' ⟨rfl, hb1⟩; rw [HC.out]))
    go_ret3
    rw [HG.out]
    exact ⟨_, rfl, World.ownsRow_nil _ _ _ _, hb1⟩

end Go.Proofs.YtdlhkhnoigbhjaaDoor.Wi
