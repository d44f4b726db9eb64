/-
  Sa, Se, Sf, Sn: my texts of these names, one behind the other. Conditions: those that each law names.
-/
import Derived.Test.YtajglgkjpagcjaaDoorMe
import Derived.Test.YtajglgkjpagcjaaDoorMf
namespace Go.Proofs.YtajglgkjpagcjaaDoor.Pu
theorem encInts_len : ∀ (l : List Int), l.length ≤ 100 → (∀ x ∈ l, -9223372036854775808 ≤ x ∧ x ≤ 9223372036854775807) → (encInts l).length ≤ 9 * l.length + 9 := by
  intro l hl h
  unfold encInts encList
  rw [List.length_append]
  have h1 := Wi.enc_len_bd (n := (l.length : Int)) (by omega) (by omega)
  have h2 : (l.flatMap enc).length ≤ 9 * l.length := by
    clear hl h1
    induction l with
    | nil => simp
    | cons x l ih =>
      rw [List.flatMap_cons, List.length_append, List.length_cons]
      have hx := h x (by simp)
      have h3 := Wi.enc_len_bd (n := x) hx.1 hx.2
      have h4 := ih (fun y hy => h y (by simp [hy]))
      omega
  omega
theorem inp_len2 (tag : Int) (a b : List UInt8) (ha : a.length ≤ 1000000) (hb : b.length ≤ 1000000) : (inp tag [a, b]).length ≤ 70368744177664 := by
  have h1 := Wi.enc_len_bd (n := (a.length : Int)) (by omega) (by omega)
  have h2 := Wi.enc_len_bd (n := (b.length : Int)) (by omega) (by omega)
  unfold inp encBytes
  simp only [List.flatMap_cons, List.flatMap_nil, List.length_cons, List.length_append, List.length_nil]
  omega
theorem inp_len1 (tag : Int) (a : List UInt8) (ha : a.length ≤ 1000000) : (inp tag [a]).length ≤ 70368744177664 := by
  have h1 := Wi.enc_len_bd (n := (a.length : Int)) (by omega) (by omega)
  unfold inp encBytes
  simp only [List.flatMap_cons, List.flatMap_nil, List.length_cons, List.length_append, List.length_nil]
  omega
theorem inp_len3 (tag : Int) (a b c : List UInt8) (ha : a.length ≤ 1000000) (hb : b.length ≤ 1000000) (hc : c.length ≤ 35184372088832) : (inp tag [a, b, c]).length ≤ 70368744177664 := by
  have h1 := Wi.enc_len_bd (n := (a.length : Int)) (by omega) (by omega)
  have h2 := Wi.enc_len_bd (n := (b.length : Int)) (by omega) (by omega)
  have h3 := Wi.enc_len_bd (n := (c.length : Int)) (by omega) (by omega)
  unfold inp encBytes
  simp only [List.flatMap_cons, List.flatMap_nil, List.length_cons, List.length_append, List.length_nil]
  omega
theorem adv_succ (i c : Int) (t n : Nat) (v : List UInt8) : digOf 7 [encInts [i, c, ((t + n : Nat) : Int)], adv i c t n v] = adv i c t (n + 1) v := rfl
end Go.Proofs.YtajglgkjpagcjaaDoor.Pu
namespace Go.Proofs.YtajglgkjpagcjaaDoor.Lb
open Go Go.RowKit
section
variable {P : Program} {ops : Array Oper} {Q : Exit → Act → World → Prop} {a : Act} {w : World} {rest : List Oper} {o : Oper}
/-- 's[:hi]' of a string -/
theorem wpList_str_to (x hi : Operand) (t : TypeId) (ho : o.op = .slice t x none (some hi) none) (hw : Region.wanted o (yielded ops a.tmps) = true) (ht : P.underlying t = some .string)
    {l : List UInt8} (hx : a.eval x = .string ⟨l.toArray⟩) (H : Nat) (hhi : IsI (a.eval hi) (H : Int)) (hH : H ≤ l.length)
    (h : wpList P ops Q rest (a.put o.dst (.string ⟨(l.take H).toArray⟩)) w) : wpList P ops Q (o :: rest) a w := by
  obtain ⟨kl, hhi⟩ := isI hhi
  refine wpList_of_run hw (v := .string ⟨(l.take H).toArray⟩) (w' := w) ?_ h
  have hs : (ByteArray.mk l.toArray).size = l.length := by simp [ByteArray.size]
  have he : (ByteArray.mk l.toArray).extract 0 H = ⟨(l.take H).toArray⟩ := by
    apply ByteArray.ext
    rw [ByteArray.data_extract]
    apply Array.toList_inj.1
    simp
  unfold execOp
  simp [ho, Instr.sliceAt, hx, hhi, run_underlying ht, Instr.slice, Instr.sliceBounds, Instr.sliceBound, asIntOf, hs, hH, he]
end
end Go.Proofs.YtajglgkjpagcjaaDoor.Lb
namespace Go.Proofs.YtajglgkjpagcjaaDoor.Wi
open Go Go.RowKit Pu Lb
set_option linter.unusedSimpArgs false
set_option linter.unusedVariables false
attribute [local irreducible] comp sched comps sha outS mac digOf encInts
theorem iv_one (l : List Int) : ∀ u ∈ iv l, u.oneCell' = true := by
  intro u hu
  simp only [iv, List.mem_map] at hu
  obtain ⟨x, _, rfl⟩ := hu
  rfl
theorem sv_one (l : List (List UInt8)) : ∀ u ∈ sv l, u.oneCell' = true := by
  intro u hu
  simp only [sv, List.mem_map] at hu
  obtain ⟨x, _, rfl⟩ := hu
  rfl
theorem ok3 {a b c : Int} (ha : -9223372036854775808 ≤ a ∧ a ≤ 9223372036854775807) (hb : -9223372036854775808 ≤ b ∧ b ≤ 9223372036854775807) (hc : -9223372036854775808 ≤ c ∧ c ≤ 9223372036854775807) : IntsOk [a, b, c] := by
  intro x hx
  simp only [List.mem_cons, List.not_mem_nil, or_false] at hx
  rcases hx with rfl | rfl | rfl <;> assumption
theorem ok2 {a b : Int} (ha : -9223372036854775808 ≤ a ∧ a ≤ 9223372036854775807) (hb : -9223372036854775808 ≤ b ∧ b ≤ 9223372036854775807) : IntsOk [a, b] := by
  intro x hx
  simp only [List.mem_cons, List.not_mem_nil, or_false] at hx
  rcases hx with rfl | rfl <;> assumption
set_option maxRecDepth 100000 in
theorem sints_any (v : Value) (n : Nat) (l : List Int) (w : World) (hv : Rd w 1 v n (iv l)) (hok : IntsOk l) (hl : l.length ≤ 100) :
    Calls Tryd.prog 48 #[v] w fun e w' => e = .returned (.string ⟨(encInts l).toArray⟩) ∧ Below w.heap.size w w' := by
  have hlen := encInts_len l hl hok
  have hlen2 : (encList enc l).length ≤ 70368744177664 := by
    have : (encList enc l).length ≤ 9 * l.length + 9 := by unfold encInts at hlen; exact hlen
    omega
  have E := Lib.hid (show encList enc l = encInts l by unfold encInts; rfl)
  go_enter Tryd.func48, Tryd.ntmps48
  go_wp2_with (first | ((go_at_call 60; (with_reducible refine (ints_any v n l _ hv hok hlen2).mono ?_); rintro e w' ⟨v1, rfl, ho1, hb1⟩); have hr1 := Rd.of_own ho1; rw [E.out] at hr1) | ((with_reducible refine' wpList_str_rd (.tmp 4) 52 9 rfl ?_ Tryd.underlying52 Tryd.underlying5 Tryd.underlying9 ?_ hr1 ?_); exact rfl; exact rfl; simp only [Act.put, List.setIfInBounds_toArray, List.set_cons_succ, List.set_cons_zero]))
  go_ret
  exact ⟨rfl, hb1⟩
set_option maxRecDepth 100000 in
theorem refsints_any (v : Value) (n : Nat) (l : List Int) (w : World) (hv : Rd w 1 v n (iv l)) (hok : IntsOk l) (hl : l.length ≤ 100) :
    Calls Tryd.prog 50 #[v] w fun e w' => e = .returned (.string ⟨(encInts l).toArray⟩) ∧ Below w.heap.size w w' := by
  have hlen := encInts_len l hl hok
  have hlen2 : (encList enc l).length ≤ 70368744177664 := by
    have : (encList enc l).length ≤ 9 * l.length + 9 := by unfold encInts at hlen; exact hlen
    omega
  have E := Lib.hid (show encList enc l = encInts l by unfold encInts; rfl)
  go_enter Tryd.func50, Tryd.ntmps50
  go_wp2_with (first | ((go_at_call 63; (with_reducible refine (refints_any v n l _ hv hok hlen2).mono ?_); rintro e w' ⟨v1, rfl, ho1, hb1⟩); have hr1 := Rd.of_own ho1; rw [E.out] at hr1) | ((with_reducible refine' wpList_str_rd (.tmp 4) 52 9 rfl ?_ Tryd.underlying52 Tryd.underlying5 Tryd.underlying9 ?_ hr1 ?_); exact rfl; exact rfl; simp only [Act.put, List.setIfInBounds_toArray, List.set_cons_succ, List.set_cons_zero]))
  go_ret
  exact ⟨rfl, hb1⟩

/-- a number of 64 bits -/
def I64 (x : Int) : Prop := -9223372036854775808 ≤ x ∧ x ≤ 9223372036854775807
set_option maxRecDepth 100000 in
set_option maxHeartbeats 400000 in
theorem advance_any (ix ch : Int) (t tt : Nat) (v : List UInt8) (w : World) (hT : TabH w) (hi : I64 ix) (hc : I64 ch) (htt : t ≤ tt) (hto : tt ≤ 1000000) (hv : v.length = 16) :
    Calls Tryd.prog 27 #[.int .i64 ix, .int .i64 ch, .int .i64 (t : Int), .int .i64 (tt : Int), .agg (bv v).toArray] w fun e w' => e = .returned (.agg (bv (adv ix ch t (tt - t) v)).toArray) ∧ Below w.heap.size w w' := by
  go_enter Tryd.func27, Tryd.ntmps27
  go_wp2_with (first | ((with_reducible refine' wpList_boxa (cs := bv v) 23 (.tmp 4) rfl ?_ ?_ ?_); exact rfl; exact rfl; intro w1 hk1 hN1 hz1; simp only [Act.put, List.setIfInBounds_toArray, List.set_cons_succ, List.set_cons_zero]) | ((with_reducible refine' wpList_alloc_blk (cs := List.replicate 16 (.int .u8 0)) 23 rfl ?_ zr_dig ?_ ?_); exact rfl; exact zeros_u8 16; intro w2 hk2 hN2 hz2; simp only [Act.put, List.setIfInBounds_toArray, List.set_cons_succ, List.set_cons_zero]))
  have hb2 := hN1.trans (hN2.mono hN1.size)
  replace hk1 := hk1.below hN2 (by omega)
  have HZ := Lib.hid hz1
  clear hz1 hz2 hN1 hN2
  go_loopw [11] (fun c wr => ∃ q : Nat, t ≤ q ∧ q ≤ tt ∧ c = .int .i64 (q : Int) ∧ Blk wr w.heap.size 23 (bv (adv ix ch t (q - t) v)) ∧ Blk wr w1.heap.size 23 (List.replicate 16 (.int .u8 0)) ∧ Below w.heap.size w wr) (fun c _ => tt - (intOf c).toNat)
  case atStart => exact ⟨t, by omega, by omega, rfl, by rw [Nat.sub_self]; exact hk1, hk2, hb2⟩
  case round =>
    obtain ⟨q, hq1, hq2, rfl, hkV, hkR, hbl⟩ := hrel
    have hvl := adv_len ix ch t (q - t) hv
    have VL := Lib.hid (show (bv (adv ix ch t (q - t) v)).length = 16 by rw [bv_length, hvl])
    by_cases hlt : q < tt
    · obtain ⟨wo, rfl⟩ : ∃ wo : World, wo = wr := ⟨_, rfl⟩
      have SU := Lib.hid (show digOf 7 [encInts [ix, ch, (q : Int)], adv ix ch t (q - t) v] = adv ix ch t (q + 1 - t) v by
        have h := adv_succ ix ch t (q - t) v
        rw [show t + (q - t) = q by omega, show q - t + 1 = q + 1 - t by omega] at h
        exact h)
      obtain ⟨va, hu⟩ : ∃ va, adv ix ch t (q - t) v = va := ⟨_, rfl⟩
      obtain ⟨vb, hu2⟩ : ∃ va, adv ix ch t (q + 1 - t) v = va := ⟨_, rfl⟩
      rw [hu, hu2] at SU
      rw [hu] at hkV hvl VL
      have V16 := Lib.hid hvl
      have HU2 := Lib.hid hu2
      have U2L := Lib.hid (show (bv vb).length = 16 by rw [bv_length, ← hu2]; exact adv_len ix ch t _ hv)
      have OK := Lib.hid (ok3 (c := (q : Int)) hi hc (by constructor <;> omega))
      have EL := Lib.hid (show (encInts [ix, ch, (q : Int)]).length ≤ 1000000 from Nat.le_trans (encInts_len _ (by simp) OK.out) (by simp))
      have IL := Lib.hid (inp_len2 7 (encInts [ix, ch, (q : Int)]) va EL.out (by omega))
      have hrd := hkV.rd 0 16 16 1 (by rw [VL.out]; decide) (Nat.le_refl _) (by unfold maxLen; omega)
      rw [List.drop_zero, List.take_of_length_le (by rw [VL.out]; decide)] at hrd
      have hTo := hT.below hbl
      have hlV := hkV.lt
      clear hu hu2 hvl
      go_upto_region 4 with fail
      refine wp_region_mono (w := wo) 9 (fun i => match i with | 0 => fun (vv : Value) (ww : World) => vv = .int .i64 ix | 1 => fun (vv : Value) (ww : World) => vv = .int .i64 ch | 2 => fun (vv : Value) (ww : World) => vv = .int .i64 (q : Int) | 3 => fun (vv : Value) (ww : World) => Rd ww 1 vv 3 (iv [ix, ch, (q : Int)]) | 4 => fun (vv : Value) (ww : World) => vv = .string ⟨(encInts [ix, ch, (q : Int)]).toArray⟩ | 5 => fun (vv : Value) (ww : World) => vv = .slice (some ⟨w.heap.size, 0, none⟩) 16 16 | 6 => fun (vv : Value) (ww : World) => vv = .string ⟨va.toArray⟩ | 7 => fun (vv : Value) (ww : World) => Rd ww 1 vv 2 (sv [encInts [ix, ch, (q : Int)], va]) | 8 => fun (vv : Value) (ww : World) => vv = .agg (bv vb).toArray | _ => fun _ _ => True) (by kernel_rfl) (by kernel_rfl) ?_ ?_ ?_
      · intro i vv w1 w2 h hb
        rcases i with _ | _ | _ | _ | _ | _ | _ | _ | _ | i
        all_goals first | exact h | exact Rd.below h hb | exact own_below h hb | (obtain ⟨B, h1, h2, h3⟩ := h; exact ⟨B, h1, h2, Blk.below h3 hb (Blk.lt h3)⟩) | trivial
      · intro i o hi ho us wz hl hbz hd
        obtain ⟨u0, u1, u2, u3, u4, u5, u6, u7, u8, rfl⟩ := len9 hl
        rcases i with _ | _ | _ | _ | _ | _ | _ | _ | _ | i
        · simp only [List.getElem?_cons_succ, List.getElem?_cons_zero, Option.some.injEq] at ho; subst ho; clear hi hl
          clear hd
          simp only [List.take_succ_cons, List.take_zero, List.drop_succ_cons, List.drop_zero, List.map_cons, List.map_nil, puts, Act.put, List.setIfInBounds_toArray, List.set_cons_succ, List.set_cons_zero]
          go_wp2_with (fail)
          exact ⟨rfl, _, rfl, Below.refl _ _, rfl⟩
        · simp only [List.getElem?_cons_succ, List.getElem?_cons_zero, Option.some.injEq] at ho; subst ho; clear hi hl
          clear hd
          simp only [List.take_succ_cons, List.take_zero, List.drop_succ_cons, List.drop_zero, List.map_cons, List.map_nil, puts, Act.put, List.setIfInBounds_toArray, List.set_cons_succ, List.set_cons_zero]
          go_wp2_with (fail)
          exact ⟨rfl, _, rfl, Below.refl _ _, rfl⟩
        · simp only [List.getElem?_cons_succ, List.getElem?_cons_zero, Option.some.injEq] at ho; subst ho; clear hi hl
          clear hd
          simp only [List.take_succ_cons, List.take_zero, List.drop_succ_cons, List.drop_zero, List.map_cons, List.map_nil, puts, Act.put, List.setIfInBounds_toArray, List.set_cons_succ, List.set_cons_zero]
          go_wp2_with (fail)
          exact ⟨rfl, _, rfl, Below.refl _ _, rfl⟩
        · simp only [List.getElem?_cons_succ, List.getElem?_cons_zero, Option.some.injEq] at ho; subst ho; clear hi hl
          have s0 : (fun (vv : Value) (ww : World) => vv = .int .i64 ix) u0 wz := hd 0 (by kernel_rfl)
          simp only at s0
          obtain rfl := s0
          have s1 : (fun (vv : Value) (ww : World) => vv = .int .i64 ch) u1 wz := hd 1 (by kernel_rfl)
          simp only at s1
          obtain rfl := s1
          have s2 : (fun (vv : Value) (ww : World) => vv = .int .i64 (q : Int)) u2 wz := hd 2 (by kernel_rfl)
          simp only at s2
          obtain rfl := s2
          clear hd
          simp only [List.take_succ_cons, List.take_zero, List.drop_succ_cons, List.drop_zero, List.map_cons, List.map_nil, puts, Act.put, List.setIfInBounds_toArray, List.set_cons_succ, List.set_cons_zero]
          go_wp2_with (((with_reducible refine' wpList_build_cs (cs := iv [ix, ch, (q : Int)]) rfl ?_ Tryd.underlying25 inf_int ?_ ?_ ?_ ?_ ?_ ?_); exact rfl; exact rfl; omega; omega; exact rfl; exact iv_one _; intro v3 w3 r3 hNq; simp only [Act.put, List.setIfInBounds_toArray, List.set_cons_succ, List.set_cons_zero]))
          exact ⟨rfl, _, rfl, hNq, r3⟩
        · simp only [List.getElem?_cons_succ, List.getElem?_cons_zero, Option.some.injEq] at ho; subst ho; clear hi hl
          have s3 : (fun (vv : Value) (ww : World) => Rd ww 1 vv 3 (iv [ix, ch, (q : Int)])) u3 wz := hd 3 (by kernel_rfl)
          simp only at s3
          clear hd
          simp only [List.take_succ_cons, List.take_zero, List.drop_succ_cons, List.drop_zero, List.map_cons, List.map_nil, puts, Act.put, List.setIfInBounds_toArray, List.set_cons_succ, List.set_cons_zero]
          go_wp2_with ((go_at_call 48; (with_reducible refine (sints_any _ _ [ix, ch, (q : Int)] _ s3 OK.out (by simp)).mono ?_); rintro e w' ⟨rfl, hq⟩))
          exact ⟨rfl, _, rfl, hq, rfl⟩
        · simp only [List.getElem?_cons_succ, List.getElem?_cons_zero, Option.some.injEq] at ho; subst ho; clear hi hl
          clear hd
          simp only [List.take_succ_cons, List.take_zero, List.drop_succ_cons, List.drop_zero, List.map_cons, List.map_nil, puts, Act.put, List.setIfInBounds_toArray, List.set_cons_succ, List.set_cons_zero]
          go_wp2_with (((with_reducible refine' wpList_arr_all (B := w.heap.size) (f := 0) (.tmp 9) 23 rfl ?_ Tryd.underlying23 sz_u8 ?_ ?_); exact rfl; exact rfl; simp only [Act.put, List.setIfInBounds_toArray, List.set_cons_succ, List.set_cons_zero]))
          exact ⟨rfl, _, rfl, Below.refl _ _, rfl⟩
        · simp only [List.getElem?_cons_succ, List.getElem?_cons_zero, Option.some.injEq] at ho; subst ho; clear hi hl
          have s5 : (fun (vv : Value) (ww : World) => vv = .slice (some ⟨w.heap.size, 0, none⟩) 16 16) u5 wz := hd 5 (by kernel_rfl)
          simp only at s5
          obtain rfl := s5
          clear hd
          simp only [List.take_succ_cons, List.take_zero, List.drop_succ_cons, List.drop_zero, List.map_cons, List.map_nil, puts, Act.put, List.setIfInBounds_toArray, List.set_cons_succ, List.set_cons_zero]
          go_wp2_with (((with_reducible refine' wpList_str_rd (.tmp 23) 52 9 rfl ?_ Tryd.underlying52 Tryd.underlying5 Tryd.underlying9 ?_ (hrd.below hbz) ?_); exact rfl; exact rfl; simp only [Act.put, List.setIfInBounds_toArray, List.set_cons_succ, List.set_cons_zero]))
          exact ⟨rfl, _, rfl, Below.refl _ _, rfl⟩
        · simp only [List.getElem?_cons_succ, List.getElem?_cons_zero, Option.some.injEq] at ho; subst ho; clear hi hl
          have s4 : (fun (vv : Value) (ww : World) => vv = .string ⟨(encInts [ix, ch, (q : Int)]).toArray⟩) u4 wz := hd 4 (by kernel_rfl)
          simp only at s4
          obtain rfl := s4
          have s6 : (fun (vv : Value) (ww : World) => vv = .string ⟨va.toArray⟩) u6 wz := hd 6 (by kernel_rfl)
          simp only at s6
          obtain rfl := s6
          clear hd
          simp only [List.take_succ_cons, List.take_zero, List.drop_succ_cons, List.drop_zero, List.map_cons, List.map_nil, puts, Act.put, List.setIfInBounds_toArray, List.set_cons_succ, List.set_cons_zero]
          go_wp2_with (((with_reducible refine' wpList_build_cs (cs := sv [encInts [ix, ch, (q : Int)], va]) rfl ?_ Tryd.underlying66 inf_str ?_ ?_ ?_ ?_ ?_ ?_); exact rfl; exact rfl; omega; omega; exact rfl; exact sv_one _; intro v7 w7 r7 hNq; simp only [Act.put, List.setIfInBounds_toArray, List.set_cons_succ, List.set_cons_zero]))
          exact ⟨rfl, _, rfl, hNq, r7⟩
        · simp only [List.getElem?_cons_succ, List.getElem?_cons_zero, Option.some.injEq] at ho; subst ho; clear hi hl
          have s7 : (fun (vv : Value) (ww : World) => Rd ww 1 vv 2 (sv [encInts [ix, ch, (q : Int)], va])) u7 wz := hd 7 (by kernel_rfl)
          simp only at s7
          clear hd
          simp only [List.take_succ_cons, List.take_zero, List.drop_succ_cons, List.drop_zero, List.map_cons, List.map_nil, puts, Act.put, List.setIfInBounds_toArray, List.set_cons_succ, List.set_cons_zero]
          go_wp2_with (((go_at_call 34; (with_reducible refine (of_any 7 _ _ [encInts [ix, ch, (q : Int)], va] _ (hTo.below hbz) s7 (by decide) (by decide) IL.out).mono ?_); rintro e w' ⟨rfl, hq⟩); rw [SU.out]))
          exact ⟨rfl, _, rfl, hq, rfl⟩
        · omega
      intro us wz hl hbz hS
      obtain ⟨u0, u1, u2, u3, u4, u5, u6, u7, u8, rfl⟩ := len9 hl
      have s8 : (fun (vv : Value) (ww : World) => vv = .agg (bv vb).toArray) u8 wz := hS 8 (by omega)
      simp only at s8
      obtain rfl := s8
      clear hS hl
      simp only [List.take_succ_cons, List.take_zero, List.drop_succ_cons, List.drop_zero, List.map_cons, List.map_nil, puts, Act.put, List.setIfInBounds_toArray, List.set_cons_succ, List.set_cons_zero]
      have hkVz := hkV.below hbz hlV
      have hkRz := hkR.below hbz hkR.lt
      ((with_reducible refine' wpList_store_blk (cs := bv vb) 23 (.tmp 9) (.tmp 26) rfl ?_ ?_ ?_ hkVz sz_dig ?_ ?_ ?_ ?_); exact rfl; exact rfl; exact rfl; exact U2L.out; exact VL.out; exact bv_one _; intro w4 hk4 hO4 hz4; simp only [Act.put])
      refine onlyN ?_
      have hb4 := (hbl.trans (hbz.mono hbl.size)).trans (hO4.below (Nat.le_refl _) (by have := hbl.size; have := hbz.size; omega))
      clear hz4
      go_wp2_with fail
      go_roundw
      case rel => exact ⟨q + 1, by omega, by omega, by go_num, by rw [HU2.out]; exact hk4, hO4.blk hkRz (by have := HZ.out; omega), hb4⟩
      case measure => simp [intOf]; omega
    · obtain rfl : q = tt := by omega
      go_wp2_with (first
        | ((with_reducible refine' wpList_loadall_blk (.tmp 9) 23 rfl ?_ Tryd.underlying23 sz_dig ?_ hkV ?_ ?_ ?_); exact rfl; exact rfl; exact VL.out; omega; simp only [Act.put, List.setIfInBounds_toArray, List.set_cons_succ, List.set_cons_zero])
        | ((with_reducible refine' wpList_store_blk (cs := bv (adv ix ch t (q - t) v)) 23 (.tmp 10) (.tmp 27) rfl ?_ ?_ ?_ hkR sz_dig ?_ ?_ ?_ ?_); exact rfl; exact rfl; exact rfl; exact VL.out; exact List.length_replicate; exact bv_one _; intro w9 hk9 hO9 hz9; simp only [Act.put]))
      ((try simp only [Exit.inBlock, Exit.then]); refine bodyPost_ret (results_cell_row rfl _ _ _ _ _ _ _ rfl hk9 Tryd.underlying23 rfl (by rw [sz_dig]; simp [VL.out])) rfl ?_)
      exact ⟨rfl, hbl.trans (hO9.below (by have := HZ.out; omega) hbl.size)⟩
set_option maxRecDepth 100000 in
set_option maxHeartbeats 400000 in
theorem refadvance_any (ix ch : Int) (t tt : Nat) (v : List UInt8) (w : World) (hT : TabR w) (hi : I64 ix) (hc : I64 ch) (htt : t ≤ tt) (hto : tt ≤ 1000000) (hv : v.length = 16) :
    Calls Tryd.prog 32 #[.int .i64 ix, .int .i64 ch, .int .i64 (t : Int), .int .i64 (tt : Int), .agg (bv v).toArray] w fun e w' => e = .returned (.agg (bv (adv ix ch t (tt - t) v)).toArray) ∧ Below w.heap.size w w' := by
  go_enter Tryd.func32, Tryd.ntmps32
  go_wp2_with (first | ((with_reducible refine' wpList_boxa (cs := bv v) 23 (.tmp 4) rfl ?_ ?_ ?_); exact rfl; exact rfl; intro w1 hk1 hN1 hz1; simp only [Act.put, List.setIfInBounds_toArray, List.set_cons_succ, List.set_cons_zero]) | ((with_reducible refine' wpList_alloc_blk (cs := List.replicate 16 (.int .u8 0)) 23 rfl ?_ zr_dig ?_ ?_); exact rfl; exact zeros_u8 16; intro w2 hk2 hN2 hz2; simp only [Act.put, List.setIfInBounds_toArray, List.set_cons_succ, List.set_cons_zero]))
  have hb2 := hN1.trans (hN2.mono hN1.size)
  replace hk1 := hk1.below hN2 (by omega)
  have HZ := Lib.hid hz1
  clear hz1 hz2 hN1 hN2
  go_loopw [11] (fun c wr => ∃ q : Nat, t ≤ q ∧ q ≤ tt ∧ c = .int .i64 (q : Int) ∧ Blk wr w.heap.size 23 (bv (adv ix ch t (q - t) v)) ∧ Blk wr w1.heap.size 23 (List.replicate 16 (.int .u8 0)) ∧ Below w.heap.size w wr) (fun c _ => tt - (intOf c).toNat)
  case atStart => exact ⟨t, by omega, by omega, rfl, by rw [Nat.sub_self]; exact hk1, hk2, hb2⟩
  case round =>
    obtain ⟨q, hq1, hq2, rfl, hkV, hkR, hbl⟩ := hrel
    have hvl := adv_len ix ch t (q - t) hv
    have VL := Lib.hid (show (bv (adv ix ch t (q - t) v)).length = 16 by rw [bv_length, hvl])
    by_cases hlt : q < tt
    · obtain ⟨wo, rfl⟩ : ∃ wo : World, wo = wr := ⟨_, rfl⟩
      have SU := Lib.hid (show digOf 7 [encInts [ix, ch, (q : Int)], adv ix ch t (q - t) v] = adv ix ch t (q + 1 - t) v by
        have h := adv_succ ix ch t (q - t) v
        rw [show t + (q - t) = q by omega, show q - t + 1 = q + 1 - t by omega] at h
        exact h)
      obtain ⟨va, hu⟩ : ∃ va, adv ix ch t (q - t) v = va := ⟨_, rfl⟩
      obtain ⟨vb, hu2⟩ : ∃ va, adv ix ch t (q + 1 - t) v = va := ⟨_, rfl⟩
      rw [hu, hu2] at SU
      rw [hu] at hkV hvl VL
      have V16 := Lib.hid hvl
      have HU2 := Lib.hid hu2
      have U2L := Lib.hid (show (bv vb).length = 16 by rw [bv_length, ← hu2]; exact adv_len ix ch t _ hv)
      have OK := Lib.hid (ok3 (c := (q : Int)) hi hc (by constructor <;> omega))
      have EL := Lib.hid (show (encInts [ix, ch, (q : Int)]).length ≤ 1000000 from Nat.le_trans (encInts_len _ (by simp) OK.out) (by simp))
      have IL := Lib.hid (inp_len2 7 (encInts [ix, ch, (q : Int)]) va EL.out (by omega))
      have hrd := hkV.rd 0 16 16 1 (by rw [VL.out]; decide) (Nat.le_refl _) (by unfold maxLen; omega)
      rw [List.drop_zero, List.take_of_length_le (by rw [VL.out]; decide)] at hrd
      have hTo := hT.below hbl
      have hlV := hkV.lt
      clear hu hu2 hvl
      go_upto_region 4 with fail
      refine wp_region_mono (w := wo) 9 (fun i => match i with | 0 => fun (vv : Value) (ww : World) => vv = .int .i64 ix | 1 => fun (vv : Value) (ww : World) => vv = .int .i64 ch | 2 => fun (vv : Value) (ww : World) => vv = .int .i64 (q : Int) | 3 => fun (vv : Value) (ww : World) => Rd ww 1 vv 3 (iv [ix, ch, (q : Int)]) | 4 => fun (vv : Value) (ww : World) => vv = .string ⟨(encInts [ix, ch, (q : Int)]).toArray⟩ | 5 => fun (vv : Value) (ww : World) => vv = .agg (bv va).toArray | 6 => fun (vv : Value) (ww : World) => vv = .string ⟨va.toArray⟩ | 7 => fun (vv : Value) (ww : World) => Rd ww 1 vv 2 (sv [encInts [ix, ch, (q : Int)], va]) | 8 => fun (vv : Value) (ww : World) => vv = .agg (bv vb).toArray | _ => fun _ _ => True) (by kernel_rfl) (by kernel_rfl) ?_ ?_ ?_
      · intro i vv w1 w2 h hb
        rcases i with _ | _ | _ | _ | _ | _ | _ | _ | _ | i
        all_goals first | exact h | exact Rd.below h hb | exact own_below h hb | (obtain ⟨B, h1, h2, h3⟩ := h; exact ⟨B, h1, h2, Blk.below h3 hb (Blk.lt h3)⟩) | trivial
      · intro i o hi ho us wz hl hbz hd
        obtain ⟨u0, u1, u2, u3, u4, u5, u6, u7, u8, rfl⟩ := len9 hl
        rcases i with _ | _ | _ | _ | _ | _ | _ | _ | _ | i
        · simp only [List.getElem?_cons_succ, List.getElem?_cons_zero, Option.some.injEq] at ho; subst ho; clear hi hl
          clear hd
          simp only [List.take_succ_cons, List.take_zero, List.drop_succ_cons, List.drop_zero, List.map_cons, List.map_nil, puts, Act.put, List.setIfInBounds_toArray, List.set_cons_succ, List.set_cons_zero]
          go_wp2_with (fail)
          exact ⟨rfl, _, rfl, Below.refl _ _, rfl⟩
        · simp only [List.getElem?_cons_succ, List.getElem?_cons_zero, Option.some.injEq] at ho; subst ho; clear hi hl
          clear hd
          simp only [List.take_succ_cons, List.take_zero, List.drop_succ_cons, List.drop_zero, List.map_cons, List.map_nil, puts, Act.put, List.setIfInBounds_toArray, List.set_cons_succ, List.set_cons_zero]
          go_wp2_with (fail)
          exact ⟨rfl, _, rfl, Below.refl _ _, rfl⟩
        · simp only [List.getElem?_cons_succ, List.getElem?_cons_zero, Option.some.injEq] at ho; subst ho; clear hi hl
          clear hd
          simp only [List.take_succ_cons, List.take_zero, List.drop_succ_cons, List.drop_zero, List.map_cons, List.map_nil, puts, Act.put, List.setIfInBounds_toArray, List.set_cons_succ, List.set_cons_zero]
          go_wp2_with (fail)
          exact ⟨rfl, _, rfl, Below.refl _ _, rfl⟩
        · simp only [List.getElem?_cons_succ, List.getElem?_cons_zero, Option.some.injEq] at ho; subst ho; clear hi hl
          have s0 : (fun (vv : Value) (ww : World) => vv = .int .i64 ix) u0 wz := hd 0 (by kernel_rfl)
          simp only at s0
          obtain rfl := s0
          have s1 : (fun (vv : Value) (ww : World) => vv = .int .i64 ch) u1 wz := hd 1 (by kernel_rfl)
          simp only at s1
          obtain rfl := s1
          have s2 : (fun (vv : Value) (ww : World) => vv = .int .i64 (q : Int)) u2 wz := hd 2 (by kernel_rfl)
          simp only at s2
          obtain rfl := s2
          clear hd
          simp only [List.take_succ_cons, List.take_zero, List.drop_succ_cons, List.drop_zero, List.map_cons, List.map_nil, puts, Act.put, List.setIfInBounds_toArray, List.set_cons_succ, List.set_cons_zero]
          go_wp2_with (((with_reducible refine' wpList_build_cs (cs := iv [ix, ch, (q : Int)]) rfl ?_ Tryd.underlying25 inf_int ?_ ?_ ?_ ?_ ?_ ?_); exact rfl; exact rfl; omega; omega; exact rfl; exact iv_one _; intro v3 w3 r3 hNq; simp only [Act.put, List.setIfInBounds_toArray, List.set_cons_succ, List.set_cons_zero]))
          exact ⟨rfl, _, rfl, hNq, r3⟩
        · simp only [List.getElem?_cons_succ, List.getElem?_cons_zero, Option.some.injEq] at ho; subst ho; clear hi hl
          have s3 : (fun (vv : Value) (ww : World) => Rd ww 1 vv 3 (iv [ix, ch, (q : Int)])) u3 wz := hd 3 (by kernel_rfl)
          simp only at s3
          clear hd
          simp only [List.take_succ_cons, List.take_zero, List.drop_succ_cons, List.drop_zero, List.map_cons, List.map_nil, puts, Act.put, List.setIfInBounds_toArray, List.set_cons_succ, List.set_cons_zero]
          go_wp2_with ((go_at_call 50; (with_reducible refine (refsints_any _ _ [ix, ch, (q : Int)] _ s3 OK.out (by simp)).mono ?_); rintro e w' ⟨rfl, hq⟩))
          exact ⟨rfl, _, rfl, hq, rfl⟩
        · simp only [List.getElem?_cons_succ, List.getElem?_cons_zero, Option.some.injEq] at ho; subst ho; clear hi hl
          clear hd
          simp only [List.take_succ_cons, List.take_zero, List.drop_succ_cons, List.drop_zero, List.map_cons, List.map_nil, puts, Act.put, List.setIfInBounds_toArray, List.set_cons_succ, List.set_cons_zero]
          go_wp2_with (((with_reducible refine' wpList_loadall_blk (.tmp 9) 23 rfl ?_ Tryd.underlying23 sz_dig ?_ (hkV.below hbz hlV) ?_ ?_ ?_); exact rfl; exact rfl; exact VL.out; omega; simp only [Act.put, List.setIfInBounds_toArray, List.set_cons_succ, List.set_cons_zero]))
          exact ⟨rfl, _, rfl, Below.refl _ _, rfl⟩
        · simp only [List.getElem?_cons_succ, List.getElem?_cons_zero, Option.some.injEq] at ho; subst ho; clear hi hl
          have s5 : (fun (vv : Value) (ww : World) => vv = .agg (bv va).toArray) u5 wz := hd 5 (by kernel_rfl)
          simp only at s5
          obtain rfl := s5
          clear hd
          simp only [List.take_succ_cons, List.take_zero, List.drop_succ_cons, List.drop_zero, List.map_cons, List.map_nil, puts, Act.put, List.setIfInBounds_toArray, List.set_cons_succ, List.set_cons_zero]
          go_wp2_with ((go_at_call 31; (with_reducible refine (text_any va _ V16.out).mono ?_); rintro e w' ⟨rfl, hq⟩))
          exact ⟨rfl, _, rfl, hq, rfl⟩
        · simp only [List.getElem?_cons_succ, List.getElem?_cons_zero, Option.some.injEq] at ho; subst ho; clear hi hl
          have s4 : (fun (vv : Value) (ww : World) => vv = .string ⟨(encInts [ix, ch, (q : Int)]).toArray⟩) u4 wz := hd 4 (by kernel_rfl)
          simp only at s4
          obtain rfl := s4
          have s6 : (fun (vv : Value) (ww : World) => vv = .string ⟨va.toArray⟩) u6 wz := hd 6 (by kernel_rfl)
          simp only at s6
          obtain rfl := s6
          clear hd
          simp only [List.take_succ_cons, List.take_zero, List.drop_succ_cons, List.drop_zero, List.map_cons, List.map_nil, puts, Act.put, List.setIfInBounds_toArray, List.set_cons_succ, List.set_cons_zero]
          go_wp2_with (((with_reducible refine' wpList_build_cs (cs := sv [encInts [ix, ch, (q : Int)], va]) rfl ?_ Tryd.underlying66 inf_str ?_ ?_ ?_ ?_ ?_ ?_); exact rfl; exact rfl; omega; omega; exact rfl; exact sv_one _; intro v7 w7 r7 hNq; simp only [Act.put, List.setIfInBounds_toArray, List.set_cons_succ, List.set_cons_zero]))
          exact ⟨rfl, _, rfl, hNq, r7⟩
        · simp only [List.getElem?_cons_succ, List.getElem?_cons_zero, Option.some.injEq] at ho; subst ho; clear hi hl
          have s7 : (fun (vv : Value) (ww : World) => Rd ww 1 vv 2 (sv [encInts [ix, ch, (q : Int)], va])) u7 wz := hd 7 (by kernel_rfl)
          simp only at s7
          clear hd
          simp only [List.take_succ_cons, List.take_zero, List.drop_succ_cons, List.drop_zero, List.map_cons, List.map_nil, puts, Act.put, List.setIfInBounds_toArray, List.set_cons_succ, List.set_cons_zero]
          go_wp2_with (((go_at_call 35; (with_reducible refine (refof_any 7 _ _ [encInts [ix, ch, (q : Int)], va] _ (hTo.below hbz) s7 (by decide) (by decide) IL.out).mono ?_); rintro e w' ⟨rfl, hq⟩); rw [SU.out]))
          exact ⟨rfl, _, rfl, hq, rfl⟩
        · omega
      intro us wz hl hbz hS
      obtain ⟨u0, u1, u2, u3, u4, u5, u6, u7, u8, rfl⟩ := len9 hl
      have s8 : (fun (vv : Value) (ww : World) => vv = .agg (bv vb).toArray) u8 wz := hS 8 (by omega)
      simp only at s8
      obtain rfl := s8
      clear hS hl
      simp only [List.take_succ_cons, List.take_zero, List.drop_succ_cons, List.drop_zero, List.map_cons, List.map_nil, puts, Act.put, List.setIfInBounds_toArray, List.set_cons_succ, List.set_cons_zero]
      have hkVz := hkV.below hbz hlV
      have hkRz := hkR.below hbz hkR.lt
      ((with_reducible refine' wpList_store_blk (cs := bv vb) 23 (.tmp 9) (.tmp 26) rfl ?_ ?_ ?_ hkVz sz_dig ?_ ?_ ?_ ?_); exact rfl; exact rfl; exact rfl; exact U2L.out; exact VL.out; exact bv_one _; intro w4 hk4 hO4 hz4; simp only [Act.put])
      refine onlyN ?_
      have hb4 := (hbl.trans (hbz.mono hbl.size)).trans (hO4.below (Nat.le_refl _) (by have := hbl.size; have := hbz.size; omega))
      clear hz4
      go_wp2_with fail
      go_roundw
      case rel => exact ⟨q + 1, by omega, by omega, by go_num, by rw [HU2.out]; exact hk4, hO4.blk hkRz (by have := HZ.out; omega), hb4⟩
      case measure => simp [intOf]; omega
    · obtain rfl : q = tt := by omega
      go_wp2_with (first
        | ((with_reducible refine' wpList_loadall_blk (.tmp 9) 23 rfl ?_ Tryd.underlying23 sz_dig ?_ hkV ?_ ?_ ?_); exact rfl; exact rfl; exact VL.out; omega; simp only [Act.put, List.setIfInBounds_toArray, List.set_cons_succ, List.set_cons_zero])
        | ((with_reducible refine' wpList_store_blk (cs := bv (adv ix ch t (q - t) v)) 23 (.tmp 10) (.tmp 27) rfl ?_ ?_ ?_ hkR sz_dig ?_ ?_ ?_ ?_); exact rfl; exact rfl; exact rfl; exact VL.out; exact List.length_replicate; exact bv_one _; intro w9 hk9 hO9 hz9; simp only [Act.put]))
      ((try simp only [Exit.inBlock, Exit.then]); refine bodyPost_ret (results_cell_row rfl _ _ _ _ _ _ _ rfl hk9 Tryd.underlying23 rfl (by rw [sz_dig]; simp [VL.out])) rfl ?_)
      exact ⟨rfl, hbl.trans (hO9.below (by have := HZ.out; omega) hbl.size)⟩

set_option maxRecDepth 100000 in
theorem start_any (seed : List UInt8) (ix ch : Int) (w : World) (hT : TabH w) (hi : I64 ix) (hc : I64 ch) (hs : seed.length ≤ 1000000) :
    Calls Tryd.prog 28 #[.string ⟨seed.toArray⟩, .int .i64 ix, .int .i64 ch] w fun e w' => e = .returned (.agg (bv (startV seed ix ch)).toArray) ∧ Below w.heap.size w w' := by
  have OK := ok2 hi hc
  have EL := encInts_len [ix, ch] (by simp) OK
  have EL2 : (encInts [ix, ch]).length ≤ 27 := EL
  have OK := Lib.hid OK
  obtain ⟨M, hM⟩ : ∃ M, mac seed (chainB ++ encInts [ix, ch]) = M := ⟨_, rfl⟩
  have M32 := Lib.hid (show M.length = 32 by rw [← hM, mac_len])
  have SV := Lib.hid (show M.take 16 = startV seed ix ch by rw [← hM]; rfl)
  have HM := Lib.hid hM
  have CL := Lib.hid (show (chainB ++ encInts [ix, ch]).length ≤ 140737488355328 by rw [List.length_append]; show 5 + _ ≤ _; omega)
  have S16 := Lib.hid (show (bv (startV seed ix ch)).length = 16 by rw [bv_length, startV_len])
  have G1 : 0 < (bv (startV seed ix ch)).length := by rw [S16.out]; decide
  have G : 0 + 16 ≤ (bv (startV seed ix ch)).length := by rw [S16.out]; decide
  clear hM EL
  go_enter Tryd.func28, Tryd.ntmps28
  have hb := Below.refl w.heap.size w
  go_wp2_with (first
    | (((with_reducible refine' wpList_alloc_blk (cs := List.replicate 16 (.int .u8 0)) 23 rfl ?_ zr_dig ?_ ?_); exact rfl; exact zeros_u8 16; intro w1 k1 hN hz1; simp only [Act.put, List.setIfInBounds_toArray, List.set_cons_succ, List.set_cons_zero]); replace hb := hb.trans ((by exact hN : Below _ _ _).mono hb.size); have hz := hb.size)
    | (((with_reducible refine' wpList_build_cs (cs := iv [ix, ch]) rfl ?_ Tryd.underlying25 inf_int ?_ ?_ ?_ ?_ ?_ ?_); exact rfl; exact rfl; omega; omega; exact rfl; exact iv_one _; intro v2 w2 r2 hN; simp only [Act.put, List.setIfInBounds_toArray, List.set_cons_succ, List.set_cons_zero]); replace hb := hb.trans ((by exact hN : Below _ _ _).mono hb.size); (try replace k1 := Blk.below k1 hN (Blk.lt k1)))
    | ((go_at_call 48; (with_reducible refine (sints_any _ _ [ix, ch] _ r2 OK.out (by simp)).mono ?_); rintro e w' ⟨rfl, hN⟩); replace hb := hb.trans ((by exact hN : Below _ _ _).mono hb.size); (try replace k1 := Blk.below k1 hN (Blk.lt k1)); have hT2 := hT.below hb)
    | ((with_reducible refine' wpList_str_add (l := chainB) (m := encInts [ix, ch]) _ (.tmp 11) 9 9 rfl ?_ ?_ ?_ ?_ ?_); exact rfl; exact rfl; exact rfl; (show 5 + _ ≤ _; omega))
    | ((go_at_call 49; (with_reducible refine (mac_any seed (chainB ++ encInts [ix, ch]) _ hT2 (by omega) CL.out).mono ?_); rintro e w' ⟨rfl, hN⟩); rw [HM.out]; replace hb := hb.trans ((by exact hN : Below _ _ _).mono hb.size); (try replace k1 := Blk.below k1 hN (Blk.lt k1)))
    | ((with_reducible refine' wpList_str_to (l := M) (.tmp 13) _ 9 rfl ?_ Tryd.underlying9 ?_ 16 ?_ ?_ ?_); exact rfl; exact rfl; exact rfl; (rw [M32.out]; decide); rw [SV.out])
    | (((with_reducible refine' wpList_bytes_l (l := startV seed ix ch) (.tmp 14) 9 52 rfl ?_ Tryd.underlying9 Tryd.underlying52 Tryd.underlying5 ?_ ((by rw [startV_len]; unfold maxLen; omega)) ?_); exact rfl; exact rfl; intro v3 w3 r3 hN; simp only [Act.put, List.setIfInBounds_toArray, List.set_cons_succ, List.set_cons_zero]); replace hb := hb.trans ((by exact hN : Below _ _ _).mono hb.size); (try replace k1 := Blk.below k1 hN (Blk.lt k1)); have L16 : 16 ≤ (startV seed ix ch).length := by rw [startV_len]; exact Nat.le_refl _)
    | ((with_reducible refine' wpList_arr_ptr (.tmp 15) 23 rfl ?_ Tryd.underlying23 ?_ r3 ?_ (G1) ?_); exact rfl; exact rfl; omega; simp only [Act.put, List.setIfInBounds_toArray, List.set_cons_succ, List.set_cons_zero])
    | (((with_reducible refine' wpList_load_arr (.tmp 16) 23 rfl ?_ Tryd.underlying23 sz_dig (0) ?_ r3 ?_ (by decide) ?_); exact rfl; exact rfl; exact G; simp only [Act.put, List.setIfInBounds_toArray, List.set_cons_succ, List.set_cons_zero]); rw [List.drop_zero, List.take_of_length_le (by rw [S16.out]; exact Nat.le_refl _)])
    | ((with_reducible refine' wpList_store_blk (cs := bv (startV seed ix ch)) 23 (.tmp 6) (.tmp 17) rfl ?_ ?_ ?_ k1 sz_dig ?_ ?_ ?_ ?_); exact rfl; exact rfl; exact rfl; exact S16.out; exact List.length_replicate; exact bv_one _; intro w9 hk9 hO9 hz9; simp only [Act.put]))
  ((try simp only [Exit.inBlock, Exit.then]); refine bodyPost_ret (results_cell_row rfl _ _ _ _ _ _ _ rfl hk9 Tryd.underlying23 rfl (by rw [sz_dig]; simp [S16.out])) rfl ?_)
  exact ⟨rfl, hb.trans (hO9.below (Nat.le_refl _) hb.size)⟩
end Go.Proofs.YtajglgkjpagcjaaDoor.Wi
namespace Go.Proofs.YtajglgkjpagcjaaDoor.Wi
open Go Go.RowKit Pu Lb
set_option linter.unusedSimpArgs false
set_option linter.unusedVariables false
attribute [local irreducible] comp sched comps sha outS mac digOf encInts adv startV
set_option maxRecDepth 100000 in
theorem refdigest_any (s : List UInt8) (w : World) (hs : 16 ≤ s.length) :
    Calls Tryd.prog 42 #[.string ⟨s.toArray⟩] w fun e w' => e = .returned (.agg (bv (s.take 16)).toArray) ∧ Below w.heap.size w w' := by
  have D16 := Lib.hid (show (bv (s.take 16)).length = 16 by rw [bv_length, List.length_take]; omega)
  have hss := size_str s
  have HS := Lib.hid hss
  clear hss
  go_enter Tryd.func42, Tryd.ntmps42
  go_upto_region 1 with ((with_reducible refine' wpList_alloc_blk (cs := List.replicate 16 (.int .u8 0)) 23 rfl ?_ zr_dig ?_ ?_); exact rfl; exact zeros_u8 16; intro w1 hk1 hN1 hz1; simp only [Act.put, List.setIfInBounds_toArray, List.set_cons_succ, List.set_cons_zero])
  go_wp2_with ((with_reducible refine' wpList_alloc_blk (cs := List.replicate 16 (.int .u8 0)) 23 rfl ?_ zr_dig ?_ ?_); exact rfl; exact zeros_u8 16; intro w2 hk2 hN2 hz2; simp only [Act.put, List.setIfInBounds_toArray, List.set_cons_succ, List.set_cons_zero])
  replace hk1 := hk1.below hN2 hk1.lt
  have hb2 := hN1.trans (hN2.mono hN1.size)
  have HZ := Lib.hid hz1
  clear hz1 hz2 hN1 hN2
  go_loopw [4] (fun i wr => ∃ t : Nat, t ≤ 16 ∧ i = .int .i64 t ∧ Blk wr w1.heap.size 23 (bv (s.take t) ++ List.replicate (16 - t) (.int .u8 0)) ∧ Blk wr w.heap.size 23 (List.replicate 16 (.int .u8 0)) ∧ Below w.heap.size w wr) (fun i _ => 16 - (intOf i).toNat)
  case atStart => exact ⟨0, by omega, rfl, by rw [List.take_zero]; exact hk2, hk1, hb2⟩
  case round =>
    obtain ⟨t, ht, rfl, hkD, hkR, hbl⟩ := hrel
    by_cases hlt : t < 16
    · obtain ⟨wo, rfl⟩ : ∃ wo : World, wo = wr := ⟨_, rfl⟩
      have hbt : s[t]? = some (gb s t) := by simp [gb, show t < s.length by omega]
      have TL : (bv (s.take t)).length = t := by rw [bv_length, List.length_take]; omega
      have SET := Lib.hid (fill_step TL hlt (.int .u8 0) (.int .u8 ((gb s t).toNat : Int)))
      have HLEN := Lib.hid (show t < (bv (s.take t) ++ List.replicate (16 - t) (Value.int .u8 0)).length by rw [List.length_append, TL, List.length_replicate]; omega)
      have TS := Lib.hid (take_bv hbt)
      have hsl : t < s.length := by omega
      clear TL hbt
      go_wp2_with (first
        | ((with_reducible refine' wpList_index_str (.tmp 10) (.tmp 11) 9 rfl ?_ Tryd.underlying9 (l := s) ?_ (t) ?_ ?_ ?_); exact rfl; exact rfl; (show (_ : Int) = _; omega); exact hsl; simp only [Act.put, List.setIfInBounds_toArray, List.set_cons_succ, List.set_cons_zero]) | ((with_reducible refine' wpList_at_blk (.tmp 3) (.tmp 9) 23 rfl ?_ Tryd.underlying23 sz_u8 ?_ (t) ?_ ?_ ?_); exact rfl; exact rfl; (show (_ : Int) = _; omega); omega; simp only [Act.put, List.setIfInBounds_toArray, List.set_cons_succ, List.set_cons_zero])
        | (((with_reducible refine' wpList_set_blk (u := .int .u8 ((gb s t).toNat : Int)) 5 (.tmp 13) (.tmp 12) rfl ?_ sz_u8 ?_ ?_ hkD (HLEN.out) ?_ ?_); exact rfl; exact rfl; exact rfl; exact rfl; intro w7 hk7 hO7 hz7; simp only [Act.put]); rw [SET.out, TS.out] at hk7))
      go_roundw
      case rel => exact ⟨t + 1, by omega, by go_num, hk7, hO7.blk hkR (by have := HZ.out; omega), hbl.trans (hO7.below (by have := HZ.out; omega) hbl.size)⟩
      case measure => simp [intOf]; omega
    · obtain rfl : t = 16 := by omega
      rw [Nat.sub_self, List.replicate_zero, List.append_nil] at hkD
      go_wp2_with (first | ((with_reducible refine' wpList_loadall_blk (.tmp 3) 23 rfl ?_ Tryd.underlying23 sz_dig ?_ hkD ?_ ?_ ?_); exact rfl; exact rfl; exact D16.out; omega; simp only [Act.put, List.setIfInBounds_toArray, List.set_cons_succ, List.set_cons_zero]) | ((with_reducible refine' wpList_store_blk (cs := bv (s.take 16)) 23 (.tmp 2) (.tmp 14) rfl ?_ ?_ ?_ hkR sz_dig ?_ ?_ ?_ ?_); exact rfl; exact rfl; exact rfl; exact D16.out; exact List.length_replicate; exact bv_one _; intro w8 hk8 hO8 hz8; simp only [Act.put]))
      ((try simp only [Exit.inBlock, Exit.then]); refine bodyPost_ret (results_cell_row rfl _ _ _ _ _ _ _ rfl hk8 Tryd.underlying23 rfl (by rw [sz_dig]; simp [D16.out])) rfl ?_)
      exact ⟨rfl, hbl.trans (hO8.below (Nat.le_refl _) hbl.size)⟩

theorem chain_cl (ix ch : Int) (hi : I64 ix) (hc : I64 ch) : (chainB ++ encInts [ix, ch]).length ≤ 1000000 := by
  have EL2 : (encInts [ix, ch]).length ≤ 27 := encInts_len [ix, ch] (by simp) (ok2 hi hc)
  rw [List.length_append]; show 5 + _ ≤ _; omega
set_option maxRecDepth 100000 in
theorem refstart_any (seed : List UInt8) (ix ch : Int) (w : World) (hT : TabR w) (hi : I64 ix) (hc : I64 ch) (hs : seed.length ≤ 1000000) :
    Calls Tryd.prog 33 #[.string ⟨seed.toArray⟩, .int .i64 ix, .int .i64 ch] w fun e w' => e = .returned (.agg (bv (startV seed ix ch)).toArray) ∧ Below w.heap.size w w' := by
  have OK := Lib.hid (ok2 hi hc)
  have EL2 : (encInts [ix, ch]).length ≤ 27 := encInts_len [ix, ch] (by simp) OK.out
  obtain ⟨M, hM⟩ : ∃ M, mac seed (chainB ++ encInts [ix, ch]) = M := ⟨_, rfl⟩
  have hM32 : M.length = 32 := by rw [← hM, mac_len]
  have hM16 : 16 ≤ M.length := by omega
  have SV := Lib.hid (show M.take 16 = startV seed ix ch by rw [← hM]; unfold startV; rfl)
  have HM := Lib.hid hM
  have CL := Lib.hid (chain_cl ix ch hi hc)
  have S16 := Lib.hid (show (bv (startV seed ix ch)).length = 16 by rw [bv_length, startV_len])
  clear hM hM32
  go_enter Tryd.func33, Tryd.ntmps33
  have hb := Below.refl w.heap.size w
  go_wp2_with (first
    | (((with_reducible refine' wpList_alloc_blk (cs := List.replicate 16 (.int .u8 0)) 23 rfl ?_ zr_dig ?_ ?_); exact rfl; exact zeros_u8 16; intro w1 k1 hN hz1; simp only [Act.put, List.setIfInBounds_toArray, List.set_cons_succ, List.set_cons_zero]); replace hb := hb.trans ((by exact hN : Below _ _ _).mono hb.size); have hz := hb.size)
    | (((with_reducible refine' wpList_build_cs (cs := iv [ix, ch]) rfl ?_ Tryd.underlying25 inf_int ?_ ?_ ?_ ?_ ?_ ?_); exact rfl; exact rfl; omega; omega; exact rfl; exact iv_one _; intro v2 w2 r2 hN; simp only [Act.put, List.setIfInBounds_toArray, List.set_cons_succ, List.set_cons_zero]); replace hb := hb.trans ((by exact hN : Below _ _ _).mono hb.size); (try replace k1 := Blk.below k1 hN (Blk.lt k1)))
    | ((go_at_call 50; (with_reducible refine (refsints_any _ _ [ix, ch] _ r2 OK.out (by simp)).mono ?_); rintro e w' ⟨rfl, hN⟩); replace hb := hb.trans ((by exact hN : Below _ _ _).mono hb.size); (try replace k1 := Blk.below k1 hN (Blk.lt k1)); have hT2 := hT.below hb)
    | ((with_reducible refine' wpList_str_add (l := chainB) (m := encInts [ix, ch]) _ (.tmp 11) 9 9 rfl ?_ ?_ ?_ ?_ ?_); exact rfl; exact rfl; exact rfl; (show 5 + _ ≤ _; omega))
    | ((go_at_call 51; (with_reducible refine (refmac_any seed (chainB ++ encInts [ix, ch]) _ hT2 (by omega) CL.out).mono ?_); rintro e w' ⟨rfl, hN⟩); rw [HM.out]; replace hb := hb.trans ((by exact hN : Below _ _ _).mono hb.size); (try replace k1 := Blk.below k1 hN (Blk.lt k1)))
    | ((go_at_call 42; (with_reducible refine (refdigest_any M _ hM16).mono ?_); rintro e w' ⟨rfl, hN⟩); rw [SV.out]; replace hb := hb.trans ((by exact hN : Below _ _ _).mono hb.size); (try replace k1 := Blk.below k1 hN (Blk.lt k1)))
    | ((with_reducible refine' wpList_store_blk (cs := bv (startV seed ix ch)) 23 (.tmp 6) (.tmp 14) rfl ?_ ?_ ?_ k1 sz_dig ?_ ?_ ?_ ?_); exact rfl; exact rfl; exact rfl; exact S16.out; exact List.length_replicate; exact bv_one _; intro w9 hk9 hO9 hz9; simp only [Act.put]))
  ((try simp only [Exit.inBlock, Exit.then]); refine bodyPost_ret (results_cell_row rfl _ _ _ _ _ _ _ rfl hk9 Tryd.underlying23 rfl (by rw [sz_dig]; simp [S16.out])) rfl ?_)
  exact ⟨rfl, hb.trans (hO9.below (Nat.le_refl _) hb.size)⟩

set_option maxRecDepth 100000 in
theorem node_any (a b : List UInt8) (w : World) (hT : TabH w) (ha : a.length = 16) (hb : b.length = 16) :
    Calls Tryd.prog 40 #[.agg (bv a).toArray, .agg (bv b).toArray] w fun e w' => e = .returned (.agg (bv (nodeD a b)).toArray) ∧ Below w.heap.size w w' := by
  have IL := Lib.hid (inp_len2 10 a b (by omega) (by omega))
  have AL := Lib.hid (show (bv a).length = 16 by rw [bv_length, ha])
  have BL := Lib.hid (show (bv b).length = 16 by rw [bv_length, hb])
  have ND := Lib.hid (show digOf 10 [a, b] = nodeD a b from rfl)
  have NL := Lib.hid (show (bv (nodeD a b)).length = 16 by rw [bv_length, nodeD_len])
  obtain ⟨nd, hnd⟩ : ∃ nd, nodeD a b = nd := ⟨_, rfl⟩
  rw [hnd] at ND NL
  have HND := Lib.hid hnd
  have HA := Lib.hid ha; have HB := Lib.hid hb
  clear hnd ha hb
  go_enter Tryd.func40, Tryd.ntmps40
  go_upto_region 1 with (first | ((with_reducible refine' wpList_boxa (cs := bv a) 23 (.tmp 0) rfl ?_ ?_ ?_); exact rfl; exact rfl; intro w1 hk1 hN1 hz1; simp only [Act.put, List.setIfInBounds_toArray, List.set_cons_succ, List.set_cons_zero]) | ((with_reducible refine' wpList_boxa (cs := bv b) 23 (.tmp 1) rfl ?_ ?_ ?_); exact rfl; exact rfl; intro w2 hk2 hN2 hz2; simp only [Act.put, List.setIfInBounds_toArray, List.set_cons_succ, List.set_cons_zero]) | ((with_reducible refine' wpList_alloc_blk (cs := List.replicate 16 (.int .u8 0)) 23 rfl ?_ zr_dig ?_ ?_); exact rfl; exact zeros_u8 16; intro w3 hk3 hN3 hz3; simp only [Act.put, List.setIfInBounds_toArray, List.set_cons_succ, List.set_cons_zero]))
  have s1 := hN1.size; have s2 := hN2.size; have s3 := hN3.size
  replace hk1 := (hk1.below hN2 hk1.lt).below hN3 (by omega)
  replace hk2 := hk2.below hN3 hk2.lt
  have hb3 := (hN1.trans (hN2.mono s1)).trans (hN3.mono (by omega))
  have l1 := hk1.lt; have l2 := hk2.lt; have l3 := hk3.lt
  have HZ : Hid (w2.heap.size = w.heap.size + 2) := Lib.hid (by omega)
  have HZ1 : Hid (w1.heap.size = w.heap.size + 1) := Lib.hid (by omega)
  have hrA := hk1.rd 0 16 16 1 (by rw [AL.out]; decide) (Nat.le_refl _) (by unfold maxLen; omega)
  rw [List.drop_zero, List.take_of_length_le (by rw [AL.out]; decide)] at hrA
  have hrB := hk2.rd 0 16 16 1 (by rw [BL.out]; decide) (Nat.le_refl _) (by unfold maxLen; omega)
  rw [List.drop_zero, List.take_of_length_le (by rw [BL.out]; decide)] at hrB
  have hT3 := hT.below hb3
  clear hz1 hz2 hz3 hN1 hN2 hN3
  refine wp_region_mono (w := w3) 6 (fun i => match i with | 0 => fun (vv : Value) (ww : World) => vv = .slice (some ⟨w.heap.size, 0, none⟩) 16 16 | 1 => fun (vv : Value) (ww : World) => vv = .string ⟨a.toArray⟩ | 2 => fun (vv : Value) (ww : World) => vv = .slice (some ⟨w1.heap.size, 0, none⟩) 16 16 | 3 => fun (vv : Value) (ww : World) => vv = .string ⟨b.toArray⟩ | 4 => fun (vv : Value) (ww : World) => Rd ww 1 vv 2 (sv [a, b]) | 5 => fun (vv : Value) (ww : World) => vv = .agg (bv nd).toArray | _ => fun _ _ => True) (by kernel_rfl) (by kernel_rfl) ?_ ?_ ?_
  · intro i vv w1 w2 h hb
    rcases i with _ | _ | _ | _ | _ | _ | i
    all_goals first | exact h | exact Rd.below h hb | exact own_below h hb | (obtain ⟨B, h1, h2, h3⟩ := h; exact ⟨B, h1, h2, Blk.below h3 hb (Blk.lt h3)⟩) | trivial
  · intro i o hi ho us wz hl hbz hd
    obtain ⟨u0, u1, u2, u3, u4, u5, rfl⟩ := len6 hl
    rcases i with _ | _ | _ | _ | _ | _ | i
    · simp only [List.getElem?_cons_succ, List.getElem?_cons_zero, Option.some.injEq] at ho; subst ho; clear hi hl
      clear hd
      simp only [List.take_succ_cons, List.take_zero, List.drop_succ_cons, List.drop_zero, List.map_cons, List.map_nil, puts, Act.put, List.setIfInBounds_toArray, List.set_cons_succ, List.set_cons_zero]
      go_wp2_with (((with_reducible refine' wpList_arr_all (B := w.heap.size) (f := 0) (.tmp 2) 23 rfl ?_ Tryd.underlying23 sz_u8 ?_ ?_); exact rfl; exact rfl; simp only [Act.put, List.setIfInBounds_toArray, List.set_cons_succ, List.set_cons_zero]))
      exact ⟨rfl, _, rfl, Below.refl _ _, rfl⟩
    · simp only [List.getElem?_cons_succ, List.getElem?_cons_zero, Option.some.injEq] at ho; subst ho; clear hi hl
      have s0 : (fun (vv : Value) (ww : World) => vv = .slice (some ⟨w.heap.size, 0, none⟩) 16 16) u0 wz := hd 0 (by kernel_rfl)
      simp only at s0
      obtain rfl := s0
      clear hd
      simp only [List.take_succ_cons, List.take_zero, List.drop_succ_cons, List.drop_zero, List.map_cons, List.map_nil, puts, Act.put, List.setIfInBounds_toArray, List.set_cons_succ, List.set_cons_zero]
      go_wp2_with (((with_reducible refine' wpList_str_rd (.tmp 5) 52 9 rfl ?_ Tryd.underlying52 Tryd.underlying5 Tryd.underlying9 ?_ (hrA.below hbz) ?_); exact rfl; exact rfl; simp only [Act.put, List.setIfInBounds_toArray, List.set_cons_succ, List.set_cons_zero]))
      exact ⟨rfl, _, rfl, Below.refl _ _, rfl⟩
    · simp only [List.getElem?_cons_succ, List.getElem?_cons_zero, Option.some.injEq] at ho; subst ho; clear hi hl
      clear hd
      simp only [List.take_succ_cons, List.take_zero, List.drop_succ_cons, List.drop_zero, List.map_cons, List.map_nil, puts, Act.put, List.setIfInBounds_toArray, List.set_cons_succ, List.set_cons_zero]
      go_wp2_with (((with_reducible refine' wpList_arr_all (B := w1.heap.size) (f := 0) (.tmp 3) 23 rfl ?_ Tryd.underlying23 sz_u8 ?_ ?_); exact rfl; exact rfl; simp only [Act.put, List.setIfInBounds_toArray, List.set_cons_succ, List.set_cons_zero]))
      exact ⟨rfl, _, rfl, Below.refl _ _, rfl⟩
    · simp only [List.getElem?_cons_succ, List.getElem?_cons_zero, Option.some.injEq] at ho; subst ho; clear hi hl
      have s2 : (fun (vv : Value) (ww : World) => vv = .slice (some ⟨w1.heap.size, 0, none⟩) 16 16) u2 wz := hd 2 (by kernel_rfl)
      simp only at s2
      obtain rfl := s2
      clear hd
      simp only [List.take_succ_cons, List.take_zero, List.drop_succ_cons, List.drop_zero, List.map_cons, List.map_nil, puts, Act.put, List.setIfInBounds_toArray, List.set_cons_succ, List.set_cons_zero]
      go_wp2_with (((with_reducible refine' wpList_str_rd (.tmp 7) 52 9 rfl ?_ Tryd.underlying52 Tryd.underlying5 Tryd.underlying9 ?_ (hrB.below hbz) ?_); exact rfl; exact rfl; simp only [Act.put, List.setIfInBounds_toArray, List.set_cons_succ, List.set_cons_zero]))
      exact ⟨rfl, _, rfl, Below.refl _ _, rfl⟩
    · simp only [List.getElem?_cons_succ, List.getElem?_cons_zero, Option.some.injEq] at ho; subst ho; clear hi hl
      have s1 : (fun (vv : Value) (ww : World) => vv = .string ⟨a.toArray⟩) u1 wz := hd 1 (by kernel_rfl)
      simp only at s1
      obtain rfl := s1
      have s3 : (fun (vv : Value) (ww : World) => vv = .string ⟨b.toArray⟩) u3 wz := hd 3 (by kernel_rfl)
      simp only at s3
      obtain rfl := s3
      clear hd
      simp only [List.take_succ_cons, List.take_zero, List.drop_succ_cons, List.drop_zero, List.map_cons, List.map_nil, puts, Act.put, List.setIfInBounds_toArray, List.set_cons_succ, List.set_cons_zero]
      go_wp2_with (((with_reducible refine' wpList_build_cs (cs := sv [a, b]) rfl ?_ Tryd.underlying66 inf_str ?_ ?_ ?_ ?_ ?_ ?_); exact rfl; exact rfl; omega; omega; exact rfl; exact sv_one _; intro v7 w7 r7 hNq; simp only [Act.put, List.setIfInBounds_toArray, List.set_cons_succ, List.set_cons_zero]))
      exact ⟨rfl, _, rfl, hNq, r7⟩
    · simp only [List.getElem?_cons_succ, List.getElem?_cons_zero, Option.some.injEq] at ho; subst ho; clear hi hl
      have s4 : (fun (vv : Value) (ww : World) => Rd ww 1 vv 2 (sv [a, b])) u4 wz := hd 4 (by kernel_rfl)
      simp only at s4
      clear hd
      simp only [List.take_succ_cons, List.take_zero, List.drop_succ_cons, List.drop_zero, List.map_cons, List.map_nil, puts, Act.put, List.setIfInBounds_toArray, List.set_cons_succ, List.set_cons_zero]
      go_wp2_with (((go_at_call 34; (with_reducible refine (of_any 10 _ _ [a, b] _ (hT3.below hbz) s4 (by decide) (by decide) IL.out).mono ?_); rintro e w' ⟨rfl, hq⟩); rw [ND.out]))
      exact ⟨rfl, _, rfl, hq, rfl⟩
    · omega
  intro us wz hl hbz hS
  obtain ⟨u0, u1, u2, u3, u4, u5, rfl⟩ := len6 hl
  have s5 : (fun (vv : Value) (ww : World) => vv = .agg (bv nd).toArray) u5 wz := hS 5 (by omega)
  simp only at s5
  obtain rfl := s5
  clear hS hl
  simp only [List.take_succ_cons, List.take_zero, List.drop_succ_cons, List.drop_zero, List.map_cons, List.map_nil, puts, Act.put, List.setIfInBounds_toArray, List.set_cons_succ, List.set_cons_zero]
  have hk3z := hk3.below hbz l3
  ((with_reducible refine' wpList_store_blk (cs := bv nd) 23 (.tmp 4) (.tmp 10) rfl ?_ ?_ ?_ hk3z sz_dig ?_ ?_ ?_ ?_); exact rfl; exact rfl; exact rfl; exact NL.out; exact List.length_replicate; exact bv_one _; intro w4 hk4 hO4 hz4; simp only [Act.put])
  refine onlyN ?_
  go_wp2_with fail
  ((try simp only [Exit.inBlock, Exit.then]); refine bodyPost_ret (results_cell_row rfl _ _ _ _ _ _ _ rfl hk4 Tryd.underlying23 rfl (by rw [sz_dig]; simp [NL.out])) rfl ?_)
  exact ⟨by rw [HND.out], (hb3.trans (hbz.mono hb3.size)).trans (hO4.below (by have := HZ.out; omega) (by have := hb3.size; have := hbz.size; omega))⟩
set_option maxRecDepth 100000 in
theorem refnode_any (a b : List UInt8) (w : World) (hT : TabR w) (ha : a.length = 16) (hb : b.length = 16) :
    Calls Tryd.prog 43 #[.agg (bv a).toArray, .agg (bv b).toArray] w fun e w' => e = .returned (.agg (bv (nodeD a b)).toArray) ∧ Below w.heap.size w w' := by
  have IL := Lib.hid (inp_len2 10 a b (by omega) (by omega))
  have AL := Lib.hid (show (bv a).length = 16 by rw [bv_length, ha])
  have BL := Lib.hid (show (bv b).length = 16 by rw [bv_length, hb])
  have ND := Lib.hid (show digOf 10 [a, b] = nodeD a b from rfl)
  have NL := Lib.hid (show (bv (nodeD a b)).length = 16 by rw [bv_length, nodeD_len])
  obtain ⟨nd, hnd⟩ : ∃ nd, nodeD a b = nd := ⟨_, rfl⟩
  rw [hnd] at ND NL
  have HND := Lib.hid hnd
  have HA := Lib.hid ha; have HB := Lib.hid hb
  clear hnd ha hb
  go_enter Tryd.func43, Tryd.ntmps43
  go_upto_region 1 with (first | ((with_reducible refine' wpList_boxa (cs := bv a) 23 (.tmp 0) rfl ?_ ?_ ?_); exact rfl; exact rfl; intro w1 hk1 hN1 hz1; simp only [Act.put, List.setIfInBounds_toArray, List.set_cons_succ, List.set_cons_zero]) | ((with_reducible refine' wpList_boxa (cs := bv b) 23 (.tmp 1) rfl ?_ ?_ ?_); exact rfl; exact rfl; intro w2 hk2 hN2 hz2; simp only [Act.put, List.setIfInBounds_toArray, List.set_cons_succ, List.set_cons_zero]) | ((with_reducible refine' wpList_alloc_blk (cs := List.replicate 16 (.int .u8 0)) 23 rfl ?_ zr_dig ?_ ?_); exact rfl; exact zeros_u8 16; intro w3 hk3 hN3 hz3; simp only [Act.put, List.setIfInBounds_toArray, List.set_cons_succ, List.set_cons_zero]))
  have s1 := hN1.size; have s2 := hN2.size; have s3 := hN3.size
  replace hk1 := (hk1.below hN2 hk1.lt).below hN3 (by omega)
  replace hk2 := hk2.below hN3 hk2.lt
  have hb3 := (hN1.trans (hN2.mono s1)).trans (hN3.mono (by omega))
  have l1 := hk1.lt; have l2 := hk2.lt; have l3 := hk3.lt
  have HZ : Hid (w2.heap.size = w.heap.size + 2) := Lib.hid (by omega)
  have HZ1 : Hid (w1.heap.size = w.heap.size + 1) := Lib.hid (by omega)
  have hrA := hk1.rd 0 16 16 1 (by rw [AL.out]; decide) (Nat.le_refl _) (by unfold maxLen; omega)
  rw [List.drop_zero, List.take_of_length_le (by rw [AL.out]; decide)] at hrA
  have hrB := hk2.rd 0 16 16 1 (by rw [BL.out]; decide) (Nat.le_refl _) (by unfold maxLen; omega)
  rw [List.drop_zero, List.take_of_length_le (by rw [BL.out]; decide)] at hrB
  have hT3 := hT.below hb3
  clear hz1 hz2 hz3 hN1 hN2 hN3
  refine wp_region_mono (w := w3) 6 (fun i => match i with | 0 => fun (vv : Value) (ww : World) => vv = .agg (bv a).toArray | 1 => fun (vv : Value) (ww : World) => vv = .string ⟨a.toArray⟩ | 2 => fun (vv : Value) (ww : World) => vv = .agg (bv b).toArray | 3 => fun (vv : Value) (ww : World) => vv = .string ⟨b.toArray⟩ | 4 => fun (vv : Value) (ww : World) => Rd ww 1 vv 2 (sv [a, b]) | 5 => fun (vv : Value) (ww : World) => vv = .agg (bv nd).toArray | _ => fun _ _ => True) (by kernel_rfl) (by kernel_rfl) ?_ ?_ ?_
  · intro i vv w1 w2 h hb
    rcases i with _ | _ | _ | _ | _ | _ | i
    all_goals first | exact h | exact Rd.below h hb | exact own_below h hb | (obtain ⟨B, h1, h2, h3⟩ := h; exact ⟨B, h1, h2, Blk.below h3 hb (Blk.lt h3)⟩) | trivial
  · intro i o hi ho us wz hl hbz hd
    obtain ⟨u0, u1, u2, u3, u4, u5, rfl⟩ := len6 hl
    rcases i with _ | _ | _ | _ | _ | _ | i
    · simp only [List.getElem?_cons_succ, List.getElem?_cons_zero, Option.some.injEq] at ho; subst ho; clear hi hl
      clear hd
      simp only [List.take_succ_cons, List.take_zero, List.drop_succ_cons, List.drop_zero, List.map_cons, List.map_nil, puts, Act.put, List.setIfInBounds_toArray, List.set_cons_succ, List.set_cons_zero]
      go_wp2_with (((with_reducible refine' wpList_loadall_blk (.tmp 2) 23 rfl ?_ Tryd.underlying23 sz_dig ?_ (hk1.below hbz l1) ?_ ?_ ?_); exact rfl; exact rfl; exact AL.out; omega; simp only [Act.put, List.setIfInBounds_toArray, List.set_cons_succ, List.set_cons_zero]))
      exact ⟨rfl, _, rfl, Below.refl _ _, rfl⟩
    · simp only [List.getElem?_cons_succ, List.getElem?_cons_zero, Option.some.injEq] at ho; subst ho; clear hi hl
      have s0 : (fun (vv : Value) (ww : World) => vv = .agg (bv a).toArray) u0 wz := hd 0 (by kernel_rfl)
      simp only at s0
      obtain rfl := s0
      clear hd
      simp only [List.take_succ_cons, List.take_zero, List.drop_succ_cons, List.drop_zero, List.map_cons, List.map_nil, puts, Act.put, List.setIfInBounds_toArray, List.set_cons_succ, List.set_cons_zero]
      go_wp2_with ((go_at_call 31; (with_reducible refine (text_any a _ HA.out).mono ?_); rintro e w' ⟨rfl, hq⟩))
      exact ⟨rfl, _, rfl, hq, rfl⟩
    · simp only [List.getElem?_cons_succ, List.getElem?_cons_zero, Option.some.injEq] at ho; subst ho; clear hi hl
      clear hd
      simp only [List.take_succ_cons, List.take_zero, List.drop_succ_cons, List.drop_zero, List.map_cons, List.map_nil, puts, Act.put, List.setIfInBounds_toArray, List.set_cons_succ, List.set_cons_zero]
      go_wp2_with (((with_reducible refine' wpList_loadall_blk (.tmp 3) 23 rfl ?_ Tryd.underlying23 sz_dig ?_ (hk2.below hbz l2) ?_ ?_ ?_); exact rfl; exact rfl; exact BL.out; omega; simp only [Act.put, List.setIfInBounds_toArray, List.set_cons_succ, List.set_cons_zero]))
      exact ⟨rfl, _, rfl, Below.refl _ _, rfl⟩
    · simp only [List.getElem?_cons_succ, List.getElem?_cons_zero, Option.some.injEq] at ho; subst ho; clear hi hl
      have s2 : (fun (vv : Value) (ww : World) => vv = .agg (bv b).toArray) u2 wz := hd 2 (by kernel_rfl)
      simp only at s2
      obtain rfl := s2
      clear hd
      simp only [List.take_succ_cons, List.take_zero, List.drop_succ_cons, List.drop_zero, List.map_cons, List.map_nil, puts, Act.put, List.setIfInBounds_toArray, List.set_cons_succ, List.set_cons_zero]
      go_wp2_with ((go_at_call 31; (with_reducible refine (text_any b _ HB.out).mono ?_); rintro e w' ⟨rfl, hq⟩))
      exact ⟨rfl, _, rfl, hq, rfl⟩
    · simp only [List.getElem?_cons_succ, List.getElem?_cons_zero, Option.some.injEq] at ho; subst ho; clear hi hl
      have s1 : (fun (vv : Value) (ww : World) => vv = .string ⟨a.toArray⟩) u1 wz := hd 1 (by kernel_rfl)
      simp only at s1
      obtain rfl := s1
      have s3 : (fun (vv : Value) (ww : World) => vv = .string ⟨b.toArray⟩) u3 wz := hd 3 (by kernel_rfl)
      simp only at s3
      obtain rfl := s3
      clear hd
      simp only [List.take_succ_cons, List.take_zero, List.drop_succ_cons, List.drop_zero, List.map_cons, List.map_nil, puts, Act.put, List.setIfInBounds_toArray, List.set_cons_succ, List.set_cons_zero]
      go_wp2_with (((with_reducible refine' wpList_build_cs (cs := sv [a, b]) rfl ?_ Tryd.underlying66 inf_str ?_ ?_ ?_ ?_ ?_ ?_); exact rfl; exact rfl; omega; omega; exact rfl; exact sv_one _; intro v7 w7 r7 hNq; simp only [Act.put, List.setIfInBounds_toArray, List.set_cons_succ, List.set_cons_zero]))
      exact ⟨rfl, _, rfl, hNq, r7⟩
    · simp only [List.getElem?_cons_succ, List.getElem?_cons_zero, Option.some.injEq] at ho; subst ho; clear hi hl
      have s4 : (fun (vv : Value) (ww : World) => Rd ww 1 vv 2 (sv [a, b])) u4 wz := hd 4 (by kernel_rfl)
      simp only at s4
      clear hd
      simp only [List.take_succ_cons, List.take_zero, List.drop_succ_cons, List.drop_zero, List.map_cons, List.map_nil, puts, Act.put, List.setIfInBounds_toArray, List.set_cons_succ, List.set_cons_zero]
      go_wp2_with (((go_at_call 35; (with_reducible refine (refof_any 10 _ _ [a, b] _ (hT3.below hbz) s4 (by decide) (by decide) IL.out).mono ?_); rintro e w' ⟨rfl, hq⟩); rw [ND.out]))
      exact ⟨rfl, _, rfl, hq, rfl⟩
    · omega
  intro us wz hl hbz hS
  obtain ⟨u0, u1, u2, u3, u4, u5, rfl⟩ := len6 hl
  have s5 : (fun (vv : Value) (ww : World) => vv = .agg (bv nd).toArray) u5 wz := hS 5 (by omega)
  simp only at s5
  obtain rfl := s5
  clear hS hl
  simp only [List.take_succ_cons, List.take_zero, List.drop_succ_cons, List.drop_zero, List.map_cons, List.map_nil, puts, Act.put, List.setIfInBounds_toArray, List.set_cons_succ, List.set_cons_zero]
  have hk3z := hk3.below hbz l3
  ((with_reducible refine' wpList_store_blk (cs := bv nd) 23 (.tmp 4) (.tmp 10) rfl ?_ ?_ ?_ hk3z sz_dig ?_ ?_ ?_ ?_); exact rfl; exact rfl; exact rfl; exact NL.out; exact List.length_replicate; exact bv_one _; intro w4 hk4 hO4 hz4; simp only [Act.put])
  refine onlyN ?_
  go_wp2_with fail
  ((try simp only [Exit.inBlock, Exit.then]); refine bodyPost_ret (results_cell_row rfl _ _ _ _ _ _ _ rfl hk4 Tryd.underlying23 rfl (by rw [sz_dig]; simp [NL.out])) rfl ?_)
  exact ⟨by rw [HND.out], (hb3.trans (hbz.mono hb3.size)).trans (hO4.below (by have := HZ.out; omega) (by have := hb3.size; have := hbz.size; omega))⟩
end Go.Proofs.YtajglgkjpagcjaaDoor.Wi
namespace Go.Proofs.YtajglgkjpagcjaaDoor.Wi
open Go Go.RowKit Pu Lb
set_option linter.unusedSimpArgs false
set_option linter.unusedVariables false
attribute [local irreducible] comp sched comps sha outS mac digOf encInts adv startV
theorem advance_z (ix ch zt ztt : Int) (t tt : Nat) (h1 : zt = (t : Int)) (h2 : ztt = (tt : Int)) (v : List UInt8) (w : World) (hT : TabH w) (hi : I64 ix) (hc : I64 ch) (htt : t ≤ tt) (hto : tt ≤ 1000000) (hv : v.length = 16) :
    Calls Tryd.prog 27 #[.int .i64 ix, .int .i64 ch, .int .i64 zt, .int .i64 ztt, .agg (bv v).toArray] w fun e w' => e = .returned (.agg (bv (adv ix ch t (tt - t) v)).toArray) ∧ Below w.heap.size w w' := by
  subst h1; subst h2; exact advance_any ix ch t tt v w hT hi hc htt hto hv
theorem refadvance_z (ix ch zt ztt : Int) (t tt : Nat) (h1 : zt = (t : Int)) (h2 : ztt = (tt : Int)) (v : List UInt8) (w : World) (hT : TabR w) (hi : I64 ix) (hc : I64 ch) (htt : t ≤ tt) (hto : tt ≤ 1000000) (hv : v.length = 16) :
    Calls Tryd.prog 32 #[.int .i64 ix, .int .i64 ch, .int .i64 zt, .int .i64 ztt, .agg (bv v).toArray] w fun e w' => e = .returned (.agg (bv (adv ix ch t (tt - t) v)).toArray) ∧ Below w.heap.size w w' := by
  subst h1; subst h2; exact refadvance_any ix ch t tt v w hT hi hc htt hto hv
theorem i64_nat {n : Nat} (h : n ≤ 1000000) : I64 (n : Int) := by constructor <;> omega

set_option maxRecDepth 100000 in
theorem msg_any (p : List UInt8) (ix : Int) (m : List UInt8) (w : World) (hT : TabH w) (hp : p.length = 16) (hi : I64 ix) (hm : m.length ≤ 35184372088832) :
    Calls Tryd.prog 16 #[.agg (bv p).toArray, .int .i64 ix, .string ⟨m.toArray⟩] w fun e w' => e = .returned (.agg (bv (msgD p ix m)).toArray) ∧ Below w.heap.size w w' := by
  have he := enc_len_bd (n := ix) hi.1 hi.2
  have IL := Lib.hid (inp_len3 12 p (enc ix) m (by omega) (by omega) hm)
  have PL := Lib.hid (show (bv p).length = 16 by rw [bv_length, hp])
  have P16 := Lib.hid hp
  have MD := Lib.hid (show digOf 12 [p, enc ix, m] = msgD p ix m from rfl)
  have ML := Lib.hid (show (bv (msgD p ix m)).length = 16 by rw [bv_length, msgD_len])
  have I0 := hi.1
  have I1 := hi.2
  obtain ⟨md, hmd⟩ : ∃ md, msgD p ix m = md := ⟨_, rfl⟩
  rw [hmd] at MD ML
  have HMD := Lib.hid hmd
  clear hmd hp he
  go_enter Tryd.func16, Tryd.ntmps16
  go_upto_region 1 with (first | ((with_reducible refine' wpList_boxa (cs := bv p) 23 (.tmp 0) rfl ?_ ?_ ?_); exact rfl; exact rfl; intro w1 hk1 hN1 hz1; simp only [Act.put, List.setIfInBounds_toArray, List.set_cons_succ, List.set_cons_zero]) | ((with_reducible refine' wpList_alloc_blk (cs := List.replicate 16 (.int .u8 0)) 23 rfl ?_ zr_dig ?_ ?_); exact rfl; exact zeros_u8 16; intro w3 hk3 hN3 hz3; simp only [Act.put, List.setIfInBounds_toArray, List.set_cons_succ, List.set_cons_zero]))
  have s1 := hN1.size; have s3 := hN3.size
  replace hk1 := hk1.below hN3 hk1.lt
  have hb := hN1.trans (hN3.mono (by omega))
  have l1 := hk1.lt; have l3 := hk3.lt
  have HZ1 : Hid (w1.heap.size = w.heap.size + 1) := Lib.hid (by omega)
  have hrA := hk1.rd 0 16 16 1 (by rw [PL.out]; decide) (Nat.le_refl _) (by unfold maxLen; omega)
  rw [List.drop_zero, List.take_of_length_le (by rw [PL.out]; decide)] at hrA
  have hT3 := hT.below hb
  clear hz1 hz3 hN1 hN3
  refine wp_region_mono (w := w3) 8 (fun i => match i with | 0 => fun (vv : Value) (ww : World) => vv = .slice (some ⟨w.heap.size, 0, none⟩) 16 16 | 1 => fun (vv : Value) (ww : World) => vv = .string ⟨p.toArray⟩ | 2 => fun (vv : Value) (ww : World) => vv = .int .i64 ix | 3 => fun (vv : Value) (ww : World) => Rd ww 1 vv (enc ix).length (bv (enc ix)) | 4 => fun (vv : Value) (ww : World) => vv = .string ⟨(enc ix).toArray⟩ | 5 => fun (vv : Value) (ww : World) => vv = .string ⟨m.toArray⟩ | 6 => fun (vv : Value) (ww : World) => Rd ww 1 vv 3 (sv [p, enc ix, m]) | 7 => fun (vv : Value) (ww : World) => vv = .agg (bv md).toArray | _ => fun _ _ => True) (by kernel_rfl) (by kernel_rfl) ?_ ?_ ?_
  · intro i vv w1 w2 h hb
    rcases i with _ | _ | _ | _ | _ | _ | _ | _ | i
    all_goals first | exact h | exact Rd.below h hb | exact own_below h hb | (obtain ⟨B, h1, h2, h3⟩ := h; exact ⟨B, h1, h2, Blk.below h3 hb (Blk.lt h3)⟩) | trivial
  · intro i o hi ho us wz hl hbz hd
    obtain ⟨u0, u1, u2, u3, u4, u5, u6, u7, rfl⟩ := len8 hl
    rcases i with _ | _ | _ | _ | _ | _ | _ | _ | i
    · simp only [List.getElem?_cons_succ, List.getElem?_cons_zero, Option.some.injEq] at ho; subst ho; clear hi hl
      clear hd
      simp only [List.take_succ_cons, List.take_zero, List.drop_succ_cons, List.drop_zero, List.map_cons, List.map_nil, puts, Act.put, List.setIfInBounds_toArray, List.set_cons_succ, List.set_cons_zero]
      go_wp2_with (((with_reducible refine' wpList_arr_all (B := w.heap.size) (f := 0) (.tmp 3) 23 rfl ?_ Tryd.underlying23 sz_u8 ?_ ?_); exact rfl; exact rfl; simp only [Act.put, List.setIfInBounds_toArray, List.set_cons_succ, List.set_cons_zero]))
      exact ⟨rfl, _, rfl, Below.refl _ _, rfl⟩
    · simp only [List.getElem?_cons_succ, List.getElem?_cons_zero, Option.some.injEq] at ho; subst ho; clear hi hl
      have s0 : (fun (vv : Value) (ww : World) => vv = .slice (some ⟨w.heap.size, 0, none⟩) 16 16) u0 wz := hd 0 (by kernel_rfl)
      simp only at s0
      obtain rfl := s0
      clear hd
      simp only [List.take_succ_cons, List.take_zero, List.drop_succ_cons, List.drop_zero, List.map_cons, List.map_nil, puts, Act.put, List.setIfInBounds_toArray, List.set_cons_succ, List.set_cons_zero]
      go_wp2_with (((with_reducible refine' wpList_str_rd (.tmp 7) 52 9 rfl ?_ Tryd.underlying52 Tryd.underlying5 Tryd.underlying9 ?_ (hrA.below hbz) ?_); exact rfl; exact rfl; simp only [Act.put, List.setIfInBounds_toArray, List.set_cons_succ, List.set_cons_zero]))
      exact ⟨rfl, _, rfl, Below.refl _ _, rfl⟩
    · simp only [List.getElem?_cons_succ, List.getElem?_cons_zero, Option.some.injEq] at ho; subst ho; clear hi hl
      clear hd
      simp only [List.take_succ_cons, List.take_zero, List.drop_succ_cons, List.drop_zero, List.map_cons, List.map_nil, puts, Act.put, List.setIfInBounds_toArray, List.set_cons_succ, List.set_cons_zero]
      go_wp2_with (fail)
      exact ⟨rfl, _, rfl, Below.refl _ _, rfl⟩
    · simp only [List.getElem?_cons_succ, List.getElem?_cons_zero, Option.some.injEq] at ho; subst ho; clear hi hl
      have s2 : (fun (vv : Value) (ww : World) => vv = .int .i64 ix) u2 wz := hd 2 (by kernel_rfl)
      simp only at s2
      obtain rfl := s2
      clear hd
      simp only [List.take_succ_cons, List.take_zero, List.drop_succ_cons, List.drop_zero, List.map_cons, List.map_nil, puts, Act.put, List.setIfInBounds_toArray, List.set_cons_succ, List.set_cons_zero]
      go_wp2_with ((go_at_call 26; (with_reducible refine (int_any ix _ I0 I1).mono ?_); rintro e w' ⟨vq, rfl, hoq, hq⟩))
      exact ⟨rfl, _, rfl, hq, Rd.of_own hoq⟩
    · simp only [List.getElem?_cons_succ, List.getElem?_cons_zero, Option.some.injEq] at ho; subst ho; clear hi hl
      have s3 : (fun (vv : Value) (ww : World) => Rd ww 1 vv (enc ix).length (bv (enc ix))) u3 wz := hd 3 (by kernel_rfl)
      simp only at s3
      clear hd
      simp only [List.take_succ_cons, List.take_zero, List.drop_succ_cons, List.drop_zero, List.map_cons, List.map_nil, puts, Act.put, List.setIfInBounds_toArray, List.set_cons_succ, List.set_cons_zero]
      go_wp2_with (((with_reducible refine' wpList_str_rd (.tmp 10) 52 9 rfl ?_ Tryd.underlying52 Tryd.underlying5 Tryd.underlying9 ?_ s3 ?_); exact rfl; exact rfl; simp only [Act.put, List.setIfInBounds_toArray, List.set_cons_succ, List.set_cons_zero]))
      exact ⟨rfl, _, rfl, Below.refl _ _, rfl⟩
    · simp only [List.getElem?_cons_succ, List.getElem?_cons_zero, Option.some.injEq] at ho; subst ho; clear hi hl
      clear hd
      simp only [List.take_succ_cons, List.take_zero, List.drop_succ_cons, List.drop_zero, List.map_cons, List.map_nil, puts, Act.put, List.setIfInBounds_toArray, List.set_cons_succ, List.set_cons_zero]
      go_wp2_with (fail)
      exact ⟨rfl, _, rfl, Below.refl _ _, rfl⟩
    · simp only [List.getElem?_cons_succ, List.getElem?_cons_zero, Option.some.injEq] at ho; subst ho; clear hi hl
      have s1 : (fun (vv : Value) (ww : World) => vv = .string ⟨p.toArray⟩) u1 wz := hd 1 (by kernel_rfl)
      simp only at s1
      obtain rfl := s1
      have s4 : (fun (vv : Value) (ww : World) => vv = .string ⟨(enc ix).toArray⟩) u4 wz := hd 4 (by kernel_rfl)
      simp only at s4
      obtain rfl := s4
      have s5 : (fun (vv : Value) (ww : World) => vv = .string ⟨m.toArray⟩) u5 wz := hd 5 (by kernel_rfl)
      simp only at s5
      obtain rfl := s5
      clear hd
      simp only [List.take_succ_cons, List.take_zero, List.drop_succ_cons, List.drop_zero, List.map_cons, List.map_nil, puts, Act.put, List.setIfInBounds_toArray, List.set_cons_succ, List.set_cons_zero]
      go_wp2_with (((with_reducible refine' wpList_build_cs (cs := sv [p, enc ix, m]) rfl ?_ Tryd.underlying66 inf_str ?_ ?_ ?_ ?_ ?_ ?_); exact rfl; exact rfl; omega; omega; exact rfl; exact sv_one _; intro v7 w7 r7 hNq; simp only [Act.put, List.setIfInBounds_toArray, List.set_cons_succ, List.set_cons_zero]))
      exact ⟨rfl, _, rfl, hNq, r7⟩
    · simp only [List.getElem?_cons_succ, List.getElem?_cons_zero, Option.some.injEq] at ho; subst ho; clear hi hl
      have s6 : (fun (vv : Value) (ww : World) => Rd ww 1 vv 3 (sv [p, enc ix, m])) u6 wz := hd 6 (by kernel_rfl)
      simp only at s6
      clear hd
      simp only [List.take_succ_cons, List.take_zero, List.drop_succ_cons, List.drop_zero, List.map_cons, List.map_nil, puts, Act.put, List.setIfInBounds_toArray, List.set_cons_succ, List.set_cons_zero]
      go_wp2_with (((go_at_call 34; (with_reducible refine (of_any 12 _ _ [p, enc ix, m] _ (hT3.below hbz) s6 (by decide) (by decide) IL.out).mono ?_); rintro e w' ⟨rfl, hq⟩); rw [MD.out]))
      exact ⟨rfl, _, rfl, hq, rfl⟩
    · omega
  intro us wz hl hbz hS
  obtain ⟨u0, u1, u2, u3, u4, u5, u6, u7, rfl⟩ := len8 hl
  have s7 : (fun (vv : Value) (ww : World) => vv = .agg (bv md).toArray) u7 wz := hS 7 (by omega)
  simp only at s7
  obtain rfl := s7
  clear hS hl
  simp only [List.take_succ_cons, List.take_zero, List.drop_succ_cons, List.drop_zero, List.map_cons, List.map_nil, puts, Act.put, List.setIfInBounds_toArray, List.set_cons_succ, List.set_cons_zero]
  have hk3z := hk3.below hbz l3
  ((with_reducible refine' wpList_store_blk (cs := bv md) 23 (.tmp 6) (.tmp 14) rfl ?_ ?_ ?_ hk3z sz_dig ?_ ?_ ?_ ?_); exact rfl; exact rfl; exact rfl; exact ML.out; exact List.length_replicate; exact bv_one _; intro w4 hk4 hO4 hz4; simp only [Act.put])
  refine onlyN ?_
  go_wp2_with fail
  ((try simp only [Exit.inBlock, Exit.then]); refine bodyPost_ret (results_cell_row rfl _ _ _ _ _ _ _ rfl hk4 Tryd.underlying23 rfl (by rw [sz_dig]; simp [ML.out])) rfl ?_)
  exact ⟨by rw [HMD.out], (hb.trans (hbz.mono hb.size)).trans (hO4.below (by have := HZ1.out; omega) (by have := hb.size; have := hbz.size; omega))⟩
set_option maxRecDepth 100000 in
theorem refmsg_any (p : List UInt8) (ix : Int) (m : List UInt8) (w : World) (hT : TabR w) (hp : p.length = 16) (hi : I64 ix) (hm : m.length ≤ 35184372088832) :
    Calls Tryd.prog 17 #[.agg (bv p).toArray, .int .i64 ix, .string ⟨m.toArray⟩] w fun e w' => e = .returned (.agg (bv (msgD p ix m)).toArray) ∧ Below w.heap.size w w' := by
  have he := enc_len_bd (n := ix) hi.1 hi.2
  have IL := Lib.hid (inp_len3 12 p (enc ix) m (by omega) (by omega) hm)
  have PL := Lib.hid (show (bv p).length = 16 by rw [bv_length, hp])
  have P16 := Lib.hid hp
  have MD := Lib.hid (show digOf 12 [p, enc ix, m] = msgD p ix m from rfl)
  have ML := Lib.hid (show (bv (msgD p ix m)).length = 16 by rw [bv_length, msgD_len])
  have I0 := hi.1
  have I1 := hi.2
  obtain ⟨md, hmd⟩ : ∃ md, msgD p ix m = md := ⟨_, rfl⟩
  rw [hmd] at MD ML
  have HMD := Lib.hid hmd
  clear hmd hp he
  go_enter Tryd.func17, Tryd.ntmps17
  go_upto_region 1 with (first | ((with_reducible refine' wpList_boxa (cs := bv p) 23 (.tmp 0) rfl ?_ ?_ ?_); exact rfl; exact rfl; intro w1 hk1 hN1 hz1; simp only [Act.put, List.setIfInBounds_toArray, List.set_cons_succ, List.set_cons_zero]) | ((with_reducible refine' wpList_alloc_blk (cs := List.replicate 16 (.int .u8 0)) 23 rfl ?_ zr_dig ?_ ?_); exact rfl; exact zeros_u8 16; intro w3 hk3 hN3 hz3; simp only [Act.put, List.setIfInBounds_toArray, List.set_cons_succ, List.set_cons_zero]))
  have s1 := hN1.size; have s3 := hN3.size
  replace hk1 := hk1.below hN3 hk1.lt
  have hb := hN1.trans (hN3.mono (by omega))
  have l1 := hk1.lt; have l3 := hk3.lt
  have HZ1 : Hid (w1.heap.size = w.heap.size + 1) := Lib.hid (by omega)
  have hrA := hk1.rd 0 16 16 1 (by rw [PL.out]; decide) (Nat.le_refl _) (by unfold maxLen; omega)
  rw [List.drop_zero, List.take_of_length_le (by rw [PL.out]; decide)] at hrA
  have hT3 := hT.below hb
  clear hz1 hz3 hN1 hN3
  go_wp2_with (first
    | ((with_reducible refine' wpList_loadall_blk (.tmp 3) 23 rfl ?_ Tryd.underlying23 sz_dig ?_ hk1 ?_ ?_ ?_); exact rfl; exact rfl; exact PL.out; omega; simp only [Act.put, List.setIfInBounds_toArray, List.set_cons_succ, List.set_cons_zero])
    | ((go_at_call 31; (with_reducible refine (text_any p _ P16.out).mono ?_); rintro e w' ⟨rfl, hN⟩); replace hb := hb.trans ((by exact hN : Below _ _ _).mono hb.size); (try replace hk3 := Blk.below hk3 hN (Blk.lt hk3)))
    | ((go_at_call 30; (with_reducible refine (refint_any ix _ I0 I1).mono ?_); rintro e w' ⟨v2, rfl, ho2, hN⟩); have hr2 := Rd.of_own ho2; replace hb := hb.trans ((by exact hN : Below _ _ _).mono hb.size); (try replace hk3 := Blk.below hk3 hN (Blk.lt hk3)))
    | ((with_reducible refine' wpList_str_rd (.tmp 10) 52 9 rfl ?_ Tryd.underlying52 Tryd.underlying5 Tryd.underlying9 ?_ hr2 ?_); exact rfl; exact rfl; simp only [Act.put, List.setIfInBounds_toArray, List.set_cons_succ, List.set_cons_zero])
    | (((with_reducible refine' wpList_build_cs (cs := sv [p, enc ix, m]) rfl ?_ Tryd.underlying66 inf_str ?_ ?_ ?_ ?_ ?_ ?_); exact rfl; exact rfl; omega; omega; exact rfl; exact sv_one _; intro v7 w7 r7 hN; simp only [Act.put, List.setIfInBounds_toArray, List.set_cons_succ, List.set_cons_zero]); replace hb := hb.trans ((by exact hN : Below _ _ _).mono hb.size); (try replace hk3 := Blk.below hk3 hN (Blk.lt hk3)); have hT7 := hT.below hb)
    | ((go_at_call 35; (with_reducible refine (refof_any 12 _ _ [p, enc ix, m] _ hT7 r7 (by decide) (by decide) IL.out).mono ?_); rintro e w' ⟨rfl, hN⟩); rw [MD.out]; replace hb := hb.trans ((by exact hN : Below _ _ _).mono hb.size); (try replace hk3 := Blk.below hk3 hN (Blk.lt hk3)))
    | ((with_reducible refine' wpList_store_blk (cs := bv md) 23 (.tmp 6) (.tmp 14) rfl ?_ ?_ ?_ hk3 sz_dig ?_ ?_ ?_ ?_); exact rfl; exact rfl; exact rfl; exact ML.out; exact List.length_replicate; exact bv_one _; intro w4 hk4 hO4 hz4; simp only [Act.put]))
  ((try simp only [Exit.inBlock, Exit.then]); refine bodyPost_ret (results_cell_row rfl _ _ _ _ _ _ _ rfl hk4 Tryd.underlying23 rfl (by rw [sz_dig]; simp [ML.out])) rfl ?_)
  exact ⟨by rw [HMD.out], hb.trans (hO4.below (by have := HZ1.out; omega) (by have := hb.size; omega))⟩

set_option maxRecDepth 100000 in
theorem refleaf_any (seed : List UInt8) (k : Nat) (w : World) (hT : TabR w) (hs : seed.length ≤ 1000000) (hk : k ≤ 1000000) :
    Calls Tryd.prog 46 #[.string ⟨seed.toArray⟩, .int .i64 (k : Int)] w fun e w' => e = .returned (.agg (bv (leafAt seed k)).toArray) ∧ Below w.heap.size w w' := by
  have KI := Lib.hid (i64_nat hk)
  go_enter Tryd.func46, Tryd.ntmps46
  go_wp2_with (((with_reducible refine' wpList_alloc_blk (cs := List.replicate 16 (.int .u8 0)) 23 rfl ?_ zr_dig ?_ ?_); exact rfl; exact zeros_u8 16; intro w1 hk1 hN1 hz1; simp only [Act.put, List.setIfInBounds_toArray, List.set_cons_succ, List.set_cons_zero]))
  clear hz1
  go_loopw [5, 6] (fun s c wr => ∃ j : Nat, j ≤ 68 ∧ c = .int .i64 (j : Int) ∧ s = .string ⟨(vals (topV seed k) j).toArray⟩ ∧ Blk wr w.heap.size 23 (List.replicate 16 (.int .u8 0)) ∧ Below w.heap.size w wr) (fun _ c _ => 68 - (intOf c).toNat)
  case atStart => exact ⟨0, by omega, rfl, rfl, hk1, hN1⟩
  case round =>
    obtain ⟨j, hj, rfl, rfl, hkR, hb⟩ := hrel
    have hvl := vals_len (f := topV seed k) (n := j) (fun c _ => topV_len seed k c)
    by_cases hlt : j < 68
    · obtain ⟨wo, rfl⟩ : ∃ wo : World, wo = wr := ⟨_, rfl⟩
      have JI := Lib.hid (i64_nat (show j ≤ 1000000 by omega))
      have hTo := hT.below hb
      have TV := Lib.hid (show adv (k : Int) (j : Int) 0 (3 - 0) (startV seed k j) = topV seed k j from rfl)
      have S16 := Lib.hid (startV_len seed k j)
      have T16 := Lib.hid (topV_len seed k j)
      have VS := Lib.hid (vals_succ (topV seed k) j)
      obtain ⟨S, hS⟩ : ∃ S, vals (topV seed k) j = S := ⟨_, rfl⟩
      rw [hS] at hvl VS ⊢
      have HVL := Lib.hid hvl
      clear hS hvl
      go_wp2_with (first
        | ((go_at_call 33; (with_reducible refine (refstart_any seed k j _ hTo KI.out JI.out hs).mono ?_); rintro e w' ⟨rfl, hN⟩); replace hb := hb.trans ((by exact hN : Below _ _ _).mono hb.size); (try replace hkR := Blk.below hkR hN (Blk.lt hkR)); have hT2 := hT.below hb)
        | ((go_at_call 32; (with_reducible refine (refadvance_z k j 0 3 0 3 rfl rfl _ _ hT2 KI.out JI.out (by omega) (by omega) S16.out).mono ?_); rintro e w' ⟨rfl, hN⟩); rw [TV.out]; replace hb := hb.trans ((by exact hN : Below _ _ _).mono hb.size); (try replace hkR := Blk.below hkR hN (Blk.lt hkR)))
        | ((go_at_call 31; (with_reducible refine (text_any (topV seed k j) _ T16.out).mono ?_); rintro e w' ⟨rfl, hN⟩); replace hb := hb.trans ((by exact hN : Below _ _ _).mono hb.size); (try replace hkR := Blk.below hkR hN (Blk.lt hkR)))
        | ((with_reducible refine' wpList_str_add (l := S) (m := topV seed k j) (.tmp 12) (.tmp 20) 9 9 rfl ?_ ?_ ?_ ?_ ?_); exact rfl; exact rfl; exact rfl; (rw [HVL.out, T16.out]; omega); rw [← VS.out]))
      go_roundw
      case rel => exact ⟨j + 1, by omega, by go_num, rfl, hkR, hb⟩
      case measure => simp [intOf]; omega
    · obtain rfl : j = 68 := by omega
      obtain ⟨S, hS⟩ : ∃ S, vals (topV seed k) 68 = S := ⟨_, rfl⟩
      have HF := Lib.hid (show leafD S = leafAt seed k by rw [← hS]; rfl)
      rw [hS] at hvl ⊢
      clear hS
      have hTo := hT.below hb
      have IL := Lib.hid (inp_len1 11 S (by omega))
      have DL := Lib.hid (show (bv (digOf 11 [S])).length = 16 by rw [bv_length, digOf_len])
      have D16 := Lib.hid (digOf_len 11 [S])
      have IL2 := Lib.hid (inp_len1 9 (digOf 11 [S]) (by rw [D16.out]; decide))
      have LE := Lib.hid (show digOf 9 [digOf 11 [S]] = leafD S from rfl)
      have LL := Lib.hid (show (bv (leafD S)).length = 16 by rw [bv_length, leafD_len])
      obtain ⟨dk, hdk⟩ : ∃ dk, digOf 11 [S] = dk := ⟨_, rfl⟩
      rw [hdk] at DL D16 IL2 LE
      have HDK := Lib.hid hdk
      clear hdk
      go_wp2_with (first
        | (((with_reducible refine' wpList_build_cs (cs := sv [S]) rfl ?_ Tryd.underlying66 inf_str ?_ ?_ ?_ ?_ ?_ ?_); exact rfl; exact rfl; omega; omega; exact rfl; exact sv_one _; intro v7 w7 r7 hN; simp only [Act.put, List.setIfInBounds_toArray, List.set_cons_succ, List.set_cons_zero]); replace hb := hb.trans ((by exact hN : Below _ _ _).mono hb.size); (try replace hkR := Blk.below hkR hN (Blk.lt hkR)); have hT7 := hT.below hb)
        | ((go_at_call 35; (with_reducible refine (refof_any 11 v7 _ [S] _ hT7 r7 (by decide) (by decide) IL.out).mono ?_); rintro e w' ⟨rfl, hN⟩); rw [HDK.out]; replace hb := hb.trans ((by exact hN : Below _ _ _).mono hb.size); (try replace hkR := Blk.below hkR hN (Blk.lt hkR)))
        | (((with_reducible refine' wpList_alloc_blk (cs := List.replicate 16 (.int .u8 0)) 23 rfl ?_ zr_dig ?_ ?_); exact rfl; exact zeros_u8 16; intro w8 hk8 hN hz8; simp only [Act.put, List.setIfInBounds_toArray, List.set_cons_succ, List.set_cons_zero]); have hs8 := hb.size; have hR8 := hkR.lt; replace hb := hb.trans ((by exact hN : Below _ _ _).mono hb.size); (try replace hkR := Blk.below hkR hN (Blk.lt hkR)))
        | (((with_reducible refine' wpList_store_blk (cs := bv dk) 23 (.tmp 7) (.tmp 24) rfl ?_ ?_ ?_ hk8 sz_dig ?_ ?_ ?_ ?_); exact rfl; exact rfl; exact rfl; exact DL.out; exact List.length_replicate; exact bv_one _; intro w9 hk9 hO9 hz9; simp only [Act.put]); replace hkR := hO9.blk hkR (by omega); replace hb := hb.trans (hO9.below (by omega) hb.size))
        | ((with_reducible refine' wpList_loadall_blk (.tmp 7) 23 rfl ?_ Tryd.underlying23 sz_dig ?_ hk9 ?_ ?_ ?_); exact rfl; exact rfl; exact DL.out; omega; simp only [Act.put, List.setIfInBounds_toArray, List.set_cons_succ, List.set_cons_zero])
        | ((go_at_call 31; (with_reducible refine (text_any dk _ D16.out).mono ?_); rintro e w' ⟨rfl, hN⟩); replace hb := hb.trans ((by exact hN : Below _ _ _).mono hb.size); (try replace hkR := Blk.below hkR hN (Blk.lt hkR)))
        | (((with_reducible refine' wpList_build_cs (cs := sv [dk]) rfl ?_ Tryd.underlying66 inf_str ?_ ?_ ?_ ?_ ?_ ?_); exact rfl; exact rfl; omega; omega; exact rfl; exact sv_one _; intro v10 w10 r10 hN; simp only [Act.put, List.setIfInBounds_toArray, List.set_cons_succ, List.set_cons_zero]); replace hb := hb.trans ((by exact hN : Below _ _ _).mono hb.size); (try replace hkR := Blk.below hkR hN (Blk.lt hkR)); have hT10 := hT.below hb)
        | ((go_at_call 35; (with_reducible refine (refof_any 9 v10 _ [dk] _ hT10 r10 (by decide) (by decide) IL2.out).mono ?_); rintro e w' ⟨rfl, hN⟩); rw [LE.out]; replace hb := hb.trans ((by exact hN : Below _ _ _).mono hb.size); (try replace hkR := Blk.below hkR hN (Blk.lt hkR)))
        | ((with_reducible refine' wpList_store_blk (cs := bv (leafD S)) 23 (.tmp 4) (.tmp 28) rfl ?_ ?_ ?_ hkR sz_dig ?_ ?_ ?_ ?_); exact rfl; exact rfl; exact rfl; exact LL.out; exact List.length_replicate; exact bv_one _; intro w11 hk11 hO11 hz11; simp only [Act.put]))
      ((try simp only [Exit.inBlock, Exit.then]); refine bodyPost_ret (results_cell_row rfl _ _ _ _ _ _ _ rfl hk11 Tryd.underlying23 rfl (by rw [sz_dig]; simp [LL.out])) rfl ?_)
      exact ⟨by rw [HF.out], hb.trans (hO11.below (Nat.le_refl _) hb.size)⟩
end Go.Proofs.YtajglgkjpagcjaaDoor.Wi
namespace Go.Proofs.YtajglgkjpagcjaaDoor.Wi
open Go Go.RowKit Pu Lb
set_option linter.unusedSimpArgs false
set_option linter.unusedVariables false
attribute [local irreducible] comp sched comps sha outS mac digOf encInts adv startV
theorem zr_sb : (Tryd.prog.info? 54).map (·.zero) = some (some (.agg #[.pointer none, .slice none 0 0])) := by kernel_rfl
theorem Bd.cast {w : World} {b : Nat} {l l' : List UInt8} (h : Bd w b l) (e : l = l') : Bd w b l' := e ▸ h
/-- a write into another block leaves a builder alone -/
theorem Bd.only {w w' : World} {b B : Nat} {l : List UInt8} (h : Only B w w') (hb : Bd w b l) (hne : b ≠ B) {t : TypeId} {cs : List Value} (hB : Blk w B t cs) (ht : t ≠ 5 := by decide) : Bd w' b l := by
  have key : ∀ p, Lib.BuilderAt 54 5 b b p (bv l) w → Lib.BuilderAt 54 5 b b p (bv l) w' := by
    intro p hp
    have hlt := hp.lt
    obtain ⟨h1, v, h2, h3, h4⟩ := hp
    refine ⟨h1, v, by rw [h.block b hlt (by simpa using hne)]; exact h2, h3.kept h (.inr ?_), h4⟩
    rcases h3.2 with ⟨rfl, _⟩ | ⟨g, cap, cur, rfl, _, hg, _⟩
    · simp [Value.ownBlock]
    · simp only [Value.ownBlock]
      intro e
      cases e
      unfold Blk at hB
      rw [hg] at hB
      simp at hB
      exact ht hB.2.symm
  rcases hb with h | h
  · exact .inl (key _ h)
  · exact .inr (key _ h)
set_option maxRecDepth 100000 in
set_option maxHeartbeats 400000 in
theorem leaf2_any (p1 p2 : Value) (f : Nat → List UInt8) (w : World) (hT : TabH w) (hl : ∀ c, c < 68 → (f c).length = 16)
    (hf : ∀ c : Nat, c < 68 → ∀ w', Below w.heap.size w w' → Calls Tryd.prog 45 #[.int .i64 (c : Int), p1, p2] w' fun e w'' => e = .returned (.agg (bv (f c)).toArray) ∧ Below w'.heap.size w' w'') :
    Calls Tryd.prog 38 #[.func (.func 45) #[] #[p1, p2]] w fun e w' => e = .returned (.agg (bv (leafD (vals f 68))).toArray) ∧ Below w.heap.size w w' := by
  go_enter Tryd.func38, Tryd.ntmps38
  go_wp2_with (first | ((with_reducible refine' wpList_alloc_blk (cs := List.replicate 16 (.int .u8 0)) 23 rfl ?_ zr_dig ?_ ?_); exact rfl; exact zeros_u8 16; intro w1 hkR hN1 hz1; simp only [Act.put, List.setIfInBounds_toArray, List.set_cons_succ, List.set_cons_zero]) | ((with_reducible refine' wpList_alloc_blk (cs := [.pointer none, .slice none 0 0]) 54 rfl ?_ zr_sb ?_ ?_); exact rfl; exact rfl; intro w2 hkS hN2 hz2; simp only [Act.put, List.setIfInBounds_toArray, List.set_cons_succ, List.set_cons_zero]))
  replace hkR := hkR.below hN2 hkR.lt
  have hb := hN1.trans (hN2.mono hN1.size)
  have hBd : Bd w2 w1.heap.size [] := bd_fresh w1 w2 hkS
  have HZ := Lib.hid hz1
  clear hkS hz1 hz2 hN1 hN2
  go_loopw [7] (fun c wr => ∃ j : Nat, j ≤ 68 ∧ c = .int .i64 (j : Int) ∧ Bd wr w1.heap.size (vals f j) ∧ Blk wr w.heap.size 23 (List.replicate 16 (.int .u8 0)) ∧ Below w.heap.size w wr) (fun c _ => 68 - (intOf c).toNat)
  case atStart => exact ⟨0, by omega, rfl, hBd, hkR, hb⟩
  case round =>
    obtain ⟨j, hj, rfl, hB, hkR, hb⟩ := hrel
    have hvl := vals_len (f := f) (n := j) (fun c hc => hl c (by omega))
    by_cases hlt : j < 68
    · obtain ⟨wo, rfl⟩ : ∃ wo : World, wo = wr := ⟨_, rfl⟩
      have F16 := Lib.hid (hl j hlt)
      have FB := Lib.hid (show (bv (f j)).length = 16 by rw [bv_length, hl j hlt])
      have VS := Lib.hid (vals_succ f j)
      have hfj := hf j hlt wo hb
      have lR := hkR.lt
      have lB := hB.lt
      have BND := Lib.hid (show (vals f j).length + 16 ≤ 140737488351232 by omega)
      clear hvl
      go_wp2_with (first
        | ((go_at_call 45; (with_reducible refine (hfj).mono ?_); rintro e w' ⟨rfl, hN⟩); replace hb := hb.trans ((by exact hN : Below _ _ _).mono hb.size); (try replace hkR := Blk.below hkR hN (Blk.lt hkR)); replace hB := hB.below hN)
        | (((with_reducible refine' wpList_alloc_blk (cs := List.replicate 16 (.int .u8 0)) 23 rfl ?_ zr_dig ?_ ?_); exact rfl; exact zeros_u8 16; intro w3 hk3 hN hz3; simp only [Act.put, List.setIfInBounds_toArray, List.set_cons_succ, List.set_cons_zero]); have hs3 := hb.size; have lR3 := hkR.lt; have lB3 := hB.lt; replace hb := hb.trans ((by exact hN : Below _ _ _).mono hb.size); (try replace hkR := Blk.below hkR hN (Blk.lt hkR)); replace hB := hB.below hN)
        | (((with_reducible refine' wpList_store_blk (cs := bv (f j)) 23 (.tmp 5) (.tmp 12) rfl ?_ ?_ ?_ hk3 sz_dig ?_ ?_ ?_ ?_); exact rfl; exact rfl; exact rfl; exact FB.out; exact List.length_replicate; exact bv_one _; intro w4 hk4 hO4 hz4; simp only [Act.put]); replace hkR := hO4.blk hkR (by omega); replace hB := Bd.only hO4 hB (by omega) hk3; replace hb := hb.trans (hO4.below (by omega) hb.size); have hrd := hk4.rd 0 16 16 1 (by rw [FB.out]; decide) (Nat.le_refl _) (by unfold maxLen; omega); rw [List.drop_zero, List.take_of_length_le (by rw [FB.out]; decide)] at hrd)
        | ((with_reducible refine' wpList_arr_all (B := w'.heap.size) (f := 0) (.tmp 5) 23 rfl ?_ Tryd.underlying23 sz_u8 ?_ ?_); exact rfl; exact rfl; simp only [Act.put, List.setIfInBounds_toArray, List.set_cons_succ, List.set_cons_zero])
        | ((go_at_call 25; (with_reducible refine (bwrite_any _ (vals f j) _ 16 (f j) _ hB hrd BND.out).mono ?_); rintro e w' ⟨rfl, hB2, hN, hF⟩); replace hkR := hkR.below hN (by have := HZ.out; omega); replace hb := hb.trans (hN.mono (by have := HZ.out; omega))))
      go_roundw
      case rel => exact ⟨j + 1, by omega, by go_num, hB2.cast VS.out.symm, hkR, hb⟩
      case measure => simp [intOf]; omega
    · obtain rfl : j = 68 := by omega
      obtain ⟨S, hS⟩ : ∃ S, vals f 68 = S := ⟨_, rfl⟩
      have HF := Lib.hid hS
      rw [hS] at hvl hB
      clear hS
      have hne : S ≠ [] := by intro h; rw [h] at hvl; simp at hvl
      have IL := Lib.hid (inp_len1 11 S (by omega))
      have DL := Lib.hid (show (bv (digOf 11 [S])).length = 16 by rw [bv_length, digOf_len])
      have D16 := Lib.hid (digOf_len 11 [S])
      have IL2 := Lib.hid (inp_len1 9 (digOf 11 [S]) (by rw [D16.out]; decide))
      have LE := Lib.hid (show digOf 9 [digOf 11 [S]] = leafD S from rfl)
      have LL := Lib.hid (show (bv (leafD S)).length = 16 by rw [bv_length, leafD_len])
      obtain ⟨dk, hdk⟩ : ∃ dk, digOf 11 [S] = dk := ⟨_, rfl⟩
      rw [hdk] at DL D16 IL2 LE
      have HDK := Lib.hid hdk
      clear hdk
      go_wp2_with (first
        | ((go_at_call 29; (with_reducible refine (bstring_any _ S _ hB hne).mono ?_); rintro e w' ⟨rfl, hN⟩); replace hkR := hkR.below hN (by have := HZ.out; omega); replace hb := hb.trans (hN.mono (by have := HZ.out; omega)))
        | (((with_reducible refine' wpList_build_cs (cs := sv [S]) rfl ?_ Tryd.underlying66 inf_str ?_ ?_ ?_ ?_ ?_ ?_); exact rfl; exact rfl; omega; omega; exact rfl; exact sv_one _; intro v7 w7 r7 hN; simp only [Act.put, List.setIfInBounds_toArray, List.set_cons_succ, List.set_cons_zero]); replace hb := hb.trans ((by exact hN : Below _ _ _).mono hb.size); (try replace hkR := Blk.below hkR hN (Blk.lt hkR)); have hT7 := hT.below hb)
        | ((go_at_call 34; (with_reducible refine (of_any 11 v7 _ [S] _ hT7 r7 (by decide) (by decide) IL.out).mono ?_); rintro e w' ⟨rfl, hN⟩); rw [HDK.out]; replace hb := hb.trans ((by exact hN : Below _ _ _).mono hb.size); (try replace hkR := Blk.below hkR hN (Blk.lt hkR)))
        | (((with_reducible refine' wpList_alloc_blk (cs := List.replicate 16 (.int .u8 0)) 23 rfl ?_ zr_dig ?_ ?_); exact rfl; exact zeros_u8 16; intro w8 hk8 hN hz8; simp only [Act.put, List.setIfInBounds_toArray, List.set_cons_succ, List.set_cons_zero]); have hs8 := hb.size; have hR8 := hkR.lt; replace hb := hb.trans ((by exact hN : Below _ _ _).mono hb.size); (try replace hkR := Blk.below hkR hN (Blk.lt hkR)))
        | (((with_reducible refine' wpList_store_blk (cs := bv dk) 23 (.tmp 6) (.tmp 18) rfl ?_ ?_ ?_ hk8 sz_dig ?_ ?_ ?_ ?_); exact rfl; exact rfl; exact rfl; exact DL.out; exact List.length_replicate; exact bv_one _; intro w9 hk9 hO9 hz9; simp only [Act.put]); replace hkR := hO9.blk hkR (by omega); replace hb := hb.trans (hO9.below (by omega) hb.size); have hrd := hk9.rd 0 16 16 1 (by rw [DL.out]; decide) (Nat.le_refl _) (by unfold maxLen; omega); rw [List.drop_zero, List.take_of_length_le (by rw [DL.out]; decide)] at hrd)
        | ((with_reducible refine' wpList_arr_all (B := w'.heap.size) (f := 0) (.tmp 6) 23 rfl ?_ Tryd.underlying23 sz_u8 ?_ ?_); exact rfl; exact rfl; simp only [Act.put, List.setIfInBounds_toArray, List.set_cons_succ, List.set_cons_zero]) | ((with_reducible refine' wpList_str_rd (.tmp 19) 52 9 rfl ?_ Tryd.underlying52 Tryd.underlying5 Tryd.underlying9 ?_ hrd ?_); exact rfl; exact rfl; simp only [Act.put, List.setIfInBounds_toArray, List.set_cons_succ, List.set_cons_zero])
        | (((with_reducible refine' wpList_build_cs (cs := sv [dk]) rfl ?_ Tryd.underlying66 inf_str ?_ ?_ ?_ ?_ ?_ ?_); exact rfl; exact rfl; omega; omega; exact rfl; exact sv_one _; intro v10 w10 r10 hN; simp only [Act.put, List.setIfInBounds_toArray, List.set_cons_succ, List.set_cons_zero]); replace hb := hb.trans ((by exact hN : Below _ _ _).mono hb.size); (try replace hkR := Blk.below hkR hN (Blk.lt hkR)); have hT10 := hT.below hb)
        | ((go_at_call 34; (with_reducible refine (of_any 9 v10 _ [dk] _ hT10 r10 (by decide) (by decide) IL2.out).mono ?_); rintro e w' ⟨rfl, hN⟩); rw [LE.out]; replace hb := hb.trans ((by exact hN : Below _ _ _).mono hb.size); (try replace hkR := Blk.below hkR hN (Blk.lt hkR)))
        | ((with_reducible refine' wpList_store_blk (cs := bv (leafD S)) 23 (.tmp 2) (.tmp 22) rfl ?_ ?_ ?_ hkR sz_dig ?_ ?_ ?_ ?_); exact rfl; exact rfl; exact rfl; exact LL.out; exact List.length_replicate; exact bv_one _; intro w11 hk11 hO11 hz11; simp only [Act.put]))
      ((try simp only [Exit.inBlock, Exit.then]); refine bodyPost_ret (results_cell_row rfl _ _ _ _ _ _ _ rfl hk11 Tryd.underlying23 rfl (by rw [sz_dig]; simp [LL.out])) rfl ?_)
      exact ⟨by rw [HF.out], hb.trans (hO11.below (Nat.le_refl _) hb.size)⟩
set_option maxRecDepth 100000 in
set_option maxHeartbeats 400000 in
theorem leaf3_any (p1 p2 p3 : Value) (f : Nat → List UInt8) (w : World) (hT : TabH w) (hl : ∀ c, c < 68 → (f c).length = 16)
    (hf : ∀ c : Nat, c < 68 → ∀ w', Below w.heap.size w w' → Calls Tryd.prog 39 #[.int .i64 (c : Int), p1, p2, p3] w' fun e w'' => e = .returned (.agg (bv (f c)).toArray) ∧ Below w'.heap.size w' w'') :
    Calls Tryd.prog 38 #[.func (.func 39) #[] #[p1, p2, p3]] w fun e w' => e = .returned (.agg (bv (leafD (vals f 68))).toArray) ∧ Below w.heap.size w w' := by
  go_enter Tryd.func38, Tryd.ntmps38
  go_wp2_with (first | ((with_reducible refine' wpList_alloc_blk (cs := List.replicate 16 (.int .u8 0)) 23 rfl ?_ zr_dig ?_ ?_); exact rfl; exact zeros_u8 16; intro w1 hkR hN1 hz1; simp only [Act.put, List.setIfInBounds_toArray, List.set_cons_succ, List.set_cons_zero]) | ((with_reducible refine' wpList_alloc_blk (cs := [.pointer none, .slice none 0 0]) 54 rfl ?_ zr_sb ?_ ?_); exact rfl; exact rfl; intro w2 hkS hN2 hz2; simp only [Act.put, List.setIfInBounds_toArray, List.set_cons_succ, List.set_cons_zero]))
  replace hkR := hkR.below hN2 hkR.lt
  have hb := hN1.trans (hN2.mono hN1.size)
  have hBd : Bd w2 w1.heap.size [] := bd_fresh w1 w2 hkS
  have HZ := Lib.hid hz1
  clear hkS hz1 hz2 hN1 hN2
  go_loopw [7] (fun c wr => ∃ j : Nat, j ≤ 68 ∧ c = .int .i64 (j : Int) ∧ Bd wr w1.heap.size (vals f j) ∧ Blk wr w.heap.size 23 (List.replicate 16 (.int .u8 0)) ∧ Below w.heap.size w wr) (fun c _ => 68 - (intOf c).toNat)
  case atStart => exact ⟨0, by omega, rfl, hBd, hkR, hb⟩
  case round =>
    obtain ⟨j, hj, rfl, hB, hkR, hb⟩ := hrel
    have hvl := vals_len (f := f) (n := j) (fun c hc => hl c (by omega))
    by_cases hlt : j < 68
    · obtain ⟨wo, rfl⟩ : ∃ wo : World, wo = wr := ⟨_, rfl⟩
      have F16 := Lib.hid (hl j hlt)
      have FB := Lib.hid (show (bv (f j)).length = 16 by rw [bv_length, hl j hlt])
      have VS := Lib.hid (vals_succ f j)
      have hfj := hf j hlt wo hb
      have lR := hkR.lt
      have lB := hB.lt
      have BND := Lib.hid (show (vals f j).length + 16 ≤ 140737488351232 by omega)
      clear hvl
      go_wp2_with (first
        | ((go_at_call 39; (with_reducible refine (hfj).mono ?_); rintro e w' ⟨rfl, hN⟩); replace hb := hb.trans ((by exact hN : Below _ _ _).mono hb.size); (try replace hkR := Blk.below hkR hN (Blk.lt hkR)); replace hB := hB.below hN)
        | (((with_reducible refine' wpList_alloc_blk (cs := List.replicate 16 (.int .u8 0)) 23 rfl ?_ zr_dig ?_ ?_); exact rfl; exact zeros_u8 16; intro w3 hk3 hN hz3; simp only [Act.put, List.setIfInBounds_toArray, List.set_cons_succ, List.set_cons_zero]); have hs3 := hb.size; have lR3 := hkR.lt; have lB3 := hB.lt; replace hb := hb.trans ((by exact hN : Below _ _ _).mono hb.size); (try replace hkR := Blk.below hkR hN (Blk.lt hkR)); replace hB := hB.below hN)
        | (((with_reducible refine' wpList_store_blk (cs := bv (f j)) 23 (.tmp 5) (.tmp 12) rfl ?_ ?_ ?_ hk3 sz_dig ?_ ?_ ?_ ?_); exact rfl; exact rfl; exact rfl; exact FB.out; exact List.length_replicate; exact bv_one _; intro w4 hk4 hO4 hz4; simp only [Act.put]); replace hkR := hO4.blk hkR (by omega); replace hB := Bd.only hO4 hB (by omega) hk3; replace hb := hb.trans (hO4.below (by omega) hb.size); have hrd := hk4.rd 0 16 16 1 (by rw [FB.out]; decide) (Nat.le_refl _) (by unfold maxLen; omega); rw [List.drop_zero, List.take_of_length_le (by rw [FB.out]; decide)] at hrd)
        | ((with_reducible refine' wpList_arr_all (B := w'.heap.size) (f := 0) (.tmp 5) 23 rfl ?_ Tryd.underlying23 sz_u8 ?_ ?_); exact rfl; exact rfl; simp only [Act.put, List.setIfInBounds_toArray, List.set_cons_succ, List.set_cons_zero])
        | ((go_at_call 25; (with_reducible refine (bwrite_any _ (vals f j) _ 16 (f j) _ hB hrd BND.out).mono ?_); rintro e w' ⟨rfl, hB2, hN, hF⟩); replace hkR := hkR.below hN (by have := HZ.out; omega); replace hb := hb.trans (hN.mono (by have := HZ.out; omega))))
      go_roundw
      case rel => exact ⟨j + 1, by omega, by go_num, hB2.cast VS.out.symm, hkR, hb⟩
      case measure => simp [intOf]; omega
    · obtain rfl : j = 68 := by omega
      obtain ⟨S, hS⟩ : ∃ S, vals f 68 = S := ⟨_, rfl⟩
      have HF := Lib.hid hS
      rw [hS] at hvl hB
      clear hS
      have hne : S ≠ [] := by intro h; rw [h] at hvl; simp at hvl
      have IL := Lib.hid (inp_len1 11 S (by omega))
      have DL := Lib.hid (show (bv (digOf 11 [S])).length = 16 by rw [bv_length, digOf_len])
      have D16 := Lib.hid (digOf_len 11 [S])
      have IL2 := Lib.hid (inp_len1 9 (digOf 11 [S]) (by rw [D16.out]; decide))
      have LE := Lib.hid (show digOf 9 [digOf 11 [S]] = leafD S from rfl)
      have LL := Lib.hid (show (bv (leafD S)).length = 16 by rw [bv_length, leafD_len])
      obtain ⟨dk, hdk⟩ : ∃ dk, digOf 11 [S] = dk := ⟨_, rfl⟩
      rw [hdk] at DL D16 IL2 LE
      have HDK := Lib.hid hdk
      clear hdk
      go_wp2_with (first
        | ((go_at_call 29; (with_reducible refine (bstring_any _ S _ hB hne).mono ?_); rintro e w' ⟨rfl, hN⟩); replace hkR := hkR.below hN (by have := HZ.out; omega); replace hb := hb.trans (hN.mono (by have := HZ.out; omega)))
        | (((with_reducible refine' wpList_build_cs (cs := sv [S]) rfl ?_ Tryd.underlying66 inf_str ?_ ?_ ?_ ?_ ?_ ?_); exact rfl; exact rfl; omega; omega; exact rfl; exact sv_one _; intro v7 w7 r7 hN; simp only [Act.put, List.setIfInBounds_toArray, List.set_cons_succ, List.set_cons_zero]); replace hb := hb.trans ((by exact hN : Below _ _ _).mono hb.size); (try replace hkR := Blk.below hkR hN (Blk.lt hkR)); have hT7 := hT.below hb)
        | ((go_at_call 34; (with_reducible refine (of_any 11 v7 _ [S] _ hT7 r7 (by decide) (by decide) IL.out).mono ?_); rintro e w' ⟨rfl, hN⟩); rw [HDK.out]; replace hb := hb.trans ((by exact hN : Below _ _ _).mono hb.size); (try replace hkR := Blk.below hkR hN (Blk.lt hkR)))
        | (((with_reducible refine' wpList_alloc_blk (cs := List.replicate 16 (.int .u8 0)) 23 rfl ?_ zr_dig ?_ ?_); exact rfl; exact zeros_u8 16; intro w8 hk8 hN hz8; simp only [Act.put, List.setIfInBounds_toArray, List.set_cons_succ, List.set_cons_zero]); have hs8 := hb.size; have hR8 := hkR.lt; replace hb := hb.trans ((by exact hN : Below _ _ _).mono hb.size); (try replace hkR := Blk.below hkR hN (Blk.lt hkR)))
        | (((with_reducible refine' wpList_store_blk (cs := bv dk) 23 (.tmp 6) (.tmp 18) rfl ?_ ?_ ?_ hk8 sz_dig ?_ ?_ ?_ ?_); exact rfl; exact rfl; exact rfl; exact DL.out; exact List.length_replicate; exact bv_one _; intro w9 hk9 hO9 hz9; simp only [Act.put]); replace hkR := hO9.blk hkR (by omega); replace hb := hb.trans (hO9.below (by omega) hb.size); have hrd := hk9.rd 0 16 16 1 (by rw [DL.out]; decide) (Nat.le_refl _) (by unfold maxLen; omega); rw [List.drop_zero, List.take_of_length_le (by rw [DL.out]; decide)] at hrd)
        | ((with_reducible refine' wpList_arr_all (B := w'.heap.size) (f := 0) (.tmp 6) 23 rfl ?_ Tryd.underlying23 sz_u8 ?_ ?_); exact rfl; exact rfl; simp only [Act.put, List.setIfInBounds_toArray, List.set_cons_succ, List.set_cons_zero]) | ((with_reducible refine' wpList_str_rd (.tmp 19) 52 9 rfl ?_ Tryd.underlying52 Tryd.underlying5 Tryd.underlying9 ?_ hrd ?_); exact rfl; exact rfl; simp only [Act.put, List.setIfInBounds_toArray, List.set_cons_succ, List.set_cons_zero])
        | (((with_reducible refine' wpList_build_cs (cs := sv [dk]) rfl ?_ Tryd.underlying66 inf_str ?_ ?_ ?_ ?_ ?_ ?_); exact rfl; exact rfl; omega; omega; exact rfl; exact sv_one _; intro v10 w10 r10 hN; simp only [Act.put, List.setIfInBounds_toArray, List.set_cons_succ, List.set_cons_zero]); replace hb := hb.trans ((by exact hN : Below _ _ _).mono hb.size); (try replace hkR := Blk.below hkR hN (Blk.lt hkR)); have hT10 := hT.below hb)
        | ((go_at_call 34; (with_reducible refine (of_any 9 v10 _ [dk] _ hT10 r10 (by decide) (by decide) IL2.out).mono ?_); rintro e w' ⟨rfl, hN⟩); rw [LE.out]; replace hb := hb.trans ((by exact hN : Below _ _ _).mono hb.size); (try replace hkR := Blk.below hkR hN (Blk.lt hkR)))
        | ((with_reducible refine' wpList_store_blk (cs := bv (leafD S)) 23 (.tmp 2) (.tmp 22) rfl ?_ ?_ ?_ hkR sz_dig ?_ ?_ ?_ ?_); exact rfl; exact rfl; exact rfl; exact LL.out; exact List.length_replicate; exact bv_one _; intro w11 hk11 hO11 hz11; simp only [Act.put]))
      ((try simp only [Exit.inBlock, Exit.then]); refine bodyPost_ret (results_cell_row rfl _ _ _ _ _ _ _ rfl hk11 Tryd.underlying23 rfl (by rw [sz_dig]; simp [LL.out])) rfl ?_)
      exact ⟨by rw [HF.out], hb.trans (hO11.below (Nat.le_refl _) hb.size)⟩
end Go.Proofs.YtajglgkjpagcjaaDoor.Wi
