/-
  A stream: its beginning, and a text added to it. Conditions: the constants lie as the program's text lays them; the message is shorter than 2^60 bytes.
-/
import Derived.Test.YtomjniijnpnehaaDoorHm
import Derived.Test.YtomjniijnpnehaaDoorCls
namespace Go.Proofs.YtomjniijnpnehaaDoor.Lb
open Go Go.RowKit Go.Lib
section
variable {P : Program} {ops : Array Oper} {Q : Exit → Act → World → Prop} {a : Act} {w : World} {rest : List Oper} {o : Oper}
/-- 's[lo:]' of a string -/
theorem wpList_str_from (x lo : Operand) (t : TypeId) (ho : o.op = .slice t x (some lo) none none) (hw : Region.wanted o (yielded ops a.tmps) = true) (ht : P.underlying t = some .string)
    {l : List UInt8} (hx : a.eval x = .string ⟨l.toArray⟩) (L : Nat) (hlo : IsI (a.eval lo) (L : Int)) (hL : L ≤ l.length)
    (h : wpList P ops Q rest (a.put o.dst (.string ⟨(l.drop L).toArray⟩)) w) : wpList P ops Q (o :: rest) a w := by
  obtain ⟨kl, hlo⟩ := isI hlo
  refine wpList_of_run hw (v := .string ⟨(l.drop L).toArray⟩) (w' := w) ?_ h
  have hs : (ByteArray.mk l.toArray).size = l.length := by simp [ByteArray.size]
  have he : (ByteArray.mk l.toArray).extract L l.length = ⟨(l.drop L).toArray⟩ := by
    rw [← hs]
    apply ByteArray.ext
    rw [ByteArray.data_extract]
    apply Array.toList_inj.1
    simp [hs]
    rw [List.take_of_length_le (by rw [List.length_drop]; exact Nat.le_refl _)]
  unfold execOp
  simp [ho, Instr.sliceAt, hx, hlo, run_underlying ht, Instr.slice, Instr.sliceBounds, Instr.sliceBound, asIntOf, hs, hL, he]
end
end Go.Proofs.YtomjniijnpnehaaDoor.Lb
namespace Go.Proofs.YtomjniijnpnehaaDoor.Wi
open Go Go.RowKit Pu Lb
set_option linter.unusedSimpArgs false

/-- a stream's cells -/
def stv (x : Strm) : List Value := uv (l8 x.s) ++ (bv x.b ++ [.int .u64 (x.n : Int)])
theorem stv_len {x : Strm} (h : x.b.length = 64) : (stv x).length = 73 := by
  unfold stv
  rw [List.length_append, List.length_append, uv_length, bv_length, h]; rfl
theorem stv_one (x : Strm) : ∀ u ∈ stv x, u.oneCell' = true := by
  intro u hu
  unfold stv at hu
  rcases List.mem_append.1 hu with h | h
  · exact uv_one _ u h
  · rcases List.mem_append.1 h with h | h
    · exact bv_one _ u h
    · simp at h; subst h; rfl
theorem l8_len (s : S8) : (uv (l8 s)).length = 8 := rfl
theorem stv_n {x : Strm} (h : x.b.length = 64) : (stv x)[72]? = some (.int .u64 (x.n : Int)) := by
  unfold stv
  rw [List.getElem?_append_right (by rw [l8_len]; decide), List.getElem?_append_right (by rw [l8_len, bv_length, h]; decide), l8_len, bv_length, h]
  rfl
theorem stv_state (x : Strm) : ((stv x).drop 0).take 8 = uv (l8 x.s) := by
  unfold stv
  rw [List.drop_zero, List.take_left' (l8_len _)]
theorem stv_setn {x : Strm} (h : x.b.length = 64) (n : Nat) : (stv x).set 72 (.int .u64 (n : Int)) = stv ⟨x.s, x.b, n⟩ := by
  unfold stv
  rw [List.set_append_right _ _ (by rw [l8_len]; decide), List.set_append_right _ _ (by rw [l8_len, bv_length, h]; decide), l8_len, bv_length, h]
  rfl
theorem stv_puts (x : Strm) (s : S8) : put (stv x) 0 (uv (l8 s)) = stv ⟨s, x.b, x.n⟩ := by
  unfold put stv
  rw [List.take_zero, List.nil_append, Nat.zero_add, l8_len, List.drop_left' (l8_len _)]
theorem stv_putb {x : Strm} (h : x.b.length = 64) {i : Nat} {t : List UInt8} (hi : i + t.length ≤ 64) : put (stv x) (8 + i) (bv t) = stv ⟨x.s, splice x.b i t, x.n⟩ := by
  have e1 : (stv x).take (8 + i) = uv (l8 x.s) ++ bv (x.b.take i) := by
    unfold stv
    rw [List.take_append, l8_len, List.take_of_length_le (by rw [l8_len]; omega), Nat.add_sub_cancel_left, List.take_append_of_le_length (by rw [bv_length]; omega), bv_take]
  have e2 : (stv x).drop (8 + i + t.length) = bv (x.b.drop (i + t.length)) ++ [.int .u64 (x.n : Int)] := by
    unfold stv
    rw [List.drop_append, l8_len, List.drop_of_length_le (by rw [l8_len]; omega), List.nil_append, show 8 + i + t.length - 8 = i + t.length by omega, List.drop_append_of_le_length (by rw [bv_length]; omega), bv_drop]
  unfold put
  rw [bv_length, e1, e2]
  unfold stv splice
  rw [bv_append, bv_append]
  simp only [List.append_assoc]
theorem stv_block {x : Strm} (h : x.b.length = 64) : ((stv x).drop 8).take 64 = bv x.b := by
  unfold stv
  rw [List.drop_left' (l8_len _), List.take_left' (by rw [bv_length, h])]
def stz : List Value := List.replicate 8 (.int .u32 0) ++ List.replicate 64 (.int .u8 0) ++ [.int .u64 0]
theorem stz_len : stz.length = 73 := by decide
theorem stv_zero : (Value.agg (Array.replicate 8 (Value.int .u32 0) ++ Array.replicate 64 (Value.int .u8 0) ++ #[Value.int .u64 0])).cells = stz.toArray := by
  simp [Value.cells, stz]
theorem isS_len {m : List UInt8} {x : Strm} (h : IsS m x) : x.b.length = 64 ∧ x.n = m.length := ⟨h.1, h.2.1⟩

def begin0 : Strm := ⟨h0, List.replicate 64 0, 0⟩
set_option maxRecDepth 100000 in
theorem begin_any (w : World) : Calls Tryd.prog 14 #[] w fun e w' => e = .returned (.agg (stv begin0).toArray) ∧ Below w.heap.size w w' := by
  go_enter Tryd.func14, Tryd.ntmps14
  go_upto_region 1 with (((with_reducible refine' wpList_alloc_blk (cs := stz) 34 rfl ?_ zr_stm ?_ ?_); exact rfl; exact stv_zero; intro w1 hk1 hN1 hz1; simp only [Act.put, List.setIfInBounds_toArray, List.set_cons_succ, List.set_cons_zero]))
  refine wp_region_lit ?_
  ((with_reducible refine' wpList_of_run (v := .agg (uv (l8 h0)).toArray) (w' := w1) ?_ ?_ ?_); exact rfl; kernel_rfl; simp only [Act.put, List.setIfInBounds_toArray, List.set_cons_succ, List.set_cons_zero])
  ((with_reducible refine' wpList_of_run (v := .agg (stv begin0).toArray) (w' := w1) ?_ ?_ ?_); exact rfl; kernel_rfl; simp only [Act.put, List.setIfInBounds_toArray, List.set_cons_succ, List.set_cons_zero])
  ((with_reducible refine' wpList_store_blk (cs := stv begin0) 34 (.tmp 0) (.tmp 2) rfl ?_ ?_ ?_ hk1 sz_stm ?_ ?_ ?_ ?_); exact rfl; exact rfl; exact rfl; rfl; rfl; exact stv_one _; intro w2 hk2 hO2 hz2; simp only [Act.put])
  go_wp2_with fail
  ((try simp only [Exit.inBlock, Exit.then]); refine bodyPost_ret (results_cell_row rfl _ _ _ _ _ _ _ rfl hk2 Tryd.underlying34 rfl (by rw [sz_stm]; rfl)) rfl ?_)
  exact ⟨rfl, hN1.trans (hO2.below (Nat.le_refl _) hN1.size)⟩

attribute [local irreducible] comp sched comps
set_option maxRecDepth 100000 in
set_option maxHeartbeats 1600000 in
theorem add_any (m t : List UInt8) (x : Strm) (w : World) (hT : TabH w) (hx : IsS m x) (hm : m.length + t.length < 1152921504606846976) :
    Calls Tryd.prog 15 #[.agg (stv x).toArray, .string ⟨t.toArray⟩] w fun e w' => ∃ y, e = .returned (.agg (stv y).toArray) ∧ IsS (m ++ t) y ∧ Below w.heap.size w w' := by
  go_enter Tryd.func15, Tryd.ntmps15
  go_upto_region 1 with (first | ((with_reducible refine' wpList_boxa (cs := stv x) 34 (.tmp 0) rfl ?_ ?_ ?_); exact rfl; exact rfl; intro w1 hkS hN1 hz1; simp only [Act.put, List.setIfInBounds_toArray, List.set_cons_succ, List.set_cons_zero]) | ((with_reducible refine' wpList_alloc_blk (cs := stz) 34 rfl ?_ zr_stm ?_ ?_); exact rfl; exact stv_zero; intro w2 hkR hN2 hz2; simp only [Act.put, List.setIfInBounds_toArray, List.set_cons_succ, List.set_cons_zero]))
  have hb := hN1.trans (hN2.mono hN1.size)
  replace hkS := hkS.below hN2 (by omega)
  have EZ1 := Lib.hid hz1
  have hX := Lib.hid hx
  clear hx hN1 hN2 hz1 hz2
  go_loopw [1] (fun v wr => ∃ (i : Nat) (y : Strm), i ≤ t.length ∧ v = .string ⟨(t.drop i).toArray⟩ ∧ Hid (IsS (m ++ t.take i) y) ∧ Blk wr w.heap.size 34 (stv y) ∧ Blk wr w1.heap.size 34 stz ∧ Below w.heap.size w wr) (fun v _ => match v with | .string s => s.size | _ => 0)
  case atStart => exact ⟨0, x, by omega, rfl, Lib.hid (by rw [List.take_zero, List.append_nil]; exact hX.out), hkS, hkR, hb⟩
  case round =>
    obtain ⟨i, y, hi, rfl, HY, hkS, hkR, hbl⟩ := hrel
    by_cases hlt : i < t.length
    · obtain ⟨wo, rfl⟩ : ∃ wo : World, wo = wr := ⟨_, rfl⟩
      have hte : (t.drop i).isEmpty = false := by rw [List.isEmpty_eq_false_iff]; intro h; have := congrArg List.length h; rw [List.length_drop] at this; simp at this; omega
      have hyl := HY.out.1
      have hyn : y.n = m.length + i := by have := HY.out.2.1; rw [List.length_append, List.length_take] at this; omega
      have hn60 : y.n < 1152921504606846976 := by omega
      have HYN := Lib.hid hyn
      have HYL := Lib.hid hyl
      have N0 := Lib.hid (stv_n hyl)
      have L0 := Lib.hid (stv_len hyl)
      obtain ⟨k, hk⟩ : ∃ k, min (t.drop i).length (64 - y.n % 64) = k := ⟨_, rfl⟩
      obtain ⟨tk, htk⟩ : ∃ tk, (t.drop i).take (64 - y.n % 64) = tk := ⟨_, rfl⟩
      have hk64 : k ≤ 64 := by omega
      have hkl : k ≤ (t.drop i).length := by omega
      have hk0 : 0 < k := by rw [List.length_drop] at hk; omega
      have hktl : tk.length = k := by rw [← htk, List.length_take, ← hk]; omega
      have hfit : y.n % 64 + tk.length ≤ 64 := by rw [hktl]; omega
      have hspl := splice_len (b := y.b) (i := y.n % 64) (t := tk) (by rw [hyl]; exact hfit)
      rw [hyl] at hspl
      have N1 := Lib.hid (stv_n (x := ⟨y.s, splice y.b (y.n % 64) tk, y.n⟩) hspl)
      have L1 := Lib.hid (stv_len (x := ⟨y.s, splice y.b (y.n % 64) tk, y.n⟩) hspl)
      have PB := Lib.hid (stv_putb hyl hfit)
      have sn : (stv ⟨y.s, splice y.b (y.n % 64) tk, y.n⟩).set 72 (.int .u64 ((y.n : Int) + (k : Int))) = stv ⟨y.s, splice y.b (y.n % 64) tk, y.n + k⟩ := by
        rw [← Int.natCast_add]; exact stv_setn hspl (y.n + k)
      have SN := Lib.hid sn
      have bl := stv_block (x := ⟨y.s, splice y.b (y.n % 64) tk, y.n + k⟩) hspl
      have BL := Lib.hid bl
      have L2 := Lib.hid (stv_len (x := ⟨y.s, splice y.b (y.n % 64) tk, y.n + k⟩) hspl)
      have ek : t.take (i + k) = t.take i ++ tk := by
        rw [List.take_add, ← htk, ← hk, List.take_eq_take_min (i := 64 - y.n % 64), Nat.min_comm]
      have EK := Lib.hid ek
      clear sn bl ek
      have HK := Lib.hid hk
      have HTK := Lib.hid htk
      have HKT := Lib.hid hktl
      have HSP := Lib.hid hspl
      simp only at N1
      clear hyl hyn hk htk hktl hfit hspl
      have ed : (t.drop i).drop k = t.drop (i + k) := by rw [List.drop_drop]
      have ED := Lib.hid ed
      clear ed
      by_cases hfull : y.n % 64 + k = 64
      · have hfb : ((y.n : Int) % 64 + (k : Int) == 64) = true := by simp; omega
        go_upto_region 7 with (first
          | ((with_reducible refine' wpList_load_blk (.tmp 9) 32 rfl ?_ ld_u64 ?_ hkS (N0.out) ?_); exact rfl; exact rfl; simp only [Act.put, List.setIfInBounds_toArray, List.set_cons_succ, List.set_cons_zero])
          | ((with_reducible refine' wpList_arr_from (B := w.heap.size) (f := 8) (.tmp 13) (.tmp 14) 31 rfl ?_ Tryd.underlying31 sz_u8 ?_ (y.n % 64) ?_ ?_ ?_); exact rfl; exact rfl; (show (_ : Int) = _; omega); omega; simp only [Act.put, List.setIfInBounds_toArray, List.set_cons_succ, List.set_cons_zero])
          | (((with_reducible refine' wpList_copy_str (s := (t.drop i)) (f := 8 + y.n % 64) (n := 64 - y.n % 64) (cap := 64 - y.n % 64) (.tmp 15) (.tmp 16) 22 9 rfl ?_ Tryd.underlying22 sz_u8 ?_ ?_ hkS ?_ HK.out ?_); exact rfl; exact rfl; exact rfl; rw [L0.out]; omega; intro wA hkA hOA hzA; simp only [Act.put, List.setIfInBounds_toArray, List.set_cons_succ, List.set_cons_zero]); rw [HTK.out, PB.out] at hkA)
          | (((with_reducible refine' wpList_str_from (.tmp 18) (.tmp 19) 9 rfl ?_ Tryd.underlying9 (l := (t.drop i)) ?_ (k) ?_ ?_ ?_); exact rfl; exact rfl; (show (_ : Int) = _; omega); exact hkl; simp only [Act.put, List.setIfInBounds_toArray, List.set_cons_succ, List.set_cons_zero]); rw [ED.out])
          | ((with_reducible refine' wpList_load_blk (.tmp 21) 32 rfl ?_ ld_u64 ?_ hkA (N1.out) ?_); exact rfl; exact rfl; simp only [Act.put, List.setIfInBounds_toArray, List.set_cons_succ, List.set_cons_zero])
          | ((with_reducible refine' wpList_set_blk (k := 72) (B := w.heap.size) (u := .int .u64 ((y.n : Int) + (k : Int))) 32 (.tmp 26) (.tmp 25) rfl ?_ sz_u64 ?_ ?_ hkA (by rw [L1.out]; decide) ?_ ?_); exact rfl; exact rfl; exact rfl; exact rfl; intro wB hkB hOB hzB; rw [SN.out] at hkB; simp only [Act.put]))
        have hE := EZ1.out
        have hs := hbl.size
        have hkR2 := hOB.blk (hOA.blk hkR (by omega)) (by omega)
        have hsA := hOA.size
        have hblB := (hbl.trans (hOA.below (Nat.le_refl _) hs)).trans (hOB.below (Nat.le_refl _) (by omega))
        have hTB := hT.below hblB
        have hrd := Blk.rd hkB 8 64 64 1 (by rw [L2.out]; decide) (Nat.le_refl _) (by unfold maxLen; omega)
        rw [Nat.mul_one, BL.out] at hrd
        clear hOA hOB hzA hzB hkA hE hs
        have hbc0 := below_drew hblB
        (refine wp_region_tail 4 (by kernel_rfl) (by kernel_rfl) ?_; simp only [List.take_succ_cons, List.take_zero, List.drop_succ_cons, List.drop_zero]; (repeat (first | ((with_reducible refine' wpQuiet_load_part (f := 0) (cp := uv (l8 y.s)) still_drew (.tmp 31) 30 rfl ?_ Tryd.underlying30 rfl sz_w8 ?_ hkB ?_ ?_ ?_); exact rfl; exact rfl; rw [L2.out]; decide; exact stv_state _; simp only [Act.put, List.setIfInBounds_toArray, List.set_cons_succ, List.set_cons_zero]) | ((with_reducible refine' wpQuiet_arr_all (B := w.heap.size) (f := 8) (.tmp 33) 31 rfl ?_ Tryd.underlying31 sz_u8 ?_ ?_); exact rfl; exact rfl; simp only [Act.put, List.setIfInBounds_toArray, List.set_cons_succ, List.set_cons_zero]) | go_big_quiet_step (fail))); refine wpQuiet_nil ?_; show wpList _ _ _ _ _ _)
        go_wp2_with (first
          | ((go_at_call 30; (with_reducible refine (compress_any (.slice (some ⟨w.heap.size, 8, none⟩) 64 64) y.s (splice y.b (y.n % 64) tk) wB.drew (Tb.drew hTB) (Rd.drew hrd)).mono ?_); rintro e w' ⟨rfl, hbc⟩); have hkB2 := Blk.below (Blk.drew hkB) hbc (Blk.lt hkB); have hkR3 := Blk.below (Blk.drew hkR2) hbc (Blk.lt hkR2); have hb3 := hbc0.trans (hbc.mono (by have := hblB.size; exact this)))
          | (((with_reducible refine' wpList_store_part (f := 0) (cs := uv (l8 (comp y.s (splice y.b (y.n % 64) tk)))) 30 (.tmp 36) (.tmp 35) rfl ?_ ?_ ?_ hkB2 sz_w8 ?_ ?_ ?_ ?_); exact rfl; exact rfl; exact rfl; rfl; rw [L2.out]; decide; exact uv_one _; intro wC hkC hOC hzC; simp only [Act.put, List.setIfInBounds_toArray, List.set_cons_succ, List.set_cons_zero]); rw [stv_puts] at hkC))
        go_roundw
        case rel =>
          refine ⟨i + k, ⟨comp y.s (splice y.b (y.n % 64) tk), splice y.b (y.n % 64) tk, y.n + k⟩, by rw [List.length_drop] at hkl; omega, rfl, Lib.hid ?_, hkC, hOC.blk hkR3 (by have := EZ1.out; omega), hb3.trans (hOC.below (Nat.le_refl _) hb3.size)⟩
          rw [EK.out, ← List.append_assoc]
          have h := isS_full (t := tk) HY.out (by rw [← HY.out.2.1, HKT.out]; omega)
          rw [← HY.out.2.1, HKT.out] at h
          exact h
        case measure =>
          show (ByteArray.mk (t.drop (i + k)).toArray).size < (ByteArray.mk (t.drop i).toArray).size
          rw [size_str, size_str, List.length_drop, List.length_drop]; omega
      · have hfb : ((y.n : Int) % 64 + (k : Int) == 64) = false := by simp; omega
        go_wp2_with (first
          | ((with_reducible refine' wpList_load_blk (.tmp 9) 32 rfl ?_ ld_u64 ?_ hkS (N0.out) ?_); exact rfl; exact rfl; simp only [Act.put, List.setIfInBounds_toArray, List.set_cons_succ, List.set_cons_zero])
          | ((with_reducible refine' wpList_arr_from (B := w.heap.size) (f := 8) (.tmp 13) (.tmp 14) 31 rfl ?_ Tryd.underlying31 sz_u8 ?_ (y.n % 64) ?_ ?_ ?_); exact rfl; exact rfl; (show (_ : Int) = _; omega); omega; simp only [Act.put, List.setIfInBounds_toArray, List.set_cons_succ, List.set_cons_zero])
          | (((with_reducible refine' wpList_copy_str (s := (t.drop i)) (f := 8 + y.n % 64) (n := 64 - y.n % 64) (cap := 64 - y.n % 64) (.tmp 15) (.tmp 16) 22 9 rfl ?_ Tryd.underlying22 sz_u8 ?_ ?_ hkS ?_ HK.out ?_); exact rfl; exact rfl; exact rfl; rw [L0.out]; omega; intro wA hkA hOA hzA; simp only [Act.put, List.setIfInBounds_toArray, List.set_cons_succ, List.set_cons_zero]); rw [HTK.out, PB.out] at hkA)
          | (((with_reducible refine' wpList_str_from (.tmp 18) (.tmp 19) 9 rfl ?_ Tryd.underlying9 (l := (t.drop i)) ?_ (k) ?_ ?_ ?_); exact rfl; exact rfl; (show (_ : Int) = _; omega); exact hkl; simp only [Act.put, List.setIfInBounds_toArray, List.set_cons_succ, List.set_cons_zero]); rw [ED.out])
          | ((with_reducible refine' wpList_load_blk (.tmp 21) 32 rfl ?_ ld_u64 ?_ hkA (N1.out) ?_); exact rfl; exact rfl; simp only [Act.put, List.setIfInBounds_toArray, List.set_cons_succ, List.set_cons_zero])
          | ((with_reducible refine' wpList_set_blk (k := 72) (B := w.heap.size) (u := .int .u64 ((y.n : Int) + (k : Int))) 32 (.tmp 26) (.tmp 25) rfl ?_ sz_u64 ?_ ?_ hkA (by rw [L1.out]; decide) ?_ ?_); exact rfl; exact rfl; exact rfl; exact rfl; intro wB hkB hOB hzB; rw [SN.out] at hkB; simp only [Act.put]))
        have hE := EZ1.out
        have hs := hbl.size
        have hsA := hOA.size
        go_roundw
        case rel =>
          refine ⟨i + k, ⟨y.s, splice y.b (y.n % 64) tk, y.n + k⟩, by rw [List.length_drop] at hkl; omega, rfl, Lib.hid ?_, hkB, hOB.blk (hOA.blk hkR (by omega)) (by omega), (hbl.trans (hOA.below (Nat.le_refl _) hs)).trans (hOB.below (Nat.le_refl _) (by omega))⟩
          rw [EK.out, ← List.append_assoc]
          have h := isS_part (t := tk) HY.out (by rw [← HY.out.2.1, HKT.out]; have := HK.out; omega)
          rw [← HY.out.2.1, HKT.out] at h
          exact h
        case measure =>
          show (ByteArray.mk (t.drop (i + k)).toArray).size < (ByteArray.mk (t.drop i).toArray).size
          rw [size_str, size_str, List.length_drop, List.length_drop]; omega
    · obtain rfl : i = t.length := by omega
      have hte : (t.drop t.length).isEmpty = true := by simp
      have L0 := Lib.hid (stv_len HY.out.1)
      go_wp2_with (first | ((with_reducible refine' wpList_load_part (f := 0) (cp := stv y) (.tmp 2) 34 rfl ?_ Tryd.underlying34 rfl sz_stm ?_ hkS ?_ ?_ ?_); exact rfl; exact rfl; rw [L0.out]; decide; rw [List.drop_zero, List.take_of_length_le (by rw [L0.out]; decide)]; simp only [Act.put, List.setIfInBounds_toArray, List.set_cons_succ, List.set_cons_zero]) | (((with_reducible refine' wpList_store_blk (cs := stv y) 34 (.tmp 4) (.tmp 37) rfl ?_ ?_ ?_ hkR sz_stm ?_ ?_ ?_ ?_); exact rfl; exact rfl; exact rfl; exact L0.out; exact stz_len; exact stv_one _; intro w3 hk3 hO3 hz3; simp only [Act.put])))
      ((try simp only [Exit.inBlock, Exit.then]); refine bodyPost_ret (results_cell_row rfl _ _ _ _ _ _ _ rfl hk3 Tryd.underlying34 rfl (by rw [sz_stm]; simp [L0.out])) rfl ?_)
      exact ⟨y, rfl, by have h := HY.out; rw [List.take_length] at h; exact h, hbl.trans (hO3.below (by have := EZ1.out; omega) hbl.size)⟩
end Go.Proofs.YtomjniijnpnehaaDoor.Wi
