/-
  The specification's helpers on hashes: a hash as a string, the key of a code, the code, the digest. Conditions: the constants lie as the program's text lays them; bounded lengths.
-/
import Derived.Test.YtomjniijnpnehaaDoorRs
import Derived.Test.YtomjniijnpnehaaDoorHo
namespace Go.Proofs.YtomjniijnpnehaaDoor.Lb
open Go Go.RowKit Go.Lib
theorem own_nil (w : World) (B : Nat) (e : TypeId) (s : Nat) : w.ownsRow B e s (.slice none 0 0) 0 [] := ⟨by simp, .inl ⟨rfl, rfl⟩⟩
section
variable {P : Program} {ops : Array Oper} {Q : Exit → Act → World → Prop} {a : Act} {w : World} {rest : List Oper} {o : Oper}
/-- 's + t' -/
theorem wpList_str_add (x y : Operand) (t r : TypeId) (ho : o.op = .binOp .add t x y r) (hw : Region.wanted o (yielded ops a.tmps) = true) {l m : List UInt8} (hx : a.eval x = .string ⟨l.toArray⟩) (hy : a.eval y = .string ⟨m.toArray⟩)
    (hl : l.length + m.length ≤ 9223372036854775807)
    (h : wpList P ops Q rest (a.put o.dst (.string ⟨(l ++ m).toArray⟩)) w) : wpList P ops Q (o :: rest) a w := by
  refine wpList_of_run hw (v := .string ⟨(l ++ m).toArray⟩) (w' := w) ?_ h
  have h1 := run_string_add_sum (P := P) w ⟨l.toArray⟩ ⟨m.toArray⟩ (by rw [size_str, size_str]; omega)
  rw [ByteArray.mk_append_mk] at h1
  unfold execOp
  simp [ho, hx, hy, eqGuard, binOp, h1]
theorem str_eql (l m : List UInt8) : ((ByteArray.mk l.toArray).toList == (ByteArray.mk m.toArray).toList) = decide (l = m) := by
  have e : ∀ l : List UInt8, (ByteArray.mk l.toArray).toList = l := fun l => by rw [ByteArray.toList_eq]
  rw [e, e, Bool.eq_iff_iff]; simp
/-- 's == t' -/
theorem wpList_str_eql (x y : Operand) (t r : TypeId) (ho : o.op = .binOp .eql t x y r) (hw : Region.wanted o (yielded ops a.tmps) = true) {l m : List UInt8} (hx : a.eval x = .string ⟨l.toArray⟩) (hy : a.eval y = .string ⟨m.toArray⟩)
    (h : wpList P ops Q rest (a.put o.dst (.bool (decide (l = m)))) w) : wpList P ops Q (o :: rest) a w := by
  refine wpList_of_run hw (v := .bool (decide (l = m))) (w' := w) ?_ h
  unfold execOp
  simp only [ho, hx, hy, eqGuard, binOp, Op.stringOp, str_eql]
  simp
/-- '==' of two arrays of bytes -/
theorem wpList_arr_eql (x y : Operand) (t r : TypeId) (ho : o.op = .binOp .eql t x y r) (hw : Region.wanted o (yielded ops a.tmps) = true) {e : TypeId} {n : Nat} (ht : P.underlying t = some (.array n e)) (he : P.underlying e = some (.int .u8)) (hsz : (P.info? e).map (·.size) = some 1) (hg : P.eqGuardType P.depth t = false)
    {l m : List UInt8} (hx : a.eval x = .agg (bv l).toArray) (hy : a.eval y = .agg (bv m).toArray) (hl : l.length = n) (hm : m.length = n)
    (h : wpList P ops Q rest (a.put o.dst (.bool (decide (l = m)))) w) : wpList P ops Q (o :: rest) a w := by
  refine wpList_of_run hw (v := .bool (decide (l = m))) (w' := w) ?_ h
  have h1 := run_eqGuard_agg (P := P) (w := w) .eql t x y (bv l).toArray (bv m).toArray hg
  have h2 := fun d => run_eq_bytes (P := P) d t e n ht he hsz l m hl hm w
  have h3 : (Op.equal t (.agg (bv l).toArray) (.agg (bv m).toArray)).run P w = .ok (decide (l = m)) w := h2 _
  unfold execOp
  simp only [ho, hx, hy, binOp, Sem.run_bind, h1, Result.andThen_ok, h3, Sem.run_pure]
end
end Go.Proofs.YtomjniijnpnehaaDoor.Lb
namespace Go.Proofs.YtomjniijnpnehaaDoor.Wi
open Go Go.RowKit Pu Lb
set_option linter.unusedSimpArgs false
set_option linter.unusedVariables false
attribute [local irreducible] comp sched comps sha outS

theorem take_bv {l : List UInt8} {i : Nat} {x : UInt8} (h : l[i]? = some x) : bv (l.take i) ++ [.int .u8 (x.toNat : Int)] = bv (l.take (i + 1)) := by
  have hi : i < l.length := (List.getElem?_eq_some_iff.1 h).1
  have hx : l[i] = x := (List.getElem?_eq_some_iff.1 h).2
  rw [List.take_succ_eq_append_getElem hi, hx, bv_append]; rfl

set_option maxRecDepth 100000 in
theorem bytes32_any (l : List UInt8) (w : World) (hl : l.length = 32) :
    Calls Tryd.prog 20 #[.agg (bv l).toArray] w fun e w' => e = .returned (.string ⟨l.toArray⟩) ∧ Below w.heap.size w w' := by
  have HL := Lib.hid hl; clear hl
  go_enter Tryd.func20, Tryd.ntmps20
  go_upto_region 3 with (((with_reducible refine' wpList_boxa (cs := bv l) 24 (.tmp 0) rfl ?_ ?_ ?_); exact rfl; exact rfl; intro w1 hk1 hN1 hz1; simp only [Act.put, List.setIfInBounds_toArray, List.set_cons_succ, List.set_cons_zero]))
  clear hz1
  go_loopw [4, 3] (fun i v wr => ∃ k : Nat, k ≤ 32 ∧ i = .int .i64 k ∧ wr.ownsRow w1.heap.size 5 1 v k (bv (l.take k)) ∧ Blk wr w.heap.size 24 (bv l) ∧ w1.heap.size ≤ wr.heap.size ∧ Below w.heap.size w wr) (fun i _ _ => 32 - (intOf i).toNat)
  case atStart => exact ⟨0, by omega, rfl, by rw [List.take_zero]; exact own_nil _ _ _ _, hk1, Nat.le_refl _, hN1⟩
  case round =>
    obtain ⟨k, hk, rfl, hown, hkB, hsz2, hbl⟩ := hrel
    have HO := Lib.hid hown
    have hl1 := hk1.lt

    clear hown
    by_cases hlt : k < 32
    · obtain ⟨wo, rfl⟩ : ∃ wo : World, wo = wr := ⟨_, rfl⟩
      obtain ⟨x, hx⟩ := get_lt (l := l) (k := k) (by rw [HL.out]; exact hlt)
      have C := Lib.hid (bv_at hx)
      have TK := Lib.hid (take_bv hx)
      have hx8 := u8_lt x
      clear hx
      go_wp2_with (first | ((with_reducible refine' wpList_at_blk (.tmp 1) (.tmp 10) 24 rfl ?_ Tryd.underlying24 sz_u8 ?_ (k) ?_ ?_ ?_); exact rfl; exact rfl; (show (_ : Int) = _; omega); omega; simp only [Act.put, List.setIfInBounds_toArray, List.set_cons_succ, List.set_cons_zero]) | ((with_reducible refine' wpList_load_blk (.tmp 11) 5 rfl ?_ ld_u8 ?_ hkB (C.out) ?_); exact rfl; exact rfl; simp only [Act.put, List.setIfInBounds_toArray, List.set_cons_succ, List.set_cons_zero]) | ((with_reducible refine' wpList_append_one (.tmp 9) (.tmp 13) 22 rfl ?_ Tryd.underlying22 inf_u8 ?_ ?_ HO.out ?_ ?_ ?_ ?_ hsz2 ?_); exact rfl; exact rfl; exact rfl; exact rfl; exact rfl; (first | omega | (unfold maxLen; omega)); omega; intro v4 w4 ho4 hb4; simp only [Act.put, List.setIfInBounds_toArray, List.set_cons_succ, List.set_cons_zero]))
      go_roundw
      case rel =>
        rw [TK.out] at ho4
        exact ⟨k + 1, by omega, by go_num, ho4, hkB.below hb4 hl1, Nat.le_trans hsz2 hb4.size, hbl.trans (hb4.mono (by omega))⟩
      case measure => simp [intOf]; omega
    · obtain rfl : k = 32 := by omega
      have hrd := Rd.of_own HO.out
      rw [List.take_of_length_le (by rw [HL.out]; exact Nat.le_refl _)] at hrd
      go_wp2_with (((with_reducible refine' wpList_str_rd (.tmp 15) 22 9 rfl ?_ Tryd.underlying22 Tryd.underlying5 Tryd.underlying9 ?_ hrd ?_); exact rfl; exact rfl; simp only [Act.put, List.setIfInBounds_toArray, List.set_cons_succ, List.set_cons_zero]))
      go_ret
      exact ⟨rfl, hbl⟩
set_option maxRecDepth 100000 in
theorem text_any (l : List UInt8) (w : World) (hl : l.length = 16) :
    Calls Tryd.prog 26 #[.agg (bv l).toArray] w fun e w' => e = .returned (.string ⟨l.toArray⟩) ∧ Below w.heap.size w w' := by
  have HL := Lib.hid hl; clear hl
  go_enter Tryd.func26, Tryd.ntmps26
  go_upto_region 3 with (((with_reducible refine' wpList_boxa (cs := bv l) 44 (.tmp 0) rfl ?_ ?_ ?_); exact rfl; exact rfl; intro w1 hk1 hN1 hz1; simp only [Act.put, List.setIfInBounds_toArray, List.set_cons_succ, List.set_cons_zero]))
  clear hz1
  go_loopw [4, 3] (fun i v wr => ∃ k : Nat, k ≤ 16 ∧ i = .int .i64 k ∧ wr.ownsRow w1.heap.size 5 1 v k (bv (l.take k)) ∧ Blk wr w.heap.size 44 (bv l) ∧ w1.heap.size ≤ wr.heap.size ∧ Below w.heap.size w wr) (fun i _ _ => 16 - (intOf i).toNat)
  case atStart => exact ⟨0, by omega, rfl, by rw [List.take_zero]; exact own_nil _ _ _ _, hk1, Nat.le_refl _, hN1⟩
  case round =>
    obtain ⟨k, hk, rfl, hown, hkB, hsz2, hbl⟩ := hrel
    have HO := Lib.hid hown
    have hl1 := hk1.lt

    clear hown
    by_cases hlt : k < 16
    · obtain ⟨wo, rfl⟩ : ∃ wo : World, wo = wr := ⟨_, rfl⟩
      obtain ⟨x, hx⟩ := get_lt (l := l) (k := k) (by rw [HL.out]; exact hlt)
      have C := Lib.hid (bv_at hx)
      have TK := Lib.hid (take_bv hx)
      have hx8 := u8_lt x
      clear hx
      go_wp2_with (first | ((with_reducible refine' wpList_at_blk (.tmp 1) (.tmp 10) 44 rfl ?_ Tryd.underlying44 sz_u8 ?_ (k) ?_ ?_ ?_); exact rfl; exact rfl; (show (_ : Int) = _; omega); omega; simp only [Act.put, List.setIfInBounds_toArray, List.set_cons_succ, List.set_cons_zero]) | ((with_reducible refine' wpList_load_blk (.tmp 11) 5 rfl ?_ ld_u8 ?_ hkB (C.out) ?_); exact rfl; exact rfl; simp only [Act.put, List.setIfInBounds_toArray, List.set_cons_succ, List.set_cons_zero]) | ((with_reducible refine' wpList_append_one (.tmp 9) (.tmp 13) 22 rfl ?_ Tryd.underlying22 inf_u8 ?_ ?_ HO.out ?_ ?_ ?_ ?_ hsz2 ?_); exact rfl; exact rfl; exact rfl; exact rfl; exact rfl; (first | omega | (unfold maxLen; omega)); omega; intro v4 w4 ho4 hb4; simp only [Act.put, List.setIfInBounds_toArray, List.set_cons_succ, List.set_cons_zero]))
      go_roundw
      case rel =>
        rw [TK.out] at ho4
        exact ⟨k + 1, by omega, by go_num, ho4, hkB.below hb4 hl1, Nat.le_trans hsz2 hb4.size, hbl.trans (hb4.mono (by omega))⟩
      case measure => simp [intOf]; omega
    · obtain rfl : k = 16 := by omega
      have hrd := Rd.of_own HO.out
      rw [List.take_of_length_le (by rw [HL.out]; exact Nat.le_refl _)] at hrd
      go_wp2_with (((with_reducible refine' wpList_str_rd (.tmp 15) 22 9 rfl ?_ Tryd.underlying22 Tryd.underlying5 Tryd.underlying9 ?_ hrd ?_); exact rfl; exact rfl; simp only [Act.put, List.setIfInBounds_toArray, List.set_cons_succ, List.set_cons_zero]))
      go_ret
      exact ⟨rfl, hbl⟩
end Go.Proofs.YtomjniijnpnehaaDoor.Wi
