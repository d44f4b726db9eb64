/-
  The hash of a byte sequence, the code of a text, the digest of parts, equality of strings. Conditions: the constants lie as the program's text lays them; bounded lengths.
-/
import Derived.Test.YtomjniijnpnehaaDoorHz
import Derived.Test.YtomjniijnpnehaaDoorMon
namespace Go.Proofs.YtomjniijnpnehaaDoor.Lb
open Go Go.RowKit Go.Lib
section
variable {P : Program} {ops : Array Oper} {Q : Exit → Act → World → Prop} {C : World → Prop} {R : Act → Prop} {a : Act} {w : World} {rest : List Oper} {o : Oper}
theorem wpList_box1 (t : TypeId) (x : Operand) (ho : o.op = .box t x) (hw : Region.wanted o (yielded ops a.tmps) = true) {v : Value} (hx : a.eval x = v) (hc : v.cells = #[v])
    (h : ∀ w', Blk w' w.heap.size t [v] → Below w.heap.size w w' → w'.heap.size = w.heap.size + 1 → wpList P ops Q rest (a.put o.dst (.pointer (some ⟨w.heap.size, 0, none⟩))) w') : wpList P ops Q (o :: rest) a w := by
  refine wpList_of_run hw (v := .pointer (some ⟨w.heap.size, 0, none⟩)) (w' := w.alloc (.cells #[v] t)) ?_ (h _ (heap_alloc_new w _) ((Below.refl _ _).alloc (Nat.le_refl _) _) (by simp))
  unfold execOp
  simp [ho, hx, Instr.box, newVar, newRow, hc]
/-- 's[i]' of a string -/
theorem run_index_str (x i : Operand) (t : TypeId) (ho : o.op = .index t x i) (ht : P.underlying t = some .string) {l : List UInt8} (hx : a.eval x = .string ⟨l.toArray⟩) (k : Nat) (hix : IsI (a.eval i) (k : Int)) (hk : k < l.length) (w : World) :
    (execOp a.eval o).run P w = .ok (.value (.int .u8 ((Pu.gb l k).toNat : Int))) w := by
  obtain ⟨kd, hix⟩ := isI hix
  have h1 : (ByteArray.mk l.toArray)[k]? = some l[k] := by
    rw [getElem?_pos _ _ (by show k < (ByteArray.mk l.toArray).size; rw [size_str]; exact hk)]
    rfl
  have h2 : Pu.gb l k = l[k] := by simp [Pu.gb, hk]
  unfold execOp
  simp [ho, Instr.index, hx, hix, asIntOf, run_underlying ht, h1, h2]
theorem wpList_index_str (x i : Operand) (t : TypeId) (ho : o.op = .index t x i) (hw : Region.wanted o (yielded ops a.tmps) = true) (ht : P.underlying t = some .string) {l : List UInt8} (hx : a.eval x = .string ⟨l.toArray⟩) (k : Nat) (hix : IsI (a.eval i) (k : Int)) (hk : k < l.length)
    (h : wpList P ops Q rest (a.put o.dst (.int .u8 ((Pu.gb l k).toNat : Int))) w) : wpList P ops Q (o :: rest) a w := wpList_of_run hw (run_index_str x i t ho ht hx k hix hk w) h
theorem wpQuiet_index_str (x i : Operand) (t : TypeId) (ho : o.op = .index t x i) (hw : Region.wanted o (yielded ops a.tmps) = true) (ht : P.underlying t = some .string) {l : List UInt8} (hx : a.eval x = .string ⟨l.toArray⟩) (k : Nat) (hix : IsI (a.eval i) (k : Int)) (hk : k < l.length)
    (h : wpQuiet P ops C R rest (a.put o.dst (.int .u8 ((Pu.gb l k).toNat : Int)))) : wpQuiet P ops C R (o :: rest) a := wpQuiet_of_run hw (fun w _ => run_index_str x i t ho ht hx k hix hk w) h
end
end Go.Proofs.YtomjniijnpnehaaDoor.Lb
namespace Go.Proofs.YtomjniijnpnehaaDoor.Pu
/-- what differs in the first k bytes -/
def dif (a b : List UInt8) : Nat → UInt8
  | 0 => 0
  | k + 1 => dif a b k ||| (gb a k ^^^ gb b k)
theorem or_zero (x y : UInt8) : x ||| y = 0 ↔ x = 0 ∧ y = 0 := by
  rw [← UInt8.toBitVec_inj, ← UInt8.toBitVec_inj, ← UInt8.toBitVec_inj, UInt8.toBitVec_or]
  exact BitVec.or_eq_zero_iff
theorem dif_zero (a b : List UInt8) : ∀ k, dif a b k = 0 ↔ ∀ i, i < k → gb a i = gb b i
  | 0 => by simp [dif]
  | k + 1 => by
    rw [dif, or_zero, dif_zero a b k, UInt8.xor_eq_zero_iff]
    constructor
    · rintro ⟨h1, h2⟩ i hi
      rcases Nat.lt_succ_iff_lt_or_eq.1 hi with h | rfl
      · exact h1 i h
      · exact h2
    · intro h
      exact ⟨fun i hi => h i (by omega), h k (by omega)⟩
theorem dif_eq {a b : List UInt8} (h : a.length = b.length) : dif a b a.length = 0 ↔ a = b := by
  rw [dif_zero]
  constructor
  · intro hh
    apply List.ext_getElem h
    intro i h1 h2
    have := hh i h1
    simpa [gb, h1, h2] using this
  · rintro rfl i _; rfl
end Go.Proofs.YtomjniijnpnehaaDoor.Pu
namespace Go.Proofs.YtomjniijnpnehaaDoor.Wi
open Go Go.RowKit Pu Lb
set_option linter.unusedSimpArgs false
set_option linter.unusedVariables false
theorem zr_b64 : (Tryd.prog.info? 31).map (·.zero) = some (some (.agg (Array.replicate 64 (.int .u8 0)))) := by kernel_rfl
theorem sz_b64 : (Tryd.prog.info? 31).map (·.size) = some 64 := by kernel_rfl
theorem begin_isS : IsS [] begin0 := isS_nil
attribute [local irreducible] comp sched comps sha outS

set_option maxRecDepth 100000 in
set_option maxHeartbeats 1600000 in
theorem sum_any (x : Value) (n : Nat) (b : List UInt8) (w : World) (hT : TabH w) (hx : Rd w 1 x n (bv b)) (hn : b.length < 576460752303423488) :
    Calls Tryd.prog 11 #[x] w fun e w' => e = .returned (.agg (bv (sha b)).toArray) ∧ Below w.heap.size w w' := by
  have SL := Lib.hid (show (bv (sha b)).length = 32 by rw [bv_length, sha_len])
  go_enter Tryd.func11, Tryd.ntmps11
  go_upto_region 1 with (((with_reducible refine' wpList_alloc_blk (cs := List.replicate 32 (.int .u8 0)) 24 rfl ?_ zr_b32 ?_ ?_); exact rfl; exact zeros_u8 32; intro w1 hkR hN1 hz1; simp only [Act.put, List.setIfInBounds_toArray, List.set_cons_succ, List.set_cons_zero]))
  have hT1 := hT.below hN1
  have hx1 := hx.below hN1
  clear hz1
  refine wp_region_mono (w := w1) 5 (fun i => match i with | 0 => fun (vv : Value) (ww : World) => vv = .agg (stv begin0).toArray | 1 => fun (vv : Value) (ww : World) => vv = x | 2 => fun (vv : Value) (ww : World) => vv = .string ⟨b.toArray⟩ | 3 => fun (vv : Value) (ww : World) => ∃ y, vv = .agg (stv y).toArray ∧ IsS b y | 4 => fun (vv : Value) (ww : World) => vv = .agg (bv (sha b)).toArray | _ => fun _ _ => True) (by kernel_rfl) (by kernel_rfl) ?_ ?_ ?_
  · intro i vv w1 w2 h hb
    rcases i with _ | _ | _ | _ | _ | i
    all_goals first | exact h | exact Rd.below h hb | exact own_below h hb | (obtain ⟨B, h1, h2, h3⟩ := h; exact ⟨B, h1, h2, Blk.below h3 hb (Blk.lt h3)⟩) | trivial
  · intro i o hi ho us wz hl hbz hd
    obtain ⟨u0, u1, u2, u3, u4, rfl⟩ := len5 hl
    rcases i with _ | _ | _ | _ | _ | i
    · simp only [List.getElem?_cons_succ, List.getElem?_cons_zero, Option.some.injEq] at ho; subst ho; clear hi hl
      clear hd
      simp only [List.take_succ_cons, List.take_zero, List.drop_succ_cons, List.drop_zero, List.map_cons, List.map_nil, puts, Act.put, List.setIfInBounds_toArray, List.set_cons_succ, List.set_cons_zero]
      go_wp2_with ((go_at_call 14; (with_reducible refine (begin_any _).mono ?_); rintro e w' ⟨rfl, hq⟩))
      exact ⟨rfl, _, rfl, hq, rfl⟩
    · simp only [List.getElem?_cons_succ, List.getElem?_cons_zero, Option.some.injEq] at ho; subst ho; clear hi hl
      clear hd
      simp only [List.take_succ_cons, List.take_zero, List.drop_succ_cons, List.drop_zero, List.map_cons, List.map_nil, puts, Act.put, List.setIfInBounds_toArray, List.set_cons_succ, List.set_cons_zero]
      go_wp2_with (fail)
      exact ⟨rfl, _, rfl, Below.refl _ _, rfl⟩
    · simp only [List.getElem?_cons_succ, List.getElem?_cons_zero, Option.some.injEq] at ho; subst ho; clear hi hl
      have s1 : (fun (vv : Value) (ww : World) => vv = x) u1 wz := hd 1 (by kernel_rfl)
      simp only at s1
      obtain rfl := s1
      clear hd
      simp only [List.take_succ_cons, List.take_zero, List.drop_succ_cons, List.drop_zero, List.map_cons, List.map_nil, puts, Act.put, List.setIfInBounds_toArray, List.set_cons_succ, List.set_cons_zero]
      go_wp2_with (((with_reducible refine' wpList_str_rd (.tmp 4) 22 9 rfl ?_ Tryd.underlying22 Tryd.underlying5 Tryd.underlying9 ?_ (hx1.below hbz) ?_); exact rfl; exact rfl; simp only [Act.put, List.setIfInBounds_toArray, List.set_cons_succ, List.set_cons_zero]))
      exact ⟨rfl, _, rfl, Below.refl _ _, rfl⟩
    · simp only [List.getElem?_cons_succ, List.getElem?_cons_zero, Option.some.injEq] at ho; subst ho; clear hi hl
      have s0 : (fun (vv : Value) (ww : World) => vv = .agg (stv begin0).toArray) u0 wz := hd 0 (by kernel_rfl)
      simp only at s0
      obtain rfl := s0
      have s2 : (fun (vv : Value) (ww : World) => vv = .string ⟨b.toArray⟩) u2 wz := hd 2 (by kernel_rfl)
      simp only at s2
      obtain rfl := s2
      clear hd
      simp only [List.take_succ_cons, List.take_zero, List.drop_succ_cons, List.drop_zero, List.map_cons, List.map_nil, puts, Act.put, List.setIfInBounds_toArray, List.set_cons_succ, List.set_cons_zero]
      go_wp2_with ((go_at_call 15; (with_reducible refine (add_any [] b begin0 _ (hT1.below hbz) begin_isS (by simp; omega)).mono ?_); rintro e w' ⟨y, rfl, hy, hq⟩))
      exact ⟨rfl, _, rfl, hq, ⟨y, rfl, hy⟩⟩
    · simp only [List.getElem?_cons_succ, List.getElem?_cons_zero, Option.some.injEq] at ho; subst ho; clear hi hl
      have s3 : (fun (vv : Value) (ww : World) => ∃ y, vv = .agg (stv y).toArray ∧ IsS b y) u3 wz := hd 3 (by kernel_rfl)
      simp only at s3
      obtain ⟨y, rfl, hy⟩ := s3
      clear hd
      simp only [List.take_succ_cons, List.take_zero, List.drop_succ_cons, List.drop_zero, List.map_cons, List.map_nil, puts, Act.put, List.setIfInBounds_toArray, List.set_cons_succ, List.set_cons_zero]
      go_wp2_with ((go_at_call 17; (with_reducible refine (strsum_any b y _ (hT1.below hbz) hy hn).mono ?_); rintro e w' ⟨rfl, hq⟩))
      exact ⟨rfl, _, rfl, hq, rfl⟩
    · omega
  intro us wz hl hbz hS
  obtain ⟨u0, u1, u2, u3, u4, rfl⟩ := len5 hl
  have s4 : (fun (vv : Value) (ww : World) => vv = .agg (bv (sha b)).toArray) u4 wz := hS 4 (by omega)
  simp only at s4
  obtain rfl := s4
  clear hS hl
  simp only [List.take_succ_cons, List.take_zero, List.drop_succ_cons, List.drop_zero, List.map_cons, List.map_nil, puts, Act.put, List.setIfInBounds_toArray, List.set_cons_succ, List.set_cons_zero]
  replace hkR := hkR.below hbz hkR.lt
  have hb2 := hN1.trans (hbz.mono hN1.size)
  ((with_reducible refine' wpList_store_blk (cs := bv (sha b)) 24 (.tmp 2) (.tmp 7) rfl ?_ ?_ ?_ hkR sz_b32 ?_ ?_ ?_ ?_); exact rfl; exact rfl; exact rfl; exact SL.out; exact List.length_replicate; exact bv_one _; intro w3 hk3 hO3 hz3; simp only [Act.put])
  refine onlyN ?_
  go_wp2_with fail
  ((try simp only [Exit.inBlock, Exit.then]); refine bodyPost_ret (results_cell_row rfl _ _ _ _ _ _ _ rfl hk3 Tryd.underlying24 rfl (by rw [sz_b32]; simp [SL.out])) rfl ?_)
  exact ⟨rfl, hb2.trans (hO3.below (Nat.le_refl _) hb2.size)⟩

theorem x8 (x y : UInt8) : bits .xor .u8 (x.toNat : Int) (y.toNat : Int) = ((x ^^^ y).toNat : Int) := by rw [u8_xor_nat _ _ (u8_lt x) (u8_lt y), UInt8.toNat_xor]
theorem o8 (x y : UInt8) : bits .or .u8 (x.toNat : Int) (y.toNat : Int) = ((x ||| y).toNat : Int) := by rw [u8_or_nat _ _ (u8_lt x) (u8_lt y), UInt8.toNat_or]
theorem zero8 (x : UInt8) : ((x.toNat : Int) == 0) = decide (x = 0) := by
  rw [Bool.eq_iff_iff]
  simp only [beq_iff_eq, decide_eq_true_eq]
  constructor
  · intro h; exact UInt8.toNat_inj.1 (by simpa using h)
  · rintro rfl; rfl

set_option maxRecDepth 100000 in
theorem equal_any (s t : List UInt8) (w : World) (hs : s.length ≤ 140737488355328) (ht : t.length ≤ 140737488355328) :
    Calls Tryd.prog 24 #[.string ⟨s.toArray⟩, .string ⟨t.toArray⟩] w fun e w' => e = .returned (.bool (decide (s = t))) ∧ ∃ q, w' = w.drewN q := by
  have hz1 := size_str s
  have hz2 := size_str t
  by_cases hl : s.length = t.length
  · have hlb : ((s.length : Int) != (t.length : Int)) = false := by simp [hl]
    have HL := Lib.hid hl
    clear hl
    go_enter Tryd.func24, Tryd.ntmps24
    go_upto_region 5 with fail
    go_loopw [5, 14] (fun v i wr => ∃ k q : Nat, k ≤ s.length ∧ i = .int .i64 k ∧ v = .int .u8 ((dif s t k).toNat : Int) ∧ wr = w.drewN q) (fun _ i _ => s.length - (intOf i).toNat)
    case atStart => exact ⟨0, 0, by omega, rfl, rfl, rfl⟩
    case round =>
      obtain ⟨k, q, hk, rfl, rfl, rfl⟩ := hrel
      by_cases hlt : k < s.length
      · obtain ⟨d, hd⟩ : ∃ d, dif s t k = d := ⟨_, rfl⟩
        rw [hd]
        have HD := Lib.hid hd
        have b1 := u8_lt d; have b2 := u8_lt (gb s k); have b3 := u8_lt (gb t k)
        clear hd
        go_upto_region 7 with fail
        (refine wp_region_quiet_lit (by kernel_rfl) (by kernel_rfl) ?_; (repeat (first | ((with_reducible refine' wpQuiet_index_str (.tmp 18) (.tmp 19) 9 rfl ?_ Tryd.underlying9 (l := s) ?_ (k) ?_ ?_ ?_); exact rfl; exact rfl; (show (_ : Int) = _; omega); exact hlt; simp only [Act.put, List.setIfInBounds_toArray, List.set_cons_succ, List.set_cons_zero]) | ((with_reducible refine' wpQuiet_index_str (.tmp 21) (.tmp 22) 9 rfl ?_ Tryd.underlying9 (l := t) ?_ (k) ?_ ?_ ?_); exact rfl; exact rfl; (show (_ : Int) = _; omega); (rw [← HL.out]; exact hlt); simp only [Act.put, List.setIfInBounds_toArray, List.set_cons_succ, List.set_cons_zero]) | go_big_quiet_step (fail))); refine wpQuiet_nil ?_; intro _ hw'; obtain ⟨nq, hw''⟩ := hw'; subst hw'')
        go_wp2_with fail
        go_roundw
        case rel =>
          refine ⟨k + 1, q + nq, by omega, by go_num, ?_, rfl⟩
          show Value.int .u8 (bits .or .u8 (d.toNat : Int) (bits .xor .u8 ((gb s k).toNat : Int) ((gb t k).toNat : Int))) = _
          rw [x8, o8, ← HD.out]; rfl
        case measure => simp [intOf]; omega
      · obtain rfl : k = s.length := by omega
        have hz := zero8 (dif s t s.length)
        go_wp2_with fail
        go_ret
        refine ⟨?_, _, rfl⟩
        show Ending.returned (.bool (decide (dif s t s.length = 0))) = _
        congr 2
        exact decide_eq_decide.2 (dif_eq HL.out)
  · have hlb : ((s.length : Int) != (t.length : Int)) = true := by simp; omega
    have hne : decide (s = t) = false := by simp; rintro rfl; exact hl rfl
    go_enter Tryd.func24, Tryd.ntmps24
    go_wp2_with fail
    go_ret
    refine ⟨?_, 0, rfl⟩
    rw [hne]; rfl

/-! ### the code of a key -/
def pad64 (k : List UInt8) : List UInt8 := k ++ List.replicate (64 - k.length) 0
theorem pad64_len {k : List UInt8} (h : k.length ≤ 64) : (pad64 k).length = 64 := by unfold pad64; rw [List.length_append, List.length_replicate]; omega
theorem zeros_bv (n : Nat) : List.replicate n (Value.int .u8 0) = bv (List.replicate n 0) := by simp [bv]
theorem put_key {k : List UInt8} (h : k.length ≤ 64) : put (List.replicate 64 (Value.int .u8 0)) 0 (bv (k.take 64)) = bv (pad64 k) := by
  rw [List.take_of_length_le h]
  unfold put pad64
  rw [List.take_zero, List.nil_append, Nat.zero_add, bv_length, List.drop_replicate, zeros_bv, bv_append]
/-- the first i bytes are turned -/
def half (k : List UInt8) (c : UInt8) (i : Nat) : List UInt8 := (k.take i).map (· ^^^ c) ++ k.drop i
theorem half_len (k : List UInt8) (c : UInt8) (i : Nat) : (half k c i).length = k.length := by unfold half; simp; omega
theorem half_zero (k : List UInt8) (c : UInt8) : half k c 0 = k := by simp [half]
theorem half_all {k : List UInt8} {c : UInt8} {i : Nat} (h : k.length ≤ i) : half k c i = k.map (· ^^^ c) := by
  unfold half
  rw [List.take_of_length_le h, List.drop_of_length_le h, List.append_nil]
theorem half_get {k : List UInt8} {c : UInt8} {i : Nat} (h : i < k.length) : (bv (half k c i))[i]? = some (.int .u8 ((gb k i).toNat : Int)) := by
  apply bv_at
  unfold half
  rw [List.getElem?_append_right (by simp; omega)]
  simp [gb, h, Nat.min_eq_left (Nat.le_of_lt h)]
theorem half_set {k : List UInt8} {c : UInt8} {i : Nat} (h : i < k.length) : (bv (half k c i)).set i (.int .u8 ((gb k i ^^^ c).toNat : Int)) = bv (half k c (i + 1)) := by
  have e : bv (half k c i) = bv ((k.take i).map (· ^^^ c)) ++ (.int .u8 ((gb k i).toNat : Int)) :: bv (k.drop (i + 1)) := by
    unfold half
    rw [bv_append, List.drop_eq_getElem_cons h, show gb k i = k[i] by simp [gb, h]]; rfl
  rw [e, List.set_append_right _ _ (by rw [bv_length]; simp; omega), bv_length]
  have : i - ((k.take i).map (· ^^^ c)).length = 0 := by simp; omega
  rw [this, List.set_cons_zero]
  unfold half
  rw [List.take_succ_eq_append_getElem h, List.map_append, List.append_assoc, bv_append]
  simp [bv, gb, h]

set_option maxRecDepth 100000 in
set_option maxHeartbeats 800000 in
theorem padded_any (c : UInt8) (B : Nat) (k : List UInt8) (w : World) (hB : Blk w B 9 [.string ⟨k.toArray⟩]) (hk : k.length ≤ 64) :
    Calls Tryd.prog 31 #[.int .u8 (c.toNat : Int), .pointer (some ⟨B, 0, none⟩)] w fun e w' => e = .returned (.string ⟨((pad64 k).map (· ^^^ c)).toArray⟩) ∧ Below w.heap.size w w' := by
  have hBl := hB.lt
  have PL := Lib.hid (pad64_len hk)
  have PK := Lib.hid (put_key hk)
  have S0 := Lib.hid (show ([Value.string ⟨k.toArray⟩] : List Value)[0]? = some (.string ⟨k.toArray⟩) from rfl)
  have hc := u8_lt c
  go_enter Tryd.func31, Tryd.ntmps31
  go_upto_region 2 with (((with_reducible refine' wpList_alloc_blk (cs := List.replicate 64 (.int .u8 0)) 31 rfl ?_ zr_b64 ?_ ?_); exact rfl; exact zeros_u8 64; intro w1 hkb hN1 hz1; simp only [Act.put, List.setIfInBounds_toArray, List.set_cons_succ, List.set_cons_zero]))
  have hB1 := hB.below hN1 hBl
  clear hz1
  (refine wp_region_tail 2 (by kernel_rfl) (by kernel_rfl) ?_; simp only [List.take_succ_cons, List.take_zero, List.drop_succ_cons, List.drop_zero]; (repeat (first | ((with_reducible refine' wpQuiet_arr_all (B := w.heap.size) (f := 0) (.tmp 4) 31 rfl ?_ Tryd.underlying31 sz_u8 ?_ ?_); exact rfl; exact rfl; simp only [Act.put, List.setIfInBounds_toArray, List.set_cons_succ, List.set_cons_zero]) | ((with_reducible refine' wpQuiet_load_blk still_drew (.tmp 1) 9 rfl ?_ ld_str ?_ hB1 (S0.out) ?_); exact rfl; exact rfl; simp only [Act.put, List.setIfInBounds_toArray, List.set_cons_succ, List.set_cons_zero]) | go_big_quiet_step (fail))); refine wpQuiet_nil ?_; show wpList _ _ _ _ _ _)
  ((with_reducible refine' wpList_copy_str (s := k) (f := 0) (n := 64) (cap := 64) (.tmp 6) (.tmp 7) 22 9 rfl ?_ Tryd.underlying22 sz_u8 ?_ ?_ (Blk.drew hkb) ?_ rfl ?_); exact rfl; exact rfl; exact rfl; simp; intro w2 hk2 hO2 hz2; simp only [Act.put, List.setIfInBounds_toArray, List.set_cons_succ, List.set_cons_zero])
  rw [PK.out] at hk2
  have hb2 := (below_drew hN1).trans (hO2.below (Nat.le_refl _) hN1.size)
  clear hz2 hO2
  go_upto_region 4 with fail
  go_loopw [9] (fun i wr => ∃ t : Nat, t ≤ 64 ∧ i = .int .i64 t ∧ Blk wr w.heap.size 31 (bv (half (pad64 k) c t)) ∧ Below w.heap.size w wr) (fun i _ => 64 - (intOf i).toNat)
  case atStart => exact ⟨0, by omega, rfl, by rw [half_zero]; exact hk2, hb2⟩
  case round =>
    obtain ⟨t, ht, rfl, hk3, hbl⟩ := hrel
    by_cases hlt : t < 64
    · obtain ⟨wo, rfl⟩ : ∃ wo : World, wo = wr := ⟨_, rfl⟩
      have hx := half_get (k := pad64 k) (c := c) (i := t) (by rw [PL.out]; exact hlt)
      have hs := half_set (k := pad64 k) (c := c) (i := t) (by rw [PL.out]; exact hlt)
      have HL := Lib.hid (show (bv (half (pad64 k) c t)).length = 64 by rw [bv_length, half_len, PL.out])
      obtain ⟨x, hx1⟩ : ∃ x, gb (pad64 k) t = x := ⟨_, rfl⟩
      rw [hx1] at hx hs
      have X := Lib.hid hx; have SET := Lib.hid hs
      have hx8 := u8_lt x
      have X8 := x8 x c
      clear hx hs hx1
      go_wp2_with (first
        | ((with_reducible refine' wpList_at_blk (.tmp 4) (.tmp 12) 31 rfl ?_ Tryd.underlying31 sz_u8 ?_ (t) ?_ ?_ ?_); exact rfl; exact rfl; (show (_ : Int) = _; omega); omega; simp only [Act.put, List.setIfInBounds_toArray, List.set_cons_succ, List.set_cons_zero]) | ((with_reducible refine' wpList_load_blk (.tmp 13) 5 rfl ?_ ld_u8 ?_ hk3 (X.out) ?_); exact rfl; exact rfl; simp only [Act.put, List.setIfInBounds_toArray, List.set_cons_succ, List.set_cons_zero])
        | ((with_reducible refine' wpList_set_blk (k := t) (B := w.heap.size) (u := .int .u8 ((x ^^^ c).toNat : Int)) 5 (.tmp 17) (.tmp 16) rfl ?_ sz_u8 ?_ ?_ hk3 (by rw [HL.out]; exact hlt) ?_ ?_); exact rfl; exact rfl; exact rfl; exact rfl; intro wB hkB hOB hzB; rw [SET.out] at hkB; simp only [Act.put]))
      go_roundw
      case rel => exact ⟨t + 1, by omega, by go_num, hkB, hbl.trans (hOB.below (Nat.le_refl _) hbl.size)⟩
      case measure => simp [intOf]; omega
    · obtain rfl : t = 64 := by omega
      rw [half_all (by rw [PL.out]; exact Nat.le_refl _)] at hk3
      have HL := Lib.hid (show (bv ((pad64 k).map (· ^^^ c))).length = 64 by rw [bv_length, List.length_map, PL.out])
      have hrd := hk3.rd 0 64 64 1 (by rw [HL.out]; decide) (Nat.le_refl _) (by unfold maxLen; omega)
      rw [List.drop_zero, List.take_of_length_le (by rw [HL.out]; decide)] at hrd
      go_wp2_with (first | ((with_reducible refine' wpList_arr_all (B := w.heap.size) (f := 0) (.tmp 4) 31 rfl ?_ Tryd.underlying31 sz_u8 ?_ ?_); exact rfl; exact rfl; simp only [Act.put, List.setIfInBounds_toArray, List.set_cons_succ, List.set_cons_zero]) | ((with_reducible refine' wpList_str_rd (.tmp 19) 22 9 rfl ?_ Tryd.underlying22 Tryd.underlying5 Tryd.underlying9 ?_ hrd ?_); exact rfl; exact rfl; simp only [Act.put, List.setIfInBounds_toArray, List.set_cons_succ, List.set_cons_zero]))
      go_ret
      exact ⟨rfl, hbl⟩

theorem padKey_eq (key : List UInt8) (c : UInt8) : padKey key c = (pad64 (if 64 < key.length then sha key else key)).map (· ^^^ c) := rfl
theorem short_key (key : List UInt8) : (if 64 < key.length then sha key else key).length ≤ 64 := by
  split
  · rw [sha_len]; omega
  · omega
theorem padKey_len (key : List UInt8) (c : UInt8) : (padKey key c).length = 64 := by rw [padKey_eq, List.length_map, pad64_len (short_key key)]
theorem pad54_any (B : Nat) (key k : List UInt8) (w : World) (hB : Blk w B 9 [.string ⟨k.toArray⟩]) (hk : (if 64 < key.length then sha key else key) = k) :
    Calls Tryd.prog 31 #[.int .u8 54, .pointer (some ⟨B, 0, none⟩)] w fun e w' => e = .returned (.string ⟨(padKey key 54).toArray⟩) ∧ Below w.heap.size w w' := by
  subst hk
  exact padded_any 54 B _ w hB (short_key key)
theorem pad92_any (B : Nat) (key k : List UInt8) (w : World) (hB : Blk w B 9 [.string ⟨k.toArray⟩]) (hk : (if 64 < key.length then sha key else key) = k) :
    Calls Tryd.prog 31 #[.int .u8 92, .pointer (some ⟨B, 0, none⟩)] w fun e w' => e = .returned (.string ⟨(padKey key 92).toArray⟩) ∧ Below w.heap.size w w' := by
  subst hk
  exact padded_any 92 B _ w hB (short_key key)
theorem mac_eq (key text : List UInt8) : mac key text = sha (padKey key 92 ++ sha (padKey key 54 ++ text)) := rfl

set_option maxRecDepth 100000 in
set_option maxHeartbeats 1600000 in
theorem mac_any (key text : List UInt8) (w : World) (hT : TabH w) (hk : key.length ≤ 140737488355328) (ht : text.length ≤ 140737488355328) :
    Calls Tryd.prog 18 #[.string ⟨key.toArray⟩, .string ⟨text.toArray⟩] w fun e w' => e = .returned (.string ⟨(mac key text).toArray⟩) ∧ Below w.heap.size w w' := by
  have hz1 := size_str key
  have SK := Lib.hid (short_key key)
  have S0 := Lib.hid (show ([Value.string ⟨key.toArray⟩] : List Value)[0]? = some (.string ⟨key.toArray⟩) from rfl)
  have PK := Lib.hid (padKey_len key 54)
  have PK2 := Lib.hid (padKey_len key 92)
  go_enter Tryd.func18, Tryd.ntmps18
  go_upto_region 1 with (((with_reducible refine' wpList_box1 (v := .string ⟨key.toArray⟩) 9 (.tmp 0) rfl ?_ ?_ ?_ ?_); exact rfl; exact rfl; exact rfl; intro w1 hkB hN1 hz; simp only [Act.put, List.setIfInBounds_toArray, List.set_cons_succ, List.set_cons_zero]))
  clear hz
  have hT1 := hT.below hN1
  have hb1 := hkB.lt
  go_upto_if 11 with (((with_reducible refine' wpList_load_blk (.tmp 2) 9 rfl ?_ ld_str ?_ hkB (S0.out) ?_); exact rfl; exact rfl; simp only [Act.put, List.setIfInBounds_toArray, List.set_cons_succ, List.set_cons_zero]))
  go_cut [] from 9 (fun wr => Blk wr w.heap.size 9 [.string ⟨(if 64 < key.length then sha key else key).toArray⟩] ∧ Below w.heap.size w wr)
  case first =>
    by_cases h64 : 64 < key.length
    · have SL := Lib.hid (show (bv (sha key)).length = 32 by rw [bv_length, sha_len])
      go_wp2_with (first
        | ((with_reducible refine' wpList_load_blk (.tmp 2) 9 rfl ?_ ld_str ?_ hkB (S0.out) ?_); exact rfl; exact rfl; simp only [Act.put, List.setIfInBounds_toArray, List.set_cons_succ, List.set_cons_zero]) | (((with_reducible refine' wpList_bytes_l (l := key) (.tmp 12) 9 22 rfl ?_ Tryd.underlying9 Tryd.underlying22 Tryd.underlying5 ?_ ((by unfold maxLen; omega)) ?_); exact rfl; exact rfl; intro v2 w2 hr2 hN2; simp only [Act.put, List.setIfInBounds_toArray, List.set_cons_succ, List.set_cons_zero]); have hT2 := hT1.below hN2)
        | ((go_at_call 11; (with_reducible refine (sum_any _ _ key _ hT2 hr2 (by omega)).mono ?_); rintro e w' ⟨rfl, hN3⟩))
        | (((with_reducible refine' wpList_alloc_blk (cs := List.replicate 32 (.int .u8 0)) 24 rfl ?_ zr_b32 ?_ ?_); exact rfl; exact zeros_u8 32; intro w4 hk4 hN4 hz4; simp only [Act.put, List.setIfInBounds_toArray, List.set_cons_succ, List.set_cons_zero]))
        | (((with_reducible refine' wpList_store_blk (cs := bv (sha key)) 24 (.tmp 5) (.tmp 14) rfl ?_ ?_ ?_ hk4 sz_b32 ?_ ?_ ?_ ?_); exact rfl; exact rfl; exact rfl; exact SL.out; exact List.length_replicate; exact bv_one _; intro w5 hk5 hO5 hz5; simp only [Act.put]); have hrd := hk5.rd 0 32 32 1 (by rw [SL.out]; decide) (Nat.le_refl _) (by unfold maxLen; omega); rw [List.drop_zero, List.take_of_length_le (by rw [SL.out]; decide)] at hrd; have hkB5 := hO5.blk (((hkB.below hN2 hb1).below hN3 (by have := hN2.size; omega)).below hN4 (by have := hN2.size; have := hN3.size; omega)) (by have := hN2.size; have := hN3.size; omega))
        | ((with_reducible refine' wpList_arr_all (B := w'.heap.size) (f := 0) (.tmp 5) 24 rfl ?_ Tryd.underlying24 sz_u8 ?_ ?_); exact rfl; exact rfl; simp only [Act.put, List.setIfInBounds_toArray, List.set_cons_succ, List.set_cons_zero]) | ((with_reducible refine' wpList_str_rd (.tmp 15) 22 9 rfl ?_ Tryd.underlying22 Tryd.underlying5 Tryd.underlying9 ?_ hrd ?_); exact rfl; exact rfl; simp only [Act.put, List.setIfInBounds_toArray, List.set_cons_succ, List.set_cons_zero])
        | ((with_reducible refine' wpList_set_blk (k := 0) (B := w.heap.size) (u := .string ⟨(sha key).toArray⟩) 9 (.tmp 2) (.tmp 16) rfl ?_ sz_str ?_ ?_ hkB5 (by simp) ?_ ?_); exact rfl; exact rfl; exact rfl; exact rfl; intro w6 hk6 hO6 hz6; simp only [Act.put]))
      go_meet
      case rel =>
        have z1 := hN1.size
        have z2 := hN2.size
        have z3 := hN3.size
        have z4 := hN4.size
        refine ⟨by rw [if_pos h64]; exact hk6, ?_⟩
        exact ((((hN1.trans (hN2.mono z1)).trans (hN3.mono (by omega))).trans (hN4.mono (by omega))).trans (hO5.below (by omega) (by omega))).trans (hO6.below (Nat.le_refl _) (by omega))
    · go_wp2_with fail
      go_meet
      case rel => exact ⟨by rw [if_neg h64]; exact hkB, hN1⟩
  case rest =>
    obtain ⟨hkK, hbc⟩ := hcut
    obtain ⟨k, hkk⟩ : ∃ k, (if 64 < key.length then sha key else key) = k := ⟨_, rfl⟩
    rw [hkk] at hkK
    have KK := Lib.hid hkk
    have hTc := hT.below hbc
    clear hkk hkB hN1 hT1 hb1
    have hbl := hkK.lt
    go_upto_region 6 with (first
      | ((go_at_call 14; (with_reducible refine (begin_any _).mono ?_); rintro e w' ⟨rfl, hN2⟩); have hT2 := hTc.below hN2; have hk2 := hkK.below hN2 hbl)
      | ((go_at_call 31; (with_reducible refine (pad54_any w.heap.size key k _ hk2 KK.out).mono ?_); rintro e w' ⟨rfl, hN3⟩); have hT3 := hT2.below hN3; have hk3 := hk2.below hN3 hk2.lt)
      | ((go_at_call 15; (with_reducible refine (add_any [] (padKey key 54) begin0 _ hT3 begin_isS (by rw [PK.out]; simp)).mono ?_); rintro e w' ⟨y1, rfl, hy1, hN4⟩); have hya : IsS (padKey key 54) y1 := hy1; have hT4 := hT3.below hN4; have hk4 := hk3.below hN4 hk3.lt)
      | ((go_at_call 15; (with_reducible refine (add_any (padKey key 54) text y1 _ hT4 hya (by rw [PK.out]; omega)).mono ?_); rintro e w' ⟨y2, rfl, hy2, hN5⟩); have hT5 := hT4.below hN5; have hk5 := hk4.below hN5 hk4.lt)
      | ((go_at_call 17; (with_reducible refine (strsum_any _ y2 _ hT5 hy2 (by rw [List.length_append, PK.out]; omega)).mono ?_); rintro e w' ⟨rfl, hN6⟩); have hT6 := hT5.below hN6; have hk6 := hk5.below hN6 hk5.lt)
      | (((with_reducible refine' wpList_alloc_blk (cs := List.replicate 32 (.int .u8 0)) 24 rfl ?_ zr_b32 ?_ ?_); exact rfl; exact zeros_u8 32; intro w7 ho7 hN7 hz7; simp only [Act.put, List.setIfInBounds_toArray, List.set_cons_succ, List.set_cons_zero]); have hT7 := hT6.below hN7; have hk7 := hk6.below hN7 hk6.lt; have SL := Lib.hid (show (bv (sha (padKey key 54 ++ text))).length = 32 by rw [bv_length, sha_len]))
      | (((with_reducible refine' wpList_store_blk (cs := bv (sha (padKey key 54 ++ text))) 24 (.tmp 7) (.tmp 24) rfl ?_ ?_ ?_ ho7 sz_b32 ?_ ?_ ?_ ?_); exact rfl; exact rfl; exact rfl; exact SL.out; exact List.length_replicate; exact bv_one _; intro w8 ho8 hO8 hz8; simp only [Act.put])))
    have z2 := hN2.size
    have z3 := hN3.size
    have z4 := hN4.size
    have z5 := hN5.size
    have z6 := hN6.size
    have z7 := hN7.size
    have hc8 := ((((((hN2.trans (hN3.mono z2)).trans (hN4.mono (by omega))).trans (hN5.mono (by omega))).trans (hN6.mono (by omega))).trans (hN7.mono (by omega))).trans (hO8.below (by omega) (by omega)))
    have hk8 := hkK.below hc8 hbl
    have hb8 := hbc.trans (hc8.mono hbc.size)
    have hT8 := hT.below hb8
    have hrd := ho8.rd 0 32 32 1 (by rw [SL.out]; decide) (Nat.le_refl _) (by unfold maxLen; omega)
    rw [List.drop_zero, List.take_of_length_le (by rw [SL.out]; decide)] at hrd
    obtain ⟨B7, hB7⟩ : ∃ B, w'.heap.size = B := ⟨_, rfl⟩
    rw [hB7] at ho8 hrd ⊢
    have hlc := hk8.lt
    clear z2 z3 z4 z5 z6 z7 hN2 hN3 hN4 hN5 hN6 hN7 hO8 hz7 hz8 hB7 hT2 hT3 hT4 hT5 hT6 hT7 hk2 hk3 hk4 hk5 hk6 hk7 ho7 hc8 hy1 hya hy2
    obtain ⟨H1, hH1⟩ : ∃ H, sha (padKey key 54 ++ text) = H := ⟨_, rfl⟩
    have hHl : H1.length = 32 := by rw [← hH1, sha_len]
    rw [hH1] at hrd
    have HH := Lib.hid hH1
    have MACE := Lib.hid (mac_eq key text)
    clear hH1
    refine wp_region_mono (w := w8) 9 (fun i => match i with | 0 => fun (vv : Value) (ww : World) => vv = .agg (stv begin0).toArray | 1 => fun (vv : Value) (ww : World) => vv = .func (.func 31) #[] #[.pointer (some ⟨w.heap.size, 0, none⟩)] | 2 => fun (vv : Value) (ww : World) => vv = .string ⟨(padKey key 92).toArray⟩ | 3 => fun (vv : Value) (ww : World) => ∃ y, vv = .agg (stv y).toArray ∧ IsS (padKey key 92) y | 4 => fun (vv : Value) (ww : World) => vv = .slice (some ⟨B7, 0, none⟩) 32 32 | 5 => fun (vv : Value) (ww : World) => vv = .string ⟨H1.toArray⟩ | 6 => fun (vv : Value) (ww : World) => ∃ y, vv = .agg (stv y).toArray ∧ IsS (padKey key 92 ++ H1) y | 7 => fun (vv : Value) (ww : World) => vv = .agg (bv (sha (padKey key 92 ++ H1))).toArray | 8 => fun (vv : Value) (ww : World) => ∃ B, vv = .pointer (some ⟨B, 0, none⟩) ∧ w8.heap.size ≤ B ∧ Blk ww B 24 (List.replicate 32 (.int .u8 0)) | _ => fun _ _ => True) (by kernel_rfl) (by kernel_rfl) ?_ ?_ ?_
    · intro i vv w1 w2 h hb
      rcases i with _ | _ | _ | _ | _ | _ | _ | _ | _ | i
      all_goals first | exact h | exact Rd.below h hb | exact own_below h hb | (obtain ⟨B, h1, h2, h3⟩ := h; exact ⟨B, h1, h2, Blk.below h3 hb (Blk.lt h3)⟩) | trivial
    · intro i o hi ho us wz hl hbz hd
      obtain ⟨u0, u1, u2, u3, u4, u5, u6, u7, u8, rfl⟩ := len9 hl
      rcases i with _ | _ | _ | _ | _ | _ | _ | _ | _ | i
      · simp only [List.getElem?_cons_succ, List.getElem?_cons_zero, Option.some.injEq] at ho; subst ho; clear hi hl
        clear hd
        simp only [List.take_succ_cons, List.take_zero, List.drop_succ_cons, List.drop_zero, List.map_cons, List.map_nil, puts, Act.put, List.setIfInBounds_toArray, List.set_cons_succ, List.set_cons_zero]
        go_wp2_with ((go_at_call 14; (with_reducible refine (begin_any _).mono ?_); rintro e w' ⟨rfl, hq⟩))
        exact ⟨rfl, _, rfl, hq, rfl⟩
      · simp only [List.getElem?_cons_succ, List.getElem?_cons_zero, Option.some.injEq] at ho; subst ho; clear hi hl
        clear hd
        simp only [List.take_succ_cons, List.take_zero, List.drop_succ_cons, List.drop_zero, List.map_cons, List.map_nil, puts, Act.put, List.setIfInBounds_toArray, List.set_cons_succ, List.set_cons_zero]
        go_wp2_with (fail)
        exact ⟨rfl, _, rfl, Below.refl _ _, rfl⟩
      · simp only [List.getElem?_cons_succ, List.getElem?_cons_zero, Option.some.injEq] at ho; subst ho; clear hi hl
        have s1 : (fun (vv : Value) (ww : World) => vv = .func (.func 31) #[] #[.pointer (some ⟨w.heap.size, 0, none⟩)]) u1 wz := hd 1 (by kernel_rfl)
        simp only at s1
        obtain rfl := s1
        clear hd
        simp only [List.take_succ_cons, List.take_zero, List.drop_succ_cons, List.drop_zero, List.map_cons, List.map_nil, puts, Act.put, List.setIfInBounds_toArray, List.set_cons_succ, List.set_cons_zero]
        go_wp2_with ((go_at_call 31; (with_reducible refine (pad92_any w.heap.size key k _ (hk8.below hbz hlc) KK.out).mono ?_); rintro e w' ⟨rfl, hq⟩))
        exact ⟨rfl, _, rfl, hq, rfl⟩
      · simp only [List.getElem?_cons_succ, List.getElem?_cons_zero, Option.some.injEq] at ho; subst ho; clear hi hl
        have s0 : (fun (vv : Value) (ww : World) => vv = .agg (stv begin0).toArray) u0 wz := hd 0 (by kernel_rfl)
        simp only at s0
        obtain rfl := s0
        have s2 : (fun (vv : Value) (ww : World) => vv = .string ⟨(padKey key 92).toArray⟩) u2 wz := hd 2 (by kernel_rfl)
        simp only at s2
        obtain rfl := s2
        clear hd
        simp only [List.take_succ_cons, List.take_zero, List.drop_succ_cons, List.drop_zero, List.map_cons, List.map_nil, puts, Act.put, List.setIfInBounds_toArray, List.set_cons_succ, List.set_cons_zero]
        go_wp2_with ((go_at_call 15; (with_reducible refine (add_any [] (padKey key 92) begin0 _ (hT8.below hbz) begin_isS (by rw [PK2.out]; simp)).mono ?_); rintro e w' ⟨y, rfl, hy, hq⟩))
        exact ⟨rfl, _, rfl, hq, ⟨y, rfl, hy⟩⟩
      · simp only [List.getElem?_cons_succ, List.getElem?_cons_zero, Option.some.injEq] at ho; subst ho; clear hi hl
        clear hd
        simp only [List.take_succ_cons, List.take_zero, List.drop_succ_cons, List.drop_zero, List.map_cons, List.map_nil, puts, Act.put, List.setIfInBounds_toArray, List.set_cons_succ, List.set_cons_zero]
        go_wp2_with (((with_reducible refine' wpList_arr_all (B := B7) (f := 0) (.tmp 7) 24 rfl ?_ Tryd.underlying24 sz_u8 ?_ ?_); exact rfl; exact rfl; simp only [Act.put, List.setIfInBounds_toArray, List.set_cons_succ, List.set_cons_zero]))
        exact ⟨rfl, _, rfl, Below.refl _ _, rfl⟩
      · simp only [List.getElem?_cons_succ, List.getElem?_cons_zero, Option.some.injEq] at ho; subst ho; clear hi hl
        have s4 : (fun (vv : Value) (ww : World) => vv = .slice (some ⟨B7, 0, none⟩) 32 32) u4 wz := hd 4 (by kernel_rfl)
        simp only at s4
        obtain rfl := s4
        clear hd
        simp only [List.take_succ_cons, List.take_zero, List.drop_succ_cons, List.drop_zero, List.map_cons, List.map_nil, puts, Act.put, List.setIfInBounds_toArray, List.set_cons_succ, List.set_cons_zero]
        go_wp2_with (((with_reducible refine' wpList_str_rd (.tmp 29) 22 9 rfl ?_ Tryd.underlying22 Tryd.underlying5 Tryd.underlying9 ?_ (hrd.below hbz) ?_); exact rfl; exact rfl; simp only [Act.put, List.setIfInBounds_toArray, List.set_cons_succ, List.set_cons_zero]))
        exact ⟨rfl, _, rfl, Below.refl _ _, rfl⟩
      · simp only [List.getElem?_cons_succ, List.getElem?_cons_zero, Option.some.injEq] at ho; subst ho; clear hi hl
        have s3 : (fun (vv : Value) (ww : World) => ∃ y, vv = .agg (stv y).toArray ∧ IsS (padKey key 92) y) u3 wz := hd 3 (by kernel_rfl)
        simp only at s3
        obtain ⟨y, rfl, hy⟩ := s3
        have s5 : (fun (vv : Value) (ww : World) => vv = .string ⟨H1.toArray⟩) u5 wz := hd 5 (by kernel_rfl)
        simp only at s5
        obtain rfl := s5
        clear hd
        simp only [List.take_succ_cons, List.take_zero, List.drop_succ_cons, List.drop_zero, List.map_cons, List.map_nil, puts, Act.put, List.setIfInBounds_toArray, List.set_cons_succ, List.set_cons_zero]
        go_wp2_with ((go_at_call 15; (with_reducible refine (add_any (padKey key 92) H1 y _ (hT8.below hbz) hy (by rw [PK2.out, hHl]; omega)).mono ?_); rintro e w' ⟨y2, rfl, hy2, hq⟩))
        exact ⟨rfl, _, rfl, hq, ⟨y2, rfl, hy2⟩⟩
      · simp only [List.getElem?_cons_succ, List.getElem?_cons_zero, Option.some.injEq] at ho; subst ho; clear hi hl
        have s6 : (fun (vv : Value) (ww : World) => ∃ y, vv = .agg (stv y).toArray ∧ IsS (padKey key 92 ++ H1) y) u6 wz := hd 6 (by kernel_rfl)
        simp only at s6
        obtain ⟨y, rfl, hy⟩ := s6
        clear hd
        simp only [List.take_succ_cons, List.take_zero, List.drop_succ_cons, List.drop_zero, List.map_cons, List.map_nil, puts, Act.put, List.setIfInBounds_toArray, List.set_cons_succ, List.set_cons_zero]
        go_wp2_with ((go_at_call 17; (with_reducible refine (strsum_any _ y _ (hT8.below hbz) hy (by rw [List.length_append, PK2.out, hHl]; omega)).mono ?_); rintro e w' ⟨rfl, hq⟩))
        exact ⟨rfl, _, rfl, hq, rfl⟩
      · simp only [List.getElem?_cons_succ, List.getElem?_cons_zero, Option.some.injEq] at ho; subst ho; clear hi hl
        clear hd
        simp only [List.take_succ_cons, List.take_zero, List.drop_succ_cons, List.drop_zero, List.map_cons, List.map_nil, puts, Act.put, List.setIfInBounds_toArray, List.set_cons_succ, List.set_cons_zero]
        go_wp2_with (((with_reducible refine' wpList_alloc_blk (cs := List.replicate 32 (.int .u8 0)) 24 rfl ?_ zr_b32 ?_ ?_); exact rfl; exact zeros_u8 32; intro wq hkq hNq hzq; simp only [Act.put, List.setIfInBounds_toArray, List.set_cons_succ, List.set_cons_zero]))
        exact ⟨rfl, _, rfl, hNq, ⟨_, rfl, hbz.size, hkq⟩⟩
      · omega
    intro us wz hl hbz hS
    obtain ⟨u0, u1, u2, u3, u4, u5, u6, u7, u8, rfl⟩ := len9 hl
    have s7 : (fun (vv : Value) (ww : World) => vv = .agg (bv (sha (padKey key 92 ++ H1))).toArray) u7 wz := hS 7 (by omega)
    simp only at s7
    obtain rfl := s7
    have s8 : (fun (vv : Value) (ww : World) => ∃ B, vv = .pointer (some ⟨B, 0, none⟩) ∧ w8.heap.size ≤ B ∧ Blk ww B 24 (List.replicate 32 (.int .u8 0))) u8 wz := hS 8 (by omega)
    simp only at s8
    obtain ⟨B8, rfl, hB8, hkz⟩ := s8
    clear hS hl
    simp only [List.take_succ_cons, List.take_zero, List.drop_succ_cons, List.drop_zero, List.map_cons, List.map_nil, puts, Act.put, List.setIfInBounds_toArray, List.set_cons_succ, List.set_cons_zero]
    have hb9 := hb8.trans (hbz.mono hb8.size)
    have SL2 := Lib.hid (show (bv (sha (padKey key 92 ++ H1))).length = 32 by rw [bv_length, sha_len])
    ((with_reducible refine' wpList_store_blk (cs := bv (sha (padKey key 92 ++ H1))) 24 (.tmp 8) (.tmp 32) rfl ?_ ?_ ?_ hkz sz_b32 ?_ ?_ ?_ ?_); exact rfl; exact rfl; exact rfl; exact SL2.out; exact List.length_replicate; exact bv_one _; intro w9 hk9 hO9 hz9; simp only [Act.put])
    refine onlyN ?_
    have hrd9 := hk9.rd 0 32 32 1 (by rw [SL2.out]; decide) (Nat.le_refl _) (by unfold maxLen; omega)
    rw [List.drop_zero, List.take_of_length_le (by rw [SL2.out]; decide)] at hrd9
    go_wp2_with (first | ((with_reducible refine' wpList_arr_all (B := B8) (f := 0) (.tmp 8) 24 rfl ?_ Tryd.underlying24 sz_u8 ?_ ?_); exact rfl; exact rfl; simp only [Act.put, List.setIfInBounds_toArray, List.set_cons_succ, List.set_cons_zero]) | ((with_reducible refine' wpList_str_rd (.tmp 33) 22 9 rfl ?_ Tryd.underlying22 Tryd.underlying5 Tryd.underlying9 ?_ hrd9 ?_); exact rfl; exact rfl; simp only [Act.put, List.setIfInBounds_toArray, List.set_cons_succ, List.set_cons_zero]))
    go_ret
    have hs8 := hb8.size
    refine ⟨?_, hb9.trans (hO9.below (by omega) hb9.size)⟩
    rw [MACE.out, HH.out]
    rfl
end Go.Proofs.YtomjniijnpnehaaDoor.Wi
