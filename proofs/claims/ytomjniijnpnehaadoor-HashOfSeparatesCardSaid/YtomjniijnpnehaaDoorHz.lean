/-
  The hash of a stream, of a byte sequence. Conditions: the constants lie as the program's text lays them; the message is shorter than 2^59 bytes.
-/
import Derived.Test.YtomjniijnpnehaaDoorHa
namespace Go.Proofs.YtomjniijnpnehaaDoor.Lb
open Go Go.RowKit Go.Lib
section
variable {P : Program} {ops : Array Oper} {Q : Exit → Act → World → Prop} {a : Act} {w : World} {rest : List Oper} {o : Oper}
/-- '[]T{x}', one cell, as a row of the call's own -/
theorem wpList_build_own (x : Operand) (t : TypeId) (ho : o.op = .buildSlice t 1 #[(0, x)]) (hw : Region.wanted o (yielded ops a.tmps) = true) {e : TypeId} (ht : P.underlying t = some (.slice e)) {z : Value} {bytes : Nat} (hinfo : (P.info? e).map (fun i => (i.zero, i.size, i.bytes)) = some (some z, 1, bytes))
    {u : Value} (hx : a.eval x = u) (h1 : u.oneCell' = true)
    (h : ∀ v' w', w'.ownsRow w.heap.size e 1 v' 1 [u] → Below w.heap.size w w' → w'.heap.size = w.heap.size + 1 → wpList P ops Q rest (a.put o.dst v') w') : wpList P ops Q (o :: rest) a w := by
  obtain ⟨i, hi, hz, hsz, hby⟩ := info_parts hinfo
  have hcells : u.cells = #[u] := by cases u <;> simp_all [Value.cells, Value.oneCell']
  have hf : Instr.fill (fun i => some (i * 1, 1)) ((Array.range (1 * 1)).map (z.cells[· % z.cells.size]!)) [(0, a.eval x)] = some #[u] := by
    have hzz : ((Array.range (1 * 1)).map (z.cells[· % z.cells.size]!)).size = 1 := by simp
    obtain ⟨zs, hzs'⟩ : ∃ zs : List Value, ((Array.range (1 * 1)).map (z.cells[· % z.cells.size]!)) = zs.toArray := ⟨_, (Array.toArray_toList).symm⟩
    rw [hzs'] at hzz ⊢
    have hzl : zs.length = 1 := by simpa using hzz
    obtain ⟨z0, rfl⟩ := List.length_eq_one_iff.1 hzl
    simp [Instr.fill, hx, hcells]
  refine wpList_of_run hw (v := .slice (some ⟨w.heap.size, 0, none⟩) 1 1) (w' := w.alloc (.cells #[u] e)) ?_ (h _ _ ?_ ((Below.refl _ _).alloc (Nat.le_refl _) _) (by simp))
  · unfold execOp
    simp only [ho, Instr.buildSlice, List.map_toArray, List.map_cons, List.map_nil, Sem.run_bind, run_underlying ht, Result.andThen_ok]
    simp only [sizeOf, typeInfo]
    simp [hsz, zeroValue, typeInfo, hi, hz]
    simp only [Nat.mul_one] at hf
    rw [hf]
    simp [newRow]
  · exact own_lit w e [u] (by unfold maxLen; simp)
end
def lenV : Value → Nat | .slice _ n _ => n | _ => 0
theorem lenV_own {w : World} {B : Nat} {e : TypeId} {s : Nat} {v : Value} {n : Nat} {xs : List Value} (h : w.ownsRow B e s v n xs) : lenV v = n := by
  rcases h.2 with ⟨rfl, rfl⟩ | ⟨g, cap, cur, rfl, _⟩ <;> rfl
end Go.Proofs.YtomjniijnpnehaaDoor.Lb
namespace Go.Proofs.YtomjniijnpnehaaDoor.Wi
open Go Go.RowKit Pu Lb
set_option linter.unusedSimpArgs false

theorem zeros_u8 (n : Nat) : (Value.agg (Array.replicate n (.int .u8 0))).cells = (List.replicate n (.int .u8 0)).toArray := by simp [Value.cells]
theorem rep_snoc (j : Nat) : bv ((128 : UInt8) :: List.replicate j 0) ++ [.int .u8 0] = bv ((128 : UInt8) :: List.replicate (j + 1) 0) := by
  rw [List.replicate_succ', ← List.cons_append, bv_append]; rfl

theorem be_cell (n t : Nat) (h : t < 8) : (8 * (n : Int)) / 2 ^ (56 - 8 * t) % 256 = ((bt ((8 * n / 256 ^ (7 - t) : Nat) : Int)).toNat : Int) := by
  have e : ((2 : Int) ^ (8 * (7 - t))) = ((256 ^ (7 - t) : Nat) : Int) := by rw [← pow8]; norm_cast
  rw [bt_toNat, show 56 - 8 * t = 8 * (7 - t) by omega, e]
  generalize 256 ^ (7 - t) = K
  rw [show 8 * (n : Int) = ((8 * n : Nat) : Int) by rw [Int.natCast_mul]; rfl, Int.natCast_ediv]
theorem be_snoc (l : List UInt8) (n t : Nat) (h : t < 8) : bv (l ++ (be64 (8 * n)).take t) ++ [.int .u8 ((8 * (n : Int)) / 2 ^ (56 - 8 * t) % 256)] = bv (l ++ (be64 (8 * n)).take (t + 1)) := by
  rw [be_cell n t h, be64_take _ h, ← List.append_assoc l, bv_append (l ++ _)]; rfl
theorem out_cell (s : S8) (i : Nat) : ((gw (l8 s) (i / 4)).toNat : Int) / 2 ^ (24 - 8 * (i % 4)) % 256 = ((bt (((gw (l8 s) (i / 4)) >>> UInt32.ofNat (24 - 8 * (i % 4))).toNat : Int)).toNat : Int) := by
  rw [bt_toNat, us _ _ (by omega)]
/-- the bytes that are there, and zeros -/
def ocells (s : S8) (i : Nat) : List Value := bv ((outS s).take i) ++ List.replicate (32 - i) (.int .u8 0)
theorem ocells_len (s : S8) {i : Nat} (h : i ≤ 32) : (ocells s i).length = 32 := by
  unfold ocells
  rw [List.length_append, bv_length, List.length_take, outS_len, List.length_replicate]; omega
theorem ocells_zero (s : S8) : ocells s 0 = List.replicate 32 (.int .u8 0) := by unfold ocells; rw [List.take_zero]; rfl
theorem ocells_all (s : S8) : ocells s 32 = bv (outS s) := by unfold ocells; rw [List.take_of_length_le (by rw [outS_len]; omega), Nat.sub_self]; simp
theorem ocells_set (s : S8) {i : Nat} (h : i < 32) : (ocells s i).set i (.int .u8 (((gw (l8 s) (i / 4)).toNat : Int) / 2 ^ (24 - 8 * (i % 4)) % 256)) = ocells s (i + 1) := by
  unfold ocells
  rw [fill_step (by rw [bv_length, List.length_take, outS_len]; omega) h, out_cell, outS_take s h, bv_append]; rfl
theorem stv_word (x : Strm) {k : Nat} (h : k < 8) : (stv x)[k]? = some (.int .u32 ((gw (l8 x.s) k).toNat : Int)) := by
  unfold stv
  rw [List.getElem?_append_left (by rw [l8_len]; exact h), uv_get (by exact h)]

attribute [local irreducible] comp sched comps sha outS
set_option maxRecDepth 100000 in
set_option maxHeartbeats 1600000 in
theorem strsum_any (m : List UInt8) (x : Strm) (w : World) (hT : TabH w) (hx : IsS m x) (hm : m.length < 576460752303423488) :
    Calls Tryd.prog 17 #[.agg (stv x).toArray] w fun e w' => e = .returned (.agg (bv (sha m)).toArray) ∧ Below w.heap.size w w' := by
  have hxn : x.n = m.length := hx.2.1
  have hx60 : x.n < 576460752303423488 := by omega
  have HXN := Lib.hid hxn
  have HX := Lib.hid hx
  have N0 := Lib.hid (stv_n hx.1)
  have L0 := Lib.hid (stv_len hx.1)
  clear hx hxn
  go_enter Tryd.func17, Tryd.ntmps17
  go_upto_region 3 with (first | ((with_reducible refine' wpList_boxa (cs := stv x) 34 (.tmp 0) rfl ?_ ?_ ?_); exact rfl; exact rfl; intro w1 hkS hN1 hz1; simp only [Act.put, List.setIfInBounds_toArray, List.set_cons_succ, List.set_cons_zero]) | (((with_reducible refine' wpList_alloc_blk (cs := List.replicate 32 (.int .u8 0)) 24 rfl ?_ zr_b32 ?_ ?_); exact rfl; exact zeros_u8 32; intro w2 hkR hN2 hz2; simp only [Act.put, List.setIfInBounds_toArray, List.set_cons_succ, List.set_cons_zero]); have hkS2 := hkS.below hN2 (by omega)) | ((with_reducible refine' wpList_load_blk (.tmp 8) 32 rfl ?_ ld_u64 ?_ hkS2 (N0.out) ?_); exact rfl; exact rfl; simp only [Act.put, List.setIfInBounds_toArray, List.set_cons_succ, List.set_cons_zero]) | ((with_reducible refine' wpList_build_own (u := .int .u8 128) (.const (.int .u8 128)) 22 rfl ?_ Tryd.underlying22 inf_u8 ?_ ?_ ?_); exact rfl; exact rfl; exact rfl; intro v3 w3 hown hN3 hz3; simp only [Act.put, List.setIfInBounds_toArray, List.set_cons_succ, List.set_cons_zero]))
  have hb := (hN1.trans (hN2.mono hN1.size)).trans (hN3.mono (by omega))
  have hkS3 := hkS2.below hN3 (by omega)
  have hkR3 := hkR.below hN3 (by omega)
  have Z1 := Lib.hid hz1; have Z2 := Lib.hid hz2
  have hw12 : w.heap.size < w2.heap.size ∧ w1.heap.size < w2.heap.size := by omega
  have hb23 := hN3.size
  have hN3' := hN3
  clear hN1 hN2 hN3 hz1 hz2 hz3 hkS hkS2 hkR
  go_loopw [4] (fun v wr => ∃ j : Nat, j ≤ zn x.n ∧ wr.ownsRow w2.heap.size 5 1 v (j + 1) (bv ((128 : UInt8) :: List.replicate j 0)) ∧ Blk wr w.heap.size 34 (stv x) ∧ Blk wr w1.heap.size 24 (List.replicate 32 (.int .u8 0)) ∧ Below w2.heap.size w2 wr ∧ Below w.heap.size w wr) (fun v _ => 64 - lenV v)
  case atStart => exact ⟨0, Nat.zero_le _, hown, hkS3, hkR3, hN3', hb⟩
  case round =>
    obtain ⟨j, hj, hown, hkS, hkR, hbl2, hbl⟩ := hrel
    have hzn : zn x.n < 64 := by unfold zn; omega
    have HO := Lib.hid hown
    have hrd := Rd.of_own hown
    clear hown
    by_cases hlt : j < zn x.n
    · obtain ⟨wo, rfl⟩ : ∃ wo : World, wo = wr := ⟨_, rfl⟩
      have hneq : (((x.n : Int) + ((j : Int) + 1)) % 64 != 56) = true := by have := zn_lt hlt; simp; omega
      go_wp2_with (first | ((with_reducible refine' wpList_load_blk (.tmp 12) 32 rfl ?_ ld_u64 ?_ hkS (N0.out) ?_); exact rfl; exact rfl; simp only [Act.put, List.setIfInBounds_toArray, List.set_cons_succ, List.set_cons_zero]) | ((with_reducible refine' wpList_len_rd (.tmp 15) 22 rfl ?_ Tryd.underlying22 ?_ hrd ?_); exact rfl; exact rfl; simp only [Act.put, List.setIfInBounds_toArray, List.set_cons_succ, List.set_cons_zero]) | ((with_reducible refine' wpList_append_one (.tmp 20) (.tmp 21) 22 rfl ?_ Tryd.underlying22 inf_u8 ?_ ?_ HO.out ?_ ?_ ?_ ?_ hbl2.size ?_); exact rfl; exact rfl; exact rfl; exact rfl; exact rfl; (first | omega | (unfold maxLen; omega)); omega; intro v4 w4 ho4 hb4; simp only [Act.put, List.setIfInBounds_toArray, List.set_cons_succ, List.set_cons_zero]))
      go_roundw
      case rel =>
        have hz := hbl.size
        have hz2 := hbl2.size
        rw [rep_snoc] at ho4
        exact ⟨j + 1, by omega, ho4, hkS.below hb4 (by omega), hkR.below hb4 (by omega), hbl2.trans hb4, hbl.trans (hb4.mono (by omega))⟩
      case measure => rw [lenV_own ho4, lenV_own HO.out]; omega
    · obtain rfl : j = zn x.n := by omega
      have hneq : (((x.n : Int) + ((zn x.n : Int) + 1)) % 64 != 56) = false := by have := zn_eq x.n; simp; omega
      go_upto_region 6 with (first | ((with_reducible refine' wpList_load_blk (.tmp 12) 32 rfl ?_ ld_u64 ?_ hkS (N0.out) ?_); exact rfl; exact rfl; simp only [Act.put, List.setIfInBounds_toArray, List.set_cons_succ, List.set_cons_zero]) | ((with_reducible refine' wpList_len_rd (.tmp 15) 22 rfl ?_ Tryd.underlying22 ?_ hrd ?_); exact rfl; exact rfl; simp only [Act.put, List.setIfInBounds_toArray, List.set_cons_succ, List.set_cons_zero]))
      clear hneq hrd
      go_loopw [23, 4] (fun i v wr => ∃ t : Nat, t ≤ 8 ∧ i = .int .i64 t ∧ wr.ownsRow w2.heap.size 5 1 v (zn x.n + 1 + t) (bv ((128 : UInt8) :: List.replicate (zn x.n) 0 ++ (be64 (8 * x.n)).take t)) ∧ Blk wr w.heap.size 34 (stv x) ∧ Blk wr w1.heap.size 24 (List.replicate 32 (.int .u8 0)) ∧ Below w2.heap.size w2 wr ∧ Below w.heap.size w wr) (fun i _ _ => 8 - (intOf i).toNat)
      case atStart => exact ⟨0, by omega, rfl, by rw [List.take_zero, List.append_nil]; exact HO.out, hkS, hkR, hbl2, hbl⟩
      case round =>
        obtain ⟨t, ht, rfl, hown, hkS, hkR, hbl2, hbl⟩ := hrel
        have HO := Lib.hid hown
        have hrd := Rd.of_own hown
        clear hown
        by_cases hlt : t < 8
        · obtain ⟨wo, rfl⟩ : ∃ wo : World, wo = wr := ⟨_, rfl⟩
          go_wp2_with (first | ((with_reducible refine' wpList_append_one (.tmp 26) (.tmp 33) 22 rfl ?_ Tryd.underlying22 inf_u8 ?_ ?_ HO.out ?_ ?_ ?_ ?_ hbl2.size ?_); exact rfl; exact rfl; exact rfl; exact rfl; exact rfl; (first | omega | (unfold maxLen; omega)); omega; intro v4 w4 ho4 hb4; simp only [Act.put, List.setIfInBounds_toArray, List.set_cons_succ, List.set_cons_zero]))
          go_roundw
          case rel =>
            have hz := hbl.size
            have hz2 := hbl2.size
            rw [be_snoc _ _ _ hlt] at ho4
            exact ⟨t + 1, by omega, by go_num, ho4, hkS.below hb4 (by omega), hkR.below hb4 (by omega), hbl2.trans hb4, hbl.trans (hb4.mono (by omega))⟩
          case measure => simp [intOf]; omega
        · obtain rfl : t = 8 := by omega
          rw [List.take_of_length_le (by rw [be64_len]; omega)] at hrd
          have hpt : ((128 : UInt8) :: List.replicate (zn x.n) 0 ++ be64 (8 * x.n)) = padTail x.n := rfl
          rw [hpt] at hrd
          have hpl := padTail_len x.n
          have PL := Lib.hid hpl
          clear hpt hpl
          have hTw := hT.below hbl
          go_upto_region 11 with (first
            | ((with_reducible refine' wpList_load_part (f := 0) (cp := stv x) (.tmp 1) 34 rfl ?_ Tryd.underlying34 rfl sz_stm ?_ hkS ?_ ?_ ?_); exact rfl; exact rfl; rw [L0.out]; decide; rw [List.drop_zero, List.take_of_length_le (by rw [L0.out]; decide)]; simp only [Act.put, List.setIfInBounds_toArray, List.set_cons_succ, List.set_cons_zero])
            | ((with_reducible refine' wpList_str_rd (.tmp 37) 22 9 rfl ?_ Tryd.underlying22 Tryd.underlying5 Tryd.underlying9 ?_ hrd ?_); exact rfl; exact rfl; simp only [Act.put, List.setIfInBounds_toArray, List.set_cons_succ, List.set_cons_zero])
            | ((go_at_call 15; (with_reducible refine (add_any m (padTail x.n) x _ hTw HX.out (by rw [PL.out]; unfold zn; omega)).mono ?_); rintro e w' ⟨y, rfl, hy, hbA⟩); have HY := Lib.hid hy; clear hy; have hkS5 := hkS.below hbA hkS.lt; have hkR5 := hkR.below hbA hkR.lt; have hb5 := hbl.trans (hbA.mono hbl.size); have LY := Lib.hid (stv_len HY.out.1))
            | (((with_reducible refine' wpList_store_blk (cs := stv y) 34 (.tmp 1) (.tmp 39) rfl ?_ ?_ ?_ hkS5 sz_stm ?_ ?_ ?_ ?_); exact rfl; exact rfl; exact rfl; exact LY.out; exact L0.out; exact stv_one _; intro w6 hkS6 hO6 hz6; simp only [Act.put]); have hkR6 := hO6.blk hkR5 (by have := Z1.out; omega); have hb6 := hb5.trans (hO6.below (Nat.le_refl _) hb5.size)))
          go_upto_region 13 with (((with_reducible refine' wpList_alloc_blk (cs := List.replicate 32 (.int .u8 0)) 24 rfl ?_ zr_b32 ?_ ?_); exact rfl; exact zeros_u8 32; intro w7 hkO hN7 hz7; simp only [Act.put, List.setIfInBounds_toArray, List.set_cons_succ, List.set_cons_zero]))
          have hkS7 := hkS6.below hN7 hkS6.lt
          have hkR7 := hkR6.below hN7 hkR6.lt
          have hb7 := hb6.trans (hN7.mono hb6.size)
          have hl1 := hkS6.lt
          have hl2 := hkR6.lt
          clear hkS5 hkR5 hb5 hkS6 hkR6 hb6 hN7 hkS hkR hbl hbl2 hrd hTw hz6 hO6
          obtain ⟨B6, hB6⟩ : ∃ B, w6.heap.size = B := ⟨_, rfl⟩
          rw [hB6] at hkO hl1 hl2 ⊢
          clear hB6
          go_loopw [40] (fun i wr => ∃ t : Nat, t ≤ 32 ∧ i = .int .i64 t ∧ Blk wr B6 24 (ocells y.s t) ∧ Blk wr w.heap.size 34 (stv y) ∧ Blk wr w1.heap.size 24 (List.replicate 32 (.int .u8 0)) ∧ Below w.heap.size w wr) (fun i _ => 32 - (intOf i).toNat)
          case atStart => exact ⟨0, by omega, rfl, by rw [ocells_zero]; exact hkO, hkS7, hkR7, hb7⟩
          case round =>
            obtain ⟨i, hi, rfl, hkO, hkS, hkR, hbl⟩ := hrel
            have OL := Lib.hid (ocells_len y.s hi)
            by_cases hlt : i < 32
            · obtain ⟨wo, rfl⟩ : ∃ wo : World, wo = wr := ⟨_, rfl⟩
              have W := Lib.hid (stv_word y (k := i / 4) (by omega))
              have SET := Lib.hid (ocells_set y.s hlt)
              obtain ⟨q, hq⟩ : ∃ q, gw (l8 y.s) (i / 4) = q := ⟨_, rfl⟩
              rw [hq] at W SET
              have hq32 := lt32 q
              clear hq
              go_wp2_with (first
                | ((with_reducible refine' wpList_at_blk (.tmp 46) (.tmp 45) 30 rfl ?_ Tryd.underlying30 sz_u32 ?_ (i / 4) ?_ ?_ ?_); exact rfl; exact rfl; (show (_ : Int) = _; omega); omega; simp only [Act.put, List.setIfInBounds_toArray, List.set_cons_succ, List.set_cons_zero]) | ((with_reducible refine' wpList_load_blk (.tmp 47) 29 rfl ?_ ld_u32 ?_ hkS (W.out) ?_); exact rfl; exact rfl; simp only [Act.put, List.setIfInBounds_toArray, List.set_cons_succ, List.set_cons_zero]) | ((with_reducible refine' wpList_at_blk (.tmp 6) (.tmp 43) 24 rfl ?_ Tryd.underlying24 sz_u8 ?_ (i) ?_ ?_ ?_); exact rfl; exact rfl; (show (_ : Int) = _; omega); omega; simp only [Act.put, List.setIfInBounds_toArray, List.set_cons_succ, List.set_cons_zero])
                | ((with_reducible refine' wpList_set_blk (k := i) (B := B6) (u := .int .u8 ((q.toNat : Int) / 2 ^ (24 - 8 * (i % 4)) % 256)) 5 (.tmp 55) (.tmp 54) rfl ?_ sz_u8 ?_ ?_ hkO (by rw [OL.out]; exact hlt) ?_ ?_); exact rfl; exact rfl; exact rfl; exact rfl; intro wB hkB hOB hzB; rw [SET.out] at hkB; simp only [Act.put]))
              go_roundw
              case rel => exact ⟨i + 1, by omega, by go_num, hkB, hOB.blk hkS (by omega), hOB.blk hkR (by omega), hbl.trans (hOB.below (by omega) hbl.size)⟩
              case measure => simp [intOf]; omega
            · obtain rfl : i = 32 := by omega
              rw [ocells_all] at hkO
              have OL2 := Lib.hid (show (bv (outS y.s)).length = 32 by rw [bv_length, outS_len])
              go_wp2_with (first | ((with_reducible refine' wpList_loadall_blk (.tmp 6) 24 rfl ?_ Tryd.underlying24 sz_b32 ?_ hkO ?_ ?_ ?_); exact rfl; exact rfl; exact OL2.out; omega; simp only [Act.put, List.setIfInBounds_toArray, List.set_cons_succ, List.set_cons_zero]) | ((with_reducible refine' wpList_store_blk (cs := bv (outS y.s)) 24 (.tmp 2) (.tmp 57) rfl ?_ ?_ ?_ hkR sz_b32 ?_ ?_ ?_ ?_); exact rfl; exact rfl; exact rfl; exact OL2.out; exact List.length_replicate; exact bv_one _; intro w8 hk8 hO8 hz8; simp only [Act.put]))
              ((try simp only [Exit.inBlock, Exit.then]); refine bodyPost_ret (results_cell_row rfl _ _ _ _ _ _ _ rfl hk8 Tryd.underlying24 rfl (by rw [sz_b32]; simp [OL2.out])) rfl ?_)
              have h := HY.out
              rw [HXN.out] at h
              have e : outS y.s = sha m := sha_of h
              exact ⟨by rw [e], hbl.trans (hO8.below (by have := Z1.out; omega) hbl.size)⟩
end Go.Proofs.YtomjniijnpnehaaDoor.Wi
