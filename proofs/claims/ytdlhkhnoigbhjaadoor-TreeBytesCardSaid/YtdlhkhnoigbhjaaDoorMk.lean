/-
  Hz, Rw, Rs, Tlr, Ter, Hy: my texts of these names, one behind the other. Conditions: those that each law names.
-/
import Derived.Test.YtdlhkhnoigbhjaaDoorMj
import Derived.Test.YtdlhkhnoigbhjaaDoorMf
import Derived.Test.YtdlhkhnoigbhjaaDoorMh
import Derived.Test.YtdlhkhnoigbhjaaDoorMc
namespace Go.Proofs.YtdlhkhnoigbhjaaDoor.Lb
open Go Go.RowKit Go.Lib
section
variable {P : Program} {ops : Array Oper} {Q : Exit → Act → World → Prop} {a : Act} {w : World} {rest : List Oper} {o : Oper}
/-- '[]T{x}', one cell, as a row of the call's own -/
theorem wpList_build_ownH (x : Operand) (t : TypeId) (ho : o.op = .buildSlice t 1 #[(0, x)]) (hw : Region.wanted o (yielded ops a.tmps) = true) {e : TypeId} (ht : P.underlying t = some (.slice e)) {z : Value} {bytes : Nat} (hinfo : (P.info? e).map (fun i => (i.zero, i.size, i.bytes)) = some (some z, 1, bytes))
    {u : Value} (hx : a.eval x = u) (h1 : u.oneCell' = true)
    (h : ∀ v' w', w'.ownsRow w.heap.size e 1 v' 1 [u] → Below w.heap.size w w' → w'.heap.size = w.heap.size + 1 → wpList P ops Q rest (a.put o.dst v') w') : wpList P ops Q (o :: rest) a w := by
  obtain ⟨i, hi, hz, hsz, hby⟩ := info_parts hinfo
  have hcells : u.cells = #[u] := by cases u <;> simp_all [Value.cells, Value.oneCell']
  have hf : Instr.fill (fun i => some (i * 1, 1)) ((Array.range (1 * 1)).map (z.cells[· % z.cells.size]!)) [(0, a.eval x)] = some #[u] := by
    have hzz : ((Array.range (1 * 1)).map (z.cells[· % z.cells.size]!)).size = 1 := by simp
    obtain ⟨zs, hzs'⟩ : ∃ zs : List Value, ((Array.range (1 * 1)).map (z.cells[· % z.cells.size]!)) = zs.toArray := ⟨_, (Array.toArray_toList).symm⟩
    rw [hzs'] at hzz ⊢
    have hzl : zs.length = 1 := by simpa using hzz
    obtain ⟨z0, rfl⟩ := List.length_eq_one_iff.1 hzl
    simp [Instr.fill, hx, hcells]
  refine wpList_of_run hw (v := .slice (some ⟨w.heap.size, 0, none⟩) 1 1) (w' := w.alloc (.cells #[u] e)) ?_ (h _ _ ?_ ((Below.refl _ _).alloc (Nat.le_refl _) _) (by simp))
  · unfold execOp
    simp only [ho, Instr.buildSlice, List.map_toArray, List.map_cons, List.map_nil, Sem.run_bind, run_underlying ht, Result.andThen_ok]
    simp only [sizeOf, typeInfo]
    simp [hsz, zeroValue, typeInfo, hi, hz]
    simp only [Nat.mul_one] at hf
    rw [hf]
    simp [newRow]
  · exact own_lit w e [u] (by unfold maxLen; simp)
end
def lenV : Value → Nat | .slice _ n _ => n | _ => 0
theorem lenV_own {w : World} {B : Nat} {e : TypeId} {s : Nat} {v : Value} {n : Nat} {xs : List Value} (h : w.ownsRow B e s v n xs) : lenV v = n := by
  rcases h.2 with ⟨rfl, rfl⟩ | ⟨g, cap, cur, rfl, _⟩ <;> rfl
end Go.Proofs.YtdlhkhnoigbhjaaDoor.Lb
namespace Go.Proofs.YtdlhkhnoigbhjaaDoor.Wi
open Go Go.RowKit Pu Lb
set_option linter.unusedSimpArgs false

theorem zeros_u8 (n : Nat) : (Value.agg (Array.replicate n (.int .u8 0))).cells = (List.replicate n (.int .u8 0)).toArray := by simp [Value.cells]
theorem rep_snoc (j : Nat) : bv ((128 : UInt8) :: List.replicate j 0) ++ [.int .u8 0] = bv ((128 : UInt8) :: List.replicate (j + 1) 0) := by
  rw [List.replicate_succ', ← List.cons_append, bv_append]; rfl

theorem be_cell (n t : Nat) (h : t < 8) : (8 * (n : Int)) / 2 ^ (56 - 8 * t) % 256 = ((bt ((8 * n / 256 ^ (7 - t) : Nat) : Int)).toNat : Int) := by
  have e : ((2 : Int) ^ (8 * (7 - t))) = ((256 ^ (7 - t) : Nat) : Int) := by rw [← pow8]; norm_cast
  rw [bt_toNat, show 56 - 8 * t = 8 * (7 - t) by omega, e]
  generalize 256 ^ (7 - t) = K
  rw [show 8 * (n : Int) = ((8 * n : Nat) : Int) by rw [Int.natCast_mul]; rfl, Int.natCast_ediv]
theorem be_snoc (l : List UInt8) (n t : Nat) (h : t < 8) : bv (l ++ (be64 (8 * n)).take t) ++ [.int .u8 ((8 * (n : Int)) / 2 ^ (56 - 8 * t) % 256)] = bv (l ++ (be64 (8 * n)).take (t + 1)) := by
  rw [be_cell n t h, be64_take _ h, ← List.append_assoc l, bv_append (l ++ _)]; rfl
theorem out_cell (s : S8) (i : Nat) : ((gw (l8 s) (i / 4)).toNat : Int) / 2 ^ (24 - 8 * (i % 4)) % 256 = ((bt (((gw (l8 s) (i / 4)) >>> UInt32.ofNat (24 - 8 * (i % 4))).toNat : Int)).toNat : Int) := by
  rw [bt_toNat, us _ _ (by omega)]
/-- the bytes that are there, and zeros -/
def ocells (s : S8) (i : Nat) : List Value := bv ((outS s).take i) ++ List.replicate (32 - i) (.int .u8 0)
theorem ocells_len (s : S8) {i : Nat} (h : i ≤ 32) : (ocells s i).length = 32 := by
  unfold ocells
  rw [List.length_append, bv_length, List.length_take, outS_len, List.length_replicate]; omega
theorem ocells_zero (s : S8) : ocells s 0 = List.replicate 32 (.int .u8 0) := by unfold ocells; rw [List.take_zero]; rfl
theorem ocells_all (s : S8) : ocells s 32 = bv (outS s) := by unfold ocells; rw [List.take_of_length_le (by rw [outS_len]; omega), Nat.sub_self]; simp
theorem ocells_set (s : S8) {i : Nat} (h : i < 32) : (ocells s i).set i (.int .u8 (((gw (l8 s) (i / 4)).toNat : Int) / 2 ^ (24 - 8 * (i % 4)) % 256)) = ocells s (i + 1) := by
  unfold ocells
  rw [fill_step (by rw [bv_length, List.length_take, outS_len]; omega) h, out_cell, outS_take s h, bv_append]; rfl
theorem stv_word (x : Strm) {k : Nat} (h : k < 8) : (stv x)[k]? = some (.int .u32 ((gw (l8 x.s) k).toNat : Int)) := by
  unfold stv
  rw [List.getElem?_append_left (by rw [l8_len]; exact h), uv_get (by exact h)]

attribute [local irreducible] comp sched comps sha outS
set_option maxRecDepth 100000 in
set_option maxHeartbeats 1600000 in
theorem strsum_any (m : List UInt8) (x : Strm) (w : World) (hT : TabH w) (hx : IsS m x) (hm : m.length < 576460752303423488) :
    Calls Tryd.prog 71 #[.agg (stv x).toArray] w fun e w' => e = .returned (.agg (bv (sha m)).toArray) ∧ Below w.heap.size w w' := by
  have hxn : x.n = m.length := hx.2.1
  have hx60 : x.n < 576460752303423488 := by omega
  have HXN := Lib.hid hxn
  have HX := Lib.hid hx
  have N0 := Lib.hid (stv_n hx.1)
  have L0 := Lib.hid (stv_len hx.1)
  clear hx hxn
  go_enter Tryd.func71, Tryd.ntmps71
  go_upto_region 3 with (first | ((with_reducible refine' wpList_boxa (cs := stv x) 95 (.tmp 0) rfl ?_ ?_ ?_); exact rfl; exact rfl; intro w1 hkS hN1 hz1; simp only [Act.put, List.setIfInBounds_toArray, List.set_cons_succ, List.set_cons_zero]) | (((with_reducible refine' wpList_alloc_blk (cs := List.replicate 32 (.int .u8 0)) 99 rfl ?_ zr_b32 ?_ ?_); exact rfl; exact zeros_u8 32; intro w2 hkR hN2 hz2; simp only [Act.put, List.setIfInBounds_toArray, List.set_cons_succ, List.set_cons_zero]); have hkS2 := hkS.below hN2 (by omega)) | ((with_reducible refine' wpList_load_blk (.tmp 8) 93 rfl ?_ ld_u64 ?_ hkS2 (N0.out) ?_); exact rfl; exact rfl; simp only [Act.put, List.setIfInBounds_toArray, List.set_cons_succ, List.set_cons_zero]) | ((with_reducible refine' wpList_build_ownH (u := .int .u8 128) (.const (.int .u8 128)) 49 rfl ?_ Tryd.underlying49 inf_u8 ?_ ?_ ?_); exact rfl; exact rfl; exact rfl; intro v3 w3 hown hN3 hz3; simp only [Act.put, List.setIfInBounds_toArray, List.set_cons_succ, List.set_cons_zero]))
  have hb := (hN1.trans (hN2.mono hN1.size)).trans (hN3.mono (by omega))
  have hkS3 := hkS2.below hN3 (by omega)
  have hkR3 := hkR.below hN3 (by omega)
  have Z1 := Lib.hid hz1; have Z2 := Lib.hid hz2
  have hw12 : w.heap.size < w2.heap.size ∧ w1.heap.size < w2.heap.size := by omega
  have hb23 := hN3.size
  have hN3' := hN3
  clear hN1 hN2 hN3 hz1 hz2 hz3 hkS hkS2 hkR
  go_loopw [4] (fun v wr => ∃ j : Nat, j ≤ zn x.n ∧ wr.ownsRow w2.heap.size 5 1 v (j + 1) (bv ((128 : UInt8) :: List.replicate j 0)) ∧ Blk wr w.heap.size 95 (stv x) ∧ Blk wr w1.heap.size 99 (List.replicate 32 (.int .u8 0)) ∧ Below w2.heap.size w2 wr ∧ Below w.heap.size w wr) (fun v _ => 64 - lenV v)
  case atStart => exact ⟨0, Nat.zero_le _, hown, hkS3, hkR3, hN3', hb⟩
  case round =>
    obtain ⟨j, hj, hown, hkS, hkR, hbl2, hbl⟩ := hrel
    have hzn : zn x.n < 64 := by unfold zn; omega
    have HO := Lib.hid hown
    have hrd := Rd.of_own hown
    clear hown
    by_cases hlt : j < zn x.n
    · obtain ⟨wo, rfl⟩ : ∃ wo : World, wo = wr := ⟨_, rfl⟩
      have hneq : (((x.n : Int) + ((j : Int) + 1)) % 64 != 56) = true := by have := zn_lt hlt; simp; omega
      go_wp2_with (first | ((with_reducible refine' wpList_load_blk (.tmp 12) 93 rfl ?_ ld_u64 ?_ hkS (N0.out) ?_); exact rfl; exact rfl; simp only [Act.put, List.setIfInBounds_toArray, List.set_cons_succ, List.set_cons_zero]) | ((with_reducible refine' wpList_len_rd (.tmp 15) 49 rfl ?_ Tryd.underlying49 ?_ hrd ?_); exact rfl; exact rfl; simp only [Act.put, List.setIfInBounds_toArray, List.set_cons_succ, List.set_cons_zero]) | ((with_reducible refine' wpList_append_one (.tmp 20) (.tmp 21) 49 rfl ?_ Tryd.underlying49 inf_u8 ?_ ?_ HO.out ?_ ?_ ?_ ?_ hbl2.size ?_); exact rfl; exact rfl; exact rfl; exact rfl; exact rfl; (first | omega | (unfold maxLen; omega)); omega; intro v4 w4 ho4 hb4; simp only [Act.put, List.setIfInBounds_toArray, List.set_cons_succ, List.set_cons_zero]))
      go_roundw
      case rel =>
        have hz := hbl.size
        have hz2 := hbl2.size
        rw [rep_snoc] at ho4
        exact ⟨j + 1, by omega, ho4, hkS.below hb4 (by omega), hkR.below hb4 (by omega), hbl2.trans hb4, hbl.trans (hb4.mono (by omega))⟩
      case measure => rw [lenV_own ho4, lenV_own HO.out]; omega
    · obtain rfl : j = zn x.n := by omega
      have hneq : (((x.n : Int) + ((zn x.n : Int) + 1)) % 64 != 56) = false := by have := zn_eq x.n; simp; omega
      go_upto_region 6 with (first | ((with_reducible refine' wpList_load_blk (.tmp 12) 93 rfl ?_ ld_u64 ?_ hkS (N0.out) ?_); exact rfl; exact rfl; simp only [Act.put, List.setIfInBounds_toArray, List.set_cons_succ, List.set_cons_zero]) | ((with_reducible refine' wpList_len_rd (.tmp 15) 49 rfl ?_ Tryd.underlying49 ?_ hrd ?_); exact rfl; exact rfl; simp only [Act.put, List.setIfInBounds_toArray, List.set_cons_succ, List.set_cons_zero]))
      clear hneq hrd
      go_loopw [23, 4] (fun i v wr => ∃ t : Nat, t ≤ 8 ∧ i = .int .i64 t ∧ wr.ownsRow w2.heap.size 5 1 v (zn x.n + 1 + t) (bv ((128 : UInt8) :: List.replicate (zn x.n) 0 ++ (be64 (8 * x.n)).take t)) ∧ Blk wr w.heap.size 95 (stv x) ∧ Blk wr w1.heap.size 99 (List.replicate 32 (.int .u8 0)) ∧ Below w2.heap.size w2 wr ∧ Below w.heap.size w wr) (fun i _ _ => 8 - (intOf i).toNat)
      case atStart => exact ⟨0, by omega, rfl, by rw [List.take_zero, List.append_nil]; exact HO.out, hkS, hkR, hbl2, hbl⟩
      case round =>
        obtain ⟨t, ht, rfl, hown, hkS, hkR, hbl2, hbl⟩ := hrel
        have HO := Lib.hid hown
        have hrd := Rd.of_own hown
        clear hown
        by_cases hlt : t < 8
        · obtain ⟨wo, rfl⟩ : ∃ wo : World, wo = wr := ⟨_, rfl⟩
          go_wp2_with (first | ((with_reducible refine' wpList_append_one (.tmp 26) (.tmp 33) 49 rfl ?_ Tryd.underlying49 inf_u8 ?_ ?_ HO.out ?_ ?_ ?_ ?_ hbl2.size ?_); exact rfl; exact rfl; exact rfl; exact rfl; exact rfl; (first | omega | (unfold maxLen; omega)); omega; intro v4 w4 ho4 hb4; simp only [Act.put, List.setIfInBounds_toArray, List.set_cons_succ, List.set_cons_zero]))
          go_roundw
          case rel =>
            have hz := hbl.size
            have hz2 := hbl2.size
            rw [be_snoc _ _ _ hlt] at ho4
            exact ⟨t + 1, by omega, by go_num, ho4, hkS.below hb4 (by omega), hkR.below hb4 (by omega), hbl2.trans hb4, hbl.trans (hb4.mono (by omega))⟩
          case measure => simp [intOf]; omega
        · obtain rfl : t = 8 := by omega
          rw [List.take_of_length_le (by rw [be64_len]; omega)] at hrd
          have hpt : ((128 : UInt8) :: List.replicate (zn x.n) 0 ++ be64 (8 * x.n)) = padTail x.n := rfl
          rw [hpt] at hrd
          have hpl := padTail_len x.n
          have PL := Lib.hid hpl
          clear hpt hpl
          have hTw := hT.below hbl
          go_upto_region 11 with (first
            | ((with_reducible refine' wpList_load_part (f := 0) (cp := stv x) (.tmp 1) 95 rfl ?_ Tryd.underlying95 rfl sz_stm ?_ hkS ?_ ?_ ?_); exact rfl; exact rfl; rw [L0.out]; decide; rw [List.drop_zero, List.take_of_length_le (by rw [L0.out]; decide)]; simp only [Act.put, List.setIfInBounds_toArray, List.set_cons_succ, List.set_cons_zero])
            | ((with_reducible refine' wpList_str_rd (.tmp 37) 49 9 rfl ?_ Tryd.underlying49 Tryd.underlying5 Tryd.underlying9 ?_ hrd ?_); exact rfl; exact rfl; simp only [Act.put, List.setIfInBounds_toArray, List.set_cons_succ, List.set_cons_zero])
            | ((go_at_call 69; (with_reducible refine (add_any m (padTail x.n) x _ hTw HX.out (by rw [PL.out]; unfold zn; omega)).mono ?_); rintro e w' ⟨y, rfl, hy, hbA⟩); have HY := Lib.hid hy; clear hy; have hkS5 := hkS.below hbA hkS.lt; have hkR5 := hkR.below hbA hkR.lt; have hb5 := hbl.trans (hbA.mono hbl.size); have LY := Lib.hid (stv_len HY.out.1))
            | (((with_reducible refine' wpList_store_blk (cs := stv y) 95 (.tmp 1) (.tmp 39) rfl ?_ ?_ ?_ hkS5 sz_stm ?_ ?_ ?_ ?_); exact rfl; exact rfl; exact rfl; exact LY.out; exact L0.out; exact stv_one _; intro w6 hkS6 hO6 hz6; simp only [Act.put]); have hkR6 := hO6.blk hkR5 (by have := Z1.out; omega); have hb6 := hb5.trans (hO6.below (Nat.le_refl _) hb5.size)))
          go_upto_region 13 with (((with_reducible refine' wpList_alloc_blk (cs := List.replicate 32 (.int .u8 0)) 99 rfl ?_ zr_b32 ?_ ?_); exact rfl; exact zeros_u8 32; intro w7 hkO hN7 hz7; simp only [Act.put, List.setIfInBounds_toArray, List.set_cons_succ, List.set_cons_zero]))
          have hkS7 := hkS6.below hN7 hkS6.lt
          have hkR7 := hkR6.below hN7 hkR6.lt
          have hb7 := hb6.trans (hN7.mono hb6.size)
          have hl1 := hkS6.lt
          have hl2 := hkR6.lt
          clear hkS5 hkR5 hb5 hkS6 hkR6 hb6 hN7 hkS hkR hbl hbl2 hrd hTw hz6 hO6
          obtain ⟨B6, hB6⟩ : ∃ B, w6.heap.size = B := ⟨_, rfl⟩
          rw [hB6] at hkO hl1 hl2 ⊢
          clear hB6
          go_loopw [40] (fun i wr => ∃ t : Nat, t ≤ 32 ∧ i = .int .i64 t ∧ Blk wr B6 99 (ocells y.s t) ∧ Blk wr w.heap.size 95 (stv y) ∧ Blk wr w1.heap.size 99 (List.replicate 32 (.int .u8 0)) ∧ Below w.heap.size w wr) (fun i _ => 32 - (intOf i).toNat)
          case atStart => exact ⟨0, by omega, rfl, by rw [ocells_zero]; exact hkO, hkS7, hkR7, hb7⟩
          case round =>
            obtain ⟨i, hi, rfl, hkO, hkS, hkR, hbl⟩ := hrel
            have OL := Lib.hid (ocells_len y.s hi)
            by_cases hlt : i < 32
            · obtain ⟨wo, rfl⟩ : ∃ wo : World, wo = wr := ⟨_, rfl⟩
              have W := Lib.hid (stv_word y (k := i / 4) (by omega))
              have SET := Lib.hid (ocells_set y.s hlt)
              obtain ⟨q, hq⟩ : ∃ q, gw (l8 y.s) (i / 4) = q := ⟨_, rfl⟩
              rw [hq] at W SET
              have hq32 := lt32 q
              clear hq
              go_wp2_with (first
                | ((with_reducible refine' wpList_at_blk (.tmp 46) (.tmp 45) 91 rfl ?_ Tryd.underlying91 sz_u32 ?_ (i / 4) ?_ ?_ ?_); exact rfl; exact rfl; (show (_ : Int) = _; omega); omega; simp only [Act.put, List.setIfInBounds_toArray, List.set_cons_succ, List.set_cons_zero]) | ((with_reducible refine' wpList_load_blk (.tmp 47) 90 rfl ?_ ld_u32 ?_ hkS (W.out) ?_); exact rfl; exact rfl; simp only [Act.put, List.setIfInBounds_toArray, List.set_cons_succ, List.set_cons_zero]) | ((with_reducible refine' wpList_at_blk (.tmp 6) (.tmp 43) 99 rfl ?_ Tryd.underlying99 sz_u8 ?_ (i) ?_ ?_ ?_); exact rfl; exact rfl; (show (_ : Int) = _; omega); omega; simp only [Act.put, List.setIfInBounds_toArray, List.set_cons_succ, List.set_cons_zero])
                | ((with_reducible refine' wpList_set_blk (k := i) (B := B6) (u := .int .u8 ((q.toNat : Int) / 2 ^ (24 - 8 * (i % 4)) % 256)) 5 (.tmp 55) (.tmp 54) rfl ?_ sz_u8 ?_ ?_ hkO (by rw [OL.out]; exact hlt) ?_ ?_); exact rfl; exact rfl; exact rfl; exact rfl; intro wB hkB hOB hzB; rw [SET.out] at hkB; simp only [Act.put]))
              go_roundw
              case rel => exact ⟨i + 1, by omega, by go_num, hkB, hOB.blk hkS (by omega), hOB.blk hkR (by omega), hbl.trans (hOB.below (by omega) hbl.size)⟩
              case measure => simp [intOf]; omega
            · obtain rfl : i = 32 := by omega
              rw [ocells_all] at hkO
              have OL2 := Lib.hid (show (bv (outS y.s)).length = 32 by rw [bv_length, outS_len])
              go_wp2_with (first | ((with_reducible refine' wpList_loadall_blk (.tmp 6) 99 rfl ?_ Tryd.underlying99 sz_b32 ?_ hkO ?_ ?_ ?_); exact rfl; exact rfl; exact OL2.out; omega; simp only [Act.put, List.setIfInBounds_toArray, List.set_cons_succ, List.set_cons_zero]) | ((with_reducible refine' wpList_store_blk (cs := bv (outS y.s)) 99 (.tmp 2) (.tmp 57) rfl ?_ ?_ ?_ hkR sz_b32 ?_ ?_ ?_ ?_); exact rfl; exact rfl; exact rfl; exact OL2.out; exact List.length_replicate; exact bv_one _; intro w8 hk8 hO8 hz8; simp only [Act.put]))
              ((try simp only [Exit.inBlock, Exit.then]); refine bodyPost_ret (results_cell_row rfl _ _ _ _ _ _ _ rfl hk8 Tryd.underlying99 rfl (by rw [sz_b32]; simp [OL2.out])) rfl ?_)
              have h := HY.out
              rw [HXN.out] at h
              have e : outS y.s = sha m := sha_of h
              exact ⟨by rw [e], hbl.trans (hO8.below (by have := Z1.out; omega) hbl.size)⟩
end Go.Proofs.YtdlhkhnoigbhjaaDoor.Wi
namespace Go.Proofs.YtdlhkhnoigbhjaaDoor.Wi
open Go Go.RowKit Pu Lb
set_option linter.unusedSimpArgs false
set_option linter.unusedVariables false
attribute [local irreducible] comp sched comps sha outS

/-- the message, the mark, j zeros -/
def padz (m : List UInt8) (j : Nat) : List UInt8 := m ++ 128 :: List.replicate j 0
theorem padz_len (m : List UInt8) (j : Nat) : (padz m j).length = m.length + 1 + j := by simp [padz]; omega
theorem padz_snoc (m : List UInt8) (j : Nat) : bv (padz m j) ++ [.int .u8 0] = bv (padz m (j + 1)) := by
  unfold padz
  rw [List.replicate_succ', ← List.cons_append, ← List.append_assoc, bv_append (m ++ _)]; rfl
theorem padz_zero (m : List UInt8) : bv m ++ [.int .u8 128] = bv (padz m 0) := by rw [padz, bv_append]; rfl
theorem padz_all (m : List UInt8) : padz m (zn m.length) ++ be64 (8 * m.length) = padded m := by
  unfold padz padded padTail zn
  simp
theorem be_snoc2 (l : List UInt8) (n t : Nat) (h : t < 8) : bv (l ++ (be64 (8 * n)).take t) ++ [.int .u8 ((8 * (n : Int)) / 2 ^ (56 - 8 * t) % 256)] = bv (l ++ (be64 (8 * n)).take (t + 1)) := be_snoc l n t h

set_option maxRecDepth 100000 in
set_option maxHeartbeats 800000 in
theorem refpadded_any (x : Value) (n : Nat) (m : List UInt8) (w : World) (hx : Rd w 1 x n (bv m)) (hn : m.length ≤ 70368744177664) :
    Calls Tryd.prog 102 #[x] w fun e w' => ∃ v, e = .returned v ∧ w'.ownsRow w.heap.size 5 1 v (padded m).length (bv (padded m)) ∧ Below w.heap.size w w' := by
  have hl : m.length = n := by have := hx.1; rw [bv_length] at this; omega
  have h1m := bv_one m
  have h1o : ∀ u ∈ ([Value.int .u8 128] : List Value), u.oneCell' = true := by intro u hu; simp at hu; subst hu; rfl
  have hzn : zn m.length < 64 := by unfold zn; omega
  have HL := Lib.hid hl
  have hnn : n ≤ 70368744177664 := by omega
  clear hl
  go_enter Tryd.func102, Tryd.ntmps102
  go_upto_region 3 with (first
    | (((with_reducible refine' wpList_build_nil rfl ?_ Tryd.underlying49 sz_u8 ?_); exact rfl; intro v0 w0 o0 hN0; simp only [Act.put, List.setIfInBounds_toArray, List.set_cons_succ, List.set_cons_zero]); have hx0 := hx.below hN0)
    | (((with_reducible refine' wpList_append_rd (.tmp 6) (.tmp 7) 49 rfl ?_ Tryd.underlying49 inf_u8 ?_ ?_ ?_ o0 ?_ hx0 h1m ?_ ?_ hN0.size ?_); exact rfl; exact rfl; omega; exact rfl; exact rfl; (first | omega | (unfold maxLen; omega)); omega; intro v1 w1 o1 hN1; simp only [Act.put, List.setIfInBounds_toArray, List.set_cons_succ, List.set_cons_zero]); rw [Nat.zero_add, List.nil_append] at o1)
    | (((with_reducible refine' wpList_build_ownH (u := .int .u8 128) (.const (.int .u8 128)) 49 rfl ?_ Tryd.underlying49 inf_u8 ?_ ?_ ?_); exact rfl; exact rfl; exact rfl; intro v2 w2 o2 hN2 hz2; simp only [Act.put, List.setIfInBounds_toArray, List.set_cons_succ, List.set_cons_zero]); have o1b := own_below o1 hN2; have r2 := Rd.of_own o2)
    | (((with_reducible refine' wpList_append_rd (.tmp 9) (.tmp 10) 49 rfl ?_ Tryd.underlying49 inf_u8 ?_ ?_ ?_ o1b ?_ r2 h1o ?_ ?_ (Nat.le_trans (Nat.le_trans hN0.size hN1.size) hN2.size) ?_); exact rfl; exact rfl; omega; exact rfl; exact rfl; (first | omega | (unfold maxLen; omega)); omega; intro v3 w3 o3 hN3; simp only [Act.put, List.setIfInBounds_toArray, List.set_cons_succ, List.set_cons_zero])))
  have hb3 := ((hN0.trans (hN1)).trans (hN2.mono (by have := hN0.size; have := hN1.size; omega))).trans hN3
  rw [padz_zero, ← HL.out] at o3
  have O3 := Lib.hid o3
  clear o3 hN0 hN1 hN2 hN3 hz2 o0 o1 o2 o1b r2 hx0
  go_loopw [3] (fun v wr => ∃ j : Nat, j ≤ zn m.length ∧ wr.ownsRow w.heap.size 5 1 v (m.length + 1 + j) (bv (padz m j)) ∧ Below w.heap.size w wr) (fun v _ => m.length + 100 - lenV v)
  case atStart => exact ⟨0, Nat.zero_le _, O3.out, hb3⟩
  case round =>
    obtain ⟨j, hj, hown, hbl⟩ := hrel
    have HO := Lib.hid hown
    have hrd := Rd.of_own hown
    clear hown
    by_cases hlt : j < zn m.length
    · obtain ⟨wo, rfl⟩ : ∃ wo : World, wo = wr := ⟨_, rfl⟩
      have hneq : (((m.length : Int) + 1 + (j : Int)) % 64 != 56) = true := by have := zn_lt hlt; simp; omega
      go_wp2_with (first | ((with_reducible refine' wpList_len_rd (.tmp 12) 49 rfl ?_ Tryd.underlying49 ?_ hrd ?_); exact rfl; exact rfl; simp only [Act.put, List.setIfInBounds_toArray, List.set_cons_succ, List.set_cons_zero]) | ((with_reducible refine' wpList_append_one (.tmp 16) (.tmp 17) 49 rfl ?_ Tryd.underlying49 inf_u8 ?_ ?_ HO.out ?_ ?_ ?_ ?_ hbl.size ?_); exact rfl; exact rfl; exact rfl; exact rfl; exact rfl; (first | omega | (unfold maxLen; omega)); omega; intro v4 w4 ho4 hb4; simp only [Act.put, List.setIfInBounds_toArray, List.set_cons_succ, List.set_cons_zero]))
      go_roundw
      case rel =>
        rw [padz_snoc] at ho4
        exact ⟨j + 1, by omega, ho4, hbl.trans hb4⟩
      case measure => rw [lenV_own ho4, lenV_own HO.out]; omega
    · obtain rfl : j = zn m.length := by omega
      have hneq : (((m.length : Int) + 1 + (zn m.length : Int)) % 64 != 56) = false := by have := zn_eq m.length; simp; omega
      have hxw := hx.below hbl
      go_upto_region 7 with (first | ((with_reducible refine' wpList_len_rd (.tmp 12) 49 rfl ?_ Tryd.underlying49 ?_ hrd ?_); exact rfl; exact rfl; simp only [Act.put, List.setIfInBounds_toArray, List.set_cons_succ, List.set_cons_zero]) | ((with_reducible refine' wpList_len_rd (.tmp 19) 49 rfl ?_ Tryd.underlying49 ?_ hxw ?_); exact rfl; exact rfl; simp only [Act.put, List.setIfInBounds_toArray, List.set_cons_succ, List.set_cons_zero]))
      clear hneq hrd
      go_loopw [5, 3] (fun i v wr => ∃ t : Nat, t ≤ 8 ∧ i = .int .i64 t ∧ wr.ownsRow w.heap.size 5 1 v (m.length + 1 + zn m.length + t) (bv (padz m (zn m.length) ++ (be64 (8 * m.length)).take t)) ∧ Below w.heap.size w wr) (fun i _ _ => 8 - (intOf i).toNat)
      case atStart => exact ⟨0, by omega, rfl, by rw [List.take_zero, List.append_nil]; exact HO.out, hbl⟩
      case round =>
        obtain ⟨t, ht, rfl, hown, hbl⟩ := hrel
        have HO := Lib.hid hown
        clear hown
        by_cases hlt : t < 8
        · obtain ⟨wo, rfl⟩ : ∃ wo : World, wo = wr := ⟨_, rfl⟩
          go_wp2_with (first | ((with_reducible refine' wpList_append_one (.tmp 27) (.tmp 34) 49 rfl ?_ Tryd.underlying49 inf_u8 ?_ ?_ HO.out ?_ ?_ ?_ ?_ hbl.size ?_); exact rfl; exact rfl; exact rfl; exact rfl; exact rfl; (first | omega | (unfold maxLen; omega)); omega; intro v4 w4 ho4 hb4; simp only [Act.put, List.setIfInBounds_toArray, List.set_cons_succ, List.set_cons_zero]))
          go_roundw
          case rel =>
            rw [← HL.out, be_snoc _ _ _ hlt] at ho4
            exact ⟨t + 1, by omega, by go_num, ho4, hbl.trans hb4⟩
          case measure => simp [intOf]; omega
        · obtain rfl : t = 8 := by omega
          have ho := HO.out
          rw [List.take_of_length_le (by rw [be64_len]; omega), padz_all] at ho
          have hpl : (padded m).length = m.length + 1 + zn m.length + 8 := by unfold padded; rw [List.length_append, padTail_len]; omega
          rw [← hpl] at ho
          go_wp2_with fail
          go_ret
          exact ⟨_, rfl, ho, hbl⟩

/-! ### the words of a block -/
def s3 (x : UInt32) : UInt32 := x >>> 3
def s10 (x : UInt32) : UInt32 := x >>> 10
theorem s3_eq (x : UInt32) : (x.toNat : Int) / 8 = ((s3 x).toNat : Int) := us x 3 (by omega)
theorem s10_eq (x : UInt32) : (x.toNat : Int) / 1024 = ((s10 x).toNat : Int) := us x 10 (by omega)
theorem rotr_q (x : UInt32) (n : Nat) (z : Int) (hz : z = (n : Int)) (hn : 0 < n) (hn2 : n < 32) (w : World) (k : Nat) :
    Calls Tryd.prog 104 #[.int .u32 (x.toNat : Int), .int .i64 z] (w.drewN k) fun e w' => e = .returned (.int .u32 ((rr x n).toNat : Int)) ∧ ∃ q, w' = w.drewN q := by
  refine (rotr_any x n z hz hn hn2 (w.drewN k)).mono ?_
  rintro e w' ⟨rfl, q, rfl⟩
  exact ⟨rfl, k + q, by rw [World.drewN_drewN]⟩
theorem be_word (a b c d : UInt8) : bits .or .u32 (bits .or .u32 (bits .or .u32 ((a.toNat : Int) * 16777216 % 4294967296) ((b.toNat : Int) * 65536 % 4294967296)) ((c.toNat : Int) * 256 % 4294967296)) (d.toNat : Int) = ((be32 a b c d).toNat : Int) := by
  have e : ∀ x : UInt8, (x.toNat : Int) = ((x.toUInt32).toNat : Int) := fun x => by rw [UInt8.toNat_toUInt32]
  rw [e a, e b, e c, e d, show (16777216 : Int) = 2 ^ 24 from rfl, show (65536 : Int) = 2 ^ 16 from rfl, show (256 : Int) = 2 ^ 8 from rfl, ul _ 24 (by omega), ul _ 16 (by omega), ul _ 8 (by omega), uo, uo, uo]
  rfl
theorem be_word2 (a b c d : UInt8) : bits .or .u32 (bits .or .u32 (bits .or .u32 ((a.toNat : Int) * 16777216) ((b.toNat : Int) * 65536)) ((c.toNat : Int) * 256)) (d.toNat : Int) = ((be32 a b c d).toNat : Int) := by
  have ha := u8_lt a; have hb := u8_lt b; have hc := u8_lt c
  rw [← be_word, Int.emod_eq_of_lt (by omega) (by omega), Int.emod_eq_of_lt (by omega) (by omega), Int.emod_eq_of_lt (by omega) (by omega)]
theorem wcells_nil : wcells [] = List.replicate 64 (.int .u32 0) := rfl

set_option maxRecDepth 100000 in
set_option maxHeartbeats 1600000 in
theorem refwords_any (v : Value) (b : List UInt8) (w : World) (hv : Rd w 1 v 64 (bv b)) :
    Calls Tryd.prog 103 #[v] w fun e w' => e = .returned (.agg (uv (sched b 64)).toArray) ∧ Below w.heap.size w w' := by
  have hl : b.length = 64 := by have := hv.1; rw [bv_length] at this; omega
  have HL := Lib.hid hl; clear hl
  go_enter Tryd.func103, Tryd.ntmps103
  go_upto_region 1 with (((with_reducible refine' wpList_alloc_blk (cs := List.replicate 64 (.int .u32 0)) 119 rfl ?_ zr_w64 ?_ ?_); exact rfl; exact zeros_u32 64; intro w1 hkA hN1 hz1; simp only [Act.put, List.setIfInBounds_toArray, List.set_cons_succ, List.set_cons_zero]))
  go_upto_region 3 with (((with_reducible refine' wpList_alloc_blk (cs := List.replicate 64 (.int .u32 0)) 119 rfl ?_ zr_w64 ?_ ?_); exact rfl; exact zeros_u32 64; intro w2 hkB hN2 hz2; simp only [Act.put, List.setIfInBounds_toArray, List.set_cons_succ, List.set_cons_zero]))
  have hb := hN1.trans (hN2.mono hN1.size)
  replace hkA := hkA.below hN2 (by omega)
  have hlt1 : w.heap.size < w1.heap.size := by omega
  clear hz1 hz2 hN1 hN2
  go_loopw [4] (fun i wr => ∃ t : Nat, t ≤ 16 ∧ i = .int .i64 t ∧ Blk wr w1.heap.size 119 (wcells (sched b t)) ∧ Blk wr w.heap.size 119 (List.replicate 64 (.int .u32 0)) ∧ Below w.heap.size w wr) (fun i _ => 16 - (intOf i).toNat)
  case atStart => exact ⟨0, by omega, rfl, by rw [sched_zero, wcells_nil]; exact hkB, hkA, hb⟩
  case round =>
    obtain ⟨t, ht, rfl, hkW, hkR, hbl⟩ := hrel
    have hsl := sched_len b t
    have SL := Lib.hid hsl
    have WL := Lib.hid (wcells_len (l := sched b t) (by omega))
    by_cases hlt : t < 16
    · obtain ⟨wo, rfl⟩ : ∃ wo : World, wo = wr := ⟨_, rfl⟩
      have hset : ∀ x : UInt32, (wcells (sched b t)).set t (.int .u32 (x.toNat : Int)) = wcells (sched b t ++ [x]) := fun x => by
        have := wcells_set (l := sched b t) (x := x) (by omega)
        rwa [hsl] at this
      have HSET := Lib.hid hset
      have HK := Lib.hid hkW
      clear hset hsl hkW
      have r1 := hv.below hbl
      have g0 := get_lt (l := b) (k := 4 * t) (by rw [HL.out]; omega)
      have C0 := Lib.hid (part_get (b := b) (t := 0) (j := 4 * t) (n := 64) (by omega) (by rw [HL.out]; omega))
      have C1 := Lib.hid (part_get (b := b) (t := 0) (j := 4 * t + 1) (n := 64) (by omega) (by rw [HL.out]; omega))
      have C2 := Lib.hid (part_get (b := b) (t := 0) (j := 4 * t + 2) (n := 64) (by omega) (by rw [HL.out]; omega))
      have C3 := Lib.hid (part_get (b := b) (t := 0) (j := 4 * t + 3) (n := 64) (by omega) (by rw [HL.out]; omega))
      have e0 : (b.drop 0).take 64 = b := by rw [List.drop_zero, List.take_of_length_le (by rw [HL.out]; exact Nat.le_refl _)]
      rw [e0, Nat.zero_add] at C0 C1 C2 C3
      clear e0 g0
      obtain ⟨x0, hx0⟩ : ∃ x, gb b (4 * t) = x := ⟨_, rfl⟩
      obtain ⟨x1, hx1⟩ : ∃ x, gb b (4 * t + 1) = x := ⟨_, rfl⟩
      obtain ⟨x2, hx2⟩ : ∃ x, gb b (4 * t + 2) = x := ⟨_, rfl⟩
      obtain ⟨x3, hx3⟩ : ∃ x, gb b (4 * t + 3) = x := ⟨_, rfl⟩
      rw [hx0] at C0; rw [hx1] at C1; rw [hx2] at C2; rw [hx3] at C3
      have hbe : sched b (t + 1) = sched b t ++ [be32 x0 x1 x2 x3] := by rw [sched_low b hlt, hx0, hx1, hx2, hx3]
      have HBE := Lib.hid hbe
      clear hx0 hx1 hx2 hx3 hbe
      have b0 := u8_lt x0; have b1 := u8_lt x1; have b2 := u8_lt x2; have b3 := u8_lt x3
      have q0 : IntKind.i64.wrap (4 * (t : Int)) = 4 * (t : Int) := by rw [IntKind.wrap_i64]; omega
      have q1 : IntKind.i64.wrap (4 * (t : Int) + 1) = 4 * (t : Int) + 1 := by rw [IntKind.wrap_i64]; omega
      have q2 : IntKind.i64.wrap (4 * (t : Int) + 2) = 4 * (t : Int) + 2 := by rw [IntKind.wrap_i64]; omega
      have q3 : IntKind.i64.wrap (4 * (t : Int) + 3) = 4 * (t : Int) + 3 := by rw [IntKind.wrap_i64]; omega
      go_upto_region 5 with fail
      (refine wp_region_tail 35 (by kernel_rfl) (by kernel_rfl) ?_; simp only [List.take_succ_cons, List.take_zero, List.drop_succ_cons, List.drop_zero]; (repeat (first | ((with_reducible refine' wpQuiet_at1_rd (.tmp 13) (.tmp 15) 49 rfl ?_ Tryd.underlying49 sz_u8 ?_ r1 (4 * t) ?_ ?_ ?_); exact rfl; exact rfl; (show (_ : Int) = _; omega); omega; simp only [Act.put, List.setIfInBounds_toArray, List.set_cons_succ, List.set_cons_zero]) | ((with_reducible refine' wpQuiet_at1_rd (.tmp 20) (.tmp 23) 49 rfl ?_ Tryd.underlying49 sz_u8 ?_ r1 (4 * t + 1) ?_ ?_ ?_); exact rfl; exact rfl; (show (_ : Int) = _; omega); omega; simp only [Act.put, List.setIfInBounds_toArray, List.set_cons_succ, List.set_cons_zero]) | ((with_reducible refine' wpQuiet_at1_rd (.tmp 29) (.tmp 32) 49 rfl ?_ Tryd.underlying49 sz_u8 ?_ r1 (4 * t + 2) ?_ ?_ ?_); exact rfl; exact rfl; (show (_ : Int) = _; omega); omega; simp only [Act.put, List.setIfInBounds_toArray, List.set_cons_succ, List.set_cons_zero]) | ((with_reducible refine' wpQuiet_at1_rd (.tmp 38) (.tmp 41) 49 rfl ?_ Tryd.underlying49 sz_u8 ?_ r1 (4 * t + 3) ?_ ?_ ?_); exact rfl; exact rfl; (show (_ : Int) = _; omega); omega; simp only [Act.put, List.setIfInBounds_toArray, List.set_cons_succ, List.set_cons_zero]) | ((with_reducible refine' wpQuiet_load_rd still_drew (.tmp 16) 5 rfl ?_ ld_u8 ?_ r1 (C0.out) ?_); exact rfl; exact rfl; simp only [Act.put, List.setIfInBounds_toArray, List.set_cons_succ, List.set_cons_zero]) | ((with_reducible refine' wpQuiet_load_rd still_drew (.tmp 24) 5 rfl ?_ ld_u8 ?_ r1 (C1.out) ?_); exact rfl; exact rfl; simp only [Act.put, List.setIfInBounds_toArray, List.set_cons_succ, List.set_cons_zero]) | ((with_reducible refine' wpQuiet_load_rd still_drew (.tmp 33) 5 rfl ?_ ld_u8 ?_ r1 (C2.out) ?_); exact rfl; exact rfl; simp only [Act.put, List.setIfInBounds_toArray, List.set_cons_succ, List.set_cons_zero]) | ((with_reducible refine' wpQuiet_load_rd still_drew (.tmp 42) 5 rfl ?_ ld_u8 ?_ r1 (C3.out) ?_); exact rfl; exact rfl; simp only [Act.put, List.setIfInBounds_toArray, List.set_cons_succ, List.set_cons_zero]) | ((with_reducible refine' wpQuiet_at_blk (.tmp 3) (.tmp 12) 119 rfl ?_ Tryd.underlying119 sz_u32 ?_ (t) ?_ ?_ ?_); exact rfl; exact rfl; (show (_ : Int) = _; omega); omega; simp only [Act.put, List.setIfInBounds_toArray, List.set_cons_succ, List.set_cons_zero]) | go_big_quiet_step (fail))); refine wpQuiet_nil ?_; show wpList _ _ _ _ _ _)
      (with_reducible refine' wpList_set_blk (k := t) 90 (.tmp 46) (.tmp 45) rfl ?_ sz_u32 ?_ rfl (Blk.drew HK.out) (by rw [WL.out]; omega) ?_ ?_); exact rfl; exact rfl; exact rfl; intro w4 hk4 hq4 hz4; simp only [Act.put]
      simp [Act.eval] at hk4
      rw [be_word2, HSET.out, ← HBE.out] at hk4
      go_wp2_with fail
      go_roundw
      case rel => exact ⟨t + 1, by omega, by go_num, hk4, hq4.blk (Blk.drew hkR) (by omega), (below_drew hbl).trans (hq4.below (by omega) hbl.size)⟩
      case measure => simp [intOf]; omega
    · obtain rfl : t = 16 := by omega
      clear WL
      go_upto_region 7 with fail
      go_loopw [5] (fun i wr => ∃ t : Nat, 16 ≤ t ∧ t ≤ 64 ∧ i = .int .i64 t ∧ Blk wr w1.heap.size 119 (wcells (sched b t)) ∧ Blk wr w.heap.size 119 (List.replicate 64 (.int .u32 0)) ∧ Below w.heap.size w wr) (fun i _ => 64 - (intOf i).toNat)
      case atStart => exact ⟨16, by omega, by omega, rfl, hkW, hkR, hbl⟩
      case round =>
        obtain ⟨t, ht0, ht, rfl, hkW, hkR, hbl⟩ := hrel
        have hsl := sched_len b t
        have WL := Lib.hid (wcells_len (l := sched b t) (by omega))
        by_cases hlt : t < 64
        · obtain ⟨wo, rfl⟩ : ∃ wo : World, wo = wr := ⟨_, rfl⟩
          have hset : ∀ x : UInt32, (wcells (sched b t)).set t (.int .u32 (x.toNat : Int)) = wcells (sched b t ++ [x]) := fun x => by
            have := wcells_set (l := sched b t) (x := x) (by omega)
            rwa [hsl] at this
          have HSET := Lib.hid hset
          have W1 := Lib.hid (wcells_get (l := sched b t) (k := t - 15) (by omega))
          have W2 := Lib.hid (wcells_get (l := sched b t) (k := t - 2) (by omega))
          have W3 := Lib.hid (wcells_get (l := sched b t) (k := t - 16) (by omega))
          have W4 := Lib.hid (wcells_get (l := sched b t) (k := t - 7) (by omega))
          have hnw : nextw (sched b t) = gw (sched b t) (t - 16) + sg0 (gw (sched b t) (t - 15)) + gw (sched b t) (t - 7) + sg1 (gw (sched b t) (t - 2)) := by unfold nextw; rw [hsl]
          obtain ⟨x1, hx1⟩ : ∃ x, gw (sched b t) (t - 15) = x := ⟨_, rfl⟩
          obtain ⟨x2, hx2⟩ : ∃ x, gw (sched b t) (t - 2) = x := ⟨_, rfl⟩
          obtain ⟨x3, hx3⟩ : ∃ x, gw (sched b t) (t - 16) = x := ⟨_, rfl⟩
          obtain ⟨x4, hx4⟩ : ∃ x, gw (sched b t) (t - 7) = x := ⟨_, rfl⟩
          rw [hx1] at W1 hnw; rw [hx2] at W2 hnw; rw [hx3] at W3 hnw; rw [hx4] at W4 hnw
          have NW := Lib.hid hnw
          clear hx1 hx2 hx3 hx4 hset hsl hnw
          have hb1 := lt32 x1; have hb2 := lt32 x2; have hb3 := lt32 x3; have hb4 := lt32 x4
          have XR := xr_eq; have e3 := s3_eq x1; have e10 := s10_eq x2
          have q15 : IntKind.i64.wrap ((t : Int) - 15) = (t : Int) - 15 := by rw [IntKind.wrap_i64]; omega
          have q2 : IntKind.i64.wrap ((t : Int) - 2) = (t : Int) - 2 := by rw [IntKind.wrap_i64]; omega
          go_upto_region 9 with fail
          (refine wp_region_quiet_lit (by kernel_rfl) (by kernel_rfl) ?_; (repeat (first | ((with_reducible refine' wpQuiet_at_blk (.tmp 3) (.tmp 52) 119 rfl ?_ Tryd.underlying119 sz_u32 ?_ (t - 15) ?_ ?_ ?_); exact rfl; exact rfl; (show (_ : Int) = _; omega); omega; simp only [Act.put, List.setIfInBounds_toArray, List.set_cons_succ, List.set_cons_zero]) | ((with_reducible refine' wpQuiet_at_blk (.tmp 3) (.tmp 57) 119 rfl ?_ Tryd.underlying119 sz_u32 ?_ (t - 15) ?_ ?_ ?_); exact rfl; exact rfl; (show (_ : Int) = _; omega); omega; simp only [Act.put, List.setIfInBounds_toArray, List.set_cons_succ, List.set_cons_zero]) | ((with_reducible refine' wpQuiet_at_blk (.tmp 3) (.tmp 63) 119 rfl ?_ Tryd.underlying119 sz_u32 ?_ (t - 15) ?_ ?_ ?_); exact rfl; exact rfl; (show (_ : Int) = _; omega); omega; simp only [Act.put, List.setIfInBounds_toArray, List.set_cons_succ, List.set_cons_zero]) | ((with_reducible refine' wpQuiet_load_blk (fun _ h => h) (.tmp 53) 90 rfl ?_ ld_u32 ?_ hkW (W1.out) ?_); exact rfl; exact rfl; simp only [Act.put, List.setIfInBounds_toArray, List.set_cons_succ, List.set_cons_zero]) | ((with_reducible refine' wpQuiet_load_blk (fun _ h => h) (.tmp 58) 90 rfl ?_ ld_u32 ?_ hkW (W1.out) ?_); exact rfl; exact rfl; simp only [Act.put, List.setIfInBounds_toArray, List.set_cons_succ, List.set_cons_zero]) | ((with_reducible refine' wpQuiet_load_blk (fun _ h => h) (.tmp 64) 90 rfl ?_ ld_u32 ?_ hkW (W1.out) ?_); exact rfl; exact rfl; simp only [Act.put, List.setIfInBounds_toArray, List.set_cons_succ, List.set_cons_zero]) | go_big_quiet_step ((go_at_call 104; first | (with_reducible refine rotr_q x1 7 7 rfl (by omega) (by omega) _ _) | (with_reducible refine rotr_q x1 18 18 rfl (by omega) (by omega) _ _))) | go_big_quiet_step (fail))); refine wpQuiet_nil ?_; intro _ hw'; obtain ⟨nq, hw''⟩ := hw'; subst hw'')
          go_upto_region 10 with fail
          replace hkW := hkW.drewN nq; replace hkR := hkR.drewN nq; replace hbl := below_drewN hbl nq
          generalize wo.drewN nq = wq at hkW hkR hbl ⊢
          (refine wp_region_quiet_lit (by kernel_rfl) (by kernel_rfl) ?_; (repeat (first | ((with_reducible refine' wpQuiet_at_blk (.tmp 3) (.tmp 69) 119 rfl ?_ Tryd.underlying119 sz_u32 ?_ (t - 2) ?_ ?_ ?_); exact rfl; exact rfl; (show (_ : Int) = _; omega); omega; simp only [Act.put, List.setIfInBounds_toArray, List.set_cons_succ, List.set_cons_zero]) | ((with_reducible refine' wpQuiet_at_blk (.tmp 3) (.tmp 74) 119 rfl ?_ Tryd.underlying119 sz_u32 ?_ (t - 2) ?_ ?_ ?_); exact rfl; exact rfl; (show (_ : Int) = _; omega); omega; simp only [Act.put, List.setIfInBounds_toArray, List.set_cons_succ, List.set_cons_zero]) | ((with_reducible refine' wpQuiet_at_blk (.tmp 3) (.tmp 80) 119 rfl ?_ Tryd.underlying119 sz_u32 ?_ (t - 2) ?_ ?_ ?_); exact rfl; exact rfl; (show (_ : Int) = _; omega); omega; simp only [Act.put, List.setIfInBounds_toArray, List.set_cons_succ, List.set_cons_zero]) | ((with_reducible refine' wpQuiet_load_blk (fun _ h => h) (.tmp 70) 90 rfl ?_ ld_u32 ?_ hkW (W2.out) ?_); exact rfl; exact rfl; simp only [Act.put, List.setIfInBounds_toArray, List.set_cons_succ, List.set_cons_zero]) | ((with_reducible refine' wpQuiet_load_blk (fun _ h => h) (.tmp 75) 90 rfl ?_ ld_u32 ?_ hkW (W2.out) ?_); exact rfl; exact rfl; simp only [Act.put, List.setIfInBounds_toArray, List.set_cons_succ, List.set_cons_zero]) | ((with_reducible refine' wpQuiet_load_blk (fun _ h => h) (.tmp 81) 90 rfl ?_ ld_u32 ?_ hkW (W2.out) ?_); exact rfl; exact rfl; simp only [Act.put, List.setIfInBounds_toArray, List.set_cons_succ, List.set_cons_zero]) | go_big_quiet_step ((go_at_call 104; first | (with_reducible refine rotr_q x2 17 17 rfl (by omega) (by omega) _ _) | (with_reducible refine rotr_q x2 19 19 rfl (by omega) (by omega) _ _))) | go_big_quiet_step (fail))); refine wpQuiet_nil ?_; intro _ hw'; obtain ⟨nq, hw''⟩ := hw'; subst hw'')
          replace hkW := hkW.drewN nq; replace hkR := hkR.drewN nq; replace hbl := below_drewN hbl nq
          generalize wq.drewN nq = wp at hkW hkR hbl ⊢
          obtain ⟨g0, hg0⟩ : ∃ g, xr (xr (rr x1 7) (rr x1 18)) (s3 x1) = g := ⟨_, rfl⟩
          obtain ⟨g1, hg1⟩ : ∃ g, xr (xr (rr x2 17) (rr x2 19)) (s10 x2) = g := ⟨_, rfl⟩
          rw [hg0, hg1]
          have G0 := Lib.hid hg0; have G1 := Lib.hid hg1
          clear hg0 hg1 XR e3 e10 q15 q2
          have hb5 := lt32 g0; have hb6 := lt32 g1
          have PL := pl_eq; have PL' := pl_eq'
          have q16 : IntKind.i64.wrap ((t : Int) - 16) = (t : Int) - 16 := by rw [IntKind.wrap_i64]; omega
          have q7 : IntKind.i64.wrap ((t : Int) - 7) = (t : Int) - 7 := by rw [IntKind.wrap_i64]; omega
          go_upto_region 11 with fail
          (refine wp_region_tail 15 (by kernel_rfl) (by kernel_rfl) ?_; simp only [List.take_succ_cons, List.take_zero, List.drop_succ_cons, List.drop_zero]; (repeat (first | ((with_reducible refine' wpQuiet_at_blk (.tmp 3) (.tmp 87) 119 rfl ?_ Tryd.underlying119 sz_u32 ?_ (t - 16) ?_ ?_ ?_); exact rfl; exact rfl; (show (_ : Int) = _; omega); omega; simp only [Act.put, List.setIfInBounds_toArray, List.set_cons_succ, List.set_cons_zero]) | ((with_reducible refine' wpQuiet_at_blk (.tmp 3) (.tmp 93) 119 rfl ?_ Tryd.underlying119 sz_u32 ?_ (t - 7) ?_ ?_ ?_); exact rfl; exact rfl; (show (_ : Int) = _; omega); omega; simp only [Act.put, List.setIfInBounds_toArray, List.set_cons_succ, List.set_cons_zero]) | ((with_reducible refine' wpQuiet_at_blk (.tmp 3) (.tmp 85) 119 rfl ?_ Tryd.underlying119 sz_u32 ?_ (t) ?_ ?_ ?_); exact rfl; exact rfl; (show (_ : Int) = _; omega); omega; simp only [Act.put, List.setIfInBounds_toArray, List.set_cons_succ, List.set_cons_zero]) | ((with_reducible refine' wpQuiet_load_blk still_drew (.tmp 88) 90 rfl ?_ ld_u32 ?_ hkW (W3.out) ?_); exact rfl; exact rfl; simp only [Act.put, List.setIfInBounds_toArray, List.set_cons_succ, List.set_cons_zero]) | ((with_reducible refine' wpQuiet_load_blk still_drew (.tmp 94) 90 rfl ?_ ld_u32 ?_ hkW (W4.out) ?_); exact rfl; exact rfl; simp only [Act.put, List.setIfInBounds_toArray, List.set_cons_succ, List.set_cons_zero]) | go_big_quiet_step (fail))); refine wpQuiet_nil ?_; show wpList _ _ _ _ _ _)
          clear q16 q7
          (with_reducible refine' wpList_set_blk (k := t) 90 (.tmp 99) (.tmp 98) rfl ?_ sz_u32 ?_ rfl (Blk.drew hkW) (by rw [WL.out]; exact hlt) ?_ ?_); exact rfl; exact rfl; exact rfl; intro w4 hk4 hq4 hz4; simp only [Act.put]
          simp [Act.eval] at hk4
          rw [HSET.out] at hk4
          go_wp2_with fail
          go_roundw
          case rel =>
            refine ⟨t + 1, by omega, by omega, by go_num, ?_, hq4.blk (Blk.drew hkR) (by omega), (below_drew hbl).trans (hq4.below (by omega) hbl.size)⟩
            rw [← G0.out, ← G1.out] at hk4
            rw [sched_high b ht0, NW.out]
            exact hk4
          case measure => simp [intOf]; omega
        · obtain rfl : t = 64 := by omega
          go_wp2_with (first | ((with_reducible refine' wpList_loadall_blk (.tmp 3) 119 rfl ?_ Tryd.underlying119 sz_w64 ?_ hkW ?_ ?_ ?_); exact rfl; exact rfl; exact WL.out; omega; simp only [Act.put, List.setIfInBounds_toArray, List.set_cons_succ, List.set_cons_zero]) | ((with_reducible refine' wpList_store_blk (cs := (wcells (sched b 64))) 119 (.tmp 2) (.tmp 100) rfl ?_ ?_ ?_ hkR sz_w64 ?_ ?_ ?_ ?_); exact rfl; exact rfl; exact rfl; exact WL.out; simp; exact wcells_one _; intro w3 hk3 hO3 hz3; simp only [Act.put]))
          rw [wcells_full hsl] at hk3
          ((try simp only [Exit.inBlock, Exit.then]); refine bodyPost_ret (results_cell_row rfl _ _ _ _ _ _ _ rfl hk3 Tryd.underlying119 rfl (by rw [sz_w64]; simp [uv_length, hsl])) rfl ?_)
          exact ⟨rfl, hbl.trans (hO3.below (Nat.le_refl _) hbl.size)⟩
end Go.Proofs.YtdlhkhnoigbhjaaDoor.Wi
namespace Go.Proofs.YtdlhkhnoigbhjaaDoor.Wi
open Go Go.RowKit Pu Lb
set_option linter.unusedSimpArgs false
set_option linter.unusedVariables false

abbrev TabR (w : World) : Prop := Tb w 2 (uv kk)
theorem TabR.below {w w' : World} (h : TabR w) (hb : Below w.heap.size w w') : TabR w' := Tb.below h hb
theorem own_only {w w' : World} {base B : Nat} {e : TypeId} {s : Nat} {v : Value} {n : Nat} {xs : List Value} (h : w.ownsRow base e s v n xs) (ho : Only B w w') (hB : B < base) : w'.ownsRow base e s v n xs := by
  refine ⟨h.1, ?_⟩
  rcases h.2 with hn | ⟨g, cap, cur, rfl, hbg, hg, rest⟩
  · exact .inl hn
  · refine .inr ⟨g, cap, cur, rfl, hbg, ?_, rest⟩
    rw [ho.block g (Array.getElem?_eq_some_iff.1 hg).1 (by simp; omega)]
    exact hg
theorem nt_eq2 (x : UInt32) : bits .xor .u32 (x.toNat : Int) 4294967295 = ((nt x).toNat : Int) := by
  have h : (4294967295 : Int) = ((4294967295 : UInt32).toNat : Int) := by decide
  rw [h, ux, UInt32.xor_comm]
  congr 2
theorem comps_zero (s : S8) (m : List UInt8) : comps s m 0 = s := rfl
theorem comps_succ (s : S8) (m : List UInt8) (k : Nat) : comps s m (k + 1) = comp (comps s m k) ((m.drop (64 * k)).take 64) := rfl
attribute [local irreducible] comp sched comps sha outS rnds

set_option maxRecDepth 100000 in
set_option maxHeartbeats 3200000 in
theorem refsum_any (x : Value) (n : Nat) (m : List UInt8) (w : World) (hT : TabR w) (hx : Rd w 1 x n (bv m)) (hn : m.length ≤ 70368744177664) :
    Calls Tryd.prog 94 #[x] w fun e w' => e = .returned (.agg (bv (sha m)).toArray) ∧ Below w.heap.size w w' := by
  have hpm := padded_mod m
  have hpl : (padded m).length = m.length + (zn m.length + 9) := by unfold padded; rw [List.length_append, padTail_len]
  have hzn : zn m.length < 64 := by unfold zn; omega
  obtain ⟨pm, hpme⟩ : ∃ pm, padded m = pm := ⟨_, rfl⟩
  have SHA := Lib.hid (show sha m = outS (comps h0 pm (pm.length / 64)) by rw [← hpme]; unfold sha; rfl)
  rw [hpme] at hpm hpl
  have HPM := Lib.hid hpme
  obtain ⟨L, hLe⟩ : ∃ L, pm.length = L := ⟨_, rfl⟩
  rw [hLe] at hpm hpl
  have HLE := Lib.hid hLe
  have hL46 : L < 70368744177664 + 100 := by omega
  clear hpme hLe hpl hzn
  go_enter Tryd.func94, Tryd.ntmps94
  go_upto_region 1 with (((with_reducible refine' wpList_alloc_blk (cs := List.replicate 32 (.int .u8 0)) 99 rfl ?_ zr_b32 ?_ ?_); exact rfl; exact zeros_u8 32; intro w1 hkR hN1 hz1; simp only [Act.put, List.setIfInBounds_toArray, List.set_cons_succ, List.set_cons_zero]))
  refine wp_region_lit ?_
  ((with_reducible refine' wpList_of_run (v := .agg (uv (l8 h0)).toArray) (w' := w1) ?_ ?_ ?_); exact rfl; kernel_rfl; simp only [Act.put, List.setIfInBounds_toArray, List.set_cons_succ, List.set_cons_zero])
  ((with_reducible refine' wpList_alloc_blk (cs := List.replicate 8 (.int .u32 0)) 91 rfl ?_ zr_w8 ?_ ?_); exact rfl; exact zeros_u32 8; intro w2 hkS hN2 hz2; simp only [Act.put, List.setIfInBounds_toArray, List.set_cons_succ, List.set_cons_zero])
  ((with_reducible refine' wpList_store_blk (cs := uv (l8 h0)) 91 (.tmp 3) (.tmp 20) rfl ?_ ?_ ?_ hkS sz_w8 ?_ ?_ ?_ ?_); exact rfl; exact rfl; exact rfl; rfl; rfl; exact uv_one _; intro w3 hkS hO3 hz3; simp only [Act.put])
  replace hkR := hO3.blk (hkR.below hN2 (by omega)) (by omega)
  have hb3 := (hN1.trans (hN2.mono hN1.size)).trans (hO3.below (by have := hN1.size; omega) (by have := hN1.size; omega))
  have hx3 := hx.below hb3
  have hB2 : w.heap.size < w3.heap.size := by omega
  have hB3 : w1.heap.size < w3.heap.size := by omega
  have hB23 : w.heap.size < w1.heap.size := by omega
  clear hz1 hz2 hz3 hN1 hN2 hO3
  go_upto_region 4 with ((go_at_call 102; (with_reducible refine (refpadded_any x n m _ hx3 hn).mono ?_); rintro e w' ⟨vp, rfl, hop, hN4⟩))
  rw [HPM.out, HLE.out] at hop
  replace hkR := hkR.below hN4 hB2
  replace hkS := hkS.below hN4 hB3
  have hb4 := hb3.trans (hN4.mono hb3.size)
  have HOP := Lib.hid hop
  clear hop hN4 hx3
  go_loopw [5] (fun i wr => ∃ k : Nat, 64 * k ≤ L ∧ i = .int .i64 ((64 * k : Nat) : Int) ∧ Hid (wr.ownsRow w3.heap.size 5 1 vp L (bv pm)) ∧ Blk wr w1.heap.size 91 (uv (l8 (comps h0 pm k))) ∧ Blk wr w.heap.size 99 (List.replicate 32 (.int .u8 0)) ∧ Below w.heap.size w wr) (fun i _ => L - (intOf i).toNat)
  case atStart => exact ⟨0, by omega, rfl, HOP, by rw [comps_zero]; exact hkS, hkR, hb4⟩
  case round =>
    obtain ⟨k, hk, rfl, HO, hkS, hkR, hbl⟩ := hrel
    by_cases hlt : 64 * k < L
    · obtain ⟨wo, rfl⟩ : ∃ wo : World, wo = wr := ⟨_, rfl⟩
      have hk64 : 64 * k + 64 ≤ L := by omega
      have hrd := Rd.of_own HO.out
      have hCS := Lib.hid (comps_succ h0 pm k)
      obtain ⟨s, hs⟩ : ∃ s, comps h0 pm k = s := ⟨_, rfl⟩
      rw [hs] at hkS hCS
      obtain ⟨blk, hblk⟩ : ∃ bl, (pm.drop (64 * k)).take 64 = bl := ⟨_, rfl⟩
      rw [hblk] at hCS
      have HBK := Lib.hid hblk
      have BL := Lib.hid (show blk.length = 64 by rw [← hblk, List.length_take, List.length_drop, HLE.out]; omega)
      have SL := Lib.hid (sched_len blk 64)
      clear hs hblk
      go_upto_region 7 with (first
        | ((with_reducible refine' wpList_len_rd (.tmp 24) 49 rfl ?_ Tryd.underlying49 ?_ hrd ?_); exact rfl; exact rfl; simp only [Act.put, List.setIfInBounds_toArray, List.set_cons_succ, List.set_cons_zero])
        | (((with_reducible refine' wpList_cut_b (.tmp 29) (.tmp 30) (.tmp 32) 49 rfl ?_ Tryd.underlying49 sz_u8 ?_ hrd (64 * k) (64 * k + 64) ?_ ?_ ?_ ?_ ?_); exact rfl; exact rfl; (show (_ : Int) = _; omega); (show (_ : Int) = _; omega); omega; omega; intro v1 r1; simp only [Act.put, List.setIfInBounds_toArray, List.set_cons_succ, List.set_cons_zero]); rw [show 64 * k + 64 - 64 * k = 64 by omega, HBK.out] at r1)
        | ((go_at_call 103; (with_reducible refine (refwords_any _ blk _ r1).mono ?_); rintro e w' ⟨rfl, hN5⟩); have hkS5 := hkS.below hN5 hkS.lt; have hkR5 := hkR.below hN5 hkR.lt; have HO5 := Lib.hid (own_below HO.out hN5); have hb5 := hbl.trans (hN5.mono hbl.size); have hls := hkS.lt; have hz5 := hN5.size)
        | (((with_reducible refine' wpList_alloc_blk (cs := List.replicate 64 (.int .u32 0)) 119 rfl ?_ zr_w64 ?_ ?_); exact rfl; exact zeros_u32 64; intro w6 hkW hN6 hz6; simp only [Act.put, List.setIfInBounds_toArray, List.set_cons_succ, List.set_cons_zero]); have hkS6 := hkS5.below hN6 hkS5.lt; have hkR6 := hkR5.below hN6 hkR5.lt; have HO6 := Lib.hid (own_below HO5.out hN6); have hb6 := hb5.trans (hN6.mono hb5.size))
        | (((with_reducible refine' wpList_store_blk (cs := (uv (sched blk 64))) 119 (.tmp 6) (.tmp 34) rfl ?_ ?_ ?_ hkW sz_w64 ?_ ?_ ?_ ?_); exact rfl; exact rfl; exact rfl; rw [uv_length]; exact SL.out; simp; exact uv_one _; intro w7 hkW7 hO7 hz7; simp only [Act.put])))
      have hkS7 := hO7.blk hkS6 (by omega)
      have hkR7 := hO7.blk hkR6 (by omega)
      have hb7 := hb6.trans (hO7.below (by have := hbl.size; omega) hb6.size)
      have HO7 : Hid (w7.ownsRow w3.heap.size 5 1 vp L (bv pm)) := Lib.hid (by
        have h1 := hN6.size
        rcases HO6.out.2 with hn | ⟨g, cap, cur, rfl, hbg, hg, rest⟩
        · exact ⟨HO6.out.1, .inl hn⟩
        · refine ⟨HO6.out.1, .inr ⟨g, cap, cur, rfl, hbg, ?_, rest⟩⟩
          have hg5 : g < w'.heap.size := by
            rcases HO5.out.2 with ⟨hn, _⟩ | ⟨g2, cap2, cur2, he, _, hg2, _⟩
            · cases hn
            · simp only [Value.slice.injEq, Option.some.injEq, Addr.mk.injEq] at he
              obtain ⟨⟨rfl, _⟩, _⟩ := he
              exact (Array.getElem?_eq_some_iff.1 hg2).1
          rw [hO7.block g (Array.getElem?_eq_some_iff.1 hg).1 (by simp; omega)]
          exact hg)
      have hl6 := hkW7.lt
      have hz0 := hbl.size
      have hwl : w.heap.size < w'.heap.size ∧ w1.heap.size < w'.heap.size := by have := hkR.lt; omega
      obtain ⟨B6, hB6⟩ : ∃ B, w'.heap.size = B := ⟨_, rfl⟩
      rw [hB6] at hkW7 hwl ⊢
      clear hkS5 hkS6 hkR5 hkR6 hkS hkR hb5 hb6 HO5 HO6 HO hN5 hN6 hO7 hkW hz6 hz7 hz5 hls hB6 hrd r1 hl6
      have S0 := Lib.hid (show (uv (l8 s))[0]? = some (.int .u32 (s.a.toNat : Int)) from rfl)
      have S1 := Lib.hid (show (uv (l8 s))[1]? = some (.int .u32 (s.b.toNat : Int)) from rfl)
      have S2 := Lib.hid (show (uv (l8 s))[2]? = some (.int .u32 (s.c.toNat : Int)) from rfl)
      have S3 := Lib.hid (show (uv (l8 s))[3]? = some (.int .u32 (s.d.toNat : Int)) from rfl)
      have S4 := Lib.hid (show (uv (l8 s))[4]? = some (.int .u32 (s.e.toNat : Int)) from rfl)
      have S5 := Lib.hid (show (uv (l8 s))[5]? = some (.int .u32 (s.f.toNat : Int)) from rfl)
      have S6 := Lib.hid (show (uv (l8 s))[6]? = some (.int .u32 (s.g.toNat : Int)) from rfl)
      have S7 := Lib.hid (show (uv (l8 s))[7]? = some (.int .u32 (s.h.toNat : Int)) from rfl)
      (refine wp_region_quiet_lit (by kernel_rfl) (by kernel_rfl) ?_; (repeat (first | ((with_reducible refine' wpQuiet_at_blk (.tmp 3) (.const (.int .i64 0)) 91 rfl ?_ Tryd.underlying91 sz_u32 ?_ (0) ?_ ?_ ?_); exact rfl; exact rfl; (show (_ : Int) = _; omega); omega; simp only [Act.put, List.setIfInBounds_toArray, List.set_cons_succ, List.set_cons_zero]) | ((with_reducible refine' wpQuiet_at_blk (.tmp 3) (.const (.int .i64 1)) 91 rfl ?_ Tryd.underlying91 sz_u32 ?_ (1) ?_ ?_ ?_); exact rfl; exact rfl; (show (_ : Int) = _; omega); omega; simp only [Act.put, List.setIfInBounds_toArray, List.set_cons_succ, List.set_cons_zero]) | ((with_reducible refine' wpQuiet_at_blk (.tmp 3) (.const (.int .i64 2)) 91 rfl ?_ Tryd.underlying91 sz_u32 ?_ (2) ?_ ?_ ?_); exact rfl; exact rfl; (show (_ : Int) = _; omega); omega; simp only [Act.put, List.setIfInBounds_toArray, List.set_cons_succ, List.set_cons_zero]) | ((with_reducible refine' wpQuiet_at_blk (.tmp 3) (.const (.int .i64 3)) 91 rfl ?_ Tryd.underlying91 sz_u32 ?_ (3) ?_ ?_ ?_); exact rfl; exact rfl; (show (_ : Int) = _; omega); omega; simp only [Act.put, List.setIfInBounds_toArray, List.set_cons_succ, List.set_cons_zero]) | ((with_reducible refine' wpQuiet_at_blk (.tmp 3) (.const (.int .i64 4)) 91 rfl ?_ Tryd.underlying91 sz_u32 ?_ (4) ?_ ?_ ?_); exact rfl; exact rfl; (show (_ : Int) = _; omega); omega; simp only [Act.put, List.setIfInBounds_toArray, List.set_cons_succ, List.set_cons_zero]) | ((with_reducible refine' wpQuiet_at_blk (.tmp 3) (.const (.int .i64 5)) 91 rfl ?_ Tryd.underlying91 sz_u32 ?_ (5) ?_ ?_ ?_); exact rfl; exact rfl; (show (_ : Int) = _; omega); omega; simp only [Act.put, List.setIfInBounds_toArray, List.set_cons_succ, List.set_cons_zero]) | ((with_reducible refine' wpQuiet_at_blk (.tmp 3) (.const (.int .i64 6)) 91 rfl ?_ Tryd.underlying91 sz_u32 ?_ (6) ?_ ?_ ?_); exact rfl; exact rfl; (show (_ : Int) = _; omega); omega; simp only [Act.put, List.setIfInBounds_toArray, List.set_cons_succ, List.set_cons_zero]) | ((with_reducible refine' wpQuiet_at_blk (.tmp 3) (.const (.int .i64 7)) 91 rfl ?_ Tryd.underlying91 sz_u32 ?_ (7) ?_ ?_ ?_); exact rfl; exact rfl; (show (_ : Int) = _; omega); omega; simp only [Act.put, List.setIfInBounds_toArray, List.set_cons_succ, List.set_cons_zero]) | ((with_reducible refine' wpQuiet_load_blk (fun _ h => h) (.tmp 35) 90 rfl ?_ ld_u32 ?_ hkS7 (S0.out) ?_); exact rfl; exact rfl; simp only [Act.put, List.setIfInBounds_toArray, List.set_cons_succ, List.set_cons_zero]) | ((with_reducible refine' wpQuiet_load_blk (fun _ h => h) (.tmp 37) 90 rfl ?_ ld_u32 ?_ hkS7 (S1.out) ?_); exact rfl; exact rfl; simp only [Act.put, List.setIfInBounds_toArray, List.set_cons_succ, List.set_cons_zero]) | ((with_reducible refine' wpQuiet_load_blk (fun _ h => h) (.tmp 39) 90 rfl ?_ ld_u32 ?_ hkS7 (S2.out) ?_); exact rfl; exact rfl; simp only [Act.put, List.setIfInBounds_toArray, List.set_cons_succ, List.set_cons_zero]) | ((with_reducible refine' wpQuiet_load_blk (fun _ h => h) (.tmp 41) 90 rfl ?_ ld_u32 ?_ hkS7 (S3.out) ?_); exact rfl; exact rfl; simp only [Act.put, List.setIfInBounds_toArray, List.set_cons_succ, List.set_cons_zero]) | ((with_reducible refine' wpQuiet_load_blk (fun _ h => h) (.tmp 43) 90 rfl ?_ ld_u32 ?_ hkS7 (S4.out) ?_); exact rfl; exact rfl; simp only [Act.put, List.setIfInBounds_toArray, List.set_cons_succ, List.set_cons_zero]) | ((with_reducible refine' wpQuiet_load_blk (fun _ h => h) (.tmp 45) 90 rfl ?_ ld_u32 ?_ hkS7 (S5.out) ?_); exact rfl; exact rfl; simp only [Act.put, List.setIfInBounds_toArray, List.set_cons_succ, List.set_cons_zero]) | ((with_reducible refine' wpQuiet_load_blk (fun _ h => h) (.tmp 47) 90 rfl ?_ ld_u32 ?_ hkS7 (S6.out) ?_); exact rfl; exact rfl; simp only [Act.put, List.setIfInBounds_toArray, List.set_cons_succ, List.set_cons_zero]) | ((with_reducible refine' wpQuiet_load_blk (fun _ h => h) (.tmp 49) 90 rfl ?_ ld_u32 ?_ hkS7 (S7.out) ?_); exact rfl; exact rfl; simp only [Act.put, List.setIfInBounds_toArray, List.set_cons_succ, List.set_cons_zero]) | go_big_quiet_step (fail))); refine wpQuiet_nil ?_; intro _ hw'; obtain ⟨nq, hw''⟩ := hw'; subst hw'')
      replace hkS7 := hkS7.drewN nq; replace hkR7 := hkR7.drewN nq; replace hkW7 := hkW7.drewN nq; replace hb7 := below_drewN hb7 nq
      have HO8 : Hid ((w7.drewN nq).ownsRow w3.heap.size 5 1 vp L (bv pm)) := Lib.hid HO7.out
      generalize w7.drewN nq = w8 at hkS7 hkR7 hkW7 hb7 HO8 ⊢
      clear HO7
      go_upto_region 9 with fail
      go_loopw [15, 7, 8, 9, 10, 11, 12, 13, 14] (fun i va vb vc vd ve vf vg vh wr => ∃ t : Nat, t ≤ 64 ∧ i = .int .i64 t ∧ va = .int .u32 ((rnds s (sched blk 64) t).a.toNat : Int) ∧ vb = .int .u32 ((rnds s (sched blk 64) t).b.toNat : Int) ∧ vc = .int .u32 ((rnds s (sched blk 64) t).c.toNat : Int) ∧ vd = .int .u32 ((rnds s (sched blk 64) t).d.toNat : Int) ∧ ve = .int .u32 ((rnds s (sched blk 64) t).e.toNat : Int) ∧ vf = .int .u32 ((rnds s (sched blk 64) t).f.toNat : Int) ∧ vg = .int .u32 ((rnds s (sched blk 64) t).g.toNat : Int) ∧ vh = .int .u32 ((rnds s (sched blk 64) t).h.toNat : Int) ∧
        Hid (wr.ownsRow w3.heap.size 5 1 vp L (bv pm)) ∧ Blk wr B6 119 (uv (sched blk 64)) ∧ Blk wr w1.heap.size 91 (uv (l8 s)) ∧ Blk wr w.heap.size 99 (List.replicate 32 (.int .u8 0)) ∧ Below w.heap.size w wr) (fun i _ _ _ _ _ _ _ _ _ => 64 - (intOf i).toNat)
      case atStart => exact ⟨0, by omega, rfl, by rw [rnds_zero], by rw [rnds_zero], by rw [rnds_zero], by rw [rnds_zero], by rw [rnds_zero], by rw [rnds_zero], by rw [rnds_zero], by rw [rnds_zero], HO8, hkW7, hkS7, hkR7, hb7⟩
      case round =>
        obtain ⟨t, ht, rfl, rfl, rfl, rfl, rfl, rfl, rfl, rfl, rfl, HO, hkW, hkS, hkR, hbl⟩ := hrel
        obtain ⟨r, hr⟩ : ∃ r, rnds s (sched blk 64) t = r := ⟨_, rfl⟩
        rw [hr]
        obtain ⟨ra, rb, rc, rd, re, rf, rg, rh⟩ := r
        simp only
        have HR := Lib.hid hr
        clear hr
        have b1 := lt32 re; have b2 := lt32 rf; have b3 := lt32 rg; have b4 := lt32 rh
        have c1 := lt32 ra; have c2 := lt32 rb; have c3 := lt32 rc; have c4 := lt32 rd
        have PL := pl_eq; have PL' := pl_eq'
        by_cases hlt2 : t < 64
        · obtain ⟨wo2, rfl⟩ : ∃ wo : World, wo = wr := ⟨_, rfl⟩
          have WT := Lib.hid (uv_get (l := sched blk 64) (k := t) (by rw [SL.out]; exact hlt2))
          have KT := Lib.hid (uv_get (l := kk) (k := t) hlt2)
          obtain ⟨xk, hxk⟩ : ∃ x, gw kk t = x := ⟨_, rfl⟩
          obtain ⟨xw, hxw⟩ : ∃ x, gw (sched blk 64) t = x := ⟨_, rfl⟩
          rw [hxk] at KT; rw [hxw] at WT
          have XK := Lib.hid hxk; have XW := Lib.hid hxw
          clear hxk hxw
          have hTr := hT.below hbl
          have hk1 := lt32 xk; have hk2 := lt32 xw
          have XR := xr_eq; have AN := an_eq; have NT := nt_eq2
          go_upto_region 11 with fail
          (refine wp_region_quiet_lit (by kernel_rfl) (by kernel_rfl) ?_; (repeat (first | ((with_reducible refine' wpQuiet_at_blk (.global 2) (.tmp 74) 119 rfl ?_ Tryd.underlying119 sz_u32 ?_ (t) ?_ ?_ ?_); exact rfl; exact rfl; (show (_ : Int) = _; omega); omega; simp only [Act.put, List.setIfInBounds_toArray, List.set_cons_succ, List.set_cons_zero]) | ((with_reducible refine' wpQuiet_load_tb (fun _ h => h) (.tmp 75) 90 rfl ?_ ld_u32 ?_ hTr (KT.out) ?_); exact rfl; exact rfl; simp only [Act.put, List.setIfInBounds_toArray, List.set_cons_succ, List.set_cons_zero]) | ((with_reducible refine' wpQuiet_at_blk (.tmp 6) (.tmp 78) 119 rfl ?_ Tryd.underlying119 sz_u32 ?_ (t) ?_ ?_ ?_); exact rfl; exact rfl; (show (_ : Int) = _; omega); omega; simp only [Act.put, List.setIfInBounds_toArray, List.set_cons_succ, List.set_cons_zero]) | ((with_reducible refine' wpQuiet_load_blk (fun _ h => h) (.tmp 79) 90 rfl ?_ ld_u32 ?_ hkW (WT.out) ?_); exact rfl; exact rfl; simp only [Act.put, List.setIfInBounds_toArray, List.set_cons_succ, List.set_cons_zero]) | go_big_quiet_step ((go_at_call 104; first | (with_reducible refine rotr_q re 6 6 rfl (by omega) (by omega) _ _) | (with_reducible refine rotr_q re 11 11 rfl (by omega) (by omega) _ _) | (with_reducible refine rotr_q re 25 25 rfl (by omega) (by omega) _ _))) | go_big_quiet_step (fail))); refine wpQuiet_nil ?_; intro _ hw'; obtain ⟨nq, hw''⟩ := hw'; subst hw'')
          obtain ⟨X, hX⟩ : ∃ X, pl (pl (pl (pl rh (xr (xr (rr re 6) (rr re 11)) (rr re 25))) (xr (an re rf) (an (nt re) rg))) xk) xw = X := ⟨_, rfl⟩
          rw [hX]
          have HX := Lib.hid hX
          have d1 := lt32 X
          clear hX
          have YY : Hid (pl (xr (xr (rr ra 2) (rr ra 13)) (rr ra 22)) (xr (xr (an ra rb) (an ra rc)) (an rb rc)) = pl (xr (xr (rr ra 2) (rr ra 13)) (rr ra 22)) (xr (xr (an ra rb) (an ra rc)) (an rb rc))) := Lib.hid rfl
          have hE : rnds s (sched blk 64) (t + 1) = ⟨pl X (pl (xr (xr (rr ra 2) (rr ra 13)) (rr ra 22)) (xr (xr (an ra rb) (an ra rc)) (an rb rc))), ra, rb, rc, pl rd X, re, rf, rg⟩ := by
            rw [rnds_succ, HR.out, XK.out, XW.out, ← HX.out]; rfl
          have HE := Lib.hid hE
          clear hE
          go_wp2_with (first
            | (go_at_call 104; (with_reducible refine (rotr_any ra 2 2 rfl (by omega) (by omega) _).mono ?_); rintro e w' ⟨rfl, q1, rfl⟩)
            | (go_at_call 104; (with_reducible refine (rotr_any ra 13 13 rfl (by omega) (by omega) _).mono ?_); rintro e w' ⟨rfl, q2, rfl⟩)
            | (go_at_call 104; (with_reducible refine (rotr_any ra 22 22 rfl (by omega) (by omega) _).mono ?_); rintro e w' ⟨rfl, q3, rfl⟩))
          go_roundw
          case rel => exact ⟨t + 1, by omega, by go_num, by rw [HE.out], by rw [HE.out], by rw [HE.out], by rw [HE.out], by rw [HE.out], by rw [HE.out], by rw [HE.out], by rw [HE.out], Lib.hid HO.out, hkW, hkS, hkR, below_drewN hbl _⟩
          case measure => simp [intOf]; omega
        · obtain rfl : t = 64 := by omega
          go_wp2_with (first | ((with_reducible refine' wpList_at_blk (.tmp 3) (.const (.int .i64 0)) 91 rfl ?_ Tryd.underlying91 sz_u32 ?_ (0) ?_ ?_ ?_); exact rfl; exact rfl; (show (_ : Int) = _; omega); omega; simp only [Act.put, List.setIfInBounds_toArray, List.set_cons_succ, List.set_cons_zero]) | ((with_reducible refine' wpList_at_blk (.tmp 3) (.const (.int .i64 1)) 91 rfl ?_ Tryd.underlying91 sz_u32 ?_ (1) ?_ ?_ ?_); exact rfl; exact rfl; (show (_ : Int) = _; omega); omega; simp only [Act.put, List.setIfInBounds_toArray, List.set_cons_succ, List.set_cons_zero]) | ((with_reducible refine' wpList_at_blk (.tmp 3) (.const (.int .i64 2)) 91 rfl ?_ Tryd.underlying91 sz_u32 ?_ (2) ?_ ?_ ?_); exact rfl; exact rfl; (show (_ : Int) = _; omega); omega; simp only [Act.put, List.setIfInBounds_toArray, List.set_cons_succ, List.set_cons_zero]) | ((with_reducible refine' wpList_at_blk (.tmp 3) (.const (.int .i64 3)) 91 rfl ?_ Tryd.underlying91 sz_u32 ?_ (3) ?_ ?_ ?_); exact rfl; exact rfl; (show (_ : Int) = _; omega); omega; simp only [Act.put, List.setIfInBounds_toArray, List.set_cons_succ, List.set_cons_zero]) | ((with_reducible refine' wpList_at_blk (.tmp 3) (.const (.int .i64 4)) 91 rfl ?_ Tryd.underlying91 sz_u32 ?_ (4) ?_ ?_ ?_); exact rfl; exact rfl; (show (_ : Int) = _; omega); omega; simp only [Act.put, List.setIfInBounds_toArray, List.set_cons_succ, List.set_cons_zero]) | ((with_reducible refine' wpList_at_blk (.tmp 3) (.const (.int .i64 5)) 91 rfl ?_ Tryd.underlying91 sz_u32 ?_ (5) ?_ ?_ ?_); exact rfl; exact rfl; (show (_ : Int) = _; omega); omega; simp only [Act.put, List.setIfInBounds_toArray, List.set_cons_succ, List.set_cons_zero]) | ((with_reducible refine' wpList_at_blk (.tmp 3) (.const (.int .i64 6)) 91 rfl ?_ Tryd.underlying91 sz_u32 ?_ (6) ?_ ?_ ?_); exact rfl; exact rfl; (show (_ : Int) = _; omega); omega; simp only [Act.put, List.setIfInBounds_toArray, List.set_cons_succ, List.set_cons_zero]) | ((with_reducible refine' wpList_at_blk (.tmp 3) (.const (.int .i64 7)) 91 rfl ?_ Tryd.underlying91 sz_u32 ?_ (7) ?_ ?_ ?_); exact rfl; exact rfl; (show (_ : Int) = _; omega); omega; simp only [Act.put, List.setIfInBounds_toArray, List.set_cons_succ, List.set_cons_zero]) | ((with_reducible refine' wpList_load_blk (.tmp 114) 90 rfl ?_ ld_u32 ?_ hkS (S0.out) ?_); exact rfl; exact rfl; simp only [Act.put, List.setIfInBounds_toArray, List.set_cons_succ, List.set_cons_zero]) | ((with_reducible refine' wpList_load_blk (.tmp 118) 90 rfl ?_ ld_u32 ?_ hkS (S1.out) ?_); exact rfl; exact rfl; simp only [Act.put, List.setIfInBounds_toArray, List.set_cons_succ, List.set_cons_zero]) | ((with_reducible refine' wpList_load_blk (.tmp 122) 90 rfl ?_ ld_u32 ?_ hkS (S2.out) ?_); exact rfl; exact rfl; simp only [Act.put, List.setIfInBounds_toArray, List.set_cons_succ, List.set_cons_zero]) | ((with_reducible refine' wpList_load_blk (.tmp 126) 90 rfl ?_ ld_u32 ?_ hkS (S3.out) ?_); exact rfl; exact rfl; simp only [Act.put, List.setIfInBounds_toArray, List.set_cons_succ, List.set_cons_zero]) | ((with_reducible refine' wpList_load_blk (.tmp 130) 90 rfl ?_ ld_u32 ?_ hkS (S4.out) ?_); exact rfl; exact rfl; simp only [Act.put, List.setIfInBounds_toArray, List.set_cons_succ, List.set_cons_zero]) | ((with_reducible refine' wpList_load_blk (.tmp 134) 90 rfl ?_ ld_u32 ?_ hkS (S5.out) ?_); exact rfl; exact rfl; simp only [Act.put, List.setIfInBounds_toArray, List.set_cons_succ, List.set_cons_zero]) | ((with_reducible refine' wpList_load_blk (.tmp 138) 90 rfl ?_ ld_u32 ?_ hkS (S6.out) ?_); exact rfl; exact rfl; simp only [Act.put, List.setIfInBounds_toArray, List.set_cons_succ, List.set_cons_zero]) | ((with_reducible refine' wpList_load_blk (.tmp 142) 90 rfl ?_ ld_u32 ?_ hkS (S7.out) ?_); exact rfl; exact rfl; simp only [Act.put, List.setIfInBounds_toArray, List.set_cons_succ, List.set_cons_zero]) | (((with_reducible refine' wpList_store_blk (cs := uv [pl s.a ra, pl s.b rb, pl s.c rc, pl s.d rd, pl s.e re, pl s.f rf, pl s.g rg, pl s.h rh]) 91 (.tmp 3) (.tmp 146) rfl ?_ ?_ ?_ hkS sz_w8 ?_ ?_ ?_ ?_); exact rfl; exact rfl; exact rfl; rfl; rfl; exact uv_one _; intro w9 hkS9 hO9 hz9; simp only [Act.put])))
          go_roundw
          case rel =>
            refine ⟨k + 1, by omega, by congr 1, Lib.hid (own_only HO.out hO9 hB3), ?_, hO9.blk hkR (by omega), hbl.trans (hO9.below (by omega) hbl.size)⟩
            rw [hCS.out, comp_eq, HR.out]
            exact hkS9
          case measure => simp [intOf]; omega
    · have hkL : 64 * k = L := by omega
      have hS : sha m = outS (comps h0 pm k) := by rw [SHA.out, HLE.out]; congr 2; omega
      have HS := Lib.hid hS
      obtain ⟨S, hSe⟩ : ∃ S, comps h0 pm k = S := ⟨_, rfl⟩
      rw [hSe] at hkS
      have HSE := Lib.hid hSe
      have hll := hkS.lt
      have hrd := Rd.of_own HO.out
      have hlr := hkR.lt
      clear hS hSe
      go_upto_region 24 with (first | ((with_reducible refine' wpList_len_rd (.tmp 24) 49 rfl ?_ Tryd.underlying49 ?_ hrd ?_); exact rfl; exact rfl; simp only [Act.put, List.setIfInBounds_toArray, List.set_cons_succ, List.set_cons_zero]) | (((with_reducible refine' wpList_alloc_blk (cs := List.replicate 32 (.int .u8 0)) 99 rfl ?_ zr_b32 ?_ ?_); exact rfl; exact zeros_u8 32; intro w7 hkO hN7 hz7; simp only [Act.put, List.setIfInBounds_toArray, List.set_cons_succ, List.set_cons_zero]); have hkS7 := hkS.below hN7 hll; have hkR7 := hkR.below hN7 hlr; have hb7 := hbl.trans (hN7.mono hbl.size)))
      clear hkS hkR hbl hN7 hz7 hrd
      obtain ⟨B7, hB7⟩ : ∃ B, wr.heap.size = B := ⟨_, rfl⟩
      rw [hB7] at hkO hll hlr ⊢
      clear hB7
      go_loopw [19] (fun i wr => ∃ t : Nat, t ≤ 32 ∧ i = .int .i64 t ∧ Blk wr B7 99 (ocells S t) ∧ Blk wr w1.heap.size 91 (uv (l8 S)) ∧ Blk wr w.heap.size 99 (List.replicate 32 (.int .u8 0)) ∧ Below w.heap.size w wr) (fun i _ => 32 - (intOf i).toNat)
      case atStart => exact ⟨0, by omega, rfl, by rw [ocells_zero]; exact hkO, hkS7, hkR7, hb7⟩
      case round =>
        obtain ⟨i, hi, rfl, hkO, hkS, hkR, hbl⟩ := hrel
        have OL := Lib.hid (ocells_len S hi)
        by_cases hlt : i < 32
        · obtain ⟨wo, rfl⟩ : ∃ wo : World, wo = wr := ⟨_, rfl⟩
          have W := Lib.hid (uv_get (l := l8 S) (k := i / 4) (by show i / 4 < 8; omega))
          have SET := Lib.hid (ocells_set S hlt)
          obtain ⟨q, hq⟩ : ∃ q, gw (l8 S) (i / 4) = q := ⟨_, rfl⟩
          rw [hq] at W SET
          have hq32 := lt32 q
          clear hq
          go_wp2_with (first
            | ((with_reducible refine' wpList_at_blk (.tmp 3) (.tmp 153) 91 rfl ?_ Tryd.underlying91 sz_u32 ?_ (i / 4) ?_ ?_ ?_); exact rfl; exact rfl; (show (_ : Int) = _; omega); omega; simp only [Act.put, List.setIfInBounds_toArray, List.set_cons_succ, List.set_cons_zero]) | ((with_reducible refine' wpList_load_blk (.tmp 154) 90 rfl ?_ ld_u32 ?_ hkS (W.out) ?_); exact rfl; exact rfl; simp only [Act.put, List.setIfInBounds_toArray, List.set_cons_succ, List.set_cons_zero]) | ((with_reducible refine' wpList_at_blk (.tmp 18) (.tmp 151) 99 rfl ?_ Tryd.underlying99 sz_u8 ?_ (i) ?_ ?_ ?_); exact rfl; exact rfl; (show (_ : Int) = _; omega); omega; simp only [Act.put, List.setIfInBounds_toArray, List.set_cons_succ, List.set_cons_zero])
            | ((with_reducible refine' wpList_set_blk (k := i) (B := B7) (u := .int .u8 ((q.toNat : Int) / 2 ^ (24 - 8 * (i % 4)) % 256)) 5 (.tmp 162) (.tmp 161) rfl ?_ sz_u8 ?_ ?_ hkO (by rw [OL.out]; exact hlt) ?_ ?_); exact rfl; exact rfl; exact rfl; exact rfl; intro wB hkB hOB hzB; rw [SET.out] at hkB; simp only [Act.put]))
          go_roundw
          case rel => exact ⟨i + 1, by omega, by go_num, hkB, hOB.blk hkS (by omega), hOB.blk hkR (by omega), hbl.trans (hOB.below (by omega) hbl.size)⟩
          case measure => simp [intOf]; omega
        · obtain rfl : i = 32 := by omega
          rw [ocells_all] at hkO
          have OL2 := Lib.hid (show (bv (outS S)).length = 32 by rw [bv_length, outS_len])
          go_wp2_with (first | ((with_reducible refine' wpList_loadall_blk (.tmp 18) 99 rfl ?_ Tryd.underlying99 sz_b32 ?_ hkO ?_ ?_ ?_); exact rfl; exact rfl; exact OL2.out; omega; simp only [Act.put, List.setIfInBounds_toArray, List.set_cons_succ, List.set_cons_zero]) | ((with_reducible refine' wpList_store_blk (cs := bv (outS S)) 99 (.tmp 2) (.tmp 163) rfl ?_ ?_ ?_ hkR sz_b32 ?_ ?_ ?_ ?_); exact rfl; exact rfl; exact rfl; exact OL2.out; exact List.length_replicate; exact bv_one _; intro w8 hk8 hO8 hz8; simp only [Act.put]))
          ((try simp only [Exit.inBlock, Exit.then]); refine bodyPost_ret (results_cell_row rfl _ _ _ _ _ _ _ rfl hk8 Tryd.underlying99 rfl (by rw [sz_b32]; simp [OL2.out])) rfl ?_)
          exact ⟨by rw [HS.out, HSE.out], hbl.trans (hO8.below (Nat.le_refl _) hbl.size)⟩
end Go.Proofs.YtdlhkhnoigbhjaaDoor.Wi
namespace Go.Proofs.YtdlhkhnoigbhjaaDoor.Wi
open Go Go.RowKit Pu Lb
theorem gHT : Tryd.prog.globalNamed "scoria/hash.constants" = some 1 := by kernel_rfl
theorem gRT : Tryd.prog.globalNamed "scoria/scoriaref02.constants" = some 2 := by kernel_rfl
theorem gtHT : (Tryd.prog.globals[1]?).map (·.type) = some 119 := by kernel_rfl
theorem gtRT : (Tryd.prog.globals[2]?).map (·.type) = some 119 := by kernel_rfl
abbrev lTR : List (String × DataW Unit) := [("scoria/hash.constants", Rows.laid_scoria_hash_constants), ("scoria/tree.shapes", Rows.laid_scoria_tree_shapes)]
abbrev lTB : List (String × DataW Unit) := [("scoria/scoriaref02.constants", Rows.laid_scoria_scoriaref02_constants), ("scoria/hash.constants", Rows.laid_scoria_hash_constants), ("scoria/tree.shapes", Rows.laid_scoria_tree_shapes)]
def kzT : List Int := kk.map fun x => (x.toNat : Int)
theorem dHT : (Rows.laid_scoria_hash_constants : DataW Unit) = Lib.tabData .u32 kzT := by kernel_rfl
theorem dRT : (Rows.laid_scoria_scoriaref02_constants : DataW Unit) = Lib.tabData .u32 kzT := by kernel_rfl
theorem tb_ofT {W : World} {name : String} {g : Nat} (h : Lib.TabIs Tryd.prog W name .u32 kzT) (hg : Tryd.prog.globalNamed name = some g) : Tb W g (uv kk) := by
  intro j u hj
  rw [World.var?_cell hg h j]
  simp only [kzT, List.map_map] at *
  simpa [uv] using hj
theorem laid_tailT {P : Program} {W : World} {n : String} {d : DataW Unit} {rest : List (String × DataW Unit)} (h : laidMet P ((n, d) :: rest) W) : laidMet P rest W := by
  obtain ⟨ps, ⟨g, t, cs, f, p, q, h1, h2, h3, h4, h5, rfl⟩, hnd, hc⟩ := h
  exact ⟨q, h5, (List.nodup_append.1 hnd).2.1, fun b off hm => hc b off (List.mem_append_right _ hm)⟩
theorem shF_met {W : World} (h : laidMet Tryd.prog lT W) : ShF W := shF_of (by rw [MakeChecks.laidMetH_plain _ _ _ (by kernel_rfl)]; exact h)
theorem tabH_met {W : World} {rest : List (String × DataW Unit)} (h : laidMet Tryd.prog (("scoria/hash.constants", Rows.laid_scoria_hash_constants) :: rest) W) : TabH W := by
  rw [dHT] at h
  exact tb_ofT (Lib.tabIs_of_head gHT gtHT Tryd.underlying119 Tryd.underlying90 (by kernel_rfl) (by kernel_rfl) h) gHT
theorem tabR_met {W : World} {rest : List (String × DataW Unit)} (h : laidMet Tryd.prog (("scoria/scoriaref02.constants", Rows.laid_scoria_scoriaref02_constants) :: rest) W) : TabR W := by
  rw [dRT] at h
  exact tb_ofT (Lib.tabIs_of_head gRT gtRT Tryd.underlying119 Tryd.underlying90 (by kernel_rfl) (by kernel_rfl) h) gRT
theorem roundT_of {W : World} (h : laidMetH Tryd.prog lTR W) : ShF W ∧ TabH W := by
  rw [MakeChecks.laidMetH_plain _ _ _ (by kernel_rfl)] at h
  exact ⟨shF_met (laid_tailT h), tabH_met h⟩
theorem bytesT_of {W : World} (h : laidMetH Tryd.prog lTB W) : ShF W ∧ TabH W ∧ TabR W := by
  rw [MakeChecks.laidMetH_plain _ _ _ (by kernel_rfl)] at h
  exact ⟨shF_met (laid_tailT (laid_tailT h)), tabH_met (laid_tailT h), tabR_met h⟩
theorem doorTR (os : Os) (args : Array Value) : laidMetH Tryd.prog lTR ((World.doorLaid Tryd.prog 4000 os).forCall (fun _ _ => 0) ⟨#[], args, []⟩).memory :=
  laidMetH_of_parts3 (fuel := 8) (laidMet_of_run' 8 (by kernel_rfl) (by kernel_rfl)) (by kernel_rfl) (by kernel_rfl)
theorem doorTB (os : Os) (args : Array Value) : laidMetH Tryd.prog lTB ((World.doorLaid Tryd.prog 4000 os).forCall (fun _ _ => 0) ⟨#[], args, []⟩).memory :=
  laidMetH_of_parts3 (fuel := 8) (laidMet_of_run' 8 (by kernel_rfl) (by kernel_rfl)) (by kernel_rfl) (by kernel_rfl)
end Go.Proofs.YtdlhkhnoigbhjaaDoor.Wi
namespace Go.Proofs.YtdlhkhnoigbhjaaDoor.Wi
open Go Go.RowKit Pu Lb
set_option linter.unusedSimpArgs false
set_option linter.unusedVariables false
set_option maxRecDepth 100000 in
set_option maxHeartbeats 1600000 in
theorem refenc_any : ∀ (t : Tree) (cs : List Value) (w : World), IsT w t cs → tInts t → tsize t ≤ 1000000 →
    Calls Tryd.prog 35 #[.agg cs.toArray] w fun e w' => ∃ v, e = .returned v ∧ w'.ownsRow w.heap.size 5 1 v (tenc t).length (bv (tenc t)) ∧ Below w.heap.size w w' := by
  refine Tree.ind fun k n m ts ih cs w h hi hs => ?_
  rw [IsT] at h
  obtain ⟨vk, xs, rfl, hr, hts⟩ := h
  rw [tInts] at hi
  have hlen := tsizes_len ts
  have h45 := tencs_len ts hi.2.2.2 (by rw [tsize] at hs; omega)
  have hIO : IntsOk [k, n, m, (ts.length : Int)] := by
    intro x hx
    simp only [List.mem_cons, List.not_mem_nil, or_false] at hx
    rw [tsize] at hs
    rcases hx with rfl | rfl | rfl | rfl
    · exact hi.1
    · exact hi.2.1
    · exact hi.2.2.1
    · omega
  rw [tsize] at hs
  have hHL := head_len (l := ts.length) hi.1 hi.2.1 hi.2.2.1 (by omega)
  have KI := Lib.hid hi.2.2.2
  have X0 := Lib.hid (show ([.int .i64 k, .int .i64 n, .int .i64 m, vk] : List Value)[0]? = some (.int .i64 k) from rfl)
  have X1 := Lib.hid (show ([.int .i64 k, .int .i64 n, .int .i64 m, vk] : List Value)[1]? = some (.int .i64 n) from rfl)
  have X2 := Lib.hid (show ([.int .i64 k, .int .i64 n, .int .i64 m, vk] : List Value)[2]? = some (.int .i64 m) from rfl)
  have X3 := Lib.hid (show ([.int .i64 k, .int .i64 n, .int .i64 m, vk] : List Value)[3]? = some vk from rfl)
  have XL := Lib.hid hts.len
  have IH := Lib.hid ih
  obtain ⟨hd, hhd⟩ : ∃ hd, encList enc [k, n, m, (ts.length : Int)] = hd := ⟨_, rfl⟩
  have HH := Lib.hid hhd
  have hcall : ∀ (v : Value) (w : World), Rd w 1 v 4 (iv [k, n, m, (ts.length : Int)]) → Calls Tryd.prog 61 #[v] w fun e w' => ∃ v, e = .returned v ∧ w'.ownsRow w.heap.size 5 1 v hd.length (bv hd) ∧ Below w.heap.size w w' := fun v w hv => by
    rw [← hhd]; exact refints_any v 4 _ w hv hIO (by omega)
  rw [hhd] at hHL
  clear hhd hIO hi ih
  go_enter Tryd.func35, Tryd.ntmps35
  go_upto_region 3 with (first
    | (((with_reducible refine' wpList_boxa (cs := [.int .i64 k, .int .i64 n, .int .i64 m, vk]) 25 (.tmp 0) rfl ?_ ?_ ?_); exact rfl; exact rfl; intro w1 kA hN1 hz1; simp only [Act.put, List.setIfInBounds_toArray, List.set_cons_succ, List.set_cons_zero]); have hr1 := hr.below hN1; have lA := kA.lt)
    | ((with_reducible refine' wpList_field_blk (j := 0) (.tmp 1) 25 0 rfl ?_ fo_node_0 ?_ rfl ?_); exact rfl; exact rfl; simp only [Act.put, List.setIfInBounds_toArray, List.set_cons_succ, List.set_cons_zero]) | ((with_reducible refine' wpList_load_blk (.tmp 5) 3 rfl ?_ ld_int ?_ kA (X0.out) ?_); exact rfl; exact rfl; simp only [Act.put, List.setIfInBounds_toArray, List.set_cons_succ, List.set_cons_zero]) | ((with_reducible refine' wpList_field_blk (j := 1) (.tmp 1) 25 1 rfl ?_ fo_node_1 ?_ rfl ?_); exact rfl; exact rfl; simp only [Act.put, List.setIfInBounds_toArray, List.set_cons_succ, List.set_cons_zero]) | ((with_reducible refine' wpList_load_blk (.tmp 7) 3 rfl ?_ ld_int ?_ kA (X1.out) ?_); exact rfl; exact rfl; simp only [Act.put, List.setIfInBounds_toArray, List.set_cons_succ, List.set_cons_zero]) | ((with_reducible refine' wpList_field_blk (j := 2) (.tmp 1) 25 2 rfl ?_ fo_node_2 ?_ rfl ?_); exact rfl; exact rfl; simp only [Act.put, List.setIfInBounds_toArray, List.set_cons_succ, List.set_cons_zero]) | ((with_reducible refine' wpList_load_blk (.tmp 9) 3 rfl ?_ ld_int ?_ kA (X2.out) ?_); exact rfl; exact rfl; simp only [Act.put, List.setIfInBounds_toArray, List.set_cons_succ, List.set_cons_zero]) | ((with_reducible refine' wpList_field_blk (j := 3) (.tmp 1) 25 3 rfl ?_ fo_node_3 ?_ rfl ?_); exact rfl; exact rfl; simp only [Act.put, List.setIfInBounds_toArray, List.set_cons_succ, List.set_cons_zero]) | ((with_reducible refine' wpList_load_blk (.tmp 11) 23 rfl ?_ ld_nds ?_ kA (X3.out) ?_); exact rfl; exact rfl; simp only [Act.put, List.setIfInBounds_toArray, List.set_cons_succ, List.set_cons_zero]) | ((with_reducible refine' wpList_len_rd (.tmp 12) 23 rfl ?_ Tryd.underlying23 ?_ hr1 ?_); exact rfl; exact rfl; simp only [Act.put, List.setIfInBounds_toArray, List.set_cons_succ, List.set_cons_zero])
    | (((with_reducible refine' wpList_build_cs (cs := iv [k, n, m, (ts.length : Int)]) rfl ?_ Tryd.underlying22 inf_int ?_ ?_ ?_ ?_ ?_ ?_); exact rfl; exact rfl; omega; omega; exact rfl; exact iv_ones _; intro v2 w2 r2 hN2; simp only [Act.put, List.setIfInBounds_toArray, List.set_cons_succ, List.set_cons_zero]); have kA2 := kA.below hN2 lA)
    | ((go_at_call 61; (with_reducible refine (hcall _ _ r2).mono ?_); rintro e w' ⟨v3, rfl, o3, hN3⟩); have kA3 := kA2.below hN3 (Nat.lt_of_lt_of_le lA hN2.size); have hr3 := (hr1.below hN2).below hN3))
  obtain ⟨w3, rfl⟩ : ∃ x : World, x = w' := ⟨_, rfl⟩
  have hb3 : Below w.heap.size w w3 := (hN1.trans (hN2.mono hN1.size)).trans (hN3.mono (hN1.trans (hN2.mono hN1.size)).size)
  have l2 := kA2.lt
  obtain ⟨A, hA⟩ : ∃ A, w.heap.size = A := ⟨_, rfl⟩
  have HA := Lib.hid hA
  have kB := kA3
  rw [hA] at kB l2
  simp only [hA]
  have o3' := own_mono (base' := A + 1) o3 l2
  clear hN1 hN2 hN3 kA kA2 kA3 hr1 hr3 r2 o3 hz1 hcall lA hA l2
  go_loopw [3, 4] (fun x i wr => ∃ j : Nat, j ≤ ts.length ∧ i = .int .i64 (j : Int) ∧ wr.ownsRow (A + 1) 5 1 x (hd ++ tencs (ts.take j)).length (bv (hd ++ tencs (ts.take j))) ∧ Below (A + 1) w3 wr) (fun _ i _ => ts.length - (intOf i).toNat)
  case atStart => exact ⟨0, Nat.zero_le _, rfl, by rw [List.take_zero, tencs, List.append_nil]; exact o3', Below.refl _ _⟩
  case round =>
    obtain ⟨j, hj, rfl, hown, hbj⟩ := hrel
    obtain ⟨wo, rfl⟩ : ∃ wo : World, wo = wr := ⟨_, rfl⟩
    have hb : Below w.heap.size w wo := hb3.trans (hbj.mono (by have := HA.out; omega))
    have hrj := hr.below hb
    have kAj := kB.below hbj (by omega)
    clear o3'
    by_cases hlt : j < ts.length
    · obtain ⟨t, ht⟩ := kid_at hlt
      have hT := IsT.below hb (IsTs.get hts ht)
      obtain ⟨cs, hcs⟩ : ∃ cs, (xs.drop (j * 4)).take 4 = cs := ⟨_, rfl⟩
      rw [hcs] at hT
      have HC := Lib.hid hcs
      have BD := Lib.hid (show j * 4 + 4 ≤ xs.length by rw [XL.out]; omega)
      have CL := Lib.hid hT.len
      have CO := Lib.hid hT.ones
      have hmem := List.mem_of_getElem? ht
      have hq5 := tsize_mem hmem
      have hen := tencs_take ht
      have hti := tsInts.mem KI.out t hmem
      have htl := tenc_len t hti (by omega)
      have hpart : (tencs (ts.take j)).length ≤ 45 * tsizes ts := by
        have h1 : (tencs ts).length = (tencs (ts.take j)).length + (tencs (ts.drop j)).length := by rw [← List.length_append, ← tencs_app, List.take_append_drop]
        omega
      have HS := Lib.hid (show hd ++ tencs (ts.take (j + 1)) = (hd ++ tencs (ts.take j)) ++ tenc t by rw [hen, List.append_assoc])
      have hpl : (hd ++ tencs (ts.take j)).length ≤ 45 + 45 * tsizes ts := by rw [List.length_append]; omega
      obtain ⟨pt, hpt⟩ : ∃ pt, hd ++ tencs (ts.take j) = pt := ⟨_, rfl⟩
      rw [hpt] at hown HS hpl
      clear hcs ht hen hpart hpt
      have IHt := Lib.hid (IH.out t hmem cs wo hT hti (by omega))
      have BO := Lib.hid (bv_one (tenc t))
      obtain ⟨en, hen⟩ : ∃ en, tenc t = en := ⟨_, rfl⟩
      rw [hen] at HS htl BO
      have BO2 := BO.out
      have HEN := Lib.hid hen
      have sj := kAj.lt
      clear hen hT
      rw [HEN.out] at IHt
      go_wp2_with (first
        | ((with_reducible refine' wpList_field_blk (j := 3) (.tmp 1) 25 3 rfl ?_ fo_node_3 ?_ rfl ?_); exact rfl; exact rfl; simp only [Act.put, List.setIfInBounds_toArray, List.set_cons_succ, List.set_cons_zero]) | ((with_reducible refine' wpList_load_blk (.tmp 17) 23 rfl ?_ ld_nds ?_ kAj (X3.out) ?_); exact rfl; exact rfl; simp only [Act.put, List.setIfInBounds_toArray, List.set_cons_succ, List.set_cons_zero]) | ((with_reducible refine' wpList_len_rd (.tmp 18) 23 rfl ?_ Tryd.underlying23 ?_ hrj ?_); exact rfl; exact rfl; simp only [Act.put, List.setIfInBounds_toArray, List.set_cons_succ, List.set_cons_zero]) | ((with_reducible refine' wpList_load_blk (.tmp 24) 23 rfl ?_ ld_nds ?_ kAj (X3.out) ?_); exact rfl; exact rfl; simp only [Act.put, List.setIfInBounds_toArray, List.set_cons_succ, List.set_cons_zero])
        | ((with_reducible refine' wpList_at_rd (.tmp 25) (.tmp 26) 23 rfl ?_ Tryd.underlying23 sz_node ?_ hrj (by decide) (j) ?_ ?_ ?_); exact rfl; exact rfl; (show (_ : Int) = _; omega); omega; simp only [Act.put, List.setIfInBounds_toArray, List.set_cons_succ, List.set_cons_zero]) | ((with_reducible refine' wpList_load_st (cp := cs) (.tmp 27) 25 rfl ?_ Tryd.underlying25 ?_ sz_node ?_ hrj ?_ ?_ HC.out ?_); exact rfl; exact rfl; exact rfl; exact BD.out; decide; simp only [Act.put, List.setIfInBounds_toArray, List.set_cons_succ, List.set_cons_zero])
        | ((go_at_call 35; (with_reducible refine (IHt.out).mono ?_); rintro e w' ⟨v6, rfl, o6, hN6⟩); have own6 := own_below hown hN6; have r6 := Rd.of_own o6; have S6 : A + 1 ≤ w'.heap.size := Nat.le_trans sj hN6.size)
        | ((with_reducible refine' wpList_append_at (.tmp 23) (.tmp 29) 49 rfl ?_ Tryd.underlying49 inf_u8 ?_ ?_ ?_ own6 ?_ r6 BO2 ?_ ?_ S6 ?_); exact rfl; exact rfl; omega; exact rfl; exact rfl; (first | omega | (unfold maxLen; omega)); omega; intro v8 w8 o8 hg8 hst8; simp only [Act.put, List.setIfInBounds_toArray, List.set_cons_succ, List.set_cons_zero]))
      rw [← bv_append, ← List.length_append, ← HS.out] at o8
      have hb8 : Below (A + 1) w3 w8 := (hbj.trans (hN6.mono sj)).grown hg8 S6 (fun b h => (own6.lt b h).1)
      clear hg8 hst8 own6 r6 hN6 IHt HEN
      go_roundw
      case rel => (first | exact ⟨j + 1, by omega, by go_num, o8, hb8⟩ | ((repeat apply Exists.intro); exact ⟨⟨j + 1, by omega, by go_num, o8, hb8⟩, rfl⟩))
      case measure => simp [intOf]; omega
    · obtain rfl : j = ts.length := by omega
      rw [List.take_length] at hown
      go_wp2_with (first | ((with_reducible refine' wpList_field_blk (j := 3) (.tmp 1) 25 3 rfl ?_ fo_node_3 ?_ rfl ?_); exact rfl; exact rfl; simp only [Act.put, List.setIfInBounds_toArray, List.set_cons_succ, List.set_cons_zero]) | ((with_reducible refine' wpList_load_blk (.tmp 17) 23 rfl ?_ ld_nds ?_ kAj (X3.out) ?_); exact rfl; exact rfl; simp only [Act.put, List.setIfInBounds_toArray, List.set_cons_succ, List.set_cons_zero]) | ((with_reducible refine' wpList_len_rd (.tmp 18) 23 rfl ?_ Tryd.underlying23 ?_ hrj ?_); exact rfl; exact rfl; simp only [Act.put, List.setIfInBounds_toArray, List.set_cons_succ, List.set_cons_zero]))
      go_ret
      rw [tenc, HH.out]
      exact ⟨_, rfl, own_mono hown (by have := HA.out; omega), hb⟩
end Go.Proofs.YtdlhkhnoigbhjaaDoor.Wi
namespace Go.Proofs.YtdlhkhnoigbhjaaDoor.Lb
open Go Go.RowKit Go.Lib
section
variable {P : Program} {ops : Array Oper} {Q : Exit → Act → World → Prop} {C : World → Prop} {R : Act → Prop} {a : Act} {w : World} {rest : List Oper} {o : Oper}
theorem wpList_box1 (t : TypeId) (x : Operand) (ho : o.op = .box t x) (hw : Region.wanted o (yielded ops a.tmps) = true) {v : Value} (hx : a.eval x = v) (hc : v.cells = #[v])
    (h : ∀ w', Blk w' w.heap.size t [v] → Below w.heap.size w w' → w'.heap.size = w.heap.size + 1 → wpList P ops Q rest (a.put o.dst (.pointer (some ⟨w.heap.size, 0, none⟩))) w') : wpList P ops Q (o :: rest) a w := by
  refine wpList_of_run hw (v := .pointer (some ⟨w.heap.size, 0, none⟩)) (w' := w.alloc (.cells #[v] t)) ?_ (h _ (heap_alloc_new w _) ((Below.refl _ _).alloc (Nat.le_refl _) _) (by simp))
  unfold execOp
  simp [ho, hx, Instr.box, newVar, newRow, hc]
/-- 's[i]' of a string -/
theorem run_index_str (x i : Operand) (t : TypeId) (ho : o.op = .index t x i) (ht : P.underlying t = some .string) {l : List UInt8} (hx : a.eval x = .string ⟨l.toArray⟩) (k : Nat) (hix : IsI (a.eval i) (k : Int)) (hk : k < l.length) (w : World) :
    (execOp a.eval o).run P w = .ok (.value (.int .u8 ((Pu.gb l k).toNat : Int))) w := by
  obtain ⟨kd, hix⟩ := isI hix
  have h1 : (ByteArray.mk l.toArray)[k]? = some l[k] := by
    rw [getElem?_pos _ _ (by show k < (ByteArray.mk l.toArray).size; rw [size_str]; exact hk)]
    rfl
  have h2 : Pu.gb l k = l[k] := by simp [Pu.gb, hk]
  unfold execOp
  simp [ho, Instr.index, hx, hix, asIntOf, run_underlying ht, h1, h2]
theorem wpList_index_str (x i : Operand) (t : TypeId) (ho : o.op = .index t x i) (hw : Region.wanted o (yielded ops a.tmps) = true) (ht : P.underlying t = some .string) {l : List UInt8} (hx : a.eval x = .string ⟨l.toArray⟩) (k : Nat) (hix : IsI (a.eval i) (k : Int)) (hk : k < l.length)
    (h : wpList P ops Q rest (a.put o.dst (.int .u8 ((Pu.gb l k).toNat : Int))) w) : wpList P ops Q (o :: rest) a w := wpList_of_run hw (run_index_str x i t ho ht hx k hix hk w) h
theorem wpQuiet_index_str (x i : Operand) (t : TypeId) (ho : o.op = .index t x i) (hw : Region.wanted o (yielded ops a.tmps) = true) (ht : P.underlying t = some .string) {l : List UInt8} (hx : a.eval x = .string ⟨l.toArray⟩) (k : Nat) (hix : IsI (a.eval i) (k : Int)) (hk : k < l.length)
    (h : wpQuiet P ops C R rest (a.put o.dst (.int .u8 ((Pu.gb l k).toNat : Int)))) : wpQuiet P ops C R (o :: rest) a := wpQuiet_of_run hw (fun w _ => run_index_str x i t ho ht hx k hix hk w) h
end
end Go.Proofs.YtdlhkhnoigbhjaaDoor.Lb
namespace Go.Proofs.YtdlhkhnoigbhjaaDoor.Pu
/-- what differs in the first k bytes -/
def dif (a b : List UInt8) : Nat → UInt8
  | 0 => 0
  | k + 1 => dif a b k ||| (gb a k ^^^ gb b k)
theorem or_zero (x y : UInt8) : x ||| y = 0 ↔ x = 0 ∧ y = 0 := by
  rw [← UInt8.toBitVec_inj, ← UInt8.toBitVec_inj, ← UInt8.toBitVec_inj, UInt8.toBitVec_or]
  exact BitVec.or_eq_zero_iff
theorem dif_zero (a b : List UInt8) : ∀ k, dif a b k = 0 ↔ ∀ i, i < k → gb a i = gb b i
  | 0 => by simp [dif]
  | k + 1 => by
    rw [dif, or_zero, dif_zero a b k, UInt8.xor_eq_zero_iff]
    constructor
    · rintro ⟨h1, h2⟩ i hi
      rcases Nat.lt_succ_iff_lt_or_eq.1 hi with h | rfl
      · exact h1 i h
      · exact h2
    · intro h
      exact ⟨fun i hi => h i (by omega), h k (by omega)⟩
theorem dif_eq {a b : List UInt8} (h : a.length = b.length) : dif a b a.length = 0 ↔ a = b := by
  rw [dif_zero]
  constructor
  · intro hh
    apply List.ext_getElem h
    intro i h1 h2
    have := hh i h1
    simpa [gb, h1, h2] using this
  · rintro rfl i _; rfl
end Go.Proofs.YtdlhkhnoigbhjaaDoor.Pu
namespace Go.Proofs.YtdlhkhnoigbhjaaDoor.Wi
open Go Go.RowKit Pu Lb
set_option linter.unusedSimpArgs false
set_option linter.unusedVariables false
theorem zr_b64 : (Tryd.prog.info? 92).map (·.zero) = some (some (.agg (Array.replicate 64 (.int .u8 0)))) := by kernel_rfl
theorem sz_b64 : (Tryd.prog.info? 92).map (·.size) = some 64 := by kernel_rfl
theorem begin_isS : IsS [] begin0 := isS_nil
attribute [local irreducible] comp sched comps sha outS

theorem x8 (x y : UInt8) : bits .xor .u8 (x.toNat : Int) (y.toNat : Int) = ((x ^^^ y).toNat : Int) := by rw [u8_xor_nat _ _ (u8_lt x) (u8_lt y), UInt8.toNat_xor]
theorem o8 (x y : UInt8) : bits .or .u8 (x.toNat : Int) (y.toNat : Int) = ((x ||| y).toNat : Int) := by rw [u8_or_nat _ _ (u8_lt x) (u8_lt y), UInt8.toNat_or]
theorem zero8 (x : UInt8) : ((x.toNat : Int) == 0) = decide (x = 0) := by
  rw [Bool.eq_iff_iff]
  simp only [beq_iff_eq, decide_eq_true_eq]
  constructor
  · intro h; exact UInt8.toNat_inj.1 (by simpa using h)
  · rintro rfl; rfl

/-! ### the code of a key -/
def pad64 (k : List UInt8) : List UInt8 := k ++ List.replicate (64 - k.length) 0
theorem pad64_len {k : List UInt8} (h : k.length ≤ 64) : (pad64 k).length = 64 := by unfold pad64; rw [List.length_append, List.length_replicate]; omega
theorem zeros_bv (n : Nat) : List.replicate n (Value.int .u8 0) = bv (List.replicate n 0) := by simp [bv]
theorem put_key {k : List UInt8} (h : k.length ≤ 64) : put (List.replicate 64 (Value.int .u8 0)) 0 (bv (k.take 64)) = bv (pad64 k) := by
  rw [List.take_of_length_le h]
  unfold put pad64
  rw [List.take_zero, List.nil_append, Nat.zero_add, bv_length, List.drop_replicate, zeros_bv, bv_append]
/-- the first i bytes are turned -/
def half (k : List UInt8) (c : UInt8) (i : Nat) : List UInt8 := (k.take i).map (· ^^^ c) ++ k.drop i
theorem half_len (k : List UInt8) (c : UInt8) (i : Nat) : (half k c i).length = k.length := by unfold half; simp; omega
theorem half_zero (k : List UInt8) (c : UInt8) : half k c 0 = k := by simp [half]
theorem half_all {k : List UInt8} {c : UInt8} {i : Nat} (h : k.length ≤ i) : half k c i = k.map (· ^^^ c) := by
  unfold half
  rw [List.take_of_length_le h, List.drop_of_length_le h, List.append_nil]
theorem half_get {k : List UInt8} {c : UInt8} {i : Nat} (h : i < k.length) : (bv (half k c i))[i]? = some (.int .u8 ((gb k i).toNat : Int)) := by
  apply bv_at
  unfold half
  rw [List.getElem?_append_right (by simp; omega)]
  simp [gb, h, Nat.min_eq_left (Nat.le_of_lt h)]
theorem half_set {k : List UInt8} {c : UInt8} {i : Nat} (h : i < k.length) : (bv (half k c i)).set i (.int .u8 ((gb k i ^^^ c).toNat : Int)) = bv (half k c (i + 1)) := by
  have e : bv (half k c i) = bv ((k.take i).map (· ^^^ c)) ++ (.int .u8 ((gb k i).toNat : Int)) :: bv (k.drop (i + 1)) := by
    unfold half
    rw [bv_append, List.drop_eq_getElem_cons h, show gb k i = k[i] by simp [gb, h]]; rfl
  rw [e, List.set_append_right _ _ (by rw [bv_length]; simp; omega), bv_length]
  have : i - ((k.take i).map (· ^^^ c)).length = 0 := by simp; omega
  rw [this, List.set_cons_zero]
  unfold half
  rw [List.take_succ_eq_append_getElem h, List.map_append, List.append_assoc, bv_append]
  simp [bv, gb, h]

theorem padKey_eq (key : List UInt8) (c : UInt8) : padKey key c = (pad64 (if 64 < key.length then sha key else key)).map (· ^^^ c) := rfl
theorem short_key (key : List UInt8) : (if 64 < key.length then sha key else key).length ≤ 64 := by
  split
  · rw [sha_len]; omega
  · omega
theorem padKey_len (key : List UInt8) (c : UInt8) : (padKey key c).length = 64 := by rw [padKey_eq, List.length_map, pad64_len (short_key key)]
theorem mac_eq (key text : List UInt8) : mac key text = sha (padKey key 92 ++ sha (padKey key 54 ++ text)) := rfl

end Go.Proofs.YtdlhkhnoigbhjaaDoor.Wi
