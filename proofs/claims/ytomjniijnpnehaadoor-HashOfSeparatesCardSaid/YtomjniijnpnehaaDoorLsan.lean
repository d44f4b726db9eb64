/-
  The law's own check of itself. Conditions: the constants lie as the program's text lays them.
-/
import Derived.Test.YtomjniijnpnehaaDoorHex
import Derived.Lib.SlBytesConst
namespace Go.Proofs.YtomjniijnpnehaaDoor.Lb
open Go Go.RowKit
section
variable {P : Program} {ops : Array Oper} {Q : Exit → Act → World → Prop} {a : Act} {w : World} {rest : List Oper} {o o2 : Oper}
/-- '[]byte("..")' of a constant: a literal and the slice's conversion to its own type -/
theorem wpList_build_mark {t : TypeId} {n : Nat} {parts : Array (Nat × Operand)} (x : Operand) (ho : o.op = .buildSlice t n parts) (ho2 : o2.op = .convert t t x) (hw : Region.wanted o (yielded ops a.tmps) = true) (hw2 : ∀ v, Region.wanted o2 (yielded ops (a.put o.dst v).tmps) = true) (hx : ∀ v, (a.put o.dst v).eval x = v)
    {e : TypeId} (ht : P.underlying t = some (.slice e)) (he : P.underlying e = some (.int .u8)) {z : Value} {bytes : Nat} (hinfo : (P.info? e).map (fun i => (i.zero, i.size, i.bytes)) = some (some z, 1, bytes))
    (hidx : parts.toList.map (·.1) = List.range' 0 n) (hn0 : 0 < n) (hn1 : n ≤ 100000) {cs : List Value} (hcs : parts.toList.map (fun p => a.eval p.2) = cs) (h1 : ∀ u ∈ cs, u.oneCell' = true)
    (h : ∀ v' w', Rd w' 1 v' n cs → Below w.heap.size w w' → wpList P ops Q rest ((a.put o.dst v').put o2.dst v') w') : wpList P ops Q (o :: o2 :: rest) a w := by
  obtain ⟨i, hi, hz, hsz, hby⟩ := info_parts hinfo
  have hlen : parts.toList.length = n := by have := congrArg List.length hidx; simpa using this
  have hcl : cs.length = n := by rw [← hcs, List.length_map, hlen]
  have hf : Instr.fill (fun i => some (i * 1, 1)) ((Array.range (n * 1)).map (z.cells[· % z.cells.size]!)) (parts.map fun (i, x) => (i, a.eval x)).toList = some cs.toArray := by
    have hzz : ((Array.range (n * 1)).map (z.cells[· % z.cells.size]!)).size = n := by simp
    obtain ⟨zs, hzs'⟩ : ∃ zs : List Value, ((Array.range (n * 1)).map (z.cells[· % z.cells.size]!)) = zs.toArray := ⟨_, (Array.toArray_toList).symm⟩
    rw [hzs'] at hzz ⊢
    have hmap : (parts.map fun (i, x) => (i, a.eval x)).toList = parts.toList.map fun p => (p.1, a.eval p.2) := by simp
    have h2 : (parts.toList.map fun p => (p.1, a.eval p.2)).map (·.2) = cs := by rw [List.map_map]; exact hcs
    have := fill_full (parts.toList.map fun p => (p.1, a.eval p.2)) 0 [] zs rfl (by simp at hzz; rw [List.length_map, hlen]; omega) (by rw [List.map_map, List.length_map, hlen]; exact hidx) (by
      intro p hp
      refine h1 p.2 ?_
      rw [← h2]
      exact List.mem_map_of_mem hp)
    rw [hmap]
    simpa [h2] using this
  refine wpList_of_run hw (v := .slice (some ⟨w.heap.size, 0, none⟩) n n) (w' := w.alloc (.cells cs.toArray e)) ?_ ?_
  · have h0' : ¬ n = 0 := by omega
    have h24 : ¬ (16777216 < n) := by omega
    unfold execOp
    simp only [ho, Instr.buildSlice, Sem.run_bind, run_underlying ht, Result.andThen_ok]
    simp only [sizeOf, typeInfo]
    simp only [Nat.mul_one, Array.toList_map] at hf
    simp [hsz, h0', h24, zeroValue, typeInfo, hi, hz, newRow]
    simp [hf]
  · have hc := Lib.run_convert_bytes_const (P := P) w t e cs.toArray n n ht he
    refine wpList_of_run (hw2 _) (v := .slice (some ⟨w.heap.size, 0, none⟩) n n) (w' := w.alloc (.cells cs.toArray e (cs.toArray.size, cs.toArray.size + 1))) ?_ (h _ _ ?_ ((Below.refl _ _).alloc (Nat.le_refl _) _))
    · unfold execOp
      simp only [ho2, hx, Sem.run_bind, hc, Result.andThen, Sem.run_pure]
    · refine ⟨by rw [hcl]; omega, _, _, rfl, Nat.le_refl _, (by unfold maxLen; omega), (fun h => by cases h), fun j u hu => ⟨_, 0, rfl, ?_⟩⟩
      rw [Nat.zero_add]
      have := World.cell?_alloc_mark w cs.toArray e (cs.toArray.size, cs.toArray.size + 1) j
      rw [this]
      simpa using hu
end
end Go.Proofs.YtomjniijnpnehaaDoor.Lb
namespace Go.Proofs.YtomjniijnpnehaaDoor.Pu
abbrev jefe : List UInt8 := [74, 101, 102, 101]
abbrev what : List UInt8 := [119, 104, 97, 116, 32, 100, 111, 32, 121, 97, 32, 119, 97, 110, 116, 32, 102, 111, 114, 32, 110, 111, 116, 104, 105, 110, 103, 63]
set_option maxRecDepth 100000 in
theorem san1 : hexOf (sha [97, 98, 99]) = [98, 97, 55, 56, 49, 54, 98, 102, 56, 102, 48, 49, 99, 102, 101, 97, 52, 49, 52, 49, 52, 48, 100, 101, 53, 100, 97, 101, 50, 50, 50, 51, 98, 48, 48, 51, 54, 49, 97, 51, 57, 54, 49, 55, 55, 97, 57, 99, 98, 52, 49, 48, 102, 102, 54, 49, 102, 50, 48, 48, 49, 53, 97, 100] := by kernel_rfl
set_option maxRecDepth 100000 in
theorem san2 : hexOf (mac jefe what) = [53, 98, 100, 99, 99, 49, 52, 54, 98, 102, 54, 48, 55, 53, 52, 101, 54, 97, 48, 52, 50, 52, 50, 54, 48, 56, 57, 53, 55, 53, 99, 55, 53, 97, 48, 48, 51, 102, 48, 56, 57, 100, 50, 55, 51, 57, 56, 51, 57, 100, 101, 99, 53, 56, 98, 57, 54, 52, 101, 99, 51, 56, 52, 51] := by kernel_rfl
set_option maxRecDepth 100000 in
theorem san3 : hexOf (digOf 8 [[97], []]) = [51, 54, 99, 100, 53, 48, 56, 53, 48, 51, 50, 57, 102, 56, 56, 52, 48, 54, 101, 51, 49, 98, 98, 56, 97, 55, 100, 56, 102, 98, 54, 50] := by kernel_rfl
end Go.Proofs.YtomjniijnpnehaaDoor.Pu
namespace Go.Proofs.YtomjniijnpnehaaDoor.Wi
open Go Go.RowKit Pu Lb
set_option linter.unusedSimpArgs false
set_option linter.unusedVariables false
attribute [local irreducible] comp sched comps sha outS mac digOf hexOf

theorem sv_ones (l : List (List UInt8)) : ∀ u ∈ sv l, u.oneCell' = true := by
  intro u hu
  simp only [sv, List.mem_map] at hu
  obtain ⟨x, _, rfl⟩ := hu
  rfl
theorem dec_self {α : Type} [DecidableEq α] (x : α) : decide (x = x) = true := decide_eq_true rfl
theorem drew_below {w w' : World} (h : ∃ q, w' = w.drewN q) : Below w.heap.size w w' := by obtain ⟨q, rfl⟩ := h; exact below_drewN (Below.refl _ _) q
theorem same_lit {X : List UInt8} {c : List UInt8} (h : X = c) : (Value.string ⟨c.toArray⟩) = .string ⟨X.toArray⟩ := by rw [h]
set_option maxRecDepth 100000 in
theorem sanity_any (w : World) (hT : TabH w) : Calls Tryd.prog 10 #[] w fun e w' => e = .returned (.bool true) ∧ Below w.heap.size w w' := by
  obtain ⟨A, hA⟩ : ∃ A, Hid (sha [97, 98, 99] = A) := ⟨_, Lib.hid rfl⟩
  obtain ⟨M, hM⟩ : ∃ M, Hid (mac jefe what = M) := ⟨_, Lib.hid rfl⟩
  obtain ⟨G, hG⟩ : ∃ G, Hid (digOf 8 [[97], []] = G) := ⟨_, Lib.hid rfl⟩
  have A32 := Lib.hid (show A.length = 32 by rw [← hA.out, sha_len])
  have B32 := Lib.hid (show (bv A).length = 32 by rw [bv_length, A32.out])
  have G16 := Lib.hid (show G.length = 16 by rw [← hG.out, digOf_len])
  have C16 := Lib.hid (show (bv G).length = 16 by rw [bv_length, G16.out])
  have M32 := Lib.hid (show M.length = 32 by rw [← hM.out]; unfold mac; rw [sha_len])
  have X1 := Lib.hid (same_lit ((congrArg hexOf hA.out).symm.trans san1))
  have X2 := Lib.hid (same_lit ((congrArg hexOf hM.out).symm.trans san2))
  have X3 := Lib.hid (same_lit ((congrArg hexOf hG.out).symm.trans san3))
  have INL := Lib.hid (show (inp 8 [[97], []]).length ≤ 70368744177664 from of_decide_eq_true (by kernel_rfl))
  have E2 := Lib.hid (show decide (([97, 98] : List UInt8) = [97, 99]) = false from rfl)
  have E3 := Lib.hid (show decide (([] : List UInt8) = [97]) = false from rfl)
  go_enter Tryd.func10, Tryd.ntmps10
  have hb := Below.refl w.heap.size w
  go_upto_region 2 with (first
    | (((with_reducible refine' wpList_build_mark (cs := bv [97, 98, 99]) (.tmp 7) rfl rfl ?_ ?_ ?_ Tryd.underlying22 Tryd.underlying5 inf_u8 ?_ ?_ ?_ ?_ ?_ ?_); exact rfl; (intro v; exact rfl); (intro v; exact rfl); exact rfl; omega; omega; exact rfl; exact bv_one _; intro v1 w1 r1 hN; simp only [Act.put, List.setIfInBounds_toArray, List.set_cons_succ, List.set_cons_zero]); replace hb := hb.trans ((by exact hN : Below _ _ _).mono hb.size); have hTn := hT.below hb)
    | ((go_at_call 11; (with_reducible refine (sum_any v1 _ [97, 98, 99] _ hTn r1 (by decide)).mono ?_); rintro e w' ⟨rfl, hN⟩); rw [hA.out]; replace hb := hb.trans ((by exact hN : Below _ _ _).mono hb.size); have z1 := hb.size)
    | (((with_reducible refine' wpList_alloc_blk (cs := List.replicate 32 (.int .u8 0)) 24 rfl ?_ zr_b32 ?_ ?_); exact rfl; exact zeros_u8 32; intro w2 k1 hN hz1; simp only [Act.put, List.setIfInBounds_toArray, List.set_cons_succ, List.set_cons_zero]); replace hb := hb.trans ((by exact hN : Below _ _ _).mono hb.size))
    | (((with_reducible refine' wpList_store_blk (cs := bv A) 24 (.tmp 1) (.tmp 9) rfl ?_ ?_ ?_ k1 sz_b32 ?_ ?_ ?_ ?_); exact rfl; exact rfl; exact rfl; exact B32.out; exact List.length_replicate; exact bv_one _; intro w3 k1b hO hz2; simp only [Act.put]); replace hb := hb.trans (hO.below z1 hb.size); replace k1 := k1b))
  obtain ⟨B1, hB1⟩ : ∃ B, w'.heap.size = B := ⟨_, rfl⟩
  rw [hB1] at k1 ⊢
  clear hTn
  have hTn := hT.below hb
  go_upto_region 3 with (first
    | ((go_at_call 14; (with_reducible refine (begin_any _).mono ?_); rintro e w' ⟨rfl, hN⟩); replace hb := hb.trans ((by exact hN : Below _ _ _).mono hb.size); (try replace k1 := Blk.below k1 hN (Blk.lt k1)); have hT2 := hT.below hb)
    | ((go_at_call 15; (with_reducible refine (add_any [] [97] begin0 _ hT2 begin_isS (by decide)).mono ?_); rintro e w' ⟨y1, rfl, hy1, hN⟩); replace hb := hb.trans ((by exact hN : Below _ _ _).mono hb.size); (try replace k1 := Blk.below k1 hN (Blk.lt k1)); have hT3 := hT.below hb)
    | ((go_at_call 15; (with_reducible refine (add_any _ [98, 99] y1 _ hT3 hy1 (by decide)).mono ?_); rintro e w' ⟨y2, rfl, hy2, hN⟩); have hy2 : IsS [97, 98, 99] y2 := hy2; replace hb := hb.trans ((by exact hN : Below _ _ _).mono hb.size); (try replace k1 := Blk.below k1 hN (Blk.lt k1)); have hT4 := hT.below hb)
    | ((go_at_call 17; (with_reducible refine (strsum_any [97, 98, 99] y2 _ hT4 hy2 (by decide)).mono ?_); rintro e w' ⟨rfl, hN⟩); rw [hA.out]; replace hb := hb.trans ((by exact hN : Below _ _ _).mono hb.size); (try replace k1 := Blk.below k1 hN (Blk.lt k1)); have z2 := hb.size; have l1 := k1.lt)
    | (((with_reducible refine' wpList_alloc_blk (cs := List.replicate 32 (.int .u8 0)) 24 rfl ?_ zr_b32 ?_ ?_); exact rfl; exact zeros_u8 32; intro w4 k2 hN hz3; simp only [Act.put, List.setIfInBounds_toArray, List.set_cons_succ, List.set_cons_zero]); replace hb := hb.trans ((by exact hN : Below _ _ _).mono hb.size); (try replace k1 := Blk.below k1 hN (Blk.lt k1)))
    | (((with_reducible refine' wpList_store_blk (cs := bv A) 24 (.tmp 2) (.tmp 13) rfl ?_ ?_ ?_ k2 sz_b32 ?_ ?_ ?_ ?_); exact rfl; exact rfl; exact rfl; exact B32.out; exact List.length_replicate; exact bv_one _; intro w5 k2b hO hz4; simp only [Act.put]); replace hb := hb.trans (hO.below z2 hb.size); replace k2 := k2b; replace k1 := hO.blk k1 (by omega)))
  obtain ⟨B2, hB2⟩ : ∃ B, w'.heap.size = B := ⟨_, rfl⟩
  rw [hB2] at k2 ⊢
  clear hT2 hT3 hT4 hTn hO k1b k2b
  go_upto_region 4 with (first
    | (((with_reducible refine' wpList_build_cs (cs := sv [[97], []]) rfl ?_ Tryd.underlying27 inf_str ?_ ?_ ?_ ?_ ?_ ?_); exact rfl; exact rfl; omega; omega; exact rfl; exact sv_ones _; intro v6 w6 r6 hN; simp only [Act.put, List.setIfInBounds_toArray, List.set_cons_succ, List.set_cons_zero]); replace hb := hb.trans ((by exact hN : Below _ _ _).mono hb.size); (try replace k1 := Blk.below k1 hN (Blk.lt k1)); (try replace k2 := Blk.below k2 hN (Blk.lt k2)); have hT2 := hT.below hb)
    | ((go_at_call 21; (with_reducible refine (of_any 8 v6 _ [[97], []] _ hT2 r6 (by decide) (by decide) INL.out).mono ?_); rintro e w' ⟨rfl, hN⟩); rw [hG.out]; replace hb := hb.trans ((by exact hN : Below _ _ _).mono hb.size); (try replace k1 := Blk.below k1 hN (Blk.lt k1)); (try replace k2 := Blk.below k2 hN (Blk.lt k2)); have z3 := hb.size; have l1 := k1.lt; have l2 := k2.lt)
    | (((with_reducible refine' wpList_alloc_blk (cs := List.replicate 16 (.int .u8 0)) 44 rfl ?_ zr_dig ?_ ?_); exact rfl; exact zeros_u8 16; intro w7 k3 hN hz5; simp only [Act.put, List.setIfInBounds_toArray, List.set_cons_succ, List.set_cons_zero]); replace hb := hb.trans ((by exact hN : Below _ _ _).mono hb.size); (try replace k1 := Blk.below k1 hN (Blk.lt k1)); (try replace k2 := Blk.below k2 hN (Blk.lt k2)))
    | (((with_reducible refine' wpList_store_blk (cs := bv G) 44 (.tmp 3) (.tmp 15) rfl ?_ ?_ ?_ k3 sz_dig ?_ ?_ ?_ ?_); exact rfl; exact rfl; exact rfl; exact C16.out; exact List.length_replicate; exact bv_one _; intro w8 k3b hO hz6; simp only [Act.put]); replace hb := hb.trans (hO.below z3 hb.size); replace k3 := k3b; replace k1 := hO.blk k1 (by omega); replace k2 := hO.blk k2 (by omega)))
  obtain ⟨B3, hB3⟩ : ∃ B, w'.heap.size = B := ⟨_, rfl⟩
  rw [hB3] at k3 ⊢
  clear hT2
  have hT2 := hT.below hb
  go_upto_region 7 with (first
    | ((go_at_call 18; (with_reducible refine (mac_any jefe what _ hT2 (by decide) (by decide)).mono ?_); rintro e w' ⟨rfl, hN⟩); rw [hM.out]; replace hb := hb.trans ((by exact hN : Below _ _ _).mono hb.size); (try replace k1 := Blk.below k1 hN (Blk.lt k1)); (try replace k2 := Blk.below k2 hN (Blk.lt k2)); (try replace k3 := Blk.below k3 hN (Blk.lt k3)))
    | ((go_at_call 24; (with_reducible refine (equal_any [97, 98] [97, 98] _ (by decide) (by decide)).mono ?_); rintro e w' ⟨rfl, hq⟩); have hN := drew_below hq; clear hq; rw [dec_self]; replace hb := hb.trans ((by exact hN : Below _ _ _).mono hb.size); (try replace k1 := Blk.below k1 hN (Blk.lt k1)); (try replace k2 := Blk.below k2 hN (Blk.lt k2)); (try replace k3 := Blk.below k3 hN (Blk.lt k3)))
    | ((go_at_call 24; (with_reducible refine (equal_any [97, 98] [97, 99] _ (by decide) (by decide)).mono ?_); rintro e w' ⟨rfl, hq⟩); have hN := drew_below hq; clear hq; rw [E2.out]; replace hb := hb.trans ((by exact hN : Below _ _ _).mono hb.size); (try replace k1 := Blk.below k1 hN (Blk.lt k1)); (try replace k2 := Blk.below k2 hN (Blk.lt k2)); (try replace k3 := Blk.below k3 hN (Blk.lt k3)))
    | ((go_at_call 24; (with_reducible refine (equal_any [] [97] _ (by decide) (by decide)).mono ?_); rintro e w' ⟨rfl, hq⟩); have hN := drew_below hq; clear hq; rw [E3.out]; replace hb := hb.trans ((by exact hN : Below _ _ _).mono hb.size); (try replace k1 := Blk.below k1 hN (Blk.lt k1)); (try replace k2 := Blk.below k2 hN (Blk.lt k2)); (try replace k3 := Blk.below k3 hN (Blk.lt k3))))
  go_wp2_with (first
    | ((with_reducible refine' wpList_loadall_blk (.tmp 1) 24 rfl ?_ Tryd.underlying24 sz_b32 ?_ k1 ?_ ?_ ?_); exact rfl; exact rfl; exact B32.out; omega; simp only [Act.put, List.setIfInBounds_toArray, List.set_cons_succ, List.set_cons_zero])
    | ((with_reducible refine' wpList_loadall_blk (.tmp 2) 24 rfl ?_ Tryd.underlying24 sz_b32 ?_ k2 ?_ ?_ ?_); exact rfl; exact rfl; exact B32.out; omega; simp only [Act.put, List.setIfInBounds_toArray, List.set_cons_succ, List.set_cons_zero])
    | ((with_reducible refine' wpList_loadall_blk (.tmp 3) 44 rfl ?_ Tryd.underlying44 sz_dig ?_ k3 ?_ ?_ ?_); exact rfl; exact rfl; exact C16.out; omega; simp only [Act.put, List.setIfInBounds_toArray, List.set_cons_succ, List.set_cons_zero])
    | ((go_at_call 20; (with_reducible refine (bytes32_any A _ A32.out).mono ?_); rintro e w' ⟨rfl, hN⟩); replace hb := hb.trans ((by exact hN : Below _ _ _).mono hb.size); (try replace k1 := Blk.below k1 hN (Blk.lt k1)); (try replace k2 := Blk.below k2 hN (Blk.lt k2)); (try replace k3 := Blk.below k3 hN (Blk.lt k3)))
    | ((go_at_call 26; (with_reducible refine (text_any G _ G16.out).mono ?_); rintro e w' ⟨rfl, hN⟩); replace hb := hb.trans ((by exact hN : Below _ _ _).mono hb.size); (try replace k1 := Blk.below k1 hN (Blk.lt k1)); (try replace k2 := Blk.below k2 hN (Blk.lt k2)); (try replace k3 := Blk.below k3 hN (Blk.lt k3)))
    | ((go_at_call 25; (with_reducible refine (hex_any A _ (by rw [A32.out]; decide)).mono ?_); rintro e w' ⟨rfl, hN⟩); replace hb := hb.trans ((by exact hN : Below _ _ _).mono hb.size); (try replace k1 := Blk.below k1 hN (Blk.lt k1)); (try replace k2 := Blk.below k2 hN (Blk.lt k2)); (try replace k3 := Blk.below k3 hN (Blk.lt k3)))
    | ((go_at_call 25; (with_reducible refine (hex_any M _ (by rw [M32.out]; decide)).mono ?_); rintro e w' ⟨rfl, hN⟩); replace hb := hb.trans ((by exact hN : Below _ _ _).mono hb.size); (try replace k1 := Blk.below k1 hN (Blk.lt k1)); (try replace k2 := Blk.below k2 hN (Blk.lt k2)); (try replace k3 := Blk.below k3 hN (Blk.lt k3)))
    | ((go_at_call 25; (with_reducible refine (hex_any G _ (by rw [G16.out]; decide)).mono ?_); rintro e w' ⟨rfl, hN⟩); replace hb := hb.trans ((by exact hN : Below _ _ _).mono hb.size); (try replace k1 := Blk.below k1 hN (Blk.lt k1)); (try replace k2 := Blk.below k2 hN (Blk.lt k2)); (try replace k3 := Blk.below k3 hN (Blk.lt k3)))
    | ((with_reducible refine' wpList_str_eql (l := hexOf A) (m := hexOf A) (.tmp 24) _ 9 _ rfl ?_ ?_ ?_ ?_); exact rfl; exact rfl; exact X1.out; rw [dec_self])
    | ((with_reducible refine' wpList_str_eql (l := hexOf M) (m := hexOf M) (.tmp 33) _ 9 _ rfl ?_ ?_ ?_ ?_); exact rfl; exact rfl; exact X2.out; rw [dec_self])
    | ((with_reducible refine' wpList_str_eql (l := hexOf G) (m := hexOf G) (.tmp 39) _ 9 _ rfl ?_ ?_ ?_ ?_); exact rfl; exact rfl; exact X3.out; rw [dec_self])
    | (((with_reducible refine' wpList_arr_eql (l := A) (m := A) (.tmp 27) (.tmp 28) 24 _ rfl ?_ Tryd.underlying24 Tryd.underlying5 sz_u8 (by kernel_rfl) ?_ ?_ A32.out A32.out ?_); exact rfl; exact rfl; exact rfl; simp only [Act.put, List.setIfInBounds_toArray, List.set_cons_succ, List.set_cons_zero]); try rw [dec_self]))
  go_ret
  exact ⟨rfl, hb⟩
end Go.Proofs.YtomjniijnpnehaaDoor.Wi
