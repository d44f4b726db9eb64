/-
  Tro, Gtro: my texts of these names, one behind the other. Conditions: those that each law names.
-/
import Derived.Test.YtdlhkhnoigbhjaaDoorMm
import Derived.Test.YtdlhkhnoigbhjaaDoorMi
import Derived.Test.YtdlhkhnoigbhjaaDoorMe
import Derived.Test.YtdlhkhnoigbhjaaDoorMd
import Derived.Test.YtdlhkhnoigbhjaaDoorMk
import Derived.Test.YtdlhkhnoigbhjaaDoorMh
import Derived.Test.YtdlhkhnoigbhjaaDoorMa
import Derived.WalkKit
import Derived.ProofKit
import Derived.OpenShut
import Derived.ShutString
import Derived.JoinedCond
import Derived.SizedLaws
import Derived.Deep.CondSized
import Derived.Test.YtdlhkhnoigbhjaaDoorTie
import Derived.Test.YtdlhkhnoigbhjaaDoorCards
import Derived.SevenTiedAt
import Derived.Stop.Joined
import Derived.LaidMore
import Derived.WideKeyPair
namespace Go.Proofs.YtdlhkhnoigbhjaaDoor.Wi
open Go Go.RowKit Pu Lb
set_option linter.unusedSimpArgs false
set_option linter.unusedVariables false
theorem dec_selfT {α : Type} [DecidableEq α] (x : α) : decide (x = x) = true := decide_eq_true rfl
theorem few50 (v : Value) (n : Nat) (b : List UInt8) (w : World) (hv : Rd w 1 v n (bv b)) :
    Calls Tryd.prog 40 #[v, .int .i64 50] w fun e w' => ∃ v', e = .returned v' ∧ w'.ownsRow w.heap.size 5 1 v' (min n 50) (bv (b.take 50)) ∧ Below w.heap.size w w' := fewb_any v n b 50 w hv (by omega)
theorem min_le50 (n : Nat) : min n 50 ≤ 50 := Nat.min_le_right _ _
theorem tenc_pos (t : Tree) : 1 ≤ (tenc t).length := by
  obtain ⟨k, n, m, ts⟩ := t
  rw [tenc, List.length_append]
  have := encList_pos1 [k, n, m, (ts.length : Int)]
  omega
attribute [local irreducible] digOf
set_option maxRecDepth 100000 in
set_option maxHeartbeats 6400000 in
theorem law_round (l m : List Int) (cut : Int) (mo : List UInt8) (v1 v2 v3 : Value) (w : World) (hl : ∀ x ∈ l, I64 x) (hm : ∀ x ∈ m, I64 x) (hc : I64 cut) (r1 : Rd w 1 v1 l.length (iv l)) (r2 : Rd w 1 v2 m.length (iv m)) (r3 : Rd w 1 v3 mo.length (bv mo)) (hS : ShT w) (hH : TabH w) :
    Calls Tryd.prog 9 #[v1, v2, .int .i64 cut, v3] w fun e w' => e = .returned (.bool true) ∧ Below w.heap.size w w' := by
  have HCU := Lib.hid hc
  have ZL := gTree_size l
  have ZM := gTree_size m
  have IL := gTree_ints l
  have IM := gTree_ints m
  have DLX := gTree_depth l
  obtain ⟨ta, hta⟩ : ∃ t, gTree l = t := ⟨_, rfl⟩
  obtain ⟨tc, htc⟩ : ∃ t, gTree m = t := ⟨_, rfl⟩
  have C1 : ∀ w', Rd w' 1 v1 l.length (iv l) → Calls Tryd.prog 10 #[v1] w' fun e w'' => ∃ cs, e = .returned (.agg cs.toArray) ∧ IsTX (fun b => w'.heap.size ≤ b) w'' ta cs ∧ Below w'.heap.size w' w'' := fun w' h => by rw [← hta]; exact gtree0_any l hl v1 w' h
  have C2 : ∀ w', Rd w' 1 v2 m.length (iv m) → Calls Tryd.prog 10 #[v2] w' fun e w'' => ∃ cs, e = .returned (.agg cs.toArray) ∧ IsTX (fun b => w'.heap.size ≤ b) w'' tc cs ∧ Below w'.heap.size w' w'' := fun w' h => by rw [← htc]; exact gtree0_any m hm v2 w' h
  rw [hta] at ZL IL DLX
  rw [htc] at ZM IM
  clear hta htc hl hm hc
  have HIL := Lib.hid IL
  have HIM := Lib.hid IM
  have LE := tenc_len ta IL (by omega)
  have LM := tenc_len tc IM (by omega)
  have LP := tenc_pos ta
  -- what is decided about the bytes
  have RT := Lib.hid (rdT_enc ta 24 (mo.take 50) IL (by omega) (by omega))
  obtain ⟨kq, hkq⟩ : ∃ d : Nat, aroundV cut ((tenc ta).length : Int) = (d : Int) := ⟨(aroundV cut ((tenc ta).length : Int)).toNat, by have := aroundV_bd cut (most := ((tenc ta).length : Int)) (by omega); omega⟩
  have KB := aroundV_bd cut (most := ((tenc ta).length : Int)) (by omega)
  rw [hkq] at KB
  have KL : kq < (tenc ta).length := by omega
  have RP := Lib.hid (rdT_part (d := 24) IL (by omega) KL)
  obtain ⟨k, n, m', ts, rfl⟩ : ∃ k n m' ts, ta = .mk k n m' ts := by obtain ⟨k, n, m', ts⟩ := ta; exact ⟨k, n, m', ts, rfl⟩
  have TL := tsizes_len ts
  have ZT := ZL
  rw [tsize] at ZT
  have HGI := Lib.hid (show getInts (tenc (.mk k n m' ts)) = ([k, n, m', (ts.length : Int)], (encList enc [k, n, m', (ts.length : Int)]).length, 0) by
    have h := IL
    rw [tInts] at h
    rw [tenc]
    exact getInts_rt [k, n, m', (ts.length : Int)] (tencs ts) (by simp) (by
      intro x hx
      simp only [List.mem_cons, List.not_mem_nil, or_false] at hx
      rcases hx with rfl | rfl | rfl | rfl
      · exact h.1
      · exact h.2.1
      · exact h.2.2.1
      · omega))
  obtain ⟨bE, hE1, hE2⟩ : ∃ bE : Bool, decide (tenc (.mk k n m' ts) = tenc tc) = bE ∧ (tcmp (.mk k n m' ts) tc == 0) = bE := by
    by_cases he : Tree.mk k n m' ts = tc
    · subst he; exact ⟨true, decide_eq_true rfl, by rw [tcmp_self]; rfl⟩
    · exact ⟨false, decide_eq_false (fun h => he (tenc_inj IL IM (by omega) (by omega) h)), by rw [beq_eq_false_iff_ne]; exact fun h => he ((tcmp_zero _ _).1 h)⟩
  have HE1 := Lib.hid hE1
  have HE2 := Lib.hid hE2
  obtain ⟨tx, htx⟩ : ∃ t, Tree.mk k n m' ts = t := ⟨_, rfl⟩
  have HTX := Lib.hid htx
  rw [htx] at ZL IL LE LP KB KL hkq RT RP HGI hE1 hE2 HE2 C1
  obtain ⟨en, hen⟩ : ∃ en, tenc tx = en := ⟨_, rfl⟩
  have HEN := Lib.hid hen
  rw [hen] at LE LP KB KL hkq
  have HKQ := Lib.hid hkq
  have EA : ∀ (cs : List Value) w', IsT w' tx cs → Calls Tryd.prog 37 #[.agg cs.toArray] w' fun e w'' => ∃ v, e = .returned v ∧ w''.ownsRow w'.heap.size 5 1 v en.length (bv en) ∧ Below w'.heap.size w' w'' := fun cs w' h => by
    rw [← hen]; exact treeenc_any tx cs w' h IL (by omega)
  have D1 : ∀ v n w', Rd w' 1 v n (bv (en ++ mo.take 50)) → n ≤ 1099511627776 → Calls Tryd.prog 41 #[v] w' fun e w'' => ∃ cs, e = .returned (.tuple #[.agg cs.toArray, .int .i64 (en.length : Int), .int .i64 0]) ∧ IsTX (fun b => w'.heap.size ≤ b) w'' tx cs ∧ Below w'.heap.size w' w'' := fun v n w' h hn =>
    (Decode_any v n _ w' h hn).mono fun e w'' ⟨cs, u, er, h1, h2, h3⟩ => by
      have h4 := RT.out
      rw [hen] at h4
      rw [h4] at h2
      obtain ⟨g1, rfl, rfl⟩ := h2
      exact ⟨cs, h1, g1, h3⟩
  have D2 : ∀ v n w', Rd w' 1 v n (bv (en.take kq)) → n ≤ 1099511627776 → Calls Tryd.prog 41 #[v] w' fun e w'' => e = .returned (.tuple #[.agg nodz.toArray, .int .i64 0, .int .i64 2]) ∧ Below w'.heap.size w' w'' := fun v n w' h hn =>
    (Decode_any v n _ w' h hn).mono fun e w'' ⟨cs, u, er, h1, h2, h3⟩ => by
      have h4 := RP.out
      rw [hen] at h4
      rw [h4] at h2
      obtain ⟨rfl, rfl, rfl⟩ := h2
      exact ⟨h1, h3⟩
  obtain ⟨a0, ha0⟩ : ∃ a : Nat, (encList enc [k, n, m', (ts.length : Int)]).length = a := ⟨_, rfl⟩
  have G1 : ∀ v w', Rd w' 1 v en.length (bv en) → Calls Tryd.prog 43 #[v] w' fun e w'' => ∃ v', e = .returned (.tuple #[v', .int .i64 (a0 : Int), .int .i64 0]) ∧ w''.ownsRow w'.heap.size 3 1 v' 4 (iv [k, n, m', (ts.length : Int)]) ∧ Below w'.heap.size w' w'' := fun v w' h => by
    have h2 := getints_any v en.length en w' h (by omega)
    have h3 := HGI.out
    rw [hen, ha0] at h3
    rw [h3] at h2
    exact h2
  have HEA := Lib.hid EA
  have HD1 := Lib.hid D1
  have HD2 := Lib.hid D2
  have HG1 := Lib.hid G1
  have IIO := Lib.hid (inp_one 1 (s := en) (by omega))
  obtain ⟨dg, hdg⟩ : ∃ dg, digOf 1 [en] = dg := ⟨_, rfl⟩
  have HDG := Lib.hid hdg
  have DGL := Lib.hid (show dg.length = 16 by rw [← hdg, digOf_len])
  have S1 : ∀ (cs : List Value) w', IsT w' tx cs → TabH w' → Calls Tryd.prog 38 #[.agg cs.toArray] w' fun e w'' => e = .returned (.agg (bv dg).toArray) ∧ Below w'.heap.size w' w'' := fun cs w' h hh => by
    have h2 := treedig_any tx cs w' h hh IL (by omega)
    rw [hen, hdg] at h2; exact h2
  have S2 : ∀ v w', Rd w' 1 v 1 (sv [en]) → TabH w' → Calls Tryd.prog 45 #[.int .i64 1, v] w' fun e w'' => e = .returned (.agg (bv dg).toArray) ∧ Below w'.heap.size w' w'' := fun v w' h hh => by
    have h2 := of_any 1 v 1 [en] w' hh h (by decide) (by decide) IIO.out
    rw [hdg] at h2; exact h2
  have HS1 := Lib.hid S1
  have HS2 := Lib.hid S2
  rw [hen] at hE1
  have HE1' := Lib.hid hE1
  have hlen5 : (en ++ mo.take 50).length ≤ 1000000 := by rw [List.length_append, List.length_take]; omega
  clear hen EA D1 D2 G1 S1 S2 RT RP HGI hE1 HE1 hE2 IL IM hdg ha0 htx hkq DLX
  go_enter Tryd.func9, Tryd.ntmps9
  go_upto_region 2 with (first
    | ((go_at_call 10; (with_reducible refine (C1 _ r1).mono ?_); rintro e w' ⟨cs, rfl, hE, hN1⟩); have CL := Lib.hid hE.len; have CO := Lib.hid hE.isT.ones)
    | (((with_reducible refine' wpList_alloc_blk (cs := nodz) 25 rfl ?_ zr_node ?_ ?_); exact rfl; exact nodz_cells; intro w2 k2 hN2 hz2; simp only [Act.put, List.setIfInBounds_toArray, List.set_cons_succ, List.set_cons_zero]))
    | (((with_reducible refine' wpList_store_blk (cs := cs) 25 (.tmp 9) (.tmp 23) rfl ?_ ?_ ?_ k2 sz_node ?_ ?_ ?_ ?_); exact rfl; exact rfl; exact rfl; exact CL.out; exact rfl; exact CO.out; intro w3 k3 hO3 hz3; simp only [Act.put])))
  obtain ⟨A, hA⟩ : ∃ A, w'.heap.size = A := ⟨_, rfl⟩
  have hT3 : IsT w3 tx cs := ((hE.lt.below hN2).only hO3 (fun b h => by have := h.2; omega)).isT
  have hs1 := hN1.size
  have l2 := k2.lt
  have hb3 : Below w.heap.size w w3 := (hN1.trans (hN2.mono hs1)).trans (hO3.below hs1 (by omega))
  have s3 := k3.lt
  rw [hA] at k3 s3
  simp only [hA]
  have r23 := r2.below hb3
  have r33 := r3.below hb3
  have hS3 := hS.below hb3
  have hH3 := hH.below hb3
  have hAw : w.heap.size ≤ A := by omega
  clear hz2 hz3 hO3 hN2 hN1 hE k2 l2 hA r1 r2 r3 hS hH
  go_upto_region 3 with (first
    | ((go_at_call 10; (with_reducible refine (C2 _ r23).mono ?_); rintro e w' ⟨es, rfl, hE, hN4⟩); have EL := Lib.hid hE.len; have EO := Lib.hid hE.isT.ones)
    | (((with_reducible refine' wpList_alloc_blk (cs := nodz) 25 rfl ?_ zr_node ?_ ?_); exact rfl; exact nodz_cells; intro w5 k5 hN5 hz5; simp only [Act.put, List.setIfInBounds_toArray, List.set_cons_succ, List.set_cons_zero]))
    | (((with_reducible refine' wpList_store_blk (cs := es) 25 (.tmp 10) (.tmp 25) rfl ?_ ?_ ?_ k5 sz_node ?_ ?_ ?_ ?_); exact rfl; exact rfl; exact rfl; exact EL.out; exact rfl; exact EO.out; intro w6 k6 hO6 hz6; simp only [Act.put])))
  obtain ⟨B, hB⟩ : ∃ B, w'.heap.size = B := ⟨_, rfl⟩
  have hb36 : Below w3.heap.size w3 w6 := (hN4.trans (hN5.mono hN4.size)).trans (hO6.below hN4.size (Nat.le_trans hN4.size hN5.size))
  have hE6 : IsT w6 tc es := ((hE.lt.below hN5).only hO6 (fun b h => by have := h.2; omega)).isT
  have s6 := k6.lt
  have kA6 := k3.below hb36 s3
  have hT6 := hT3.below hb36
  have r36 := r33.below hb36
  have hS6 := hS3.below hb36
  have hH6 := hH3.below hb36
  have hb6 := hb3.trans (hb36.mono hb3.size)
  rw [hB] at k6 s6
  simp only [hB]
  clear hz5 hz6 hO6 hN5 hN4 hE k5 hb36 k3 hT3 r23 r33 hS3 hH3 hB C1 C2 hb3
  go_upto_region 4 with (first
    | ((with_reducible refine' wpList_loadst_blk (.tmp 9) 25 rfl ?_ Tryd.underlying25 ?_ sz_node ?_ kA6 ?_ ?_ ?_); exact rfl; exact rfl; exact rfl; exact CL.out; decide; simp only [Act.put, List.setIfInBounds_toArray, List.set_cons_succ, List.set_cons_zero])
    | ((go_at_call 37; (with_reducible refine (HEA.out cs _ hT6).mono ?_); rintro e w' ⟨vb, rfl, ob, hN7⟩)))
  obtain ⟨w7, rfl⟩ : ∃ x : World, x = w' := ⟨_, rfl⟩
  have rb := Rd.of_own ob
  have kA7 := kA6.below hN7 kA6.lt
  have kB7 := k6.below hN7 s6
  have hT7 := hT6.below hN7
  have hE7 := hE6.below hN7
  have r37 := r36.below hN7
  have hS7 := hS6.below hN7
  have hH7 := hH6.below hN7
  have hb7 := hb6.trans (hN7.mono hb6.size)
  have BO := Lib.hid (bv_one en)
  have BO5 := Lib.hid (bv_one (mo.take 50))
  have ml := min_le50 mo.length
  clear ob hN7 kA6 k6 hT6 hE6 r36 hS6 hH6 hb6 s6 s3
  go_upto_region 5 with (first
    | (((with_reducible refine' wpList_build_nil rfl ?_ Tryd.underlying49 sz_u8 ?_); exact rfl; intro v8 w8 o8 hN8; simp only [Act.put, List.setIfInBounds_toArray, List.set_cons_succ, List.set_cons_zero]); have rb8 := rb.below hN8; have s8 := hN8.size)
    | (((with_reducible refine' wpList_append_rd (.tmp 29) (.tmp 30) 49 rfl ?_ Tryd.underlying49 inf_u8 ?_ ?_ ?_ o8 ?_ rb8 BO.out ?_ ?_ s8 ?_); exact rfl; exact rfl; omega; exact rfl; exact rfl; (first | omega | (unfold maxLen; omega)); omega; intro v9 w9 o9 hN9; simp only [Act.put, List.setIfInBounds_toArray, List.set_cons_succ, List.set_cons_zero]); rw [Nat.zero_add, List.nil_append] at o9; have hb9 := hN8.trans hN9; have r39 := r37.below hb9)
    | ((go_at_call 40; (with_reducible refine (few50 _ _ mo _ r39).mono ?_); rintro e w' ⟨v10, rfl, o10, hN10⟩); have o9b := own_below o9 hN10; have r10 := Rd.of_own o10; have hb10 := hb9.trans (hN10.mono hb9.size); have s10 := hb10.size)
    | (((with_reducible refine' wpList_append_rd (.tmp 31) (.tmp 33) 49 rfl ?_ Tryd.underlying49 inf_u8 ?_ ?_ ?_ o9b ?_ r10 BO5.out ?_ ?_ s10 ?_); exact rfl; exact rfl; omega; exact rfl; exact rfl; (first | omega | (unfold maxLen; omega)); omega; intro v11 w11 o11 hN11; simp only [Act.put, List.setIfInBounds_toArray, List.set_cons_succ, List.set_cons_zero]); rw [← bv_append] at o11; have r11 := Rd.of_own o11; have hb11 := hb10.trans hN11)
    | ((go_at_call 41; (with_reducible refine (HD1.out _ _ _ r11 (by omega)).mono ?_); rintro e w' ⟨ds, rfl, hD, hN12⟩); have DL := Lib.hid hD.len; have DO := Lib.hid hD.isT.ones; have hb12 := hb11.trans (hN12.mono hb11.size))
    | (((with_reducible refine' wpList_alloc_blk (cs := nodz) 25 rfl ?_ zr_node ?_ ?_); exact rfl; exact nodz_cells; intro w13 k13 hN13 hz13; simp only [Act.put, List.setIfInBounds_toArray, List.set_cons_succ, List.set_cons_zero]))
    | (((with_reducible refine' wpList_store_blk (cs := ds) 25 (.tmp 12) (.tmp 36) rfl ?_ ?_ ?_ k13 sz_node ?_ ?_ ?_ ?_); exact rfl; exact rfl; exact rfl; exact DL.out; exact rfl; exact DO.out; intro w14 k14 hO14 hz14; simp only [Act.put])))
  obtain ⟨D, hDD⟩ : ∃ D, w'.heap.size = D := ⟨_, rfl⟩
  have hb14 : Below w7.heap.size w7 w14 := (hb12.trans (hN13.mono hb12.size)).trans (hO14.below hb12.size (Nat.le_trans hb12.size hN13.size))
  have hD14 : IsT w14 tx ds := ((hD.lt.below hN13).only hO14 (fun b h => by have := h.2; omega)).isT
  rw [hDD] at k14
  simp only [hDD]
  have s14 := k14.lt
  clear hN8 rb8 s8 o8 hN9 o9 hb9 r39 o9b r10 hN10 hb10 s10 o10 hN11 o11 r11 hb11 hN12 hD hb12 hN13 hz13 hO14 hz14 k13 hDD
  have kA14 := kA7.below hb14 kA7.lt
  have kB14 := kB7.below hb14 kB7.lt
  have hT14 := hT7.below hb14
  have hE14 := hE7.below hb14
  have rb14 := rb.below hb14
  have hS14 := hS7.below hb14
  have hH14 := hH7.below hb14
  have hb := hb7.trans (hb14.mono hb7.size)
  clear kA7 kB7 hT7 hE7 rb r37 hS7 hH7 hb7 hb14
  have TS := tcmp_self tx
  have EN0 : ((en.length : Int) == 0) = false := by rw [beq_eq_false_iff_ne]; omega
  have EN1 : decide ((en.length : Int) = 0) = false := decide_eq_false (by omega)
  have EN2 : decide (en.length = 0) = false := decide_eq_false (by omega)
  have en0 : (0 : Int) < (en.length : Int) := by omega
  have enI : I64 (en.length : Int) := by unfold I64; omega
  go_upto_region 7 with (first
    | ((with_reducible refine' wpList_len_rd (.tmp 43) 49 rfl ?_ Tryd.underlying49 ?_ rb14 ?_); exact rfl; exact rfl; simp only [Act.put, List.setIfInBounds_toArray, List.set_cons_succ, List.set_cons_zero])
    | ((with_reducible refine' wpList_loadst_blk (.tmp 9) 25 rfl ?_ Tryd.underlying25 ?_ sz_node ?_ kA14 ?_ ?_ ?_); exact rfl; exact rfl; exact rfl; exact CL.out; decide; simp only [Act.put, List.setIfInBounds_toArray, List.set_cons_succ, List.set_cons_zero]) | ((with_reducible refine' wpList_loadst_blk (.tmp 12) 25 rfl ?_ Tryd.underlying25 ?_ sz_node ?_ k14 ?_ ?_ ?_); exact rfl; exact rfl; exact rfl; exact DL.out; decide; simp only [Act.put, List.setIfInBounds_toArray, List.set_cons_succ, List.set_cons_zero])
    | ((go_at_call 19; (with_reducible refine (compare_any tx tx cs ds _ hT14 hD14).mono ?_); rintro e w' ⟨rfl, hN15⟩); rw [TS]))
  obtain ⟨w15, rfl⟩ : ∃ x : World, x = w' := ⟨_, rfl⟩
  have kA15 := kA14.below hN15 kA14.lt
  have kB15 := kB14.below hN15 kB14.lt
  have hT15 := hT14.below hN15
  have hE15 := hE14.below hN15
  have rb15 := rb14.below hN15
  have hS15 := hS14.below hN15
  have hH15 := hH14.below hN15
  have hb15 := hb.trans (hN15.mono hb.size)
  clear kA14 kB14 hT14 hE14 rb14 hS14 hH14 hb hN15 hD14 k14 s14
  go_upto_region 8 with (first
    | ((with_reducible refine' wpList_len_rd (.tmp 60) 49 rfl ?_ Tryd.underlying49 ?_ rb15 ?_); exact rfl; exact rfl; simp only [Act.put, List.setIfInBounds_toArray, List.set_cons_succ, List.set_cons_zero])
    | ((go_at_call 14; (with_reducible refine (around_any cut _ _ HCU.out en0 enI).mono ?_); rintro e w' ⟨rfl, rfl⟩); rw [HKQ.out])
    | ((with_reducible refine' wpList_to_b (.tmp 58) (.tmp 62) 49 rfl ?_ Tryd.underlying49 sz_u8 ?_ rb15 (kq) ?_ ?_ ?_); exact rfl; exact rfl; (show (_ : Int) = _; omega); omega; intro v63 r63; simp only [Act.put, List.setIfInBounds_toArray, List.set_cons_succ, List.set_cons_zero])
    | ((go_at_call 41; (with_reducible refine (HD2.out _ _ _ r63 (by omega)).mono ?_); rintro e w' ⟨rfl, hN16⟩))
    | (((with_reducible refine' wpList_alloc_blk (cs := nodz) 25 rfl ?_ zr_node ?_ ?_); exact rfl; exact nodz_cells; intro w17 k17 hN17 hz17; simp only [Act.put, List.setIfInBounds_toArray, List.set_cons_succ, List.set_cons_zero]))
    | (((with_reducible refine' wpList_store_blk (cs := nodz) 25 (.tmp 15) (.tmp 65) rfl ?_ ?_ ?_ k17 sz_node ?_ ?_ ?_ ?_); exact rfl; exact rfl; exact rfl; exact rfl; exact rfl; exact node_ones rfl; intro w18 k18 hO18 hz18; simp only [Act.put])))
  have hb18 : Below w15.heap.size w15 w18 := (hN16.trans (hN17.mono hN16.size)).trans (hO18.below hN16.size (Nat.le_trans hN16.size hN17.size))
  have kA18 := kA15.below hb18 kA15.lt
  have kB18 := kB15.below hb18 kB15.lt
  have hT18 := hT15.below hb18
  have hE18 := hE15.below hb18
  have rb18 := rb15.below hb18
  have hS18 := hS15.below hb18
  have hH18 := hH15.below hb18
  have hb1 := hb15.trans (hb18.mono hb15.size)
  clear kA15 kB15 hT15 hE15 rb15 hS15 hH15 hb15 hN16 hN17 hz17 hO18 hz18 k17 k18 hb18 r63
  go_upto_region 9 with (first
    | ((go_at_call 43; (with_reducible refine (HG1.out _ _ rb18).mono ?_); rintro e w' ⟨vg, rfl, og, hN19⟩)))
  obtain ⟨w19, rfl⟩ : ∃ x : World, x = w' := ⟨_, rfl⟩
  have kA := kA18.below hN19 kA18.lt
  have kB := kB18.below hN19 kB18.lt
  have hT := hT18.below hN19
  have hE := hE18.below hN19
  have rb := rb18.below hN19
  have hS := hS18.below hN19
  have hH := hH18.below hN19
  have hb := hb1.trans (hN19.mono hb1.size)
  have rg := Rd.of_own og
  clear kA18 kB18 hT18 hE18 rb18 hS18 hH18 hb1 hN19 og
  have hd : Below w19.heap.size w19 w19.drew := (Below.refl _ _).drew
  have CA : ∀ w', Below w19.heap.size w19 w' → Blk w' A 25 cs := fun w' h => kA.below h kA.lt
  have CB : ∀ w', Below w19.heap.size w19 w' → Blk w' B 25 es := fun w' h => kB.below h kB.lt
  have HYE := Lib.hid (fun w' h => treeenc_any tc es w' h HIM.out (by omega))
  (refine wp_region_plan (fun w' => Below w19.heap.size w19 w') (.f 0 (.f 1 (.f 4 (.f 5 (.o 2 (.o 3 (.o 6 (.o 7 (.o 8 .tail))))))))) 9 (by kernel_rfl) (by kernel_rfl) (hd) ?_)
  (repeat (refine wpPlan_f rfl ?_; (first | ((with_reducible refine' wpQuietH_loadst_blk (.tmp 10) 25 rfl ?_ Tryd.underlying25 ?_ sz_node ?_ (CB) ?_ ?_ ?_); exact rfl; exact rfl; exact rfl; exact EL.out; decide; simp only [Act.put, List.setIfInBounds_toArray, List.set_cons_succ, List.set_cons_zero]) | ((with_reducible refine' wpQuietH_loadst_blk (.tmp 9) 25 rfl ?_ Tryd.underlying25 ?_ sz_node ?_ (CA) ?_ ?_ ?_); exact rfl; exact rfl; exact rfl; exact CL.out; decide; simp only [Act.put, List.setIfInBounds_toArray, List.set_cons_succ, List.set_cons_zero]) | go_big_quiet_step (fail) | (go_big_quiet_want; go_big_quiet_op; refine ⟨_, fun _ _ => rfl, ?_⟩; go_big_quiet_on)); refine wpQuiet_nil ?_))
  have hEd := hE.below hd
  refine wpPlan_o rfl ?_
  go_wp2_with ((go_at_call 37; (with_reducible refine (HYE.out _ hEd).mono ?_); rintro e w' ⟨vy, rfl, oy, hN20⟩))
  have hc20 := hd.trans hN20
  have ry := Rd.of_own oy
  have rb20 := rb.below hc20
  refine ⟨rfl, hc20, ?_⟩
  refine wpPlan_o rfl ?_
  go_wp2_with ((go_at_call 36; (with_reducible refine (same_any _ _ _ _ en (tenc tc) _ rb20 ry).mono ?_); rintro e w' ⟨rfl, nq, rfl⟩); rw [HE1'.out])
  have hc21 := below_drewN hc20 nq
  refine ⟨rfl, hc21, ?_⟩
  refine wpPlan_o rfl ?_
  have hT21 := hT.below hc21
  have hE21 := hE.below hc21
  go_wp2_with ((go_at_call 19; (with_reducible refine (compare_any tx tc cs es _ hT21 hE21).mono ?_); rintro e w' ⟨rfl, hN22⟩))
  have hc22 := hc21.trans (hN22.mono hc21.size)
  refine ⟨rfl, hc22, ?_⟩
  have CE1 : (tcmp tx tc == 0) = bE := HE2.out
  have CE2 : decide (tcmp tx tc = 0) = bE := by
    rw [← CE1]
    by_cases h : tcmp tx tc = 0
    · rw [decide_eq_true h]; exact (beq_iff_eq.2 h).symm
    · rw [decide_eq_false h]; exact (beq_eq_false_iff_ne.2 h).symm
  have BB : (bE == bE) = true := by simp
  refine wpPlan_o rfl ?_
  go_wp2_with fail
  refine ⟨rfl, hc22, ?_⟩
  refine wpPlan_o rfl ?_
  go_wp2_with fail
  refine ⟨rfl, hc22, ?_⟩
  refine wpPlan_tail ?_
  go_wp2_with fail
  refine onlyN ?_
  obtain ⟨wz, rfl⟩ : ∃ x : World, x = w' := ⟨_, rfl⟩
  have kAz := kA.below hc22 kA.lt
  have hTz := hT.below hc22
  have rbz := rb.below hc22
  have rgz := rg.below hc22
  have hSz := hS.below hc22
  have hHz := hH.below hc22
  have hbz := hb.trans (hc22.mono hb.size)
  clear kA kB hT hE rb rg hS hH hb hd CA CB hEd hc20 hc21 hc22 hN20 hN22 ry rb20 oy hT21 hE21
  have hOpen := hTz
  rw [← HTX.out, IsT] at hOpen
  obtain ⟨vk, xs, rfl, hrk, _⟩ := hOpen
  have X0 := Lib.hid (show ([.int .i64 k, .int .i64 n, .int .i64 m', vk] : List Value)[0]? = some (.int .i64 k) from rfl)
  have X1 := Lib.hid (show ([.int .i64 k, .int .i64 n, .int .i64 m', vk] : List Value)[1]? = some (.int .i64 n) from rfl)
  have X2 := Lib.hid (show ([.int .i64 k, .int .i64 n, .int .i64 m', vk] : List Value)[2]? = some (.int .i64 m') from rfl)
  have X3 := Lib.hid (show ([.int .i64 k, .int .i64 n, .int .i64 m', vk] : List Value)[3]? = some vk from rfl)
  have hd : Below wz.heap.size wz wz.drew := (Below.refl _ _).drew
  have CA : ∀ w', Below wz.heap.size wz w' → Blk w' A 25 _ := fun w' h => kAz.below h kAz.lt
  go_upto_region 10 with fail
  (refine wp_region_plan (fun w' => Below wz.heap.size wz w') (.f 0 (.f 1 (.f 2 (.f 3 (.f 4 (.f 5 (.f 6 (.f 7 (.f 8 (.f 9 (.f 10 (.f 11 (.f 12 (.f 13 (.f 14 (.f 15 (.f 16 (.o 17 (.o 18 (.f 19 (.f 20 (.f 21 (.f 22 (.f 23 (.f 24 (.f 26 (.f 27 (.two 25 28 (.o 28 (.o 29 (.o 30 (.f 31 (.f 32 (.o 33 (.f 34 .tail))))))) (.o 25 (.o 29 (.o 30 (.f 31 (.f 32 (.o 33 (.f 34 .tail))))))))))))))))))))))))))))))))))) 35 (by kernel_rfl) (by kernel_rfl) (hd) ?_)
  (repeat (refine wpPlan_f rfl ?_; (first | ((with_reducible refine' wpQuietM_field (k := 0) (j := 0) (.tmp 9) 25 0 rfl ?_ fo_node_0 ?_ rfl ?_); exact rfl; rotate_left; exact rfl; simp only [Act.put, List.setIfInBounds_toArray, List.set_cons_succ, List.set_cons_zero]) | ((with_reducible refine' wpQuietH_load_blk (.tmp 91) 3 rfl ?_ ld_int ?_ (CA) (X0.out) ?_); exact rfl; exact rfl; simp only [Act.put, List.setIfInBounds_toArray, List.set_cons_succ, List.set_cons_zero]) | ((with_reducible refine' wpQuietM_field (k := 0) (j := 1) (.tmp 9) 25 1 rfl ?_ fo_node_1 ?_ rfl ?_); exact rfl; rotate_left; exact rfl; simp only [Act.put, List.setIfInBounds_toArray, List.set_cons_succ, List.set_cons_zero]) | ((with_reducible refine' wpQuietH_load_blk (.tmp 93) 3 rfl ?_ ld_int ?_ (CA) (X1.out) ?_); exact rfl; exact rfl; simp only [Act.put, List.setIfInBounds_toArray, List.set_cons_succ, List.set_cons_zero]) | ((with_reducible refine' wpQuietM_field (k := 0) (j := 2) (.tmp 9) 25 2 rfl ?_ fo_node_2 ?_ rfl ?_); exact rfl; rotate_left; exact rfl; simp only [Act.put, List.setIfInBounds_toArray, List.set_cons_succ, List.set_cons_zero]) | ((with_reducible refine' wpQuietH_load_blk (.tmp 95) 3 rfl ?_ ld_int ?_ (CA) (X2.out) ?_); exact rfl; exact rfl; simp only [Act.put, List.setIfInBounds_toArray, List.set_cons_succ, List.set_cons_zero]) | ((with_reducible refine' wpQuietM_field (k := 0) (j := 3) (.tmp 9) 25 3 rfl ?_ fo_node_3 ?_ rfl ?_); exact rfl; rotate_left; exact rfl; simp only [Act.put, List.setIfInBounds_toArray, List.set_cons_succ, List.set_cons_zero]) | ((with_reducible refine' wpQuietH_load_blk (.tmp 97) 23 rfl ?_ ld_nds ?_ (CA) (X3.out) ?_); exact rfl; exact rfl; simp only [Act.put, List.setIfInBounds_toArray, List.set_cons_succ, List.set_cons_zero]) | ((with_reducible refine' wpQuiet_len_rd (.tmp 98) 23 rfl ?_ Tryd.underlying23 ?_ hrk ?_); exact rfl; exact rfl; simp only [Act.put, List.setIfInBounds_toArray, List.set_cons_succ, List.set_cons_zero]) | go_big_quiet_step (fail) | (go_big_quiet_want; go_big_quiet_op; refine ⟨_, fun _ _ => rfl, ?_⟩; go_big_quiet_on)); refine wpQuiet_nil ?_))
  refine wpPlan_o rfl ?_
  go_wp2_with (((with_reducible refine' wpList_build_cs (cs := iv [k, n, m', (ts.length : Int)]) rfl ?_ Tryd.underlying22 inf_int ?_ ?_ ?_ ?_ ?_ ?_); exact rfl; exact rfl; omega; omega; exact rfl; exact iv_ones _; intro v23 w23 r23 hN23; simp only [Act.put, List.setIfInBounds_toArray, List.set_cons_succ, List.set_cons_zero]))
  have hc23 := hd.trans hN23
  refine ⟨rfl, hc23, ?_⟩
  refine wpPlan_o rfl ?_
  have rg23 := rgz.below hc23
  go_wp2_with ((go_at_call 44; (with_reducible refine (sameints_any _ _ _ _ [k, n, m', (ts.length : Int)] [k, n, m', (ts.length : Int)] _ rg23 r23).mono ?_); rintro e w' ⟨rfl, nq2, rfl⟩); rw [dec_selfT])
  have hc24 := below_drewN hc23 nq2
  refine ⟨rfl, hc24, ?_⟩
  (repeat (refine wpPlan_f rfl ?_; (first | ((with_reducible refine' wpQuietH_loadst_blk (.tmp 9) 25 rfl ?_ Tryd.underlying25 ?_ sz_node ?_ (CA) ?_ ?_ ?_); exact rfl; exact rfl; exact rfl; exact CL.out; decide; simp only [Act.put, List.setIfInBounds_toArray, List.set_cons_succ, List.set_cons_zero]) | ((with_reducible refine' wpQuietC_str (cov_below _) (.tmp 109) 49 9 rfl ?_ Tryd.underlying49 Tryd.underlying5 Tryd.underlying9 ?_ rbz ?_); exact rfl; exact rfl; simp only [Act.put, List.setIfInBounds_toArray, List.set_cons_succ, List.set_cons_zero]) | go_big_quiet_step (fail) | (go_big_quiet_want; go_big_quiet_op; refine ⟨_, fun _ _ => rfl, ?_⟩; go_big_quiet_on)); refine wpQuiet_nil ?_))
  have hT24 := hTz.below hc24
  have hH24 := hHz.below hc24
  refine wpPlan_two rfl rfl ?_ ?_
  · go_wp2_with ((go_at_call 38; (with_reducible refine (HS1.out _ _ hT24 hH24).mono ?_); rintro e w' ⟨rfl, hN25⟩))
    have hc25 := hc24.trans (hN25.mono hc24.size)
    refine ⟨rfl, hc25, ?_⟩
    refine wpPlan_o rfl ?_
    go_wp2_with (((with_reducible refine' wpList_build_ownH (u := .string ⟨en.toArray⟩) (.tmp 110) 81 rfl ?_ Tryd.underlying81 inf_str ?_ ?_ ?_); exact rfl; exact rfl; exact rfl; intro v26 w26 o26 hN26 hz26; simp only [Act.put, List.setIfInBounds_toArray, List.set_cons_succ, List.set_cons_zero]))
    have hc26 := hc25.trans (hN26.mono hc25.size)
    have r26 : Rd w26 1 v26 1 (sv [en]) := Rd.of_own o26
    have hH26 := hHz.below hc26
    refine ⟨rfl, hc26, ?_⟩
    refine wpPlan_o rfl ?_
    go_wp2_with ((go_at_call 45; (with_reducible refine (HS2.out _ _ r26 hH26).mono ?_); rintro e w' ⟨rfl, hN27⟩))
    have hc27 := hc26.trans (hN27.mono hc26.size)
    refine ⟨rfl, hc27, ?_⟩
    refine wpPlan_o rfl ?_
    go_wp2_with (((with_reducible refine' wpList_arr_eql (l := dg) (m := dg) (.tmp 108) (.tmp 112) 53 _ rfl ?_ Tryd.underlying53 Tryd.underlying5 sz_u8 (by kernel_rfl) ?_ ?_ DGL.out DGL.out ?_); exact rfl; exact rfl; exact rfl; simp only [Act.put, List.setIfInBounds_toArray, List.set_cons_succ, List.set_cons_zero]); try rw [dec_selfT])
    refine ⟨rfl, hc27, ?_⟩
    (repeat (refine wpPlan_f rfl ?_; (first | fail | go_big_quiet_step (fail) | (go_big_quiet_want; go_big_quiet_op; refine ⟨_, fun _ _ => rfl, ?_⟩; go_big_quiet_on)); refine wpQuiet_nil ?_))
    refine wpPlan_o rfl ?_
    have hS27 := hSz.below hc27
    go_wp2_with ((go_at_call 21; (with_reducible refine (lives_any _ hS27).mono ?_); rintro e w' ⟨rfl, hN28⟩))
    have hc28 := hc27.trans (hN28.mono hc27.size)
    refine ⟨rfl, hc28, ?_⟩
    (repeat (refine wpPlan_f rfl ?_; (first | fail | go_big_quiet_step (fail) | (go_big_quiet_want; go_big_quiet_op; refine ⟨_, fun _ _ => rfl, ?_⟩; go_big_quiet_on)); refine wpQuiet_nil ?_))
    refine wpPlan_tail ?_
    go_wp2_with fail
    refine onlyN ?_
    go_wp2_with fail
    go_ret
    exact ⟨rfl, hbz.trans (hc28.mono hbz.size)⟩
  · go_wp2_with (((with_reducible refine' wpList_build_ownH (u := .string ⟨en.toArray⟩) (.tmp 110) 81 rfl ?_ Tryd.underlying81 inf_str ?_ ?_ ?_); exact rfl; exact rfl; exact rfl; intro v26 w26 o26 hN26 hz26; simp only [Act.put, List.setIfInBounds_toArray, List.set_cons_succ, List.set_cons_zero]))
    have hc26 := hc24.trans (hN26.mono hc24.size)
    have r26 : Rd w26 1 v26 1 (sv [en]) := Rd.of_own o26
    have hT26 := hTz.below hc26
    have hH26 := hHz.below hc26
    refine ⟨rfl, hc26, ?_⟩
    refine wpPlan_o rfl ?_
    go_wp2_with ((go_at_call 38; (with_reducible refine (HS1.out _ _ hT26 hH26).mono ?_); rintro e w' ⟨rfl, hN25⟩))
    have hc25 := hc26.trans (hN25.mono hc26.size)
    have r27 := r26.below hN25
    have hH27 := hHz.below hc25
    refine ⟨rfl, hc25, ?_⟩
    refine wpPlan_o rfl ?_
    go_wp2_with ((go_at_call 45; (with_reducible refine (HS2.out _ _ r27 hH27).mono ?_); rintro e w' ⟨rfl, hN27⟩))
    have hc27 := hc25.trans (hN27.mono hc25.size)
    refine ⟨rfl, hc27, ?_⟩
    refine wpPlan_o rfl ?_
    go_wp2_with (((with_reducible refine' wpList_arr_eql (l := dg) (m := dg) (.tmp 108) (.tmp 112) 53 _ rfl ?_ Tryd.underlying53 Tryd.underlying5 sz_u8 (by kernel_rfl) ?_ ?_ DGL.out DGL.out ?_); exact rfl; exact rfl; exact rfl; simp only [Act.put, List.setIfInBounds_toArray, List.set_cons_succ, List.set_cons_zero]); try rw [dec_selfT])
    refine ⟨rfl, hc27, ?_⟩
    (repeat (refine wpPlan_f rfl ?_; (first | fail | go_big_quiet_step (fail) | (go_big_quiet_want; go_big_quiet_op; refine ⟨_, fun _ _ => rfl, ?_⟩; go_big_quiet_on)); refine wpQuiet_nil ?_))
    refine wpPlan_o rfl ?_
    have hS27 := hSz.below hc27
    go_wp2_with ((go_at_call 21; (with_reducible refine (lives_any _ hS27).mono ?_); rintro e w' ⟨rfl, hN28⟩))
    have hc28 := hc27.trans (hN28.mono hc27.size)
    refine ⟨rfl, hc28, ?_⟩
    (repeat (refine wpPlan_f rfl ?_; (first | fail | go_big_quiet_step (fail) | (go_big_quiet_want; go_big_quiet_op; refine ⟨_, fun _ _ => rfl, ?_⟩; go_big_quiet_on)); refine wpQuiet_nil ?_))
    refine wpPlan_tail ?_
    go_wp2_with fail
    refine onlyN ?_
    go_wp2_with fail
    go_ret
    exact ⟨rfl, hbz.trans (hc28.mono hbz.size)⟩
end Go.Proofs.YtdlhkhnoigbhjaaDoor.Wi
namespace Go.Proofs.YtdlhkhnoigbhjaaDoor.treeRound
open Go.ChangeShapes Go.WideShapes Go.ChangeAt Go.RowKit
open Go.Proofs.YtdlhkhnoigbhjaaDoor.Wi Go.Proofs.YtdlhkhnoigbhjaaDoor.Pu Go.Proofs.YtdlhkhnoigbhjaaDoor.Lb
set_option linter.unusedVariables false

theorem own : ownKnob Tryd.prog.godebug = none := by kernel_rfl
theorem laidOut : laidOutB Tryd.prog = true := by kernel_rfl

set_option maxRecDepth 100000 in
theorem lifted (os : Os) (started : os.Started) (H : Type) (enc : TypeId × Value → H) :
    ReturnsInHanded {} Tryd.checked os 9 .any (fun w args => (Rows.treeRoundSpec.pre enc Tryd.prog Tryd.f9 [] false w args ∧ laidMetH Tryd.prog lTR w) ∧ sizedMet enc Tryd.prog Tryd.f9 (OpenSpec.ofChange Rows.treeRoundSpec) false w args) (Rows.treeRoundSpec.post enc Tryd.prog Tryd.f9 false true false false) := by
  refine returnsInHanded_of_change_and (C := Tryd.checked) (X := fun w _ => laidMetH Tryd.prog lTR w) (fun _ _ _ hh h => h.of_heap hh) own started (by kernel_rfl) Tryd.func9
    (ChangeSpec.witness_shaped (enc := enc) (C := Tryd.checked) (os := os) (X := fun w _ => laidMetH Tryd.prog lTR w) false (World.doorLaid Tryd.prog 4000 os) #[.slice none 0 0, .slice none 0 0, .int .i64 0, .slice none 0 0] 8 rfl (World.shaped_of_RefB (by kernel_rfl) (by kernel_rfl)) (by kernel_rfl) (by kernel_rfl) (by kernel_rfl) (doorTR os _)) ?_
  intro W base args ds gs before hval0 hW hcnd hk hL _
  have hT := roundT_of hL
  have hval : ∀ (j : Nat) t v, Tryd.f9.params[j]? = some t → args[j]? = some v → Value.okWide Tryd.prog W .any base t v := hval0
  have hW' := hW
  obtain ⟨p, q, hA0, hV, rfl, hfz, hnd⟩ := hW
  have hA : DataW.TrodAll enc Tryd.prog W 0 (fun _ => true) true Tryd.f9.params.toList args.toList ds p := hA0
  rw [Tryd.params9] at hA hval
  obtain ⟨v0, vs0, d0, ds0, p0, q0, hargs, rfl, rfl, h0, t0⟩ := trodAll_cons hA
  obtain ⟨v1, vs1, d1, ds1, p1, q1, rfl, rfl, rfl, h1, t1⟩ := trodAll_cons t0
  obtain ⟨v2, vs2, d2, ds2, p2, q2, rfl, rfl, rfl, h2, t2⟩ := trodAll_cons t1
  obtain ⟨v3, vs3, d3, ds3, p3, q3, rfl, rfl, rfl, h3, t3⟩ := trodAll_cons t2
  obtain ⟨rfl, rfl, rfl⟩ := trodAll_nil t3
  obtain rfl : args = #[v0, v1, v2, v3] := by cases args; simp_all
  obtain ⟨rfl, rfl⟩ := trodVars_none hV
  clear hA0 hval0
  have b0 : ∀ x ∈ p0, x.block < W.heap.size := by obtain ⟨m, hm⟩ := h0; exact DataW.trod_lt m _ _ _ hm
  have k0 := h0
  have b1 : ∀ x ∈ p1, x.block < W.heap.size := by obtain ⟨m, hm⟩ := h1; exact DataW.trod_lt m _ _ _ hm
  have k1 := h1
  have b2 : ∀ x ∈ p2, x.block < W.heap.size := by obtain ⟨m, hm⟩ := h2; exact DataW.trod_lt m _ _ _ hm
  have k2 := h2
  have b3 : ∀ x ∈ p3, x.block < W.heap.size := by obtain ⟨m, hm⟩ := h3; exact DataW.trod_lt m _ _ _ hm
  have k3 := h3
  obtain ⟨l0, ok0, r0, e0⟩ := op_ints Tryd.underlying22 Tryd.underlying3 (by kernel_rfl) (hval 0 22 v0 rfl rfl) h0
  have n0 := sized_elems hk (j := 0) rfl rfl Tryd.underlying22 e0 (b := 8) (by kernel_rfl)
  obtain ⟨l1, ok1, r1, e1⟩ := op_ints Tryd.underlying22 Tryd.underlying3 (by kernel_rfl) (hval 1 22 v1 rfl rfl) h1
  have n1 := sized_elems hk (j := 1) rfl rfl Tryd.underlying22 e1 (b := 8) (by kernel_rfl)
  obtain ⟨z2, rfl, wf2⟩ := op_int Tryd.underlying3 (hval 2 3 v2 rfl rfl) h2
  obtain ⟨l3, r3, e3⟩ := op_bytes Tryd.underlying49 Tryd.underlying5 (by kernel_rfl) (hval 3 49 v3 rfl rfl) h3
  have n3 := sized_elems hk (j := 3) rfl rfl Tryd.underlying49 e3 (b := 1) (by kernel_rfl)
  have walk : Calls Tryd.prog 9 #[v0, v1, .int .i64 z2, v3] W fun e w' => e = .returned (.bool true) ∧ Below W.heap.size W w' := by
    exact law_round l0 l1 z2 l3 v0 v1 v3 W ok0 ok1 (wf_i64 wf2) r0 r1 r3 hT.1.sht hT.2
  refine walk.mono fun e W' ⟨he, bel⟩ => ?_
  subst he
  exact ⟨_, rfl, _, _, _, [], _, [], hW', trodAll_mk1 (shut_bool Tryd.underlying4 _), (trodAll_cons_mk (Below.trod laidOut (by kernel_rfl) (of_decide_eq_true (by kernel_rfl)) k0 bel b0) (trodAll_cons_mk (Below.trod laidOut (by kernel_rfl) (of_decide_eq_true (by kernel_rfl)) k1 bel b1) (trodAll_cons_mk (Below.trod laidOut (by kernel_rfl) (of_decide_eq_true (by kernel_rfl)) k2 bel b2) (trodAll_cons_mk (Below.trod laidOut (by kernel_rfl) (of_decide_eq_true (by kernel_rfl)) k3 bel b3) trodAll_mk0)))), rfl, bel.frame _, fun h => by cases h⟩

theorem over : Rows.treeRoundRow.holds Tryd.pinned (OpenSpec.ofChange Rows.treeRoundSpec) :=
  OpenClaim.holds_of_wide 9 Tryd.f9 rfl rfl rfl rfl rfl rfl rfl ⟨rfl, rfl, rfl, rfl, rfl⟩ rfl rfl rfl rfl rfl (by kernel_rfl) Tryd.func9 (by kernel_rfl)
    (of_decide_eq_true (by kernel_rfl)) (by unfold Func.isWrapper; first | (rw [if_pos (by decide +kernel)]; kernel_rfl) | (rw [if_neg (by decide +kernel)]; exact ⟨rfl, rfl⟩))
    (fun os started H enc _ => lifted os started H enc)

theorem proved : Rows.TreeRoundCardSaid :=
  Claim7.holds_tied_plain_at .later [] [.data, .widerDeep] true (true, _) false
    over (fun _ h => by cases h) (by kernel_rfl) (fun _ h => by cases h) treeRound_row_tie rfl ⟨rfl, rfl⟩ (by kernel_rfl) rfl
    (fun f fn hf hfn => by
      obtain rfl : f = 9 := Option.some.inj ((show Tryd.prog.funcNamed "scoria/scorialaw05.TreeRound" = some 9 by kernel_rfl).symm.trans hf) |>.symm
      obtain rfl : fn = Tryd.f9 := (Option.some.inj (Tryd.func9.symm.trans hfn)).symm
      exact ⟨by kernel_rfl, fun j t ht => by
        rw [Tryd.params9] at ht
        have hm : t ∈ [22, 22, 3, 49] := by simpa using Array.mem_of_getElem? ht
        have hall : ([22, 22, 3, 49].all fun u => !Tryd.prog.wantsStandIn u) = true := by kernel_rfl
        exact (show Tryd.prog.wantsStandIn t = false by simpa using List.all_eq_true.1 hall t hm)⟩)
    (by kernel_rfl)
#print axioms proved
end Go.Proofs.YtdlhkhnoigbhjaaDoor.treeRound
