/-
  Sr, Su, Sw, Sx: my texts of these names, one behind the other. Conditions: those that each law names.
-/
import Derived.Test.YtajglgkjpagcjaaDoorMi
namespace Go.Proofs.YtajglgkjpagcjaaDoor.Wi
open Go Go.RowKit Pu Lb
set_option linter.unusedSimpArgs false
set_option linter.unusedVariables false
theorem leaf_node (seed : List UInt8) (k : Nat) : leafAt seed k = nodeAt seed 0 k := rfl
theorem node_up (seed : List UInt8) (l q : Nat) : nodeD (nodeAt seed l (2 * q)) (nodeAt seed l (2 * q + 1)) = nodeAt seed (l + 1) q := rfl
attribute [local irreducible] comp sched comps sha outS mac digOf encInts adv startV nodeAt pt16
theorem inf_digl : (Tryd.prog.info? 48).map (fun i => (i.zero, i.size, i.bytes)) = some (some (.slice none 0 0), 1, 24) := by kernel_rfl
theorem sz_digl : (Tryd.prog.info? 48).map (·.size) = some 1 := by kernel_rfl
theorem ld_digl (ad : Addr) (u : Value) (w : World) (h : w.cell? ad = some u) : (loadVar 48 ad).run Tryd.prog w = .ok u w := load_one _ _ Tryd.underlying48 rfl ad u w h
theorem own_ne_own {w : World} {B B' : Nat} {e e' : TypeId} {s s' : Nat} {v v' : Value} {n n' : Nat} {xs xs' : List Value} (h : w.ownsRow B e s v n xs) (h' : w.ownsRow B' e' s' v' n' xs') (hne : e ≠ e') : v.ownBlock = none ∨ v.ownBlock ≠ v'.ownBlock := by
  rcases h.2 with ⟨rfl, _⟩ | ⟨g, cap, cur, rfl, _, hg, _⟩
  · left; simp [Value.ownBlock]
  · right
    rcases h'.2 with ⟨rfl, _⟩ | ⟨g', cap', cur', rfl, _, hg', _⟩
    · simp [Value.ownBlock]
    · simp only [Value.ownBlock]
      intro e
      cases e
      rw [hg] at hg'
      simp at hg'
      exact hne hg'.2
/-- a slice of the nodes of a level -/
def Lv (w : World) (u : Value) (seed : List UInt8) (i n : Nat) : Prop := w.ownsRow 0 23 16 u n (bv (vals (nodeAt seed i) n))
/-- the levels up to j -/
def LvAll (w : World) (vs : List Value) (seed : List UInt8) (h j : Nat) : Prop := vs.length = j + 1 ∧ ∀ i, i ≤ j → ∃ u, vs[i]? = some u ∧ Lv w u seed i (2 ^ (h - i))
theorem LvAll.below {w w' : World} {vs : List Value} {seed : List UInt8} {h j : Nat} (hl : LvAll w vs seed h j) (hb : Below w.heap.size w w') : LvAll w' vs seed h j :=
  ⟨hl.1, fun i hi => by obtain ⟨u, h1, h2⟩ := hl.2 i hi; exact ⟨u, h1, own_below h2 hb⟩⟩
theorem LvAll.snoc {w w' : World} {vs : List Value} {seed : List UInt8} {h j : Nat} {o u : Value} {n : Nat} {B : Nat} (hl : LvAll w vs seed h j) (ho : w.ownsRow B 48 1 o n vs) (hg : w.grownBy w' o.ownBlock) (hu : Lv w u seed (j + 1) (2 ^ (h - (j + 1)))) : LvAll w' (vs ++ [u]) seed h (j + 1) := by
  have key : ∀ {v : Value} {i k : Nat}, Lv w v seed i k → Lv w' v seed i k := fun hv => hv.kept hg (own_ne_own hv ho (by decide))
  refine ⟨by rw [List.length_append, hl.1]; rfl, fun i hi => ?_⟩
  by_cases hij : i ≤ j
  · obtain ⟨v, h1, h2⟩ := hl.2 i hij
    exact ⟨v, by rw [List.getElem?_append_left (List.getElem?_eq_some_iff.1 h1).1]; exact h1, key h2⟩
  · obtain rfl : i = j + 1 := by omega
    exact ⟨u, by rw [List.getElem?_append_right (by rw [hl.1]; omega), hl.1]; simp, key hu⟩
theorem own_of_blk {w : World} {B : Nat} {e : TypeId} {cs : List Value} {n : Nat} (h : Blk w B e cs) (hn : cs.length = n) (hm : n ≤ maxLen) : w.ownsRow B e 1 (.slice (some ⟨B, 0, none⟩) n n) n cs :=
  ⟨by omega, .inr ⟨B, n, cs.toArray, rfl, Nat.le_refl _, h, Nat.le_refl _, hm, by simp [hn], by simp [← hn]⟩⟩
theorem pow_half {h j : Nat} (hj : j < h) : 2 ^ (h - j) = 2 * 2 ^ (h - (j + 1)) := by
  rw [show h - j = (h - (j + 1)) + 1 by omega, Nat.pow_succ]; omega
theorem bv_vals_succ (f : Nat → List UInt8) (n : Nat) : bv (vals f n) ++ bv (f n) = bv (vals f (n + 1)) := by rw [vals_succ, ← bv_append]

set_option maxRecDepth 100000 in
set_option maxHeartbeats 400000 in
theorem levels_any (seed : List UInt8) (h : Nat) (w : World) (hT : TabR w) (hs : seed.length ≤ 1000000) (hh : h ≤ 6) :
    Calls Tryd.prog 24 #[.string ⟨seed.toArray⟩, .int .i64 (h : Int)] w fun e w' => ∃ v vs, e = .returned v ∧ Rd w' 1 v (h + 1) vs ∧ LvAll w' vs seed h h ∧ Below w.heap.size w w' := by
  have hpw := wrap_pow hh
  have hp6 : 2 ^ h ≤ 2 ^ 6 := Nat.pow_le_pow_right (by decide) hh
  obtain ⟨K, hK⟩ : ∃ K : Nat, 2 ^ h = K := ⟨_, rfl⟩
  have HK := Lib.hid hK
  rw [hK] at hpw hp6
  have hK64 : K ≤ 64 := hp6
  clear hp6 hK
  go_enter Tryd.func24, Tryd.ntmps24
  go_wp2_with fail
  go_loopw [6, 5] (fun c o wr => ∃ i : Nat, i ≤ K ∧ c = .int .i64 (i : Int) ∧ wr.ownsRow w.heap.size 23 16 o i (bv (vals (nodeAt seed 0) i)) ∧ Below w.heap.size w wr) (fun c _ _ => K - (intOf c).toNat)
  case atStart => exact ⟨0, by omega, rfl, World.ownsRow_nil _ _ _ _, Below.refl _ _⟩
  case round =>
    obtain ⟨i, hi, rfl, hown, hb⟩ := hrel
    have HO := Lib.hid hown
    clear hown
    by_cases hlt : i < K
    · obtain ⟨wo, rfl⟩ : ∃ wo : World, wo = wr := ⟨_, rfl⟩
      have hTo := hT.below hb
      have N16 := Lib.hid (show (bv (nodeAt seed 0 i)).length = 16 by rw [bv_length, nodeAt_len])
      have LN := Lib.hid (leaf_node seed i)
      have hone := bv_one (nodeAt seed 0 i)
      go_wp2_with (first
        | ((go_at_call 46; (with_reducible refine (refleaf_any seed i _ hTo hs (by omega)).mono ?_); rintro e w' ⟨rfl, hN⟩); rw [LN.out])
        | (((with_reducible refine' wpList_build_one (cs := bv (nodeAt seed 0 i)) (.tmp 20) 48 rfl ?_ Tryd.underlying48 inf_dig ?_ ?_ ?_ ?_ ?_ ?_); exact rfl; exact rfl; omega; omega; exact rfl; exact N16.out; intro v2 w2 hr2 hN2 hz2; simp only [Act.put, List.setIfInBounds_toArray, List.set_cons_succ, List.set_cons_zero]); have hb2 := hN.trans (hN2.mono hN.size))
        | ((with_reducible refine' wpList_append_rd (.tmp 17) (.tmp 21) 48 rfl ?_ Tryd.underlying48 inf_dig ?_ ?_ ?_ (own_below HO.out hb2) ?_ hr2 hone ?_ ?_ (Nat.le_trans hb.size hb2.size) ?_); exact rfl; exact rfl; omega; exact rfl; exact rfl; (first | omega | (unfold maxLen; omega)); omega; intro v3 w3 ho3 hb3; simp only [Act.put, List.setIfInBounds_toArray, List.set_cons_succ, List.set_cons_zero]))
      rw [bv_vals_succ] at ho3
      go_roundw
      case rel => exact ⟨i + 1, by omega, by go_num, ho3, (hb.trans (hb2.mono hb.size)).trans hb3⟩
      case measure => simp [intOf]; omega
    · obtain rfl : i = K := by omega
      have L0 : Lv wr u5 seed 0 (2 ^ (h - 0)) := by rw [Nat.sub_zero, HK.out]; exact own_mono HO.out (Nat.zero_le _)
      have U1 := Lib.hid (Rd.one (Rd.of_own HO.out))
      have HL0 := Lib.hid L0
      clear L0
      go_wp2_with (((with_reducible refine' wpList_build_at (cs := [u5]) rfl ?_ Tryd.underlying49 inf_digl ?_ ?_ ?_ ?_ ?_ ?_); exact rfl; exact rfl; omega; omega; exact rfl; (intro u hu; simp only [List.mem_singleton] at hu; subst hu; exact U1.out); intro w2 k2 hN2 hz2; simp only [Act.put, List.setIfInBounds_toArray, List.set_cons_succ, List.set_cons_zero]))
      have ho2 := own_of_blk k2 (n := 1) rfl (by unfold maxLen; omega)
      have hb2 := hb.trans (hN2.mono hb.size)
      have hL2 : LvAll w2 [u5] seed h 0 := ⟨rfl, fun i hi => by
        have h0 : i = 0 := (by omega)
        subst h0
        exact ⟨u5, rfl, own_below HL0.out hN2⟩⟩
      replace ho2 := own_mono ho2 hb.size
      clear hN2 hz2 k2 HL0 U1 HO
      go_loopw [8, 7] (fun c o wr => ∃ (j : Nat) (vs : List Value), j ≤ h ∧ c = .int .i64 (j : Int) ∧ wr.ownsRow w.heap.size 48 1 o (j + 1) vs ∧ LvAll wr vs seed h j ∧ Below w.heap.size w wr) (fun c _ _ => h - (intOf c).toNat)
      case atStart => exact ⟨0, [u5], by omega, rfl, ho2, hL2, hb2⟩
      case round =>
        obtain ⟨j, vs, hj, rfl, hown, hL, hb⟩ := hrel
        obtain ⟨vo, rfl⟩ : ∃ vo, vo = u7 := ⟨_, rfl⟩
        have HO := Lib.hid hown
        have hvl := hL.1
        have hro := Rd.of_own hown
        clear hown
        by_cases hlt : j < h
        · obtain ⟨wo, rfl⟩ : ∃ wo : World, wo = wr := ⟨_, rfl⟩
          obtain ⟨u, hu, hLu⟩ := hL.2 j (Nat.le_refl _)
          have hph := pow_half hlt
          obtain ⟨n2, hn2⟩ : ∃ n2, 2 ^ (h - (j + 1)) = n2 := ⟨_, rfl⟩
          have hn64 : n2 ≤ 64 := by
            rw [← hn2]
            exact Nat.le_trans (Nat.pow_le_pow_right (by decide) (show h - (j + 1) ≤ 6 by omega)) (by decide)
          rw [hn2] at hph
          rw [hph] at hLu
          obtain ⟨n3, hn3⟩ : ∃ n3, 2 * n2 = n3 := ⟨_, rfl⟩
          rw [hn3] at hLu
          have hn3a : n3 ≤ 2 * n2 := by omega
          have hn3b : 2 * n2 ≤ n3 := by omega
          clear hn3
          have HN2 := Lib.hid hn2
          have X := Lib.hid hu
          have HLL := Lib.hid hL
          have hru := Rd.of_own hLu
          clear hu hph hn2 hL hLu hvl hpw
          go_wp2_with fail
          go_loopw [10, 9] (fun c o wr => ∃ q : Nat, q ≤ n2 ∧ c = .int .i64 ((2 * q : Nat) : Int) ∧ wr.ownsRow wo.heap.size 23 16 o q (bv (vals (nodeAt seed (j + 1)) q)) ∧ Below wo.heap.size wo wr) (fun c _ _ => 2 * n2 - (intOf c).toNat)
          case atStart => exact ⟨0, by omega, rfl, World.ownsRow_nil _ _ _ _, Below.refl _ _⟩
          case round =>
            obtain ⟨q, hq, rfl, hown, hX⟩ := hrel
            obtain ⟨vn, rfl⟩ : ∃ vn, vn = u9 := ⟨_, rfl⟩
            have HQ := Lib.hid hown
            clear hown
            have ro := hro.below hX
            have ru := hru.below hX
            by_cases hqt : q < n2
            · obtain ⟨wi, rfl⟩ : ∃ wi : World, wi = wr := ⟨_, rfl⟩
              obtain ⟨k, hk⟩ : ∃ k, 2 * q = k := ⟨_, rfl⟩
              have hk1 : k ≤ 2 * q := by omega
              have hk2 : 2 * q ≤ k := by omega
              have hdec : decide ((k : Int) + 1 < (n3 : Int)) = true := decide_eq_true (by omega)
              have hTi := (hT.below hb).below hX
              have P0 := Lib.hid (show ((bv (vals (nodeAt seed j) n3)).drop (k * 16)).take 16 = bv (nodeAt seed j k) by
                rw [bv_drop, bv_take, Nat.mul_comm, vals_part (fun c _ => nodeAt_len _ _ _) (by omega)])
              have P1 := Lib.hid (show ((bv (vals (nodeAt seed j) n3)).drop ((k + 1) * 16)).take 16 = bv (nodeAt seed j (k + 1)) by
                rw [bv_drop, bv_take, Nat.mul_comm, vals_part (fun c _ => nodeAt_len _ _ _) (by omega)])
              have vl := vals_len (f := nodeAt seed j) (n := n3) (fun c _ => nodeAt_len _ _ _)
              have G0 := Lib.hid (show k * 16 + 16 ≤ (bv (vals (nodeAt seed j) n3)).length by rw [bv_length, vl]; omega)
              have G1 := Lib.hid (show (k + 1) * 16 + 16 ≤ (bv (vals (nodeAt seed j) n3)).length by rw [bv_length, vl]; omega)
              have NU := Lib.hid (show nodeD (nodeAt seed j k) (nodeAt seed j (k + 1)) = nodeAt seed (j + 1) q by rw [← hk]; exact node_up seed j q)
              have NA := Lib.hid (nodeAt_len seed j k)
              have NB := Lib.hid (nodeAt_len seed j (k + 1))
              have N16 := Lib.hid (show (bv (nodeAt seed (j + 1) q)).length = 16 by rw [bv_length, nodeAt_len])
              have hone := bv_one (nodeAt seed (j + 1) q)
              rw [hk]
              have HK2 := Lib.hid hk
              clear hk vl
              go_upto_region 14 with (first | ((with_reducible refine' wpList_at1_rd (.tmp 32) (.tmp 33) 49 rfl ?_ Tryd.underlying49 sz_digl ?_ ro (j) ?_ ?_ ?_); exact rfl; exact rfl; (show (_ : Int) = _; omega); omega; simp only [Act.put, List.setIfInBounds_toArray, List.set_cons_succ, List.set_cons_zero]) | ((with_reducible refine' wpList_load_rd (.tmp 34) 48 rfl ?_ ld_digl ?_ ro (X.out) ?_); exact rfl; exact rfl; simp only [Act.put, List.setIfInBounds_toArray, List.set_cons_succ, List.set_cons_zero]) | ((with_reducible refine' wpList_len_rd (.tmp 35) 48 rfl ?_ Tryd.underlying48 ?_ ru ?_); exact rfl; exact rfl; simp only [Act.put, List.setIfInBounds_toArray, List.set_cons_succ, List.set_cons_zero]))
              clear hdec
              refine wp_region_mono (w := wi) 18 (fun i => match i with | 0 => fun (vv : Value) (ww : World) => vv = vn | 1 => fun (vv : Value) (ww : World) => vv = vo | 2 => fun (vv : Value) (ww : World) => vv = .int .i64 (j : Int) | 3 => fun (vv : Value) (ww : World) => vv = ep vo j | 4 => fun (vv : Value) (ww : World) => vv = u | 5 => fun (vv : Value) (ww : World) => vv = .int .i64 (k : Int) | 6 => fun (vv : Value) (ww : World) => vv = ep u (k * 16) | 7 => fun (vv : Value) (ww : World) => vv = .agg (bv (nodeAt seed j k)).toArray | 8 => fun (vv : Value) (ww : World) => vv = vo | 9 => fun (vv : Value) (ww : World) => vv = .int .i64 (j : Int) | 10 => fun (vv : Value) (ww : World) => vv = ep vo j | 11 => fun (vv : Value) (ww : World) => vv = u | 12 => fun (vv : Value) (ww : World) => vv = .int .i64 (k : Int) | 13 => fun (vv : Value) (ww : World) => vv = .int .i64 ((k : Int) + 1) | 14 => fun (vv : Value) (ww : World) => vv = ep u ((k + 1) * 16) | 15 => fun (vv : Value) (ww : World) => vv = .agg (bv (nodeAt seed j (k + 1))).toArray | 16 => fun (vv : Value) (ww : World) => vv = .agg (bv (nodeAt seed (j + 1) q)).toArray | 17 => fun (vv : Value) (ww : World) => Rd ww 16 vv 1 (bv (nodeAt seed (j + 1) q)) | _ => fun _ _ => True) (by kernel_rfl) (by kernel_rfl) ?_ ?_ ?_
              · intro i vv w1 w2 h hb
                rcases i with _ | _ | _ | _ | _ | _ | _ | _ | _ | _ | _ | _ | _ | _ | _ | _ | _ | _ | i
                all_goals first | exact h | exact Rd.below h hb | exact own_below h hb | (obtain ⟨B, h1, h2, h3⟩ := h; exact ⟨B, h1, h2, Blk.below h3 hb (Blk.lt h3)⟩) | trivial
              · intro i o hi ho us wz hl hbz hd
                obtain ⟨u0, u1, u2, u3, u4, u5, u6, u7, u8, u9, u10, u11, u12, u13, u14, u15, u16, u17, rfl⟩ := len18 hl
                rcases i with _ | _ | _ | _ | _ | _ | _ | _ | _ | _ | _ | _ | _ | _ | _ | _ | _ | _ | i
                · simp only [List.getElem?_cons_succ, List.getElem?_cons_zero, Option.some.injEq] at ho; subst ho; clear hi hl
                  clear hd
                  simp only [List.take_succ_cons, List.take_zero, List.drop_succ_cons, List.drop_zero, List.map_cons, List.map_nil, puts, Act.put, List.setIfInBounds_toArray, List.set_cons_succ, List.set_cons_zero]
                  go_wp2_with (fail)
                  exact ⟨rfl, _, rfl, Below.refl _ _, rfl⟩
                · simp only [List.getElem?_cons_succ, List.getElem?_cons_zero, Option.some.injEq] at ho; subst ho; clear hi hl
                  clear hd
                  simp only [List.take_succ_cons, List.take_zero, List.drop_succ_cons, List.drop_zero, List.map_cons, List.map_nil, puts, Act.put, List.setIfInBounds_toArray, List.set_cons_succ, List.set_cons_zero]
                  go_wp2_with (fail)
                  exact ⟨rfl, _, rfl, Below.refl _ _, rfl⟩
                · simp only [List.getElem?_cons_succ, List.getElem?_cons_zero, Option.some.injEq] at ho; subst ho; clear hi hl
                  clear hd
                  simp only [List.take_succ_cons, List.take_zero, List.drop_succ_cons, List.drop_zero, List.map_cons, List.map_nil, puts, Act.put, List.setIfInBounds_toArray, List.set_cons_succ, List.set_cons_zero]
                  go_wp2_with (fail)
                  exact ⟨rfl, _, rfl, Below.refl _ _, rfl⟩
                · simp only [List.getElem?_cons_succ, List.getElem?_cons_zero, Option.some.injEq] at ho; subst ho; clear hi hl
                  have s1 : (fun (vv : Value) (ww : World) => vv = vo) u1 wz := hd 1 (by kernel_rfl)
                  simp only at s1
                  obtain rfl := s1
                  have s2 : (fun (vv : Value) (ww : World) => vv = .int .i64 (j : Int)) u2 wz := hd 2 (by kernel_rfl)
                  simp only at s2
                  obtain rfl := s2
                  clear hd
                  simp only [List.take_succ_cons, List.take_zero, List.drop_succ_cons, List.drop_zero, List.map_cons, List.map_nil, puts, Act.put, List.setIfInBounds_toArray, List.set_cons_succ, List.set_cons_zero]
                  go_wp2_with (((with_reducible refine' wpList_at1_rd (.tmp 41) (.tmp 42) 49 rfl ?_ Tryd.underlying49 sz_digl ?_ (ro.below hbz) (j) ?_ ?_ ?_); exact rfl; exact rfl; (show (_ : Int) = _; omega); omega; simp only [Act.put, List.setIfInBounds_toArray, List.set_cons_succ, List.set_cons_zero]))
                  exact ⟨rfl, _, rfl, Below.refl _ _, rfl⟩
                · simp only [List.getElem?_cons_succ, List.getElem?_cons_zero, Option.some.injEq] at ho; subst ho; clear hi hl
                  have s3 : (fun (vv : Value) (ww : World) => vv = ep vo j) u3 wz := hd 3 (by kernel_rfl)
                  simp only at s3
                  obtain rfl := s3
                  clear hd
                  simp only [List.take_succ_cons, List.take_zero, List.drop_succ_cons, List.drop_zero, List.map_cons, List.map_nil, puts, Act.put, List.setIfInBounds_toArray, List.set_cons_succ, List.set_cons_zero]
                  go_wp2_with (((with_reducible refine' wpList_load_rd (.tmp 43) 48 rfl ?_ ld_digl ?_ (ro.below hbz) (X.out) ?_); exact rfl; exact rfl; simp only [Act.put, List.setIfInBounds_toArray, List.set_cons_succ, List.set_cons_zero]))
                  exact ⟨rfl, _, rfl, Below.refl _ _, rfl⟩
                · simp only [List.getElem?_cons_succ, List.getElem?_cons_zero, Option.some.injEq] at ho; subst ho; clear hi hl
                  clear hd
                  simp only [List.take_succ_cons, List.take_zero, List.drop_succ_cons, List.drop_zero, List.map_cons, List.map_nil, puts, Act.put, List.setIfInBounds_toArray, List.set_cons_succ, List.set_cons_zero]
                  go_wp2_with (fail)
                  exact ⟨rfl, _, rfl, Below.refl _ _, rfl⟩
                · simp only [List.getElem?_cons_succ, List.getElem?_cons_zero, Option.some.injEq] at ho; subst ho; clear hi hl
                  have s4 : (fun (vv : Value) (ww : World) => vv = u) u4 wz := hd 4 (by kernel_rfl)
                  simp only at s4
                  obtain rfl := s4
                  have s5 : (fun (vv : Value) (ww : World) => vv = .int .i64 (k : Int)) u5 wz := hd 5 (by kernel_rfl)
                  simp only at s5
                  obtain rfl := s5
                  clear hd
                  simp only [List.take_succ_cons, List.take_zero, List.drop_succ_cons, List.drop_zero, List.map_cons, List.map_nil, puts, Act.put, List.setIfInBounds_toArray, List.set_cons_succ, List.set_cons_zero]
                  go_wp2_with (((with_reducible refine' wpList_at_rd (.tmp 44) (.tmp 45) 48 rfl ?_ Tryd.underlying48 sz_dig ?_ (ru.below hbz) (by decide) (k) ?_ ?_ ?_); exact rfl; exact rfl; (show (_ : Int) = _; omega); omega; simp only [Act.put, List.setIfInBounds_toArray, List.set_cons_succ, List.set_cons_zero]))
                  exact ⟨rfl, _, rfl, Below.refl _ _, rfl⟩
                · simp only [List.getElem?_cons_succ, List.getElem?_cons_zero, Option.some.injEq] at ho; subst ho; clear hi hl
                  have s6 : (fun (vv : Value) (ww : World) => vv = ep u (k * 16)) u6 wz := hd 6 (by kernel_rfl)
                  simp only at s6
                  obtain rfl := s6
                  clear hd
                  simp only [List.take_succ_cons, List.take_zero, List.drop_succ_cons, List.drop_zero, List.map_cons, List.map_nil, puts, Act.put, List.setIfInBounds_toArray, List.set_cons_succ, List.set_cons_zero]
                  go_wp2_with ((((with_reducible refine' wpList_load_arr (.tmp 46) 23 rfl ?_ Tryd.underlying23 sz_dig (k * 16) ?_ (ru.below hbz) ?_ (by decide) ?_); exact rfl; exact rfl; exact G0.out; simp only [Act.put, List.setIfInBounds_toArray, List.set_cons_succ, List.set_cons_zero]); rw [P0.out]))
                  exact ⟨rfl, _, rfl, Below.refl _ _, rfl⟩
                · simp only [List.getElem?_cons_succ, List.getElem?_cons_zero, Option.some.injEq] at ho; subst ho; clear hi hl
                  clear hd
                  simp only [List.take_succ_cons, List.take_zero, List.drop_succ_cons, List.drop_zero, List.map_cons, List.map_nil, puts, Act.put, List.setIfInBounds_toArray, List.set_cons_succ, List.set_cons_zero]
                  go_wp2_with (fail)
                  exact ⟨rfl, _, rfl, Below.refl _ _, rfl⟩
                · simp only [List.getElem?_cons_succ, List.getElem?_cons_zero, Option.some.injEq] at ho; subst ho; clear hi hl
                  clear hd
                  simp only [List.take_succ_cons, List.take_zero, List.drop_succ_cons, List.drop_zero, List.map_cons, List.map_nil, puts, Act.put, List.setIfInBounds_toArray, List.set_cons_succ, List.set_cons_zero]
                  go_wp2_with (fail)
                  exact ⟨rfl, _, rfl, Below.refl _ _, rfl⟩
                · simp only [List.getElem?_cons_succ, List.getElem?_cons_zero, Option.some.injEq] at ho; subst ho; clear hi hl
                  have s8 : (fun (vv : Value) (ww : World) => vv = vo) u8 wz := hd 8 (by kernel_rfl)
                  simp only at s8
                  obtain rfl := s8
                  have s9 : (fun (vv : Value) (ww : World) => vv = .int .i64 (j : Int)) u9 wz := hd 9 (by kernel_rfl)
                  simp only at s9
                  obtain rfl := s9
                  clear hd
                  simp only [List.take_succ_cons, List.take_zero, List.drop_succ_cons, List.drop_zero, List.map_cons, List.map_nil, puts, Act.put, List.setIfInBounds_toArray, List.set_cons_succ, List.set_cons_zero]
                  go_wp2_with (((with_reducible refine' wpList_at1_rd (.tmp 48) (.tmp 49) 49 rfl ?_ Tryd.underlying49 sz_digl ?_ (ro.below hbz) (j) ?_ ?_ ?_); exact rfl; exact rfl; (show (_ : Int) = _; omega); omega; simp only [Act.put, List.setIfInBounds_toArray, List.set_cons_succ, List.set_cons_zero]))
                  exact ⟨rfl, _, rfl, Below.refl _ _, rfl⟩
                · simp only [List.getElem?_cons_succ, List.getElem?_cons_zero, Option.some.injEq] at ho; subst ho; clear hi hl
                  have s10 : (fun (vv : Value) (ww : World) => vv = ep vo j) u10 wz := hd 10 (by kernel_rfl)
                  simp only at s10
                  obtain rfl := s10
                  clear hd
                  simp only [List.take_succ_cons, List.take_zero, List.drop_succ_cons, List.drop_zero, List.map_cons, List.map_nil, puts, Act.put, List.setIfInBounds_toArray, List.set_cons_succ, List.set_cons_zero]
                  go_wp2_with (((with_reducible refine' wpList_load_rd (.tmp 50) 48 rfl ?_ ld_digl ?_ (ro.below hbz) (X.out) ?_); exact rfl; exact rfl; simp only [Act.put, List.setIfInBounds_toArray, List.set_cons_succ, List.set_cons_zero]))
                  exact ⟨rfl, _, rfl, Below.refl _ _, rfl⟩
                · simp only [List.getElem?_cons_succ, List.getElem?_cons_zero, Option.some.injEq] at ho; subst ho; clear hi hl
                  clear hd
                  simp only [List.take_succ_cons, List.take_zero, List.drop_succ_cons, List.drop_zero, List.map_cons, List.map_nil, puts, Act.put, List.setIfInBounds_toArray, List.set_cons_succ, List.set_cons_zero]
                  go_wp2_with (fail)
                  exact ⟨rfl, _, rfl, Below.refl _ _, rfl⟩
                · simp only [List.getElem?_cons_succ, List.getElem?_cons_zero, Option.some.injEq] at ho; subst ho; clear hi hl
                  have s12 : (fun (vv : Value) (ww : World) => vv = .int .i64 (k : Int)) u12 wz := hd 12 (by kernel_rfl)
                  simp only at s12
                  obtain rfl := s12
                  clear hd
                  simp only [List.take_succ_cons, List.take_zero, List.drop_succ_cons, List.drop_zero, List.map_cons, List.map_nil, puts, Act.put, List.setIfInBounds_toArray, List.set_cons_succ, List.set_cons_zero]
                  go_wp2_with (fail)
                  exact ⟨rfl, _, rfl, Below.refl _ _, rfl⟩
                · simp only [List.getElem?_cons_succ, List.getElem?_cons_zero, Option.some.injEq] at ho; subst ho; clear hi hl
                  have s11 : (fun (vv : Value) (ww : World) => vv = u) u11 wz := hd 11 (by kernel_rfl)
                  simp only at s11
                  obtain rfl := s11
                  have s13 : (fun (vv : Value) (ww : World) => vv = .int .i64 ((k : Int) + 1)) u13 wz := hd 13 (by kernel_rfl)
                  simp only at s13
                  obtain rfl := s13
                  clear hd
                  simp only [List.take_succ_cons, List.take_zero, List.drop_succ_cons, List.drop_zero, List.map_cons, List.map_nil, puts, Act.put, List.setIfInBounds_toArray, List.set_cons_succ, List.set_cons_zero]
                  go_wp2_with (((with_reducible refine' wpList_at_rd (.tmp 51) (.tmp 53) 48 rfl ?_ Tryd.underlying48 sz_dig ?_ (ru.below hbz) (by decide) (k + 1) ?_ ?_ ?_); exact rfl; exact rfl; (show (_ : Int) = _; omega); omega; simp only [Act.put, List.setIfInBounds_toArray, List.set_cons_succ, List.set_cons_zero]))
                  exact ⟨rfl, _, rfl, Below.refl _ _, rfl⟩
                · simp only [List.getElem?_cons_succ, List.getElem?_cons_zero, Option.some.injEq] at ho; subst ho; clear hi hl
                  have s14 : (fun (vv : Value) (ww : World) => vv = ep u ((k + 1) * 16)) u14 wz := hd 14 (by kernel_rfl)
                  simp only at s14
                  obtain rfl := s14
                  clear hd
                  simp only [List.take_succ_cons, List.take_zero, List.drop_succ_cons, List.drop_zero, List.map_cons, List.map_nil, puts, Act.put, List.setIfInBounds_toArray, List.set_cons_succ, List.set_cons_zero]
                  go_wp2_with ((((with_reducible refine' wpList_load_arr (.tmp 54) 23 rfl ?_ Tryd.underlying23 sz_dig ((k + 1) * 16) ?_ (ru.below hbz) ?_ (by decide) ?_); exact rfl; exact rfl; exact G1.out; simp only [Act.put, List.setIfInBounds_toArray, List.set_cons_succ, List.set_cons_zero]); rw [P1.out]))
                  exact ⟨rfl, _, rfl, Below.refl _ _, rfl⟩
                · simp only [List.getElem?_cons_succ, List.getElem?_cons_zero, Option.some.injEq] at ho; subst ho; clear hi hl
                  have s7 : (fun (vv : Value) (ww : World) => vv = .agg (bv (nodeAt seed j k)).toArray) u7 wz := hd 7 (by kernel_rfl)
                  simp only at s7
                  obtain rfl := s7
                  have s15 : (fun (vv : Value) (ww : World) => vv = .agg (bv (nodeAt seed j (k + 1))).toArray) u15 wz := hd 15 (by kernel_rfl)
                  simp only at s15
                  obtain rfl := s15
                  clear hd
                  simp only [List.take_succ_cons, List.take_zero, List.drop_succ_cons, List.drop_zero, List.map_cons, List.map_nil, puts, Act.put, List.setIfInBounds_toArray, List.set_cons_succ, List.set_cons_zero]
                  go_wp2_with (((go_at_call 43; (with_reducible refine (refnode_any _ _ _ (hTi.below hbz) NA.out NB.out).mono ?_); rintro e w' ⟨rfl, hq⟩); rw [NU.out]))
                  exact ⟨rfl, _, rfl, hq, rfl⟩
                · simp only [List.getElem?_cons_succ, List.getElem?_cons_zero, Option.some.injEq] at ho; subst ho; clear hi hl
                  have s16 : (fun (vv : Value) (ww : World) => vv = .agg (bv (nodeAt seed (j + 1) q)).toArray) u16 wz := hd 16 (by kernel_rfl)
                  simp only at s16
                  obtain rfl := s16
                  clear hd
                  simp only [List.take_succ_cons, List.take_zero, List.drop_succ_cons, List.drop_zero, List.map_cons, List.map_nil, puts, Act.put, List.setIfInBounds_toArray, List.set_cons_succ, List.set_cons_zero]
                  go_wp2_with (((with_reducible refine' wpList_build_one (cs := bv (nodeAt seed (j + 1) q)) (.tmp 56) 48 rfl ?_ Tryd.underlying48 inf_dig ?_ ?_ ?_ ?_ ?_ ?_); exact rfl; exact rfl; omega; omega; exact rfl; exact N16.out; intro v17 w17 hr17 hN17 hz17; simp only [Act.put, List.setIfInBounds_toArray, List.set_cons_succ, List.set_cons_zero]))
                  exact ⟨rfl, _, rfl, hN17, hr17⟩
                · omega
              intro us wz hl hbz hS
              obtain ⟨u0, u1, u2, u3, u4, u5, u6, u7, u8, u9, u10, u11, u12, u13, u14, u15, u16, u17, rfl⟩ := len18 hl
              have s0 : (fun (vv : Value) (ww : World) => vv = vn) u0 wz := hS 0 (by omega)
              simp only at s0
              have s17 : (fun (vv : Value) (ww : World) => Rd ww 16 vv 1 (bv (nodeAt seed (j + 1) q))) u17 wz := hS 17 (by omega)
              simp only at s17
              clear hS hl
              simp only [List.take_succ_cons, List.take_zero, List.drop_succ_cons, List.drop_zero, List.map_cons, List.map_nil, puts, Act.put, List.setIfInBounds_toArray, List.set_cons_succ, List.set_cons_zero]
              subst s0
              go_wp2_with (((with_reducible refine' wpList_append_rd (.tmp 40) (.tmp 57) 48 rfl ?_ Tryd.underlying48 inf_dig ?_ ?_ ?_ (own_below HQ.out hbz) ?_ s17 hone ?_ ?_ (Nat.le_trans hX.size hbz.size) ?_); exact rfl; exact rfl; omega; exact rfl; exact rfl; (first | omega | (unfold maxLen; omega)); omega; intro v18 w18 ho18 hb18; simp only [Act.put, List.setIfInBounds_toArray, List.set_cons_succ, List.set_cons_zero]))
              refine onlyN ?_
              rw [bv_vals_succ] at ho18
              have hk3 := HK2.out
              go_wp2_with fail
              go_roundw
              case rel => exact ⟨q + 1, by omega, by rw [show 2 * (q + 1) = 2 * q + 2 by omega, hk3]; go_num, ho18, (hX.trans (hbz.mono hX.size)).trans hb18⟩
              case measure => simp [intOf]; omega
            · obtain rfl : q = n2 := by omega
              obtain ⟨k, hk⟩ : ∃ k, 2 * q = k := ⟨_, rfl⟩
              have hk1 : k ≤ 2 * q := by omega
              have hk2 : 2 * q ≤ k := by omega
              have hdec : decide ((k : Int) + 1 < (n3 : Int)) = false := decide_eq_false (by omega)
              have hLX := LvAll.below HLL.out hX
              have hown := HQ.out
              rw [hk]
              have U1 := Rd.one (Rd.of_own hown)
              have hOX := Lib.hid (own_below HO.out hX)
              have hbX := hb.trans (hX.mono hb.size)
              have HLV := Lib.hid (show Lv wr vn seed (j + 1) (2 ^ (h - (j + 1))) by rw [HN2.out]; exact own_mono hown (Nat.zero_le _))
              clear hown hk
              have hones : ∀ x ∈ [vn], x.oneCell' = true := fun x hx => by
                simp only [List.mem_singleton] at hx
                subst hx; exact U1
              have HON := Lib.hid hones
              clear hones U1
              go_wp2_with (first | ((with_reducible refine' wpList_at1_rd (.tmp 32) (.tmp 33) 49 rfl ?_ Tryd.underlying49 sz_digl ?_ ro (j) ?_ ?_ ?_); exact rfl; exact rfl; (show (_ : Int) = _; omega); omega; simp only [Act.put, List.setIfInBounds_toArray, List.set_cons_succ, List.set_cons_zero]) | ((with_reducible refine' wpList_load_rd (.tmp 34) 48 rfl ?_ ld_digl ?_ ro (X.out) ?_); exact rfl; exact rfl; simp only [Act.put, List.setIfInBounds_toArray, List.set_cons_succ, List.set_cons_zero]) | ((with_reducible refine' wpList_len_rd (.tmp 35) 48 rfl ?_ Tryd.underlying48 ?_ ru ?_); exact rfl; exact rfl; simp only [Act.put, List.setIfInBounds_toArray, List.set_cons_succ, List.set_cons_zero]) | ((with_reducible refine' wpList_build_cs (cs := [vn]) rfl ?_ Tryd.underlying49 inf_digl ?_ ?_ ?_ ?_ ?_ ?_); exact rfl; exact rfl; omega; omega; exact rfl; exact HON.out; intro v7 w7 r7 hN7; simp only [Act.put, List.setIfInBounds_toArray, List.set_cons_succ, List.set_cons_zero]) | ((with_reducible refine' wpList_append_at (.tmp 59) (.tmp 61) 49 rfl ?_ Tryd.underlying49 inf_digl ?_ ?_ ?_ (own_below hOX.out hN7) ?_ r7 HON.out ?_ ?_ (Nat.le_trans hbX.size hN7.size) ?_); exact rfl; exact rfl; omega; exact rfl; exact rfl; (first | omega | (unfold maxLen; omega)); omega; intro v8 w8 ho8 hg8 hst8; simp only [Act.put, List.setIfInBounds_toArray, List.set_cons_succ, List.set_cons_zero]))
              go_roundw
              case rel => exact ⟨j + 1, vs ++ [vn], by omega, by go_num, ho8, (hLX.below hN7).snoc (own_below hOX.out hN7) hg8 (own_below HLV.out hN7), (hbX.trans (hN7.mono hbX.size)).trans (below_of_grown hg8 (own_below hOX.out hN7) (Nat.le_trans hbX.size hN7.size))⟩
              case measure => simp [intOf]; omega
        · obtain rfl : j = h := by omega
          go_wp2_with fail
          go_ret
          exact ⟨_, vs, rfl, hro, hL, hb⟩
end Go.Proofs.YtajglgkjpagcjaaDoor.Wi
namespace Go.Proofs.YtajglgkjpagcjaaDoor.Wi
open Go Go.RowKit Pu Lb
set_option linter.unusedSimpArgs false
set_option linter.unusedVariables false
attribute [local irreducible] comp sched comps sha outS mac digOf encInts adv startV nodeAt pt16
def okF (n : Nat) (h : Int) : Bool := decide (n = 32 ∧ 0 ≤ h ∧ h ≤ 6)
theorem fits_any (seed : List UInt8) (h : Int) (w : World) :
    Calls Tryd.prog 23 #[.string ⟨seed.toArray⟩, .int .i64 h] w fun e w' => e = .returned (.bool (okF seed.length h)) ∧ w = w' := by
  have hss := size_str seed
  unfold okF
  by_cases h32 : seed.length = 32
  · have hne : ((seed.length : Int) == 32) = true := by simp; omega
    by_cases h1 : 0 ≤ h
    · by_cases h2 : h ≤ 6
      · go_enter Tryd.func23, Tryd.ntmps23
        go_wp2
        go_ret
        exact ⟨by simp [h1, h2, h32], rfl⟩
      · go_enter Tryd.func23, Tryd.ntmps23
        go_wp2
        go_ret
        exact ⟨by simp [h1, h2], rfl⟩
    · go_enter Tryd.func23, Tryd.ntmps23
      go_wp2
      go_ret
      exact ⟨by simp; omega, rfl⟩
  · have hne : ((seed.length : Int) == 32) = false := by simp; omega
    go_enter Tryd.func23, Tryd.ntmps23
    go_wp2
    go_ret
    exact ⟨by simp [h32], rfl⟩
theorem lv_head {w : World} {u : Value} {seed : List UInt8} {i n k : Nat} (h : Lv w u seed i n) (hk : k < n) : (k * 16 + 16 ≤ (bv (vals (nodeAt seed i) n)).length) ∧ ((bv (vals (nodeAt seed i) n)).drop (k * 16)).take 16 = bv (nodeAt seed i k) := by
  have vl := vals_len (f := nodeAt seed i) (n := n) (fun c _ => nodeAt_len _ _ _)
  refine ⟨by rw [bv_length, vl]; omega, ?_⟩
  rw [bv_drop, bv_take, Nat.mul_comm, vals_part (fun c _ => nodeAt_len _ _ _) hk]
set_option maxRecDepth 100000 in
theorem refpublic_any (seed : List UInt8) (h : Int) (w : World) (hT : TabR w) (hs : seed.length ≤ 1000000) :
    Calls Tryd.prog 13 #[.string ⟨seed.toArray⟩, .int .i64 h] w fun e w' => e = .returned (D2 (pubV seed h)) ∧ Below w.heap.size w w' := by
  by_cases hh : seed.length = 32 ∧ 0 ≤ h ∧ h ≤ 6
  · have hv : okF seed.length h = true := decide_eq_true hh
    have hgood := Lib.hid (pub_good hh)
    obtain ⟨l, rfl⟩ : ∃ l : Nat, h = (l : Int) := ⟨h.toNat, by omega⟩
    have hl6 : l ≤ 6 := by omega
    have NL := Lib.hid (show (bv (nodeAt seed l 0)).length = 16 by rw [bv_length, nodeAt_len])
    clear hh
    go_enter Tryd.func13, Tryd.ntmps13
    go_upto_region 1 with (((with_reducible refine' wpList_alloc_blk (cs := List.replicate 16 (.int .u8 0)) 23 rfl ?_ zr_dig ?_ ?_); exact rfl; exact zeros_u8 16; intro w1 hkR hN1 hz1; simp only [Act.put, List.setIfInBounds_toArray, List.set_cons_succ, List.set_cons_zero]))
    have hT1 := hT.below hN1
    clear hz1
    have hb := hN1
    go_upto_region 4 with ((go_at_call 23; (with_reducible refine (fits_any seed (l : Int) _).mono ?_); rintro e w' ⟨rfl, rfl⟩); rw [hv])
    go_wp2_with (first
      | ((go_at_call 24; (with_reducible refine (levels_any seed l _ hT1 hs hl6).mono ?_); rintro e w' ⟨v, vs, rfl, hv1, hL, hN⟩); replace hb := hb.trans ((by exact hN : Below _ _ _).mono hb.size); (try replace hkR := Blk.below hkR hN (Blk.lt hkR)); obtain ⟨u, hu, hLu⟩ := hL.2 l (Nat.le_refl _); rw [Nat.sub_self] at hLu; have H0 := Lib.hid (lv_head (k := 0) hLu (by decide)); have hru := Rd.of_own hLu; have HU := Lib.hid hu; clear hu hLu hL)
      | ((with_reducible refine' wpList_at1_rd (.tmp 15) (.tmp 16) 49 rfl ?_ Tryd.underlying49 sz_digl ?_ hv1 (l) ?_ ?_ ?_); exact rfl; exact rfl; (show (_ : Int) = _; omega); omega; simp only [Act.put, List.setIfInBounds_toArray, List.set_cons_succ, List.set_cons_zero]) | ((with_reducible refine' wpList_load_rd (.tmp 17) 48 rfl ?_ ld_digl ?_ hv1 (HU.out) ?_); exact rfl; exact rfl; simp only [Act.put, List.setIfInBounds_toArray, List.set_cons_succ, List.set_cons_zero]) | (((with_reducible refine' wpList_at_rd (.tmp 18) (.const (.int .i64 0)) 48 rfl ?_ Tryd.underlying48 sz_dig ?_ hru (by decide) (0) ?_ ?_ ?_); exact rfl; exact rfl; (show (_ : Int) = _; omega); omega; simp only [Act.put, List.setIfInBounds_toArray, List.set_cons_succ, List.set_cons_zero])) | (((with_reducible refine' wpList_load_arr (.tmp 19) 23 rfl ?_ Tryd.underlying23 sz_dig (0 * 16) ?_ hru ?_ (by decide) ?_); exact rfl; exact rfl; exact H0.out.1; simp only [Act.put, List.setIfInBounds_toArray, List.set_cons_succ, List.set_cons_zero]); rw [H0.out.2])
      | ((with_reducible refine' wpList_store_blk (cs := bv (nodeAt seed l 0)) 23 (.tmp 4) (.tmp 20) rfl ?_ ?_ ?_ hkR sz_dig ?_ ?_ ?_ ?_); exact rfl; exact rfl; exact rfl; exact NL.out; exact List.length_replicate; exact bv_one _; intro w9 hk9 hO9 hz9; simp only [Act.put]))
    ((try simp only [Exit.inBlock, Exit.then]); refine bodyPost_ret (results_cell_row_tmp rfl _ _ _ _ _ _ _ rfl hk9 Tryd.underlying23 rfl (by rw [sz_dig]; simp [NL.out])) rfl ?_)
    exact ⟨by rw [hgood.out]; rfl, hb.trans (hO9.below (Nat.le_refl _) hb.size)⟩
  · have hv : okF seed.length h = false := decide_eq_false hh
    have hbad := Lib.hid (pub_bad hh)
    clear hh
    go_enter Tryd.func13, Tryd.ntmps13
    go_upto_region 1 with (((with_reducible refine' wpList_alloc_blk (cs := List.replicate 16 (.int .u8 0)) 23 rfl ?_ zr_dig ?_ ?_); exact rfl; exact zeros_u8 16; intro w1 hkR hN1 hz1; simp only [Act.put, List.setIfInBounds_toArray, List.set_cons_succ, List.set_cons_zero]))
    clear hz1
    go_wp2_with (first
      | ((go_at_call 23; (with_reducible refine (fits_any seed h _).mono ?_); rintro e w' ⟨rfl, rfl⟩); rw [hv])
      | ((with_reducible refine' wpList_of_run (o := ⟨_, .build _ _, _, _, _, _⟩) (v := .agg (List.replicate 16 (.int .u8 0)).toArray) (w' := w1) ?_ ?_ ?_); exact rfl; kernel_rfl; simp only [Act.put, List.setIfInBounds_toArray, List.set_cons_succ, List.set_cons_zero])
      | ((with_reducible refine' wpList_store_blk (cs := List.replicate 16 (.int .u8 0)) 23 (.tmp 4) (.tmp 12) rfl ?_ ?_ ?_ hkR sz_dig ?_ ?_ ?_ ?_); exact rfl; exact rfl; exact rfl; exact List.length_replicate; exact List.length_replicate; (intro u hu; rw [List.eq_of_mem_replicate hu]; rfl); intro w9 hk9 hO9 hz9; simp only [Act.put]))
    ((try simp only [Exit.inBlock, Exit.then]); refine bodyPost_ret (results_cell_row_tmp rfl _ _ _ _ _ _ _ rfl hk9 Tryd.underlying23 rfl (by rw [sz_dig]; simp)) rfl ?_)
    exact ⟨by rw [hbad.out]; rfl, hN1.trans (hO9.below (Nat.le_refl _) hN1.size)⟩
end Go.Proofs.YtajglgkjpagcjaaDoor.Wi
namespace Go.Proofs.YtajglgkjpagcjaaDoor.Wi
open Go Go.RowKit Pu Lb
set_option linter.unusedSimpArgs false
set_option linter.unusedVariables false
attribute [local irreducible] comp sched comps sha outS mac digOf encInts adv startV nodeAt pt16
theorem div_lt_pow {i l j : Nat} (hi : i < 2 ^ l) (hj : j ≤ l) : i / 2 ^ j < 2 ^ (l - j) := by
  apply Nat.div_lt_of_lt_mul
  rw [← Nat.pow_add, show j + (l - j) = l by omega]; exact hi
theorem sib_lt {n m : Nat} (h : n < 2 * m) : sib n < 2 * m := by unfold sib; split <;> omega
theorem div_step (i j : Nat) : i / 2 ^ j / 2 = i / 2 ^ (j + 1) := by rw [Nat.div_div_eq_div_mul, ← Nat.pow_succ]
set_option maxRecDepth 100000 in
set_option maxHeartbeats 1000000 in
theorem refsign_main (seed m : List UInt8) (l ix : Nat) (w : World) (hT : TabR w) (h32 : seed.length = 32) (hl6 : l ≤ 6) (hi : ix < 2 ^ l) (hm : m.length ≤ 1048576) :
    Calls Tryd.prog 15 #[.string ⟨seed.toArray⟩, .int .i64 (l : Int), .int .i64 (ix : Int), .string ⟨m.toArray⟩] w fun e w' => e = .returned (S2 (sigV seed l ix m, 0)) ∧ Below w.heap.size w w' := by
  have hsm := size_str m
  have hs : seed.length ≤ 1000000 := by omega
  have hv : okF seed.length (l : Int) = true := decide_eq_true (by omega)
  have hpw := wrap_pow hl6
  have hp6 : 2 ^ l ≤ 2 ^ 6 := Nat.pow_le_pow_right (by decide) hl6
  obtain ⟨K, hK⟩ : ∃ K : Nat, 2 ^ l = K := ⟨_, rfl⟩
  have HI := Lib.hid hi
  rw [hK] at hpw hi hp6
  have hK64 : K ≤ 64 := hp6
  have I0 := Lib.hid (i64_nat (show ix ≤ 1000000 by omega))
  have II := Lib.hid I0.out.1
  have II2 := Lib.hid I0.out.2
  have EL := Lib.hid (enc_len_bd I0.out.1 I0.out.2)
  have NL := Lib.hid (nodeAt_len seed l 0)
  have ML := Lib.hid (msgD_len (nodeAt seed l 0) ix m)
  have SE := Lib.hid (sigV_eq seed l ix m)
  obtain ⟨dm, hdm⟩ : ∃ dm, msgD (nodeAt seed l 0) ix m = dm := ⟨_, rfl⟩
  rw [hdm] at ML SE
  have HDM := Lib.hid hdm
  have hdec1 : decide ((ix : Int) < 0) = false := decide_eq_false (by omega)
  have hdec2 : decide (K ≤ ix) = false := decide_eq_false (by omega)
  clear hdm hK hp6 h32
  have hb := Below.refl w.heap.size w
  go_enter Tryd.func15, Tryd.ntmps15
  go_upto_region 9 with (first
    | ((go_at_call 23; (with_reducible refine (fits_any seed (l : Int) _).mono ?_); rintro e w' ⟨rfl, rfl⟩); rw [hv])
    | ((go_at_call 24; (with_reducible refine (levels_any seed l _ hT hs hl6).mono ?_); rintro e w' ⟨v, vs, rfl, hv1, hL, hN⟩); replace hb := hb.trans ((by exact hN : Below _ _ _).mono hb.size)))
  have HLL := Lib.hid hL
  obtain ⟨u, hu, hLu⟩ := hL.2 l (Nat.le_refl _)
  rw [Nat.sub_self] at hLu
  have H0 := Lib.hid (lv_head (k := 0) hLu (by decide))
  have hru := Rd.of_own hLu
  have HU := Lib.hid hu
  have hTb := hT.below hb
  have hv1o := hv1
  obtain ⟨wn, rfl⟩ : ∃ wn : World, wn = w' := ⟨_, rfl⟩
  have hb0 := hb
  clear hb
  have hb := Below.refl wn.heap.size wn
  clear hu hLu hL hN hdec1 hdec2 hpw
  go_wp2_with (first
    | ((with_reducible refine' wpList_at1_rd (.tmp 37) (.tmp 38) 49 rfl ?_ Tryd.underlying49 sz_digl ?_ hv1 (l) ?_ ?_ ?_); exact rfl; exact rfl; (show (_ : Int) = _; omega); omega; simp only [Act.put, List.setIfInBounds_toArray, List.set_cons_succ, List.set_cons_zero]) | ((with_reducible refine' wpList_load_rd (.tmp 39) 48 rfl ?_ ld_digl ?_ hv1 (HU.out) ?_); exact rfl; exact rfl; simp only [Act.put, List.setIfInBounds_toArray, List.set_cons_succ, List.set_cons_zero]) | (((with_reducible refine' wpList_at_rd (.tmp 40) (.const (.int .i64 0)) 48 rfl ?_ Tryd.underlying48 sz_dig ?_ hru (by decide) (0) ?_ ?_ ?_); exact rfl; exact rfl; (show (_ : Int) = _; omega); omega; simp only [Act.put, List.setIfInBounds_toArray, List.set_cons_succ, List.set_cons_zero])) | (((with_reducible refine' wpList_load_arr (.tmp 41) 23 rfl ?_ Tryd.underlying23 sz_dig (0 * 16) ?_ hru ?_ (by decide) ?_); exact rfl; exact rfl; exact H0.out.1; simp only [Act.put, List.setIfInBounds_toArray, List.set_cons_succ, List.set_cons_zero]); rw [H0.out.2])
    | ((go_at_call 17; (with_reducible refine (refmsg_any (nodeAt seed l 0) (ix : Int) m _ hTb NL.out I0.out (by omega)).mono ?_); rintro e w' ⟨rfl, hN⟩); rw [HDM.out]; replace hb := hb.trans ((by exact hN : Below _ _ _).mono hb.size))
    | ((go_at_call 11; (with_reducible refine (refdigits_any dm _ ML.out).mono ?_); rintro e w' ⟨vd, rfl, hrd, hN⟩); replace hb := hb.trans ((by exact hN : Below _ _ _).mono hb.size))
    | ((go_at_call 30; (with_reducible refine (refint_any (ix : Int) _ II.out II2.out).mono ?_); rintro e w' ⟨v3, rfl, ho3, hN⟩); have hr3 := Rd.of_own ho3; replace hb := hb.trans ((by exact hN : Below _ _ _).mono hb.size); (try replace hrd := Rd.below hrd hN))
    | ((with_reducible refine' wpList_str_rd (.tmp 48) 52 9 rfl ?_ Tryd.underlying52 Tryd.underlying5 Tryd.underlying9 ?_ hr3 ?_); exact rfl; exact rfl; simp only [Act.put, List.setIfInBounds_toArray, List.set_cons_succ, List.set_cons_zero]))
  obtain ⟨e0, he0⟩ : ∃ e0, enc (ix : Int) = e0 := ⟨_, rfl⟩
  rw [he0] at EL SE ⊢
  have hls : e0.length ≤ 9 := EL.out.2
  clear hN hr3 ho3 hru hv1 H0 HU he0
  go_loopw [14, 13] (fun c s wr => ∃ j : Nat, j ≤ 68 ∧ c = .int .i64 (j : Int) ∧ s = .string ⟨(e0 ++ vals (chainV seed ix (digs dm)) j).toArray⟩ ∧ Rd wr 1 vd 68 (nv (digs dm)) ∧ Below wn.heap.size wn wr) (fun c _ _ => 68 - (intOf c).toNat)
  case atStart => exact ⟨0, by omega, rfl, by rw [vals_zero, List.append_nil], hrd, hb⟩
  case round =>
    obtain ⟨j, hj, rfl, rfl, hrd, hb⟩ := hrel
    have hvl := vals_len (f := chainV seed ix (digs dm)) (n := j) (fun c _ => chainV_len _ _ _ _)
    by_cases hlt : j < 68
    · obtain ⟨wo, rfl⟩ : ∃ wo : World, wo = wr := ⟨_, rfl⟩
      have JI := Lib.hid (i64_nat (show j ≤ 1000000 by omega))
      have hd3 := dg_le ML.out j
      have X := Lib.hid (nv_at (dg_at ML.out hlt))
      have CV := Lib.hid (show adv (ix : Int) (j : Int) 0 (dg (digs dm) j - 0) (startV seed ix j) = chainV seed ix (digs dm) j from rfl)
      obtain ⟨dq, hq⟩ : ∃ q, dg (digs dm) j = q := ⟨_, rfl⟩
      rw [hq] at hd3 X CV
      have S16 := Lib.hid (startV_len seed ix j)
      have F16 := Lib.hid (chainV_len seed ix (digs dm) j)
      have VS := Lib.hid (show e0 ++ vals (chainV seed ix (digs dm)) j ++ chainV seed ix (digs dm) j = e0 ++ vals (chainV seed ix (digs dm)) (j + 1) by rw [vals_succ, List.append_assoc])
      obtain ⟨ss, hss⟩ : ∃ s, e0 ++ vals (chainV seed ix (digs dm)) j = s := ⟨_, rfl⟩
      have hsl : ss.length ≤ 2000 := by rw [← hss, List.length_append]; omega
      rw [hss] at VS ⊢
      have BND := Lib.hid (show ss.length + (chainV seed ix (digs dm) j).length ≤ 9223372036854775807 by rw [F16.out]; omega)
      have hTo := hTb.below hb
      clear hq hvl hss
      have hdecj : decide ((j : Int) < 68) = true := decide_eq_true (by omega)
      go_upto_region 14 with fail
      clear hdecj
      refine wp_region_mono (w := wo) 14 (fun i => match i with | 0 => fun (vv : Value) (ww : World) => vv = .string ⟨ss.toArray⟩ | 1 => fun (vv : Value) (ww : World) => vv = .int .i64 (ix : Int) | 2 => fun (vv : Value) (ww : World) => vv = .int .i64 (j : Int) | 3 => fun (vv : Value) (ww : World) => vv = vd | 4 => fun (vv : Value) (ww : World) => vv = .int .i64 (j : Int) | 5 => fun (vv : Value) (ww : World) => vv = ep vd j | 6 => fun (vv : Value) (ww : World) => vv = .int .i64 (dq : Int) | 7 => fun (vv : Value) (ww : World) => vv = .string ⟨seed.toArray⟩ | 8 => fun (vv : Value) (ww : World) => vv = .int .i64 (ix : Int) | 9 => fun (vv : Value) (ww : World) => vv = .int .i64 (j : Int) | 10 => fun (vv : Value) (ww : World) => vv = .agg (bv (startV seed ix j)).toArray | 11 => fun (vv : Value) (ww : World) => vv = .agg (bv (chainV seed ix (digs dm) j)).toArray | 12 => fun (vv : Value) (ww : World) => vv = .string ⟨(chainV seed ix (digs dm) j).toArray⟩ | 13 => fun (vv : Value) (ww : World) => vv = .string ⟨(e0 ++ vals (chainV seed ix (digs dm)) (j + 1)).toArray⟩ | _ => fun _ _ => True) (by kernel_rfl) (by kernel_rfl) ?_ ?_ ?_
      · intro i vv w1 w2 h hb
        rcases i with _ | _ | _ | _ | _ | _ | _ | _ | _ | _ | _ | _ | _ | _ | i
        all_goals first | exact h | exact Rd.below h hb | exact own_below h hb | (obtain ⟨B, h1, h2, h3⟩ := h; exact ⟨B, h1, h2, Blk.below h3 hb (Blk.lt h3)⟩) | trivial
      · intro i o hi ho us wz hl hbz hd
        obtain ⟨u0, u1, u2, u3, u4, u5, u6, u7, u8, u9, u10, u11, u12, u13, rfl⟩ := len14 hl
        rcases i with _ | _ | _ | _ | _ | _ | _ | _ | _ | _ | _ | _ | _ | _ | i
        · simp only [List.getElem?_cons_succ, List.getElem?_cons_zero, Option.some.injEq] at ho; subst ho; clear hi hl
          clear hd
          simp only [List.take_succ_cons, List.take_zero, List.drop_succ_cons, List.drop_zero, List.map_cons, List.map_nil, puts, Act.put, List.setIfInBounds_toArray, List.set_cons_succ, List.set_cons_zero]
          go_wp2_with (fail)
          exact ⟨rfl, _, rfl, Below.refl _ _, rfl⟩
        · simp only [List.getElem?_cons_succ, List.getElem?_cons_zero, Option.some.injEq] at ho; subst ho; clear hi hl
          clear hd
          simp only [List.take_succ_cons, List.take_zero, List.drop_succ_cons, List.drop_zero, List.map_cons, List.map_nil, puts, Act.put, List.setIfInBounds_toArray, List.set_cons_succ, List.set_cons_zero]
          go_wp2_with (fail)
          exact ⟨rfl, _, rfl, Below.refl _ _, rfl⟩
        · simp only [List.getElem?_cons_succ, List.getElem?_cons_zero, Option.some.injEq] at ho; subst ho; clear hi hl
          clear hd
          simp only [List.take_succ_cons, List.take_zero, List.drop_succ_cons, List.drop_zero, List.map_cons, List.map_nil, puts, Act.put, List.setIfInBounds_toArray, List.set_cons_succ, List.set_cons_zero]
          go_wp2_with (fail)
          exact ⟨rfl, _, rfl, Below.refl _ _, rfl⟩
        · simp only [List.getElem?_cons_succ, List.getElem?_cons_zero, Option.some.injEq] at ho; subst ho; clear hi hl
          clear hd
          simp only [List.take_succ_cons, List.take_zero, List.drop_succ_cons, List.drop_zero, List.map_cons, List.map_nil, puts, Act.put, List.setIfInBounds_toArray, List.set_cons_succ, List.set_cons_zero]
          go_wp2_with (fail)
          exact ⟨rfl, _, rfl, Below.refl _ _, rfl⟩
        · simp only [List.getElem?_cons_succ, List.getElem?_cons_zero, Option.some.injEq] at ho; subst ho; clear hi hl
          clear hd
          simp only [List.take_succ_cons, List.take_zero, List.drop_succ_cons, List.drop_zero, List.map_cons, List.map_nil, puts, Act.put, List.setIfInBounds_toArray, List.set_cons_succ, List.set_cons_zero]
          go_wp2_with (fail)
          exact ⟨rfl, _, rfl, Below.refl _ _, rfl⟩
        · simp only [List.getElem?_cons_succ, List.getElem?_cons_zero, Option.some.injEq] at ho; subst ho; clear hi hl
          have s3 : (fun (vv : Value) (ww : World) => vv = vd) u3 wz := hd 3 (by kernel_rfl)
          simp only at s3
          obtain rfl := s3
          have s4 : (fun (vv : Value) (ww : World) => vv = .int .i64 (j : Int)) u4 wz := hd 4 (by kernel_rfl)
          simp only at s4
          obtain rfl := s4
          clear hd
          simp only [List.take_succ_cons, List.take_zero, List.drop_succ_cons, List.drop_zero, List.map_cons, List.map_nil, puts, Act.put, List.setIfInBounds_toArray, List.set_cons_succ, List.set_cons_zero]
          go_wp2_with (((with_reducible refine' wpList_at1_rd (.tmp 57) (.tmp 58) 25 rfl ?_ Tryd.underlying25 sz_int ?_ (hrd.below hbz) (j) ?_ ?_ ?_); exact rfl; exact rfl; (show (_ : Int) = _; omega); omega; simp only [Act.put, List.setIfInBounds_toArray, List.set_cons_succ, List.set_cons_zero]))
          exact ⟨rfl, _, rfl, Below.refl _ _, rfl⟩
        · simp only [List.getElem?_cons_succ, List.getElem?_cons_zero, Option.some.injEq] at ho; subst ho; clear hi hl
          have s5 : (fun (vv : Value) (ww : World) => vv = ep vd j) u5 wz := hd 5 (by kernel_rfl)
          simp only at s5
          obtain rfl := s5
          clear hd
          simp only [List.take_succ_cons, List.take_zero, List.drop_succ_cons, List.drop_zero, List.map_cons, List.map_nil, puts, Act.put, List.setIfInBounds_toArray, List.set_cons_succ, List.set_cons_zero]
          go_wp2_with (((with_reducible refine' wpList_load_rd (.tmp 59) 3 rfl ?_ ld_int ?_ (hrd.below hbz) (X.out) ?_); exact rfl; exact rfl; simp only [Act.put, List.setIfInBounds_toArray, List.set_cons_succ, List.set_cons_zero]))
          exact ⟨rfl, _, rfl, Below.refl _ _, rfl⟩
        · simp only [List.getElem?_cons_succ, List.getElem?_cons_zero, Option.some.injEq] at ho; subst ho; clear hi hl
          clear hd
          simp only [List.take_succ_cons, List.take_zero, List.drop_succ_cons, List.drop_zero, List.map_cons, List.map_nil, puts, Act.put, List.setIfInBounds_toArray, List.set_cons_succ, List.set_cons_zero]
          go_wp2_with (fail)
          exact ⟨rfl, _, rfl, Below.refl _ _, rfl⟩
        · simp only [List.getElem?_cons_succ, List.getElem?_cons_zero, Option.some.injEq] at ho; subst ho; clear hi hl
          clear hd
          simp only [List.take_succ_cons, List.take_zero, List.drop_succ_cons, List.drop_zero, List.map_cons, List.map_nil, puts, Act.put, List.setIfInBounds_toArray, List.set_cons_succ, List.set_cons_zero]
          go_wp2_with (fail)
          exact ⟨rfl, _, rfl, Below.refl _ _, rfl⟩
        · simp only [List.getElem?_cons_succ, List.getElem?_cons_zero, Option.some.injEq] at ho; subst ho; clear hi hl
          clear hd
          simp only [List.take_succ_cons, List.take_zero, List.drop_succ_cons, List.drop_zero, List.map_cons, List.map_nil, puts, Act.put, List.setIfInBounds_toArray, List.set_cons_succ, List.set_cons_zero]
          go_wp2_with (fail)
          exact ⟨rfl, _, rfl, Below.refl _ _, rfl⟩
        · simp only [List.getElem?_cons_succ, List.getElem?_cons_zero, Option.some.injEq] at ho; subst ho; clear hi hl
          have s7 : (fun (vv : Value) (ww : World) => vv = .string ⟨seed.toArray⟩) u7 wz := hd 7 (by kernel_rfl)
          simp only at s7
          obtain rfl := s7
          have s8 : (fun (vv : Value) (ww : World) => vv = .int .i64 (ix : Int)) u8 wz := hd 8 (by kernel_rfl)
          simp only at s8
          obtain rfl := s8
          have s9 : (fun (vv : Value) (ww : World) => vv = .int .i64 (j : Int)) u9 wz := hd 9 (by kernel_rfl)
          simp only at s9
          obtain rfl := s9
          clear hd
          simp only [List.take_succ_cons, List.take_zero, List.drop_succ_cons, List.drop_zero, List.map_cons, List.map_nil, puts, Act.put, List.setIfInBounds_toArray, List.set_cons_succ, List.set_cons_zero]
          go_wp2_with ((go_at_call 33; (with_reducible refine (refstart_any seed ix j _ (hTo.below hbz) I0.out JI.out hs).mono ?_); rintro e w' ⟨rfl, hq⟩))
          exact ⟨rfl, _, rfl, hq, rfl⟩
        · simp only [List.getElem?_cons_succ, List.getElem?_cons_zero, Option.some.injEq] at ho; subst ho; clear hi hl
          have s1 : (fun (vv : Value) (ww : World) => vv = .int .i64 (ix : Int)) u1 wz := hd 1 (by kernel_rfl)
          simp only at s1
          obtain rfl := s1
          have s2 : (fun (vv : Value) (ww : World) => vv = .int .i64 (j : Int)) u2 wz := hd 2 (by kernel_rfl)
          simp only at s2
          obtain rfl := s2
          have s6 : (fun (vv : Value) (ww : World) => vv = .int .i64 (dq : Int)) u6 wz := hd 6 (by kernel_rfl)
          simp only at s6
          obtain rfl := s6
          have s10 : (fun (vv : Value) (ww : World) => vv = .agg (bv (startV seed ix j)).toArray) u10 wz := hd 10 (by kernel_rfl)
          simp only at s10
          obtain rfl := s10
          clear hd
          simp only [List.take_succ_cons, List.take_zero, List.drop_succ_cons, List.drop_zero, List.map_cons, List.map_nil, puts, Act.put, List.setIfInBounds_toArray, List.set_cons_succ, List.set_cons_zero]
          go_wp2_with (((go_at_call 32; (with_reducible refine (refadvance_z ix j 0 dq 0 dq rfl rfl _ _ (hTo.below hbz) I0.out JI.out (by omega) (by omega) S16.out).mono ?_); rintro e w' ⟨rfl, hq⟩); rw [CV.out]))
          exact ⟨rfl, _, rfl, hq, rfl⟩
        · simp only [List.getElem?_cons_succ, List.getElem?_cons_zero, Option.some.injEq] at ho; subst ho; clear hi hl
          have s11 : (fun (vv : Value) (ww : World) => vv = .agg (bv (chainV seed ix (digs dm) j)).toArray) u11 wz := hd 11 (by kernel_rfl)
          simp only at s11
          obtain rfl := s11
          clear hd
          simp only [List.take_succ_cons, List.take_zero, List.drop_succ_cons, List.drop_zero, List.map_cons, List.map_nil, puts, Act.put, List.setIfInBounds_toArray, List.set_cons_succ, List.set_cons_zero]
          go_wp2_with ((go_at_call 31; (with_reducible refine (text_any (chainV seed ix (digs dm) j) _ F16.out).mono ?_); rintro e w' ⟨rfl, hq⟩))
          exact ⟨rfl, _, rfl, hq, rfl⟩
        · simp only [List.getElem?_cons_succ, List.getElem?_cons_zero, Option.some.injEq] at ho; subst ho; clear hi hl
          have s0 : (fun (vv : Value) (ww : World) => vv = .string ⟨ss.toArray⟩) u0 wz := hd 0 (by kernel_rfl)
          simp only at s0
          obtain rfl := s0
          have s12 : (fun (vv : Value) (ww : World) => vv = .string ⟨(chainV seed ix (digs dm) j).toArray⟩) u12 wz := hd 12 (by kernel_rfl)
          simp only at s12
          obtain rfl := s12
          clear hd
          simp only [List.take_succ_cons, List.take_zero, List.drop_succ_cons, List.drop_zero, List.map_cons, List.map_nil, puts, Act.put, List.setIfInBounds_toArray, List.set_cons_succ, List.set_cons_zero]
          go_wp2_with (((with_reducible refine' wpList_str_add (l := ss) (m := chainV seed ix (digs dm) j) (.tmp 54) (.tmp 66) 9 9 rfl ?_ ?_ ?_ ?_ ?_); exact rfl; exact rfl; exact rfl; exact BND.out; rw [VS.out]; simp only [Act.put, List.setIfInBounds_toArray, List.set_cons_succ, List.set_cons_zero]))
          exact ⟨rfl, _, rfl, Below.refl _ _, rfl⟩
        · omega
      intro us wz hl hbz hS
      obtain ⟨u0, u1, u2, u3, u4, u5, u6, u7, u8, u9, u10, u11, u12, u13, rfl⟩ := len14 hl
      have s13 : (fun (vv : Value) (ww : World) => vv = .string ⟨(e0 ++ vals (chainV seed ix (digs dm)) (j + 1)).toArray⟩) u13 wz := hS 13 (by omega)
      simp only at s13
      obtain rfl := s13
      clear hS hl
      simp only [List.take_succ_cons, List.take_zero, List.drop_succ_cons, List.drop_zero, List.map_cons, List.map_nil, puts, Act.put, List.setIfInBounds_toArray, List.set_cons_succ, List.set_cons_zero]
      go_wp2_with fail
      refine onlyN ?_
      go_wp2_with fail
      go_roundw
      case rel => exact ⟨j + 1, by omega, by go_num, rfl, hrd.below hbz, hb.trans (hbz.mono hb.size)⟩
      case measure => simp [intOf]; omega
    · obtain rfl : j = 68 := by omega
      obtain ⟨e1, he1⟩ : ∃ e1, e0 ++ vals (chainV seed ix (digs dm)) 68 = e1 := ⟨_, rfl⟩
      have hl1 : e1.length ≤ 2000 := by rw [← he1, List.length_append]; omega
      have hSE := SE.out
      rw [he1] at hSE ⊢
      have SE1 := Lib.hid hSE
      clear he1 hvl hSE hrd
      go_wp2_with fail
      go_loopw [16, 15, 13] (fun c i s wr => ∃ j : Nat, j ≤ l ∧ c = .int .i64 (j : Int) ∧ i = .int .i64 ((ix / 2 ^ j : Nat) : Int) ∧ s = .string ⟨(e1 ++ vals (fun l => nodeAt seed l (sib (ix / 2 ^ l))) j).toArray⟩ ∧ Below wn.heap.size wn wr) (fun c _ _ _ => l - (intOf c).toNat)
      case atStart => exact ⟨0, by omega, rfl, by rw [Nat.pow_zero, Nat.div_one], by rw [vals_zero, List.append_nil], hb⟩
      case round =>
        obtain ⟨j, hj, rfl, rfl, rfl, hb⟩ := hrel
        have hvl := vals_len (f := fun l => nodeAt seed l (sib (ix / 2 ^ l))) (n := j) (fun c _ => nodeAt_len _ _ _)
        by_cases hlt : j < l
        · obtain ⟨wo, rfl⟩ : ∃ wo : World, wo = wr := ⟨_, rfl⟩
          have hq := div_lt_pow HI.out hj
          rw [pow_half hlt] at hq
          obtain ⟨u, hu, hLu0⟩ := HLL.out.2 j (by omega)
          rw [pow_half hlt] at hLu0
          have hLu : Lv wo u seed j (2 * 2 ^ (l - (j + 1))) := own_below hLu0 hb
          have H0 := lv_head hLu (sib_lt hq)
          have hru := Rd.of_own hLu
          have hvr := hv1o.below hb
          have hq64 : ix / 2 ^ j < 64 := Nat.lt_of_le_of_lt (Nat.div_le_self _ _) (by omega)
          have hslt := sib_lt hq
          have VS := Lib.hid (show e1 ++ vals (fun l => nodeAt seed l (sib (ix / 2 ^ l))) j ++ nodeAt seed j (sib (ix / 2 ^ j)) = e1 ++ vals (fun l => nodeAt seed l (sib (ix / 2 ^ l))) (j + 1) by rw [vals_succ, List.append_assoc])
          have DS := Lib.hid (div_step ix j)
          obtain ⟨ss, hss⟩ : ∃ s, e1 ++ vals (fun l => nodeAt seed l (sib (ix / 2 ^ l))) j = s := ⟨_, rfl⟩
          have hsl : ss.length ≤ 3000 := by rw [← hss, List.length_append]; omega
          obtain ⟨n, hn⟩ : ∃ n, ix / 2 ^ j = n := ⟨_, rfl⟩
          obtain ⟨n3, hn3⟩ : ∃ n3, 2 * 2 ^ (l - (j + 1)) = n3 := ⟨_, rfl⟩
          obtain ⟨sb, hsj⟩ : ∃ s, sib n = s := ⟨_, rfl⟩
          rw [hn] at H0 hq64 VS DS hslt ⊢
          rw [hsj] at H0 VS hslt
          rw [hn3] at H0 hru hslt
          rw [hss] at VS ⊢
          have H0 := Lib.hid H0
          have HU := Lib.hid hu
          have NJ := Lib.hid (nodeAt_len seed j sb)
          have BND := Lib.hid (show ss.length + (nodeAt seed j sb).length ≤ 9223372036854775807 by rw [NJ.out]; omega)
          clear hq hu hLu0 hLu hn hn3 hss hvl
          by_cases hodd : n % 2 = 1
          · skip
            have hpar : ((n : Int) % 2 == 1) = true := by simp; omega
            have hsb : sb + 1 = n := by rw [← hsj]; unfold sib; simp [hodd]; omega
            have hsb1 : sb + 1 ≤ n := by omega
            have hsb2 : n ≤ sb + 1 := by omega
            have HSJ := Lib.hid hsj
            clear hodd hsb hsj
            go_wp2_with (first
              | ((with_reducible refine' wpList_at1_rd (.tmp 82) (.tmp 83) 49 rfl ?_ Tryd.underlying49 sz_digl ?_ hvr (j) ?_ ?_ ?_); exact rfl; exact rfl; (show (_ : Int) = _; omega); omega; simp only [Act.put, List.setIfInBounds_toArray, List.set_cons_succ, List.set_cons_zero]) | ((with_reducible refine' wpList_load_rd (.tmp 84) 48 rfl ?_ ld_digl ?_ hvr (HU.out) ?_); exact rfl; exact rfl; simp only [Act.put, List.setIfInBounds_toArray, List.set_cons_succ, List.set_cons_zero]) | ((with_reducible refine' wpList_at_rd (.tmp 85) (.tmp 86) 48 rfl ?_ Tryd.underlying48 sz_dig ?_ hru (by decide) (sb) ?_ ?_ ?_); exact rfl; exact rfl; (show (_ : Int) = _; omega); omega; simp only [Act.put, List.setIfInBounds_toArray, List.set_cons_succ, List.set_cons_zero]) | (((with_reducible refine' wpList_load_arr (.tmp 87) 23 rfl ?_ Tryd.underlying23 sz_dig (sb * 16) ?_ hru ?_ (by decide) ?_); exact rfl; exact rfl; exact H0.out.1; simp only [Act.put, List.setIfInBounds_toArray, List.set_cons_succ, List.set_cons_zero]); rw [H0.out.2])
              | ((go_at_call 31; (with_reducible refine (text_any (nodeAt seed j sb) _ NJ.out).mono ?_); rintro e w' ⟨rfl, hN⟩); replace hb := hb.trans ((by exact hN : Below _ _ _).mono hb.size))
              | ((with_reducible refine' wpList_str_add (l := ss) (m := nodeAt seed j sb) (.tmp 81) (.tmp 89) 9 9 rfl ?_ ?_ ?_ ?_ ?_); exact rfl; exact rfl; exact rfl; exact BND.out; rw [VS.out]; simp only [Act.put, List.setIfInBounds_toArray, List.set_cons_succ, List.set_cons_zero]))
            go_roundw
            case rel => (first | exact ⟨j + 1, by omega, by go_num, by rw [← DS.out]; go_num, rfl, hb⟩ | ((repeat apply Exists.intro); exact ⟨⟨j + 1, by omega, by go_num, by rw [← DS.out]; go_num, rfl, hb⟩, rfl⟩))
            case measure => simp [intOf]; omega
          · skip
            have hpar : ((n : Int) % 2 == 1) = false := by simp; omega
            have hsb : sb = n + 1 := by rw [← hsj]; unfold sib; simp [hodd]
            have hsb1 : sb ≤ n + 1 := by omega
            have hsb2 : n + 1 ≤ sb := by omega
            have HSJ := Lib.hid hsj
            clear hodd hsb hsj
            go_wp2_with (first
              | ((with_reducible refine' wpList_at1_rd (.tmp 82) (.tmp 83) 49 rfl ?_ Tryd.underlying49 sz_digl ?_ hvr (j) ?_ ?_ ?_); exact rfl; exact rfl; (show (_ : Int) = _; omega); omega; simp only [Act.put, List.setIfInBounds_toArray, List.set_cons_succ, List.set_cons_zero]) | ((with_reducible refine' wpList_load_rd (.tmp 84) 48 rfl ?_ ld_digl ?_ hvr (HU.out) ?_); exact rfl; exact rfl; simp only [Act.put, List.setIfInBounds_toArray, List.set_cons_succ, List.set_cons_zero]) | ((with_reducible refine' wpList_at_rd (.tmp 85) (.tmp 86) 48 rfl ?_ Tryd.underlying48 sz_dig ?_ hru (by decide) (sb) ?_ ?_ ?_); exact rfl; exact rfl; (show (_ : Int) = _; omega); omega; simp only [Act.put, List.setIfInBounds_toArray, List.set_cons_succ, List.set_cons_zero]) | (((with_reducible refine' wpList_load_arr (.tmp 87) 23 rfl ?_ Tryd.underlying23 sz_dig (sb * 16) ?_ hru ?_ (by decide) ?_); exact rfl; exact rfl; exact H0.out.1; simp only [Act.put, List.setIfInBounds_toArray, List.set_cons_succ, List.set_cons_zero]); rw [H0.out.2])
              | ((go_at_call 31; (with_reducible refine (text_any (nodeAt seed j sb) _ NJ.out).mono ?_); rintro e w' ⟨rfl, hN⟩); replace hb := hb.trans ((by exact hN : Below _ _ _).mono hb.size))
              | ((with_reducible refine' wpList_str_add (l := ss) (m := nodeAt seed j sb) (.tmp 81) (.tmp 89) 9 9 rfl ?_ ?_ ?_ ?_ ?_); exact rfl; exact rfl; exact rfl; exact BND.out; rw [VS.out]; simp only [Act.put, List.setIfInBounds_toArray, List.set_cons_succ, List.set_cons_zero]))
            go_roundw
            case rel => (first | exact ⟨j + 1, by omega, by go_num, by rw [← DS.out]; go_num, rfl, hb⟩ | ((repeat apply Exists.intro); exact ⟨⟨j + 1, by omega, by go_num, by rw [← DS.out]; go_num, rfl, hb⟩, rfl⟩))
            case measure => simp [intOf]; omega
        · obtain rfl : j = l := by omega
          have SE2 := SE1.out
          obtain ⟨e2, he2⟩ : ∃ e2, e1 ++ vals (fun l => nodeAt seed l (sib (ix / 2 ^ l))) j = e2 := ⟨_, rfl⟩
          rw [he2] at SE2 ⊢
          have SE3 := Lib.hid SE2
          clear SE2 he2 hvl
          go_wp2_with fail
          go_ret2
          exact ⟨by rw [SE3.out]; rfl, hb0.trans (hb.mono hb0.size)⟩
set_option maxRecDepth 100000 in
theorem refsign_any (seed m : List UInt8) (h i : Int) (w : World) (hT : TabR w) (hs : seed.length ≤ 1000000) (hm : m.length ≤ 140737488355328) :
    Calls Tryd.prog 15 #[.string ⟨seed.toArray⟩, .int .i64 h, .int .i64 i, .string ⟨m.toArray⟩] w fun e w' => e = .returned (S2 (signV seed h i m)) ∧ Below w.heap.size w w' := by
  have hsm := size_str m
  by_cases hg : seed.length = 32 ∧ 0 ≤ h ∧ h ≤ 6
  · obtain ⟨h32, h0, h6⟩ := hg
    obtain ⟨l, rfl⟩ : ∃ l : Nat, h = (l : Int) := ⟨h.toNat, by omega⟩
    have hl6 : l ≤ 6 := by omega
    have hv : okF seed.length (l : Int) = true := decide_eq_true ⟨h32, h0, h6⟩
    have hpw := wrap_pow hl6
    by_cases hsp : i < 0 ∨ 2 ^ (l : Int).toNat ≤ i
    · have HB := Lib.hid (sign_spent (m := m) ⟨h32, h0, h6⟩ hsp)
      obtain ⟨K, hK⟩ : ∃ K : Nat, 2 ^ l = K := ⟨_, rfl⟩
      have hsp2 : i < 0 ∨ (K : Int) ≤ i := by
        rcases hsp with h | h
        · exact .inl h
        · right; rw [← hK]; push_cast; simpa using h
      rw [hK] at hpw
      clear hsp hK h32
      by_cases hi0 : i < 0
      · go_enter Tryd.func15, Tryd.ntmps15
        go_wp2_with ((go_at_call 23; (with_reducible refine (fits_any seed (l : Int) _).mono ?_); rintro e w' ⟨rfl, rfl⟩); rw [hv])
        go_ret2
        exact ⟨by rw [HB.out]; rfl, Below.refl _ _⟩
      · have hi1 : (K : Int) ≤ i := hsp2.resolve_left hi0
        have hi2 : 0 ≤ i := by omega
        clear hsp2 hi0
        go_enter Tryd.func15, Tryd.ntmps15
        go_wp2_with ((go_at_call 23; (with_reducible refine (fits_any seed (l : Int) _).mono ?_); rintro e w' ⟨rfl, rfl⟩); rw [hv])
        go_ret2
        exact ⟨by rw [HB.out]; rfl, Below.refl _ _⟩
    · by_cases hlong : 1048576 < m.length
      · have HB := Lib.hid (sign_long ⟨h32, h0, h6⟩ hsp hlong)
        obtain ⟨K, hK⟩ : ∃ K : Nat, 2 ^ l = K := ⟨_, rfl⟩
        have hi0 : 0 ≤ i := by omega
        have hi1 : i < (K : Int) := by
          rw [← hK]; push_cast
          have := fun h => hsp (.inr h)
          simpa using this
        rw [hK] at hpw
        clear hsp hK h32
        go_enter Tryd.func15, Tryd.ntmps15
        go_wp2_with ((go_at_call 23; (with_reducible refine (fits_any seed (l : Int) _).mono ?_); rintro e w' ⟨rfl, rfl⟩); rw [hv])
        go_ret2
        exact ⟨by rw [HB.out]; rfl, Below.refl _ _⟩
      · have hGd := sign_good (m := m) ⟨h32, h0, h6⟩ hsp hlong
        obtain ⟨ix, rfl⟩ : ∃ ix : Nat, i = (ix : Int) := ⟨i.toNat, by omega⟩
        have hi : ix < 2 ^ l := by
          have : ¬(2 ^ (l : Int).toNat ≤ (ix : Int)) := fun h => hsp (.inr h)
          simp at this
          exact_mod_cast this
        rw [hGd]
        exact refsign_main seed m l ix w hT h32 hl6 hi (by omega)
  · have HB := Lib.hid (sign_short (m := m) (i := i) hg)
    have hv : okF seed.length h = false := decide_eq_false hg
    clear hg
    go_enter Tryd.func15, Tryd.ntmps15
    go_wp2_with ((go_at_call 23; (with_reducible refine (fits_any seed h _).mono ?_); rintro e w' ⟨rfl, rfl⟩); rw [hv])
    go_ret2
    exact ⟨by rw [HB.out]; rfl, Below.refl _ _⟩
end Go.Proofs.YtajglgkjpagcjaaDoor.Wi
namespace Go.Proofs.YtajglgkjpagcjaaDoor.Wi
open Go Go.RowKit Pu Lb
set_option linter.unusedSimpArgs false
set_option linter.unusedVariables false
attribute [local irreducible] comp sched comps sha outS mac digOf encInts adv startV nodeAt
theorem pt16_drop (rest : List UInt8) (k : Nat) : (rest.drop (16 * k)).take 16 = pt16 rest k := rfl
attribute [local irreducible] pt16
set_option maxRecDepth 100000 in
set_option maxHeartbeats 1000000 in
theorem refver_main (p m sig : List UInt8) (l ix used : Nat) (w : World) (hT : TabR w) (hp : p.length = 16) (hl6 : l ≤ 6) (hm : m.length ≤ 1048576) (hsg : sig.length ≤ 1000000) (hget : getInt sig = ((ix : Int), used, 0)) (hi : ix < 2 ^ l) (hlen : (sig.drop used).length = (68 + l) * 16) :
    Calls Tryd.prog 19 #[.agg (bv p).toArray, .int .i64 (l : Int), .string ⟨m.toArray⟩, .string ⟨sig.toArray⟩] w fun e w' => e = .returned (RZ (verR p l ix m (sig.drop used))) ∧ Below w.heap.size w w' := by
  have hsm := size_str m
  have hpw := wrap_pow hl6
  have hp6 : 2 ^ l ≤ 2 ^ 6 := Nat.pow_le_pow_right (by decide) hl6
  obtain ⟨K, hK⟩ : ∃ K : Nat, 2 ^ l = K := ⟨_, rfl⟩
  rw [hK] at hpw hi hp6
  have hK64 : K ≤ 64 := hp6
  obtain ⟨_, _, hu, _⟩ := enc_get hget
  have PB := Lib.hid (show (bv p).length = 16 by rw [bv_length, hp])
  have P16 := Lib.hid hp
  have I0 := Lib.hid (i64_nat (show ix ≤ 1000000 by omega))
  have HG := Lib.hid hget
  have ML := Lib.hid (msgD_len p ix m)
  have RT := Lib.hid (show rootV p l ix m (sig.drop used) = wayUp ix (sig.drop used) (leafD (vals (endV ix (digs (msgD p ix m)) (sig.drop used)) 68)) l from rfl)
  obtain ⟨rest, hrest⟩ : ∃ rest, sig.drop used = rest := ⟨_, rfl⟩
  obtain ⟨dm, hdm⟩ : ∃ dm, msgD p ix m = dm := ⟨_, rfl⟩
  rw [hdm] at ML RT
  rw [hrest] at hlen RT ⊢
  have HDM := Lib.hid hdm
  have HRS := Lib.hid hrest
  have hsr := size_str rest
  have hlt1 : ((rest.length : Int) != (68 + (l : Int)) * 16) = false := by rw [hlen]; simp
  have hd0 : decide ((l : Int) < 0) = false := decide_eq_false (by omega)
  have hd6 : decide (6 < (l : Int)) = false := decide_eq_false (by omega)
  have hdec1 : decide ((ix : Int) < 0) = false := decide_eq_false (by omega)
  have hdec2 : decide (K ≤ ix) = false := decide_eq_false (by omega)
  clear hdm hrest hK hp6 hget hp
  have hb := Below.refl w.heap.size w
  go_enter Tryd.func19, Tryd.ntmps19
  go_upto_region 11 with (first
    | (((with_reducible refine' wpList_boxa (cs := bv p) 23 (.tmp 0) rfl ?_ ?_ ?_); exact rfl; exact rfl; intro w1 hk4 hN hz1; simp only [Act.put, List.setIfInBounds_toArray, List.set_cons_succ, List.set_cons_zero]); replace hb := hb.trans ((by exact hN : Below _ _ _).mono hb.size); clear hz1)
    | (((with_reducible refine' wpList_bytes_l (l := sig) (.tmp 32) 9 52 rfl ?_ Tryd.underlying9 Tryd.underlying52 Tryd.underlying5 ?_ ((by unfold maxLen; omega)) ?_); exact rfl; exact rfl; intro v2 w2 r2 hN; simp only [Act.put, List.setIfInBounds_toArray, List.set_cons_succ, List.set_cons_zero]); replace hb := hb.trans ((by exact hN : Below _ _ _).mono hb.size); (try replace hk4 := Blk.below hk4 hN (Blk.lt hk4)))
    | ((go_at_call 41; (with_reducible refine (refget_any v2 _ sig _ r2).mono ?_); rintro e w' ⟨rfl, hN⟩); rw [HG.out]; unfold R3; simp only; replace hb := hb.trans ((by exact hN : Below _ _ _).mono hb.size); (try replace hk4 := Blk.below hk4 hN (Blk.lt hk4)); have hTb := hT.below hb)
    | (((with_reducible refine' wpList_str_from (.tmp 41) (.tmp 42) 9 rfl ?_ Tryd.underlying9 (l := sig) ?_ (used) ?_ ?_ ?_); exact rfl; exact rfl; (show (_ : Int) = _; omega); exact hu; simp only [Act.put, List.setIfInBounds_toArray, List.set_cons_succ, List.set_cons_zero]); rw [HRS.out]))
  clear hlt1 hd0 hd6 hdec1 hdec2 hpw
  have hn : 1088 ≤ rest.length := by omega
  have EL := Lib.hid (show ∀ c, c < 68 → (endV ix (digs dm) rest c).length = 16 from fun c hc => by unfold endV; exact adv_len _ _ _ _ (pt16_len (by omega)))
  go_wp2_with (first
    | ((with_reducible refine' wpList_loadall_blk (.tmp 4) 23 rfl ?_ Tryd.underlying23 sz_dig ?_ hk4 ?_ ?_ ?_); exact rfl; exact rfl; exact PB.out; omega; simp only [Act.put, List.setIfInBounds_toArray, List.set_cons_succ, List.set_cons_zero])
    | ((go_at_call 17; (with_reducible refine (refmsg_any p (ix : Int) m _ hTb P16.out I0.out (by omega)).mono ?_); rintro e w' ⟨rfl, hN⟩); rw [HDM.out]; replace hb := hb.trans ((by exact hN : Below _ _ _).mono hb.size); (try replace hk4 := Blk.below hk4 hN (Blk.lt hk4)))
    | ((go_at_call 11; (with_reducible refine (refdigits_any dm _ ML.out).mono ?_); rintro e w' ⟨vd, rfl, hrd, hN⟩); replace hb := hb.trans ((by exact hN : Below _ _ _).mono hb.size); (try replace hk4 := Blk.below hk4 hN (Blk.lt hk4))))
  clear hTb hN
  go_loopw [16, 15] (fun c s wr => ∃ j : Nat, j ≤ 68 ∧ c = .int .i64 (j : Int) ∧ s = .string ⟨(vals (endV ix (digs dm) rest) j).toArray⟩ ∧ Rd wr 1 vd 68 (nv (digs dm)) ∧ Blk wr w.heap.size 23 (bv p) ∧ Below w.heap.size w wr) (fun c _ _ => 68 - (intOf c).toNat)
  case atStart => exact ⟨0, by omega, rfl, rfl, hrd, hk4, hb⟩
  case round =>
    obtain ⟨j, hj, rfl, rfl, hrd, hk4, hb⟩ := hrel
    have hvl := vals_len (f := endV ix (digs dm) rest) (n := j) (fun c hc => EL.out c (by omega))
    by_cases hlt : j < 68
    · obtain ⟨wo, rfl⟩ : ∃ wo : World, wo = wr := ⟨_, rfl⟩
      have JI := Lib.hid (i64_nat (show j ≤ 1000000 by omega))
      have hd3 := dg_le ML.out j
      have X := Lib.hid (nv_at (dg_at ML.out hlt))
      obtain ⟨dq, hq⟩ : ∃ q, dg (digs dm) j = q := ⟨_, rfl⟩
      have EV := Lib.hid (endV_eq ix j (digs dm) rest hq)
      rw [hq] at hd3 X
      have F16 := Lib.hid (EL.out j hlt)
      have VS := Lib.hid (show vals (endV ix (digs dm) rest) j ++ endV ix (digs dm) rest j = vals (endV ix (digs dm) rest) (j + 1) by rw [vals_succ])
      obtain ⟨ss, hss⟩ : ∃ s, vals (endV ix (digs dm) rest) j = s := ⟨_, rfl⟩
      have hsl : ss.length ≤ 2000 := by rw [← hss]; omega
      rw [hss] at VS ⊢
      have BND := Lib.hid (show ss.length + (endV ix (digs dm) rest j).length ≤ 9223372036854775807 by rw [F16.out]; omega)
      have hTo := hT.below hb
      have PD := Lib.hid (pt16_drop rest j)
      have P6 := Lib.hid (pt16_len (rest := rest) (k := j) (by omega))
      obtain ⟨j16, hj16⟩ : ∃ k, 16 * j = k := ⟨_, rfl⟩
      have hj1 : j16 ≤ 16 * j := by omega
      have hj2 : 16 * j ≤ j16 := by omega
      rw [hj16] at PD
      have hdl : 16 ≤ (rest.drop j16).length := by rw [List.length_drop]; omega
      have hjr : j16 ≤ rest.length := by omega
      have HDL := Lib.hid hdl
      have hdecj : decide ((j : Int) < 68) = true := decide_eq_true (by omega)
      clear hq hvl hss hj16 hdl
      go_upto_region 16 with fail
      clear hdecj
      refine wp_region_mono (w := wo) 15 (fun i => match i with | 0 => fun (vv : Value) (ww : World) => vv = .string ⟨ss.toArray⟩ | 1 => fun (vv : Value) (ww : World) => vv = .int .i64 (ix : Int) | 2 => fun (vv : Value) (ww : World) => vv = .int .i64 (j : Int) | 3 => fun (vv : Value) (ww : World) => vv = vd | 4 => fun (vv : Value) (ww : World) => vv = .int .i64 (j : Int) | 5 => fun (vv : Value) (ww : World) => vv = ep vd j | 6 => fun (vv : Value) (ww : World) => vv = .int .i64 (dq : Int) | 7 => fun (vv : Value) (ww : World) => vv = .string ⟨rest.toArray⟩ | 8 => fun (vv : Value) (ww : World) => vv = .int .i64 (j : Int) | 9 => fun (vv : Value) (ww : World) => vv = .int .i64 (j16 : Int) | 10 => fun (vv : Value) (ww : World) => vv = .string ⟨(rest.drop j16).toArray⟩ | 11 => fun (vv : Value) (ww : World) => vv = .agg (bv (pt16 rest j)).toArray | 12 => fun (vv : Value) (ww : World) => vv = .agg (bv (endV ix (digs dm) rest j)).toArray | 13 => fun (vv : Value) (ww : World) => vv = .string ⟨(endV ix (digs dm) rest j).toArray⟩ | 14 => fun (vv : Value) (ww : World) => vv = .string ⟨(vals (endV ix (digs dm) rest) (j + 1)).toArray⟩ | _ => fun _ _ => True) (by kernel_rfl) (by kernel_rfl) ?_ ?_ ?_
      · intro i vv w1 w2 h hb
        rcases i with _ | _ | _ | _ | _ | _ | _ | _ | _ | _ | _ | _ | _ | _ | _ | i
        all_goals first | exact h | exact Rd.below h hb | exact own_below h hb | (obtain ⟨B, h1, h2, h3⟩ := h; exact ⟨B, h1, h2, Blk.below h3 hb (Blk.lt h3)⟩) | trivial
      · intro i o hi ho us wz hl hbz hd
        obtain ⟨u0, u1, u2, u3, u4, u5, u6, u7, u8, u9, u10, u11, u12, u13, u14, rfl⟩ := len15 hl
        rcases i with _ | _ | _ | _ | _ | _ | _ | _ | _ | _ | _ | _ | _ | _ | _ | i
        · simp only [List.getElem?_cons_succ, List.getElem?_cons_zero, Option.some.injEq] at ho; subst ho; clear hi hl
          clear hd
          simp only [List.take_succ_cons, List.take_zero, List.drop_succ_cons, List.drop_zero, List.map_cons, List.map_nil, puts, Act.put, List.setIfInBounds_toArray, List.set_cons_succ, List.set_cons_zero]
          go_wp2_with (fail)
          exact ⟨rfl, _, rfl, Below.refl _ _, rfl⟩
        · simp only [List.getElem?_cons_succ, List.getElem?_cons_zero, Option.some.injEq] at ho; subst ho; clear hi hl
          clear hd
          simp only [List.take_succ_cons, List.take_zero, List.drop_succ_cons, List.drop_zero, List.map_cons, List.map_nil, puts, Act.put, List.setIfInBounds_toArray, List.set_cons_succ, List.set_cons_zero]
          go_wp2_with (fail)
          exact ⟨rfl, _, rfl, Below.refl _ _, rfl⟩
        · simp only [List.getElem?_cons_succ, List.getElem?_cons_zero, Option.some.injEq] at ho; subst ho; clear hi hl
          clear hd
          simp only [List.take_succ_cons, List.take_zero, List.drop_succ_cons, List.drop_zero, List.map_cons, List.map_nil, puts, Act.put, List.setIfInBounds_toArray, List.set_cons_succ, List.set_cons_zero]
          go_wp2_with (fail)
          exact ⟨rfl, _, rfl, Below.refl _ _, rfl⟩
        · simp only [List.getElem?_cons_succ, List.getElem?_cons_zero, Option.some.injEq] at ho; subst ho; clear hi hl
          clear hd
          simp only [List.take_succ_cons, List.take_zero, List.drop_succ_cons, List.drop_zero, List.map_cons, List.map_nil, puts, Act.put, List.setIfInBounds_toArray, List.set_cons_succ, List.set_cons_zero]
          go_wp2_with (fail)
          exact ⟨rfl, _, rfl, Below.refl _ _, rfl⟩
        · simp only [List.getElem?_cons_succ, List.getElem?_cons_zero, Option.some.injEq] at ho; subst ho; clear hi hl
          clear hd
          simp only [List.take_succ_cons, List.take_zero, List.drop_succ_cons, List.drop_zero, List.map_cons, List.map_nil, puts, Act.put, List.setIfInBounds_toArray, List.set_cons_succ, List.set_cons_zero]
          go_wp2_with (fail)
          exact ⟨rfl, _, rfl, Below.refl _ _, rfl⟩
        · simp only [List.getElem?_cons_succ, List.getElem?_cons_zero, Option.some.injEq] at ho; subst ho; clear hi hl
          have s3 : (fun (vv : Value) (ww : World) => vv = vd) u3 wz := hd 3 (by kernel_rfl)
          simp only at s3
          obtain rfl := s3
          have s4 : (fun (vv : Value) (ww : World) => vv = .int .i64 (j : Int)) u4 wz := hd 4 (by kernel_rfl)
          simp only at s4
          obtain rfl := s4
          clear hd
          simp only [List.take_succ_cons, List.take_zero, List.drop_succ_cons, List.drop_zero, List.map_cons, List.map_nil, puts, Act.put, List.setIfInBounds_toArray, List.set_cons_succ, List.set_cons_zero]
          go_wp2_with (((with_reducible refine' wpList_at1_rd (.tmp 72) (.tmp 73) 25 rfl ?_ Tryd.underlying25 sz_int ?_ (hrd.below hbz) (j) ?_ ?_ ?_); exact rfl; exact rfl; (show (_ : Int) = _; omega); omega; simp only [Act.put, List.setIfInBounds_toArray, List.set_cons_succ, List.set_cons_zero]))
          exact ⟨rfl, _, rfl, Below.refl _ _, rfl⟩
        · simp only [List.getElem?_cons_succ, List.getElem?_cons_zero, Option.some.injEq] at ho; subst ho; clear hi hl
          have s5 : (fun (vv : Value) (ww : World) => vv = ep vd j) u5 wz := hd 5 (by kernel_rfl)
          simp only at s5
          obtain rfl := s5
          clear hd
          simp only [List.take_succ_cons, List.take_zero, List.drop_succ_cons, List.drop_zero, List.map_cons, List.map_nil, puts, Act.put, List.setIfInBounds_toArray, List.set_cons_succ, List.set_cons_zero]
          go_wp2_with (((with_reducible refine' wpList_load_rd (.tmp 74) 3 rfl ?_ ld_int ?_ (hrd.below hbz) (X.out) ?_); exact rfl; exact rfl; simp only [Act.put, List.setIfInBounds_toArray, List.set_cons_succ, List.set_cons_zero]))
          exact ⟨rfl, _, rfl, Below.refl _ _, rfl⟩
        · simp only [List.getElem?_cons_succ, List.getElem?_cons_zero, Option.some.injEq] at ho; subst ho; clear hi hl
          clear hd
          simp only [List.take_succ_cons, List.take_zero, List.drop_succ_cons, List.drop_zero, List.map_cons, List.map_nil, puts, Act.put, List.setIfInBounds_toArray, List.set_cons_succ, List.set_cons_zero]
          go_wp2_with (fail)
          exact ⟨rfl, _, rfl, Below.refl _ _, rfl⟩
        · simp only [List.getElem?_cons_succ, List.getElem?_cons_zero, Option.some.injEq] at ho; subst ho; clear hi hl
          clear hd
          simp only [List.take_succ_cons, List.take_zero, List.drop_succ_cons, List.drop_zero, List.map_cons, List.map_nil, puts, Act.put, List.setIfInBounds_toArray, List.set_cons_succ, List.set_cons_zero]
          go_wp2_with (fail)
          exact ⟨rfl, _, rfl, Below.refl _ _, rfl⟩
        · simp only [List.getElem?_cons_succ, List.getElem?_cons_zero, Option.some.injEq] at ho; subst ho; clear hi hl
          have s8 : (fun (vv : Value) (ww : World) => vv = .int .i64 (j : Int)) u8 wz := hd 8 (by kernel_rfl)
          simp only at s8
          obtain rfl := s8
          clear hd
          simp only [List.take_succ_cons, List.take_zero, List.drop_succ_cons, List.drop_zero, List.map_cons, List.map_nil, puts, Act.put, List.setIfInBounds_toArray, List.set_cons_succ, List.set_cons_zero]
          go_wp2_with (fail)
          exact ⟨rfl, _, rfl, Below.refl _ _, (by congr 1; omega)⟩
        · simp only [List.getElem?_cons_succ, List.getElem?_cons_zero, Option.some.injEq] at ho; subst ho; clear hi hl
          have s7 : (fun (vv : Value) (ww : World) => vv = .string ⟨rest.toArray⟩) u7 wz := hd 7 (by kernel_rfl)
          simp only at s7
          obtain rfl := s7
          have s9 : (fun (vv : Value) (ww : World) => vv = .int .i64 (j16 : Int)) u9 wz := hd 9 (by kernel_rfl)
          simp only at s9
          obtain rfl := s9
          clear hd
          simp only [List.take_succ_cons, List.take_zero, List.drop_succ_cons, List.drop_zero, List.map_cons, List.map_nil, puts, Act.put, List.setIfInBounds_toArray, List.set_cons_succ, List.set_cons_zero]
          go_wp2_with (((with_reducible refine' wpList_str_from (.tmp 76) (.tmp 78) 9 rfl ?_ Tryd.underlying9 (l := rest) ?_ (j16) ?_ ?_ ?_); exact rfl; exact rfl; (show (_ : Int) = _; omega); exact hjr; simp only [Act.put, List.setIfInBounds_toArray, List.set_cons_succ, List.set_cons_zero]))
          exact ⟨rfl, _, rfl, Below.refl _ _, rfl⟩
        · simp only [List.getElem?_cons_succ, List.getElem?_cons_zero, Option.some.injEq] at ho; subst ho; clear hi hl
          have s10 : (fun (vv : Value) (ww : World) => vv = .string ⟨(rest.drop j16).toArray⟩) u10 wz := hd 10 (by kernel_rfl)
          simp only at s10
          obtain rfl := s10
          clear hd
          simp only [List.take_succ_cons, List.take_zero, List.drop_succ_cons, List.drop_zero, List.map_cons, List.map_nil, puts, Act.put, List.setIfInBounds_toArray, List.set_cons_succ, List.set_cons_zero]
          go_wp2_with (((go_at_call 42; (with_reducible refine (refdigest_any (rest.drop j16) _ HDL.out).mono ?_); rintro e w' ⟨rfl, hq⟩); rw [PD.out]))
          exact ⟨rfl, _, rfl, hq, rfl⟩
        · simp only [List.getElem?_cons_succ, List.getElem?_cons_zero, Option.some.injEq] at ho; subst ho; clear hi hl
          have s1 : (fun (vv : Value) (ww : World) => vv = .int .i64 (ix : Int)) u1 wz := hd 1 (by kernel_rfl)
          simp only at s1
          obtain rfl := s1
          have s2 : (fun (vv : Value) (ww : World) => vv = .int .i64 (j : Int)) u2 wz := hd 2 (by kernel_rfl)
          simp only at s2
          obtain rfl := s2
          have s6 : (fun (vv : Value) (ww : World) => vv = .int .i64 (dq : Int)) u6 wz := hd 6 (by kernel_rfl)
          simp only at s6
          obtain rfl := s6
          have s11 : (fun (vv : Value) (ww : World) => vv = .agg (bv (pt16 rest j)).toArray) u11 wz := hd 11 (by kernel_rfl)
          simp only at s11
          obtain rfl := s11
          clear hd
          simp only [List.take_succ_cons, List.take_zero, List.drop_succ_cons, List.drop_zero, List.map_cons, List.map_nil, puts, Act.put, List.setIfInBounds_toArray, List.set_cons_succ, List.set_cons_zero]
          go_wp2_with (((go_at_call 32; (with_reducible refine (refadvance_z ix j dq 3 dq 3 rfl rfl _ _ (hTo.below hbz) I0.out JI.out (by omega) (by omega) P6.out).mono ?_); rintro e w' ⟨rfl, hq⟩); rw [EV.out]))
          exact ⟨rfl, _, rfl, hq, rfl⟩
        · simp only [List.getElem?_cons_succ, List.getElem?_cons_zero, Option.some.injEq] at ho; subst ho; clear hi hl
          have s12 : (fun (vv : Value) (ww : World) => vv = .agg (bv (endV ix (digs dm) rest j)).toArray) u12 wz := hd 12 (by kernel_rfl)
          simp only at s12
          obtain rfl := s12
          clear hd
          simp only [List.take_succ_cons, List.take_zero, List.drop_succ_cons, List.drop_zero, List.map_cons, List.map_nil, puts, Act.put, List.setIfInBounds_toArray, List.set_cons_succ, List.set_cons_zero]
          go_wp2_with ((go_at_call 31; (with_reducible refine (text_any (endV ix (digs dm) rest j) _ F16.out).mono ?_); rintro e w' ⟨rfl, hq⟩))
          exact ⟨rfl, _, rfl, hq, rfl⟩
        · simp only [List.getElem?_cons_succ, List.getElem?_cons_zero, Option.some.injEq] at ho; subst ho; clear hi hl
          have s0 : (fun (vv : Value) (ww : World) => vv = .string ⟨ss.toArray⟩) u0 wz := hd 0 (by kernel_rfl)
          simp only at s0
          obtain rfl := s0
          have s13 : (fun (vv : Value) (ww : World) => vv = .string ⟨(endV ix (digs dm) rest j).toArray⟩) u13 wz := hd 13 (by kernel_rfl)
          simp only at s13
          obtain rfl := s13
          clear hd
          simp only [List.take_succ_cons, List.take_zero, List.drop_succ_cons, List.drop_zero, List.map_cons, List.map_nil, puts, Act.put, List.setIfInBounds_toArray, List.set_cons_succ, List.set_cons_zero]
          go_wp2_with (((with_reducible refine' wpList_str_add (l := ss) (m := endV ix (digs dm) rest j) (.tmp 69) (.tmp 82) 9 9 rfl ?_ ?_ ?_ ?_ ?_); exact rfl; exact rfl; exact rfl; exact BND.out; rw [VS.out]; simp only [Act.put, List.setIfInBounds_toArray, List.set_cons_succ, List.set_cons_zero]))
          exact ⟨rfl, _, rfl, Below.refl _ _, rfl⟩
        · omega
      intro us wz hl hbz hS
      obtain ⟨u0, u1, u2, u3, u4, u5, u6, u7, u8, u9, u10, u11, u12, u13, u14, rfl⟩ := len15 hl
      have s14 : (fun (vv : Value) (ww : World) => vv = .string ⟨(vals (endV ix (digs dm) rest) (j + 1)).toArray⟩) u14 wz := hS 14 (by omega)
      simp only at s14
      obtain rfl := s14
      clear hS hl
      simp only [List.take_succ_cons, List.take_zero, List.drop_succ_cons, List.drop_zero, List.map_cons, List.map_nil, puts, Act.put, List.setIfInBounds_toArray, List.set_cons_succ, List.set_cons_zero]
      go_wp2_with fail
      refine onlyN ?_
      go_wp2_with fail
      go_roundw
      case rel => (first | exact ⟨j + 1, by omega, by go_num, rfl, hrd.below hbz, hk4.below hbz hk4.lt, hb.trans (hbz.mono hb.size)⟩ | ((repeat apply Exists.intro); exact ⟨⟨j + 1, by omega, by go_num, rfl, hrd.below hbz, hk4.below hbz hk4.lt, hb.trans (hbz.mono hb.size)⟩, rfl⟩))
      case measure => simp [intOf]; omega
    · obtain rfl : j = 68 := by omega
      obtain ⟨S, hS⟩ : ∃ S, vals (endV ix (digs dm) rest) 68 = S := ⟨_, rfl⟩
      have hSl : S.length = 1088 := by rw [← hS]; exact hvl
      rw [hS] at RT ⊢
      have hTo := hT.below hb
      have IL := Lib.hid (inp_len1 11 S (by omega))
      have DL := Lib.hid (show (bv (digOf 11 [S])).length = 16 by rw [bv_length, digOf_len])
      have D16 := Lib.hid (digOf_len 11 [S])
      have IL2 := Lib.hid (inp_len1 9 (digOf 11 [S]) (by rw [D16.out]; decide))
      have LE := Lib.hid (show digOf 9 [digOf 11 [S]] = leafD S from rfl)
      have LL := Lib.hid (show (bv (leafD S)).length = 16 by rw [bv_length, leafD_len])
      obtain ⟨dk, hdk⟩ : ∃ dk, digOf 11 [S] = dk := ⟨_, rfl⟩
      rw [hdk] at DL D16 IL2 LE
      have HDK := Lib.hid hdk
      obtain ⟨v0, hv0⟩ : ∃ v0, leafD S = v0 := ⟨_, rfl⟩
      have hv16 : v0.length = 16 := by rw [← hv0, leafD_len]
      rw [hv0] at LE LL RT
      clear hdk hv0 hS hvl hrd
      go_upto_region 18 with (first
        | (((with_reducible refine' wpList_build_cs (cs := sv [S]) rfl ?_ Tryd.underlying66 inf_str ?_ ?_ ?_ ?_ ?_ ?_); exact rfl; exact rfl; omega; omega; exact rfl; exact sv_one _; intro v7 w7 r7 hN; simp only [Act.put, List.setIfInBounds_toArray, List.set_cons_succ, List.set_cons_zero]); replace hb := hb.trans ((by exact hN : Below _ _ _).mono hb.size); (try replace hk4 := Blk.below hk4 hN (Blk.lt hk4)); have hT7 := hT.below hb)
        | ((go_at_call 35; (with_reducible refine (refof_any 11 v7 _ [S] _ hT7 r7 (by decide) (by decide) IL.out).mono ?_); rintro e w' ⟨rfl, hN⟩); rw [HDK.out]; replace hb := hb.trans ((by exact hN : Below _ _ _).mono hb.size); (try replace hk4 := Blk.below hk4 hN (Blk.lt hk4)))
        | (((with_reducible refine' wpList_alloc_blk (cs := List.replicate 16 (.int .u8 0)) 23 rfl ?_ zr_dig ?_ ?_); exact rfl; exact zeros_u8 16; intro w8 hk8 hN hz8; simp only [Act.put, List.setIfInBounds_toArray, List.set_cons_succ, List.set_cons_zero]); have hs8 := hb.size; have hR8 := hk4.lt; replace hb := hb.trans ((by exact hN : Below _ _ _).mono hb.size); (try replace hk4 := Blk.below hk4 hN (Blk.lt hk4)); clear hz8)
        | (((with_reducible refine' wpList_store_blk (cs := bv dk) 23 (.tmp 17) (.tmp 86) rfl ?_ ?_ ?_ hk8 sz_dig ?_ ?_ ?_ ?_); exact rfl; exact rfl; exact rfl; exact DL.out; exact List.length_replicate; exact bv_one _; intro w9 hk9 hO9 hz9; simp only [Act.put]); clear hz9; replace hk4 := hO9.blk hk4 (by omega); replace hb := hb.trans (hO9.below (by omega) hb.size)))
      go_wp2_with (first
        | ((with_reducible refine' wpList_loadall_blk (.tmp 17) 23 rfl ?_ Tryd.underlying23 sz_dig ?_ hk9 ?_ ?_ ?_); exact rfl; exact rfl; exact DL.out; omega; simp only [Act.put, List.setIfInBounds_toArray, List.set_cons_succ, List.set_cons_zero])
        | ((go_at_call 31; (with_reducible refine (text_any dk _ D16.out).mono ?_); rintro e w' ⟨rfl, hN⟩); replace hb := hb.trans ((by exact hN : Below _ _ _).mono hb.size); (try replace hk4 := Blk.below hk4 hN (Blk.lt hk4)))
        | (((with_reducible refine' wpList_build_cs (cs := sv [dk]) rfl ?_ Tryd.underlying66 inf_str ?_ ?_ ?_ ?_ ?_ ?_); exact rfl; exact rfl; omega; omega; exact rfl; exact sv_one _; intro v10 w10 r10 hN; simp only [Act.put, List.setIfInBounds_toArray, List.set_cons_succ, List.set_cons_zero]); replace hb := hb.trans ((by exact hN : Below _ _ _).mono hb.size); (try replace hk4 := Blk.below hk4 hN (Blk.lt hk4)); have hT10 := hT.below hb)
        | ((go_at_call 35; (with_reducible refine (refof_any 9 v10 _ [dk] _ hT10 r10 (by decide) (by decide) IL2.out).mono ?_); rintro e w' ⟨rfl, hN⟩); rw [LE.out]; replace hb := hb.trans ((by exact hN : Below _ _ _).mono hb.size); (try replace hk4 := Blk.below hk4 hN (Blk.lt hk4)); obtain ⟨wL, rfl⟩ : ∃ wL : World, wL = w' := ⟨_, rfl⟩)
        | (((with_reducible refine' wpList_alloc_blk (cs := List.replicate 16 (.int .u8 0)) 23 rfl ?_ zr_dig ?_ ?_); exact rfl; exact zeros_u8 16; intro w13 hk16 hN13 hz13; simp only [Act.put, List.setIfInBounds_toArray, List.set_cons_succ, List.set_cons_zero]); clear hz13)
        | (((with_reducible refine' wpList_store_blk (cs := bv v0) 23 (.tmp 18) (.tmp 90) rfl ?_ ?_ ?_ hk16 sz_dig ?_ ?_ ?_ ?_); exact rfl; exact rfl; exact rfl; exact LL.out; exact List.length_replicate; exact bv_one _; intro w14 hk16b hO14 hz14; simp only [Act.put]); clear hz14))
      have hX := hN13.trans (hO14.below (Nat.le_refl _) hN13.size)
      have hbL := hb
      have sL := hb.size
      clear hO14 hN13 hN hk16 hb hO9 hk9 hk8 r7 r10 hT7 hT10 hs8 hR8
      go_loopw [20, 19] (fun c i wr => ∃ j : Nat, j ≤ l ∧ c = .int .i64 (j : Int) ∧ i = .int .i64 ((ix / 2 ^ j : Nat) : Int) ∧ Blk wr wL.heap.size 23 (bv (wayUp ix rest v0 j)) ∧ Below wL.heap.size wL wr) (fun c _ _ => l - (intOf c).toNat)
      case atStart => exact ⟨0, by omega, rfl, by rw [Nat.pow_zero, Nat.div_one], hk16b, hX⟩
      case round =>
        obtain ⟨j, hj, rfl, rfl, hkV, hX⟩ := hrel
        have W16 := Lib.hid (wayUp_len ix rest hv16 j)
        have WB := Lib.hid (show (bv (wayUp ix rest v0 j)).length = 16 by rw [bv_length, W16.out])
        have q4 := hk4.below hX hk4.lt
        by_cases hlt : j < l
        · obtain ⟨wo, rfl⟩ : ∃ wo : World, wo = wr := ⟨_, rfl⟩
          have hq64 : ix / 2 ^ j < 64 := Nat.lt_of_le_of_lt (Nat.div_le_self _ _) (by omega)
          have hpl : (68 + j) * 16 + 16 ≤ rest.length := by omega
          have PT := Lib.hid (pt16_len (rest := rest) (k := 68 + j) hpl)
          have PTB := Lib.hid (show (bv (pt16 rest (68 + j))).length = 16 by rw [bv_length, PT.out])
          have PD := Lib.hid (pt16_drop rest (68 + j))
          have DS := Lib.hid (div_step ix j)
          obtain ⟨n, hn0⟩ : ∃ n, ix / 2 ^ j = n := ⟨_, rfl⟩
          rw [hn0] at hq64 DS ⊢
          obtain ⟨pq, hpq⟩ : ∃ pq, 68 + j = pq := ⟨_, rfl⟩
          have hpq1 : pq ≤ 68 + j := by omega
          have hpq2 : 68 + j ≤ pq := by omega
          rw [hpq] at PT PTB PD hpl
          obtain ⟨pq16, hpq16⟩ : ∃ k, 16 * pq = k := ⟨_, rfl⟩
          have hq1 : pq16 ≤ 16 * pq := by omega
          have hq2 : 16 * pq ≤ pq16 := by omega
          rw [hpq16] at PD
          have hpr : pq16 ≤ rest.length := by omega
          have HDL := Lib.hid (show 16 ≤ (rest.drop pq16).length by rw [List.length_drop]; omega)
          obtain ⟨cu, hcu⟩ : ∃ cu, wayUp ix rest v0 j = cu := ⟨_, rfl⟩
          rw [hcu] at W16 WB hkV
          have hb := hbL.trans (hX.mono hbL.size)
          have lV := hkV.lt
          clear hpq16 hpl
          by_cases hodd : n % 2 = 1
          · skip
            have hWS : wayUp ix rest v0 (j + 1) = nodeD (pt16 rest pq) (cu) := by rw [wayUp, if_pos (by rw [hn0]; exact hodd), hpq, hcu]
            have hpar : ((n : Int) % 2 == 1) = true := by simp; omega
            obtain ⟨nx, hnx⟩ : ∃ nx, wayUp ix rest v0 (j + 1) = nx := ⟨_, rfl⟩
            rw [hnx] at hWS
            have HW := Lib.hid hWS
            have NX := Lib.hid (show (bv nx).length = 16 by rw [bv_length, HW.out, nodeD_len])
            have HNX := Lib.hid hnx
            clear hWS hcu hpq hnx hodd hn0
            go_wp2_with (first
              | (((with_reducible refine' wpList_str_from (.tmp 97) (.tmp 100) 9 rfl ?_ Tryd.underlying9 (l := rest) ?_ (pq16) ?_ ?_ ?_); exact rfl; exact rfl; (show (_ : Int) = _; omega); exact hpr; simp only [Act.put, List.setIfInBounds_toArray, List.set_cons_succ, List.set_cons_zero]))
              | ((go_at_call 42; (with_reducible refine (refdigest_any (rest.drop pq16) _ HDL.out).mono ?_); rintro e w' ⟨rfl, hN⟩); rw [PD.out]; replace hb := hb.trans ((by exact hN : Below _ _ _).mono hb.size); (try replace q4 := Blk.below q4 hN (Blk.lt q4)); (try replace hkV := Blk.below hkV hN (Blk.lt hkV)); have hX2 := hX.trans (hN.mono hX.size))
              | (((with_reducible refine' wpList_alloc_blk (cs := List.replicate 16 (.int .u8 0)) 23 rfl ?_ zr_dig ?_ ?_); exact rfl; exact zeros_u8 16; intro w20 hk20 hN hz20; simp only [Act.put, List.setIfInBounds_toArray, List.set_cons_succ, List.set_cons_zero]); clear hz20; have l4 := q4.lt; have lV2 := hkV.lt; replace hb := hb.trans ((by exact hN : Below _ _ _).mono hb.size); (try replace q4 := Blk.below q4 hN (Blk.lt q4)); (try replace hkV := Blk.below hkV hN (Blk.lt hkV)); have hX3 := hX2.trans (hN.mono hX2.size))
              | (((with_reducible refine' wpList_store_blk (cs := bv (pt16 rest pq)) 23 (.tmp 21) (.tmp 102) rfl ?_ ?_ ?_ hk20 sz_dig ?_ ?_ ?_ ?_); exact rfl; exact rfl; exact rfl; exact PTB.out; exact List.length_replicate; exact bv_one _; intro w21 hk21 hO21 hz21; simp only [Act.put]); clear hz21; replace q4 := hO21.blk q4 (by omega); replace hkV := hO21.blk hkV (by omega); have sX2 := hX2.size; have hX4 := hX3.trans (hO21.below (by omega) hX3.size); have hb4 := hb.trans (hO21.below (by omega) hb.size); have hT4 := hT.below hb4)
              | ((with_reducible refine' wpList_loadall_blk (.tmp 21) 23 rfl ?_ Tryd.underlying23 sz_dig ?_ hk21 ?_ ?_ ?_); exact rfl; exact rfl; exact PTB.out; omega; simp only [Act.put, List.setIfInBounds_toArray, List.set_cons_succ, List.set_cons_zero]) | ((with_reducible refine' wpList_loadall_blk (.tmp 18) 23 rfl ?_ Tryd.underlying23 sz_dig ?_ hkV ?_ ?_ ?_); exact rfl; exact rfl; exact WB.out; omega; simp only [Act.put, List.setIfInBounds_toArray, List.set_cons_succ, List.set_cons_zero])
              | ((go_at_call 43; (with_reducible refine (refnode_any _ _ _ hT4 PT.out W16.out).mono ?_); rintro e w' ⟨rfl, hN⟩); rw [← HW.out]; have q4z := q4.below hN q4.lt; have hkVz := hkV.below hN hkV.lt; have hX5 := hX4.trans (hN.mono hX4.size))
              | ((with_reducible refine' wpList_store_blk (cs := bv nx) 23 (.tmp 18) (.tmp 108) rfl ?_ ?_ ?_ hkVz sz_dig ?_ ?_ ?_ ?_); exact rfl; exact rfl; exact rfl; exact NX.out; exact WB.out; exact bv_one _; intro w22 hk22 hO22 hz22; simp only [Act.put]))
            go_roundw
            case rel => (first | exact ⟨j + 1, by omega, by go_num, by rw [← DS.out]; go_num, by rw [HNX.out]; exact hk22, hX5.trans (hO22.below (Nat.le_refl _) hX5.size)⟩ | ((repeat apply Exists.intro); exact ⟨⟨j + 1, by omega, by go_num, by rw [← DS.out]; go_num, by rw [HNX.out]; exact hk22, hX5.trans (hO22.below (Nat.le_refl _) hX5.size)⟩, rfl⟩))
            case measure => simp [intOf]; omega
          · skip
            have hWS : wayUp ix rest v0 (j + 1) = nodeD (cu) (pt16 rest pq) := by rw [wayUp, if_neg (by rw [hn0]; exact hodd), hpq, hcu]
            have hpar : ((n : Int) % 2 == 1) = false := by simp; omega
            obtain ⟨nx, hnx⟩ : ∃ nx, wayUp ix rest v0 (j + 1) = nx := ⟨_, rfl⟩
            rw [hnx] at hWS
            have HW := Lib.hid hWS
            have NX := Lib.hid (show (bv nx).length = 16 by rw [bv_length, HW.out, nodeD_len])
            have HNX := Lib.hid hnx
            clear hWS hcu hpq hnx hodd hn0
            go_wp2_with (first
              | (((with_reducible refine' wpList_str_from (.tmp 97) (.tmp 100) 9 rfl ?_ Tryd.underlying9 (l := rest) ?_ (pq16) ?_ ?_ ?_); exact rfl; exact rfl; (show (_ : Int) = _; omega); exact hpr; simp only [Act.put, List.setIfInBounds_toArray, List.set_cons_succ, List.set_cons_zero]))
              | ((go_at_call 42; (with_reducible refine (refdigest_any (rest.drop pq16) _ HDL.out).mono ?_); rintro e w' ⟨rfl, hN⟩); rw [PD.out]; replace hb := hb.trans ((by exact hN : Below _ _ _).mono hb.size); (try replace q4 := Blk.below q4 hN (Blk.lt q4)); (try replace hkV := Blk.below hkV hN (Blk.lt hkV)); have hX2 := hX.trans (hN.mono hX.size))
              | (((with_reducible refine' wpList_alloc_blk (cs := List.replicate 16 (.int .u8 0)) 23 rfl ?_ zr_dig ?_ ?_); exact rfl; exact zeros_u8 16; intro w20 hk20 hN hz20; simp only [Act.put, List.setIfInBounds_toArray, List.set_cons_succ, List.set_cons_zero]); clear hz20; have l4 := q4.lt; have lV2 := hkV.lt; replace hb := hb.trans ((by exact hN : Below _ _ _).mono hb.size); (try replace q4 := Blk.below q4 hN (Blk.lt q4)); (try replace hkV := Blk.below hkV hN (Blk.lt hkV)); have hX3 := hX2.trans (hN.mono hX2.size))
              | (((with_reducible refine' wpList_store_blk (cs := bv (pt16 rest pq)) 23 (.tmp 21) (.tmp 102) rfl ?_ ?_ ?_ hk20 sz_dig ?_ ?_ ?_ ?_); exact rfl; exact rfl; exact rfl; exact PTB.out; exact List.length_replicate; exact bv_one _; intro w21 hk21 hO21 hz21; simp only [Act.put]); clear hz21; replace q4 := hO21.blk q4 (by omega); replace hkV := hO21.blk hkV (by omega); have sX2 := hX2.size; have hX4 := hX3.trans (hO21.below (by omega) hX3.size); have hb4 := hb.trans (hO21.below (by omega) hb.size); have hT4 := hT.below hb4)
              | ((with_reducible refine' wpList_loadall_blk (.tmp 21) 23 rfl ?_ Tryd.underlying23 sz_dig ?_ hk21 ?_ ?_ ?_); exact rfl; exact rfl; exact PTB.out; omega; simp only [Act.put, List.setIfInBounds_toArray, List.set_cons_succ, List.set_cons_zero]) | ((with_reducible refine' wpList_loadall_blk (.tmp 18) 23 rfl ?_ Tryd.underlying23 sz_dig ?_ hkV ?_ ?_ ?_); exact rfl; exact rfl; exact WB.out; omega; simp only [Act.put, List.setIfInBounds_toArray, List.set_cons_succ, List.set_cons_zero])
              | ((go_at_call 43; (with_reducible refine (refnode_any _ _ _ hT4 W16.out PT.out).mono ?_); rintro e w' ⟨rfl, hN⟩); rw [← HW.out]; have q4z := q4.below hN q4.lt; have hkVz := hkV.below hN hkV.lt; have hX5 := hX4.trans (hN.mono hX4.size))
              | ((with_reducible refine' wpList_store_blk (cs := bv nx) 23 (.tmp 18) (.tmp 111) rfl ?_ ?_ ?_ hkVz sz_dig ?_ ?_ ?_ ?_); exact rfl; exact rfl; exact rfl; exact NX.out; exact WB.out; exact bv_one _; intro w22 hk22 hO22 hz22; simp only [Act.put]))
            go_roundw
            case rel => (first | exact ⟨j + 1, by omega, by go_num, by rw [← DS.out]; go_num, by rw [HNX.out]; exact hk22, hX5.trans (hO22.below (Nat.le_refl _) hX5.size)⟩ | ((repeat apply Exists.intro); exact ⟨⟨j + 1, by omega, by go_num, by rw [← DS.out]; go_num, by rw [HNX.out]; exact hk22, hX5.trans (hO22.below (Nat.le_refl _) hX5.size)⟩, rfl⟩))
            case measure => simp [intOf]; omega
        · obtain rfl : j = l := by omega
          have hb := hbL.trans (hX.mono hbL.size)
          by_cases heq : wayUp ix rest v0 j = p
          · have hde : decide (wayUp ix rest v0 j = p) = true := decide_eq_true heq
            have HQ := Lib.hid heq
            clear heq
            go_wp2_with (first | ((with_reducible refine' wpList_loadall_blk (.tmp 18) 23 rfl ?_ Tryd.underlying23 sz_dig ?_ hkV ?_ ?_ ?_); exact rfl; exact rfl; exact WB.out; omega; simp only [Act.put, List.setIfInBounds_toArray, List.set_cons_succ, List.set_cons_zero]) | ((with_reducible refine' wpList_loadall_blk (.tmp 4) 23 rfl ?_ Tryd.underlying23 sz_dig ?_ q4 ?_ ?_ ?_); exact rfl; exact rfl; exact PB.out; omega; simp only [Act.put, List.setIfInBounds_toArray, List.set_cons_succ, List.set_cons_zero]) | (((with_reducible refine' wpList_arr_neq (l := wayUp ix rest v0 j) (m := p) (.tmp 114) (.tmp 115) 23 _ rfl ?_ Tryd.underlying23 Tryd.underlying5 sz_u8 (by kernel_rfl) ?_ ?_ W16.out P16.out ?_); exact rfl; exact rfl; exact rfl; simp only [Act.put, List.setIfInBounds_toArray, List.set_cons_succ, List.set_cons_zero]); rw [hde]))
            go_ret2
            exact ⟨by unfold verR; rw [RT.out, if_pos HQ.out]; rfl, hb⟩
          · have hde : decide (wayUp ix rest v0 j = p) = false := decide_eq_false heq
            have HQ := Lib.hid heq
            clear heq
            go_wp2_with (first | ((with_reducible refine' wpList_loadall_blk (.tmp 18) 23 rfl ?_ Tryd.underlying23 sz_dig ?_ hkV ?_ ?_ ?_); exact rfl; exact rfl; exact WB.out; omega; simp only [Act.put, List.setIfInBounds_toArray, List.set_cons_succ, List.set_cons_zero]) | ((with_reducible refine' wpList_loadall_blk (.tmp 4) 23 rfl ?_ Tryd.underlying23 sz_dig ?_ q4 ?_ ?_ ?_); exact rfl; exact rfl; exact PB.out; omega; simp only [Act.put, List.setIfInBounds_toArray, List.set_cons_succ, List.set_cons_zero]) | (((with_reducible refine' wpList_arr_neq (l := wayUp ix rest v0 j) (m := p) (.tmp 114) (.tmp 115) 23 _ rfl ?_ Tryd.underlying23 Tryd.underlying5 sz_u8 (by kernel_rfl) ?_ ?_ W16.out P16.out ?_); exact rfl; exact rfl; exact rfl; simp only [Act.put, List.setIfInBounds_toArray, List.set_cons_succ, List.set_cons_zero]); rw [hde]))
            go_ret2
            exact ⟨by unfold verR; rw [RT.out, if_neg HQ.out]; rfl, hb⟩
end Go.Proofs.YtajglgkjpagcjaaDoor.Wi
