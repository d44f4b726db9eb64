/-
  The law HashStreamsAgree, walked. Conditions: the constants lie as the program's text lays them.
-/
import Derived.Test.YtomjniijnpnehaaDoorLof
namespace Go.Proofs.YtomjniijnpnehaaDoor.Wi
open Go Go.RowKit Pu Lb
set_option linter.unusedSimpArgs false
set_option linter.unusedVariables false
attribute [local irreducible] comp sched comps sha outS mac digOf hexOf fewB

theorem sv_take (l : List (List UInt8)) (k : Nat) : (sv l).take k = sv (l.take k) := by unfold sv; rw [List.map_take]
theorem flatten_step {l : List (List UInt8)} {k : Nat} {p : List UInt8} (hp : l[k]? = some p) : (l.take (k + 1)).flatten = (l.take k).flatten ++ p := by
  obtain ⟨h, hh⟩ := List.getElem?_eq_some_iff.1 hp
  rw [List.take_succ_eq_append_getElem h, hh]; simp
theorem flatten_few : ∀ (l : List (List UInt8)), (∀ s ∈ l, s.length ≤ 400) → l.flatten.length ≤ 400 * l.length
  | [], _ => by simp
  | x :: r, h => by
    have h1 := flatten_few r fun s hs => h s (by simp [hs])
    have h2 := h x (by simp)
    rw [List.flatten_cons, List.length_append, List.length_cons]
    omega
theorem flatten_take {l : List (List UInt8)} (h : fewB l = true) (k : Nat) : (l.take k).flatten.length ≤ 4800 := by
  obtain ⟨h1, h2⟩ := (fewB_iff l).1 h
  have := flatten_few (l.take k) fun s hs => h2 s (List.mem_of_mem_take hs)
  have h3 : (l.take k).length ≤ l.length := by rw [List.length_take]; omega
  omega

set_option maxRecDepth 100000 in
set_option maxHeartbeats 1600000 in
theorem law_streams_any (x : Value) (l : List (List UInt8)) (t : List UInt8) (n : Nat) (w : World) (hR : TabR w) (hT : TabH w) (hn : n < 256) (hx : Rd w 1 x l.length (sv l)) (hs : ∀ s ∈ l, s.length ≤ 140737488351232) (ht : t.length ≤ maxLen) :
    Calls Tryd.prog 4 #[x, .string ⟨t.toArray⟩, .int .u8 (n : Int)] w fun e w' => e = .returned (.bool true) ∧ Below w.heap.size w w' := by
  have hb := Below.refl w.heap.size w
  have hz1 := size_str t
  have hx0 := hx
  have hs2 : ∀ s ∈ l, s.length ≤ 140737488355328 := fun s h => Nat.le_trans (hs s h) (by decide)
  have HS := Lib.hid hs2
  unfold maxLen at ht
  clear hs hs2
  by_cases hf : fewB l = true
  · by_cases h2 : 400 < t.length
    · go_enter Tryd.func4, Tryd.ntmps4
      go_wp2_with (first
        | ((go_at_call 10; (with_reducible refine (sanity_any _ hT).mono ?_); rintro e w' ⟨rfl, hN⟩); replace hb := hb.trans ((by exact hN : Below _ _ _).mono hb.size); (try replace hx := Rd.below hx hN))
        | ((go_at_call 13; (with_reducible refine (reffew_any x _ l _ hx HS.out).mono ?_); rintro e w' ⟨rfl, rfl⟩); rw [hf]))
      go_ret
      exact ⟨rfl, hb⟩
    · have h12 := ((fewB_iff l).1 hf).1
      have FT := Lib.hid (fun k => flatten_take hf k)
      have F4 := Lib.hid (((fewB_iff l).1 hf).2)
      obtain ⟨N, hN⟩ : ∃ N, l.length = N := ⟨_, rfl⟩
      have LN := Lib.hid hN
      rw [hN] at hx hx0 h12
      clear hN
      obtain ⟨k, hk⟩ : ∃ k, n % (N + 1) = k := ⟨_, rfl⟩
      have hkn : k ≤ N := by have := Nat.mod_lt n (show N + 1 > 0 by omega); omega
      have KZ := Lib.hid (show ((n : Int) % ((N : Int) + 1)) = (k : Int) by rw [← hk]; rfl)
      clear hk
      go_enter Tryd.func4, Tryd.ntmps4
      go_upto_region 7 with (first
        | ((go_at_call 10; (with_reducible refine (sanity_any _ hT).mono ?_); rintro e w' ⟨rfl, hN⟩); replace hb := hb.trans ((by exact hN : Below _ _ _).mono hb.size); (try replace hx := Rd.below hx hN); have hT2 := hT.below hb)
        | ((go_at_call 13; (with_reducible refine (reffew_any x _ l _ hx HS.out).mono ?_); rintro e w' ⟨rfl, rfl⟩); rw [hf])
        | ((with_reducible refine' wpList_len_rd (.tmp 28) 27 rfl ?_ Tryd.underlying27 ?_ hx ?_); exact rfl; exact rfl; simp only [Act.put, List.setIfInBounds_toArray, List.set_cons_succ, List.set_cons_zero])
        | ((go_at_call 14; (with_reducible refine (begin_any _).mono ?_); rintro e w' ⟨rfl, hN⟩); replace hb := hb.trans ((by exact hN : Below _ _ _).mono hb.size); (try replace hx := Rd.below hx hN); have z1 := hb.size)
        | (((with_reducible refine' wpList_alloc_blk (cs := stz) 34 rfl ?_ zr_stm ?_ ?_); exact rfl; exact stv_zero; intro w2 k1 hN hz2; simp only [Act.put, List.setIfInBounds_toArray, List.set_cons_succ, List.set_cons_zero]); replace hb := hb.trans ((by exact hN : Below _ _ _).mono hb.size); (try replace hx := Rd.below hx hN))
        | (((with_reducible refine' wpList_store_blk (cs := stv begin0) 34 (.tmp 9) (.tmp 32) rfl ?_ ?_ ?_ k1 sz_stm ?_ ?_ ?_ ?_); exact rfl; exact rfl; exact rfl; rfl; exact stz_len; exact stv_one _; intro w3 k2 hO hz3; simp only [Act.put]); replace hb := hb.trans (hO.below z1 hb.size)))
      rw [KZ.out]
      obtain ⟨B, hB⟩ : ∃ B, w'.heap.size = B := ⟨_, rfl⟩
      rw [hB] at k2 z1 ⊢
      clear hx k1 hO hT2 hz2 hz3 hN hB
      go_loopw [10] (fun i wr => ∃ (j : Nat) (y : Strm), j ≤ k ∧ i = .int .i64 j ∧ Hid (IsS (l.take j).flatten y) ∧ Blk wr B 34 (stv y) ∧ Below w.heap.size w wr) (fun i _ => k - (intOf i).toNat)
      case atStart => exact ⟨0, begin0, by omega, rfl, Lib.hid (by rw [List.take_zero]; exact begin_isS), k2, hb⟩
      case round =>
        obtain ⟨j, y, hj, rfl, HY, hk9, hbl⟩ := hrel
        have hl9 := hk9.lt
        have LY := Lib.hid (stv_len HY.out.1)
        by_cases hlt : j < k
        · obtain ⟨wo, rfl⟩ : ∃ wo : World, wo = wr := ⟨_, rfl⟩
          have hTr := hT.below hbl
          have hxr := hx0.below hbl
          obtain ⟨p, hp⟩ := get_lt (l := l) (k := j) (by rw [LN.out]; omega)
          have SP := Lib.hid (sv_at hp)
          have ST := Lib.hid (flatten_step hp)
          have hp4 := F4.out p (mem_of_get hp)
          have hm4 := FT.out j
          obtain ⟨M, hM⟩ : ∃ M, (l.take j).flatten = M := ⟨_, rfl⟩
          rw [hM] at HY ST hm4
          have HM := Lib.hid hM
          clear hM hp
          go_upto_region 9 with fail
          refine wp_region_mono (w := wo) 6 (fun i => match i with | 0 => fun (vv : Value) (ww : World) => vv = .agg (stv y).toArray | 1 => fun (vv : Value) (ww : World) => vv = x | 2 => fun (vv : Value) (ww : World) => vv = .int .i64 (j : Int) | 3 => fun (vv : Value) (ww : World) => vv = ep x j | 4 => fun (vv : Value) (ww : World) => vv = .string ⟨p.toArray⟩ | 5 => fun (vv : Value) (ww : World) => ∃ y2, vv = .agg (stv y2).toArray ∧ IsS (M ++ p) y2 | _ => fun _ _ => True) (by kernel_rfl) (by kernel_rfl) ?_ ?_ ?_
          · intro i vv w1 w2 h hb
            rcases i with _ | _ | _ | _ | _ | _ | i
            all_goals first | exact h | exact Rd.below h hb | exact own_below h hb | (obtain ⟨B, h1, h2, h3⟩ := h; exact ⟨B, h1, h2, Blk.below h3 hb (Blk.lt h3)⟩) | trivial
          · intro i o hi ho us wz hl hbz hd
            obtain ⟨u0, u1, u2, u3, u4, u5, rfl⟩ := len6 hl
            rcases i with _ | _ | _ | _ | _ | _ | i
            · simp only [List.getElem?_cons_succ, List.getElem?_cons_zero, Option.some.injEq] at ho; subst ho; clear hi hl
              clear hd
              simp only [List.take_succ_cons, List.take_zero, List.drop_succ_cons, List.drop_zero, List.map_cons, List.map_nil, puts, Act.put, List.setIfInBounds_toArray, List.set_cons_succ, List.set_cons_zero]
              go_wp2_with (((with_reducible refine' wpList_load_part (f := 0) (cp := stv y) (.tmp 9) 34 rfl ?_ Tryd.underlying34 rfl sz_stm ?_ (hk9.below hbz hl9) ?_ ?_ ?_); exact rfl; exact rfl; rw [LY.out]; decide; rw [List.drop_zero, List.take_of_length_le (by rw [LY.out]; decide)]; simp only [Act.put, List.setIfInBounds_toArray, List.set_cons_succ, List.set_cons_zero]))
              exact ⟨rfl, _, rfl, Below.refl _ _, rfl⟩
            · simp only [List.getElem?_cons_succ, List.getElem?_cons_zero, Option.some.injEq] at ho; subst ho; clear hi hl
              clear hd
              simp only [List.take_succ_cons, List.take_zero, List.drop_succ_cons, List.drop_zero, List.map_cons, List.map_nil, puts, Act.put, List.setIfInBounds_toArray, List.set_cons_succ, List.set_cons_zero]
              go_wp2_with (fail)
              exact ⟨rfl, _, rfl, Below.refl _ _, rfl⟩
            · simp only [List.getElem?_cons_succ, List.getElem?_cons_zero, Option.some.injEq] at ho; subst ho; clear hi hl
              clear hd
              simp only [List.take_succ_cons, List.take_zero, List.drop_succ_cons, List.drop_zero, List.map_cons, List.map_nil, puts, Act.put, List.setIfInBounds_toArray, List.set_cons_succ, List.set_cons_zero]
              go_wp2_with (fail)
              exact ⟨rfl, _, rfl, Below.refl _ _, rfl⟩
            · simp only [List.getElem?_cons_succ, List.getElem?_cons_zero, Option.some.injEq] at ho; subst ho; clear hi hl
              have s1 : (fun (vv : Value) (ww : World) => vv = x) u1 wz := hd 1 (by kernel_rfl)
              simp only at s1
              obtain rfl := s1
              have s2 : (fun (vv : Value) (ww : World) => vv = .int .i64 (j : Int)) u2 wz := hd 2 (by kernel_rfl)
              simp only at s2
              obtain rfl := s2
              clear hd
              simp only [List.take_succ_cons, List.take_zero, List.drop_succ_cons, List.drop_zero, List.map_cons, List.map_nil, puts, Act.put, List.setIfInBounds_toArray, List.set_cons_succ, List.set_cons_zero]
              go_wp2_with (((with_reducible refine' wpList_at1_rd (.tmp 39) (.tmp 40) 27 rfl ?_ Tryd.underlying27 sz_str ?_ (hxr.below hbz) (j) ?_ ?_ ?_); exact rfl; exact rfl; (show (_ : Int) = _; omega); omega; simp only [Act.put, List.setIfInBounds_toArray, List.set_cons_succ, List.set_cons_zero]))
              exact ⟨rfl, _, rfl, Below.refl _ _, rfl⟩
            · simp only [List.getElem?_cons_succ, List.getElem?_cons_zero, Option.some.injEq] at ho; subst ho; clear hi hl
              have s3 : (fun (vv : Value) (ww : World) => vv = ep x j) u3 wz := hd 3 (by kernel_rfl)
              simp only at s3
              obtain rfl := s3
              clear hd
              simp only [List.take_succ_cons, List.take_zero, List.drop_succ_cons, List.drop_zero, List.map_cons, List.map_nil, puts, Act.put, List.setIfInBounds_toArray, List.set_cons_succ, List.set_cons_zero]
              go_wp2_with (((with_reducible refine' wpList_load_rd (.tmp 41) 9 rfl ?_ ld_str ?_ (hxr.below hbz) (SP.out) ?_); exact rfl; exact rfl; simp only [Act.put, List.setIfInBounds_toArray, List.set_cons_succ, List.set_cons_zero]))
              exact ⟨rfl, _, rfl, Below.refl _ _, rfl⟩
            · simp only [List.getElem?_cons_succ, List.getElem?_cons_zero, Option.some.injEq] at ho; subst ho; clear hi hl
              have s0 : (fun (vv : Value) (ww : World) => vv = .agg (stv y).toArray) u0 wz := hd 0 (by kernel_rfl)
              simp only at s0
              obtain rfl := s0
              have s4 : (fun (vv : Value) (ww : World) => vv = .string ⟨p.toArray⟩) u4 wz := hd 4 (by kernel_rfl)
              simp only at s4
              obtain rfl := s4
              clear hd
              simp only [List.take_succ_cons, List.take_zero, List.drop_succ_cons, List.drop_zero, List.map_cons, List.map_nil, puts, Act.put, List.setIfInBounds_toArray, List.set_cons_succ, List.set_cons_zero]
              go_wp2_with ((go_at_call 15; (with_reducible refine (add_any M p y _ (hTr.below hbz) HY.out (by omega)).mono ?_); rintro e w' ⟨y2, rfl, hy2, hq⟩))
              exact ⟨rfl, _, rfl, hq, ⟨y2, rfl, hy2⟩⟩
            · omega
          intro us wz hl hbz hS
          obtain ⟨u0, u1, u2, u3, u4, u5, rfl⟩ := len6 hl
          have s5 : (fun (vv : Value) (ww : World) => ∃ y2, vv = .agg (stv y2).toArray ∧ IsS (M ++ p) y2) u5 wz := hS 5 (by omega)
          simp only at s5
          obtain ⟨y2, rfl, hy2⟩ := s5
          clear hS hl
          simp only [List.take_succ_cons, List.take_zero, List.drop_succ_cons, List.drop_zero, List.map_cons, List.map_nil, puts, Act.put, List.setIfInBounds_toArray, List.set_cons_succ, List.set_cons_zero]
          have L2 := Lib.hid (stv_len hy2.1)
          have hk9z := hk9.below hbz hl9
          have hbz2 := hbl.trans (hbz.mono hbl.size)
          ((with_reducible refine' wpList_store_blk (cs := stv y2) 34 (.tmp 9) (.tmp 43) rfl ?_ ?_ ?_ hk9z sz_stm ?_ ?_ ?_ ?_); exact rfl; exact rfl; exact rfl; exact L2.out; exact LY.out; exact stv_one _; intro w4 hk4 hO4 hz4; simp only [Act.put])
          refine onlyN ?_
          have HY2 := Lib.hid hy2
          clear hy2 hz4
          go_wp2_with fail
          go_roundw
          case rel =>
            refine ⟨j + 1, y2, by omega, by go_num, Lib.hid ?_, hk4, hbz2.trans (hO4.below z1 hbz2.size)⟩
            rw [ST.out]
            exact HY2.out
          case measure => simp [intOf]; omega
        · obtain rfl : j = k := by omega
          have HYK := HY
          obtain ⟨JK, hJK⟩ : ∃ M, (l.take j).flatten = M := ⟨_, rfl⟩
          have hm4 := FT.out j
          rw [hJK] at HYK hm4
          have HJK := Lib.hid hJK
          clear hJK
          go_upto_region 12 with (first
            | ((with_reducible refine' wpList_load_part (f := 0) (cp := stv y) (.tmp 9) 34 rfl ?_ Tryd.underlying34 rfl sz_stm ?_ hk9 ?_ ?_ ?_); exact rfl; exact rfl; rw [LY.out]; decide; rw [List.drop_zero, List.take_of_length_le (by rw [LY.out]; decide)]; simp only [Act.put, List.setIfInBounds_toArray, List.set_cons_succ, List.set_cons_zero])
            | (((with_reducible refine' wpList_alloc_blk (cs := stz) 34 rfl ?_ zr_stm ?_ ?_); exact rfl; exact stv_zero; intro w4 k4 hN4 hz4; simp only [Act.put, List.setIfInBounds_toArray, List.set_cons_succ, List.set_cons_zero]); have hb4 := hbl.trans (hN4.mono hbl.size); have hk94 := hk9.below hN4 hl9)
            | (((with_reducible refine' wpList_store_blk (cs := stv y) 34 (.tmp 11) (.tmp 44) rfl ?_ ?_ ?_ k4 sz_stm ?_ ?_ ?_ ?_); exact rfl; exact rfl; exact rfl; exact LY.out; exact stz_len; exact stv_one _; intro w5 k5 hO5 hz5; simp only [Act.put]); have hb5 := hb4.trans (hO5.below hbl.size hb4.size); have hk95 := hO5.blk hk94 (by omega)))
          obtain ⟨C, hC⟩ : ∃ C, wr.heap.size = C := ⟨_, rfl⟩
          rw [hC] at k5 hl9 ⊢
          have zc := hbl.size
          rw [hC] at zc
          clear k4 hO5 hz4 hz5 hN4 hk94 hb4 hk9
          have YK := y
          obtain ⟨yk, hyk⟩ : ∃ yk, y = yk := ⟨_, rfl⟩
          rw [hyk] at HYK k5
          have LK := Lib.hid (stv_len HYK.out.1)
          clear YK
          go_loopw [12] (fun i wq => ∃ (m : Nat) (y : Strm), j ≤ m ∧ m ≤ N ∧ i = .int .i64 m ∧ Hid (IsS (l.take m).flatten y) ∧ Blk wq B 34 (stv y) ∧ Blk wq C 34 (stv yk) ∧ Below w.heap.size w wq) (fun i _ => N - (intOf i).toNat)
          case atStart => exact ⟨j, y, Nat.le_refl _, hkn, rfl, HY, hk95, k5, hb5⟩
          case round =>
            clear hk95 k5 hb5 hbl HY LY hyk
            obtain ⟨m, y, hm0, hm, rfl, HY, hk9, hkC, hbl⟩ := hrel
            have hl9b := hk9.lt
            have hlC := hkC.lt
            have LY := Lib.hid (stv_len HY.out.1)
            have hxr := hx0.below hbl
            have hTr := hT.below hbl
            by_cases hlt2 : m < N
            · obtain ⟨wo, rfl⟩ : ∃ wo : World, wo = wr := ⟨_, rfl⟩
              obtain ⟨p, hp⟩ := get_lt (l := l) (k := m) (by rw [LN.out]; omega)
              have SP := Lib.hid (sv_at hp)
              have ST := Lib.hid (flatten_step hp)
              have hp4 := F4.out p (mem_of_get hp)
              have hm5 := FT.out m
              obtain ⟨M, hM⟩ : ∃ M, (l.take m).flatten = M := ⟨_, rfl⟩
              rw [hM] at HY ST hm5
              have HM := Lib.hid hM
              clear hM hp
              have hl9 := hl9b
              go_upto_region 14 with (((with_reducible refine' wpList_len_rd (.tmp 47) 27 rfl ?_ Tryd.underlying27 ?_ hxr ?_); exact rfl; exact rfl; simp only [Act.put, List.setIfInBounds_toArray, List.set_cons_succ, List.set_cons_zero]))
              refine wp_region_mono (w := wo) 6 (fun i => match i with | 0 => fun (vv : Value) (ww : World) => vv = .agg (stv y).toArray | 1 => fun (vv : Value) (ww : World) => vv = x | 2 => fun (vv : Value) (ww : World) => vv = .int .i64 (m : Int) | 3 => fun (vv : Value) (ww : World) => vv = ep x m | 4 => fun (vv : Value) (ww : World) => vv = .string ⟨p.toArray⟩ | 5 => fun (vv : Value) (ww : World) => ∃ y2, vv = .agg (stv y2).toArray ∧ IsS (M ++ p) y2 | _ => fun _ _ => True) (by kernel_rfl) (by kernel_rfl) ?_ ?_ ?_
              · intro i vv w1 w2 h hb
                rcases i with _ | _ | _ | _ | _ | _ | i
                all_goals first | exact h | exact Rd.below h hb | exact own_below h hb | (obtain ⟨B, h1, h2, h3⟩ := h; exact ⟨B, h1, h2, Blk.below h3 hb (Blk.lt h3)⟩) | trivial
              · intro i o hi ho us wz hl hbz hd
                obtain ⟨u0, u1, u2, u3, u4, u5, rfl⟩ := len6 hl
                rcases i with _ | _ | _ | _ | _ | _ | i
                · simp only [List.getElem?_cons_succ, List.getElem?_cons_zero, Option.some.injEq] at ho; subst ho; clear hi hl
                  clear hd
                  simp only [List.take_succ_cons, List.take_zero, List.drop_succ_cons, List.drop_zero, List.map_cons, List.map_nil, puts, Act.put, List.setIfInBounds_toArray, List.set_cons_succ, List.set_cons_zero]
                  go_wp2_with (((with_reducible refine' wpList_load_part (f := 0) (cp := stv y) (.tmp 9) 34 rfl ?_ Tryd.underlying34 rfl sz_stm ?_ (hk9.below hbz hl9) ?_ ?_ ?_); exact rfl; exact rfl; rw [LY.out]; decide; rw [List.drop_zero, List.take_of_length_le (by rw [LY.out]; decide)]; simp only [Act.put, List.setIfInBounds_toArray, List.set_cons_succ, List.set_cons_zero]))
                  exact ⟨rfl, _, rfl, Below.refl _ _, rfl⟩
                · simp only [List.getElem?_cons_succ, List.getElem?_cons_zero, Option.some.injEq] at ho; subst ho; clear hi hl
                  clear hd
                  simp only [List.take_succ_cons, List.take_zero, List.drop_succ_cons, List.drop_zero, List.map_cons, List.map_nil, puts, Act.put, List.setIfInBounds_toArray, List.set_cons_succ, List.set_cons_zero]
                  go_wp2_with (fail)
                  exact ⟨rfl, _, rfl, Below.refl _ _, rfl⟩
                · simp only [List.getElem?_cons_succ, List.getElem?_cons_zero, Option.some.injEq] at ho; subst ho; clear hi hl
                  clear hd
                  simp only [List.take_succ_cons, List.take_zero, List.drop_succ_cons, List.drop_zero, List.map_cons, List.map_nil, puts, Act.put, List.setIfInBounds_toArray, List.set_cons_succ, List.set_cons_zero]
                  go_wp2_with (fail)
                  exact ⟨rfl, _, rfl, Below.refl _ _, rfl⟩
                · simp only [List.getElem?_cons_succ, List.getElem?_cons_zero, Option.some.injEq] at ho; subst ho; clear hi hl
                  have s1 : (fun (vv : Value) (ww : World) => vv = x) u1 wz := hd 1 (by kernel_rfl)
                  simp only at s1
                  obtain rfl := s1
                  have s2 : (fun (vv : Value) (ww : World) => vv = .int .i64 (m : Int)) u2 wz := hd 2 (by kernel_rfl)
                  simp only at s2
                  obtain rfl := s2
                  clear hd
                  simp only [List.take_succ_cons, List.take_zero, List.drop_succ_cons, List.drop_zero, List.map_cons, List.map_nil, puts, Act.put, List.setIfInBounds_toArray, List.set_cons_succ, List.set_cons_zero]
                  go_wp2_with (((with_reducible refine' wpList_at1_rd (.tmp 53) (.tmp 54) 27 rfl ?_ Tryd.underlying27 sz_str ?_ (hxr.below hbz) (m) ?_ ?_ ?_); exact rfl; exact rfl; (show (_ : Int) = _; omega); omega; simp only [Act.put, List.setIfInBounds_toArray, List.set_cons_succ, List.set_cons_zero]))
                  exact ⟨rfl, _, rfl, Below.refl _ _, rfl⟩
                · simp only [List.getElem?_cons_succ, List.getElem?_cons_zero, Option.some.injEq] at ho; subst ho; clear hi hl
                  have s3 : (fun (vv : Value) (ww : World) => vv = ep x m) u3 wz := hd 3 (by kernel_rfl)
                  simp only at s3
                  obtain rfl := s3
                  clear hd
                  simp only [List.take_succ_cons, List.take_zero, List.drop_succ_cons, List.drop_zero, List.map_cons, List.map_nil, puts, Act.put, List.setIfInBounds_toArray, List.set_cons_succ, List.set_cons_zero]
                  go_wp2_with (((with_reducible refine' wpList_load_rd (.tmp 55) 9 rfl ?_ ld_str ?_ (hxr.below hbz) (SP.out) ?_); exact rfl; exact rfl; simp only [Act.put, List.setIfInBounds_toArray, List.set_cons_succ, List.set_cons_zero]))
                  exact ⟨rfl, _, rfl, Below.refl _ _, rfl⟩
                · simp only [List.getElem?_cons_succ, List.getElem?_cons_zero, Option.some.injEq] at ho; subst ho; clear hi hl
                  have s0 : (fun (vv : Value) (ww : World) => vv = .agg (stv y).toArray) u0 wz := hd 0 (by kernel_rfl)
                  simp only at s0
                  obtain rfl := s0
                  have s4 : (fun (vv : Value) (ww : World) => vv = .string ⟨p.toArray⟩) u4 wz := hd 4 (by kernel_rfl)
                  simp only at s4
                  obtain rfl := s4
                  clear hd
                  simp only [List.take_succ_cons, List.take_zero, List.drop_succ_cons, List.drop_zero, List.map_cons, List.map_nil, puts, Act.put, List.setIfInBounds_toArray, List.set_cons_succ, List.set_cons_zero]
                  go_wp2_with ((go_at_call 15; (with_reducible refine (add_any M p y _ (hTr.below hbz) HY.out (by omega)).mono ?_); rintro e w' ⟨y2, rfl, hy2, hq⟩))
                  exact ⟨rfl, _, rfl, hq, ⟨y2, rfl, hy2⟩⟩
                · omega
              intro us wz hl hbz hS
              obtain ⟨u0, u1, u2, u3, u4, u5, rfl⟩ := len6 hl
              have s5 : (fun (vv : Value) (ww : World) => ∃ y2, vv = .agg (stv y2).toArray ∧ IsS (M ++ p) y2) u5 wz := hS 5 (by omega)
              simp only at s5
              obtain ⟨y2, rfl, hy2⟩ := s5
              clear hS hl
              simp only [List.take_succ_cons, List.take_zero, List.drop_succ_cons, List.drop_zero, List.map_cons, List.map_nil, puts, Act.put, List.setIfInBounds_toArray, List.set_cons_succ, List.set_cons_zero]
              have L2 := Lib.hid (stv_len hy2.1)
              have hk9z := hk9.below hbz hl9
              have hbz2 := hbl.trans (hbz.mono hbl.size)
              ((with_reducible refine' wpList_store_blk (cs := stv y2) 34 (.tmp 9) (.tmp 57) rfl ?_ ?_ ?_ hk9z sz_stm ?_ ?_ ?_ ?_); exact rfl; exact rfl; exact rfl; exact L2.out; exact LY.out; exact stv_one _; intro w4 hk4 hO4 hz4; simp only [Act.put])
              refine onlyN ?_
              have HY2 := Lib.hid hy2
              clear hy2 hz4
              have hkCz := hkC.below hbz hlC
              go_wp2_with fail
              go_roundw
              case rel =>
                refine ⟨m + 1, y2, by omega, by omega, by go_num, Lib.hid ?_, hk4, hO4.blk hkCz (by omega), hbz2.trans (hO4.below z1 hbz2.size)⟩
                rw [ST.out]
                exact HY2.out
              case measure => simp [intOf]; omega
            · obtain rfl : m = N := by omega
              have e : (l.take m).flatten = l.flatten := by rw [List.take_of_length_le (by rw [LN.out]; exact Nat.le_refl _)]
              obtain ⟨JA, hJA⟩ : ∃ M, l.flatten = M := ⟨_, rfl⟩
              have hm5 := FT.out m
              rw [e, hJA] at HY hm5
              have HJA := Lib.hid hJA
              clear hJA e
              have zJA := size_str JA
              have zJK := size_str JK
              have SA := Lib.hid (sha_len JA)
              have SK := Lib.hid (sha_len JK)
              have ST := Lib.hid (sha_len (JK ++ t))
              have LJT := Lib.hid (show (JK ++ t).length ≤ 5200 by rw [List.length_append]; omega)
              go_upto_region 18 with (first
                | ((with_reducible refine' wpList_len_rd (.tmp 47) 27 rfl ?_ Tryd.underlying27 ?_ hxr ?_); exact rfl; exact rfl; simp only [Act.put, List.setIfInBounds_toArray, List.set_cons_succ, List.set_cons_zero])
                | ((with_reducible refine' wpList_load_part (f := 0) (cp := stv yk) (.tmp 11) 34 rfl ?_ Tryd.underlying34 rfl sz_stm ?_ hkC ?_ ?_ ?_); exact rfl; exact rfl; rw [LK.out]; decide; rw [List.drop_zero, List.take_of_length_le (by rw [LK.out]; decide)]; simp only [Act.put, List.setIfInBounds_toArray, List.set_cons_succ, List.set_cons_zero])
                | ((go_at_call 15; (with_reducible refine (add_any JK t yk _ hTr HYK.out (by omega)).mono ?_); rintro e w' ⟨yt, rfl, hyt, hN6⟩); have hb6 := hbl.trans (hN6.mono hbl.size); have hk96 := hk9.below hN6 hl9b; have hkC6 := hkC.below hN6 hlC; have l96 := hk96.lt; have lC6 := hkC6.lt)
                | (((with_reducible refine' wpList_alloc_blk (cs := stz) 34 rfl ?_ zr_stm ?_ ?_); exact rfl; exact stv_zero; intro w7 k7 hN7 hz7; simp only [Act.put, List.setIfInBounds_toArray, List.set_cons_succ, List.set_cons_zero]); have hb7 := hb6.trans (hN7.mono hb6.size); have hk97 := hk96.below hN7 l96; have hkC7 := hkC6.below hN7 lC6; have z6 := hb6.size; have LT := Lib.hid (stv_len hyt.1))
                | (((with_reducible refine' wpList_store_blk (cs := stv yt) 34 (.tmp 13) (.tmp 60) rfl ?_ ?_ ?_ k7 sz_stm ?_ ?_ ?_ ?_); exact rfl; exact rfl; exact rfl; exact LT.out; exact stz_len; exact stv_one _; intro w8 k8 hO8 hz8; simp only [Act.put]); have hb8 := hb7.trans (hO8.below z6 hb7.size); have hk98 := hO8.blk hk97 (by omega); have hkC8 := hO8.blk hkC7 (by omega); have hx8 := hx0.below hb8)
                | ((go_at_call 16; (with_reducible refine (refjoined_any _ _ l _ hx8 (by rw [HJA.out]; omega)).mono ?_); rintro e w' ⟨rfl, rfl⟩); rw [HJA.out])
                | (((with_reducible refine' wpList_to_rd (.tmp 63) (.tmp 64) 27 rfl ?_ Tryd.underlying27 sz_str ?_ hx8 (j) ?_ ?_ ?_); exact rfl; exact rfl; (show (_ : Int) = _; omega); omega; intro v9 hv9; simp only [Act.put, List.setIfInBounds_toArray, List.set_cons_succ, List.set_cons_zero]); rw [Nat.mul_one, sv_take] at hv9)
                | ((go_at_call 16; (with_reducible refine (refjoined_any _ _ (l.take j) _ hv9 (by rw [HJK.out]; omega)).mono ?_); rintro e w' ⟨rfl, rfl⟩); rw [HJK.out]))
              clear hbl
              have hb := hb8
              have hT9 := hT.below hb
              have hR9 := hR.below hb
              have l1 := hk98.lt
              have l2 := hkC8.lt
              have l3 := k8.lt
              have LAB := Lib.hid (show (bv (sha JA)).length = 32 by rw [bv_length, sha_len])
              go_wp2_with (first
                | ((with_reducible refine' wpList_load_part (f := 0) (cp := stv y) (.tmp 9) 34 rfl ?_ Tryd.underlying34 rfl sz_stm ?_ hk98 ?_ ?_ ?_); exact rfl; exact rfl; rw [LY.out]; decide; rw [List.drop_zero, List.take_of_length_le (by rw [LY.out]; decide)]; simp only [Act.put, List.setIfInBounds_toArray, List.set_cons_succ, List.set_cons_zero])
                | ((with_reducible refine' wpList_load_part (f := 0) (cp := stv yk) (.tmp 11) 34 rfl ?_ Tryd.underlying34 rfl sz_stm ?_ hkC8 ?_ ?_ ?_); exact rfl; exact rfl; rw [LK.out]; decide; rw [List.drop_zero, List.take_of_length_le (by rw [LK.out]; decide)]; simp only [Act.put, List.setIfInBounds_toArray, List.set_cons_succ, List.set_cons_zero])
                | ((with_reducible refine' wpList_load_part (f := 0) (cp := stv yt) (.tmp 13) 34 rfl ?_ Tryd.underlying34 rfl sz_stm ?_ k8 ?_ ?_ ?_); exact rfl; exact rfl; rw [LT.out]; decide; rw [List.drop_zero, List.take_of_length_le (by rw [LT.out]; decide)]; simp only [Act.put, List.setIfInBounds_toArray, List.set_cons_succ, List.set_cons_zero])
                | ((go_at_call 17; (with_reducible refine (strsum_any JA y _ hT9 HY.out (by omega)).mono ?_); rintro e w' ⟨rfl, hN⟩); replace hb := hb.trans ((by exact hN : Below _ _ _).mono hb.size); (try replace hk98 := Blk.below hk98 hN (Blk.lt hk98)); (try replace hkC8 := Blk.below hkC8 hN (Blk.lt hkC8)); (try replace k8 := Blk.below k8 hN (Blk.lt k8)); replace hT9 := hT.below hb; replace hR9 := hR.below hb)
                | ((go_at_call 17; (with_reducible refine (strsum_any JK yk _ hT9 HYK.out (by omega)).mono ?_); rintro e w' ⟨rfl, hN⟩); replace hb := hb.trans ((by exact hN : Below _ _ _).mono hb.size); (try replace hk98 := Blk.below hk98 hN (Blk.lt hk98)); (try replace hkC8 := Blk.below hkC8 hN (Blk.lt hkC8)); (try replace k8 := Blk.below k8 hN (Blk.lt k8)); replace hT9 := hT.below hb; replace hR9 := hR.below hb)
                | ((go_at_call 17; (with_reducible refine (strsum_any (JK ++ t) yt _ hT9 hyt (by have := LJT.out; omega)).mono ?_); rintro e w' ⟨rfl, hN⟩); replace hb := hb.trans ((by exact hN : Below _ _ _).mono hb.size); (try replace hk98 := Blk.below hk98 hN (Blk.lt hk98)); (try replace hkC8 := Blk.below hkC8 hN (Blk.lt hkC8)); (try replace k8 := Blk.below k8 hN (Blk.lt k8)); replace hT9 := hT.below hb; replace hR9 := hR.below hb)
                | (((with_reducible refine' wpList_bytes_l (l := JA) (.tmp 71) 9 22 rfl ?_ Tryd.underlying9 Tryd.underlying22 Tryd.underlying5 ?_ ((by unfold maxLen; omega)) ?_); exact rfl; exact rfl; intro va wa ra hN; simp only [Act.put, List.setIfInBounds_toArray, List.set_cons_succ, List.set_cons_zero]); replace hb := hb.trans ((by exact hN : Below _ _ _).mono hb.size); (try replace hk98 := Blk.below hk98 hN (Blk.lt hk98)); (try replace hkC8 := Blk.below hkC8 hN (Blk.lt hkC8)); (try replace k8 := Blk.below k8 hN (Blk.lt k8)); replace hT9 := hT.below hb; replace hR9 := hR.below hb)
                | (((with_reducible refine' wpList_bytes_l (l := JK) (.tmp 79) 9 22 rfl ?_ Tryd.underlying9 Tryd.underlying22 Tryd.underlying5 ?_ ((by unfold maxLen; omega)) ?_); exact rfl; exact rfl; intro vb wb rb hN; simp only [Act.put, List.setIfInBounds_toArray, List.set_cons_succ, List.set_cons_zero]); replace hb := hb.trans ((by exact hN : Below _ _ _).mono hb.size); (try replace hk98 := Blk.below hk98 hN (Blk.lt hk98)); (try replace hkC8 := Blk.below hkC8 hN (Blk.lt hkC8)); (try replace k8 := Blk.below k8 hN (Blk.lt k8)); replace hT9 := hT.below hb; replace hR9 := hR.below hb)
                | (((with_reducible refine' wpList_str_add (l := JK) (m := t) (.tmp 87) (.tmp 88) 9 9 rfl ?_ ?_ ?_ ?_ ?_); exact rfl; exact rfl; exact rfl; omega; simp only [Act.put, List.setIfInBounds_toArray, List.set_cons_succ, List.set_cons_zero]))
                | (((with_reducible refine' wpList_bytes_l (l := (JK ++ t)) (.tmp 89) 9 22 rfl ?_ Tryd.underlying9 Tryd.underlying22 Tryd.underlying5 ?_ ((by have := LJT.out; unfold maxLen; omega)) ?_); exact rfl; exact rfl; intro vc wc rc hN; simp only [Act.put, List.setIfInBounds_toArray, List.set_cons_succ, List.set_cons_zero]); replace hb := hb.trans ((by exact hN : Below _ _ _).mono hb.size); (try replace hk98 := Blk.below hk98 hN (Blk.lt hk98)); (try replace hkC8 := Blk.below hkC8 hN (Blk.lt hkC8)); (try replace k8 := Blk.below k8 hN (Blk.lt k8)); replace hT9 := hT.below hb; replace hR9 := hR.below hb)
                | (((with_reducible refine' wpList_bytes_l (l := JA) (.tmp 97) 9 22 rfl ?_ Tryd.underlying9 Tryd.underlying22 Tryd.underlying5 ?_ ((by unfold maxLen; omega)) ?_); exact rfl; exact rfl; intro vd wd rd hN; simp only [Act.put, List.setIfInBounds_toArray, List.set_cons_succ, List.set_cons_zero]); replace hb := hb.trans ((by exact hN : Below _ _ _).mono hb.size); (try replace hk98 := Blk.below hk98 hN (Blk.lt hk98)); (try replace hkC8 := Blk.below hkC8 hN (Blk.lt hkC8)); (try replace k8 := Blk.below k8 hN (Blk.lt k8)); replace hT9 := hT.below hb; replace hR9 := hR.below hb)
                | ((go_at_call 12; (with_reducible refine (refsum_any _ _ JA _ hR9 ra (by omega)).mono ?_); rintro e w' ⟨rfl, hN⟩); replace hb := hb.trans ((by exact hN : Below _ _ _).mono hb.size); (try replace hk98 := Blk.below hk98 hN (Blk.lt hk98)); (try replace hkC8 := Blk.below hkC8 hN (Blk.lt hkC8)); (try replace k8 := Blk.below k8 hN (Blk.lt k8)); replace hT9 := hT.below hb; replace hR9 := hR.below hb)
                | ((go_at_call 12; (with_reducible refine (refsum_any _ _ JK _ hR9 rb (by omega)).mono ?_); rintro e w' ⟨rfl, hN⟩); replace hb := hb.trans ((by exact hN : Below _ _ _).mono hb.size); (try replace hk98 := Blk.below hk98 hN (Blk.lt hk98)); (try replace hkC8 := Blk.below hkC8 hN (Blk.lt hkC8)); (try replace k8 := Blk.below k8 hN (Blk.lt k8)); replace hT9 := hT.below hb; replace hR9 := hR.below hb)
                | ((go_at_call 12; (with_reducible refine (refsum_any _ _ (JK ++ t) _ hR9 rc (by have := LJT.out; omega)).mono ?_); rintro e w' ⟨rfl, hN⟩); replace hb := hb.trans ((by exact hN : Below _ _ _).mono hb.size); (try replace hk98 := Blk.below hk98 hN (Blk.lt hk98)); (try replace hkC8 := Blk.below hkC8 hN (Blk.lt hkC8)); (try replace k8 := Blk.below k8 hN (Blk.lt k8)); replace hT9 := hT.below hb; replace hR9 := hR.below hb)
                | ((go_at_call 11; (with_reducible refine (sum_any _ _ JA _ hT9 rd (by omega)).mono ?_); rintro e w' ⟨rfl, hN⟩); replace hb := hb.trans ((by exact hN : Below _ _ _).mono hb.size); (try replace hk98 := Blk.below hk98 hN (Blk.lt hk98)); (try replace hkC8 := Blk.below hkC8 hN (Blk.lt hkC8)); (try replace k8 := Blk.below k8 hN (Blk.lt k8)))
                | (((with_reducible refine' wpList_arr_eql (l := sha JA) (m := sha JA) (.tmp 70) (.tmp 73) 24 _ rfl ?_ Tryd.underlying24 Tryd.underlying5 sz_u8 (by kernel_rfl) ?_ ?_ SA.out SA.out ?_); exact rfl; exact rfl; exact rfl; simp only [Act.put, List.setIfInBounds_toArray, List.set_cons_succ, List.set_cons_zero]); try rw [dec_self])
                | (((with_reducible refine' wpList_arr_eql (l := sha JK) (m := sha JK) (.tmp 78) (.tmp 81) 24 _ rfl ?_ Tryd.underlying24 Tryd.underlying5 sz_u8 (by kernel_rfl) ?_ ?_ SK.out SK.out ?_); exact rfl; exact rfl; exact rfl; simp only [Act.put, List.setIfInBounds_toArray, List.set_cons_succ, List.set_cons_zero]); try rw [dec_self])
                | (((with_reducible refine' wpList_arr_eql (l := sha (JK ++ t)) (m := sha (JK ++ t)) (.tmp 86) (.tmp 91) 24 _ rfl ?_ Tryd.underlying24 Tryd.underlying5 sz_u8 (by kernel_rfl) ?_ ?_ ST.out ST.out ?_); exact rfl; exact rfl; exact rfl; simp only [Act.put, List.setIfInBounds_toArray, List.set_cons_succ, List.set_cons_zero]); try rw [dec_self])
                | (((with_reducible refine' wpList_arr_eql (l := sha JA) (m := sha JA) (.tmp 96) (.tmp 99) 24 _ rfl ?_ Tryd.underlying24 Tryd.underlying5 sz_u8 (by kernel_rfl) ?_ ?_ SA.out SA.out ?_); exact rfl; exact rfl; exact rfl; simp only [Act.put, List.setIfInBounds_toArray, List.set_cons_succ, List.set_cons_zero]); try rw [dec_self]))
              go_ret
              exact ⟨rfl, hb⟩
  · have hf2 : fewB l = false := by simpa using hf
    go_enter Tryd.func4, Tryd.ntmps4
    go_wp2_with (first
      | ((go_at_call 10; (with_reducible refine (sanity_any _ hT).mono ?_); rintro e w' ⟨rfl, hN⟩); replace hb := hb.trans ((by exact hN : Below _ _ _).mono hb.size); (try replace hx := Rd.below hx hN))
      | ((go_at_call 13; (with_reducible refine (reffew_any x _ l _ hx HS.out).mono ?_); rintro e w' ⟨rfl, rfl⟩); rw [hf2]))
    go_ret
    exact ⟨rfl, hb⟩
end Go.Proofs.YtomjniijnpnehaaDoor.Wi
