/-
  The specification's codes and digests. Conditions: the constants lie as the program's text lays them; bounded lengths.
-/
import Derived.Test.YtomjniijnpnehaaDoorRm
namespace Go.Proofs.YtomjniijnpnehaaDoor.Wi
open Go Go.RowKit Pu Lb
set_option linter.unusedSimpArgs false
set_option linter.unusedVariables false

theorem pad_get {k : List UInt8} (hk : k.length ≤ 64) {i : Nat} (hi : i < 64) : (pad64 k)[i]? = some (if i < k.length then gb k i else 0) := by
  unfold pad64
  by_cases h : i < k.length
  · rw [if_pos h, List.getElem?_append_left h]; simp [gb, h]
  · rw [if_neg h, List.getElem?_append_right (by omega), List.getElem?_replicate, if_pos (by omega)]
theorem padKey_get {key k : List UInt8} {c : UInt8} (hk : (if 64 < key.length then sha key else key) = k) {i : Nat} (hi : i < 64) : (padKey key c)[i]? = some ((if i < k.length then gb k i else 0) ^^^ c) := by
  subst hk
  rw [padKey_eq, List.getElem?_map, pad_get (short_key key) hi]; rfl
attribute [local irreducible] comp sched comps sha outS padKey

set_option maxRecDepth 100000 in
set_option maxHeartbeats 800000 in
theorem refpadkey_any (key : List UInt8) (c : UInt8) (w : World) (hT : TabR w) (hk : key.length ≤ 70368744177664) :
    Calls Tryd.prog 32 #[.string ⟨key.toArray⟩, .int .u8 (c.toNat : Int)] w fun e w' => ∃ v, e = .returned v ∧ w'.ownsRow w.heap.size 5 1 v 64 (bv (padKey key c)) ∧ Below w.heap.size w w' := by
  have hz1 := size_str key
  have SK := Lib.hid (short_key key)
  have PL := Lib.hid (padKey_len key c)
  have hc8 := u8_lt c
  go_enter Tryd.func32, Tryd.ntmps32
  go_upto_if 12 with fail
  go_cut [5] from 10 (fun v wr => v = .string ⟨(if 64 < key.length then sha key else key).toArray⟩ ∧ Below w.heap.size w wr)
  case first =>
    by_cases h64 : 64 < key.length
    · have SL := Lib.hid (sha_len key)
      go_wp2_with (first
        | (((with_reducible refine' wpList_bytes_l (l := key) (.tmp 13) 9 22 rfl ?_ Tryd.underlying9 Tryd.underlying22 Tryd.underlying5 ?_ ((by unfold maxLen; omega)) ?_); exact rfl; exact rfl; intro v2 w2 hr2 hN2; simp only [Act.put, List.setIfInBounds_toArray, List.set_cons_succ, List.set_cons_zero]); have hT2 := hT.below hN2)
        | (go_at_call 12; (with_reducible refine (refsum_any _ _ key _ hT2 hr2 hk).mono ?_); rintro e w' ⟨rfl, hN3⟩)
        | (go_at_call 20; (with_reducible refine (bytes32_any (sha key) _ SL.out).mono ?_); rintro e w' ⟨rfl, hN4⟩))
      go_meet
      case rel =>
        have z2 := hN2.size
        have z3 := hN3.size
        exact ⟨by rw [if_pos h64], (hN2.trans (hN3.mono z2)).trans (hN4.mono (by omega))⟩
    · go_wp2_with fail
      go_meet
      case rel => exact ⟨by rw [if_neg h64], Below.refl _ _⟩
  case rest =>
    obtain ⟨rfl, hbc⟩ := hcut
    obtain ⟨k, hkk⟩ : ∃ k, (if 64 < key.length then sha key else key) = k := ⟨_, rfl⟩
    have hsk := SK.out
    rw [hkk] at hsk ⊢
    have KK := Lib.hid hkk
    have hzk := size_str k
    clear hkk
    go_upto_region 6 with fail
    go_loopw [7, 6] (fun i v wr => ∃ t : Nat, t ≤ 64 ∧ i = .int .i64 t ∧ wr.ownsRow w.heap.size 5 1 v t (bv ((padKey key c).take t)) ∧ Below w.heap.size w wr) (fun i _ _ => 64 - (intOf i).toNat)
    case atStart => exact ⟨0, by omega, rfl, by rw [List.take_zero]; exact own_nil _ _ _ _, hbc⟩
    case round =>
      obtain ⟨t, ht, rfl, hown, hbl⟩ := hrel
      have HO := Lib.hid hown
      clear hown
      by_cases hlt : t < 64
      · obtain ⟨wo, rfl⟩ : ∃ wo : World, wo = wr := ⟨_, rfl⟩
        have TK := Lib.hid (take_bv (padKey_get (key := key) (c := c) KK.out hlt))
        by_cases htk : t < k.length
        · have hx8 := u8_lt (gb k t)
          have X8 := x8 (gb k t) c
          go_wp2_with (first | ((with_reducible refine' wpList_index_str (.tmp 25) (.tmp 26) 9 rfl ?_ Tryd.underlying9 (l := k) ?_ (t) ?_ ?_ ?_); exact rfl; exact rfl; (show (_ : Int) = _; omega); exact htk; simp only [Act.put, List.setIfInBounds_toArray, List.set_cons_succ, List.set_cons_zero]) | ((with_reducible refine' wpList_append_one (.tmp 28) (.tmp 32) 22 rfl ?_ Tryd.underlying22 inf_u8 ?_ ?_ HO.out ?_ ?_ ?_ ?_ hbl.size ?_); exact rfl; exact rfl; exact rfl; exact rfl; exact rfl; (first | omega | (unfold maxLen; omega)); omega; intro v4 w4 ho4 hb4; simp only [Act.put, List.setIfInBounds_toArray, List.set_cons_succ, List.set_cons_zero]))
          go_roundw
          case rel =>
            have h := TK.out
            rw [if_pos htk, UInt8.toNat_xor] at h
            rw [h] at ho4
            exact ⟨t + 1, by omega, by go_num, ho4, hbl.trans hb4⟩
          case measure => simp [intOf]; omega
        · have X8 := x8 0 c
          simp only [UInt8.toNat_zero, Int.natCast_zero] at X8
          go_wp2_with (first | ((with_reducible refine' wpList_append_one (.tmp 28) (.tmp 32) 22 rfl ?_ Tryd.underlying22 inf_u8 ?_ ?_ HO.out ?_ ?_ ?_ ?_ hbl.size ?_); exact rfl; exact rfl; exact rfl; exact rfl; exact rfl; (first | omega | (unfold maxLen; omega)); omega; intro v4 w4 ho4 hb4; simp only [Act.put, List.setIfInBounds_toArray, List.set_cons_succ, List.set_cons_zero]))
          go_roundw
          case rel =>
            have h := TK.out
            rw [if_neg htk, UInt8.zero_xor] at h
            rw [h] at ho4
            exact ⟨t + 1, by omega, by go_num, ho4, hbl.trans hb4⟩
          case measure => simp [intOf]; omega
      · obtain rfl : t = 64 := by omega
        have ho := HO.out
        rw [List.take_of_length_le (by rw [PL.out]; exact Nat.le_refl _)] at ho
        go_wp2_with fail
        go_ret
        exact ⟨_, rfl, ho, hbl⟩
theorem refpad54_any (key : List UInt8) (w : World) (hT : TabR w) (hk : key.length ≤ 70368744177664) :
    Calls Tryd.prog 32 #[.string ⟨key.toArray⟩, .int .u8 54] w fun e w' => ∃ v, e = .returned v ∧ w'.ownsRow w.heap.size 5 1 v 64 (bv (padKey key 54)) ∧ Below w.heap.size w w' := refpadkey_any key 54 w hT hk
theorem refpad92_any (key : List UInt8) (w : World) (hT : TabR w) (hk : key.length ≤ 70368744177664) :
    Calls Tryd.prog 32 #[.string ⟨key.toArray⟩, .int .u8 92] w fun e w' => ∃ v, e = .returned v ∧ w'.ownsRow w.heap.size 5 1 v 64 (bv (padKey key 92)) ∧ Below w.heap.size w w' := refpadkey_any key 92 w hT hk

set_option maxRecDepth 100000 in
set_option maxHeartbeats 800000 in
theorem refmac_any (key text : List UInt8) (w : World) (hT : TabR w) (hk : key.length ≤ 70368744177664) (ht : text.length ≤ 1000000) :
    Calls Tryd.prog 19 #[.string ⟨key.toArray⟩, .string ⟨text.toArray⟩] w fun e w' => e = .returned (.string ⟨(mac key text).toArray⟩) ∧ Below w.heap.size w w' := by
  have ME := Lib.hid (mac_eq key text)
  have PL := Lib.hid (padKey_len key 54)
  obtain ⟨H1, hH1⟩ : ∃ H, sha (padKey key 54 ++ text) = H := ⟨_, rfl⟩
  have L1 := Lib.hid (show H1.length = 32 by rw [← hH1, sha_len])
  have HH := Lib.hid hH1
  have L2 := Lib.hid (sha_len (padKey key 92 ++ H1))
  clear hH1
  go_enter Tryd.func19, Tryd.ntmps19
  go_wp2_with (first
    | ((go_at_call 32; (with_reducible refine (refpad54_any key _ hT hk).mono ?_); rintro e w' ⟨v1, rfl, o1, hN1⟩); have hT1 := hT.below hN1)
    | (((with_reducible refine' wpList_append_str (l := text) (.tmp 9) (.tmp 10) 22 9 rfl ?_ Tryd.underlying22 Tryd.underlying9 inf_u8 ?_ o1 ?_ ?_ hN1.size ?_); exact rfl; exact rfl; exact rfl; omega; intro v2 w2 o2 hN2; simp only [Act.put, List.setIfInBounds_toArray, List.set_cons_succ, List.set_cons_zero]); rw [← bv_append] at o2; have hb2 := hN1.trans hN2; have hT2 := hT.below hb2)
    | ((go_at_call 32; (with_reducible refine (refpad92_any key _ hT2 hk).mono ?_); rintro e w' ⟨v3, rfl, o3, hN3⟩); have hb3 := hb2.trans (hN3.mono hb2.size); have hT3 := hT.below hb3; have r2 := (Rd.of_own o2).below hN3)
    | ((go_at_call 12; (with_reducible refine (refsum_any v2 _ (padKey key 54 ++ text) _ hT3 r2 (by rw [List.length_append, PL.out]; omega)).mono ?_); rintro e w' ⟨rfl, hN4⟩); rw [HH.out]; have hb4 := hb3.trans (hN4.mono hb3.size); have o4 := own_below o3 hN4)
    | ((go_at_call 20; (with_reducible refine (bytes32_any H1 _ L1.out).mono ?_); rintro e w' ⟨rfl, hN5⟩); have hb5 := hb4.trans (hN5.mono hb4.size); have o5 := own_below o4 hN5; have z2 := hb2.size; have z3 := hN3.size; have z4 := hN4.size; have z5 := hN5.size)
    | (have q1 := L1.out; ((with_reducible refine' wpList_append_str (l := H1) (.tmp 14) (.tmp 17) 22 9 rfl ?_ Tryd.underlying22 Tryd.underlying9 inf_u8 ?_ o5 ?_ ?_ (by omega) ?_); exact rfl; exact rfl; exact rfl; omega; intro v6 w6 o6 hN6; simp only [Act.put, List.setIfInBounds_toArray, List.set_cons_succ, List.set_cons_zero]); rw [← bv_append] at o6; have hb6 := hb5.trans (hN6.mono hb2.size); have hT6 := hT.below hb6; have r6 := Rd.of_own o6)
    | ((go_at_call 12; (with_reducible refine (refsum_any v6 _ (padKey key 92 ++ H1) _ hT6 r6 (by rw [List.length_append, padKey_len, L1.out]; omega)).mono ?_); rintro e w' ⟨rfl, hN7⟩); have hb7 := hb6.trans (hN7.mono hb6.size))
    | ((go_at_call 20; (with_reducible refine (bytes32_any (sha (padKey key 92 ++ H1)) _ L2.out).mono ?_); rintro e w' ⟨rfl, hN8⟩)))
  go_ret
  refine ⟨?_, hb7.trans (hN8.mono hb7.size)⟩
  rw [ME.out, HH.out]; rfl

set_option maxRecDepth 100000 in
theorem refjoined_any (x : Value) (n : Nat) (l : List (List UInt8)) (w : World) (hx : Rd w 1 x n (sv l)) (hL : l.flatten.length ≤ 1000000000) :
    Calls Tryd.prog 16 #[x] w fun e w' => e = .returned (.string ⟨l.flatten.toArray⟩) ∧ w' = w := by
  have hl : l.length = n := by have := hx.1; rw [sv_length] at this; omega
  have HL := Lib.hid hl
  have hnm := hx.len
  unfold maxLen at hnm
  clear hl
  go_enter Tryd.func16, Tryd.ntmps16
  go_upto_region 3 with fail
  go_loop [4, 3] (fun i v => ∃ k : Nat, k ≤ n ∧ i = .int .i64 k ∧ v = .string ⟨(l.take k).flatten.toArray⟩) (fun i _ => n - (intOf i).toNat)
  case atStart => exact ⟨0, by omega, rfl, by simp⟩
  case round =>
    obtain ⟨k, hk, rfl, rfl⟩ := hrel
    by_cases hlt : k < n
    · obtain ⟨p, hp⟩ := get_lt (l := l) (k := k) (by rw [HL.out]; exact hlt)
      have SP := Lib.hid (sv_at hp)
      have hkl : k < l.length := by rw [HL.out]; exact hlt
      have e1 : (l.take (k + 1)).flatten = (l.take k).flatten ++ p := by
        have := (List.getElem?_eq_some_iff.1 hp).2
        rw [List.take_succ_eq_append_getElem hkl, this]; simp
      have e2 : (l.take (k + 1)).flatten.length ≤ l.flatten.length := by
        conv => rhs; rw [← List.take_append_drop (k + 1) l]
        rw [List.flatten_append, List.length_append]; omega
      rw [e1, List.length_append] at e2
      have E1 := Lib.hid e1
      clear e1 hp hkl
      go_wp2_with (first | ((with_reducible refine' wpList_len_rd (.tmp 6) 27 rfl ?_ Tryd.underlying27 ?_ hx ?_); exact rfl; exact rfl; simp only [Act.put, List.setIfInBounds_toArray, List.set_cons_succ, List.set_cons_zero]) | ((with_reducible refine' wpList_at1_rd (.tmp 12) (.tmp 13) 27 rfl ?_ Tryd.underlying27 sz_str ?_ hx (k) ?_ ?_ ?_); exact rfl; exact rfl; (show (_ : Int) = _; omega); omega; simp only [Act.put, List.setIfInBounds_toArray, List.set_cons_succ, List.set_cons_zero]) | ((with_reducible refine' wpList_load_rd (.tmp 14) 9 rfl ?_ ld_str ?_ hx (SP.out) ?_); exact rfl; exact rfl; simp only [Act.put, List.setIfInBounds_toArray, List.set_cons_succ, List.set_cons_zero]) | ((with_reducible refine' wpList_str_add (l := (l.take k).flatten) (m := p) (.tmp 11) (.tmp 15) 9 9 rfl ?_ ?_ ?_ ?_ ?_); exact rfl; exact rfl; exact rfl; omega; simp only [Act.put, List.setIfInBounds_toArray, List.set_cons_succ, List.set_cons_zero]))
      go_round
      case rel => exact ⟨k + 1, by omega, by go_num, by rw [E1.out]⟩
      case measure => simp [intOf]; omega
    · obtain rfl : k = n := by omega
      have e : (l.take k).flatten = l.flatten := by rw [List.take_of_length_le (by rw [HL.out]; exact Nat.le_refl _)]
      have E := Lib.hid e
      clear e
      go_wp2_with (((with_reducible refine' wpList_len_rd (.tmp 6) 27 rfl ?_ Tryd.underlying27 ?_ hx ?_); exact rfl; exact rfl; simp only [Act.put, List.setIfInBounds_toArray, List.set_cons_succ, List.set_cons_zero]))
      go_ret
      rw [E.out]
      exact ⟨rfl, rfl⟩

def fewB (l : List (List UInt8)) : Bool := decide (l.length ≤ 12 ∧ ∀ s ∈ l, s.length ≤ 400)
attribute [local irreducible] fewB
set_option maxRecDepth 100000 in
theorem reffew_any (x : Value) (n : Nat) (l : List (List UInt8)) (w : World) (hx : Rd w 1 x n (sv l)) (hs : ∀ s ∈ l, s.length ≤ 140737488355328) :
    Calls Tryd.prog 13 #[x] w fun e w' => e = .returned (.bool (fewB l)) ∧ w' = w := by
  have hl : l.length = n := by have := hx.1; rw [sv_length] at this; omega
  have HL := Lib.hid hl
  have hnm := hx.len
  unfold maxLen at hnm
  clear hl
  by_cases h12 : n ≤ 12
  · go_enter Tryd.func13, Tryd.ntmps13
    go_upto_region 4 with (((with_reducible refine' wpList_len_rd (.tmp 4) 27 rfl ?_ Tryd.underlying27 ?_ hx ?_); exact rfl; exact rfl; simp only [Act.put, List.setIfInBounds_toArray, List.set_cons_succ, List.set_cons_zero]))
    go_loop [3] (fun i => ∃ k : Nat, k ≤ n ∧ i = .int .i64 k ∧ ∀ s ∈ l.take k, s.length ≤ 400) (fun i => n - (intOf i).toNat)
    case atStart => exact ⟨0, by omega, rfl, by simp⟩
    case round =>
      obtain ⟨k, hk, rfl, hall⟩ := hrel
      have HA := Lib.hid hall
      clear hall
      by_cases hlt : k < n
      · obtain ⟨p, hp⟩ := get_lt (l := l) (k := k) (by rw [HL.out]; exact hlt)
        have SP := Lib.hid (sv_at hp)
        have hkl : k < l.length := by rw [HL.out]; exact hlt
        have hpm : p ∈ l := mem_of_get hp
        have hpl := hs p hpm
        have hzp := size_str p
        have HP := Lib.hid hp
        have HM := Lib.hid hpm
        have HS := Lib.hid hs
        clear hp hpm hs
        by_cases h4 : p.length ≤ 400
        · go_wp2_with (first | ((with_reducible refine' wpList_len_rd (.tmp 8) 27 rfl ?_ Tryd.underlying27 ?_ hx ?_); exact rfl; exact rfl; simp only [Act.put, List.setIfInBounds_toArray, List.set_cons_succ, List.set_cons_zero]) | ((with_reducible refine' wpList_at1_rd (.tmp 13) (.tmp 14) 27 rfl ?_ Tryd.underlying27 sz_str ?_ hx (k) ?_ ?_ ?_); exact rfl; exact rfl; (show (_ : Int) = _; omega); omega; simp only [Act.put, List.setIfInBounds_toArray, List.set_cons_succ, List.set_cons_zero]) | ((with_reducible refine' wpList_load_rd (.tmp 15) 9 rfl ?_ ld_str ?_ hx (SP.out) ?_); exact rfl; exact rfl; simp only [Act.put, List.setIfInBounds_toArray, List.set_cons_succ, List.set_cons_zero]))
          go_round
          case rel =>
            refine ⟨k + 1, by omega, by go_num, ?_⟩
            intro s hs
            have := (List.getElem?_eq_some_iff.1 HP.out).2
            rw [List.take_succ_eq_append_getElem (by rw [HL.out]; exact hlt), this] at hs
            rcases List.mem_append.1 hs with h | h
            · exact HA.out s h
            · simp at h; rw [h]; exact h4
          case measure => simp [intOf]; omega
        · have hno : fewB l = false := by
            unfold fewB
            simp only [decide_eq_false_iff_not]
            rintro ⟨_, h⟩
            exact h4 (h p HM.out)
          have HN := Lib.hid hno
          clear hno
          go_wp2_with (first | ((with_reducible refine' wpList_len_rd (.tmp 8) 27 rfl ?_ Tryd.underlying27 ?_ hx ?_); exact rfl; exact rfl; simp only [Act.put, List.setIfInBounds_toArray, List.set_cons_succ, List.set_cons_zero]) | ((with_reducible refine' wpList_at1_rd (.tmp 13) (.tmp 14) 27 rfl ?_ Tryd.underlying27 sz_str ?_ hx (k) ?_ ?_ ?_); exact rfl; exact rfl; (show (_ : Int) = _; omega); omega; simp only [Act.put, List.setIfInBounds_toArray, List.set_cons_succ, List.set_cons_zero]) | ((with_reducible refine' wpList_load_rd (.tmp 15) 9 rfl ?_ ld_str ?_ hx (SP.out) ?_); exact rfl; exact rfl; simp only [Act.put, List.setIfInBounds_toArray, List.set_cons_succ, List.set_cons_zero]))
          go_ret
          rw [HN.out]
          exact ⟨rfl, rfl⟩
      · obtain rfl : k = n := by omega
        have hyes : fewB l = true := by
          unfold fewB
          simp only [decide_eq_true_eq]
          refine ⟨by rw [HL.out]; exact h12, fun s hs => HA.out s ?_⟩
          rw [List.take_of_length_le (by rw [HL.out]; exact Nat.le_refl _)]; exact hs
        have HN := Lib.hid hyes
        clear hyes
        go_wp2_with (((with_reducible refine' wpList_len_rd (.tmp 8) 27 rfl ?_ Tryd.underlying27 ?_ hx ?_); exact rfl; exact rfl; simp only [Act.put, List.setIfInBounds_toArray, List.set_cons_succ, List.set_cons_zero]))
        go_ret
        rw [HN.out]
        exact ⟨rfl, rfl⟩
  · have hno : fewB l = false := by
      unfold fewB
      simp only [decide_eq_false_iff_not]
      rintro ⟨h, _⟩
      rw [HL.out] at h; exact h12 h
    have HN := Lib.hid hno
    clear hno
    go_enter Tryd.func13, Tryd.ntmps13
    go_wp2_with (((with_reducible refine' wpList_len_rd (.tmp 4) 27 rfl ?_ Tryd.underlying27 ?_ hx ?_); exact rfl; exact rfl; simp only [Act.put, List.setIfInBounds_toArray, List.set_cons_succ, List.set_cons_zero]))
    go_ret
    rw [HN.out]
    exact ⟨rfl, rfl⟩
end Go.Proofs.YtomjniijnpnehaaDoor.Wi
