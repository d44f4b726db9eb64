/-
  The encoders of lists: integers, byte strings, digests. Conditions: the argument reads as such a list; the encoding has at most 2^46 bytes.
-/
import Derived.Test.YtomjniijnpnehaaByt
namespace Go.Proofs.Ytomjniijnpnehaa.Wi
open Go Go.RowKit Pu Lb

def iv (l : List Int) : List Value := l.map (Value.int .i64)
def sv (l : List (List UInt8)) : List Value := l.map fun s => .string ⟨s.toArray⟩
theorem iv_at {l : List Int} {k : Nat} {x : Int} (h : l[k]? = some x) : (iv l)[k]? = some (.int .i64 x) := by simp [iv, h]
theorem sv_at {l : List (List UInt8)} {k : Nat} {x : List UInt8} (h : l[k]? = some x) : (sv l)[k]? = some (.string ⟨x.toArray⟩) := by simp [sv, h]
theorem iv_length (l : List Int) : (iv l).length = l.length := by simp [iv]
theorem sv_length (l : List (List UInt8)) : (sv l).length = l.length := by simp [sv]
def IntsOk (l : List Int) : Prop := ∀ x ∈ l, -9223372036854775808 ≤ x ∧ x ≤ 9223372036854775807
theorem mem_of_get {α : Type} {l : List α} {k : Nat} {x : α} (h : l[k]? = some x) : x ∈ l := List.mem_of_getElem? h

set_option maxRecDepth 100000 in
theorem ints_any (v : Value) (n : Nat) (l : List Int) (w : World) (hv : Rd w 1 v n (iv l)) (hl0 : IntsOk l) (hT : (encList enc l).length ≤ 70368744177664) :
    Calls Try.prog 18 #[v] w fun e w' => ∃ v, e = .returned v ∧ w'.ownsRow w.heap.size 5 1 v (encList enc l).length (bv (encList enc l)) ∧ Below w.heap.size w w' := by
  have hn := hv.len
  unfold maxLen at hn
  have hl : l.length = n := by have := hv.1; rw [iv_length] at this; omega
  have HL := Lib.hid hl; clear hl
  have hT1 := encTo_le enc l
  obtain ⟨T, hTe⟩ : ∃ T, T = (encList enc l).length := ⟨_, rfl⟩
  rw [← hTe] at hT hT1
  have HT := Lib.hid hTe; clear hTe
  go_enter Try.func18, Try.ntmps18
  go_wp2_with (first | ((with_reducible refine' wpList_len_rd (.tmp 6) 22 rfl ?_ Try.underlying22 ?_ hv ?_); exact rfl; exact rfl; simp only [Act.put, List.setIfInBounds_toArray, List.set_cons_succ, List.set_cons_zero]) | (go_at_call 14; refine (int_any _ _ (by omega) (by omega)).mono ?_; rintro e w' ⟨v1, rfl, ho1, hb1⟩; rw [← HL.out, ← encTo_zero enc l] at ho1; have hv1 := hv.below hb1) | ((with_reducible refine' wpList_len_rd (.tmp 9) 22 rfl ?_ Try.underlying22 ?_ hv1 ?_); exact rfl; exact rfl; simp only [Act.put, List.setIfInBounds_toArray, List.set_cons_succ, List.set_cons_zero]))
  go_loopw [3, 11] (fun x i wr => ∃ k : Nat, k ≤ n ∧ i = .int .i64 k ∧ wr.ownsRow w.heap.size 5 1 x (encTo enc l k).length (bv (encTo enc l k)) ∧ Below w.heap.size w wr) (fun _ i _ => n - (intOf i).toNat)
  case atStart => exact ⟨0, Nat.zero_le _, rfl, ho1, hb1⟩
  case round =>
    obtain ⟨k, hk, rfl, hown, hbl⟩ := hrel
    have HO := Lib.hid hown; clear hown
    have hg := hv.below hbl
    by_cases hlt : k < n
    · obtain ⟨x, hx⟩ : ∃ x, l[k]? = some x := get_lt (by rw [HL.out]; exact hlt)
      have C := Lib.hid (iv_at hx)
      have hxb := hl0 x (mem_of_get hx)
      have hst := encTo_step enc hx
      have h2 := hT1 (k + 1)
      rw [hst, List.length_append] at h2
      have HS := Lib.hid hst; clear hst hx
      have h1 := bv_one (enc x)
      go_wp2_with (first | ((with_reducible refine' wpList_at1_rd (.tmp 9) (.tmp 11) 22 rfl ?_ Try.underlying22 sz_int ?_ hg (k) ?_ ?_ ?_); exact rfl; exact rfl; (show (_ : Int) = _; omega); omega; simp only [Act.put, List.setIfInBounds_toArray, List.set_cons_succ, List.set_cons_zero]) | ((with_reducible refine' wpList_load_rd (.tmp 13) 3 rfl ?_ ld_int ?_ hg (C.out) ?_); exact rfl; exact rfl; simp only [Act.put, List.setIfInBounds_toArray, List.set_cons_succ, List.set_cons_zero]) | (go_at_call 14; refine (int_any _ _ hxb.1 hxb.2).mono ?_; rintro e w' ⟨v2, rfl, ho2, hb2⟩) | ((with_reducible refine' wpList_append_rd (.tmp 15) (.tmp 17) 28 rfl ?_ Try.underlying28 inf_u8 ?_ ?_ ?_ (own_below HO.out hb2) ?_ (Rd.of_own ho2) h1 ?_ ?_ (Nat.le_trans hbl.size hb2.size) ?_); exact rfl; exact rfl; omega; exact rfl; exact rfl; (first | omega | (unfold maxLen; omega)); omega; intro v3 w3 ho3 hb3; simp only [Act.put, List.setIfInBounds_toArray, List.set_cons_succ, List.set_cons_zero]))
      rw [← bv_append, ← List.length_append, ← HS.out] at ho3
      have HO3 := Lib.hid ho3; clear ho3
      go_roundw
      case rel => exact ⟨k + 1, by omega, by go_num, HO3.out, (hbl.trans (hb2.mono hbl.size)).trans hb3⟩
      case measure => simp [intOf]; omega
    · go_wp2_with fail
      go_ret
      refine ⟨_, rfl, ?_, hbl⟩
      rw [← encTo_all enc l (k := k) (by rw [HL.out]; omega)]
      exact HO.out

set_option maxRecDepth 100000 in
theorem strings_any (v : Value) (n : Nat) (l : List (List UInt8)) (w : World) (hv : Rd w 1 v n (sv l)) (hT : (encList encBytes l).length ≤ 70368744177664) :
    Calls Try.prog 20 #[v] w fun e w' => ∃ v, e = .returned v ∧ w'.ownsRow w.heap.size 5 1 v (encList encBytes l).length (bv (encList encBytes l)) ∧ Below w.heap.size w w' := by
  have hn := hv.len
  unfold maxLen at hn
  have hl : l.length = n := by have := hv.1; rw [sv_length] at this; omega
  have HL := Lib.hid hl; clear hl
  have hT1 := encTo_le encBytes l
  obtain ⟨T, hTe⟩ : ∃ T, T = (encList encBytes l).length := ⟨_, rfl⟩
  rw [← hTe] at hT hT1
  have HT := Lib.hid hTe; clear hTe
  go_enter Try.func20, Try.ntmps20
  go_wp2_with (first | ((with_reducible refine' wpList_len_rd (.tmp 6) 23 rfl ?_ Try.underlying23 ?_ hv ?_); exact rfl; exact rfl; simp only [Act.put, List.setIfInBounds_toArray, List.set_cons_succ, List.set_cons_zero]) | (go_at_call 14; refine (int_any _ _ (by omega) (by omega)).mono ?_; rintro e w' ⟨v1, rfl, ho1, hb1⟩; rw [← HL.out, ← encTo_zero encBytes l] at ho1; have hv1 := hv.below hb1) | ((with_reducible refine' wpList_len_rd (.tmp 9) 23 rfl ?_ Try.underlying23 ?_ hv1 ?_); exact rfl; exact rfl; simp only [Act.put, List.setIfInBounds_toArray, List.set_cons_succ, List.set_cons_zero]))
  go_loopw [3, 11] (fun x i wr => ∃ k : Nat, k ≤ n ∧ i = .int .i64 k ∧ wr.ownsRow w.heap.size 5 1 x (encTo encBytes l k).length (bv (encTo encBytes l k)) ∧ Below w.heap.size w wr) (fun _ i _ => n - (intOf i).toNat)
  case atStart => exact ⟨0, Nat.zero_le _, rfl, ho1, hb1⟩
  case round =>
    obtain ⟨k, hk, rfl, hown, hbl⟩ := hrel
    have HO := Lib.hid hown; clear hown
    have hg := hv.below hbl
    by_cases hlt : k < n
    · obtain ⟨x, hx⟩ : ∃ x, l[k]? = some x := get_lt (by rw [HL.out]; exact hlt)
      have C := Lib.hid (sv_at hx)
      have hxb := encBytes_length x
      have hst := encTo_step encBytes hx
      have h2 := hT1 (k + 1)
      rw [hst, List.length_append] at h2
      have HS := Lib.hid hst; clear hst hx
      have h1 := bv_one (encBytes x)
      go_wp2_with (first | ((with_reducible refine' wpList_at1_rd (.tmp 9) (.tmp 11) 23 rfl ?_ Try.underlying23 sz_str ?_ hg (k) ?_ ?_ ?_); exact rfl; exact rfl; (show (_ : Int) = _; omega); omega; simp only [Act.put, List.setIfInBounds_toArray, List.set_cons_succ, List.set_cons_zero]) | ((with_reducible refine' wpList_load_rd (.tmp 13) 9 rfl ?_ ld_str ?_ hg (C.out) ?_); exact rfl; exact rfl; simp only [Act.put, List.setIfInBounds_toArray, List.set_cons_succ, List.set_cons_zero]) | (go_at_call 16; refine (bytes_any _ _ (by omega)).mono ?_; rintro e w' ⟨v2, rfl, ho2, hb2⟩) | ((with_reducible refine' wpList_append_rd (.tmp 15) (.tmp 17) 28 rfl ?_ Try.underlying28 inf_u8 ?_ ?_ ?_ (own_below HO.out hb2) ?_ (Rd.of_own ho2) h1 ?_ ?_ (Nat.le_trans hbl.size hb2.size) ?_); exact rfl; exact rfl; omega; exact rfl; exact rfl; (first | omega | (unfold maxLen; omega)); omega; intro v3 w3 ho3 hb3; simp only [Act.put, List.setIfInBounds_toArray, List.set_cons_succ, List.set_cons_zero]))
      rw [← bv_append, ← List.length_append, ← HS.out] at ho3
      have HO3 := Lib.hid ho3; clear ho3
      go_roundw
      case rel => exact ⟨k + 1, by omega, by go_num, HO3.out, (hbl.trans (hb2.mono hbl.size)).trans hb3⟩
      case measure => simp [intOf]; omega
    · go_wp2_with fail
      go_ret
      refine ⟨_, rfl, ?_, hbl⟩
      rw [← encTo_all encBytes l (k := k) (by rw [HL.out]; omega)]
      exact HO.out

set_option maxRecDepth 100000 in
theorem refints_any (v : Value) (n : Nat) (l : List Int) (w : World) (hv : Rd w 1 v n (iv l)) (hl0 : IntsOk l) (hT : (encList enc l).length ≤ 70368744177664) :
    Calls Try.prog 19 #[v] w fun e w' => ∃ v, e = .returned v ∧ w'.ownsRow w.heap.size 5 1 v (encList enc l).length (bv (encList enc l)) ∧ Below w.heap.size w w' := by
  have hn := hv.len
  unfold maxLen at hn
  have hl : l.length = n := by have := hv.1; rw [iv_length] at this; omega
  have HL := Lib.hid hl; clear hl
  have hT1 := encTo_le enc l
  obtain ⟨T, hTe⟩ : ∃ T, T = (encList enc l).length := ⟨_, rfl⟩
  rw [← hTe] at hT hT1
  have HT := Lib.hid hTe; clear hTe
  go_enter Try.func19, Try.ntmps19
  go_wp2_with (first | ((with_reducible refine' wpList_len_rd (.tmp 5) 22 rfl ?_ Try.underlying22 ?_ hv ?_); exact rfl; exact rfl; simp only [Act.put, List.setIfInBounds_toArray, List.set_cons_succ, List.set_cons_zero]) | (go_at_call 15; refine (refint_any _ _ (by omega) (by omega)).mono ?_; rintro e w' ⟨v1, rfl, ho1, hb1⟩; rw [← HL.out, ← encTo_zero enc l] at ho1; have hv1 := hv.below hb1))
  go_loopw [3, 4] (fun x i wr => ∃ k : Nat, k ≤ n ∧ i = .int .i64 k ∧ wr.ownsRow w.heap.size 5 1 x (encTo enc l k).length (bv (encTo enc l k)) ∧ Below w.heap.size w wr) (fun _ i _ => n - (intOf i).toNat)
  case atStart => exact ⟨0, Nat.zero_le _, rfl, ho1, hb1⟩
  case round =>
    obtain ⟨k, hk, rfl, hown, hbl⟩ := hrel
    have HO := Lib.hid hown; clear hown
    have hg := hv.below hbl
    by_cases hlt : k < n
    · obtain ⟨x, hx⟩ : ∃ x, l[k]? = some x := get_lt (by rw [HL.out]; exact hlt)
      have C := Lib.hid (iv_at hx)
      have hxb := hl0 x (mem_of_get hx)
      have hst := encTo_step enc hx
      have h2 := hT1 (k + 1)
      rw [hst, List.length_append] at h2
      have HS := Lib.hid hst; clear hst hx
      have h1 := bv_one (enc x)
      go_wp2_with (first | ((with_reducible refine' wpList_len_rd (.tmp 9) 22 rfl ?_ Try.underlying22 ?_ hg ?_); exact rfl; exact rfl; simp only [Act.put, List.setIfInBounds_toArray, List.set_cons_succ, List.set_cons_zero]) | ((with_reducible refine' wpList_at1_rd (.tmp 15) (.tmp 16) 22 rfl ?_ Try.underlying22 sz_int ?_ hg (k) ?_ ?_ ?_); exact rfl; exact rfl; (show (_ : Int) = _; omega); omega; simp only [Act.put, List.setIfInBounds_toArray, List.set_cons_succ, List.set_cons_zero]) | ((with_reducible refine' wpList_load_rd (.tmp 17) 3 rfl ?_ ld_int ?_ hg (C.out) ?_); exact rfl; exact rfl; simp only [Act.put, List.setIfInBounds_toArray, List.set_cons_succ, List.set_cons_zero]) | (go_at_call 15; refine (refint_any _ _ hxb.1 hxb.2).mono ?_; rintro e w' ⟨v2, rfl, ho2, hb2⟩) | ((with_reducible refine' wpList_append_rd (.tmp 14) (.tmp 19) 28 rfl ?_ Try.underlying28 inf_u8 ?_ ?_ ?_ (own_below HO.out hb2) ?_ (Rd.of_own ho2) h1 ?_ ?_ (Nat.le_trans hbl.size hb2.size) ?_); exact rfl; exact rfl; omega; exact rfl; exact rfl; (first | omega | (unfold maxLen; omega)); omega; intro v3 w3 ho3 hb3; simp only [Act.put, List.setIfInBounds_toArray, List.set_cons_succ, List.set_cons_zero]))
      rw [← bv_append, ← List.length_append, ← HS.out] at ho3
      have HO3 := Lib.hid ho3; clear ho3
      go_roundw
      case rel => exact ⟨k + 1, by omega, by go_num, HO3.out, (hbl.trans (hb2.mono hbl.size)).trans hb3⟩
      case measure => simp [intOf]; omega
    · go_wp2_with (first | ((with_reducible refine' wpList_len_rd (.tmp 9) 22 rfl ?_ Try.underlying22 ?_ hg ?_); exact rfl; exact rfl; simp only [Act.put, List.setIfInBounds_toArray, List.set_cons_succ, List.set_cons_zero]))
      go_ret
      refine ⟨_, rfl, ?_, hbl⟩
      rw [← encTo_all enc l (k := k) (by rw [HL.out]; omega)]
      exact HO.out

set_option maxRecDepth 100000 in
theorem refstrings_any (v : Value) (n : Nat) (l : List (List UInt8)) (w : World) (hv : Rd w 1 v n (sv l)) (hT : (encList encBytes l).length ≤ 70368744177664) :
    Calls Try.prog 21 #[v] w fun e w' => ∃ v, e = .returned v ∧ w'.ownsRow w.heap.size 5 1 v (encList encBytes l).length (bv (encList encBytes l)) ∧ Below w.heap.size w w' := by
  have hn := hv.len
  unfold maxLen at hn
  have hl : l.length = n := by have := hv.1; rw [sv_length] at this; omega
  have HL := Lib.hid hl; clear hl
  have hT1 := encTo_le encBytes l
  obtain ⟨T, hTe⟩ : ∃ T, T = (encList encBytes l).length := ⟨_, rfl⟩
  rw [← hTe] at hT hT1
  have HT := Lib.hid hTe; clear hTe
  go_enter Try.func21, Try.ntmps21
  go_wp2_with (first | ((with_reducible refine' wpList_len_rd (.tmp 5) 23 rfl ?_ Try.underlying23 ?_ hv ?_); exact rfl; exact rfl; simp only [Act.put, List.setIfInBounds_toArray, List.set_cons_succ, List.set_cons_zero]) | (go_at_call 15; refine (refint_any _ _ (by omega) (by omega)).mono ?_; rintro e w' ⟨v1, rfl, ho1, hb1⟩; rw [← HL.out, ← encTo_zero encBytes l] at ho1; have hv1 := hv.below hb1))
  go_loopw [3, 4] (fun x i wr => ∃ k : Nat, k ≤ n ∧ i = .int .i64 k ∧ wr.ownsRow w.heap.size 5 1 x (encTo encBytes l k).length (bv (encTo encBytes l k)) ∧ Below w.heap.size w wr) (fun _ i _ => n - (intOf i).toNat)
  case atStart => exact ⟨0, Nat.zero_le _, rfl, ho1, hb1⟩
  case round =>
    obtain ⟨k, hk, rfl, hown, hbl⟩ := hrel
    have HO := Lib.hid hown; clear hown
    have hg := hv.below hbl
    by_cases hlt : k < n
    · obtain ⟨x, hx⟩ : ∃ x, l[k]? = some x := get_lt (by rw [HL.out]; exact hlt)
      have C := Lib.hid (sv_at hx)
      have hxb := encBytes_length x
      have hst := encTo_step encBytes hx
      have h2 := hT1 (k + 1)
      rw [hst, List.length_append] at h2
      have HS := Lib.hid hst; clear hst hx
      have h1 := bv_one (encBytes x)
      go_wp2_with (first | ((with_reducible refine' wpList_len_rd (.tmp 9) 23 rfl ?_ Try.underlying23 ?_ hg ?_); exact rfl; exact rfl; simp only [Act.put, List.setIfInBounds_toArray, List.set_cons_succ, List.set_cons_zero]) | ((with_reducible refine' wpList_at1_rd (.tmp 15) (.tmp 16) 23 rfl ?_ Try.underlying23 sz_str ?_ hg (k) ?_ ?_ ?_); exact rfl; exact rfl; (show (_ : Int) = _; omega); omega; simp only [Act.put, List.setIfInBounds_toArray, List.set_cons_succ, List.set_cons_zero]) | ((with_reducible refine' wpList_load_rd (.tmp 17) 9 rfl ?_ ld_str ?_ hg (C.out) ?_); exact rfl; exact rfl; simp only [Act.put, List.setIfInBounds_toArray, List.set_cons_succ, List.set_cons_zero]) | (go_at_call 17; refine (refbytes_any _ _ (by omega)).mono ?_; rintro e w' ⟨v2, rfl, ho2, hb2⟩) | ((with_reducible refine' wpList_append_rd (.tmp 14) (.tmp 19) 28 rfl ?_ Try.underlying28 inf_u8 ?_ ?_ ?_ (own_below HO.out hb2) ?_ (Rd.of_own ho2) h1 ?_ ?_ (Nat.le_trans hbl.size hb2.size) ?_); exact rfl; exact rfl; omega; exact rfl; exact rfl; (first | omega | (unfold maxLen; omega)); omega; intro v3 w3 ho3 hb3; simp only [Act.put, List.setIfInBounds_toArray, List.set_cons_succ, List.set_cons_zero]))
      rw [← bv_append, ← List.length_append, ← HS.out] at ho3
      have HO3 := Lib.hid ho3; clear ho3
      go_roundw
      case rel => exact ⟨k + 1, by omega, by go_num, HO3.out, (hbl.trans (hb2.mono hbl.size)).trans hb3⟩
      case measure => simp [intOf]; omega
    · go_wp2_with (first | ((with_reducible refine' wpList_len_rd (.tmp 9) 23 rfl ?_ Try.underlying23 ?_ hg ?_); exact rfl; exact rfl; simp only [Act.put, List.setIfInBounds_toArray, List.set_cons_succ, List.set_cons_zero]))
      go_ret
      refine ⟨_, rfl, ?_, hbl⟩
      rw [← encTo_all encBytes l (k := k) (by rw [HL.out]; omega)]
      exact HO.out
end Go.Proofs.Ytomjniijnpnehaa.Wi
