/-
  The law WireCanonical: what its check computes is true.
-/
import Derived.Test.YtomjniijnpnehaaPul
namespace Go.Proofs.Ytomjniijnpnehaa.Pu
open Go
theorem decN_err {α : Type} {f : List UInt8 → α × Nat × Nat} {b : List UInt8} {k at_ : Nat} (h : (decN f b k at_).2.2 ≠ 0) : (decN f b k at_).1 = [] := by
  cases k with
  | zero => rfl
  | succ k =>
    simp only [decN] at h ⊢
    split
    · rfl
    · rename_i h1
      rw [if_neg h1] at h
      split
      · rfl
      · rename_i h2
        rw [if_neg h2] at h
        exact absurd rfl h
theorem list_err {α : Type} {f : List UInt8 → α × Nat × Nat} {b : List UInt8} {sz : Nat} (h : (let x := cnt b sz; if x.2.2 ≠ 0 then (([] : List α), 0, x.2.2) else decN f b x.1 x.2.1).2.2 ≠ 0) : (let x := cnt b sz; if x.2.2 ≠ 0 then (([] : List α), 0, x.2.2) else decN f b x.1 x.2.1).1 = [] := by
  simp only at h ⊢
  split
  · rfl
  · rename_i h1
    rw [if_neg h1] at h
    exact decN_err h

/-- what a decoder gives, and how long its coding is -/
theorem getInt_all (b : List UInt8) : (-9223372036854775808 ≤ (getInt b).1 ∧ (getInt b).1 ≤ 9223372036854775807) ∧ ((getInt b).2.2 = 0 → (getInt b).2.1 ≤ b.length ∧ enc (getInt b).1 = b.take (getInt b).2.1) := by
  obtain ⟨⟨n, i, e⟩, h⟩ : ∃ x, getInt b = x := ⟨_, rfl⟩
  rw [h]
  by_cases he : e = 0
  · subst he
    obtain ⟨h1, h2, h3, h4, _⟩ := enc_get h
    exact ⟨⟨h1, h2⟩, fun _ => ⟨h3, h4⟩⟩
  · have := (get_used_zero h he).1
    simp only at this ⊢
    exact ⟨by omega, fun h => absurd h he⟩
theorem getBytes_all (b : List UInt8) : (getBytes b).1.length ≤ b.length ∧ ((getBytes b).2.2 = 0 → (getBytes b).2.1 ≤ b.length ∧ encBytes (getBytes b).1 = b.take (getBytes b).2.1) := by
  obtain ⟨⟨s, i, e⟩, h⟩ : ∃ x, getBytes b = x := ⟨_, rfl⟩
  constructor
  · unfold getBytes
    simp only
    split
    · simp
    · rw [List.length_take, List.length_drop]; omega
  · rw [h]
    intro he
    simp only at he
    subst he
    obtain ⟨_, h2, h3⟩ := getBytes_can h
    exact ⟨h2, h3⟩
theorem enc0 (α : Type) (g : α → List UInt8) : (encList g []).length = 1 := by
  unfold encList
  rw [List.length_append, List.length_nil, show enc ((0 : Nat) : Int) = [128] from Wi.e_0]; simp
theorem all_of {α : Type} {g : α → List UInt8} {b : List UInt8} {r : List α × Nat × Nat} {p : List α → Prop} (hp : p [])
    (h0 : r.2.2 ≠ 0 → r.1 = []) (h1 : ∀ l u, r = (l, u, 0) → p l ∧ u ≤ b.length ∧ encList g l = b.take u) :
    p r.1 ∧ (encList g r.1).length ≤ b.length + 1 ∧ (r.2.2 = 0 → r.2.1 ≤ b.length ∧ encList g r.1 = b.take r.2.1) := by
  obtain ⟨l, u, e⟩ := r
  by_cases he : e = 0
  · subst he
    obtain ⟨a1, a2, a3⟩ := h1 l u rfl
    refine ⟨a1, ?_, fun _ => ⟨a2, a3⟩⟩
    show (encList g l).length ≤ _
    rw [a3, List.length_take]; omega
  · have := h0 he
    simp only at this
    subst this
    refine ⟨hp, ?_, fun h => absurd h he⟩
    show (encList g []).length ≤ _
    rw [enc0]; omega
theorem getInts_all (b : List UInt8) : (∀ x ∈ (getInts b).1, -9223372036854775808 ≤ x ∧ x ≤ 9223372036854775807) ∧ (encList enc (getInts b).1).length ≤ b.length + 1 ∧ ((getInts b).2.2 = 0 → (getInts b).2.1 ≤ b.length ∧ encList enc (getInts b).1 = b.take (getInts b).2.1) :=
  all_of (p := fun l => ∀ x ∈ l, -9223372036854775808 ≤ x ∧ x ≤ 9223372036854775807) (by simp) list_err fun l u h => getInts_can h
theorem getStrings_all (b : List UInt8) : (encList encBytes (getStrings b).1).length ≤ b.length + 1 ∧ ((getStrings b).2.2 = 0 → (getStrings b).2.1 ≤ b.length ∧ encList encBytes (getStrings b).1 = b.take (getStrings b).2.1) :=
  (all_of (p := fun _ => True) trivial list_err fun _ _ h => ⟨trivial, (getStrings_can h).2⟩).2
theorem getDigests_all (b : List UInt8) : (∀ x ∈ (getDigests b).1, x.length = 16) ∧ (encList id (getDigests b).1).length ≤ b.length + 1 ∧ ((getDigests b).2.2 = 0 → (getDigests b).2.1 ≤ b.length ∧ encList id (getDigests b).1 = b.take (getDigests b).2.1) :=
  all_of (g := id) (r := getDigests b) (p := fun l => ∀ x ∈ l, x.length = 16) (by simp) list_err fun l u h => getDigests_can h
end Go.Proofs.Ytomjniijnpnehaa.Pu
namespace Go.Proofs.Ytomjniijnpnehaa.Wi
open Go Go.RowKit Pu Lb

set_option maxRecDepth 100000 in
set_option maxHeartbeats 1600000 in
theorem canon1_any (B : Nat) (v vc : Value) (n nc : Nat) (b c : List UInt8) (used e : Nat) (w : World) (hB : Blk w B 28 [v]) (hv : Rd w 1 v n (bv b)) (hc : Rd w 1 vc nc (bv c)) (_hn : n ≤ 2000) (hE : e = 0 → used ≤ n ∧ c = b.take used) :
    Calls Try.prog 37 #[vc, .int .i64 (used : Int), .int .i64 (e : Int), .pointer (some ⟨B, 0, none⟩)] w fun r w' => r = .returned (.bool true) ∧ ∃ q, w' = w.drewN q := by
  by_cases he : e = 0
  · obtain ⟨hu, hcb⟩ := hE he
    subst he
    have HC := Lib.hid hcb
    clear hcb hE
    have h1 : decide ((used : Int) ≤ n) = true := by simp; omega
    have h2 : decide ((0 : Int) ≤ used) = true := by simp
    have h3 : (n : Int) ≥ used := by omega
    go_enter Try.func37, Try.ntmps37
    go_wp2_with (first
      | ((with_reducible refine' wpList_load_blk (.tmp 3) 28 rfl ?_ ld_bs ?_ hB ((rfl : [v][0]? = some v)) ?_); exact rfl; exact rfl; simp only [Act.put, List.setIfInBounds_toArray, List.set_cons_succ, List.set_cons_zero])
      | ((with_reducible refine' wpList_len_rd (.tmp 15) 28 rfl ?_ Try.underlying28 ?_ hv ?_); exact rfl; exact rfl; simp only [Act.put, List.setIfInBounds_toArray, List.set_cons_succ, List.set_cons_zero]) | ((with_reducible refine' wpList_len_rd (.tmp 23) 28 rfl ?_ Try.underlying28 ?_ hv ?_); exact rfl; exact rfl; simp only [Act.put, List.setIfInBounds_toArray, List.set_cons_succ, List.set_cons_zero])
      | ((with_reducible refine' wpList_to_b (.tmp 21) (.tmp 26) 28 rfl ?_ Try.underlying28 sz_u8 ?_ hv (used) ?_ ?_ ?_); exact rfl; exact rfl; (show (_ : Int) = _; omega); omega; intro v2 r2; simp only [Act.put, List.setIfInBounds_toArray, List.set_cons_succ, List.set_cons_zero])
      | (go_at_call 13; (with_reducible refine (same_any vc v2 _ _ c (b.take used) _ hc r2).mono ?_); rintro e w' ⟨rfl, nq, rfl⟩; rw [decide_eq_true HC.out]))
    all_goals go_ret
    all_goals exact ⟨rfl, nq, rfl⟩
  · have h1 : ((e : Int) != 0) = true := by rw [bne_iff_ne]; omega
    clear he hE
    go_enter Try.func37, Try.ntmps37
    go_wp2
    go_ret
    exact ⟨rfl, 0, rfl⟩

set_option maxRecDepth 100000 in
set_option maxHeartbeats 3200000 in
theorem canonical_any (v : Value) (n : Nat) (b : List UInt8) (w : World) (hv : Rd w 1 v n (bv b)) :
    Calls Try.prog 7 #[v] w fun e w' => e = .returned (.bool true) ∧ Below w.heap.size w w' := by
  have hl : b.length = n := by have := hv.1; rw [bv_length] at this; omega
  have hs := rd_shape hv
  have hb := Below.refl w.heap.size w
  by_cases hn : n ≤ 2000
  · obtain ⟨a1, a2⟩ := getInt_all b
    obtain ⟨b1, b2⟩ := getBytes_all b
    obtain ⟨c1, c2, c3⟩ := getInts_all b
    obtain ⟨d1, d2⟩ := getStrings_all b
    obtain ⟨e1, e2, e3⟩ := getDigests_all b
    rw [hl] at a2 b1 b2 c2 c3 d1 d2 e2 e3
    have A := Lib.hid a1; have A2 := Lib.hid a2; have B2 := Lib.hid b2; have C1 := Lib.hid (show IntsOk _ from c1); have C3 := Lib.hid c3; have D2 := Lib.hid d2; have E1 := Lib.hid (show DigsOk _ from e1); have E3 := Lib.hid e3
    clear a1 a2 b2 c1 c3 d2 e1 e3 hl
    go_enter Try.func7, Try.ntmps7
    go_wp2_with (first
      | (((with_reducible refine' wpList_box 28 (.tmp 0) rfl ?_ ?_ hs ?_); exact rfl; exact rfl; intro wB hk hN hz; simp only [Act.put, List.setIfInBounds_toArray, List.set_cons_succ, List.set_cons_zero]); replace hb := hb.trans ((by exact hN : Below _ _ _).mono hb.size); (try replace hv := Rd.below hv hN))
      | ((with_reducible refine' wpList_load_blk (.tmp 1) 28 rfl ?_ ld_bs ?_ hk ((rfl : [v][0]? = some v)) ?_); exact rfl; exact rfl; simp only [Act.put, List.setIfInBounds_toArray, List.set_cons_succ, List.set_cons_zero])
      | ((with_reducible refine' wpList_len_rd (.tmp 19) 28 rfl ?_ Try.underlying28 ?_ hv ?_); exact rfl; exact rfl; simp only [Act.put, List.setIfInBounds_toArray, List.set_cons_succ, List.set_cons_zero])
      | (go_at_call 24; (with_reducible refine (getint_any v _ b _ hv).mono ?_); rintro e w' ⟨rfl, rfl⟩; unfold R3)
      | (go_at_call 26; (with_reducible refine (getbytes_any v _ b _ hv (by omega)).mono ?_); rintro e w' ⟨rfl, rfl⟩; unfold RS)
      | (go_at_call 28; (with_reducible refine (getints_any v _ b _ hv (by omega)).mono ?_); rintro e w' ⟨v1, rfl, o1, hN⟩; replace hb := hb.trans ((by exact hN : Below _ _ _).mono hb.size); (try replace hv := Rd.below hv hN); (try replace hk := Blk.below hk hN (Blk.lt hk)); have r1 := Rd.of_own o1; clear o1)
      | (go_at_call 31; (with_reducible refine (getstrings_any v _ b _ hv (by omega)).mono ?_); rintro e w' ⟨v2, rfl, o2, hN⟩; replace hb := hb.trans ((by exact hN : Below _ _ _).mono hb.size); (try replace hv := Rd.below hv hN); (try replace r1 := Rd.below r1 hN); (try replace hk := Blk.below hk hN (Blk.lt hk)); have r2 := Rd.of_own o2; clear o2)
      | (go_at_call 34; (with_reducible refine (getdigests_any v _ b _ hv (by omega)).mono ?_); rintro e w' ⟨v3, rfl, o3, hN⟩; replace hb := hb.trans ((by exact hN : Below _ _ _).mono hb.size); (try replace hv := Rd.below hv hN); (try replace r1 := Rd.below r1 hN); (try replace r2 := Rd.below r2 hN); (try replace hk := Blk.below hk hN (Blk.lt hk)); have r3 := Rd.of_own o3; clear o3)
      | (go_at_call 12; (with_reducible refine (sanity_any _).mono ?_); rintro e w' ⟨rfl, hN⟩; replace hb := hb.trans ((by exact hN : Below _ _ _).mono hb.size); (try replace hv := Rd.below hv hN); (try replace r1 := Rd.below r1 hN); (try replace r2 := Rd.below r2 hN); (try replace r3 := Rd.below r3 hN); (try replace hk := Blk.below hk hN (Blk.lt hk)))
      | (go_at_call 14; (with_reducible refine (int_any _ _ A.out.1 A.out.2).mono ?_); rintro e w' ⟨vi, rfl, oi, hN⟩; replace hb := hb.trans ((by exact hN : Below _ _ _).mono hb.size); (try replace hv := Rd.below hv hN); (try replace r1 := Rd.below r1 hN); (try replace r2 := Rd.below r2 hN); (try replace r3 := Rd.below r3 hN); (try replace hk := Blk.below hk hN (Blk.lt hk)); have ri := Rd.of_own oi; clear oi)
      | (go_at_call 16; (with_reducible refine (bytes_any (getBytes b).1 _ (by omega)).mono ?_); rintro e w' ⟨vs, rfl, os, hN⟩; replace hb := hb.trans ((by exact hN : Below _ _ _).mono hb.size); (try replace hv := Rd.below hv hN); (try replace r1 := Rd.below r1 hN); (try replace r2 := Rd.below r2 hN); (try replace r3 := Rd.below r3 hN); (try replace hk := Blk.below hk hN (Blk.lt hk)); have rs := Rd.of_own os; clear os)
      | (go_at_call 18; (with_reducible refine (ints_any v1 _ (getInts b).1 _ r1 C1.out (by omega)).mono ?_); rintro e w' ⟨vl, rfl, ol, hN⟩; replace hb := hb.trans ((by exact hN : Below _ _ _).mono hb.size); (try replace hv := Rd.below hv hN); (try replace r2 := Rd.below r2 hN); (try replace r3 := Rd.below r3 hN); (try replace hk := Blk.below hk hN (Blk.lt hk)); have rl := Rd.of_own ol; clear ol)
      | (go_at_call 20; (with_reducible refine (strings_any v2 _ (getStrings b).1 _ r2 (by omega)).mono ?_); rintro e w' ⟨vx, rfl, ox, hN⟩; replace hb := hb.trans ((by exact hN : Below _ _ _).mono hb.size); (try replace hv := Rd.below hv hN); (try replace r3 := Rd.below r3 hN); (try replace hk := Blk.below hk hN (Blk.lt hk)); have rx := Rd.of_own ox; clear ox)
      | (go_at_call 22; (with_reducible refine (digests_any v3 _ (getDigests b).1 _ E1.out r3 (by omega)).mono ?_); rintro e w' ⟨vd, rfl, od, hN⟩; replace hb := hb.trans ((by exact hN : Below _ _ _).mono hb.size); (try replace hv := Rd.below hv hN); (try replace hk := Blk.below hk hN (Blk.lt hk)); have rd := Rd.of_own od; clear od)
      | (go_at_call 37; (with_reducible refine (canon1_any _ v vi _ _ b _ _ _ _ hk hv ri hn A2.out).mono ?_); rintro e w' ⟨rfl, nq, rfl⟩; clear ri; replace hb := below_drewN hb nq; (try replace hv := Rd.drewN hv nq); (try replace r1 := Rd.drewN r1 nq); (try replace r2 := Rd.drewN r2 nq); (try replace r3 := Rd.drewN r3 nq); (try replace hk := Blk.drewN hk nq))
      | (go_at_call 37; (with_reducible refine (canon1_any _ v vs _ _ b _ _ _ _ hk hv rs hn B2.out).mono ?_); rintro e w' ⟨rfl, nq, rfl⟩; clear rs; replace hb := below_drewN hb nq; (try replace hv := Rd.drewN hv nq); (try replace r1 := Rd.drewN r1 nq); (try replace r2 := Rd.drewN r2 nq); (try replace r3 := Rd.drewN r3 nq); (try replace hk := Blk.drewN hk nq))
      | (go_at_call 37; (with_reducible refine (canon1_any _ v vl _ _ b _ _ _ _ hk hv rl hn C3.out).mono ?_); rintro e w' ⟨rfl, nq, rfl⟩; clear rl; replace hb := below_drewN hb nq; (try replace hv := Rd.drewN hv nq); (try replace r2 := Rd.drewN r2 nq); (try replace r3 := Rd.drewN r3 nq); (try replace hk := Blk.drewN hk nq))
      | (go_at_call 37; (with_reducible refine (canon1_any _ v vx _ _ b _ _ _ _ hk hv rx hn D2.out).mono ?_); rintro e w' ⟨rfl, nq, rfl⟩; clear rx; replace hb := below_drewN hb nq; (try replace hv := Rd.drewN hv nq); (try replace r3 := Rd.drewN r3 nq); (try replace hk := Blk.drewN hk nq))
      | (go_at_call 37; (with_reducible refine (canon1_any _ v vd _ _ b _ _ _ _ hk hv rd hn E3.out).mono ?_); rintro e w' ⟨rfl, nq, rfl⟩; clear rd; replace hb := below_drewN hb nq))
    go_ret
    exact ⟨rfl, hb⟩
  · go_enter Try.func7, Try.ntmps7
    go_wp2_with (first
      | (((with_reducible refine' wpList_box 28 (.tmp 0) rfl ?_ ?_ hs ?_); exact rfl; exact rfl; intro wB hk hN hz; simp only [Act.put, List.setIfInBounds_toArray, List.set_cons_succ, List.set_cons_zero]); replace hb := hb.trans ((by exact hN : Below _ _ _).mono hb.size); (try replace hv := Rd.below hv hN))
      | ((with_reducible refine' wpList_load_blk (.tmp 1) 28 rfl ?_ ld_bs ?_ hk ((rfl : [v][0]? = some v)) ?_); exact rfl; exact rfl; simp only [Act.put, List.setIfInBounds_toArray, List.set_cons_succ, List.set_cons_zero])
      | ((with_reducible refine' wpList_len_rd (.tmp 19) 28 rfl ?_ Try.underlying28 ?_ hv ?_); exact rfl; exact rfl; simp only [Act.put, List.setIfInBounds_toArray, List.set_cons_succ, List.set_cons_zero])
      | (go_at_call 12; (with_reducible refine (sanity_any _).mono ?_); rintro e w' ⟨rfl, hN⟩; replace hb := hb.trans ((by exact hN : Below _ _ _).mono hb.size)))
    go_ret
    exact ⟨rfl, hb⟩
end Go.Proofs.Ytomjniijnpnehaa.Wi
