/-
  Plain laws of the lists' coding: round trip, canonical form, parts. Conditions: none.
-/
import Derived.Test.YtomjniijnpnehaaCom
namespace Go.Proofs.Ytomjniijnpnehaa.Pu
open Go

/-- what is known of a coding of elements -/
structure Codec {α : Type} (g : α → List UInt8) (f : List UInt8 → α × Nat × Nat) (ok : α → Prop) : Prop where
  rt : ∀ x t, ok x → f (g x ++ t) = (x, (g x).length, 0)
  can : ∀ b x used, f b = (x, used, 0) → ok x ∧ used ≤ b.length ∧ g x = b.take used
  part : ∀ x i, ok x → i < (g x).length → (f ((g x).take i)).2.2 = 3
  pos : ∀ x, 1 ≤ (g x).length

theorem take_take_drop {α : Type} {b : List α} {i j : Nat} (h : i ≤ j) : b.take i ++ (b.drop i).take (j - i) = b.take j := by
  rw [show j = i + (j - i) by omega, List.take_add, show i + (j - i) - i = j - i by omega]

section
variable {α : Type} {g : α → List UInt8} {f : List UInt8 → α × Nat × Nat} {ok : α → Prop}

theorem decN_rt (c : Codec g f ok) : ∀ (l : List α) (p t : List UInt8), (∀ x ∈ l, ok x) → decN f (p ++ (l.flatMap g ++ t)) l.length p.length = (l, p.length + (l.flatMap g).length, 0)
  | [], p, t, _ => by simp [decN]
  | x :: l, p, t, h => by
    have ih := decN_rt c l (p ++ g x) t (fun y hy => h y (List.mem_cons_of_mem _ hy))
    simp only [List.length_cons, decN]
    rw [List.drop_left, List.flatMap_cons, List.append_assoc, c.rt x _ (h x (List.mem_cons_self ..))]
    rw [List.length_append, List.append_assoc] at ih
    simp only [ih]
    simp; omega

theorem decN_can (c : Codec g f ok) {b : List UInt8} : ∀ (k at_ : Nat) (l : List α) (e : Nat), decN f b k at_ = (l, e, 0) → at_ ≤ b.length →
    l.length = k ∧ at_ ≤ e ∧ e ≤ b.length ∧ l.flatMap g = (b.drop at_).take (e - at_) ∧ ∀ x ∈ l, ok x
  | 0, at_, l, e, h, hat => by
    simp only [decN, Prod.mk.injEq, and_true] at h
    obtain ⟨rfl, rfl⟩ := h
    simpa using hat
  | k + 1, at_, l, e, h, hat => by
    simp only [decN] at h
    split at h
    · rename_i h1; simp only [Prod.mk.injEq] at h; exact absurd h.2.2 h1
    · split at h
      · rename_i h1; simp only [Prod.mk.injEq] at h; exact absurd h.2.2 h1
      · rename_i h1 h2
        simp only [Prod.mk.injEq, and_true] at h
        obtain ⟨rfl, rfl⟩ := h
        have e1 : f (b.drop at_) = ((f (b.drop at_)).1, (f (b.drop at_)).2.1, 0) := by
          rw [← Decidable.of_not_not h1]
        obtain ⟨o1, o2, o3⟩ := c.can _ _ _ e1
        rw [List.length_drop] at o2
        have e2 : decN f b k (at_ + (f (b.drop at_)).2.1) = ((decN f b k (at_ + (f (b.drop at_)).2.1)).1, (decN f b k (at_ + (f (b.drop at_)).2.1)).2.1, 0) := by
          rw [← Decidable.of_not_not h2]
        obtain ⟨i1, i2, i3, i4, i5⟩ := decN_can c _ _ _ _ e2 (by omega)
        generalize (decN f b k (at_ + (f (b.drop at_)).2.1)).2.1 = E at i2 i3 i4
        generalize (decN f b k (at_ + (f (b.drop at_)).2.1)).1 = L at i1 i4 i5
        refine ⟨by simp [i1], by omega, i3, ?_, ?_⟩
        · rw [List.flatMap_cons, i4, o3]
          generalize (f (b.drop at_)).2.1 = u at o2 i2 ⊢
          rw [← take_take_drop (b := b.drop at_) (i := u) (j := E - at_) (by omega), List.drop_drop, show E - at_ - u = E - (at_ + u) by omega]
        · intro y hy
          rcases List.mem_cons.1 hy with rfl | hy
          · exact o1
          · exact i5 y hy

theorem decN_part (c : Codec g f ok) : ∀ (l : List α) (p : List UInt8) (i : Nat), (∀ x ∈ l, ok x) → p.length ≤ i → i < p.length + (l.flatMap g).length →
    (decN f ((p ++ l.flatMap g).take i) l.length p.length).2.2 = 3
  | [], p, i, _, h1, h2 => by simp at h2; omega
  | x :: l, p, i, h, h1, h2 => by
    simp only [List.length_cons, decN]
    have hd : ((p ++ (x :: l).flatMap g).take i).drop p.length = (g x ++ l.flatMap g).take (i - p.length) := by
      rw [List.drop_take, List.drop_left, List.flatMap_cons]
    rw [hd]
    by_cases hi : i - p.length < (g x).length
    · rw [List.take_append_of_le_length (by omega)]
      have := c.part x _ (h x (List.mem_cons_self ..)) hi
      simp only [this]; simp
    · rw [List.flatMap_cons, List.length_append] at h2
      have ih := decN_part c l (p ++ g x) i (fun y hy => h y (List.mem_cons_of_mem _ hy)) (by rw [List.length_append]; omega) (by rw [List.length_append]; omega)
      rw [List.take_append, List.take_of_length_le (by omega), c.rt x _ (h x (List.mem_cons_self ..))]
      rw [List.length_append, List.append_assoc] at ih
      rw [List.flatMap_cons]
      simp only [ih]; simp

theorem flat_ge (sz : Nat) : ∀ (l : List α), (∀ x ∈ l, sz ≤ (g x).length) → l.length * sz ≤ (l.flatMap g).length
  | [], _ => by simp
  | x :: l, h => by
    have ih := flat_ge sz l (fun y hy => h y (List.mem_cons_of_mem _ hy))
    have := h x (List.mem_cons_self ..)
    rw [List.flatMap_cons, List.length_append, List.length_cons, Nat.add_mul]; omega
end

theorem cnt_enc {n sz : Nat} (t : List UInt8) (hn : (n : Int) ≤ 9223372036854775807) (hsz : 0 < sz) (h : n * sz ≤ t.length) : cnt (enc n ++ t) sz = (n, (enc n).length, 0) := by
  unfold cnt
  simp only [get_enc (n : Int) t (by omega) hn]
  rw [if_neg (by simp), if_neg (by omega), if_neg]
  · simp
  · rw [List.length_append, Nat.add_sub_cancel_left, Nat.not_lt, Int.toNat_natCast]
    exact (Nat.le_div_iff_mul_le hsz).2 h

/-- the count of a part: too short, or it is read and less follows than it says -/
theorem cnt_part {n sz : Nat} (r : List UInt8) (i : Nat) (hn : (n : Int) ≤ 9223372036854775807) (hsz : 0 < sz) : cnt ((enc n ++ r).take i) sz = (0, 0, 3) ∨
    ((enc n).length ≤ i ∧ n * sz ≤ (r.take (i - (enc n).length)).length ∧ cnt ((enc n ++ r).take i) sz = (n, (enc n).length, 0)) := by
  by_cases hi : i < (enc n).length
  · left
    rw [List.take_append_of_le_length (by omega)]
    unfold cnt
    simp only [get_part (n : Int) i (by omega) hn hi]; simp
  · rw [List.take_append, List.take_of_length_le (by omega)]
    by_cases h : n * sz ≤ (r.take (i - (enc n).length)).length
    · exact .inr ⟨by omega, h, cnt_enc _ hn hsz h⟩
    · left
      unfold cnt
      simp only [get_enc (n : Int) _ (by omega : (-9223372036854775808 : Int) ≤ n) hn]
      rw [if_neg (by simp), if_neg (by omega), if_pos]
      rw [List.length_append, Nat.add_sub_cancel_left, Int.toNat_natCast, Nat.div_lt_iff_lt_mul hsz]; omega

theorem codec_int : Codec enc getInt (fun n => -9223372036854775808 ≤ n ∧ n ≤ 9223372036854775807) where
  rt x t h := get_enc x t h.1 h.2
  can b x used h := by obtain ⟨a1, a2, a3, a4, _⟩ := enc_get h; exact ⟨⟨a1, a2⟩, a3, a4⟩
  part x i h hi := by rw [get_part x i h.1 h.2 hi]
  pos x := by rw [enc_length]; omega

theorem codec_bytes : Codec encBytes getBytes (fun s => (s.length : Int) ≤ 9223372036854775807) where
  rt x t h := by
    unfold encBytes getBytes
    rw [List.append_assoc, cnt_enc (sz := 1) (x ++ t) h (by omega) (by simp)]
    simp
  can b x used h := by
    unfold getBytes at h
    simp only at h
    split at h
    · rename_i h1; simp only [Prod.mk.injEq] at h; exact absurd h.2.2 h1
    · rename_i h1
      simp only [Prod.mk.injEq, and_true] at h
      obtain ⟨rfl, rfl⟩ := h
      have e1 : cnt b 1 = ((cnt b 1).1, (cnt b 1).2.1, 0) := by rw [← Decidable.of_not_not h1]
      obtain ⟨a1, a2, a3, _, _⟩ := cnt_ok e1
      obtain ⟨_, a5, _, a6, _⟩ := enc_get a1
      generalize (cnt b 1).1 = n at a1 a3 a5 a6 ⊢
      generalize (cnt b 1).2.1 = at_ at a1 a2 a3 a6 ⊢
      have hl : ((b.drop at_).take n).length = n := by rw [List.length_take, List.length_drop]; omega
      refine ⟨by rw [hl]; exact a5, by omega, ?_⟩
      unfold encBytes
      rw [hl, a6, ← take_take_drop (b := b) (i := at_) (j := at_ + n) (by omega), Nat.add_sub_cancel_left]
  part x i h hi := by
    unfold getBytes
    unfold encBytes at hi ⊢
    rw [List.length_append] at hi
    rcases cnt_part (sz := 1) x i h (by omega) with h1 | ⟨h1, h2, _⟩
    · rw [h1]; simp
    · rw [List.length_take] at h2; omega
  pos x := by unfold encBytes; rw [List.length_append, enc_length]; omega

/-! ### lists -/
theorem list_rt {α : Type} {g : α → List UInt8} {f : List UInt8 → α × Nat × Nat} {ok : α → Prop} (c : Codec g f ok) (l : List α) (t : List UInt8) (hl : (l.length : Int) ≤ 9223372036854775807) (h : ∀ x ∈ l, ok x) :
    (let x := cnt (encList g l ++ t) 1; if x.2.2 ≠ 0 then ([], 0, x.2.2) else decN f (encList g l ++ t) x.1 x.2.1) = (l, (encList g l).length, 0) := by
  have hg := flat_ge (g := g) 1 l (fun x _ => c.pos x)
  unfold encList
  rw [List.append_assoc, cnt_enc (sz := 1) _ hl (by omega) (by rw [List.length_append]; omega)]
  simp only [ne_eq, not_true_eq_false, if_false]
  rw [decN_rt c l _ t h, List.length_append]

theorem list_can {α : Type} {g : α → List UInt8} {f : List UInt8 → α × Nat × Nat} {ok : α → Prop} (c : Codec g f ok) {b : List UInt8} {l : List α} {used : Nat}
    (h : (let x := cnt b 1; if x.2.2 ≠ 0 then ([], 0, x.2.2) else decN f b x.1 x.2.1) = (l, used, 0)) : (∀ x ∈ l, ok x) ∧ used ≤ b.length ∧ encList g l = b.take used := by
  simp only at h
  split at h
  · rename_i h1; simp only [Prod.mk.injEq] at h; exact absurd h.2.2 h1
  · rename_i h1
    have e1 : cnt b 1 = ((cnt b 1).1, (cnt b 1).2.1, 0) := by rw [← Decidable.of_not_not h1]
    obtain ⟨a1, a2, a3, _, _⟩ := cnt_ok e1
    obtain ⟨_, a5, _, a6, _⟩ := enc_get a1
    obtain ⟨d1, d2, d3, d4, d5⟩ := decN_can c _ _ _ _ h a2
    refine ⟨d5, d3, ?_⟩
    unfold encList
    rw [d1, d4, a6, take_take_drop d2]

theorem list_part {α : Type} {g : α → List UInt8} {f : List UInt8 → α × Nat × Nat} {ok : α → Prop} (c : Codec g f ok) (l : List α) (i : Nat) (hl : (l.length : Int) ≤ 9223372036854775807) (h : ∀ x ∈ l, ok x) (hi : i < (encList g l).length) :
    (let x := cnt ((encList g l).take i) 1; if x.2.2 ≠ 0 then ([], 0, x.2.2) else decN f ((encList g l).take i) x.1 x.2.1).2.2 = 3 := by
  unfold encList at hi ⊢
  rw [List.length_append] at hi
  rcases cnt_part (sz := 1) (l.flatMap g) i hl (by omega) with h1 | ⟨h1, _, h3⟩
  · rw [h1]; simp
  · rw [h3]
    simp only [ne_eq, not_true_eq_false, if_false]
    exact decN_part c l _ i h h1 (by omega)

/-! ### digests -/
theorem decN_dig : ∀ (l : List (List UInt8)) (p t : List UInt8), (∀ x ∈ l, x.length = 16) → decN getDig (p ++ (l.flatten ++ t)) l.length p.length = (l, p.length + l.flatten.length, 0)
  | [], p, t, _ => by simp [decN]
  | x :: l, p, t, h => by
    have ih := decN_dig l (p ++ x) t (fun y hy => h y (List.mem_cons_of_mem _ hy))
    have hx := h x (List.mem_cons_self ..)
    simp only [List.length_cons, decN]
    rw [List.drop_left, List.flatten_cons, List.append_assoc]
    simp only [getDig]
    rw [List.take_append_of_le_length (by omega), List.take_of_length_le (by omega)]
    rw [List.length_append, List.append_assoc, hx] at ih
    simp only [ih]
    simp [hx]; omega

theorem decN_dig_can {b : List UInt8} : ∀ (k at_ : Nat), at_ + k * 16 ≤ b.length → ∃ l, decN getDig b k at_ = (l, at_ + k * 16, 0) ∧ l.length = k ∧ (∀ x ∈ l, x.length = 16) ∧ l.flatten = (b.drop at_).take (k * 16)
  | 0, at_, h => ⟨[], by simp [decN], rfl, by simp, by simp⟩
  | k + 1, at_, h => by
    obtain ⟨l, h1, h2, h3, h4⟩ := decN_dig_can (b := b) k (at_ + 16) (by omega)
    refine ⟨(b.drop at_).take 16 :: l, ?_, by simp [h2], ?_, ?_⟩
    · simp only [decN, getDig, h1]
      simp; omega
    · intro y hy
      rcases List.mem_cons.1 hy with rfl | hy
      · rw [List.length_take, List.length_drop]; omega
      · exact h3 y hy
    · rw [List.flatten_cons, h4, ← List.drop_drop, show (k + 1) * 16 = 16 + k * 16 by omega, List.take_add]

theorem flat_id (l : List (List UInt8)) : l.flatMap id = l.flatten := by simp [List.flatMap]
theorem dig_flat : ∀ {l : List (List UInt8)}, (∀ x ∈ l, x.length = 16) → l.flatten.length = l.length * 16
  | [], _ => rfl
  | x :: l, h => by
    rw [List.flatten_cons, List.length_append, h x (List.mem_cons_self ..), dig_flat (fun y hy => h y (List.mem_cons_of_mem _ hy)), List.length_cons]; omega

theorem getInts_rt (l : List Int) (t : List UInt8) (hl : (l.length : Int) ≤ 9223372036854775807) (h : ∀ x ∈ l, -9223372036854775808 ≤ x ∧ x ≤ 9223372036854775807) : getInts (encList enc l ++ t) = (l, (encList enc l).length, 0) :=
  list_rt codec_int l t hl h
theorem getStrings_rt (l : List (List UInt8)) (t : List UInt8) (hl : (l.length : Int) ≤ 9223372036854775807) (h : ∀ x ∈ l, (x.length : Int) ≤ 9223372036854775807) : getStrings (encList encBytes l ++ t) = (l, (encList encBytes l).length, 0) :=
  list_rt codec_bytes l t hl h
theorem getDigests_rt (l : List (List UInt8)) (t : List UInt8) (hl : (l.length : Int) ≤ 9223372036854775807) (h : ∀ x ∈ l, x.length = 16) : getDigests (encList id l ++ t) = (l, (encList id l).length, 0) := by
  unfold getDigests encList
  have := dig_flat h
  rw [flat_id, List.append_assoc, cnt_enc (sz := 16) _ hl (by omega) (by rw [List.length_append]; omega)]
  simp only [ne_eq, not_true_eq_false, if_false]
  rw [decN_dig l _ t h, List.length_append]
theorem getBytes_rt (s t : List UInt8) (h : (s.length : Int) ≤ 9223372036854775807) : getBytes (encBytes s ++ t) = (s, (encBytes s).length, 0) := codec_bytes.rt s t h

theorem getInts_can {b : List UInt8} {l : List Int} {used : Nat} (h : getInts b = (l, used, 0)) : (∀ x ∈ l, -9223372036854775808 ≤ x ∧ x ≤ 9223372036854775807) ∧ used ≤ b.length ∧ encList enc l = b.take used := list_can codec_int h
theorem getStrings_can {b : List UInt8} {l : List (List UInt8)} {used : Nat} (h : getStrings b = (l, used, 0)) : (∀ x ∈ l, (x.length : Int) ≤ 9223372036854775807) ∧ used ≤ b.length ∧ encList encBytes l = b.take used := list_can codec_bytes h
theorem getBytes_can {b s : List UInt8} {used : Nat} (h : getBytes b = (s, used, 0)) : (s.length : Int) ≤ 9223372036854775807 ∧ used ≤ b.length ∧ encBytes s = b.take used := codec_bytes.can b s used h

theorem getDigests_ok (b : List UInt8) : ∀ x ∈ (getDigests b).1, x.length = 16 := by
  unfold getDigests
  simp only
  split
  · simp
  · rename_i h1
    have e1 : cnt b 16 = ((cnt b 16).1, (cnt b 16).2.1, 0) := by rw [← Decidable.of_not_not h1]
    obtain ⟨_, a2, a3, _, _⟩ := cnt_ok e1
    obtain ⟨l, h1, h2, h3, h4⟩ := decN_dig_can (b := b) (cnt b 16).1 (cnt b 16).2.1 (by omega)
    rw [h1]; exact h3
theorem getDigests_can {b : List UInt8} {l : List (List UInt8)} {used : Nat} (h : getDigests b = (l, used, 0)) : (∀ x ∈ l, x.length = 16) ∧ used ≤ b.length ∧ encList id l = b.take used := by
  have hok := getDigests_ok b
  rw [h] at hok
  refine ⟨hok, ?_⟩
  unfold getDigests at h
  simp only at h
  split at h
  · rename_i h1; simp only [Prod.mk.injEq] at h; exact absurd h.2.2 h1
  · rename_i h1
    have e1 : cnt b 16 = ((cnt b 16).1, (cnt b 16).2.1, 0) := by rw [← Decidable.of_not_not h1]
    obtain ⟨a1, a2, a3, _, _⟩ := cnt_ok e1
    obtain ⟨_, a5, _, a6, _⟩ := enc_get a1
    obtain ⟨l', g1, g2, g3, g4⟩ := decN_dig_can (b := b) (cnt b 16).1 (cnt b 16).2.1 (by omega)
    rw [g1] at h
    simp only [Prod.mk.injEq, and_true] at h
    obtain ⟨rfl, rfl⟩ := h
    refine ⟨by omega, ?_⟩
    unfold encList
    rw [flat_id, g2, g4, a6]
    generalize (cnt b 16).2.1 = u
    generalize (cnt b 16).1 * 16 = m
    rw [← take_take_drop (b := b) (i := u) (j := u + m) (by omega), Nat.add_sub_cancel_left]

theorem getInts_part (l : List Int) (i : Nat) (hl : (l.length : Int) ≤ 9223372036854775807) (h : ∀ x ∈ l, -9223372036854775808 ≤ x ∧ x ≤ 9223372036854775807) (hi : i < (encList enc l).length) : (getInts ((encList enc l).take i)).2.2 = 3 := list_part codec_int l i hl h hi
theorem getStrings_part (l : List (List UInt8)) (i : Nat) (hl : (l.length : Int) ≤ 9223372036854775807) (h : ∀ x ∈ l, (x.length : Int) ≤ 9223372036854775807) (hi : i < (encList encBytes l).length) : (getStrings ((encList encBytes l).take i)).2.2 = 3 := list_part codec_bytes l i hl h hi
theorem getBytes_part (s : List UInt8) (i : Nat) (h : (s.length : Int) ≤ 9223372036854775807) (hi : i < (encBytes s).length) : (getBytes ((encBytes s).take i)).2.2 = 3 := codec_bytes.part s i h hi
theorem getDigests_part (l : List (List UInt8)) (i : Nat) (hl : (l.length : Int) ≤ 9223372036854775807) (h : ∀ x ∈ l, x.length = 16) (hi : i < (encList id l).length) : (getDigests ((encList id l).take i)).2.2 = 3 := by
  unfold encList at hi ⊢
  rw [flat_id] at hi ⊢
  rw [List.length_append] at hi
  unfold getDigests
  have := dig_flat h
  rcases cnt_part (sz := 16) l.flatten i hl (by omega) with h1 | ⟨h1, h2, _⟩
  · rw [h1]; simp
  · rw [List.length_take] at h2; omega
theorem encs_le : ∀ {l : List Int}, (∀ x ∈ l, -9223372036854775808 ≤ x ∧ x ≤ 9223372036854775807) → (l.flatMap enc).length ≤ 9 * l.length
  | [], _ => by simp
  | x :: l, h => by
    have ih := encs_le (l := l) (fun y hy => h y (List.mem_cons_of_mem _ hy))
    obtain ⟨h0, h1⟩ := h x (List.mem_cons_self ..)
    have := nd_mag_le h0 h1
    rw [List.flatMap_cons, List.length_append, enc_length, List.length_cons]; omega
theorem enc_nat_le {n : Nat} (h : n ≤ 9223372036854775807) : (enc n).length ≤ 9 := by
  have := nd_mag_le (n := (n : Int)) (by omega) (by omega)
  rw [enc_length]; omega
theorem encInts_le {l : List Int} (h : ∀ x ∈ l, -9223372036854775808 ≤ x ∧ x ≤ 9223372036854775807) (hl : l.length ≤ 9223372036854775807) : (encList enc l).length ≤ 9 + 9 * l.length := by
  unfold encList
  have := encs_le h
  have := enc_nat_le hl
  rw [List.length_append]; omega
theorem encBytes_le {s : List UInt8} (hl : s.length ≤ 9223372036854775807) : (encBytes s).length ≤ 9 + s.length := by
  unfold encBytes
  have := enc_nat_le hl
  rw [List.length_append]; omega
theorem encDigs_le {l : List (List UInt8)} (h : ∀ x ∈ l, x.length = 16) (hl : l.length ≤ 9223372036854775807) : (encList id l).length ≤ 9 + 16 * l.length := by
  unfold encList
  have := dig_flat h
  have := enc_nat_le hl
  rw [flat_id, List.length_append]; omega
end Go.Proofs.Ytomjniijnpnehaa.Pu
