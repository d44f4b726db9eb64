/-
  Hashing piece by piece, plain: what a stream holds of its message; the padding; the bytes of the sum. Conditions: none.
-/
import Derived.Test.YtomjniijnpnehaaDoorHs
namespace Go.Proofs.YtomjniijnpnehaaDoor.Pu
open Go

theorem comps_app (s : S8) (m t : List UInt8) : ∀ k, 64 * k ≤ m.length → comps s (m ++ t) k = comps s m k
  | 0, _ => rfl
  | k + 1, h => by
    rw [comps, comps, comps_app s m t k (by omega), List.drop_append_of_le_length (by omega), List.take_append_of_le_length (by rw [List.length_drop]; omega)]

/-- what a stream holds -/
structure Strm where
  (s : S8) (b : List UInt8) (n : Nat)
def IsS (m : List UInt8) (x : Strm) : Prop := x.b.length = 64 ∧ x.n = m.length ∧ x.s = comps h0 m (m.length / 64) ∧ x.b.take (m.length % 64) = m.drop (64 * (m.length / 64))
theorem isS_nil : IsS [] ⟨h0, List.replicate 64 0, 0⟩ := ⟨rfl, rfl, rfl, rfl⟩
/-- the block with bytes put in -/
def splice (b : List UInt8) (at_ : Nat) (t : List UInt8) : List UInt8 := b.take at_ ++ t ++ b.drop (at_ + t.length)
theorem splice_len {b : List UInt8} {i : Nat} {t : List UInt8} (h : i + t.length ≤ b.length) : (splice b i t).length = b.length := by
  unfold splice
  rw [List.length_append, List.length_append, List.length_take, List.length_drop]; omega
theorem isS_part {m t : List UInt8} {x : Strm} (h : IsS m x) (hk : m.length % 64 + t.length < 64) : IsS (m ++ t) ⟨x.s, splice x.b (m.length % 64) t, x.n + t.length⟩ := by
  obtain ⟨h1, h2, h3, h4⟩ := h
  have e : (m ++ t).length / 64 = m.length / 64 := by rw [List.length_append]; omega
  have e2 : (m ++ t).length % 64 = m.length % 64 + t.length := by rw [List.length_append]; omega
  refine ⟨?_, ?_, ?_, ?_⟩
  · show (splice _ _ _).length = 64
    rw [splice_len (by omega), h1]
  · show x.n + _ = _
    rw [List.length_append, h2]
  · show x.s = _
    rw [e, comps_app _ _ _ _ (by omega), h3]
  · show (splice _ _ _).take _ = _
    rw [e, e2, List.drop_append_of_le_length (by omega), ← h4, splice, List.take_left' (by rw [List.length_append, List.length_take]; omega)]
theorem isS_full {m t : List UInt8} {x : Strm} (h : IsS m x) (hk : m.length % 64 + t.length = 64) : IsS (m ++ t) ⟨comp x.s (splice x.b (m.length % 64) t), splice x.b (m.length % 64) t, x.n + t.length⟩ := by
  obtain ⟨h1, h2, h3, h4⟩ := h
  have e : (m ++ t).length / 64 = m.length / 64 + 1 := by rw [List.length_append]; omega
  have e2 : (m ++ t).length % 64 = 0 := by rw [List.length_append]; omega
  have e3 : splice x.b (m.length % 64) t = (m ++ t).drop (64 * (m.length / 64)) := by
    rw [List.drop_append_of_le_length (by omega), ← h4, splice, List.drop_of_length_le (by omega), List.append_nil]
  refine ⟨?_, ?_, ?_, ?_⟩
  · show (splice _ _ _).length = 64
    rw [splice_len (by omega), h1]
  · show x.n + _ = _
    rw [List.length_append, h2]
  · show comp x.s _ = _
    rw [e, comps, comps_app _ _ _ _ (by omega), ← h3, e3, List.take_of_length_le (by rw [List.length_drop, List.length_append]; omega)]
  · show (splice _ _ _).take _ = _
    rw [e, e2, List.take_zero, List.drop_of_length_le (by rw [List.length_append]; omega)]

/-! ### the padding -/
def zn (n : Nat) : Nat := (119 - n % 64) % 64
theorem be64_len (n : Nat) : (be64 n).length = 8 := be_length _ _
theorem padTail_len (n : Nat) : (padTail n).length = zn n + 9 := by
  unfold padTail zn
  rw [List.length_cons, List.length_append, List.length_replicate, be64_len]
theorem padded_mod (m : List UInt8) : (padded m).length % 64 = 0 := by
  unfold padded
  rw [List.length_append, padTail_len]; unfold zn; omega
/-- the zeros so far are too few -/
theorem zn_lt {n j : Nat} (h : j < zn n) : (n + (j + 1)) % 64 ≠ 56 := by unfold zn at h; omega
theorem zn_eq (n : Nat) : (n + (zn n + 1)) % 64 = 56 := by unfold zn; omega
/-- byte i of the eight -/
theorem be64_get (n : Nat) {i : Nat} (h : i < 8) : (be64 n)[i]? = some (bt ((n / 256 ^ (7 - i) : Nat) : Int)) := by
  unfold be64
  have h1 := le_get n (k := 8) (j := 7 - i) (by omega)
  rw [be_rev, List.getElem?_reverse (by rw [le_length]; exact h), le_length, show 8 - 1 - i = 7 - i by omega, h1]
theorem be64_take (n : Nat) {i : Nat} (h : i < 8) : (be64 n).take (i + 1) = (be64 n).take i ++ [bt ((n / 256 ^ (7 - i) : Nat) : Int)] := by
  have h1 := be64_get n h
  have hl : i < (be64 n).length := by rw [be64_len]; exact h
  rw [List.take_succ_eq_append_getElem hl]
  rw [List.getElem?_eq_getElem hl, Option.some.injEq] at h1
  rw [h1]

/-! ### the bytes of the sum -/
def l8 (s : S8) : List UInt32 := [s.a, s.b, s.c, s.d, s.e, s.f, s.g, s.h]
theorem outS_len (s : S8) : (outS s).length = 32 := rfl
theorem shr_zero (x : UInt32) : x >>> UInt32.ofNat 0 = x := by
  apply UInt32.toNat_inj.1
  rw [UInt32.toNat_shiftRight]; simp
theorem outS_get (s : S8) {i : Nat} (h : i < 32) : (outS s)[i]? = some (bt (((gw (l8 s) (i / 4)) >>> UInt32.ofNat (24 - 8 * (i % 4))).toNat : Int)) := by
  have : i = 0 ∨ i = 1 ∨ i = 2 ∨ i = 3 ∨ i = 4 ∨ i = 5 ∨ i = 6 ∨ i = 7 ∨ i = 8 ∨ i = 9 ∨ i = 10 ∨ i = 11 ∨ i = 12 ∨ i = 13 ∨ i = 14 ∨ i = 15 ∨ i = 16 ∨ i = 17 ∨ i = 18 ∨ i = 19 ∨ i = 20 ∨ i = 21 ∨ i = 22 ∨ i = 23 ∨ i = 24 ∨ i = 25 ∨ i = 26 ∨ i = 27 ∨ i = 28 ∨ i = 29 ∨ i = 30 ∨ i = 31 := by omega
  rcases this with rfl | rfl | rfl | rfl | rfl | rfl | rfl | rfl | rfl | rfl | rfl | rfl | rfl | rfl | rfl | rfl | rfl | rfl | rfl | rfl | rfl | rfl | rfl | rfl | rfl | rfl | rfl | rfl | rfl | rfl | rfl | rfl <;> first | rfl | (show some (bt _) = some (bt _); simp only [gw, l8, Nat.reduceDiv, Nat.reduceMod, Nat.reduceMul, Nat.reduceSub, shr_zero]; rfl)
theorem outS_take (s : S8) {i : Nat} (h : i < 32) : (outS s).take (i + 1) = (outS s).take i ++ [bt (((gw (l8 s) (i / 4)) >>> UInt32.ofNat (24 - 8 * (i % 4))).toNat : Int)] := by
  have h1 := outS_get s h
  have hl : i < (outS s).length := by rw [outS_len]; exact h
  rw [List.take_succ_eq_append_getElem hl]
  rw [List.getElem?_eq_getElem hl, Option.some.injEq] at h1
  rw [h1]
theorem sha_of {m : List UInt8} {x : Strm} (h : IsS (padded m) x) : outS x.s = sha m := by
  unfold sha; rw [h.2.2.1]
theorem sha_len (m : List UInt8) : (sha m).length = 32 := outS_len _
end Go.Proofs.YtomjniijnpnehaaDoor.Pu
