/-
  Plain law: codings of integers are ordered as the integers. Conditions: none.
-/
import Derived.Test.YtomjniijnpnehaaPul
namespace Go.Proofs.Ytomjniijnpnehaa.Pu
open Go

theorem less_val : ∀ (x y : List UInt8), x.length = y.length → Op.bytesLess x y = decide (val x < val y)
  | [], [], _ => by simp [Op.bytesLess, val_nil]
  | [], _ :: _, h => by simp at h
  | _ :: _, [], h => by simp at h
  | a :: x, b :: y, h => by
    have hl : x.length = y.length := by simpa using h
    have ih := less_val x y hl
    have hx := val_lt x
    have hy := val_lt y
    rw [val_cons, val_cons, hl]
    rw [hl] at hx
    simp only [Op.bytesLess, ih]
    rcases Nat.lt_trichotomy a.toNat b.toNat with hab | hab | hab
    · have h1 : a < b := UInt8.lt_iff_toNat_lt.2 hab
      have h2 := Nat.mul_le_mul_right (256 ^ y.length) (show a.toNat + 1 ≤ b.toNat from hab)
      rw [Nat.add_mul] at h2
      rw [decide_eq_true h1, Bool.true_or]
      exact (decide_eq_true (by omega)).symm
    · have h1 : a = b := UInt8.toNat_inj.1 hab
      subst h1
      simp
    · have h1 : ¬ a < b := fun h => by have := UInt8.lt_iff_toNat_lt.1 h; omega
      have h3 : ¬ a = b := fun h => by rw [h] at hab; omega
      have h2 := Nat.mul_le_mul_right (256 ^ y.length) (show b.toNat + 1 ≤ a.toNat from hab)
      rw [Nat.add_mul] at h2
      rw [decide_eq_false h1, Bool.false_or, beq_eq_false_iff_ne.2 h3, Bool.false_and]
      exact (decide_eq_false (by omega)).symm

theorem less_flip : ∀ (x y : List UInt8), x.length = y.length → Op.bytesLess (x.map (fl true)) (y.map (fl true)) = Op.bytesLess y x
  | [], [], _ => rfl
  | [], _ :: _, h => by simp at h
  | _ :: _, [], h => by simp at h
  | a :: x, b :: y, h => by
    have hl : x.length = y.length := by simpa using h
    have ih := less_flip x y hl
    have ha := fl_true a
    have hb := fl_true b
    simp only [List.map_cons, Op.bytesLess, ih]
    congr 1
    · apply decide_eq_decide.2
      rw [UInt8.lt_iff_toNat_lt, UInt8.lt_iff_toNat_lt]; omega
    · congr 1
      rw [Bool.eq_iff_iff, beq_iff_eq, beq_iff_eq]
      exact ⟨fun h => (fl_inj h).symm, fun h => by rw [h]⟩

theorem less_head {a b : UInt8} {x y : List UInt8} (h : a.toNat < b.toNat) : Op.bytesLess (a :: x) (b :: y) = true := by
  simp only [Op.bytesLess]
  rw [decide_eq_true (UInt8.lt_iff_toNat_lt.2 h), Bool.true_or]
theorem more_head {a b : UInt8} {x y : List UInt8} (h : b.toNat < a.toNat) : Op.bytesLess (a :: x) (b :: y) = false := by
  simp only [Op.bytesLess]
  rw [decide_eq_false (fun h' => by have := UInt8.lt_iff_toNat_lt.1 h'; omega), Bool.false_or, beq_eq_false_iff_ne.2 (fun h' => by rw [h'] at h; omega), Bool.false_and]
theorem same_head {a : UInt8} {x y : List UInt8} : Op.bytesLess (a :: x) (a :: y) = Op.bytesLess x y := by
  simp [Op.bytesLess]

theorem enc_pos {n : Int} (h : 0 ≤ n) : enc n = bt (128 + nd (mag n)) :: be (mag n) (nd (mag n)) := by
  unfold enc
  rw [show decide (n < 0) = false by simp; omega]
  rw [List.map_cons, fl_false]
  exact congrArg _ ((List.map_congr_left fun a _ => fl_false a).trans (List.map_id _))
theorem enc_neg {n : Int} (h : n < 0) : enc n = fl true (bt (128 + nd (mag n))) :: (be (mag n) (nd (mag n))).map (fl true) := by
  unfold enc
  rw [decide_eq_true h]; simp

theorem enc_order {m n : Int} (m0 : -9223372036854775808 ≤ m) (m1 : m ≤ 9223372036854775807) (n0 : -9223372036854775808 ≤ n) (n1 : n ≤ 9223372036854775807) : Op.bytesLess (enc m) (enc n) = decide (m < n) := by
  have hm := nd_mag_le m0 m1
  have hn := nd_mag_le n0 n1
  have bm : (bt (128 + nd (mag m))).toNat = 128 + nd (mag m) := by have := bt_nat (n := 128 + nd (mag m)) (by omega); simpa using this
  have bn : (bt (128 + nd (mag n))).toNat = 128 + nd (mag n) := by have := bt_nat (n := 128 + nd (mag n)) (by omega); simpa using this
  have fm := fl_true (bt (128 + nd (mag m)))
  have fn := fl_true (bt (128 + nd (mag n)))
  have less : ∀ {a b : Nat}, nd a < nd b → a < b := fun {a b} h => by
    have hb : 0 < b := by
      rcases Nat.eq_zero_or_pos b with rfl | h'
      · rw [nd_zero] at h; omega
      · exact h'
    have h1 := lt_pow_nd a
    have h2 := pow_le_of_nd hb
    have h3 := Nat.pow_le_pow_right (show 0 < 256 by omega) (show nd a ≤ nd b - 1 by omega)
    omega
  have digits : ∀ {a b : Nat}, nd a = nd b → Op.bytesLess (be a (nd a)) (be b (nd b)) = decide (a < b) := fun {a b} h => by
    rw [less_val _ _ (by rw [be_length, be_length, h]), val_be_nd, val_be_nd]
  by_cases hm0 : m < 0
  · by_cases hn0 : n < 0
    · have em : mag m = (-1 - m).toNat := by unfold mag; rw [if_pos hm0]
      have en : mag n = (-1 - n).toNat := by unfold mag; rw [if_pos hn0]
      rw [enc_neg hm0, enc_neg hn0]
      rcases Nat.lt_trichotomy (nd (mag m)) (nd (mag n)) with h | h | h
      · rw [more_head (by omega)]
        have := less h
        exact (decide_eq_false (by omega)).symm
      · rw [h, same_head, less_flip _ _ (by rw [be_length, be_length])]
        have := digits h.symm
        rw [h] at this
        rw [this]
        exact decide_eq_decide.2 (by omega)
      · rw [less_head (by omega)]
        have := less h
        exact (decide_eq_true (by omega)).symm
    · rw [enc_neg hm0, enc_pos (by omega), less_head (by omega)]
      exact (decide_eq_true (by omega)).symm
  · by_cases hn0 : n < 0
    · rw [enc_pos (by omega), enc_neg hn0, more_head (by omega)]
      exact (decide_eq_false (by omega)).symm
    · have em : mag m = m.toNat := by unfold mag; rw [if_neg hm0]
      have en : mag n = n.toNat := by unfold mag; rw [if_neg hn0]
      rw [enc_pos (by omega), enc_pos (by omega)]
      rcases Nat.lt_trichotomy (nd (mag m)) (nd (mag n)) with h | h | h
      · rw [less_head (by omega)]
        have := less h
        exact (decide_eq_true (by omega)).symm
      · rw [h, same_head]
        have := digits h
        rw [h] at this
        rw [this]
        exact decide_eq_decide.2 (by omega)
      · rw [more_head (by omega)]
        have := less h
        exact (decide_eq_false (by omega)).symm

theorem enc_prefix {m n : Int} (m0 : -9223372036854775808 ≤ m) (m1 : m ≤ 9223372036854775807) (n0 : -9223372036854775808 ≤ n) (n1 : n ≤ 9223372036854775807) {k : Nat} (hk : k = (enc m).length ∧ k ≤ (enc n).length ∨ k = (enc n).length ∧ k ≤ (enc m).length) :
    (enc m).take k = (enc n).take k ↔ m = n := by
  constructor
  · intro h
    rcases hk with ⟨h1, h2⟩ | ⟨h1, h2⟩
    · rw [h1, List.take_length, ← h1] at h
      have g1 := get_enc n [] n0 n1
      rw [List.append_nil, ← List.take_append_drop k (enc n), ← h, get_enc m _ m0 m1] at g1
      exact (Prod.mk.inj g1).1
    · rw [h1, List.take_length, ← h1] at h
      have g1 := get_enc m [] m0 m1
      rw [List.append_nil, ← List.take_append_drop k (enc m), h, get_enc n _ n0 n1] at g1
      exact (Prod.mk.inj g1).1.symm
  · rintro rfl; rfl
theorem enc_inj {m n : Int} (m0 : -9223372036854775808 ≤ m) (m1 : m ≤ 9223372036854775807) (n0 : -9223372036854775808 ≤ n) (n1 : n ≤ 9223372036854775807) : enc m = enc n ↔ m = n := by
  constructor
  · intro h
    have g1 := get_enc n [] n0 n1
    rw [← h, get_enc m _ m0 m1] at g1
    exact (Prod.mk.inj g1).1
  · rintro rfl; rfl
end Go.Proofs.Ytomjniijnpnehaa.Pu
