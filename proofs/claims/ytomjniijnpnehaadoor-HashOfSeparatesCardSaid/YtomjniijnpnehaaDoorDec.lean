/-
  The plain law of the integer's decoder: what is read, that what is read is what is written, and back. No program in sight. Conditions: none.
-/
import Derived.Test.YtomjniijnpnehaaDoorPure
namespace Go.Proofs.YtomjniijnpnehaaDoor.Pu

/-- the number of digits, the greatest first -/
def val (l : List UInt8) : Nat := l.foldl (fun m c => 256 * m + c.toNat) 0

theorem val_foldl (l : List UInt8) (a : Nat) : l.foldl (fun m c => 256 * m + c.toNat) a = a * 256 ^ l.length + val l := by
  induction l generalizing a with
  | nil => simp [val]
  | cons c l ih =>
    unfold val
    simp only [List.foldl_cons, List.length_cons]
    rw [ih, ih (256 * 0 + c.toNat), Nat.pow_succ]
    have e : (256 * a + c.toNat) * 256 ^ l.length = a * (256 ^ l.length * 256) + c.toNat * 256 ^ l.length := by
      rw [Nat.add_mul, Nat.mul_comm 256 a, Nat.mul_assoc, Nat.mul_comm 256]
    rw [e]; simp only [Nat.mul_zero, Nat.zero_add]; omega
theorem val_nil : val [] = 0 := rfl
theorem val_cons (c : UInt8) (l : List UInt8) : val (c :: l) = c.toNat * 256 ^ l.length + val l := by
  unfold val; simp only [List.foldl_cons]; rw [val_foldl]; simp [val]
theorem val_snoc (l : List UInt8) (c : UInt8) : val (l ++ [c]) = 256 * val l + c.toNat := by
  unfold val; rw [List.foldl_append]; rfl
theorem val_lt (l : List UInt8) : val l < 256 ^ l.length := by
  induction l with
  | nil => simp [val]
  | cons c l ih =>
    rw [val_cons, List.length_cons, Nat.pow_succ]
    have h := u8_lt c
    have h2 : c.toNat * 256 ^ l.length ≤ 255 * 256 ^ l.length := Nat.mul_le_mul_right _ (by omega)
    omega

theorem be_val (l : List UInt8) : be (val l) l.length = l := by
  generalize hn : l.length = n
  induction n generalizing l with
  | zero => rw [List.eq_nil_of_length_eq_zero hn]; rfl
  | succ n ih0 =>
    obtain rfl | ⟨l, c, rfl⟩ := List.eq_nil_or_concat l
    · simp at hn
    rw [List.concat_eq_append] at hn ⊢
    rw [List.length_append, List.length_singleton] at hn
    have ih := ih0 l (by omega)
    obtain rfl : n = l.length := by omega
    have h := u8_lt c
    rw [be, val_snoc]
    have e : (256 * val l + c.toNat) / 256 = val l := by omega
    rw [e, ih]
    congr 1
    congr 1
    apply u8_ext
    rw [bt_toNat]
    omega

theorem val_be (m k : Nat) : val (be m k) = m % 256 ^ k := by
  induction k generalizing m with
  | zero => simp [be, val, Nat.mod_one]
  | succ k ih =>
    rw [be, val_snoc, ih]
    have h := bt_toNat (m : Int)
    have h2 : (bt (m : Int)).toNat = m % 256 := by omega
    rw [h2, Nat.pow_succ', Nat.mod_mul]
    omega
theorem val_be_nd (m : Nat) : val (be m (nd m)) = m := by rw [val_be, Nat.mod_eq_of_lt (lt_pow_nd m)]

theorem nd_val {l : List UInt8} (h : l.head? ≠ some 0) : nd (val l) = l.length := by
  refine nd_eq (val_lt l) ?_
  cases l with
  | nil => left; rfl
  | cons c l =>
    right
    have hc : 0 < c.toNat := by
      rcases Nat.eq_zero_or_pos c.toNat with h0 | h0
      · exfalso; apply h; simp; exact UInt8.toNat_inj.1 (by rw [h0]; rfl)
      · exact h0
    rw [val_cons]
    simp only [List.length_cons, Nat.add_sub_cancel]
    have h2 : 1 * 256 ^ l.length ≤ c.toNat * 256 ^ l.length := Nat.mul_le_mul_right _ hc
    exact Nat.div_pos (by omega) (Nat.pow_pos (by omega))

theorem be_head (m : Nat) : (be m (nd m)).head? ≠ some 0 := by
  by_cases hm : m = 0
  · subst hm; simp [nd_zero, be]
  · have h1 : nd m = (nd m - 1) + 1 := by rw [nd_pos (by omega)]; omega
    rw [h1, be_cons]
    intro h
    simp only [List.head?_cons, Option.some.injEq] at h
    have h2 := bt_toNat ((m / 256 ^ (nd m - 1) : Nat) : Int)
    rw [h] at h2
    have h3 := pow_le_of_nd (m := m) (by omega)
    have h4 : 0 < m / 256 ^ (nd m - 1) := Nat.div_pos h3 (Nat.pow_pos (by omega))
    have h5 : m / 256 ^ (nd m - 1) < 256 := by
      refine Nat.div_lt_of_lt_mul ?_
      have := lt_pow_nd m
      rw [h1, Nat.pow_succ] at this
      exact this
    have h6 : ((0 : UInt8).toNat : Int) = 0 := rfl
    rw [h6] at h2
    omega

/-! ### the decoder -/
/-- what is made of the digits behind a head -/
def fin (neg : Bool) (ds : List UInt8) : Int × Nat × Nat :=
  if ds.head? = some 0 ∨ 9223372036854775808 ≤ val ds then (0, 0, 2) else (if neg then -1 - (val ds : Int) else val ds, ds.length + 1, 0)

def getInt : List UInt8 → Int × Nat × Nat
  | [] => (0, 0, 3)
  | c :: r =>
    let neg := decide (c.toNat < 128)
    let k := (fl neg c).toNat - 128
    if 8 < k then (0, 0, 2) else if r.length < k then (0, 0, 3) else fin neg ((r.take k).map (fl neg))

theorem fl_head (c : UInt8) : 128 ≤ (fl (decide (c.toNat < 128)) c).toNat := by
  by_cases h : c.toNat < 128
  · have := fl_true c; rw [decide_eq_true h]; omega
  · rw [decide_eq_false h, fl_false]; omega

theorem fl_inj {neg : Bool} {a b : UInt8} (h : fl neg a = fl neg b) : a = b := by rw [← fl_fl neg a, h, fl_fl]
theorem fl_map (neg : Bool) (l : List UInt8) : (l.map (fl neg)).map (fl neg) = l := by
  rw [List.map_map]; conv => rhs; rw [← List.map_id l]
  exact List.map_congr_left fun a _ => fl_fl neg a

theorem mag_pos (m : Nat) : mag (m : Int) = m := by unfold mag; rw [if_neg (by omega)]; omega
theorem mag_neg (m : Nat) : mag (-1 - (m : Int)) = m := by unfold mag; rw [if_pos (by omega)]; omega
theorem mag_sgn (neg : Bool) (m : Nat) : mag (if neg then -1 - (m : Int) else m) = m ∧ decide ((if neg then -1 - (m : Int) else (m : Int)) < 0) = neg := by
  cases neg
  · exact ⟨mag_pos m, by simp⟩
  · exact ⟨mag_neg m, by simp; omega⟩
theorem sgn_mag (n : Int) : n = if decide (n < 0) then -1 - (mag n : Int) else mag n := by
  unfold mag
  by_cases h : n < 0
  · simp only [decide_eq_true h, if_pos h, if_true]; omega
  · simp only [decide_eq_false h, if_neg h, Bool.false_eq_true, if_false]; omega

theorem bt_nat {n : Nat} (h : n < 256) : (bt (n : Int)).toNat = n := by have := bt_toNat (n : Int); omega

/-- the head of an encoding reads back -/
theorem head_back (neg : Bool) (k : Nat) (hk : k ≤ 8) : decide ((fl neg (bt (128 + k))).toNat < 128) = neg ∧ (fl neg (fl neg (bt (128 + k)))).toNat = 128 + k := by
  have e : (bt (128 + k)).toNat = 128 + k := by have := bt_nat (n := 128 + k) (by omega); push_cast at this; exact this
  refine ⟨?_, by rw [fl_fl, e]⟩
  cases neg
  · rw [fl_false, e]; simp
  · have := fl_true (bt (128 + k)); rw [decide_eq_true_iff]; omega

/-- what is written is read -/
theorem get_enc (n : Int) (t : List UInt8) (h0 : -9223372036854775808 ≤ n) (h1 : n ≤ 9223372036854775807) : getInt (enc n ++ t) = (n, (enc n).length, 0) := by
  have hm := mag_lt h0 h1
  have hk := nd_mag_le h0 h1
  obtain ⟨hb1, hb2⟩ := head_back (decide (n < 0)) (nd (mag n)) hk
  rw [enc_length]
  unfold enc
  simp only [List.map_cons, List.cons_append, getInt]
  rw [hb1, hb2]
  rw [show 128 + nd (mag n) - 128 = nd (mag n) by omega, if_neg (by omega), if_neg (by simp [be_length])]
  rw [List.take_left' (by simp [be_length]), fl_map]
  unfold fin
  rw [if_neg, val_be_nd, be_length, ← sgn_mag]
  rintro (h | h)
  · exact be_head _ h
  · rw [val_be_nd] at h; omega

/-- what is read is what was written -/
theorem enc_fin {neg : Bool} {ds : List UInt8} {n : Int} {used : Nat} (h : fin neg ds = (n, used, 0)) :
    -9223372036854775808 ≤ n ∧ n ≤ 9223372036854775807 ∧ used = ds.length + 1 ∧ enc n = (bt (128 + ds.length) :: ds).map (fl neg) := by
  unfold fin at h
  split at h
  · simp at h
  · rename_i hc
    simp only [Prod.mk.injEq, and_true] at h
    obtain ⟨rfl, rfl⟩ := h
    have hv : val ds < 9223372036854775808 := Nat.lt_of_not_le fun h => hc (.inr h)
    obtain ⟨e1, e2⟩ := mag_sgn neg (val ds)
    have hnd := nd_val fun h => hc (.inl h)
    refine ⟨by split <;> omega, by split <;> omega, rfl, ?_⟩
    unfold enc
    rw [e1, e2, hnd, be_val]

theorem enc_get {b : List UInt8} {n : Int} {used : Nat} (h : getInt b = (n, used, 0)) :
    -9223372036854775808 ≤ n ∧ n ≤ 9223372036854775807 ∧ used ≤ b.length ∧ enc n = b.take used ∧ 1 ≤ used ∧ used ≤ 9 := by
  cases b with
  | nil => simp [getInt] at h
  | cons c r =>
    simp only [getInt] at h
    split at h
    · simp at h
    · split at h
      · simp at h
      · rename_i hk hl
        have hlen : ((r.take ((fl (decide (c.toNat < 128)) c).toNat - 128)).map (fl (decide (c.toNat < 128)))).length = (fl (decide (c.toNat < 128)) c).toNat - 128 := by
          rw [List.length_map, List.length_take]; omega
        obtain ⟨a1, a2, a3, a4⟩ := enc_fin h
        rw [hlen] at a3 a4
        have hh := fl_head c
        have hc := u8_lt (fl (decide (c.toNat < 128)) c)
        subst a3
        refine ⟨a1, a2, by simp; omega, ?_, by omega, by omega⟩
        rw [List.map_cons, fl_map] at a4
        have hx : fl (decide (c.toNat < 128)) (bt (128 + (((fl (decide (c.toNat < 128)) c).toNat - 128 : Nat) : Int))) = c := by
          apply fl_inj (neg := decide (c.toNat < 128))
          rw [fl_fl]
          apply u8_ext
          rw [bt_toNat]
          generalize (fl (decide (c.toNat < 128)) c).toNat = q at hh hc
          omega
        rw [hx] at a4
        exact a4

theorem get_used_zero {b : List UInt8} {n : Int} {used e : Nat} (h : getInt b = (n, used, e)) (he : e ≠ 0) : n = 0 ∧ used = 0 ∧ (e = 2 ∨ e = 3) := by
  cases b with
  | nil => simp [getInt] at h; omega
  | cons c r =>
    simp only [getInt] at h
    split at h
    · simp at h; omega
    · split at h
      · simp at h; omega
      · unfold fin at h
        split at h
        · simp at h; omega
        · simp at h; omega

/-- a part of what is written reads as too short -/
theorem get_part (n : Int) (i : Nat) (h0 : -9223372036854775808 ≤ n) (h1 : n ≤ 9223372036854775807) (hi : i < (enc n).length) : getInt ((enc n).take i) = (0, 0, 3) := by
  have hk := nd_mag_le h0 h1
  obtain ⟨hb1, hb2⟩ := head_back (decide (n < 0)) (nd (mag n)) hk
  rw [enc_length] at hi
  cases i with
  | zero => rfl
  | succ i =>
    unfold enc
    simp only [List.map_cons, List.take_succ_cons, getInt]
    rw [hb1, hb2]
    rw [show 128 + nd (mag n) - 128 = nd (mag n) by omega, if_neg (by omega), if_pos (by simp [be_length]; omega)]


/-! ### lists -/
/-- a count of elements that take at least sz bytes each -/
def cnt (b : List UInt8) (sz : Nat) : Nat × Nat × Nat :=
  let x := getInt b
  if x.2.2 ≠ 0 then (0, 0, x.2.2) else if x.1 < 0 then (0, 0, 2) else if (b.length - x.2.1) / sz < x.1.toNat then (0, 0, 3) else (x.1.toNat, x.2.1, 0)

theorem cnt_ok {b : List UInt8} {sz n at_ : Nat} (h : cnt b sz = (n, at_, 0)) : getInt b = ((n : Int), at_, 0) ∧ at_ ≤ b.length ∧ n * sz ≤ b.length - at_ ∧ 1 ≤ at_ ∧ at_ ≤ 9 := by
  unfold cnt at h
  simp only at h
  split at h
  · rename_i h1; simp only [Prod.mk.injEq] at h; exact absurd h.2.2 h1
  · split at h
    · simp at h
    · split at h
      · simp at h
      · rename_i h1 h2 h3
        simp only [Prod.mk.injEq, and_true] at h
        obtain ⟨rfl, rfl⟩ := h
        have e1 : getInt b = ((getInt b).1, (getInt b).2.1, 0) := by
          have : (getInt b).2.2 = 0 := Decidable.of_not_not h1
          rw [← this]
        obtain ⟨_, _, h4, _, h5, h6⟩ := enc_get e1
        refine ⟨?_, h4, ?_, h5, h6⟩
        · rw [Int.toNat_of_nonneg (by omega)]; exact e1
        · have := Nat.mul_le_mul_right sz (Nat.le_of_not_lt h3)
          exact Nat.le_trans this (Nat.div_mul_le_self _ _)

/-- a byte string -/
def encBytes (s : List UInt8) : List UInt8 := enc s.length ++ s
def getBytes (b : List UInt8) : List UInt8 × Nat × Nat :=
  let x := cnt b 1
  if x.2.2 ≠ 0 then ([], 0, x.2.2) else ((b.drop x.2.1).take x.1, x.2.1 + x.1, 0)

/-! ### the lists' encoders -/
theorem flat_step {α : Type} {l : List α} {k : Nat} {x : α} (f : α → List UInt8) (h : l[k]? = some x) : (l.take (k + 1)).flatMap f = (l.take k).flatMap f ++ f x := by
  rw [List.take_add_one, h, List.flatMap_append]; simp
theorem flat_le {α : Type} (l : List α) (k : Nat) (f : α → List UInt8) : ((l.take k).flatMap f).length ≤ (l.flatMap f).length := by
  conv => rhs; rw [← List.take_append_drop k l, List.flatMap_append, List.length_append]
  omega
def encList {α : Type} (f : α → List UInt8) (l : List α) : List UInt8 := enc l.length ++ l.flatMap f
def encTo {α : Type} (f : α → List UInt8) (l : List α) (k : Nat) : List UInt8 := enc l.length ++ (l.take k).flatMap f
theorem encTo_zero {α : Type} (f : α → List UInt8) (l : List α) : encTo f l 0 = enc l.length := by simp [encTo]
theorem encTo_step {α : Type} {l : List α} {k : Nat} {x : α} (f : α → List UInt8) (h : l[k]? = some x) : encTo f l (k + 1) = encTo f l k ++ f x := by
  unfold encTo; rw [flat_step f h, List.append_assoc]
theorem encTo_all {α : Type} (f : α → List UInt8) (l : List α) {k : Nat} (h : l.length ≤ k) : encTo f l k = encList f l := by
  unfold encTo encList; rw [List.take_of_length_le h]
theorem encTo_le {α : Type} (f : α → List UInt8) (l : List α) (k : Nat) : (encTo f l k).length ≤ (encList f l).length := by
  unfold encTo encList; rw [List.length_append, List.length_append]; have := flat_le l k f; omega

/-- k elements, one after the other, from place 'at_' on -/
def decN {α : Type} (f : List UInt8 → α × Nat × Nat) (b : List UInt8) : Nat → Nat → List α × Nat × Nat
  | 0, at_ => ([], at_, 0)
  | k + 1, at_ =>
    let x := f (b.drop at_)
    if x.2.2 ≠ 0 then ([], 0, x.2.2) else
    let r := decN f b k (at_ + x.2.1)
    if r.2.2 ≠ 0 then ([], 0, r.2.2) else (x.1 :: r.1, r.2.1, 0)

/-- what is read is put behind what has been read -/
def behind {α : Type} (acc : List α) (r : List α × Nat × Nat) : List α × Nat × Nat := if r.2.2 ≠ 0 then ([], 0, r.2.2) else (acc ++ r.1, r.2.1, 0)
theorem behind_nil {α : Type} (f : List UInt8 → α × Nat × Nat) (b : List UInt8) (k at_ : Nat) : behind [] (decN f b k at_) = decN f b k at_ := by
  cases k with
  | zero => rfl
  | succ k =>
    by_cases h1 : (f (b.drop at_)).2.2 = 0
    · by_cases h2 : (decN f b k (at_ + (f (b.drop at_)).2.1)).2.2 = 0
      · simp [decN, behind, h1, h2]
      · simp [decN, behind, h1, h2]
    · simp [decN, behind, h1]
theorem behind_fail {α : Type} {f : List UInt8 → α × Nat × Nat} {b : List UInt8} {k at_ : Nat} {acc : List α} {x : α} {used e : Nat} (h : f (b.drop at_) = (x, used, e)) (he : e ≠ 0) : behind acc (decN f b (k + 1) at_) = ([], 0, e) := by
  simp [decN, behind, h, he]
theorem behind_step {α : Type} {f : List UInt8 → α × Nat × Nat} {b : List UInt8} {k at_ : Nat} {acc : List α} {x : α} {used : Nat} (h : f (b.drop at_) = (x, used, 0)) :
    behind acc (decN f b (k + 1) at_) = behind (acc ++ [x]) (decN f b k (at_ + used)) := by
  by_cases h2 : (decN f b k (at_ + used)).2.2 = 0
  · simp [decN, behind, h, h2]
  · simp [decN, behind, h, h2]
theorem behind_zero {α : Type} (f : List UInt8 → α × Nat × Nat) (b : List UInt8) (at_ : Nat) (acc : List α) : behind acc (decN f b 0 at_) = (acc, at_, 0) := by
  simp [decN, behind]

def getInts (b : List UInt8) : List Int × Nat × Nat :=
  let x := cnt b 1
  if x.2.2 ≠ 0 then ([], 0, x.2.2) else decN getInt b x.1 x.2.1
def getStrings (b : List UInt8) : List (List UInt8) × Nat × Nat :=
  let x := cnt b 1
  if x.2.2 ≠ 0 then ([], 0, x.2.2) else decN getBytes b x.1 x.2.1
/-- sixteen bytes -/
def getDig (b : List UInt8) : List UInt8 × Nat × Nat := (b.take 16, 16, 0)
def getDigests (b : List UInt8) : List (List UInt8) × Nat × Nat :=
  let x := cnt b 16
  if x.2.2 ≠ 0 then ([], 0, x.2.2) else decN getDig b x.1 x.2.1

end Go.Proofs.YtomjniijnpnehaaDoor.Pu
