/-
  Plain facts on bytes and numbers: the encoding of an integer as its sign and its digits to the base 256. No program in sight. Conditions: none.
-/
namespace Go.Proofs.YtomjniijnpnehaaDoor.Pu

/-- the byte that a number leaves -/
def bt (z : Int) : UInt8 := UInt8.ofNat (z % 256).toNat

theorem bt_toNat (z : Int) : ((bt z).toNat : Int) = z % 256 := by
  unfold bt
  rw [UInt8.toNat_ofNat']
  have h1 : 0 ≤ z % 256 := Int.emod_nonneg _ (by omega)
  have h2 : z % 256 < 256 := Int.emod_lt_of_pos _ (by omega)
  have h3 : (z % 256).toNat % 2 ^ 8 = (z % 256).toNat := Nat.mod_eq_of_lt (by omega)
  rw [h3]; omega

theorem u8_lt (b : UInt8) : b.toNat < 256 := b.toNat_lt

theorem u8_ext {a b : UInt8} (h : (a.toNat : Int) = b.toNat) : a = b := UInt8.toNat_inj.1 (by omega)

/-- how many digits to the base 256 -/
def nd (m : Nat) : Nat := if h : m = 0 then 0 else nd (m / 256) + 1
termination_by m
decreasing_by omega

theorem nd_zero : nd 0 = 0 := by unfold nd; simp
theorem nd_pos {m : Nat} (h : 0 < m) : nd m = nd (m / 256) + 1 := by
  rw [nd]; simp only [dif_neg (show ¬ m = 0 by omega)]

theorem nd_le {m k : Nat} (h : m < 256 ^ k) : nd m ≤ k := by
  induction k generalizing m with
  | zero => have : m = 0 := by simpa using h
            subst this; simp [nd_zero]
  | succ k ih =>
    by_cases hm : m = 0
    · subst hm; simp [nd_zero]
    · rw [nd_pos (by omega)]
      have : m / 256 < 256 ^ k := Nat.div_lt_of_lt_mul (by rw [Nat.pow_succ] at h; omega)
      have := ih this
      omega

theorem lt_pow_nd (m : Nat) : m < 256 ^ nd m := by
  induction m using Nat.strongRecOn with
  | _ m ih =>
    by_cases hm : m = 0
    · subst hm; simp [nd_zero]
    · rw [nd_pos (by omega), Nat.pow_succ]
      have := ih (m / 256) (by omega)
      omega

theorem pow_le_of_nd {m : Nat} (h : 0 < m) : 256 ^ (nd m - 1) ≤ m := by
  induction m using Nat.strongRecOn with
  | _ m ih =>
    rw [nd_pos h]
    by_cases hm : m / 256 = 0
    · rw [hm, nd_zero]; simp; omega
    · have h1 := ih (m / 256) (by omega) (by omega)
      have h2 : 0 < nd (m / 256) := by rw [nd_pos (by omega)]; omega
      have e : nd (m / 256) + 1 - 1 = (nd (m / 256) - 1) + 1 := by omega
      rw [e, Nat.pow_succ]
      omega

/-- the digits: the greatest first, k of them -/
def be (m : Nat) : Nat → List UInt8
  | 0 => []
  | k + 1 => be (m / 256) k ++ [bt m]

theorem be_length (m k : Nat) : (be m k).length = k := by
  induction k generalizing m with
  | zero => rfl
  | succ k ih => simp [be, ih]

/-- the digits, taken from the front -/
theorem be_cons (m k : Nat) : be m (k + 1) = bt ((m / 256 ^ k : Nat) : Int) :: be m k := by
  induction k generalizing m with
  | zero => simp [be]
  | succ k ih =>
    rw [be, ih (m / 256)]
    rw [show be m (k + 1) = be (m / 256) k ++ [bt m] from rfl]
    rw [Nat.div_div_eq_div_mul, ← Nat.pow_succ']
    simp

/-- a byte turned round where the number is below nought -/
def fl (neg : Bool) (b : UInt8) : UInt8 := b ^^^ (if neg then 255 else 0)
/-- what a byte is turned round with -/
def fb (neg : Bool) : Int := if neg then 255 else 0
theorem fb_bd (neg : Bool) : 0 ≤ fb neg ∧ fb neg ≤ 255 := by cases neg <;> decide

theorem fl_fl (neg : Bool) (b : UInt8) : fl neg (fl neg b) = b := by
  unfold fl; rw [UInt8.xor_assoc, UInt8.xor_self, UInt8.xor_zero]

theorem xor_ones (w x : Nat) (h : x < 2 ^ w) : x ^^^ (2 ^ w - 1) = 2 ^ w - 1 - x := by
  have e := congrArg BitVec.toNat (BitVec.xor_allOnes (x := BitVec.ofNat w x))
  rw [BitVec.toNat_xor, BitVec.toNat_not, BitVec.toNat_allOnes, BitVec.toNat_ofNat, Nat.mod_eq_of_lt h] at e
  exact e

theorem xor255 (b : Nat) (h : b < 256) : b ^^^ 255 = 255 - b := xor_ones 8 b h

theorem fl_false (b : UInt8) : fl false b = b := by simp [fl]
theorem fl_true (b : UInt8) : ((fl true b).toNat : Int) = 255 - b.toNat := by
  have := u8_lt b
  simp only [fl, if_true, UInt8.toNat_xor]
  rw [show (255 : UInt8).toNat = 255 from rfl, xor255 _ this]; omega

/-- what is written of an integer -/
def mag (n : Int) : Nat := if n < 0 then (-1 - n).toNat else n.toNat
def enc (n : Int) : List UInt8 := (bt (128 + nd (mag n)) :: be (mag n) (nd (mag n))).map (fl (decide (n < 0)))

theorem enc_length (n : Int) : (enc n).length = nd (mag n) + 1 := by simp [enc, be_length]

theorem mag_lt {n : Int} (h0 : -9223372036854775808 ≤ n) (h1 : n ≤ 9223372036854775807) : mag n < 9223372036854775808 := by
  unfold mag; split <;> omega

theorem be_step (m k j : Nat) (h0 : 0 < j) (h1 : j ≤ k) : be (m / 256 ^ (j - 1)) (k - (j - 1)) = be (m / 256 ^ j) (k - j) ++ [bt ((m / 256 ^ (j - 1) : Nat) : Int)] := by
  have e : k - (j - 1) = (k - j) + 1 := by omega
  have e2 : m / 256 ^ (j - 1) / 256 = m / 256 ^ j := by
    rw [Nat.div_div_eq_div_mul, ← Nat.pow_succ]; congr 2; omega
  rw [e, be, e2]

theorem pow8 (j : Nat) : 2 ^ (8 * j) = 256 ^ j := by rw [Nat.pow_mul]

theorem nd_eq {m j : Nat} (h1 : m < 256 ^ j) (h2 : j = 0 ∨ 0 < m / 256 ^ (j - 1)) : nd m = j := by
  have a := nd_le h1
  rcases h2 with rfl | h2
  · omega
  · by_cases hj : nd m < j
    · exfalso
      have h3 := lt_pow_nd m
      have h4 : 256 ^ nd m ≤ 256 ^ (j - 1) := Nat.pow_le_pow_right (by omega) (by omega)
      have h5 : m / 256 ^ (j - 1) = 0 := Nat.div_eq_of_lt (by omega)
      omega
    · omega

/-- the digits, the least first -/
def le (m : Nat) : Nat → List UInt8
  | 0 => []
  | k + 1 => bt m :: le (m / 256) k
theorem le_length (m k : Nat) : (le m k).length = k := by
  induction k generalizing m with
  | zero => rfl
  | succ k ih => simp [le, ih]
theorem le_snoc (m k : Nat) : le m (k + 1) = le m k ++ [bt ((m / 256 ^ k : Nat) : Int)] := by
  induction k generalizing m with
  | zero => simp [le]
  | succ k ih => rw [le, ih (m / 256), le, Nat.div_div_eq_div_mul, ← Nat.pow_succ']; rfl
theorem be_rev (m k : Nat) : be m k = (le m k).reverse := by
  induction k generalizing m with
  | zero => rfl
  | succ k ih => rw [be, le, ih]; simp
theorem le_get (m : Nat) {k j : Nat} (h : j < k) : (le m k)[j]? = some (bt ((m / 256 ^ j : Nat) : Int)) := by
  induction k generalizing m j with
  | zero => omega
  | succ k ih =>
    cases j with
    | zero => simp [le]
    | succ j => rw [le, List.getElem?_cons_succ, ih (m / 256) (by omega), Nat.div_div_eq_div_mul, ← Nat.pow_succ']

theorem nd_mag_le {n : Int} (h0 : -9223372036854775808 ≤ n) (h1 : n ≤ 9223372036854775807) : nd (mag n) ≤ 8 :=
  nd_le (by have := mag_lt h0 h1; omega)

end Go.Proofs.YtomjniijnpnehaaDoor.Pu
