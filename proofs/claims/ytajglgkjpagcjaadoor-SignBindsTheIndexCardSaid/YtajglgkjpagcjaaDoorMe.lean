/-
  Sg, Sk, Sz, Ow, Sb, Sd: my texts of these names, one behind the other. Conditions: those that each law names.
-/
import Derived.Test.YtajglgkjpagcjaaDoorMd
import Derived.KernelRfl
import Derived.Test.YtajglgkjpagcjaaDoorMa
import Derived.Maps.AppendAt
import Derived.Lib.Builder
import Derived.Lib.UnsafeStr
import Derived.Laws.Externs
namespace Go.Proofs.YtajglgkjpagcjaaDoor.Pu

def encInts (l : List Int) : List UInt8 := encList enc l
/-- the digits of a byte -/
def dig4 (b : UInt8) : List Nat := [b.toNat / 64, b.toNat / 16 % 4, b.toNat / 4 % 4, b.toNat % 4]
def dsum (l : List Nat) : Nat := (l.map (3 - ·)).sum
def chk (s : Nat) : List Nat := [s / 64, s / 16 % 4, s / 4 % 4, s % 4]
def digs (d : List UInt8) : List Nat := d.flatMap dig4 ++ chk (dsum (d.flatMap dig4))

theorem dig4_len (d : List UInt8) : (d.flatMap dig4).length = 4 * d.length := by
  induction d with
  | nil => rfl
  | cons b d ih => rw [List.flatMap_cons, List.length_append, ih, List.length_cons]; simp only [dig4, List.length_cons, List.length_nil]; omega
theorem digs_len {d : List UInt8} (h : d.length = 16) : (digs d).length = 68 := by
  unfold digs; rw [List.length_append, dig4_len, h]; rfl
theorem dig4_le {b : UInt8} {x : Nat} (h : x ∈ dig4 b) : x ≤ 3 := by
  have := b.toNat_lt
  simp only [dig4, List.mem_cons, List.not_mem_nil, or_false] at h
  rcases h with rfl | rfl | rfl | rfl <;> omega
theorem flat_dig_le {d : List UInt8} {x : Nat} (h : x ∈ d.flatMap dig4) : x ≤ 3 := by
  obtain ⟨b, _, hx⟩ := List.mem_flatMap.1 h
  exact dig4_le hx
theorem dsum_le (l : List Nat) : dsum l ≤ 3 * l.length := by
  induction l with
  | nil => simp [dsum]
  | cons x l ih => simp only [dsum, List.map_cons, List.sum_cons, List.length_cons] at *; omega
theorem digs_le {d : List UInt8} (h : d.length = 16) {x : Nat} (hx : x ∈ digs d) : x ≤ 3 := by
  unfold digs at hx
  rcases List.mem_append.1 hx with hx | hx
  · exact flat_dig_le hx
  · have h1 := dsum_le (d.flatMap dig4)
    rw [dig4_len, h] at h1
    simp only [chk, List.mem_cons, List.not_mem_nil, or_false] at hx
    rcases hx with rfl | rfl | rfl | rfl <;> omega

/-- n steps of a chain, from the height t on -/
def adv (i c : Int) (t : Nat) : Nat → List UInt8 → List UInt8
  | 0, v => v
  | n + 1, v => digOf 7 [encInts [i, c, ((t + n : Nat) : Int)], adv i c t n v]
theorem adv_len (i c : Int) (t n : Nat) {v : List UInt8} (h : v.length = 16) : (adv i c t n v).length = 16 := by
  cases n with
  | zero => exact h
  | succ n => exact digOf_len _ _
theorem adv_add (i c : Int) (t n m : Nat) (v : List UInt8) : adv i c t (n + m) v = adv i c (t + n) m (adv i c t n v) := by
  induction m with
  | zero => rfl
  | succ m ih => rw [← Nat.add_assoc, adv, adv, ih, Nat.add_assoc]

def chainB : List UInt8 := [99, 104, 97, 105, 110]
def startV (seed : List UInt8) (i c : Int) : List UInt8 := (mac seed (chainB ++ encInts [i, c])).take 16
theorem mac_len (k t : List UInt8) : (mac k t).length = 32 := by unfold mac; rw [sha_len]
theorem startV_len (seed : List UInt8) (i c : Int) : (startV seed i c).length = 16 := by
  unfold startV; rw [List.length_take, mac_len]; rfl

/-- the values of n chains, one behind the other -/
def vals (f : Nat → List UInt8) (n : Nat) : List UInt8 := (List.range n).flatMap f
theorem vals_succ (f : Nat → List UInt8) (n : Nat) : vals f (n + 1) = vals f n ++ f n := by
  unfold vals; rw [List.range_succ, List.flatMap_append]; simp
theorem vals_zero (f : Nat → List UInt8) : vals f 0 = [] := rfl
theorem vals_len {f : Nat → List UInt8} {n : Nat} (h : ∀ c, c < n → (f c).length = 16) : (vals f n).length = 16 * n := by
  induction n with
  | zero => rfl
  | succ n ih => rw [vals_succ, List.length_append, ih (fun c hc => h c (by omega)), h n (by omega)]; omega
theorem vals_part {f : Nat → List UInt8} {n k : Nat} (h : ∀ c, c < n → (f c).length = 16) (hk : k < n) : ((vals f n).drop (16 * k)).take 16 = f k := by
  induction n with
  | zero => omega
  | succ n ih =>
    rw [vals_succ]
    have hl := vals_len (f := f) (n := n) (fun c hc => h c (by omega))
    by_cases hkn : k < n
    · rw [List.drop_append_of_le_length (by omega), List.take_append_of_le_length (by rw [List.length_drop]; omega), ih (fun c hc => h c (by omega)) hkn]
    · obtain rfl : k = n := by omega
      rw [List.drop_append, hl]
      rw [List.drop_of_length_le (by omega), List.nil_append, Nat.sub_self, List.drop_zero, List.take_of_length_le (by rw [h k (by omega)]; omega)]
theorem vals_congr {f g : Nat → List UInt8} {n : Nat} (h : ∀ c, c < n → f c = g c) : vals f n = vals g n := by
  induction n with
  | zero => rfl
  | succ n ih => rw [vals_succ, vals_succ, ih (fun c hc => h c (by omega)), h n (by omega)]

def leafD (s : List UInt8) : List UInt8 := digOf 9 [digOf 11 [s]]
def nodeD (a b : List UInt8) : List UInt8 := digOf 10 [a, b]
def topV (seed : List UInt8) (k : Nat) (c : Nat) : List UInt8 := adv k c 0 3 (startV seed k c)
def leafAt (seed : List UInt8) (k : Nat) : List UInt8 := leafD (vals (topV seed k) 68)
def nodeAt (seed : List UInt8) : Nat → Nat → List UInt8
  | 0, k => leafAt seed k
  | l + 1, k => nodeD (nodeAt seed l (2 * k)) (nodeAt seed l (2 * k + 1))
theorem leafD_len (s : List UInt8) : (leafD s).length = 16 := digOf_len _ _
theorem nodeD_len (a b : List UInt8) : (nodeD a b).length = 16 := digOf_len _ _
theorem topV_len (seed : List UInt8) (k c : Nat) : (topV seed k c).length = 16 := adv_len _ _ _ _ (startV_len _ _ _)
theorem nodeAt_len (seed : List UInt8) (l k : Nat) : (nodeAt seed l k).length = 16 := by
  cases l with
  | zero => exact leafD_len _
  | succ l => exact nodeD_len _ _

def msgD (pub : List UInt8) (i : Int) (m : List UInt8) : List UInt8 := digOf 12 [pub, enc i, m]
theorem msgD_len (pub : List UInt8) (i : Int) (m : List UInt8) : (msgD pub i m).length = 16 := digOf_len _ _
def zero16 : List UInt8 := List.replicate 16 0

/-- the digit with a number -/
def dg (l : List Nat) (c : Nat) : Nat := l.getD c 0
theorem dg_le {d : List UInt8} (h : d.length = 16) (c : Nat) : dg (digs d) c ≤ 3 := by
  unfold dg
  rw [List.getD_eq_getElem?_getD]
  cases hc : (digs d)[c]? with
  | none => simp
  | some x => exact digs_le h (List.mem_of_getElem? hc)
def sib (i : Nat) : Nat := if i % 2 = 1 then i - 1 else i + 1
def pubV (seed : List UInt8) (h : Int) : List UInt8 × Nat := if seed.length = 32 ∧ 0 ≤ h ∧ h ≤ 6 then (nodeAt seed h.toNat 0, 0) else (zero16, 1)
def sigV (seed : List UInt8) (h i : Nat) (m : List UInt8) : List UInt8 :=
  enc i ++ vals (fun c => adv i c 0 (dg (digs (msgD (nodeAt seed h 0) i m)) c) (startV seed i c)) 68 ++ vals (fun l => nodeAt seed l (sib (i / 2 ^ l))) h
def signV (seed : List UInt8) (h i : Int) (m : List UInt8) : List UInt8 × Nat :=
  if seed.length = 32 ∧ 0 ≤ h ∧ h ≤ 6 then
    if i < 0 ∨ 2 ^ h.toNat ≤ i then ([], 20)
    else if 1048576 < m.length then ([], 4)
    else (sigV seed h.toNat i.toNat m, 0)
  else ([], 1)
theorem pubV_len (seed : List UInt8) (h : Int) : (pubV seed h).1.length = 16 := by
  unfold pubV; split
  · exact nodeAt_len _ _ _
  · rfl

def pt16 (rest : List UInt8) (k : Nat) : List UInt8 := (rest.drop (16 * k)).take 16
/-- the way up -/
def wayUp (i : Nat) (rest v : List UInt8) : Nat → List UInt8
  | 0 => v
  | l + 1 => if i / 2 ^ l % 2 = 1 then nodeD (pt16 rest (68 + l)) (wayUp i rest v l) else nodeD (wayUp i rest v l) (pt16 rest (68 + l))
theorem wayUp_len (i : Nat) (rest : List UInt8) {v : List UInt8} (h : v.length = 16) (l : Nat) : (wayUp i rest v l).length = 16 := by
  cases l with
  | zero => exact h
  | succ l => unfold wayUp; split <;> exact nodeD_len _ _
def endV (i : Nat) (ds : List Nat) (rest : List UInt8) (c : Nat) : List UInt8 := adv i c (dg ds c) (3 - dg ds c) (pt16 rest c)
def rootV (pub : List UInt8) (h i : Nat) (m rest : List UInt8) : List UInt8 := wayUp i rest (leafD (vals (endV i (digs (msgD pub i m)) rest) 68)) h
theorem rootV_len (pub : List UInt8) (h i : Nat) (m rest : List UInt8) : (rootV pub h i m rest).length = 16 := wayUp_len _ _ (leafD_len _) _
def verV (pub : List UInt8) (h : Int) (m sig : List UInt8) : Int × Nat :=
  if 0 ≤ h ∧ h ≤ 6 then
    if 1048576 < m.length then (0, 4)
    else if (getInt sig).2.2 ≠ 0 then (0, (getInt sig).2.2)
    else if (getInt sig).1 < 0 ∨ 2 ^ h.toNat ≤ (getInt sig).1 ∨ (sig.drop (getInt sig).2.1).length ≠ (68 + h.toNat) * 16 then (0, 2)
    else if rootV pub h.toNat (getInt sig).1.toNat m (sig.drop (getInt sig).2.1) = pub then ((getInt sig).1, 0) else (0, 10)
  else (0, 1)
end Go.Proofs.YtajglgkjpagcjaaDoor.Pu
namespace Go.Proofs.YtajglgkjpagcjaaDoor.Pu
/-- f at n, n computed first -/
noncomputable def forced {α : Type} (n : Nat) (f : Nat → α) : α := Nat.rec (motive := fun _ => α) (f 0) (fun k _ => f (Nat.succ k)) n
theorem forced_eq {α : Type} (n : Nat) (f : Nat → α) : forced n f = f n := by cases n <;> rfl
def rrN (x n : Nat) : Nat := Nat.lor (Nat.shiftRight x n) (Nat.mod (Nat.shiftLeft x (Nat.sub 32 n)) 4294967296)
theorem rrN_eq (x : UInt32) (n : Nat) (h0 : 0 < n) (h : n < 32) : rrN x.toNat n = (rr x n).toNat := by
  unfold rrN rr
  rw [UInt32.toNat_or, UInt32.toNat_shiftRight, UInt32.toNat_shiftLeft]
  have e1 : (UInt32.ofNat n).toNat % 32 = n := by rw [UInt32.toNat_ofNat']; omega
  have e2 : (UInt32.ofNat (32 - n)).toNat % 32 = 32 - n := by rw [UInt32.toNat_ofNat']; omega
  rw [e1, e2]
  rfl
structure N8 where
  (a b c d e f g h : Nat)
def toN (s : S8) : N8 := ⟨s.a.toNat, s.b.toNat, s.c.toNat, s.d.toNat, s.e.toNat, s.f.toNat, s.g.toNat, s.h.toNat⟩
def kkN : List Nat := kk.map UInt32.toNat
/-- the rounds for the constants ks -/
noncomputable def roundsN (ks : List Nat) : Nat → Nat → Nat → Nat → Nat → Nat → Nat → Nat → Nat → Nat → Nat → Nat → Nat → Nat → Nat → Nat → Nat → Nat → Nat → Nat → Nat → Nat → Nat → Nat → N8 :=
  List.rec (motive := fun _ => Nat → Nat → Nat → Nat → Nat → Nat → Nat → Nat → Nat → Nat → Nat → Nat → Nat → Nat → Nat → Nat → Nat → Nat → Nat → Nat → Nat → Nat → Nat → Nat → N8) (fun a b c d e f g h _ _ _ _ _ _ _ _ _ _ _ _ _ _ _ _ => N8.mk a b c d e f g h)
    (fun k _ ih a b c d e f g h w0 w1 w2 w3 w4 w5 w6 w7 w8 w9 w10 w11 w12 w13 w14 w15 =>
      forced (Nat.add h (Nat.add (Nat.xor (Nat.xor (rrN e 6) (rrN e 11)) (rrN e 25)) (Nat.add (Nat.xor (Nat.land e f) (Nat.land (Nat.xor e 4294967295) g)) (Nat.add k w0)))) fun x =>
      forced (Nat.mod (Nat.add d x) 4294967296) fun e' =>
      forced (Nat.mod (Nat.add x (Nat.add (Nat.xor (Nat.xor (rrN a 2) (rrN a 13)) (rrN a 22)) (Nat.xor (Nat.xor (Nat.land a b) (Nat.land a c)) (Nat.land b c)))) 4294967296) fun a' =>
      forced (Nat.mod (Nat.add w0 (Nat.add (Nat.xor (Nat.xor (rrN w1 7) (rrN w1 18)) (Nat.shiftRight w1 3)) (Nat.add w9 (Nat.xor (Nat.xor (rrN w14 17) (rrN w14 19)) (Nat.shiftRight w14 10))))) 4294967296) fun w16 =>
      ih a' a b c e' e f g w1 w2 w3 w4 w5 w6 w7 w8 w9 w10 w11 w12 w13 w14 w15 w16) ks
theorem roundsN_cons (k : Nat) (ks : List Nat) (a b c d e f g h w0 w1 w2 w3 w4 w5 w6 w7 w8 w9 w10 w11 w12 w13 w14 w15 : Nat) : roundsN (k :: ks) a b c d e f g h w0 w1 w2 w3 w4 w5 w6 w7 w8 w9 w10 w11 w12 w13 w14 w15 =
      (forced (Nat.add h (Nat.add (Nat.xor (Nat.xor (rrN e 6) (rrN e 11)) (rrN e 25)) (Nat.add (Nat.xor (Nat.land e f) (Nat.land (Nat.xor e 4294967295) g)) (Nat.add k w0)))) fun x =>
      forced (Nat.mod (Nat.add d x) 4294967296) fun e' =>
      forced (Nat.mod (Nat.add x (Nat.add (Nat.xor (Nat.xor (rrN a 2) (rrN a 13)) (rrN a 22)) (Nat.xor (Nat.xor (Nat.land a b) (Nat.land a c)) (Nat.land b c)))) 4294967296) fun a' =>
      forced (Nat.mod (Nat.add w0 (Nat.add (Nat.xor (Nat.xor (rrN w1 7) (rrN w1 18)) (Nat.shiftRight w1 3)) (Nat.add w9 (Nat.xor (Nat.xor (rrN w14 17) (rrN w14 19)) (Nat.shiftRight w14 10))))) 4294967296) fun w16 =>
      roundsN ks a' a b c e' e f g w1 w2 w3 w4 w5 w6 w7 w8 w9 w10 w11 w12 w13 w14 w15 w16) := rfl
def M32 : Nat := 4294967296
theorem t_add (a b : UInt32) : (a + b).toNat = (a.toNat + b.toNat) % 4294967296 := UInt32.toNat_add a b
theorem t_not (a : UInt32) : (~~~a).toNat = Nat.xor a.toNat 4294967295 := by
  have h := xor_ones 32 a.toNat a.toNat_lt
  have e : (~~~a).toNat = 4294967295 - a.toNat := by
    rw [UInt32.toNat_not]; rfl
  rw [e]; exact h.symm
theorem t_tx (s : S8) (k w : UInt32) : ∃ X : Nat, X = Nat.add s.h.toNat (Nat.add (Nat.xor (Nat.xor (rrN s.e.toNat 6) (rrN s.e.toNat 11)) (rrN s.e.toNat 25)) (Nat.add (Nat.xor (Nat.land s.e.toNat s.f.toNat) (Nat.land (Nat.xor s.e.toNat 4294967295) s.g.toNat)) (Nat.add k.toNat w.toNat))) ∧ (tx s k w).toNat = X % 4294967296 := by
  refine ⟨_, rfl, ?_⟩
  unfold tx
  rw [t_add, t_add, t_add, t_add, UInt32.toNat_xor, UInt32.toNat_xor, UInt32.toNat_xor, UInt32.toNat_and, UInt32.toNat_and, t_not, rrN_eq _ _ (by decide) (by decide), rrN_eq _ _ (by decide) (by decide), rrN_eq _ _ (by decide) (by decide)]
  have f1 : ∀ a b : Nat, a ^^^ b = Nat.xor a b := fun _ _ => rfl
  have f2 : ∀ a b : Nat, a &&& b = Nat.land a b := fun _ _ => rfl
  have f3 : ∀ a b : Nat, Nat.add a b = a + b := fun _ _ => rfl
  simp only [f1, f2, f3]
  omega
theorem t_ty (s : S8) : (ty s).toNat = (Nat.add (Nat.xor (Nat.xor (rrN s.a.toNat 2) (rrN s.a.toNat 13)) (rrN s.a.toNat 22)) (Nat.xor (Nat.xor (Nat.land s.a.toNat s.b.toNat) (Nat.land s.a.toNat s.c.toNat)) (Nat.land s.b.toNat s.c.toNat))) % 4294967296 := by
  unfold ty
  rw [t_add, UInt32.toNat_xor, UInt32.toNat_xor, UInt32.toNat_xor, UInt32.toNat_xor, UInt32.toNat_and, UInt32.toNat_and, UInt32.toNat_and, rrN_eq _ _ (by decide) (by decide), rrN_eq _ _ (by decide) (by decide), rrN_eq _ _ (by decide) (by decide)]
  rfl
theorem t_next (w0 w1 w9 w14 : UInt32) : (w0 + sg0 w1 + w9 + sg1 w14).toNat = (Nat.add w0.toNat (Nat.add (Nat.xor (Nat.xor (rrN w1.toNat 7) (rrN w1.toNat 18)) (Nat.shiftRight w1.toNat 3)) (Nat.add w9.toNat (Nat.xor (Nat.xor (rrN w14.toNat 17) (rrN w14.toNat 19)) (Nat.shiftRight w14.toNat 10))))) % 4294967296 := by
  unfold sg0 sg1
  rw [t_add, t_add, t_add, UInt32.toNat_xor, UInt32.toNat_xor, UInt32.toNat_xor, UInt32.toNat_xor, UInt32.toNat_shiftRight, UInt32.toNat_shiftRight, rrN_eq _ _ (by decide) (by decide), rrN_eq _ _ (by decide) (by decide), rrN_eq _ _ (by decide) (by decide), rrN_eq _ _ (by decide) (by decide)]
  show (((w0.toNat + _) % _ + _) % _ + _) % _ = (w0.toNat + (_ + (_ + _))) % _
  rw [show (3 : UInt32).toNat % 32 = 3 from rfl, show (10 : UInt32).toNat % 32 = 10 from rfl]
  show (((w0.toNat + _) % _ + _) % _ + _) % _ = (w0.toNat + (_ + (_ + _))) % _
  have e1 : w1.toNat >>> 3 = Nat.shiftRight w1.toNat 3 := rfl
  have e2 : w14.toNat >>> 10 = Nat.shiftRight w14.toNat 10 := rfl
  rw [e1, e2]
  have f1 : ∀ a b : Nat, a ^^^ b = Nat.xor a b := fun _ _ => rfl
  rw [f1, f1, f1, f1]
  omega
theorem gw_last (l : List UInt32) (x : UInt32) : gw (l ++ [x]) l.length = x := by simp [gw]
/-- word t of a block's schedule -/
def wd (b : List UInt8) (t : Nat) : UInt32 := gw (sched b (t + 1)) t
theorem gw_wd (b : List UInt8) : ∀ {T t : Nat}, t < T → gw (sched b T) t = wd b t
  | 0, t, h => by omega
  | T + 1, t, h => by
    by_cases hT : t = T
    · subst hT; rfl
    · have h2 : gw (sched b (T + 1)) t = gw (sched b T) t := by
        have hl := sched_len b T
        by_cases h16 : T < 16
        · rw [sched_low b h16]; unfold gw; rw [List.getD_eq_getElem?_getD, List.getD_eq_getElem?_getD, List.getElem?_append_left (by omega)]
        · rw [sched_high b (by omega)]; unfold gw; rw [List.getD_eq_getElem?_getD, List.getD_eq_getElem?_getD, List.getElem?_append_left (by omega)]
      rw [h2, gw_wd b (by omega)]
theorem wd_next (b : List UInt8) (t : Nat) : wd b (t + 16) = wd b t + sg0 (wd b (t + 1)) + wd b (t + 9) + sg1 (wd b (t + 14)) := by
  have hl := sched_len b (t + 16)
  have e : wd b (t + 16) = nextw (sched b (t + 16)) := by
    unfold wd
    rw [sched_high b (by omega)]
    have := gw_last (sched b (t + 16)) (nextw (sched b (t + 16)))
    rw [hl] at this
    exact this
  rw [e]
  unfold nextw
  rw [hl, show t + 16 - 16 = t by omega, show t + 16 - 15 = t + 1 by omega, show t + 16 - 7 = t + 9 by omega, show t + 16 - 2 = t + 14 by omega]
  rw [gw_wd b (by omega), gw_wd b (by omega), gw_wd b (by omega), gw_wd b (by omega)]
theorem wd_low (b : List UInt8) {t : Nat} (h : t < 16) : wd b t = be32 (gb b (4 * t)) (gb b (4 * t + 1)) (gb b (4 * t + 2)) (gb b (4 * t + 3)) := by
  unfold wd
  rw [sched_low b h]
  have := gw_last (sched b t) (be32 (gb b (4 * t)) (gb b (4 * t + 1)) (gb b (4 * t + 2)) (gb b (4 * t + 3)))
  rw [sched_len] at this
  exact this
theorem kk_len : kk.length = 64 := rfl
theorem map_drop : ∀ (l : List UInt32) (t : Nat), t < l.length → (l.map UInt32.toNat).drop t = (gw l t).toNat :: (l.map UInt32.toNat).drop (t + 1)
  | x :: l, 0, _ => rfl
  | x :: l, t + 1, h => by
    have := map_drop l t (by simpa using h)
    simpa [gw] using this
  | [], t, h => by simp at h
theorem rounds_eq (s : S8) (b : List UInt8) : ∀ (n t : Nat) (r : S8), t + n = 64 → r = rnds s (sched b 64) t →
    roundsN (kkN.drop t) r.a.toNat r.b.toNat r.c.toNat r.d.toNat r.e.toNat r.f.toNat r.g.toNat r.h.toNat (wd b t).toNat (wd b (t + 1)).toNat (wd b (t + 2)).toNat (wd b (t + 3)).toNat (wd b (t + 4)).toNat (wd b (t + 5)).toNat (wd b (t + 6)).toNat (wd b (t + 7)).toNat (wd b (t + 8)).toNat (wd b (t + 9)).toNat (wd b (t + 10)).toNat (wd b (t + 11)).toNat (wd b (t + 12)).toNat (wd b (t + 13)).toNat (wd b (t + 14)).toNat (wd b (t + 15)).toNat = toN (rnds s (sched b 64) 64)
  | 0, t, r, h, hr => by
    obtain rfl : t = 64 := by omega
    rw [show kkN.drop 64 = [] from rfl, hr]
    rfl
  | n + 1, t, r, h, hr => by
    have hk : kkN.drop t = (gw kk t).toNat :: kkN.drop (t + 1) := map_drop kk t (by rw [kk_len]; omega)
    have ih := rounds_eq s b n (t + 1) (rnd r (gw kk t) (wd b t)) (by omega) (by rw [hr, ← gw_wd b (T := 64) (by omega)]; rfl)
    rw [hk]
    rw [roundsN_cons]
    simp only [forced_eq]
    obtain ⟨X, hX, hx⟩ := t_tx r (gw kk t) (wd b t)
    rw [← hX]
    have he : (rnd r (gw kk t) (wd b t)).e.toNat = Nat.mod (Nat.add r.d.toNat X) 4294967296 := by
      show (r.d + tx r (gw kk t) (wd b t)).toNat = (r.d.toNat + X) % 4294967296
      rw [t_add, hx]; omega
    have ha : (rnd r (gw kk t) (wd b t)).a.toNat = Nat.mod (Nat.add X (Nat.add (Nat.xor (Nat.xor (rrN r.a.toNat 2) (rrN r.a.toNat 13)) (rrN r.a.toNat 22)) (Nat.xor (Nat.xor (Nat.land r.a.toNat r.b.toNat) (Nat.land r.a.toNat r.c.toNat)) (Nat.land r.b.toNat r.c.toNat)))) 4294967296 := by
      show (tx r (gw kk t) (wd b t) + ty r).toNat = (X + _) % 4294967296
      rw [t_add, hx, t_ty]
      generalize Nat.add (Nat.xor _ _) _ = Y
      omega
    have hw : (wd b (t + 16)).toNat = Nat.mod (Nat.add (wd b t).toNat (Nat.add (Nat.xor (Nat.xor (rrN (wd b (t + 1)).toNat 7) (rrN (wd b (t + 1)).toNat 18)) (Nat.shiftRight (wd b (t + 1)).toNat 3)) (Nat.add (wd b (t + 9)).toNat (Nat.xor (Nat.xor (rrN (wd b (t + 14)).toNat 17) (rrN (wd b (t + 14)).toNat 19)) (Nat.shiftRight (wd b (t + 14)).toNat 10))))) 4294967296 := by
      rw [wd_next, t_next]; rfl
    rw [← he, ← ha, ← hw]
    rw [← ih]
    have hadd : ∀ i, t + 1 + i = t + (i + 1) := fun i => by omega
    simp only [hadd, Nat.reduceAdd]
    rfl
noncomputable def addN8 (a0 b0 c0 d0 e0 f0 g0 h0 : Nat) (r : N8) : N8 :=
  N8.casesOn (motive := fun _ => N8) r fun a1 b1 c1 d1 e1 f1 g1 h1 =>
    forced (Nat.mod (Nat.add a0 a1) 4294967296) fun a =>
    forced (Nat.mod (Nat.add b0 b1) 4294967296) fun b =>
    forced (Nat.mod (Nat.add c0 c1) 4294967296) fun c =>
    forced (Nat.mod (Nat.add d0 d1) 4294967296) fun d =>
    forced (Nat.mod (Nat.add e0 e1) 4294967296) fun e =>
    forced (Nat.mod (Nat.add f0 f1) 4294967296) fun f =>
    forced (Nat.mod (Nat.add g0 g1) 4294967296) fun g =>
    forced (Nat.mod (Nat.add h0 h1) 4294967296) fun h =>
    N8.mk a b c d e f g h
theorem addN8_mk (a0 b0 c0 d0 e0 f0 g0 h0 a1 b1 c1 d1 e1 f1 g1 h1 : Nat) : addN8 a0 b0 c0 d0 e0 f0 g0 h0 ⟨a1, b1, c1, d1, e1, f1, g1, h1⟩ = (forced (Nat.mod (Nat.add a0 a1) 4294967296) fun a => forced (Nat.mod (Nat.add b0 b1) 4294967296) fun b => forced (Nat.mod (Nat.add c0 c1) 4294967296) fun c => forced (Nat.mod (Nat.add d0 d1) 4294967296) fun d => forced (Nat.mod (Nat.add e0 e1) 4294967296) fun e => forced (Nat.mod (Nat.add f0 f1) 4294967296) fun f => forced (Nat.mod (Nat.add g0 g1) 4294967296) fun g => forced (Nat.mod (Nat.add h0 h1) 4294967296) fun h => N8.mk a b c d e f g h) := rfl
theorem addN8_eq (s r : S8) : addN8 s.a.toNat s.b.toNat s.c.toNat s.d.toNat s.e.toNat s.f.toNat s.g.toNat s.h.toNat (toN r) = toN (addS s r) := by
  unfold toN
  rw [addN8_mk]
  simp only [forced_eq, addS, t_add]
  rfl
noncomputable def compN (s : N8) (w0 w1 w2 w3 w4 w5 w6 w7 w8 w9 w10 w11 w12 w13 w14 w15 : Nat) : N8 :=
  N8.casesOn (motive := fun _ => N8) s fun a0 b0 c0 d0 e0 f0 g0 h0 => addN8 a0 b0 c0 d0 e0 f0 g0 h0 (roundsN kkN a0 b0 c0 d0 e0 f0 g0 h0 w0 w1 w2 w3 w4 w5 w6 w7 w8 w9 w10 w11 w12 w13 w14 w15)
theorem compN_eq (s : S8) (b : List UInt8) : compN (toN s) (wd b 0).toNat (wd b 1).toNat (wd b 2).toNat (wd b 3).toNat (wd b 4).toNat (wd b 5).toNat (wd b 6).toNat (wd b 7).toNat (wd b 8).toNat (wd b 9).toNat (wd b 10).toNat (wd b 11).toNat (wd b 12).toNat (wd b 13).toNat (wd b 14).toNat (wd b 15).toNat = toN (comp s b) := by
  have h := rounds_eq s b 64 0 s rfl rfl
  simp only [Nat.zero_add, List.drop_zero] at h
  show addN8 s.a.toNat s.b.toNat s.c.toNat s.d.toNat s.e.toNat s.f.toNat s.g.toNat s.h.toNat (roundsN kkN s.a.toNat s.b.toNat s.c.toNat s.d.toNat s.e.toNat s.f.toNat s.g.toNat s.h.toNat (wd b 0).toNat (wd b 1).toNat (wd b 2).toNat (wd b 3).toNat (wd b 4).toNat (wd b 5).toNat (wd b 6).toNat (wd b 7).toNat (wd b 8).toNat (wd b 9).toNat (wd b 10).toNat (wd b 11).toNat (wd b 12).toNat (wd b 13).toNat (wd b 14).toNat (wd b 15).toNat) = _
  rw [h, addN8_eq]
  rfl
def word (a b c d : Nat) : Nat := Nat.lor (Nat.lor (Nat.lor (Nat.shiftLeft a 24) (Nat.shiftLeft b 16)) (Nat.shiftLeft c 8)) d
theorem word_eq (a b c d : UInt8) : word a.toNat b.toNat c.toNat d.toNat = (be32 a b c d).toNat := by
  unfold be32 word
  rw [UInt32.toNat_or, UInt32.toNat_or, UInt32.toNat_or, UInt32.toNat_shiftLeft, UInt32.toNat_shiftLeft, UInt32.toNat_shiftLeft]
  have ha := a.toNat_lt; have hb := b.toNat_lt; have hc := c.toNat_lt
  have sh : ∀ (x : UInt8) (n : UInt32) (k : Nat), n.toNat % 32 = k → k ≤ 24 → x.toUInt32.toNat <<< (n.toNat % 32) % 2 ^ 32 = Nat.shiftLeft x.toNat k := by
    intro x n k hn hk
    rw [hn, UInt8.toNat_toUInt32]
    have hx := x.toNat_lt
    have h2 : x.toNat <<< k < 2 ^ 32 := by
      rw [Nat.shiftLeft_eq]
      calc x.toNat * 2 ^ k ≤ 255 * 2 ^ 24 := Nat.mul_le_mul (by omega) (Nat.pow_le_pow_right (by decide) hk)
        _ < 2 ^ 32 := by decide
    rw [Nat.mod_eq_of_lt h2]; rfl
  rw [sh a 24 24 rfl (by decide), sh b 16 16 rfl (by decide), sh c 8 8 rfl (by decide), UInt8.toNat_toUInt32]
  rfl
/-- four bytes off a list -/
def four4 {α : Type} (l : List Nat) (z : α) (k : Nat → List Nat → α) : α := match l with
  | a :: b :: c :: d :: t => k (word a b c d) t
  | _ => z
noncomputable def fourN {α : Type} (l : List Nat) (z : α) (k : Nat → List Nat → α) : α := four4 l z fun w t => forced w fun w => k w t
noncomputable def blocksN (n : Nat) : List Nat → N8 → N8 :=
  Nat.rec (motive := fun _ => List Nat → N8 → N8) (fun _ s => s) (fun _ ih l s => fourN l s fun w0 l1 => fourN l1 s fun w1 l2 => fourN l2 s fun w2 l3 => fourN l3 s fun w3 l4 => fourN l4 s fun w4 l5 => fourN l5 s fun w5 l6 => fourN l6 s fun w6 l7 => fourN l7 s fun w7 l8 => fourN l8 s fun w8 l9 => fourN l9 s fun w9 l10 => fourN l10 s fun w10 l11 => fourN l11 s fun w11 l12 => fourN l12 s fun w12 l13 => fourN l13 s fun w13 l14 => fourN l14 s fun w14 l15 => fourN l15 s fun w15 l16 => ih l16 (compN s w0 w1 w2 w3 w4 w5 w6 w7 w8 w9 w10 w11 w12 w13 w14 w15)) n
theorem fourN_eq {α : Type} (b : List UInt8) (z : α) (k : Nat → List Nat → α) (h : 4 ≤ b.length) : fourN (b.map UInt8.toNat) z k = k (be32 (gb b 0) (gb b 1) (gb b 2) (gb b 3)).toNat ((b.drop 4).map UInt8.toNat) := by
  obtain ⟨a0, a1, a2, a3, t, rfl⟩ : ∃ a0 a1 a2 a3 t, b = a0 :: a1 :: a2 :: a3 :: t := by
    match b, h with
    | a0 :: a1 :: a2 :: a3 :: t, _ => exact ⟨a0, a1, a2, a3, t, rfl⟩
  unfold fourN four4
  simp only [List.map_cons, forced_eq, word_eq]
  rfl
theorem gb_drop (m : List UInt8) (k i : Nat) : gb (m.drop k) i = gb m (k + i) := by
  unfold gb; rw [List.getD_eq_getElem?_getD, List.getD_eq_getElem?_getD, List.getElem?_drop]
theorem gb_take (m : List UInt8) {n i : Nat} (h : i < n) : gb (m.take n) i = gb m i := by
  unfold gb; rw [List.getD_eq_getElem?_getD, List.getD_eq_getElem?_getD, List.getElem?_take, if_pos h]
theorem wd_take (m : List UInt8) {t : Nat} (h : t < 16) : wd (m.take 64) t = be32 (gb m (4 * t)) (gb m (4 * t + 1)) (gb m (4 * t + 2)) (gb m (4 * t + 3)) := by
  rw [wd_low _ h, gb_take _ (by omega), gb_take _ (by omega), gb_take _ (by omega), gb_take _ (by omega)]
theorem block_eq (n : Nat) (m : List UInt8) (s : S8) (h : 64 ≤ m.length) : blocksN (n + 1) (m.map UInt8.toNat) (toN s) = blocksN n ((m.drop 64).map UInt8.toNat) (toN (comp s (m.take 64))) := by
  rw [← compN_eq]
  show fourN _ _ _ = _
  rw [fourN_eq m _ _ (by omega)]
  rw [fourN_eq (m.drop 4) _ _ (by rw [List.length_drop]; omega), List.drop_drop]
  simp only [Nat.reduceAdd]
  rw [fourN_eq (m.drop 8) _ _ (by rw [List.length_drop]; omega), List.drop_drop]
  simp only [Nat.reduceAdd]
  rw [fourN_eq (m.drop 12) _ _ (by rw [List.length_drop]; omega), List.drop_drop]
  simp only [Nat.reduceAdd]
  rw [fourN_eq (m.drop 16) _ _ (by rw [List.length_drop]; omega), List.drop_drop]
  simp only [Nat.reduceAdd]
  rw [fourN_eq (m.drop 20) _ _ (by rw [List.length_drop]; omega), List.drop_drop]
  simp only [Nat.reduceAdd]
  rw [fourN_eq (m.drop 24) _ _ (by rw [List.length_drop]; omega), List.drop_drop]
  simp only [Nat.reduceAdd]
  rw [fourN_eq (m.drop 28) _ _ (by rw [List.length_drop]; omega), List.drop_drop]
  simp only [Nat.reduceAdd]
  rw [fourN_eq (m.drop 32) _ _ (by rw [List.length_drop]; omega), List.drop_drop]
  simp only [Nat.reduceAdd]
  rw [fourN_eq (m.drop 36) _ _ (by rw [List.length_drop]; omega), List.drop_drop]
  simp only [Nat.reduceAdd]
  rw [fourN_eq (m.drop 40) _ _ (by rw [List.length_drop]; omega), List.drop_drop]
  simp only [Nat.reduceAdd]
  rw [fourN_eq (m.drop 44) _ _ (by rw [List.length_drop]; omega), List.drop_drop]
  simp only [Nat.reduceAdd]
  rw [fourN_eq (m.drop 48) _ _ (by rw [List.length_drop]; omega), List.drop_drop]
  simp only [Nat.reduceAdd]
  rw [fourN_eq (m.drop 52) _ _ (by rw [List.length_drop]; omega), List.drop_drop]
  simp only [Nat.reduceAdd]
  rw [fourN_eq (m.drop 56) _ _ (by rw [List.length_drop]; omega), List.drop_drop]
  simp only [Nat.reduceAdd]
  rw [fourN_eq (m.drop 60) _ _ (by rw [List.length_drop]; omega), List.drop_drop]
  simp only [Nat.reduceAdd]
  simp only [gb_drop, Nat.reduceAdd]
  rw [wd_take m (t := 0) (by decide)]
  rw [wd_take m (t := 1) (by decide)]
  rw [wd_take m (t := 2) (by decide)]
  rw [wd_take m (t := 3) (by decide)]
  rw [wd_take m (t := 4) (by decide)]
  rw [wd_take m (t := 5) (by decide)]
  rw [wd_take m (t := 6) (by decide)]
  rw [wd_take m (t := 7) (by decide)]
  rw [wd_take m (t := 8) (by decide)]
  rw [wd_take m (t := 9) (by decide)]
  rw [wd_take m (t := 10) (by decide)]
  rw [wd_take m (t := 11) (by decide)]
  rw [wd_take m (t := 12) (by decide)]
  rw [wd_take m (t := 13) (by decide)]
  rw [wd_take m (t := 14) (by decide)]
  rw [wd_take m (t := 15) (by decide)]
  rfl
theorem comps_left (s : S8) (m : List UInt8) : ∀ k, comps s m (k + 1) = comps (comp s (m.take 64)) (m.drop 64) k
  | 0 => by show comp s ((m.drop 0).take 64) = _; rfl
  | k + 1 => by
    show comp (comps s m (k + 1)) ((m.drop (64 * (k + 1))).take 64) = comp (comps (comp s (m.take 64)) (m.drop 64) k) (((m.drop 64).drop (64 * k)).take 64)
    rw [comps_left s m k, List.drop_drop, show 64 + 64 * k = 64 * (k + 1) by omega]
theorem blocks_eq : ∀ (n : Nat) (m : List UInt8) (s : S8), 64 * n ≤ m.length → blocksN n (m.map UInt8.toNat) (toN s) = toN (comps s m n)
  | 0, m, s, _ => rfl
  | n + 1, m, s, h => by
    rw [block_eq n m s (by omega), blocks_eq n (m.drop 64) _ (by rw [List.length_drop]; omega), comps_left]
def outN (x : Nat) : List Nat := [Nat.div x 16777216, Nat.mod (Nat.div x 65536) 256, Nat.mod (Nat.div x 256) 256, Nat.mod x 256]
theorem outN_eq (x : UInt32) : outN x.toNat = (outW x).map UInt8.toNat := by
  have hx := x.toNat_lt
  have hb : ∀ n : Nat, (bt (n : Int)).toNat = n % 256 := fun n => by have := bt_toNat (n : Int); omega
  unfold outN outW
  simp only [List.map_cons, List.map_nil, hb, UInt32.toNat_shiftRight]
  rw [show (24 : UInt32).toNat % 32 = 24 from rfl, show (16 : UInt32).toNat % 32 = 16 from rfl, show (8 : UInt32).toNat % 32 = 8 from rfl]
  simp only [Nat.shiftRight_eq_div_pow]
  show [x.toNat / 16777216, x.toNat / 65536 % 256, x.toNat / 256 % 256, x.toNat % 256] = [x.toNat / 16777216 % 256, x.toNat / 65536 % 256, x.toNat / 256 % 256, x.toNat % 256]
  congr 1; omega
noncomputable def out8 (s : N8) : List Nat := N8.casesOn (motive := fun _ => List Nat) s fun a b c d e f g h => outN a ++ (outN b ++ (outN c ++ (outN d ++ (outN e ++ (outN f ++ (outN g ++ outN h))))))
theorem out8_eq (s : S8) : out8 (toN s) = (outS s).map UInt8.toNat := by
  show outN s.a.toNat ++ _ = _
  simp only [outN_eq, outS, List.flatMap_cons, List.flatMap_nil, List.map_append, List.append_nil]
def be8N (n : Nat) : List Nat := [Nat.mod (Nat.div n 72057594037927936) 256, Nat.mod (Nat.div n 281474976710656) 256, Nat.mod (Nat.div n 1099511627776) 256, Nat.mod (Nat.div n 4294967296) 256, Nat.mod (Nat.div n 16777216) 256, Nat.mod (Nat.div n 65536) 256, Nat.mod (Nat.div n 256) 256, Nat.mod n 256]
theorem be8N_eq (n : Nat) : be8N n = (be64 n).map UInt8.toNat := by
  have hb : ∀ n : Nat, (bt (n : Int)).toNat = n % 256 := fun n => by have := bt_toNat (n : Int); omega
  unfold be64
  simp only [be, List.nil_append, List.cons_append, List.map_cons, List.map_nil, hb, Nat.div_div_eq_div_mul]
  rfl
def repN (n : Nat) : List Nat := List.replicate n 0
noncomputable def shaN (m : List Nat) : List Nat := out8 (blocksN (Nat.div (Nat.add m.length 72) 64) (m ++ (128 :: (repN (Nat.mod (Nat.sub 119 (Nat.mod m.length 64)) 64) ++ be8N (Nat.mul 8 m.length)))) (toN h0))
theorem shaN_eq (m : List UInt8) : shaN (m.map UInt8.toNat) = (sha m).map UInt8.toNat := by
  have hpl := padTail_len m.length
  have hlen : (padded m).length = m.length + 1 + (119 - m.length % 64) % 64 + 8 := by
    unfold padded; rw [List.length_append, hpl]; unfold zn; omega
  have hp : (padded m).map UInt8.toNat = m.map UInt8.toNat ++ (128 :: (repN (Nat.mod (Nat.sub 119 (Nat.mod m.length 64)) 64) ++ be8N (Nat.mul 8 m.length))) := by
    unfold padded padTail
    rw [List.map_append, List.map_cons, List.map_append, ← be8N_eq]
    simp only [List.map_replicate]
    rfl
  have hn : Nat.div (Nat.add m.length 72) 64 = (padded m).length / 64 := by
    show (m.length + 72) / 64 = _
    rw [hlen]; omega
  unfold shaN sha
  rw [List.length_map, ← hp, hn, blocks_eq _ _ _ (by omega), out8_eq]
/-- equality of lists of numbers, computed -/
def eqN : List Nat → List Nat → Bool
  | [], [] => true
  | a :: l, b :: m => Nat.beq a b && eqN l m
  | _, _ => false
theorem eqN_eq : ∀ {l m : List Nat}, eqN l m = true → l = m
  | [], [], _ => rfl
  | a :: l, b :: m, h => by
    simp only [eqN, Bool.and_eq_true] at h
    rw [Nat.eq_of_beq_eq_true h.1, eqN_eq h.2]
  | [], _ :: _, h => by simp [eqN] at h
  | _ :: _, [], h => by simp [eqN] at h
end Go.Proofs.YtajglgkjpagcjaaDoor.Pu
namespace Go.Proofs.YtajglgkjpagcjaaDoor.Pu
def encB (n : Nat) : List Nat := if n = 0 then [128] else if n < 256 then [129, n] else [130, n / 256, n % 256]
theorem btn_mod (n : Nat) : (bt (n : Int)).toNat = n % 256 := by have := bt_toNat (n : Int); omega
theorem encB_eq {n : Nat} (h : n < 65536) : encB n = (enc (n : Int)).map UInt8.toNat := by
  unfold enc encB
  rw [mag_pos, decide_eq_false (by omega : ¬(n : Int) < 0)]
  have hf : ∀ l : List UInt8, l.map (fl false) = l := fun l => by
    conv => rhs; rw [← List.map_id l]
    exact List.map_congr_left fun a _ => fl_false a
  rw [hf]
  by_cases h0 : n = 0
  · subst h0; rw [nd_zero]; rfl
  · rw [if_neg h0]
    by_cases h1 : n < 256
    · have : nd n = 1 := by rw [nd_pos (by omega), show n / 256 = 0 by omega, nd_zero]
      rw [if_pos h1, this]
      simp only [be, List.nil_append, List.map_cons, List.map_nil, btn_mod]
      rw [show ((128 : Int) + ((1 : Nat) : Int)) = ((129 : Nat) : Int) from rfl, btn_mod, Nat.mod_eq_of_lt h1]
    · have : nd n = 2 := by rw [nd_pos (by omega), nd_pos (by omega), show n / 256 / 256 = 0 by omega, nd_zero]
      rw [if_neg h1, this]
      simp only [be, List.nil_append, List.cons_append, List.map_cons, List.map_nil, btn_mod]
      rw [show ((128 : Int) + ((2 : Nat) : Int)) = ((130 : Nat) : Int) from rfl, btn_mod]
      have : n / 256 < 256 := by omega
      rw [Nat.mod_eq_of_lt this]
/-- the first n elements of a list, computed first -/
noncomputable def forcedL {α : Type} (n : Nat) : List Nat → (List Nat → α) → α :=
  Nat.rec (motive := fun _ => List Nat → (List Nat → α) → α) (fun _ k => k []) (fun _ ih l k => List.casesOn (motive := fun _ => α) l (k []) fun a t => forced a fun a => ih t fun r => k (a :: r)) n
theorem forcedL_eq {α : Type} : ∀ (n : Nat) (l : List Nat) (k : List Nat → α), forcedL n l k = k (l.take n)
  | 0, _, _ => rfl
  | n + 1, [], k => rfl
  | n + 1, a :: t, k => by
    have h : forcedL (n + 1) (a :: t) k = forced a fun a => forcedL n t fun r => k (a :: r) := rfl
    rw [h, forced_eq, forcedL_eq n t]
    rfl
def tn (l : List UInt8) : List Nat := l.map UInt8.toNat
theorem tn_inj {a b : List UInt8} (h : tn a = tn b) : a = b := List.map_inj_right (fun _ _ h => UInt8.toNat_inj.1 h) |>.1 h
theorem tn_app (a b : List UInt8) : tn (a ++ b) = tn a ++ tn b := List.map_append
theorem tn_len (a : List UInt8) : (tn a).length = a.length := by unfold tn; simp
def bytesN (l : List Nat) : List Nat := encB l.length ++ l
theorem bytesN_eq {l : List UInt8} (h : l.length < 65536) : bytesN (tn l) = tn (encBytes l) := by
  unfold bytesN encBytes
  rw [tn_app, tn_len, encB_eq h]; rfl
noncomputable def digN (tag : Nat) (parts : List (List Nat)) : List Nat := forcedL 16 (shaN (tag :: parts.flatMap bytesN)) fun l => l
theorem digN_eq {tag : Nat} (ht : tag < 256) {parts : List (List UInt8)} (h : ∀ p ∈ parts, p.length < 65536) : digN tag (parts.map tn) = tn (digOf tag parts) := by
  have e : ∀ ps : List (List UInt8), (∀ p ∈ ps, p.length < 65536) → (ps.map tn).flatMap bytesN = tn (ps.flatMap encBytes) := by
    intro ps
    induction ps with
    | nil => intro _; rfl
    | cons p ps ih =>
      intro h
      rw [List.map_cons, List.flatMap_cons, List.flatMap_cons, tn_app, ih (fun q hq => h q (by simp [hq])), bytesN_eq (h p (by simp))]
  have e2 : tag :: (parts.map tn).flatMap bytesN = tn (inp tag parts) := by
    rw [e parts h]
    unfold inp tn
    rw [List.map_cons, btn_mod, Nat.mod_eq_of_lt ht]
  unfold digN digOf
  rw [forcedL_eq, e2]
  show (shaN ((inp tag parts).map UInt8.toNat)).take 16 = _
  rw [shaN_eq]
  unfold tn; rw [List.map_take]
def intsN (l : List Nat) : List Nat := encB l.length ++ l.flatMap encB
theorem intsN_eq {l : List Nat} (hl : l.length < 65536) (h : ∀ x ∈ l, x < 65536) : intsN l = tn (encInts (l.map fun n : Nat => (n : Int))) := by
  unfold intsN encInts encList
  rw [tn_app, List.length_map, encB_eq hl]
  congr 1
  clear hl
  induction l with
  | nil => rfl
  | cons x l ih =>
    rw [List.flatMap_cons, List.map_cons, List.flatMap_cons, tn_app, ih (fun y hy => h y (by simp [hy])), encB_eq (h x (by simp))]; rfl
def seed5 : List UInt8 := List.replicate 32 5
def k36 : List Nat := List.replicate 32 51 ++ List.replicate 32 54
def k5c : List Nat := List.replicate 32 89 ++ List.replicate 32 92
theorem k36_eq : k36 = tn (padKey seed5 54) := by
  have h : padKey seed5 54 = List.replicate 32 51 ++ List.replicate 32 54 := by
    unfold padKey
    rw [if_neg (by decide)]
    decide
  rw [h]; rfl
theorem k5c_eq : k5c = tn (padKey seed5 92) := by
  have h : padKey seed5 92 = List.replicate 32 89 ++ List.replicate 32 92 := by
    unfold padKey
    rw [if_neg (by decide)]
    decide
  rw [h]; rfl
noncomputable def startK {α : Type} (i c : Nat) (k : List Nat → α) : α := forcedL 16 (shaN (k5c ++ forcedL 32 (shaN (k36 ++ (99 :: 104 :: 97 :: 105 :: 110 :: intsN [i, c]))) fun l => l)) k
theorem startK_eq {α : Type} {i c : Nat} (hi : i < 65536) (hc : c < 65536) (k : List Nat → α) : startK i c k = k (tn (startV seed5 i c)) := by
  unfold startK
  have e1 : (99 :: 104 :: 97 :: 105 :: 110 :: intsN [i, c] : List Nat) = tn (chainB ++ encInts [(i : Int), (c : Int)]) := by
    rw [tn_app, intsN_eq (by simp) (by intro x hx; simp at hx; rcases hx with rfl | rfl <;> assumption)]; rfl
  have hin : (forcedL 32 (shaN (k36 ++ tn (chainB ++ encInts [(i : Int), (c : Int)]))) fun l => l) = tn (sha (padKey seed5 54 ++ (chainB ++ encInts [(i : Int), (c : Int)]))) := by
    rw [forcedL_eq, k36_eq, ← tn_app]
    show (shaN (List.map UInt8.toNat _)).take 32 = _
    rw [shaN_eq, List.take_of_length_le (by rw [List.length_map, sha_len]; exact Nat.le_refl _)]
    rfl
  rw [e1, hin, forcedL_eq, k5c_eq, ← tn_app]
  show k (List.take 16 (shaN (List.map UInt8.toNat _))) = _
  rw [shaN_eq]
  unfold startV mac tn
  rw [List.map_take]
noncomputable def stepK {α : Type} (i c t : Nat) (v : List Nat) (k : List Nat → α) : α := forcedL 16 (shaN (7 :: (bytesN (intsN [i, c, t]) ++ (129 :: 16 :: v)))) k
theorem stepK_eq {α : Type} {i c t : Nat} (hi : i < 65536) (hc : c < 65536) (ht : t < 65536) {v : List UInt8} (hv : v.length = 16) (k : List Nat → α) : stepK i c t (tn v) k = k (tn (digOf 7 [encInts [(i : Int), (c : Int), (t : Int)], v])) := by
  have hints : intsN [i, c, t] = tn (encInts [(i : Int), (c : Int), (t : Int)]) := intsN_eq (by simp) (by intro x hx; simp at hx; rcases hx with rfl | rfl | rfl <;> assumption)
  have hlen : (encInts [(i : Int), (c : Int), (t : Int)]).length < 65536 := by
    unfold encInts encList
    have hb : ∀ n : Nat, n < 65536 → (enc (n : Int)).length ≤ 3 := fun n hn => by
      have h := congrArg List.length (encB_eq hn)
      rw [List.length_map] at h
      rw [← h]; unfold encB; split <;> (try split) <;> simp
    have h3 := hb 3 (by decide)
    simp only [List.flatMap_cons, List.flatMap_nil, List.length_append, List.length_cons, List.length_nil]
    have := hb i hi; have := hb c hc; have := hb t ht
    have h4 : (enc (((0 + 1 + 1 + 1 : Nat) : Int))).length ≤ 3 := h3
    omega
  have e16 : (129 :: 16 :: tn v : List Nat) = tn (encBytes v) := by
    rw [← bytesN_eq (by omega)]; unfold bytesN; rw [tn_len, hv]; rfl
  have e2 : (7 :: (bytesN (intsN [i, c, t]) ++ (129 :: 16 :: tn v)) : List Nat) = tn (inp 7 [encInts [(i : Int), (c : Int), (t : Int)], v]) := by
    rw [hints, bytesN_eq hlen, e16, ← tn_app]
    unfold inp
    simp only [List.flatMap_cons, List.flatMap_nil, List.append_nil]
    rfl
  unfold stepK
  rw [forcedL_eq, e2]
  show k (List.take 16 (shaN (List.map UInt8.toNat _))) = _
  rw [shaN_eq]
  unfold digOf tn
  rw [List.map_take]
noncomputable def advK {α : Type} (i c t : Nat) (n : Nat) : List Nat → (List Nat → α) → α :=
  Nat.rec (motive := fun _ => List Nat → (List Nat → α) → α) (fun v k => k v) (fun m ih v k => ih v fun v => stepK i c (Nat.add t m) v k) n
theorem advK_eq {α : Type} {i c t : Nat} (hi : i < 65536) (hc : c < 65536) : ∀ (n : Nat), t + n < 65536 → ∀ {v : List UInt8}, v.length = 16 → ∀ (k : List Nat → α), advK i c t n (tn v) k = k (tn (adv i c t n v))
  | 0, _, v, _, k => rfl
  | n + 1, h, v, hv, k => by
    have e : advK i c t (n + 1) (tn v) k = advK i c t n (tn v) fun v => stepK i c (Nat.add t n) v k := rfl
    rw [e, advK_eq hi hc n (by omega) hv]
    have e2 : Nat.add t n = t + n := rfl
    rw [e2, stepK_eq hi hc (by omega) (adv_len _ _ _ _ hv)]
    rfl
noncomputable def topN (i c : Nat) : List Nat := startK i c fun v => advK i c 0 3 v fun v => v
theorem topN_eq {i c : Nat} (hi : i < 65536) (hc : c < 65536) : topN i c = tn (topV seed5 i c) := by
  unfold topN
  rw [startK_eq hi hc, advK_eq hi hc 3 (by decide) (startV_len _ _ _)]; rfl
noncomputable def endN (a b : List Nat) (c : Nat) : List Nat := startK 1 c fun v => advK 1 c 0 (a.getD c 0) v fun v => advK 1 c (b.getD c 0) (3 - b.getD c 0) v fun v => v
theorem endN_eq {a b : List Nat} {c : Nat} (hc : c < 65536) (ha : a.getD c 0 ≤ 3) (hb : b.getD c 0 ≤ 3) : endN a b c = tn (adv (1 : Nat) c (b.getD c 0) (3 - b.getD c 0) (adv (1 : Nat) c 0 (a.getD c 0) (startV seed5 (1 : Nat) c))) := by
  unfold endN
  rw [startK_eq (by decide) hc, advK_eq (by decide) hc _ (by omega) (startV_len _ _ _), advK_eq (by decide) hc _ (by omega) (adv_len _ _ _ _ (startV_len _ _ _))]
theorem flat_eq {f : Nat → List Nat} {g : Nat → List UInt8} (h : ∀ c, c < 65536 → f c = tn (g c)) (a n : Nat) (hn : a + n ≤ 65536) : (List.range' a n).flatMap f = tn ((List.range' a n).flatMap g) := by
  induction n generalizing a with
  | zero => rfl
  | succ n ih =>
    rw [List.range'_succ, List.flatMap_cons, List.flatMap_cons, tn_app, ih (a + 1) (by omega), h a (by omega)]
theorem leafN_eq {l : List UInt8} (h : l.length < 65536) : digN 9 [digN 11 [tn l]] = tn (leafD l) := by
  have h1 : digN 11 [tn l] = tn (digOf 11 [l]) := digN_eq (tag := 11) (by decide) (parts := [l]) (by intro p hp; simp at hp; subst hp; exact h)
  have h2 : digN 9 [tn (digOf 11 [l])] = tn (digOf 9 [digOf 11 [l]]) := digN_eq (tag := 9) (by decide) (parts := [digOf 11 [l]]) (by intro p hp; simp at hp; subst hp; rw [digOf_len]; decide)
  rw [h1, h2]; rfl
theorem nodeN_eq {a b : List UInt8} (ha : a.length = 16) (hb : b.length = 16) : digN 10 [tn a, tn b] = tn (nodeD a b) := by
  have h2 : digN 10 [tn a, tn b] = tn (digOf 10 [a, b]) := digN_eq (tag := 10) (by decide) (parts := [a, b]) (by intro p hp; simp at hp; rcases hp with rfl | rfl <;> omega)
  rw [h2]; rfl

def T00 : List Nat := [245, 22, 248, 100, 195, 32, 161, 59, 127, 181, 95, 16, 167, 100, 156, 193, 34, 138, 163, 176, 175, 208, 62, 15, 127, 243, 251, 164, 194, 51, 154, 31, 80, 6, 134, 228, 167, 56, 197, 157, 219, 196, 58, 146, 114, 94, 6, 23, 123, 138, 95, 189, 202, 219, 204, 202, 202, 248, 41, 169, 229, 171, 77, 233, 112, 52, 2, 80, 188, 38, 200, 56, 105, 65, 146, 189, 136, 175, 143, 253, 155, 77, 147, 4, 168, 34, 193, 79, 193, 78, 214, 145, 200, 181, 116, 110, 162, 20, 108, 191, 212, 239, 156, 63, 59, 144, 144, 58, 175, 37, 7, 125, 184, 105, 57, 207, 229, 124, 33, 240, 205, 162, 10, 255, 251, 241, 99, 138, 138, 53, 33, 223, 254, 123, 148, 211, 65, 182, 112, 62, 236, 44, 220, 224, 230, 90, 196, 135, 177, 105, 89, 154, 131, 164, 168, 208, 57, 180, 107, 211, 185, 111, 26, 250, 3, 207, 143, 141, 192, 197, 222, 3, 108, 93, 239, 145, 188, 120, 150, 77, 206, 64, 92, 187, 209, 222, 161, 193, 10, 45, 115, 204, 197, 85, 218, 104, 10, 215, 27, 205, 223, 154, 79, 117, 191, 94, 172, 86, 79, 27, 109, 158, 101, 187, 82, 111, 20, 32, 153, 82, 1, 239, 120, 169, 56, 197, 160, 130, 19, 252, 207, 170, 77, 148, 67, 30, 70, 157, 164, 162, 10, 66, 45, 39, 17, 59, 52, 69, 146, 80, 240, 205, 16, 43, 177, 170, 147, 95, 212, 181, 67, 86, 27, 156, 142, 102, 234, 166, 139, 174, 104, 185]
set_option maxRecDepth 100000 in
theorem T00_eq : eqN ((List.range' 0 17).flatMap (topN 0)) T00 = true := by kernel_rfl
def T01 : List Nat := [9, 20, 245, 254, 46, 190, 76, 62, 230, 250, 23, 7, 99, 80, 86, 130, 176, 229, 202, 146, 27, 136, 176, 56, 126, 187, 219, 254, 109, 83, 94, 168, 107, 32, 38, 252, 174, 89, 123, 53, 152, 46, 131, 176, 152, 7, 49, 198, 77, 36, 47, 220, 33, 255, 146, 187, 168, 234, 24, 150, 86, 97, 122, 196, 50, 221, 67, 101, 49, 142, 192, 9, 16, 136, 55, 213, 60, 90, 27, 89, 136, 222, 156, 130, 156, 230, 5, 27, 84, 7, 210, 158, 177, 155, 128, 132, 235, 166, 202, 33, 127, 56, 35, 229, 30, 199, 202, 18, 65, 155, 206, 103, 81, 90, 89, 232, 177, 234, 251, 53, 108, 69, 255, 227, 52, 91, 159, 206, 170, 146, 179, 175, 39, 50, 68, 104, 41, 157, 158, 8, 90, 53, 141, 197, 16, 154, 130, 40, 244, 250, 189, 82, 12, 161, 6, 249, 1, 131, 154, 223, 33, 105, 34, 116, 41, 1, 195, 2, 131, 64, 54, 30, 150, 212, 217, 159, 148, 247, 112, 213, 136, 25, 226, 83, 150, 81, 74, 100, 152, 192, 170, 100, 143, 105, 251, 76, 32, 171, 75, 204, 254, 182, 197, 216, 109, 2, 78, 50, 11, 71, 94, 13, 50, 232, 182, 201, 98, 185, 76, 97, 237, 145, 177, 187, 116, 224, 60, 90, 10, 145, 232, 16, 157, 217, 233, 181, 29, 219, 144, 142, 191, 63, 22, 25, 154, 225, 31, 105, 240, 233, 103, 172, 0, 197, 13, 9, 151, 240, 14, 55, 31, 192, 20, 167, 240, 11, 104, 145, 26, 65, 252, 149]
set_option maxRecDepth 100000 in
theorem T01_eq : eqN ((List.range' 17 17).flatMap (topN 0)) T01 = true := by kernel_rfl
def T02 : List Nat := [77, 63, 90, 206, 248, 26, 64, 223, 95, 170, 182, 126, 147, 80, 168, 35, 238, 121, 78, 242, 65, 204, 41, 114, 185, 32, 174, 211, 103, 17, 204, 158, 135, 117, 20, 107, 151, 162, 84, 53, 149, 92, 224, 96, 39, 123, 154, 57, 177, 156, 214, 213, 67, 245, 174, 166, 138, 230, 217, 152, 42, 145, 20, 85, 115, 170, 42, 224, 99, 14, 239, 194, 129, 105, 170, 94, 210, 201, 182, 160, 19, 23, 196, 207, 46, 125, 163, 147, 193, 56, 161, 214, 14, 67, 130, 177, 160, 221, 171, 173, 74, 26, 235, 47, 149, 62, 195, 171, 226, 161, 227, 60, 206, 163, 93, 188, 23, 238, 20, 233, 252, 206, 210, 123, 43, 130, 205, 1, 1, 47, 147, 94, 88, 75, 222, 31, 224, 41, 65, 207, 78, 75, 231, 46, 171, 224, 30, 27, 227, 59, 210, 64, 216, 224, 199, 66, 74, 172, 137, 51, 194, 147, 8, 180, 100, 148, 30, 4, 237, 60, 133, 18, 36, 193, 196, 176, 65, 109, 198, 170, 194, 98, 35, 94, 221, 237, 7, 8, 72, 245, 109, 139, 250, 18, 208, 185, 236, 78, 195, 220, 111, 151, 98, 140, 84, 52, 31, 70, 238, 3, 68, 150, 145, 110, 187, 38, 160, 44, 225, 33, 61, 156, 248, 104, 96, 153, 171, 126, 254, 215, 89, 35, 16, 226, 94, 225, 212, 168, 157, 114, 155, 139, 19, 69, 166, 45, 108, 187, 79, 106, 201, 113, 80, 217, 222, 16, 210, 30, 10, 237, 252, 183, 58, 89, 251, 39, 91, 110, 208, 82, 6, 235]
set_option maxRecDepth 100000 in
theorem T02_eq : eqN ((List.range' 34 17).flatMap (topN 0)) T02 = true := by kernel_rfl
def T03 : List Nat := [212, 149, 231, 87, 218, 240, 159, 32, 82, 139, 127, 134, 253, 159, 223, 111, 48, 151, 157, 86, 209, 62, 97, 170, 226, 124, 112, 196, 127, 155, 223, 213, 135, 193, 133, 51, 135, 134, 204, 240, 3, 15, 3, 138, 46, 214, 120, 165, 77, 2, 142, 126, 254, 133, 20, 237, 102, 31, 151, 216, 160, 124, 86, 17, 26, 94, 116, 39, 231, 203, 242, 43, 149, 52, 222, 110, 214, 221, 130, 196, 216, 161, 163, 33, 114, 158, 18, 55, 166, 98, 188, 189, 255, 182, 10, 237, 157, 232, 135, 157, 212, 21, 44, 53, 56, 196, 99, 88, 213, 34, 121, 184, 14, 241, 53, 246, 228, 167, 30, 82, 142, 221, 227, 195, 8, 144, 145, 217, 122, 250, 93, 170, 207, 50, 23, 129, 227, 195, 253, 185, 210, 129, 4, 91, 9, 56, 45, 147, 83, 61, 243, 83, 224, 98, 179, 25, 216, 252, 146, 196, 191, 249, 112, 226, 30, 41, 45, 151, 217, 42, 142, 206, 247, 89, 75, 98, 177, 184, 124, 62, 163, 52, 4, 191, 20, 41, 255, 142, 239, 154, 113, 215, 103, 229, 225, 74, 176, 118, 119, 134, 33, 71, 240, 241, 228, 82, 185, 89, 5, 136, 170, 69, 59, 35, 120, 154, 124, 89, 168, 236, 106, 161, 81, 229, 13, 90, 78, 200, 218, 5, 131, 89, 14, 74, 57, 13, 102, 50, 49, 2, 93, 191, 71, 205, 188, 60, 84, 115, 250, 192, 213, 153, 191, 18, 127, 191, 255, 60, 123, 251, 233, 100, 188, 101, 188, 232, 179, 57, 131, 27, 71, 147]
set_option maxRecDepth 100000 in
theorem T03_eq : eqN ((List.range' 51 17).flatMap (topN 0)) T03 = true := by kernel_rfl
def T10 : List Nat := [158, 153, 210, 232, 189, 74, 215, 22, 53, 136, 124, 25, 77, 182, 234, 135, 17, 58, 95, 171, 140, 251, 183, 12, 186, 14, 137, 36, 202, 254, 156, 87, 26, 191, 40, 226, 184, 81, 96, 104, 172, 40, 97, 4, 246, 194, 57, 236, 209, 92, 207, 219, 57, 201, 34, 225, 80, 177, 228, 71, 75, 169, 141, 255, 73, 47, 130, 194, 33, 152, 210, 40, 211, 34, 242, 66, 59, 213, 7, 84, 241, 204, 103, 119, 109, 52, 230, 250, 30, 168, 218, 53, 20, 44, 60, 202, 174, 65, 111, 87, 220, 112, 202, 155, 33, 79, 219, 138, 48, 18, 215, 210, 228, 204, 199, 210, 5, 207, 116, 25, 70, 98, 96, 99, 104, 118, 56, 121, 194, 30, 238, 79, 231, 90, 235, 243, 109, 147, 181, 180, 172, 232, 28, 94, 161, 253, 226, 100, 236, 4, 217, 238, 251, 54, 6, 35, 156, 239, 80, 229, 97, 178, 106, 179, 45, 164, 150, 192, 75, 126, 88, 152, 117, 213, 115, 92, 147, 60, 243, 14, 199, 176, 15, 66, 237, 173, 24, 234, 3, 184, 1, 123, 75, 68, 38, 112, 184, 193, 73, 174, 139, 179, 182, 30, 36, 5, 109, 215, 39, 201, 4, 116, 154, 85, 38, 147, 81, 136, 228, 98, 176, 186, 250, 215, 78, 184, 196, 143, 162, 25, 121, 46, 87, 95, 205, 221, 150, 178, 198, 16, 141, 212, 167, 171, 58, 79, 176, 221, 77, 36, 53, 113, 87, 128, 43, 151, 36, 170, 32, 4, 82, 195, 104, 226, 64, 16, 64, 207, 213, 36, 107, 137]
set_option maxRecDepth 100000 in
theorem T10_eq : eqN ((List.range' 0 17).flatMap (topN 1)) T10 = true := by kernel_rfl
def T11 : List Nat := [191, 107, 241, 2, 75, 147, 24, 199, 36, 72, 195, 203, 1, 187, 215, 221, 165, 128, 48, 126, 80, 64, 153, 58, 179, 217, 37, 80, 205, 124, 217, 138, 243, 106, 183, 120, 114, 156, 83, 131, 247, 178, 165, 239, 86, 219, 149, 154, 203, 170, 144, 131, 54, 125, 95, 231, 21, 1, 254, 182, 244, 96, 229, 202, 129, 108, 18, 25, 34, 162, 118, 207, 213, 98, 156, 199, 94, 103, 211, 61, 213, 81, 171, 44, 140, 26, 155, 5, 90, 61, 188, 255, 18, 29, 219, 185, 28, 214, 97, 200, 158, 129, 228, 223, 148, 105, 24, 55, 82, 62, 95, 222, 202, 205, 57, 194, 110, 166, 11, 114, 33, 211, 219, 70, 84, 221, 158, 213, 32, 96, 111, 1, 247, 109, 164, 76, 130, 89, 202, 182, 181, 247, 100, 191, 221, 241, 101, 30, 140, 4, 12, 84, 214, 48, 242, 184, 239, 136, 117, 180, 62, 147, 179, 246, 29, 119, 163, 175, 214, 242, 65, 125, 171, 139, 160, 238, 179, 94, 98, 82, 104, 58, 125, 121, 92, 42, 195, 62, 121, 221, 100, 161, 200, 243, 63, 60, 121, 136, 51, 233, 87, 251, 162, 105, 154, 203, 16, 36, 112, 192, 198, 144, 189, 212, 116, 217, 173, 234, 192, 174, 130, 36, 36, 126, 153, 140, 9, 85, 62, 0, 152, 97, 67, 82, 228, 87, 246, 221, 146, 246, 99, 208, 126, 17, 114, 211, 190, 15, 170, 178, 58, 198, 40, 25, 235, 190, 136, 246, 127, 24, 157, 206, 249, 253, 196, 17, 210, 73, 61, 195, 50, 168]
set_option maxRecDepth 100000 in
theorem T11_eq : eqN ((List.range' 17 17).flatMap (topN 1)) T11 = true := by kernel_rfl
def T12 : List Nat := [17, 8, 117, 32, 183, 8, 243, 60, 138, 60, 232, 250, 248, 150, 168, 171, 132, 157, 249, 172, 231, 132, 40, 191, 212, 0, 221, 132, 33, 206, 232, 250, 89, 75, 16, 210, 203, 36, 226, 250, 23, 136, 180, 1, 15, 35, 254, 203, 230, 195, 150, 223, 176, 38, 53, 72, 169, 24, 128, 167, 70, 8, 91, 79, 171, 247, 130, 11, 57, 62, 236, 43, 72, 45, 175, 157, 121, 49, 99, 57, 246, 153, 155, 18, 9, 208, 42, 255, 235, 222, 62, 168, 193, 3, 161, 186, 95, 141, 142, 230, 191, 107, 42, 136, 93, 223, 44, 206, 145, 0, 217, 228, 58, 91, 131, 0, 4, 58, 128, 96, 70, 90, 181, 169, 165, 117, 80, 194, 166, 174, 33, 184, 177, 151, 130, 113, 111, 167, 223, 157, 78, 85, 148, 185, 80, 137, 84, 46, 38, 162, 20, 205, 196, 16, 1, 105, 155, 17, 79, 227, 53, 254, 245, 30, 246, 95, 77, 212, 91, 10, 223, 244, 210, 11, 167, 83, 20, 184, 114, 42, 235, 233, 54, 85, 130, 142, 78, 152, 224, 54, 103, 96, 170, 205, 91, 186, 34, 87, 35, 164, 25, 42, 76, 182, 10, 101, 79, 102, 247, 150, 221, 128, 56, 43, 170, 80, 101, 227, 80, 174, 105, 164, 192, 17, 108, 239, 73, 230, 13, 140, 1, 153, 66, 215, 43, 220, 104, 175, 38, 196, 229, 190, 224, 169, 190, 102, 100, 243, 78, 155, 230, 110, 15, 69, 10, 67, 26, 111, 38, 95, 16, 144, 163, 131, 17, 128, 83, 137, 194, 255, 77, 159]
set_option maxRecDepth 100000 in
theorem T12_eq : eqN ((List.range' 34 17).flatMap (topN 1)) T12 = true := by kernel_rfl
def T13 : List Nat := [190, 64, 228, 186, 211, 240, 132, 126, 191, 118, 175, 76, 244, 95, 79, 245, 198, 239, 28, 100, 177, 212, 24, 97, 40, 140, 143, 133, 43, 93, 158, 140, 224, 19, 182, 60, 89, 198, 22, 63, 14, 118, 139, 21, 66, 219, 42, 201, 55, 45, 50, 78, 151, 81, 71, 72, 211, 156, 17, 144, 207, 43, 147, 112, 242, 119, 84, 90, 64, 208, 161, 99, 198, 218, 147, 16, 236, 68, 122, 42, 136, 171, 1, 34, 87, 20, 198, 79, 224, 192, 5, 163, 32, 89, 190, 237, 0, 226, 230, 13, 191, 210, 229, 145, 35, 202, 160, 24, 178, 252, 74, 221, 1, 201, 34, 181, 244, 231, 190, 213, 102, 240, 73, 97, 244, 187, 175, 171, 211, 38, 240, 155, 6, 224, 159, 190, 212, 171, 183, 114, 212, 14, 112, 82, 96, 212, 45, 115, 233, 175, 179, 220, 69, 30, 215, 65, 44, 194, 186, 119, 184, 49, 198, 19, 173, 154, 233, 0, 1, 204, 165, 127, 171, 208, 117, 230, 29, 32, 65, 36, 197, 37, 34, 194, 132, 197, 245, 154, 164, 229, 124, 193, 127, 5, 184, 203, 177, 92, 137, 28, 163, 16, 17, 89, 229, 86, 159, 247, 217, 160, 157, 165, 242, 115, 88, 69, 63, 167, 2, 169, 99, 2, 65, 157, 107, 44, 96, 151, 252, 122, 8, 203, 64, 178, 1, 250, 138, 119, 192, 229, 247, 203, 127, 139, 138, 88, 87, 39, 191, 173, 138, 151, 218, 178, 85, 96, 121, 121, 52, 254, 30, 181, 206, 131, 40, 138, 125, 81, 4, 227, 0, 236]
set_option maxRecDepth 100000 in
theorem T13_eq : eqN ((List.range' 51 17).flatMap (topN 1)) T13 = true := by kernel_rfl
def DM : List Nat := [3, 3, 2, 1, 3, 1, 0, 0, 3, 3, 2, 1, 0, 0, 3, 2, 0, 0, 3, 0, 2, 2, 1, 2, 1, 2, 1, 0, 0, 1, 2, 1, 3, 2, 3, 0, 1, 1, 1, 0, 1, 3, 0, 1, 0, 0, 1, 2, 0, 2, 2, 2, 2, 3, 0, 2, 1, 2, 1, 2, 1, 2, 3, 3, 1, 2, 1, 0]
def DN : List Nat := [2, 0, 0, 2, 3, 3, 3, 0, 0, 0, 0, 0, 3, 3, 0, 3, 2, 1, 0, 2, 2, 0, 0, 0, 3, 0, 0, 3, 0, 0, 0, 3, 3, 3, 2, 2, 0, 0, 1, 1, 2, 2, 0, 2, 3, 3, 3, 1, 0, 2, 0, 2, 2, 0, 1, 1, 2, 1, 3, 1, 3, 2, 3, 1, 1, 2, 1, 2]
def EX0 : List Nat := [204, 228, 84, 47, 136, 145, 10, 8, 234, 111, 41, 165, 107, 203, 84, 115, 112, 154, 57, 97, 27, 151, 6, 202, 100, 94, 70, 50, 245, 88, 91, 6, 248, 231, 30, 234, 52, 231, 193, 90, 110, 59, 32, 138, 86, 23, 202, 206, 176, 39, 220, 35, 61, 85, 28, 160, 245, 44, 88, 172, 2, 214, 240, 161, 73, 47, 130, 194, 33, 152, 210, 40, 211, 34, 242, 66, 59, 213, 7, 84, 45, 201, 161, 190, 97, 239, 85, 211, 242, 95, 193, 135, 2, 200, 37, 114, 123, 88, 20, 223, 5, 68, 15, 107, 91, 96, 240, 177, 220, 167, 168, 252, 228, 204, 199, 210, 5, 207, 116, 25, 70, 98, 96, 99, 104, 118, 56, 121, 199, 225, 230, 236, 129, 160, 88, 250, 177, 182, 122, 174, 230, 223, 197, 141, 157, 139, 234, 217, 169, 197, 255, 75, 254, 129, 209, 181, 10, 250, 24, 133, 52, 232, 213, 3, 173, 142, 139, 5, 91, 198, 29, 127, 128, 114, 210, 156, 252, 233, 105, 18, 42, 227, 219, 118, 175, 235, 102, 160, 37, 100, 134, 236, 162, 176, 233, 7, 113, 188, 127, 250, 9, 249, 236, 77, 136, 184, 56, 65, 124, 23, 164, 94, 255, 84, 216, 146, 145, 39, 30, 49, 47, 160, 15, 125, 30, 50, 251, 39, 20, 129, 35, 115, 164, 232, 83, 82, 138, 210, 135, 134, 104, 160, 119, 214, 247, 137, 214, 93, 192, 20, 214, 217, 155, 115, 119, 245, 32, 219, 46, 188, 159, 75, 33, 139, 223, 105, 48, 132, 42, 12, 55, 153]
set_option maxRecDepth 100000 in
theorem EX0_eq : eqN ((List.range' 0 17).flatMap (endN DM DN)) EX0 = true := by kernel_rfl
def EX1 : List Nat := [9, 95, 228, 164, 22, 150, 25, 158, 131, 29, 46, 114, 73, 3, 170, 157, 117, 154, 206, 198, 2, 239, 167, 6, 238, 220, 106, 165, 50, 3, 220, 50, 130, 243, 224, 179, 228, 15, 205, 51, 32, 139, 112, 4, 53, 69, 249, 109, 203, 170, 144, 131, 54, 125, 95, 231, 21, 1, 254, 182, 244, 96, 229, 202, 126, 90, 170, 166, 112, 62, 151, 213, 120, 174, 130, 6, 7, 213, 227, 180, 140, 188, 136, 234, 127, 96, 77, 242, 215, 219, 71, 202, 154, 189, 249, 161, 153, 190, 216, 30, 94, 248, 192, 153, 81, 5, 198, 72, 221, 223, 215, 181, 177, 96, 247, 166, 22, 135, 243, 12, 193, 100, 55, 153, 145, 170, 221, 184, 8, 176, 140, 145, 255, 9, 57, 5, 193, 218, 213, 177, 148, 153, 211, 146, 224, 94, 168, 69, 127, 49, 131, 190, 40, 19, 179, 74, 251, 39, 24, 162, 5, 90, 66, 123, 96, 59, 9, 235, 89, 13, 114, 212, 103, 123, 94, 217, 179, 94, 98, 82, 104, 58, 125, 121, 92, 42, 195, 62, 121, 221, 100, 161, 47, 223, 27, 85, 90, 252, 241, 69, 86, 5, 176, 243, 114, 30, 110, 109, 188, 226, 156, 58, 106, 25, 82, 13, 228, 177, 186, 9, 4, 82, 11, 0, 248, 64, 142, 139, 160, 148, 62, 81, 157, 221, 203, 108, 115, 209, 109, 9, 99, 208, 126, 17, 114, 211, 190, 15, 170, 178, 58, 198, 40, 25, 235, 190, 176, 175, 2, 75, 89, 2, 155, 22, 237, 68, 208, 126, 102, 220, 78, 109]
set_option maxRecDepth 100000 in
theorem EX1_eq : eqN ((List.range' 17 17).flatMap (endN DM DN)) EX1 = true := by kernel_rfl
def EX2 : List Nat := [185, 219, 138, 83, 49, 135, 143, 69, 107, 138, 6, 157, 128, 236, 21, 235, 66, 164, 79, 250, 22, 145, 175, 91, 204, 222, 57, 8, 144, 106, 136, 195, 13, 218, 85, 74, 216, 131, 160, 130, 79, 237, 8, 37, 211, 219, 9, 168, 195, 14, 218, 150, 103, 157, 150, 105, 121, 151, 24, 47, 4, 221, 119, 3, 171, 247, 130, 11, 57, 62, 236, 43, 72, 45, 175, 157, 121, 49, 99, 57, 240, 192, 235, 47, 196, 82, 8, 191, 9, 231, 102, 234, 229, 93, 53, 98, 54, 254, 133, 219, 5, 151, 80, 95, 211, 30, 88, 96, 101, 26, 188, 183, 92, 216, 60, 214, 131, 210, 31, 31, 59, 108, 113, 207, 117, 197, 220, 180, 166, 174, 33, 184, 177, 151, 130, 113, 111, 167, 223, 157, 78, 85, 148, 185, 29, 113, 173, 28, 221, 37, 90, 17, 121, 140, 184, 184, 240, 188, 112, 128, 216, 217, 167, 180, 200, 193, 106, 79, 131, 49, 47, 147, 136, 250, 85, 36, 196, 37, 28, 88, 77, 186, 243, 107, 112, 169, 134, 163, 163, 85, 243, 205, 184, 134, 4, 120, 76, 161, 48, 160, 31, 40, 199, 146, 111, 248, 118, 82, 113, 0, 214, 186, 197, 188, 227, 107, 162, 157, 133, 55, 91, 168, 10, 113, 108, 239, 73, 230, 13, 140, 1, 153, 66, 215, 43, 220, 104, 175, 38, 196, 229, 190, 224, 169, 190, 102, 100, 243, 78, 155, 230, 110, 15, 69, 10, 67, 187, 216, 147, 151, 134, 229, 68, 212, 190, 120, 117, 6, 120, 228, 208, 133]
set_option maxRecDepth 100000 in
theorem EX2_eq : eqN ((List.range' 34 17).flatMap (endN DM DN)) EX2 = true := by kernel_rfl
def EX3 : List Nat := [190, 64, 228, 186, 211, 240, 132, 126, 191, 118, 175, 76, 244, 95, 79, 245, 198, 239, 28, 100, 177, 212, 24, 97, 40, 140, 143, 133, 43, 93, 158, 140, 117, 117, 139, 120, 66, 8, 21, 82, 112, 244, 197, 35, 19, 18, 219, 246, 199, 209, 103, 32, 214, 42, 75, 60, 2, 248, 233, 140, 252, 126, 66, 151, 153, 227, 243, 159, 193, 200, 64, 173, 255, 255, 141, 189, 186, 84, 170, 123, 25, 94, 177, 238, 249, 13, 149, 30, 189, 41, 57, 216, 163, 150, 144, 229, 217, 168, 198, 85, 73, 98, 65, 39, 161, 240, 229, 154, 12, 113, 222, 215, 10, 60, 132, 117, 138, 229, 27, 40, 44, 207, 240, 85, 204, 166, 211, 116, 108, 235, 149, 94, 33, 22, 116, 25, 159, 254, 87, 232, 75, 5, 237, 141, 91, 79, 18, 176, 89, 94, 107, 50, 51, 216, 252, 197, 223, 8, 73, 170, 184, 49, 198, 19, 173, 154, 233, 0, 1, 204, 165, 127, 171, 208, 117, 230, 29, 32, 65, 36, 197, 37, 34, 194, 132, 197, 245, 154, 164, 229, 124, 193, 16, 139, 85, 157, 98, 23, 221, 110, 113, 61, 113, 124, 166, 48, 52, 63, 217, 160, 157, 165, 242, 115, 88, 69, 63, 167, 2, 169, 99, 2, 65, 157, 107, 44, 96, 151, 252, 122, 8, 203, 64, 178, 1, 250, 138, 119, 192, 229, 247, 203, 127, 139, 138, 88, 87, 39, 191, 173, 138, 151, 218, 178, 85, 96, 127, 135, 228, 195, 106, 11, 250, 242, 128, 181, 243, 195, 77, 92, 62, 248]
set_option maxRecDepth 100000 in
theorem EX3_eq : eqN ((List.range' 51 17).flatMap (endN DM DN)) EX3 = true := by kernel_rfl
/-- four parts -/
theorem four_parts {f : Nat → List Nat} {g : Nat → List UInt8} {A B C D : List Nat} (h : ∀ c, c < 65536 → f c = tn (g c)) (ha : eqN ((List.range' 0 17).flatMap f) A = true) (hb : eqN ((List.range' 17 17).flatMap f) B = true) (hc : eqN ((List.range' 34 17).flatMap f) C = true) (hd : eqN ((List.range' 51 17).flatMap f) D = true) : tn (vals g 68) = A ++ (B ++ (C ++ D)) := by
  have e : vals g 68 = (List.range' 0 17).flatMap g ++ ((List.range' 17 17).flatMap g ++ ((List.range' 34 17).flatMap g ++ (List.range' 51 17).flatMap g)) := by
    unfold vals
    rw [List.range_eq_range', ← List.flatMap_append, ← List.flatMap_append, ← List.flatMap_append]
    rfl
  rw [e, tn_app, tn_app, tn_app, ← flat_eq h 0 17 (by decide), ← flat_eq h 17 17 (by decide), ← flat_eq h 34 17 (by decide), ← flat_eq h 51 17 (by decide), eqN_eq ha, eqN_eq hb, eqN_eq hc, eqN_eq hd]
theorem tops0 : tn (vals (topV seed5 0) 68) = T00 ++ (T01 ++ (T02 ++ T03)) := four_parts (fun c hc => topN_eq (by decide) hc) T00_eq T01_eq T02_eq T03_eq
theorem tops1 : tn (vals (topV seed5 1) 68) = T10 ++ (T11 ++ (T12 ++ T13)) := four_parts (fun c hc => topN_eq (by decide) hc) T10_eq T11_eq T12_eq T13_eq
def L0n : List Nat := [23, 147, 42, 214, 174, 236, 43, 37, 12, 10, 19, 13, 94, 80, 95, 70]
def L1n : List Nat := [157, 115, 118, 135, 142, 193, 98, 105, 34, 15, 91, 44, 35, 38, 196, 164]
def P0n : List Nat := [126, 214, 164, 69, 65, 247, 7, 203, 204, 240, 150, 81, 180, 250, 150, 19]
def LXn : List Nat := [8, 222, 70, 229, 0, 226, 104, 94, 106, 62, 75, 188, 161, 241, 183, 195]
def RXn : List Nat := [168, 201, 101, 241, 240, 117, 65, 131, 96, 41, 115, 62, 238, 177, 51, 37]
def M1n : List Nat := [249, 208, 249, 14, 12, 166, 100, 25, 236, 84, 113, 6, 42, 178, 102, 111]
def N1n : List Nat := [130, 252, 0, 243, 146, 128, 195, 3, 250, 5, 162, 253, 34, 133, 157, 237]
def M0n : List Nat := [103, 10, 102, 124, 63, 183, 159, 17, 23, 109, 93, 91, 249, 111, 131, 95]
set_option maxRecDepth 100000 in
theorem l0n_eq : eqN (digN 9 [digN 11 [T00 ++ (T01 ++ (T02 ++ T03))]]) L0n = true := by kernel_rfl
set_option maxRecDepth 100000 in
theorem l1n_eq : eqN (digN 9 [digN 11 [T10 ++ (T11 ++ (T12 ++ T13))]]) L1n = true := by kernel_rfl
set_option maxRecDepth 100000 in
theorem lxn_eq : eqN (digN 9 [digN 11 [EX0 ++ (EX1 ++ (EX2 ++ EX3))]]) LXn = true := by kernel_rfl
theorem p0n_eq : eqN (digN 10 [L0n, L1n]) P0n = true := by kernel_rfl
theorem rxn_eq : eqN (digN 10 [L0n, LXn]) RXn = true := by kernel_rfl
theorem m1n_eq : eqN (digN 12 [P0n, [129, 1], [109]]) M1n = true := by kernel_rfl
theorem n1n_eq : eqN (digN 12 [P0n, [129, 1], [110]]) N1n = true := by kernel_rfl
theorem m0n_eq : eqN (digN 12 [P0n, [128], [109]]) M0n = true := by kernel_rfl
end Go.Proofs.YtajglgkjpagcjaaDoor.Pu
namespace Go.Proofs.YtajglgkjpagcjaaDoor.Lb
open Go Go.RowKit Go.Lib
theorem gb_below {w w' : World} {b : Option Nat} (h : Below w.heap.size w w') : w.grownBy w' b := ⟨h.os, h.tape, h.output, h.size, fun k hk _ => h.block k hk⟩
theorem gb_trans {a b c : World} {row : Option Nat} (h : a.grownBy b row) (k : b.grownBy c row) : a.grownBy c row := World.grownBy.trans h k
theorem gb_drew {w w' : World} {b : Option Nat} (h : w.grownBy w' b) : w.drew.grownBy w' b := ⟨h.os, h.tape, h.output, h.size, h.block⟩
theorem Blk.grown {w w' : World} {B : Nat} {t : TypeId} {cs : List Value} {b : Option Nat} (h : Blk w B t cs) (hg : w.grownBy w' b) (hne : some B ≠ b) : Blk w' B t cs := by
  unfold Blk; rw [hg.block B h.lt hne]; exact h
/-- the row of v lies in its old block or in a new one -/
def Stayed (w : World) (v v' : Value) : Prop := v'.ownBlock = v.ownBlock ∨ ∃ k, v'.ownBlock = some k ∧ w.heap.size ≤ k
theorem Stayed.ne {w : World} {v v' : Value} (h : Stayed w v v') {B : Nat} (hne : some B ≠ v.ownBlock) (hB : B < w.heap.size) : some B ≠ v'.ownBlock := by
  rcases h with h | ⟨k, h, hk⟩ <;> rw [h]
  · exact hne
  · intro e; cases e; omega
theorem run_append_rd_at {P : Program} {w : World} (base : Nat) (t ty e : TypeId) (z : Value) (s bytes : Nat) (ht : P.underlying t = some (.slice e)) (hinfo : (P.info? e).map (fun i => (i.zero, i.size, i.bytes)) = some (some z, s, bytes)) (hzs : z.cells.size = s) (hs0 : 0 < s)
    {v : Value} {n : Nat} {xs : List Value} (hown : w.ownsRow base e s v n xs) {v2 : Value} {m : Nat} {ys : List Value} (hv : Rd w s v2 m ys) (h1 : ∀ u ∈ ys, u.oneCell' = true)
    (h63 : n + m ≤ maxLen) (hbytes : (n + m) * bytes ≤ 140737488355328) (hbase : base ≤ w.heap.size) :
    ∃ v' w', (Builtin.append_ #[t, t] ty #[v, v2]).run P w = .ok v' w' ∧ w'.ownsRow base e s v' (n + m) (xs ++ ys) ∧ w.grownBy w' v.ownBlock ∧ Stayed w v v' := by
  obtain ⟨i, hi, hz, hsz, hby⟩ := info_parts hinfo
  obtain ⟨hl, ad, cap, rfl, g1, g2, g3, g4⟩ := hv
  cases ad with
  | some ad =>
    obtain ⟨v', w', h1, h2, h3, _, h5⟩ := run_append_own_at (P := P) w base t ty e i z s bytes ht hi hz hsz hby hzs hs0 v n xs hown ad m cap ys hl (fun j u hu => by
      obtain ⟨b, of, hab, hc⟩ := g4 j u hu
      obtain rfl := Option.some.inj hab
      rw [Addr.add_lit]; exact hc) h1 h63 hbytes hbase
    exact ⟨v', w', h1, h2, h3, h5.imp id fun h => ⟨_, h, Nat.le_refl _⟩⟩
  | none =>
    have hc0 : cap = 0 := g3 rfl
    subst hc0
    have hm : m = 0 := by omega
    subst hm
    have hy : ys = [] := List.eq_nil_of_length_eq_zero (by simpa using hl)
    subst hy
    have hrun := run_append_owned_none (P := P) w base t ty e i s ht hi v n xs hown
    exact ⟨v, w, hrun, by simpa using hown, World.grownBy.refl _ _, .inl rfl⟩
section
variable {P : Program} {ops : Array Oper} {Q : Exit → Act → World → Prop} {a : Act} {w : World} {rest : List Oper} {o : Oper}
theorem wpList_append_at (x y : Operand) (t : TypeId) (ho : o.op = .call { callee := .builtin .append, args := #[x, y], argTypes := #[t, t] }) (hw : Region.wanted o (yielded ops a.tmps) = true)
    {e : TypeId} {z : Value} {s bytes : Nat} (ht : P.underlying t = some (.slice e)) (hinfo : (P.info? e).map (fun i => (i.zero, i.size, i.bytes)) = some (some z, s, bytes)) (hzs : z.cells.size = s) (hs0 : 0 < s)
    {v : Value} {n : Nat} {xs : List Value} {base : Nat} (hx : a.eval x = v) (hown : w.ownsRow base e s v n xs) {v2 : Value} {m : Nat} {ys : List Value} (hy : a.eval y = v2) (hv : Rd w s v2 m ys) (h1 : ∀ u ∈ ys, u.oneCell' = true)
    (h63 : n + m ≤ maxLen) (hbytes : (n + m) * bytes ≤ 140737488355328) (hbase : base ≤ w.heap.size)
    (h : ∀ v' w', w'.ownsRow base e s v' (n + m) (xs ++ ys) → w.grownBy w' v.ownBlock → Stayed w v v' → wpList P ops Q rest (a.put o.dst v') w') : wpList P ops Q (o :: rest) a w := by
  obtain ⟨v', w', hr, ho', hg, hst⟩ := run_append_rd_at (P := P) base t o.type e z s bytes ht hinfo hzs hs0 hown hv h1 h63 hbytes hbase
  refine wpList_of_run hw (v := v') (w' := w') ?_ (h v' w' ho' hg hst)
  unfold execOp
  simp only [ho, resolve, invoke, builtin, Sem.run_bind, Sem.run_pure, Result.andThen_ok, List.map_toArray, List.map_cons, List.map_nil, hx, hy, hr]
/-- 'append(x, u)': the one element lies in a block of its own -/
theorem wpList_append_one_at (x y : Operand) (t : TypeId) (ho : o.op = .call { callee := .builtin .append, args := #[x, y], argTypes := #[t, t] }) {u : Value} {e : TypeId} (hw : Region.wanted o (yielded ops a.tmps) = true)
    {z : Value} {bytes : Nat} (ht : P.underlying t = some (.slice e)) (hinfo : (P.info? e).map (fun i => (i.zero, i.size, i.bytes)) = some (some z, 1, bytes)) (hzs : z.cells.size = 1)
    {v : Value} {n : Nat} {xs : List Value} {base : Nat} (hx : a.eval x = v) (hown : w.ownsRow base e 1 v n xs) (hy : a.eval y = .slice (some ⟨w.heap.size, 0, none⟩) 1 1) (h1 : u.oneCell' = true)
    (h63 : n + 1 ≤ maxLen) (hbytes : (n + 1) * bytes ≤ 140737488355328) (hbase : base ≤ w.heap.size)
    (h : ∀ v' w', w'.ownsRow base e 1 v' (n + 1) (xs ++ [u]) → w.grownBy w' v.ownBlock → Stayed w v v' → wpList P ops Q rest (a.put o.dst v') w') : wpList P ops Q (o :: rest) a (w.alloc (.cells #[u] e)) := by
  have hrd : Rd (w.alloc (.cells #[u] e)) 1 (.slice (some ⟨w.heap.size, 0, none⟩) 1 1) 1 [u] := by
    refine ⟨rfl, _, _, rfl, Nat.le_refl _, (by unfold maxLen; omega), (fun h => by cases h), fun j u' hu => ⟨_, 0, rfl, ?_⟩⟩
    rw [Nat.zero_add, World.cell?_alloc_new]
    simpa using hu
  refine wpList_append_at x y t ho hw ht hinfo hzs (by omega) hx (hown.alloc _) hy hrd (by intro u' hu'; simp at hu'; subst hu'; exact h1) h63 hbytes (by simp; omega) fun v' w' ho' hg hst => h v' w' ho' ((World.grownBy_alloc _ _ _).trans hg) ?_
  exact hst.imp id fun ⟨k, h1, h2⟩ => ⟨k, h1, by simp at h2; omega⟩

/-- '[]T{x, y, ..}', elements of one cell, with its place -/
theorem wpList_build_at {t : TypeId} {n : Nat} {parts : Array (Nat × Operand)} (ho : o.op = .buildSlice t n parts) (hw : Region.wanted o (yielded ops a.tmps) = true) {e : TypeId} (ht : P.underlying t = some (.slice e)) {z : Value} {bytes : Nat} (hinfo : (P.info? e).map (fun i => (i.zero, i.size, i.bytes)) = some (some z, 1, bytes))
    (hidx : parts.toList.map (·.1) = List.range' 0 n) (hn0 : 0 < n) (hn1 : n ≤ 100000) {cs : List Value} (hcs : parts.toList.map (fun p => a.eval p.2) = cs) (h1 : ∀ u ∈ cs, u.oneCell' = true)
    (h : ∀ w', Blk w' w.heap.size e cs → Below w.heap.size w w' → w'.heap.size = w.heap.size + 1 → wpList P ops Q rest (a.put o.dst (.slice (some ⟨w.heap.size, 0, none⟩) n n)) w') : wpList P ops Q (o :: rest) a w := by
  obtain ⟨i, hi, hz, hsz, hby⟩ := info_parts hinfo
  have hlen : parts.toList.length = n := by have := congrArg List.length hidx; simpa using this
  have hcl : cs.length = n := by rw [← hcs, List.length_map, hlen]
  have hf : Instr.fill (fun i => some (i * 1, 1)) ((Array.range (n * 1)).map (z.cells[· % z.cells.size]!)) (parts.map fun (i, x) => (i, a.eval x)).toList = some cs.toArray := by
    have hzz : ((Array.range (n * 1)).map (z.cells[· % z.cells.size]!)).size = n := by simp
    obtain ⟨zs, hzs'⟩ : ∃ zs : List Value, ((Array.range (n * 1)).map (z.cells[· % z.cells.size]!)) = zs.toArray := ⟨_, (Array.toArray_toList).symm⟩
    rw [hzs'] at hzz ⊢
    have hmap : (parts.map fun (i, x) => (i, a.eval x)).toList = parts.toList.map fun p => (p.1, a.eval p.2) := by simp
    have h2 : (parts.toList.map fun p => (p.1, a.eval p.2)).map (·.2) = cs := by rw [List.map_map]; exact hcs
    have := fill_full (parts.toList.map fun p => (p.1, a.eval p.2)) 0 [] zs rfl (by simp at hzz; rw [List.length_map, hlen]; omega) (by rw [List.map_map, List.length_map, hlen]; exact hidx) (by
      intro p hp
      refine h1 p.2 ?_
      rw [← h2]
      exact List.mem_map_of_mem hp)
    rw [hmap]
    simpa [h2] using this
  refine wpList_of_run hw (v := .slice (some ⟨w.heap.size, 0, none⟩) n n) (w' := w.alloc (.cells cs.toArray e)) ?_ (h _ (heap_alloc_new w _) ((Below.refl _ _).alloc (Nat.le_refl _) _) (by simp))
  have h0' : ¬ n = 0 := by omega
  have h24 : ¬ (16777216 < n) := by omega
  unfold execOp
  simp only [ho, Instr.buildSlice, Sem.run_bind, run_underlying ht, Result.andThen_ok]
  simp only [sizeOf, typeInfo]
  simp only [Nat.mul_one, Array.toList_map] at hf
  simp [hsz, h0', h24, zeroValue, typeInfo, hi, hz, newRow]
  simp [hf]
end
end Go.Proofs.YtajglgkjpagcjaaDoor.Lb
namespace Go.Proofs.YtajglgkjpagcjaaDoor.Lb
open Go Go.RowKit
section
variable {P : Program} {ops : Array Oper} {Q : Exit → Act → World → Prop} {a : Act} {w : World} {rest : List Oper} {o : Oper}
/-- append, where it matters that only the row's own block turns -/
theorem wpList_append_grow (x y : Operand) (t : TypeId) (ho : o.op = .call { callee := .builtin .append, args := #[x, y], argTypes := #[t, t] }) (hw : Region.wanted o (yielded ops a.tmps) = true)
    {e : TypeId} {z : Value} {s bytes : Nat} (ht : P.underlying t = some (.slice e)) (hinfo : (P.info? e).map (fun i => (i.zero, i.size, i.bytes)) = some (some z, s, bytes)) (hzs : z.cells.size = s) (hs0 : 0 < s)
    {v : Value} {n : Nat} {xs : List Value} {base : Nat} (hx : a.eval x = v) (hown : w.ownsRow base e s v n xs) {v2 : Value} {m : Nat} {ys : List Value} (hy : a.eval y = v2) (hv : Rd w s v2 m ys) (h1 : ∀ u ∈ ys, u.oneCell' = true)
    (h63 : n + m ≤ maxLen) (hbytes : (n + m) * bytes ≤ 140737488355328) (hbase : base ≤ w.heap.size)
    (h : ∀ v' w', w'.ownsRow base e s v' (n + m) (xs ++ ys) → w.grownBy w' v.ownBlock → wpList P ops Q rest (a.put o.dst v') w') : wpList P ops Q (o :: rest) a w := by
  obtain ⟨v', w', hr, ho', hg, _⟩ := run_append_rd (P := P) base t o.type e z s bytes ht hinfo hzs hs0 hown hv h1 h63 hbytes hbase
  refine wpList_of_run hw (v := v') (w' := w') ?_ (h v' w' ho' hg)
  unfold execOp
  simp only [ho, resolve, invoke, builtin, Sem.run_bind, Sem.run_pure, Result.andThen_ok, List.map_toArray, List.map_cons, List.map_nil, hx, hy, hr]
end
end Go.Proofs.YtajglgkjpagcjaaDoor.Lb
namespace Go.Proofs.YtajglgkjpagcjaaDoor.Wi
open Go Go.RowKit Pu Lb
set_option linter.unusedSimpArgs false
set_option linter.unusedVariables false

/-- the builder in block b holds the bytes l -/
def Bd (w : World) (b : Nat) (l : List UInt8) : Prop := Lib.IsBuilder 54 5 b b (bv l) w
theorem bAt_below {w w' : World} {B b : Nat} {p : Value} {bs : List Value} {T e : TypeId} (h : Lib.BuilderAt T e B b p bs w) (hb : Below w.heap.size w w') : Lib.BuilderAt T e B b p bs w' := by
  have hlt := h.lt
  obtain ⟨h1, v, h2, h3, h4⟩ := h
  exact ⟨h1, v, by rw [hb.block b hlt]; exact h2, own_below h3 hb, h4⟩
theorem Bd.below {w w' : World} {b : Nat} {l : List UInt8} (h : Bd w b l) (hb : Below w.heap.size w w') : Bd w' b l := by
  rcases h with h | h
  · exact .inl (bAt_below h hb)
  · exact .inr (bAt_below h hb)
theorem Bd.lt {w : World} {b : Nat} {l : List UInt8} (h : Bd w b l) : b < w.heap.size := by
  rcases h with h | h <;> exact h.lt
theorem Bd.drewN {w : World} {b : Nat} {l : List UInt8} (h : Bd w b l) (n : Nat) : Bd (w.drewN n) b l := h
theorem bd_fresh (w : World) (w' : World) (h : w'.heap[w.heap.size]? = some (.cells #[.pointer none, .slice none 0 0] 54 (0, 0))) : Bd w' w.heap.size [] :=
  .inl ⟨Nat.le_refl _, .slice none 0 0, h, World.ownsRow_nil _ _ _ _, by simp [Value.ownBlock]⟩
/-- a write to the builder in block b turns no other block but rows of bytes -/
def BFrame (b : Nat) (w w' : World) : Prop := ∀ k t cs, Blk w k t cs → k ≠ b → t ≠ 5 → Blk w' k t cs
/-- what reads as bytes does not lie in the builder itself -/
theorem rd_set0 {w : World} {b : Nat} {p v : Value} {q : Value} {T : TypeId} (hbk : w.heap[b]? = some (.cells #[p, v] T (0, 0))) (hp : ∀ k z, p ≠ .int k z) (hv : ∀ k z, v ≠ .int k z) {x : Value} {n : Nat} {xs : List UInt8} (h : Rd w 1 x n (bv xs)) : Rd (w.setCell ⟨b, 0, none⟩ q) 1 x n (bv xs) := by
  obtain ⟨hl, a, cap, rfl, h1, h2, h3, h4⟩ := h
  refine ⟨hl, a, cap, rfl, h1, h2, h3, fun j u hu => ?_⟩
  obtain ⟨b', o, rfl, hc⟩ := h4 j u hu
  refine ⟨b', o, rfl, ?_⟩
  have hne : b' ≠ b := by
    rintro rfl
    rw [Lib.cell_of_heap hbk] at hc
    have hu2 : ∃ k z, u = .int k z := by
      unfold bv at hu
      rw [List.getElem?_map] at hu
      cases hx : xs[j]? with
      | none => rw [hx] at hu; cases hu
      | some y => rw [hx] at hu; exact ⟨_, _, (Option.some.inj hu).symm⟩
    obtain ⟨k, z, rfl⟩ := hu2
    rcases hq : o + j with _ | _ | m
    · rw [hq] at hc; simp at hc; exact hp _ _ hc
    · rw [hq] at hc; simp at hc; exact hv _ _ hc
    · rw [hq] at hc; simp at hc
  have hh : (w.setCell ⟨b, 0, none⟩ q).heap[b']? = w.heap[b']? := Below.heap_setCell _ _ _ _ (fun e => hne e)
  unfold World.cell? at hc ⊢
  rw [hh]; exact hc

theorem bi_size : ∃ j, Tryd.prog.info? 54 = some j ∧ j.size = 2 := by
  have h : (Tryd.prog.info? 54).map (·.size) = some 2 := by kernel_rfl
  obtain ⟨j, hj, hs⟩ := Option.map_eq_some_iff.1 h
  exact ⟨j, hj, hs⟩
theorem bi_lies : liesAt Tryd.prog Tryd.prog.depth 54 (2 / Tryd.prog.cellsOf 54) 0 54 1 = true := by kernel_rfl
set_option maxRecDepth 100000 in
theorem bcheck_used (b : Nat) (w : World) (h0 : w.cell? ⟨b, 0, none⟩ = some (.pointer (some ⟨b, 0, none⟩))) :
    Calls Tryd.prog 47 #[.pointer (some ⟨b, 0, none⟩)] w fun e w' => e = .returned (.tuple #[]) ∧ w' = w := by
  obtain ⟨j, hj, _⟩ := bi_size
  go_enter Tryd.func47, Tryd.ntmps47
  go_wp2
  rw [Lib.run_neq_ptr_same w _ Tryd.underlying51 hj]
  go_wp2
  go_end0
  exact ⟨rfl, rfl⟩
set_option maxRecDepth 100000 in
theorem bcheck_fresh (b : Nat) (w : World) (h0 : w.cell? ⟨b, 0, none⟩ = some (.pointer none)) (hsh : w.shape? b = some (54, 2)) (hfz : w.frozen? ⟨b, 0, none⟩ = false) :
    Calls Tryd.prog 47 #[.pointer (some ⟨b, 0, none⟩)] w fun e w' => e = .returned (.tuple #[]) ∧ w' = w.setCell ⟨b, 0, none⟩ (.pointer (some ⟨b, 0, none⟩)) := by
  obtain ⟨j, hj, hjs⟩ := bi_size
  go_enter Tryd.func47, Tryd.ntmps47
  go_wp2
  rw [Lib.run_to_unsafe w ⟨b, 0, none⟩ Tryd.underlying51 Tryd.underlying95 hj (by rw [hjs]; decide) hsh (Nat.zero_lt_succ 1)]
  simp only [Result.andThen]
  rw [Oper.upon_value]
  go_wp2
  rw [run_callFunc_extern Tryd.func59 (by kernel_rfl) (by kernel_rfl) (by kernel_rfl) (e := Extern.AbiNoEscape.same) (by kernel_rfl)]
  rw [Lib.run_noEscape]
  simp only [Result.andThen]
  rw [Oper.upon_value]
  go_wp2
  rw [Lib.run_from_unsafe w ⟨b, 0, none⟩ Tryd.underlying95 Tryd.underlying51 hj hsh bi_lies]
  simp only [Result.andThen]
  rw [Oper.upon_value]
  go_wp2
  go_end0
  exact ⟨rfl, rfl⟩
theorem own_not_int {w : World} {B : Nat} {e : TypeId} {s : Nat} {v : Value} {n : Nat} {xs : List Value} (h : w.ownsRow B e s v n xs) : ∀ k z, v ≠ .int k z := by
  rcases h.2 with ⟨rfl, _⟩ | ⟨g, cap, cur, rfl, _⟩ <;> intro k z h <;> cases h
theorem bcheck_any (b : Nat) (l : List UInt8) (w : World) (h : Bd w b l) :
    Calls Tryd.prog 47 #[.pointer (some ⟨b, 0, none⟩)] w fun e w' => e = .returned (.tuple #[]) ∧ (Lib.BuilderAt 54 5 b b (.pointer (some ⟨b, 0, none⟩)) (bv l) w' ∧ Below b w w') ∧ (∀ x n xs, Rd w 1 x n (bv xs) → Rd w' 1 x n (bv xs)) ∧ BFrame b w w' := by
  rcases h with h | h
  · refine (bcheck_fresh b w h.cell0 h.shape h.frozen0).mono ?_
    rintro e w' ⟨rfl, rfl⟩
    refine ⟨rfl, ⟨h.used _, (Below.refl b w).setCell (p := ⟨b, 0, none⟩) h.1 _⟩, fun x n xs hx => ?_, fun k t cs hk hne _ => (setCell_only b 0 _).blk hk hne⟩
    obtain ⟨_, v, hbk, hown, _⟩ := h
    exact rd_set0 hbk (by intro k z h; cases h) (own_not_int hown) hx
  · refine (bcheck_used b w h.cell0).mono ?_
    rintro e w' ⟨rfl, rfl⟩
    exact ⟨rfl, ⟨h, Below.refl b _⟩, fun x n xs hx => hx, fun k t cs hk _ _ => hk⟩

theorem own_ne_type {w : World} {B : Nat} {e : TypeId} {s : Nat} {v : Value} {n : Nat} {xs : List Value} (h : w.ownsRow B e s v n xs) {k : Nat} {t : TypeId} {cs : List Value} (hk : Blk w k t cs) (ht : t ≠ e) : some k ≠ v.ownBlock := by
  rcases h.2 with ⟨rfl, _⟩ | ⟨g, cap, cur, rfl, _, hg, _⟩
  · simp [Value.ownBlock]
  · simp only [Value.ownBlock]
    intro he
    cases he
    unfold Blk at hk
    rw [hg] at hk
    simp at hk
    exact ht hk.2.symm
set_option maxRecDepth 100000 in
theorem bwrite_any (b : Nat) (l : List UInt8) (x : Value) (n : Nat) (xs : List UInt8) (w : World) (h : Bd w b l) (hx : Rd w 1 x n (bv xs)) (hlen : l.length + n ≤ 140737488351232) :
    Calls Tryd.prog 25 #[.pointer (some ⟨b, 0, none⟩), x] w fun e w' => e = .returned (.tuple #[.int .i64 (n : Int), .nilIface]) ∧ Bd w' b (l ++ xs) ∧ Below b w w' ∧ BFrame b w w' := by
  have hbs := h.lt
  go_enter Tryd.func25, Tryd.ntmps25
  go_wp2_with (go_at_call 47; refine (bcheck_any b l _ h).mono ?_)
  rintro e w1 ⟨rfl, ⟨h1, hb1⟩, hR, hF⟩
  have hx1 := hR _ _ _ hx
  clear hR
  obtain ⟨hB, v, hbk, hown, hne⟩ := h1
  have c0 : w1.cell? ⟨b, 0, none⟩ = some (.pointer (some ⟨b, 0, none⟩)) := by rw [Lib.cell_of_heap hbk]; rfl
  have c1 : w1.cell? ⟨b, 1, none⟩ = some v := by rw [Lib.cell_of_heap hbk]; rfl
  have hs1 := hb1.size
  have hxl := hx1.len
  have hnx : xs.length = n := by have := hx1.1; rw [bv_length] at this; omega
  unfold maxLen at hxl
  have hl := bv_length l
  rw [hl] at hown
  go_wp2_with ((with_reducible refine' wpList_append_grow (base := b) (.tmp 12) (.tmp 13) 52 rfl ?_ Tryd.underlying52 inf_u8 ?_ ?_ ?_ hown ?_ hx1 ?_ ?_ ?_ ?_ ?_); exact rfl; exact rfl; omega; exact rfl; exact rfl; exact bv_one _; (unfold maxLen; omega); omega; omega)
  intro v' w2 hown' hgrow
  have hlt : b < w1.heap.size := by omega
  have hb2 : w2.heap[b]? = some (.cells #[.pointer (some ⟨b, 0, none⟩), v] 54 (0, 0)) := by
    rw [hgrow.block b hlt (fun e => hne e.symm)]
    exact hbk
  have d0 : w2.cell? ⟨b, 0, none⟩ = some (.pointer (some ⟨b, 0, none⟩)) := by rw [Lib.cell_of_heap hb2]; rfl
  have d1 : w2.cell? ⟨b, 1, none⟩ = some v := by rw [Lib.cell_of_heap hb2]; rfl
  have f1 : w2.frozen? ⟨b, 1, none⟩ = false := Lib.frozen_of_heap hb2 1
  have hbb := hb1.grown hgrow (by omega) (fun k hk => (hown.lt k hk).1)
  have hF2 : BFrame b w1 w2 := fun k t cs hk hkb ht => hk.grown hgrow (own_ne_type hown hk ht)
  have HF := Lib.hid hF
  have HF2 := Lib.hid hF2
  have HX := Lib.hid hx1
  clear hx1 hgrow hF hF2
  obtain ⟨ao, n', cap, rfl⟩ : ∃ ao n' cap, v' = .slice ao n' cap := by
    rcases hown'.2 with ⟨hv, _⟩ | ⟨g, cap, cur, hv, _⟩
    · exact ⟨_, _, _, hv⟩
    · exact ⟨_, _, _, hv⟩
  go_wp2_with (((with_reducible refine' wpList_len_rd (.tmp 17) 52 rfl ?_ Tryd.underlying52 ?_ HX.out ?_); exact rfl; exact rfl; simp only [Act.put, List.setIfInBounds_toArray, List.set_cons_succ, List.set_cons_zero]))
  go_ret2
  refine ⟨rfl, .inr ?_, ?_, fun k t cs hk hkb ht => (setCell_only b 1 _).blk (HF2.out k t cs (HF.out k t cs hk hkb ht) hkb ht) hkb⟩
  · exact Lib.BuilderAt.put (T := 54) (e := 5) hB hb2 (bs' := bv (l ++ xs)) (by rw [bv_length, List.length_append, hnx]; unfold bv; rw [List.map_append]; exact hown') (by decide)
  · exact hbb.setCell (p := ⟨b, 1, none⟩) hB _

set_option maxRecDepth 100000 in
theorem bstring_any (b : Nat) (l : List UInt8) (w : World) (h : Bd w b l) (h0 : l ≠ []) :
    Calls Tryd.prog 29 #[.pointer (some ⟨b, 0, none⟩)] w fun e w' => e = .returned (.string ⟨l.toArray⟩) ∧ Below b w w' := by
  obtain ⟨p, hB, v, hbk, hown, hne⟩ : ∃ p, Lib.BuilderAt 54 5 b b p (bv l) w := by
    rcases h with h | h
    · exact ⟨_, h⟩
    · exact ⟨_, h⟩
  have hl0 : l.length ≠ 0 := by simpa using h0
  rw [bv_length] at hown
  obtain ⟨g, cap, cur, rfl, hbg, hg, hnc, hcm, hcs, htake⟩ : ∃ g cap cur, v = .slice (some ⟨g, 0, none⟩) l.length cap ∧ b ≤ g ∧ w.heap[g]? = some (.cells cur 5 (0, 0)) ∧ l.length ≤ cap ∧ cap ≤ maxLen ∧ cur.size = cap * 1 ∧ cur.toList.take (l.length * 1) = bv l := by
    rcases hown.2 with ⟨_, hz⟩ | ⟨g, cap, cur, hv, r⟩
    · exact absurd hz hl0
    · exact ⟨g, cap, cur, hv, r⟩
  have c1 : w.drew.cell? ⟨b, 1, none⟩ = some (.slice (some ⟨g, 0, none⟩) l.length cap) := by
    have : w.drew.heap[b]? = some (.cells #[p, .slice (some ⟨g, 0, none⟩) l.length cap] 54 (0, 0)) := hbk
    rw [Lib.cell_of_heap this]; rfl
  have hSD : (Builtin.unsafeSliceData_ #[52] 79 #[.slice (some ⟨g, 0, none⟩) l.length cap]).run Tryd.prog w.drew = .ok (.pointer (some ⟨g, 0, none⟩)) w.drew :=
    Lib.run_unsafeSliceData_row _ _ _ _ _ _ (by omega)
  have hUS : (Builtin.unsafeString_ #[79, 3] 9 #[.pointer (some ⟨g, 0, none⟩), .int .i64 l.length]).run Tryd.prog w.drew = .ok (.string ⟨l.toArray⟩) (w.drew.freeze ⟨g, 0, none⟩ l.length) := by
    refine Lib.run_unsafeString_row w.drew 79 3 9 5 Tryd.underlying79 (by kernel_rfl) g cur.size (by have hg' : w.drew.heap[g]? = some (.cells cur 5 (0, 0)) := hg; simp [World.shape?, hg']) l h0 (by omega) (by unfold maxLen at hcm; omega) ?_
    intro j x hx
    have := hown.cells (g := g) rfl j (.int .u8 x.toNat) (by simp [bv, hx])
    exact this
  go_enter Tryd.func29, Tryd.ntmps29
  go_wp2
  go_region
  all_goals (go_wp2; go_ret; exact ⟨rfl, Lib.below_freeze (Below.drew (Below.refl b w)) (p := ⟨g, 0, none⟩) hbg _⟩)
end Go.Proofs.YtajglgkjpagcjaaDoor.Wi
namespace Go.Proofs.YtajglgkjpagcjaaDoor.Pu
/-- the first 64 digits -/
def d64 (d : List UInt8) : List Nat := d.flatMap dig4
theorem d64_len {d : List UInt8} (h : d.length = 16) : (d64 d).length = 64 := by unfold d64; rw [dig4_len, h]
theorem flat_at (d : List UInt8) : ∀ (i : Nat) (b : UInt8), d[i / 4]? = some b → (d.flatMap dig4)[i]? = some (b.toNat / 2 ^ (6 - 2 * (i % 4)) % 4) := by
  induction d with
  | nil => intro i b h; simp at h
  | cons c d ih =>
    intro i b h
    rw [List.flatMap_cons]
    have hl : (dig4 c).length = 4 := rfl
    by_cases hi : i < 4
    · rw [show i / 4 = 0 by omega] at h
      simp only [List.getElem?_cons_zero, Option.some.injEq] at h
      subst h
      rw [List.getElem?_append_left (by omega)]
      have hlt := c.toNat_lt
      obtain rfl | rfl | rfl | rfl : i = 0 ∨ i = 1 ∨ i = 2 ∨ i = 3 := by omega
      · show some (c.toNat / 64) = some (c.toNat / 64 % 4); congr 1; omega
      · rfl
      · rfl
      · show some (c.toNat % 4) = some (c.toNat / 1 % 4); congr 1; omega
    · rw [List.getElem?_append_right (by omega), hl]
      rw [show i / 4 = (i - 4) / 4 + 1 by omega, List.getElem?_cons_succ] at h
      rw [ih (i - 4) b h, show (i - 4) % 4 = i % 4 by omega]
theorem d64_at {d : List UInt8} {i : Nat} {b : UInt8} (h : d[i / 4]? = some b) : (d64 d)[i]? = some (b.toNat / 2 ^ (6 - 2 * (i % 4)) % 4) := flat_at d i b h
theorem dsum_snoc (l : List Nat) (x : Nat) : dsum (l ++ [x]) = dsum l + (3 - x) := by simp [dsum]
theorem digs_eq (d : List UInt8) : digs d = d64 d ++ chk (dsum (d64 d)) := rfl
theorem take_succ_some {α : Type} {l : List α} {i : Nat} {x : α} (h : l[i]? = some x) : l.take (i + 1) = l.take i ++ [x] := by
  rw [List.take_add_one, h]; rfl
end Go.Proofs.YtajglgkjpagcjaaDoor.Pu
namespace Go.Proofs.YtajglgkjpagcjaaDoor.Wi
open Go Go.RowKit Pu Lb
set_option linter.unusedSimpArgs false
set_option linter.unusedVariables false
/-- numbers as cells -/
def nv (l : List Nat) : List Value := l.map fun n : Nat => Value.int .i64 (n : Int)
theorem nv_length (l : List Nat) : (nv l).length = l.length := by simp [nv]
theorem nv_at {l : List Nat} {k x : Nat} (h : l[k]? = some x) : (nv l)[k]? = some (.int .i64 (x : Int)) := by simp [nv, h]
theorem nv_append (a b : List Nat) : nv (a ++ b) = nv a ++ nv b := by simp [nv]
theorem nv_iv (l : List Nat) : nv l = iv (l.map fun n : Nat => (n : Int)) := by simp [nv, iv]
theorem zr_i68 : (Tryd.prog.info? 43).map (·.zero) = some (some (.agg (Array.replicate 68 (.int .i64 0)))) := by kernel_rfl
theorem sz_i68 : (Tryd.prog.info? 43).map (·.size) = some 68 := by kernel_rfl
theorem zeros_int (n : Nat) : (Value.agg (Array.replicate n (.int .i64 0))).cells = (List.replicate n (.int .i64 0)).toArray := by simp [Value.cells]
/-- the digits that are there, and zeros -/
def dcells (l : List Nat) (i : Nat) : List Value := nv (l.take i) ++ List.replicate (68 - i) (.int .i64 0)
theorem dcells_len {l : List Nat} {i : Nat} (h : i ≤ l.length) (h2 : i ≤ 68) : (dcells l i).length = 68 := by
  unfold dcells; rw [List.length_append, nv_length, List.length_take, List.length_replicate]; omega
theorem dcells_set {l : List Nat} {i x : Nat} {z : Int} (h : l[i]? = some x) (hi : i < 68) (hz : z = x) : (dcells l i).set i (.int .i64 z) = dcells l (i + 1) := by
  subst hz
  have hil : i < l.length := (List.getElem?_eq_some_iff.1 h).1
  unfold dcells
  rw [fill_step (by rw [nv_length, List.length_take]; omega) hi, take_succ_some h, nv_append]; rfl
theorem dcells_at {l : List Nat} {i x : Nat} (h : l[i]? = some x) : (dcells l (i + 1))[i]? = some (.int .i64 (x : Int)) := by
  have hil : i < l.length := (List.getElem?_eq_some_iff.1 h).1
  unfold dcells
  rw [take_succ_some h, nv_append, List.append_assoc, List.getElem?_append_right (by rw [nv_length, List.length_take]; omega), nv_length, List.length_take, Nat.min_eq_left (by omega), Nat.sub_self]; rfl
/-- the checksum's digits are filled in from the last one on -/
def ccells (l : List Nat) (s j : Nat) : List Value := nv l ++ (List.replicate (4 - j) (.int .i64 0) ++ nv ((chk s).drop (4 - j)))
theorem ccells_len {l : List Nat} (hl : l.length = 64) (s : Nat) {j : Nat} (h : j ≤ 4) : (ccells l s j).length = 68 := by
  unfold ccells
  rw [List.length_append, List.length_append, nv_length, nv_length, List.length_replicate, List.length_drop, hl]
  show 64 + (4 - j + (4 - (4 - j))) = 68; omega
theorem ccells_set {l : List Nat} (hl : l.length = 64) {s j : Nat} (hs : s < 256) (hj : j < 4) {z : Int} (hz : z = ((s / 4 ^ j % 4 : Nat) : Int)) : (ccells l s j).set (67 - j) (.int .i64 z) = ccells l s (j + 1) := by
  subst hz
  unfold ccells
  rw [List.set_append_right _ _ (by rw [nv_length, hl]; omega), nv_length, hl]
  congr 1
  obtain rfl | rfl | rfl | rfl : j = 0 ∨ j = 1 ∨ j = 2 ∨ j = 3 := by omega
  all_goals simp only [chk, nv]
  · show [_, _, _, Value.int .i64 _] = [_, _, _, Value.int .i64 _]; congr 4; simp
  · show [_, _, Value.int .i64 _, _] = [_, _, Value.int .i64 _, _]; congr 3
  · show [_, Value.int .i64 _, _, _] = [_, Value.int .i64 _, _, _]; congr 2
  · show [Value.int .i64 _, _, _, _] = [Value.int .i64 _, _, _, _]; congr 2; simp; omega

set_option maxRecDepth 100000 in
theorem digits_any (d : List UInt8) (w : World) (hd : d.length = 16) :
    Calls Tryd.prog 10 #[.agg (bv d).toArray] w fun e w' => ∃ B, e = .returned (.slice (some ⟨B, 0, none⟩) 68 68) ∧ Blk w' B 43 (nv (digs d)) ∧ Below w.heap.size w w' := by
  have DL := Lib.hid (show (bv d).length = 16 by rw [bv_length, hd])
  have L64 := Lib.hid (d64_len hd)
  have SL := Lib.hid (dsum_le (d64 d))
  go_enter Tryd.func10, Tryd.ntmps10
  go_wp2_with (first | ((with_reducible refine' wpList_boxa (cs := bv d) 23 (.tmp 0) rfl ?_ ?_ ?_); exact rfl; exact rfl; intro w1 hk1 hN1 hz1; simp only [Act.put, List.setIfInBounds_toArray, List.set_cons_succ, List.set_cons_zero]) | (((with_reducible refine' wpList_alloc_blk (cs := List.replicate 68 (.int .i64 0)) 43 rfl ?_ zr_i68 ?_ ?_); exact rfl; exact zeros_int 68; intro w2 hk2 hN2 hz2; simp only [Act.put, List.setIfInBounds_toArray, List.set_cons_succ, List.set_cons_zero])))
  have hb2 := hN1.trans (hN2.mono hN1.size)
  replace hk1 := hk1.below hN2 (by omega)
  have hz : w1.heap.size = w.heap.size + 1 := by omega
  have HZ := Lib.hid hz
  clear hz hz1 hz2 hN1 hN2
  go_loopw [7, 4] (fun c s wr => ∃ i : Nat, i ≤ 64 ∧ c = .int .i64 i ∧ s = .int .i64 (dsum ((d64 d).take i) : Nat) ∧ Blk wr w1.heap.size 43 (dcells (d64 d) i) ∧ Blk wr w.heap.size 23 (bv d) ∧ Below w.heap.size w wr) (fun c _ _ => 64 - (intOf c).toNat)
  case atStart => exact ⟨0, by omega, rfl, rfl, hk2, hk1, hb2⟩
  case round =>
    obtain ⟨i, hi, rfl, rfl, hkO, hkD, hbl⟩ := hrel
    have hsl := dsum_le ((d64 d).take i)
    rw [List.length_take, L64.out] at hsl
    by_cases hlt : i < 64
    · obtain ⟨wo, rfl⟩ : ∃ wo : World, wo = wr := ⟨_, rfl⟩
      obtain ⟨b, hb⟩ : ∃ b, d[i / 4]? = some b := ⟨d[i / 4], by simp [show i / 4 < d.length by omega]⟩
      have hb8 := b.toNat_lt
      have X := Lib.hid (show (bv d)[i / 4]? = some (.int .u8 (b.toNat : Int)) by unfold bv; rw [List.getElem?_map, hb]; rfl)
      have hx := d64_at hb
      obtain ⟨x, hxx⟩ : ∃ x, b.toNat / 2 ^ (6 - 2 * (i % 4)) % 4 = x := ⟨_, rfl⟩
      rw [hxx] at hx
      have hx3 : x ≤ 3 := by omega
      have SET := Lib.hid (dcells_set (z := (b.toNat : Int) / 2 ^ (6 - 2 * (i % 4)) % 4) hx (by omega) (by rw [← hxx]; norm_cast))
      have AT := Lib.hid (dcells_at hx)
      have TS := Lib.hid (take_succ_some hx)
      have OL := Lib.hid (dcells_len (l := d64 d) (i := i) (by rw [L64.out]; exact hi) (by omega))
      have e1 : (b.toNat : Int) / 2 ^ (6 - 2 * (i % 4)) = ((b.toNat / 2 ^ (6 - 2 * (i % 4)) : Nat) : Int) := by norm_cast
      have hq0 : (0 : Int) ≤ (b.toNat : Int) / 2 ^ (6 - 2 * (i % 4)) := by rw [e1]; exact Int.natCast_nonneg _
      have hq1 : (b.toNat : Int) / 2 ^ (6 - 2 * (i % 4)) ≤ 255 := by
        rw [e1]
        have h2 : b.toNat / 2 ^ (6 - 2 * (i % 4)) ≤ 255 := Nat.le_trans (Nat.div_le_self _ _) (by omega)
        exact_mod_cast h2
      clear e1
      clear hb hx hxx
      go_wp2_with (first
        | ((with_reducible refine' wpList_at_blk (.tmp 1) (.tmp 12) 23 rfl ?_ Tryd.underlying23 sz_u8 ?_ (i / 4) ?_ ?_ ?_); exact rfl; exact rfl; (show (_ : Int) = _; omega); omega; simp only [Act.put, List.setIfInBounds_toArray, List.set_cons_succ, List.set_cons_zero]) | ((with_reducible refine' wpList_load_blk (.tmp 13) 5 rfl ?_ ld_u8 ?_ hkD (X.out) ?_); exact rfl; exact rfl; simp only [Act.put, List.setIfInBounds_toArray, List.set_cons_succ, List.set_cons_zero]) | ((with_reducible refine' wpList_at_blk (.tmp 3) (.tmp 10) 43 rfl ?_ Tryd.underlying43 sz_int ?_ (i) ?_ ?_ ?_); exact rfl; exact rfl; (show (_ : Int) = _; omega); omega; simp only [Act.put, List.setIfInBounds_toArray, List.set_cons_succ, List.set_cons_zero])
        | ((with_reducible refine' wpList_set_blk (k := i) (B := w1.heap.size) (u := .int .i64 ((b.toNat : Int) / 2 ^ (6 - 2 * (i % 4)) % 4)) 3 (.tmp 22) (.tmp 21) rfl ?_ sz_int ?_ ?_ hkO (by rw [OL.out]; omega) ?_ ?_); exact rfl; exact rfl; exact rfl; exact rfl; intro wB hkB hOB hzB; rw [SET.out] at hkB; simp only [Act.put])
        | ((with_reducible refine' wpList_at_blk (.tmp 3) (.tmp 24) 43 rfl ?_ Tryd.underlying43 sz_int ?_ (i) ?_ ?_ ?_); exact rfl; exact rfl; (show (_ : Int) = _; omega); omega; simp only [Act.put, List.setIfInBounds_toArray, List.set_cons_succ, List.set_cons_zero]) | ((with_reducible refine' wpList_load_blk (.tmp 25) 3 rfl ?_ ld_int ?_ hkB (AT.out) ?_); exact rfl; exact rfl; simp only [Act.put, List.setIfInBounds_toArray, List.set_cons_succ, List.set_cons_zero]))
      go_roundw
      case rel => exact ⟨i + 1, by omega, by go_num, by rw [TS.out, dsum_snoc]; go_num, hkB, hOB.blk hkD (by have := HZ.out; omega), hbl.trans (hOB.below (by have := HZ.out; omega) hbl.size)⟩
      case measure => simp [intOf]; omega
    · obtain rfl : i = 64 := by omega
      rw [List.take_of_length_le (by rw [L64.out]; omega)]
      obtain ⟨S, hS⟩ : ∃ S, dsum (d64 d) = S := ⟨_, rfl⟩
      have hS2 : S < 256 := by have := SL.out; rw [L64.out] at this; omega
      rw [hS]
      have HS := Lib.hid hS
      have e0 : dcells (d64 d) 64 = ccells (d64 d) S 0 := by
        unfold dcells ccells; rw [List.take_of_length_le (by rw [L64.out]; omega)]; rfl
      rw [e0] at hkO
      have HE := Lib.hid (show ccells (d64 d) S 4 = nv (digs d) by unfold ccells; rw [digs_eq, nv_append, HS.out]; rfl)
      clear hS e0 hsl hi
      go_wp2_with fail
      go_loopw [6, 4] (fun c s wr => ∃ j : Nat, j ≤ 4 ∧ c = .int .i64 (67 - (j : Int)) ∧ s = .int .i64 (S / 4 ^ j : Nat) ∧ Blk wr w1.heap.size 43 (ccells (d64 d) S j) ∧ Below w.heap.size w wr) (fun c _ _ => (intOf c - 63).toNat)
      case atStart => exact ⟨0, by omega, rfl, by simp, hkO, hbl⟩
      case round =>
        obtain ⟨j, hj, rfl, rfl, hkC, hbl⟩ := hrel
        have hp : S / 4 ^ j ≤ S := Nat.div_le_self _ _
        by_cases hlt : j < 4
        · obtain ⟨wo, rfl⟩ : ∃ wo : World, wo = wr := ⟨_, rfl⟩
          obtain ⟨q, hq⟩ : ∃ q, S / 4 ^ j = q := ⟨_, rfl⟩
          have hq2 : S / 4 ^ (j + 1) = q / 4 := by rw [← hq, Nat.div_div_eq_div_mul, ← Nat.pow_succ]
          rw [hq] at hp ⊢
          have SET := Lib.hid (ccells_set (l := d64 d) L64.out hS2 hlt (z := (q : Int) % 4) (by rw [hq]; norm_cast))
          have OL := Lib.hid (ccells_len L64.out S hj)
          have HQ2 := Lib.hid hq2
          clear hq hq2
          have hge : decide ((64 : Int) ≤ 67 - (j : Int)) = true := by simp; omega
          go_wp2_with (first
            | ((with_reducible refine' wpList_at_blk (.tmp 3) (.tmp 34) 43 rfl ?_ Tryd.underlying43 sz_int ?_ (67 - j) ?_ ?_ ?_); exact rfl; exact rfl; (show (_ : Int) = _; omega); omega; simp only [Act.put, List.setIfInBounds_toArray, List.set_cons_succ, List.set_cons_zero])
            | ((with_reducible refine' wpList_set_blk (k := 67 - j) (B := w1.heap.size) (u := .int .i64 ((q : Int) % 4)) 3 (.tmp 37) (.tmp 36) rfl ?_ sz_int ?_ ?_ hkC (by rw [OL.out]; omega) ?_ ?_); exact rfl; exact rfl; exact rfl; exact rfl; intro wB hkB hOB hzB; rw [SET.out] at hkB; simp only [Act.put]))
          go_roundw
          case rel => exact ⟨j + 1, by omega, by go_num, by rw [HQ2.out]; go_num, hkB, hbl.trans (hOB.below (by have := HZ.out; omega) hbl.size)⟩
          case measure => simp [intOf]; omega
        · obtain rfl : j = 4 := by omega
          rw [HE.out] at hkC
          have hge : decide ((64 : Int) ≤ 67 - ((4 : Nat) : Int)) = false := by simp
          go_wp2_with (((with_reducible refine' wpList_arr_all (B := w1.heap.size) (f := 0) (.tmp 3) 43 rfl ?_ Tryd.underlying43 sz_int ?_ ?_); exact rfl; exact rfl; simp only [Act.put, List.setIfInBounds_toArray, List.set_cons_succ, List.set_cons_zero]))
          go_ret
          exact ⟨_, rfl, hkC, hbl⟩
theorem digs_rd {w : World} {B : Nat} {d : List UInt8} (h : Blk w B 43 (nv (digs d))) (hd : d.length = 16) : Rd w 1 (.slice (some ⟨B, 0, none⟩) 68 68) 68 (nv (digs d)) := by
  have hrd := h.rd 0 68 68 1 (by rw [nv_length, digs_len hd]; decide) (Nat.le_refl _) (by unfold maxLen; omega)
  rwa [List.drop_zero, List.take_of_length_le (by rw [nv_length, digs_len hd]; decide)] at hrd
theorem nv_one (l : List Nat) : ∀ u ∈ nv l, u.oneCell' = true := by
  intro u hu
  simp only [nv, List.mem_map] at hu
  obtain ⟨x, _, rfl⟩ := hu
  rfl
theorem dig4_cells (b : UInt8) : nv (dig4 b) = [.int .i64 ((b.toNat : Int) / 64), .int .i64 ((b.toNat : Int) / 16 % 4), .int .i64 ((b.toNat : Int) / 4 % 4), .int .i64 ((b.toNat : Int) % 4)] := by
  simp [nv, dig4]
theorem chk_cells (s : Nat) : nv (chk s) = [.int .i64 ((s : Int) / 64), .int .i64 ((s : Int) / 16 % 4), .int .i64 ((s : Int) / 4 % 4), .int .i64 ((s : Int) % 4)] := by
  simp [nv, chk]
theorem d64_four {d : List UInt8} {i k : Nat} {b : UInt8} (h : d[i]? = some b) (hk : k < 4) : ∃ x, (d64 d)[4 * i + k]? = some x ∧ (dig4 b)[k]? = some x ∧ x ≤ 3 := by
  have hlt := b.toNat_lt
  refine ⟨_, d64_at (i := 4 * i + k) (by rw [show (4 * i + k) / 4 = i by omega]; exact h), ?_, by omega⟩
  rw [show (4 * i + k) % 4 = k by omega]
  obtain rfl | rfl | rfl | rfl : k = 0 ∨ k = 1 ∨ k = 2 ∨ k = 3 := by omega
  · show some (b.toNat / 64) = some (b.toNat / 64 % 4); congr 1; omega
  · rfl
  · rfl
  · show some (b.toNat % 4) = some (b.toNat / 1 % 4); congr 1; omega
set_option maxRecDepth 100000 in
set_option maxHeartbeats 400000 in
theorem refdigits_any (d : List UInt8) (w : World) (hd : d.length = 16) :
    Calls Tryd.prog 11 #[.agg (bv d).toArray] w fun e w' => ∃ v, e = .returned v ∧ Rd w' 1 v 68 (nv (digs d)) ∧ Below w.heap.size w w' := by
  have L64 := Lib.hid (d64_len hd)
  go_enter Tryd.func11, Tryd.ntmps11
  go_wp2_with (((with_reducible refine' wpList_boxa (cs := bv d) 23 (.tmp 0) rfl ?_ ?_ ?_); exact rfl; exact rfl; intro w1 hk1 hN1 hz1; simp only [Act.put, List.setIfInBounds_toArray, List.set_cons_succ, List.set_cons_zero]))
  have HZ := Lib.hid hz1
  have hlow : w.heap.size ≤ w1.heap.size := by omega
  clear hz1
  go_loopw [5, 3, 4] (fun c o s wr => ∃ i : Nat, i ≤ 16 ∧ c = .int .i64 i ∧ wr.ownsRow w1.heap.size 3 1 o (4 * i) (nv ((d64 d).take (4 * i))) ∧ s = .int .i64 (dsum ((d64 d).take (4 * i)) : Nat) ∧ Blk wr w.heap.size 23 (bv d) ∧ Below w1.heap.size w1 wr) (fun c _ _ _ => 16 - (intOf c).toNat)
  case atStart => exact ⟨0, by omega, rfl, World.ownsRow_nil _ _ _ _, rfl, hk1, Below.refl _ _⟩
  case round =>
    obtain ⟨i, hi, rfl, hown, rfl, hkD, hbl⟩ := hrel
    have hsl := dsum_le ((d64 d).take (4 * i))
    rw [List.length_take, L64.out] at hsl
    by_cases hlt : i < 16
    · obtain ⟨wo, rfl⟩ : ∃ wo : World, wo = wr := ⟨_, rfl⟩
      obtain ⟨b, hb⟩ : ∃ b, d[i]? = some b := ⟨d[i], by simp [show i < d.length by omega]⟩
      have hb8 := b.toNat_lt
      have X := Lib.hid (show (bv d)[i]? = some (.int .u8 (b.toNat : Int)) by unfold bv; rw [List.getElem?_map, hb]; rfl)
      have HB := Lib.hid hb
      have HO := Lib.hid hown
      clear hb hown
      go_wp2_with (first
        | ((with_reducible refine' wpList_at_blk (.tmp 1) (.tmp 13) 23 rfl ?_ Tryd.underlying23 sz_u8 ?_ (i) ?_ ?_ ?_); exact rfl; exact rfl; (show (_ : Int) = _; omega); omega; simp only [Act.put, List.setIfInBounds_toArray, List.set_cons_succ, List.set_cons_zero]) | ((with_reducible refine' wpList_load_blk (.tmp 14) 5 rfl ?_ ld_u8 ?_ hkD (X.out) ?_); exact rfl; exact rfl; simp only [Act.put, List.setIfInBounds_toArray, List.set_cons_succ, List.set_cons_zero])
        | (((with_reducible refine' wpList_build_at (cs := [.int .i64 ((b.toNat : Int) / 64), .int .i64 ((b.toNat : Int) / 16 % 4), .int .i64 ((b.toNat : Int) / 4 % 4), .int .i64 ((b.toNat : Int) % 4)]) rfl ?_ Tryd.underlying25 inf_int ?_ ?_ ?_ ?_ ?_ ?_); exact rfl; exact rfl; omega; omega; exact rfl; (rw [← dig4_cells]; exact nv_one _); intro w7 k7 hN7 hz7; simp only [Act.put, List.setIfInBounds_toArray, List.set_cons_succ, List.set_cons_zero]); rw [← dig4_cells] at k7))
      have hkD7 := hkD.below hN7 hkD.lt
      have hb7 := hbl.trans (hN7.mono hbl.size)
      have ho7 := own_below HO.out hN7
      have hne : some wo.heap.size ≠ (Value.ownBlock u3) := by
        intro h
        have := (HO.out.lt _ h.symm).2
        omega
      obtain ⟨B7, hB7⟩ : ∃ B, wo.heap.size = B := ⟨_, rfl⟩
      have hB1 : w1.heap.size ≤ B7 := by have := hbl.size; omega
      rw [hB7] at k7 hne ⊢
      clear hkD HO hN7 hB7 hz7
      go_loopw [8, 3, 4] (fun c o s wr => ∃ k : Nat, k ≤ 4 ∧ c = .int .i64 k ∧ wr.ownsRow w1.heap.size 3 1 o (4 * i + k) (nv ((d64 d).take (4 * i + k))) ∧ s = .int .i64 (dsum ((d64 d).take (4 * i + k)) : Nat) ∧ some B7 ≠ o.ownBlock ∧ Blk wr B7 3 (nv (dig4 b)) ∧ Blk wr w.heap.size 23 (bv d) ∧ Below w1.heap.size w1 wr) (fun c _ _ _ => 4 - (intOf c).toNat)
      case atStart => exact ⟨0, by omega, rfl, ho7, rfl, hne, k7, hkD7, hb7⟩
      case round =>
        obtain ⟨k, hk, rfl, hown, rfl, hne, k7, hkD, hbl⟩ := hrel
        have hsl := dsum_le ((d64 d).take (4 * i + k))
        rw [List.length_take, L64.out] at hsl
        by_cases hkt : k < 4
        · obtain ⟨wo, rfl⟩ : ∃ wo : World, wo = wr := ⟨_, rfl⟩
          obtain ⟨x, hx1, hx2, hx3⟩ := d64_four HB.out hkt
          have AT := Lib.hid (nv_at hx2)
          have TS := Lib.hid (take_succ_some hx1)
          have HO := Lib.hid hown
          have hrd := k7.rd 0 4 4 1 (by rw [nv_length]; exact Nat.le_refl _) (Nat.le_refl _) (by unfold maxLen; omega)
          rw [List.drop_zero, List.take_of_length_le (by rw [nv_length]; exact Nat.le_refl _)] at hrd
          clear hx1 hx2 hown
          go_wp2_with (first
            | ((with_reducible refine' wpList_at1_rd (.tmp 33) (.tmp 34) 25 rfl ?_ Tryd.underlying25 sz_int ?_ hrd (k) ?_ ?_ ?_); exact rfl; exact rfl; (show (_ : Int) = _; omega); omega; simp only [Act.put, List.setIfInBounds_toArray, List.set_cons_succ, List.set_cons_zero]) | ((with_reducible refine' wpList_load_rd (.tmp 35) 3 rfl ?_ ld_int ?_ hrd (AT.out) ?_); exact rfl; exact rfl; simp only [Act.put, List.setIfInBounds_toArray, List.set_cons_succ, List.set_cons_zero])
            | (((with_reducible refine' wpList_append_one_at (.tmp 32) (.tmp 37) 25 rfl ?_ Tryd.underlying25 inf_int ?_ ?_ HO.out ?_ ?_ ?_ ?_ hbl.size ?_); exact rfl; exact rfl; exact rfl; exact rfl; exact rfl; (first | omega | (unfold maxLen; omega)); omega; intro v8 w8 ho8 hg8 hst8; simp only [Act.put, List.setIfInBounds_toArray, List.set_cons_succ, List.set_cons_zero]); have k78 := k7.grown hg8 hne; have hr8 := k78.rd 0 4 4 1 (by rw [nv_length]; exact Nat.le_refl _) (Nat.le_refl _) (by unfold maxLen; omega); rw [List.drop_zero, List.take_of_length_le (by rw [nv_length]; exact Nat.le_refl _)] at hr8)
            | ((with_reducible refine' wpList_at1_rd (.tmp 41) (.tmp 42) 25 rfl ?_ Tryd.underlying25 sz_int ?_ hr8 (k) ?_ ?_ ?_); exact rfl; exact rfl; (show (_ : Int) = _; omega); omega; simp only [Act.put, List.setIfInBounds_toArray, List.set_cons_succ, List.set_cons_zero]) | ((with_reducible refine' wpList_load_rd (.tmp 43) 3 rfl ?_ ld_int ?_ hr8 (AT.out) ?_); exact rfl; exact rfl; simp only [Act.put, List.setIfInBounds_toArray, List.set_cons_succ, List.set_cons_zero]))
          go_roundw
          case rel =>
            have hb8 := below_of_grown hg8 HO.out hbl.size
            have hDne : some w.heap.size ≠ Value.ownBlock u3 := by
              intro h
              have := (HO.out.lt _ h.symm).1
              have := HZ.out
              omega
            refine ⟨k + 1, by omega, by go_num, ?_, ?_, hst8.ne hne k7.lt, k78, hkD.grown hg8 hDne, hbl.trans hb8⟩
            · rw [← Nat.add_assoc, TS.out, nv_append]; exact ho8
            · rw [← Nat.add_assoc, TS.out, dsum_snoc]; go_num
          case measure => simp [intOf]; omega
        · obtain rfl : k = 4 := by omega
          go_wp2_with fail
          go_roundw
          case rel => exact ⟨i + 1, by omega, by go_num, by rw [show 4 * (i + 1) = 4 * i + 4 by omega]; exact hown, by rw [show 4 * (i + 1) = 4 * i + 4 by omega], hkD, hbl⟩
          case measure => simp [intOf]; omega
    · obtain rfl : i = 16 := by omega
      have hS2 : dsum ((d64 d).take (4 * 16)) < 256 := by omega
      have e64 : (d64 d).take (4 * 16) = d64 d := List.take_of_length_le (by rw [L64.out]; decide)
      rw [e64] at hown hS2 ⊢
      obtain ⟨S, hS⟩ : ∃ S, dsum (d64 d) = S := ⟨_, rfl⟩
      rw [hS] at hS2 ⊢
      have HS := Lib.hid hS
      have HO := Lib.hid hown
      clear hS hown e64 hsl
      go_wp2_with (first
        | (((with_reducible refine' wpList_build_cs (cs := [.int .i64 ((S : Int) / 64), .int .i64 ((S : Int) / 16 % 4), .int .i64 ((S : Int) / 4 % 4), .int .i64 ((S : Int) % 4)]) rfl ?_ Tryd.underlying25 inf_int ?_ ?_ ?_ ?_ ?_ ?_); exact rfl; exact rfl; omega; omega; exact rfl; (rw [← chk_cells]; exact nv_one _); intro v7 w7 r7 hN7; simp only [Act.put, List.setIfInBounds_toArray, List.set_cons_succ, List.set_cons_zero]); rw [← chk_cells] at r7)
        | (((with_reducible refine' wpList_append_rd (.tmp 46) (.tmp 57) 25 rfl ?_ Tryd.underlying25 inf_int ?_ ?_ ?_ (own_below HO.out hN7) ?_ r7 (nv_one _) ?_ ?_ (Nat.le_trans hbl.size hN7.size) ?_); exact rfl; exact rfl; omega; exact rfl; exact rfl; (first | omega | (unfold maxLen; omega)); omega; intro v8 w8 ho8 hb8; simp only [Act.put, List.setIfInBounds_toArray, List.set_cons_succ, List.set_cons_zero])))
      go_ret
      have hb9 := (hbl.trans (hN7.mono hbl.size)).trans hb8
      refine ⟨_, rfl, ?_, hN1.trans (hb9.mono hlow)⟩
      rw [← nv_append] at ho8
      rw [digs_eq, HS.out]
      exact Rd.of_own ho8
end Go.Proofs.YtajglgkjpagcjaaDoor.Wi
