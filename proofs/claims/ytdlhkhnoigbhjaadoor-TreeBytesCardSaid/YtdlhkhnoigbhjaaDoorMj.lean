/-
  Tpf, Tlf, Hw, Hs, Ht, Hc, Hp, Hm, Ha: my texts of these names, one behind the other. Conditions: those that each law names.
-/
import Derived.Test.YtdlhkhnoigbhjaaDoorMb
import Derived.Test.YtdlhkhnoigbhjaaDoorMh
import Derived.Test.YtdlhkhnoigbhjaaDoorMa
import Derived.Deep.DeepCutAuto
import Derived.Deep.CutBlock
import Derived.Lib.Hide
import Derived.BigRegion
import Derived.Test.YtdlhkhnoigbhjaaDoorMe
namespace Go.Proofs.YtdlhkhnoigbhjaaDoor.Pu
abbrev ShpP := Int × Int × Int × Int × List Int × Int × Int × Int
/-- a row for each kind: what it is, least and greatest N, greatest M, its kids' sorts, how many more there may be, how many more there must be, the sort of those -/
def shF : List ShpP := [(3, 0, 0, 0, [], 0, 0, 0), (3, 0, 0, 0, [], 0, 0, 0), (2, 1, 4, 0, [], 0, 0, 0), (2, 0, 0, 0, [], 3, 1, 3), (4, -8, 7, 0, [], 0, 0, 0), (4, 0, 1, 0, [], 0, 0, 0), (4, 0, 5, 0, [], 0, 0, 0), (4, 0, 5, 0, [4], 0, 0, 0),
  (4, 0, 5, 2, [], 0, 0, 0), (4, 0, 13, 0, [4, 4], 0, 0, 0), (4, 0, 0, 0, [4], 0, 0, 0), (4, 0, 5, 0, [], 3, 0, 4), (4, 0, 2, 0, [], 0, 0, 0), (6, 0, 0, 0, [], 8, 0, 5), (5, 0, 5, 0, [4], 0, 0, 0), (5, 0, 5, 0, [4, 4], 0, 0, 0),
  (5, 0, 5, 2, [4], 0, 0, 0), (5, 0, 0, 0, [4, 6, 6], 0, 0, 0), (5, 0, 0, 0, [4, 6], 0, 0, 0), (5, 0, 0, 0, [4], 0, 0, 0), (5, 0, 0, 0, [4], 0, 0, 0), (5, 0, 5, 0, [6, 6], 0, 0, 0), (5, 0, 2, 0, [4], 0, 0, 0), (5, 0, 5, 0, [], 3, 0, 4),
  (5, 0, 0, 0, [4], 0, 0, 0), (5, 0, 0, 0, [], 0, 0, 0), (1, 0, 3, 0, [], 0, 0, 0), (0, 0, 3, 0, [], 6, 1, 1)]
def fIs (s want : Int) : Bool := (s == want) || ((s == 3) && (want == 2)) || ((s == 6) && (want == 5))
/-- all but the kids -/
def fHead (k n m : Int) (len : Nat) (want : Int) : Bool :=
  match shF[k.toNat]? with
  | none => false
  | some s => decide (0 ≤ k) && (fIs s.1 want && (decide (s.2.1 ≤ n) && (decide (n ≤ s.2.2.1) && (decide (0 ≤ m) && (decide (m ≤ s.2.2.2.1) &&
      (if k = 26 then decide (n ≤ (len : Int) - 1) && decide ((len : Int) - 1 ≤ 6) else decide (s.2.2.2.2.2.2.1 ≤ (len : Int) - s.2.2.2.2.1.length) && decide ((len : Int) - s.2.2.2.2.1.length ≤ s.2.2.2.2.2.1)))))))
/-- what kid i has to be -/
def fWant (k n : Int) (len i : Nat) : Int :=
  match shF[k.toNat]? with
  | none => 0
  | some s => if k = 26 then (if i + 1 = len then 6 else if (i : Int) < n then 3 else 2) else (s.2.2.2.2.1[i]?).getD s.2.2.2.2.2.2.2
mutual
def tfits : Tree → Int → Bool
  | .mk k n m ts, want => fHead k n m ts.length want && tfitsL (fWant k n ts.length) 0 ts
def tfitsL (f : Nat → Int) : Nat → List Tree → Bool
  | _, [] => true
  | i, t :: ts => tfits t (f i) && tfitsL f (i + 1) ts
end
theorem tfitsL_iff (f : Nat → Int) : ∀ (ts : List Tree) (i : Nat), tfitsL f i ts = true ↔ ∀ j t, ts[j]? = some t → tfits t (f (i + j)) = true
  | [], i => by simp [tfitsL]
  | u :: ts, i => by
    rw [tfitsL, Bool.and_eq_true, tfitsL_iff f ts (i + 1)]
    constructor
    · rintro ⟨h1, h2⟩ j t hj
      cases j with
      | zero => simp only [List.getElem?_cons_zero, Option.some.injEq] at hj; subst hj; exact h1
      | succ j => rw [List.getElem?_cons_succ] at hj; have := h2 j t hj; rwa [show i + 1 + j = i + (j + 1) by omega] at this
    · intro h
      refine ⟨h 0 u rfl, fun j t hj => ?_⟩
      have := h (j + 1) t (by rw [List.getElem?_cons_succ]; exact hj)
      rwa [show i + (j + 1) = i + 1 + j by omega] at this
theorem fit_of {k n m want : Int} {ts : List Tree} (h : fHead k n m ts.length want = true) (hk : ∀ j t, ts[j]? = some t → tfits t (fWant k n ts.length j) = true) : tfits (.mk k n m ts) want = true := by
  rw [tfits, Bool.and_eq_true, tfitsL_iff]
  exact ⟨h, fun j t hj => by rw [Nat.zero_add]; exact hk j t hj⟩
theorem fit_leaf {k n m want : Int} (h : fHead k n m 0 want = true) : tfits (.mk k n m []) want = true := fit_of h (by simp)
theorem kids1 {t : Tree} {f : Nat → Int} (h : tfits t (f 0) = true) : ∀ j u, [t][j]? = some u → tfits u (f j) = true := by
  intro j u hj
  match j with
  | 0 => simp at hj; subst hj; exact h
  | j + 1 => simp at hj
theorem kids2 {t t2 : Tree} {f : Nat → Int} (h : tfits t (f 0) = true) (h2 : tfits t2 (f 1) = true) : ∀ j u, [t, t2][j]? = some u → tfits u (f j) = true := by
  intro j u hj
  match j with
  | 0 => simp at hj; subst hj; exact h
  | 1 => simp at hj; subst hj; exact h2
  | j + 2 => simp at hj
theorem kids3 {t t2 t3 : Tree} {f : Nat → Int} (h : tfits t (f 0) = true) (h2 : tfits t2 (f 1) = true) (h3 : tfits t3 (f 2) = true) : ∀ j u, [t, t2, t3][j]? = some u → tfits u (f j) = true := by
  intro j u hj
  match j with
  | 0 => simp at hj; subst hj; exact h
  | 1 => simp at hj; subst hj; exact h2
  | 2 => simp at hj; subst hj; exact h3
  | j + 3 => simp at hj
theorem kidsA {ts : List Tree} {f : Nat → Int} {s : Int} (h : ∀ t ∈ ts, tfits t s = true) (hf : ∀ j, j < ts.length → f j = s) : ∀ j u, ts[j]? = some u → tfits u (f j) = true := by
  intro j u hj
  rw [hf j (List.getElem?_eq_some_iff.1 hj).1]
  exact h u (List.mem_of_getElem? hj)
/-- how far a generator gets: from (a, L) to (a', L'), a tree of size sz and depth dp, at most ov numbers past the end -/
def Ran (ov dm a : Nat) (L : Int) (a' : Nat) (L' : Int) (sz dp : Nat) : Prop :=
  dp ≤ dm ∧ (sz : Int) ≤ L - L' ∧ a ≤ a' ∧ (a' : Int) + 3 * L' ≤ a + 3 * L ∧ (L - ov ≤ L' ∨ 1 - ov ≤ L')
def eov : Nat → Nat
  | 0 => 1
  | d + 1 => 3 * eov d + 1
theorem eov_pos : ∀ d, 1 ≤ eov d
  | 0 => Nat.le_refl _
  | d + 1 => by rw [eov]; omega
end Go.Proofs.YtdlhkhnoigbhjaaDoor.Pu
namespace Go.Proofs.YtdlhkhnoigbhjaaDoor.Wi
open Go Go.RowKit Pu Lb
/-- the table lies as it is written, all of it -/
def ShF (w : World) : Prop := ∀ (i : Nat) (s : ShpP), shF[i]? = some s → ∃ v, Rd w 1 v s.2.2.2.2.1.length (iv s.2.2.2.2.1) ∧ ∀ (j : Nat) (u : Value), (shC s v)[j]? = some u → w.cell? ⟨0, i * 8 + j, none⟩ = some u
theorem ShF.below {w w' : World} (h : ShF w) (hb : Below w.heap.size w w') : ShF w' := fun i s hi => by
  obtain ⟨v, h1, h3⟩ := h i s hi
  refine ⟨v, h1.below hb, fun j u hj => ?_⟩
  have := h3 j u hj
  rw [World.cell?_of_block (hb.block _ (World.block_lt_of_cell? _ _ this))]; exact this
theorem shT_shF (i : Nat) (s : Shp) (h : shT[i]? = some s) : shF[i]? = some s := by
  match i, h with
  | 0, h => exact h
  | 1, h => exact h
  | 2, h => exact h
  | 3, h => exact h
  | 4, h => exact h
  | 5, h => exact h
  | 6, h => exact h
  | 7, h => exact h
  | 8, h => exact h
  | 9, h => exact h
  | k + 10, h => simp [shT] at h
theorem ShF.sht {w : World} (h : ShF w) : ShT w := fun i s hi => by
  obtain ⟨v, h1, h3⟩ := h i s (shT_shF i s hi)
  obtain ⟨_, a, c, rfl, _⟩ := h1
  exact ⟨_, rfl, h3⟩
theorem kids_rd {H : Type} {enc : TypeId × Value → H} {w : World} {base : Nat} {sp : Nat → Bool} {held : Bool} {fuel : Nat} {v : Value} {d : DataW H} {p : List MemPlace} {kids : List Int} (h : DataW.trod enc Tryd.prog w base sp held fuel 103 [v] = some (d, p))
    (hd : (d = .nil ∧ kids = []) ∨ ∃ r, d = .slice (kids.map fun z => .lit (.int .i64 z)) r) : Rd w 1 v kids.length (iv kids) := by
  rcases DataW.trod_slice Tryd.underlying103 h with ⟨hcs, hx⟩ | ⟨x, len, cap, elems, rest, n, _, hcs, hx, _, hl, hm, hlen, hel, _, _⟩
  · simp only [List.cons.injEq, and_true] at hcs
    subst hcs
    rcases hd with ⟨_, rfl⟩ | ⟨r, rfl⟩
    · exact rd_nil w 1
    · cases hx
  · simp only [List.cons.injEq, and_true] at hcs
    subst hcs
    rcases hd with ⟨rfl, _⟩ | ⟨r, rfl⟩
    · cases hx
    · simp only [Prod.mk.injEq, DataW.slice.injEq] at hx
      have he := hx.1.1
      have hkl : kids.length = len := by have := congrArg List.length he; simpa [hlen] using this
      have hrd := rd_cells (w := w) (s := 1) (x := x) (xs := iv kids) hl hm (by simp [iv, hkl]) fun i u hu => by
        have hi : i < kids.length := by have := (List.getElem?_eq_some_iff.1 hu).1; simpa [iv] using this
        have h1 := hel i (by omega)
        rw [List.getElem?_eq_getElem (by omega), ci71, Option.bind_eq_some_iff] at h1
        obtain ⟨cs, hcs, htr⟩ := h1
        obtain ⟨_, hcl, hcell⟩ := World.cells?_some hcs
        obtain ⟨z, hz1, hz2, _⟩ := DataW.trod_int Tryd.underlying71 htr
        have h4 := congrArg (fun l => l[i]?) he
        simp only [List.getElem?_map, List.getElem?_eq_getElem hi, List.getElem?_eq_getElem (show i < elems.length by omega), Option.map_some, Option.some.injEq] at h4
        rw [hz2] at h4
        simp only [DataW.lit.injEq, Lit.int.injEq, true_and] at h4
        have h5 := hcell 0 (by omega)
        rw [hz1] at h5
        have hu2 : u = .int .i64 kids[i] := by simpa [iv, hi] using hu.symm
        rw [hu2]
        simpa [Addr.add, h4, Nat.mul_one] using h5
      rw [Nat.mul_one, List.take_of_length_le (by simp [iv, hkl])] at hrd
      rw [hkl]; exact hrd
theorem rowsF_of {ds : List (DataW Unit)} (hds : (Rows.laid_scoria_tree_shapes : DataW Unit) = .agg ds) : ∀ (i : Nat) (s : ShpP), shF[i]? = some s → i < 28 ∧ ∃ d : DataW Unit, ds[i]? = some (.agg [.lit (.int .i64 s.1), .lit (.int .i64 s.2.1), .lit (.int .i64 s.2.2.1), .lit (.int .i64 s.2.2.2.1), d, .lit (.int .i64 s.2.2.2.2.2.1), .lit (.int .i64 s.2.2.2.2.2.2.1), .lit (.int .i64 s.2.2.2.2.2.2.2)]) ∧
    ((d = .nil ∧ s.2.2.2.2.1 = []) ∨ ∃ r, d = .slice (s.2.2.2.2.1.map fun z => .lit (.int .i64 z)) r) := by
  unfold Rows.laid_scoria_tree_shapes at hds
  injection hds with hds
  subst hds
  exact fun i s hi => match i, hi with
  | 0, hi => by cases hi; exact ⟨by omega, _, rfl, .inl ⟨rfl, rfl⟩⟩
  | 1, hi => by cases hi; exact ⟨by omega, _, rfl, .inl ⟨rfl, rfl⟩⟩
  | 2, hi => by cases hi; exact ⟨by omega, _, rfl, .inl ⟨rfl, rfl⟩⟩
  | 3, hi => by cases hi; exact ⟨by omega, _, rfl, .inl ⟨rfl, rfl⟩⟩
  | 4, hi => by cases hi; exact ⟨by omega, _, rfl, .inl ⟨rfl, rfl⟩⟩
  | 5, hi => by cases hi; exact ⟨by omega, _, rfl, .inl ⟨rfl, rfl⟩⟩
  | 6, hi => by cases hi; exact ⟨by omega, _, rfl, .inl ⟨rfl, rfl⟩⟩
  | 7, hi => by cases hi; exact ⟨by omega, _, rfl, .inr ⟨_, rfl⟩⟩
  | 8, hi => by cases hi; exact ⟨by omega, _, rfl, .inl ⟨rfl, rfl⟩⟩
  | 9, hi => by cases hi; exact ⟨by omega, _, rfl, .inr ⟨_, rfl⟩⟩
  | 10, hi => by cases hi; exact ⟨by omega, _, rfl, .inr ⟨_, rfl⟩⟩
  | 11, hi => by cases hi; exact ⟨by omega, _, rfl, .inl ⟨rfl, rfl⟩⟩
  | 12, hi => by cases hi; exact ⟨by omega, _, rfl, .inl ⟨rfl, rfl⟩⟩
  | 13, hi => by cases hi; exact ⟨by omega, _, rfl, .inl ⟨rfl, rfl⟩⟩
  | 14, hi => by cases hi; exact ⟨by omega, _, rfl, .inr ⟨_, rfl⟩⟩
  | 15, hi => by cases hi; exact ⟨by omega, _, rfl, .inr ⟨_, rfl⟩⟩
  | 16, hi => by cases hi; exact ⟨by omega, _, rfl, .inr ⟨_, rfl⟩⟩
  | 17, hi => by cases hi; exact ⟨by omega, _, rfl, .inr ⟨_, rfl⟩⟩
  | 18, hi => by cases hi; exact ⟨by omega, _, rfl, .inr ⟨_, rfl⟩⟩
  | 19, hi => by cases hi; exact ⟨by omega, _, rfl, .inr ⟨_, rfl⟩⟩
  | 20, hi => by cases hi; exact ⟨by omega, _, rfl, .inr ⟨_, rfl⟩⟩
  | 21, hi => by cases hi; exact ⟨by omega, _, rfl, .inr ⟨_, rfl⟩⟩
  | 22, hi => by cases hi; exact ⟨by omega, _, rfl, .inr ⟨_, rfl⟩⟩
  | 23, hi => by cases hi; exact ⟨by omega, _, rfl, .inl ⟨rfl, rfl⟩⟩
  | 24, hi => by cases hi; exact ⟨by omega, _, rfl, .inr ⟨_, rfl⟩⟩
  | 25, hi => by cases hi; exact ⟨by omega, _, rfl, .inl ⟨rfl, rfl⟩⟩
  | 26, hi => by cases hi; exact ⟨by omega, _, rfl, .inl ⟨rfl, rfl⟩⟩
  | 27, hi => by cases hi; exact ⟨by omega, _, rfl, .inl ⟨rfl, rfl⟩⟩
  | k + 28, hi => by simp [shF] at hi
theorem shF_of {W : World} (h : laidMetH Tryd.prog lT W) : ShF W := by
  rw [MakeChecks.laidMetH_plain _ _ _ (by kernel_rfl)] at h
  obtain ⟨ps, ⟨g', t', cs, fuel, p, q, hg', ht', hvar, hd, _, _⟩, _⟩ := h
  obtain rfl := Option.some.inj (gSh.symm.trans hg')
  obtain rfl := Option.some.inj (gtSh.symm.trans ht')
  obtain ⟨ds, hds⟩ : ∃ ds, (Rows.laid_scoria_tree_shapes : DataW Unit) = .agg ds := ⟨_, rfl⟩
  rw [hds] at hd
  intro i s hi
  obtain ⟨hlt, d, hrow, hkd⟩ := rowsF_of hds i s hi
  obtain ⟨f', b, hb, ht⟩ := table_of hd i _ hlt hrow
  obtain ⟨f2, v, p2, hp, hv⟩ := entry_of ht hb
  refine ⟨v, kids_rd hv hkd, fun j u hj => ?_⟩
  rw [World.var?_cell gSh hvar]
  have hj8 : j < 8 := by have := (List.getElem?_eq_some_iff.1 hj).1; simpa [shC] using this
  have h2 : ((cs.toList.drop (i * 8)).take 8)[j]? = some u := by rw [hp]; exact hj
  rw [List.getElem?_take_of_lt hj8, List.getElem?_drop] at h2
  simpa using h2
end Go.Proofs.YtdlhkhnoigbhjaaDoor.Wi
namespace Go.Proofs.YtdlhkhnoigbhjaaDoor.Pu
open Go
theorem lt32 (x : UInt32) : x.toNat < 4294967296 := x.toNat_lt
theorem ux (x y : UInt32) : bits .xor .u32 (x.toNat : Int) (y.toNat : Int) = ((x ^^^ y).toNat : Int) := by rw [u32_xor_nat _ _ (lt32 x) (lt32 y), UInt32.toNat_xor]
theorem ua (x y : UInt32) : bits .and .u32 (x.toNat : Int) (y.toNat : Int) = ((x &&& y).toNat : Int) := by rw [u32_and_nat _ _ (lt32 x) (lt32 y), UInt32.toNat_and]
theorem uo (x y : UInt32) : bits .or .u32 (x.toNat : Int) (y.toNat : Int) = ((x ||| y).toNat : Int) := by rw [u32_or_nat _ _ (lt32 x) (lt32 y), UInt32.toNat_or]
theorem ofn {n : Nat} (h : n < 4294967296) : (UInt32.ofNat n).toNat = n := by
  show n % 2 ^ 32 = n
  exact Nat.mod_eq_of_lt h
theorem us (x : UInt32) (n : Nat) (h : n < 32) : (x.toNat : Int) / 2 ^ n = ((x >>> UInt32.ofNat n).toNat : Int) := by
  rw [UInt32.toNat_shiftRight, ofn (by omega), Nat.mod_eq_of_lt h, Nat.shiftRight_eq_div_pow]
  norm_cast
theorem ul (x : UInt32) (n : Nat) (h : n < 32) : (x.toNat : Int) * 2 ^ n % 4294967296 = ((x <<< UInt32.ofNat n).toNat : Int) := by
  rw [UInt32.toNat_shiftLeft, ofn (by omega), Nat.mod_eq_of_lt h, Nat.shiftLeft_eq, Int.natCast_emod, Int.natCast_mul, Int.natCast_pow]
  rfl
theorem up (x y : UInt32) : ((x.toNat : Int) + (y.toNat : Int)) % 4294967296 = ((x + y).toNat : Int) := by
  have h := UInt32.toNat_add x y
  rw [h, Int.natCast_emod, Int.natCast_add]
  rfl
/-- a rotation to the right -/
def rr (x : UInt32) (n : Nat) : UInt32 := x >>> UInt32.ofNat n ||| x <<< UInt32.ofNat (32 - n)
theorem and31 (n : Nat) (h0 : 0 < n) (h : n < 32) : bits .and .u64 (IntKind.u64.wrap (-(n : Int))) 31 = ((32 - n : Nat) : Int) := by
  have e : IntKind.u64.wrap (-(n : Int)) = ((18446744073709551616 - n : Nat) : Int) := by rw [IntKind.wrap_u64]; omega
  rw [e, show (31 : Int) = ((31 : Nat) : Int) from rfl, u64_and_nat _ _ (by omega) (by omega), show (31 : Nat) = 2 ^ 5 - 1 from rfl, Nat.and_two_pow_sub_one_eq_mod]
  congr 1; omega
end Go.Proofs.YtdlhkhnoigbhjaaDoor.Pu
namespace Go.Proofs.YtdlhkhnoigbhjaaDoor.Wi
open Go Go.RowKit Pu Lb

set_option maxRecDepth 100000 in
theorem rotl_any (x : UInt32) (n : Nat) (z : Int) (hz : z = -(n : Int)) (hn : 0 < n) (hn2 : n < 32) (w : World) :
    Calls Tryd.prog 105 #[.int .u32 (x.toNat : Int), .int .i64 z] w fun e w' => e = .returned (.int .u32 ((rr x n).toNat : Int)) ∧ w' = w := by
  subst hz
  have hx := lt32 x
  have h1 := and31 n hn hn2
  obtain ⟨m, hm⟩ : ∃ m : Nat, m = 32 - n := ⟨_, rfl⟩
  rw [← hm] at h1
  have hm2 : 32 - m = n := by omega
  have hm3 : m < 32 := by omega
  have HM := Lib.hid hm
  have HM2 := Lib.hid hm2
  clear hm hm2
  go_enter Tryd.func105, Tryd.ntmps105
  go_wp2
  go_ret
  refine ⟨?_, rfl⟩
  show Ending.returned (.int .u32 (bits .or .u32 ((x.toNat : Int) * 2 ^ m % 4294967296) ((x.toNat : Int) / 2 ^ (32 - m)))) = _
  rw [HM2.out, us x n hn2, HM.out, ul x (32 - n) (by omega), uo, UInt32.or_comm]
  rfl

set_option maxRecDepth 100000 in
theorem rotr_any (x : UInt32) (n : Nat) (z : Int) (hz : z = (n : Int)) (hn : 0 < n) (hn2 : n < 32) (w : World) :
    Calls Tryd.prog 104 #[.int .u32 (x.toNat : Int), .int .i64 z] w fun e w' => e = .returned (.int .u32 ((rr x n).toNat : Int)) ∧ ∃ q, w' = w.drewN q := by
  subst hz
  have hx := lt32 x
  go_enter Tryd.func104, Tryd.ntmps104
  go_wp2_with ((refine wp_region_quiet_lit (by kernel_rfl) (by kernel_rfl) ?_; (repeat (first | fail | go_big_quiet_step (fail))); refine wpQuiet_nil ?_; intro _ hw'; obtain ⟨nq, hw''⟩ := hw'; subst hw''))
  go_ret
  refine ⟨?_, _, rfl⟩
  show Ending.returned (.int .u32 (bits .or .u32 ((x.toNat : Int) / 2 ^ n) ((x.toNat : Int) * 2 ^ (32 - n) % 4294967296))) = _
  rw [us x n hn2, ul x (32 - n) (by omega), uo]
  rfl
end Go.Proofs.YtdlhkhnoigbhjaaDoor.Wi
namespace Go.Proofs.YtdlhkhnoigbhjaaDoor.Pu
open Go

/-- four bytes, the first one the highest -/
def be32 (a b c d : UInt8) : UInt32 := a.toUInt32 <<< 24 ||| b.toUInt32 <<< 16 ||| c.toUInt32 <<< 8 ||| d.toUInt32
def sg0 (x : UInt32) : UInt32 := rr x 7 ^^^ rr x 18 ^^^ x >>> 3
def sg1 (x : UInt32) : UInt32 := rr x 17 ^^^ rr x 19 ^^^ x >>> 10
def gw (l : List UInt32) (i : Nat) : UInt32 := l.getD i 0
def gb (l : List UInt8) (i : Nat) : UInt8 := l.getD i 0
def nextw (l : List UInt32) : UInt32 := gw l (l.length - 16) + sg0 (gw l (l.length - 15)) + gw l (l.length - 7) + sg1 (gw l (l.length - 2))
def growW : Nat → List UInt32 → List UInt32
  | 0, l => l
  | k + 1, l => growW k (l ++ [nextw l])
def w16 (b : List UInt8) : Nat → List UInt32
  | 0 => []
  | k + 1 => w16 b k ++ [be32 (gb b (4 * k)) (gb b (4 * k + 1)) (gb b (4 * k + 2)) (gb b (4 * k + 3))]
/-- the first t words of a block's schedule -/
def sched (b : List UInt8) (t : Nat) : List UInt32 := growW (t - 16) (w16 b (min t 16))

structure S8 where
  (a b c d e f g h : UInt32)
deriving DecidableEq

def kk : List UInt32 := [
  0x428a2f98, 0x71374491, 0xb5c0fbcf, 0xe9b5dba5, 0x3956c25b, 0x59f111f1, 0x923f82a4, 0xab1c5ed5,
  0xd807aa98, 0x12835b01, 0x243185be, 0x550c7dc3, 0x72be5d74, 0x80deb1fe, 0x9bdc06a7, 0xc19bf174,
  0xe49b69c1, 0xefbe4786, 0x0fc19dc6, 0x240ca1cc, 0x2de92c6f, 0x4a7484aa, 0x5cb0a9dc, 0x76f988da,
  0x983e5152, 0xa831c66d, 0xb00327c8, 0xbf597fc7, 0xc6e00bf3, 0xd5a79147, 0x06ca6351, 0x14292967,
  0x27b70a85, 0x2e1b2138, 0x4d2c6dfc, 0x53380d13, 0x650a7354, 0x766a0abb, 0x81c2c92e, 0x92722c85,
  0xa2bfe8a1, 0xa81a664b, 0xc24b8b70, 0xc76c51a3, 0xd192e819, 0xd6990624, 0xf40e3585, 0x106aa070,
  0x19a4c116, 0x1e376c08, 0x2748774c, 0x34b0bcb5, 0x391c0cb3, 0x4ed8aa4a, 0x5b9cca4f, 0x682e6ff3,
  0x748f82ee, 0x78a5636f, 0x84c87814, 0x8cc70208, 0x90befffa, 0xa4506ceb, 0xbef9a3f7, 0xc67178f2]
def tx (s : S8) (k w : UInt32) : UInt32 := s.h + (rr s.e 6 ^^^ rr s.e 11 ^^^ rr s.e 25) + ((s.e &&& s.f) ^^^ (~~~s.e &&& s.g)) + k + w
def ty (s : S8) : UInt32 := (rr s.a 2 ^^^ rr s.a 13 ^^^ rr s.a 22) + ((s.a &&& s.b) ^^^ (s.a &&& s.c) ^^^ (s.b &&& s.c))
def rnd (s : S8) (k w : UInt32) : S8 := ⟨tx s k w + ty s, s.a, s.b, s.c, s.d + tx s k w, s.e, s.f, s.g⟩
/-- t rounds -/
def rnds (s : S8) (w : List UInt32) : Nat → S8
  | 0 => s
  | t + 1 => rnd (rnds s w t) (gw kk t) (gw w t)
def addS (s r : S8) : S8 := ⟨s.a + r.a, s.b + r.b, s.c + r.c, s.d + r.d, s.e + r.e, s.f + r.f, s.g + r.g, s.h + r.h⟩
def comp (s : S8) (b : List UInt8) : S8 := addS s (rnds s (sched b 64) 64)
def h0 : S8 := ⟨0x6a09e667, 0xbb67ae85, 0x3c6ef372, 0xa54ff53a, 0x510e527f, 0x9b05688c, 0x1f83d9ab, 0x5be0cd19⟩
/-- k blocks -/
def comps (s : S8) (m : List UInt8) : Nat → S8
  | 0 => s
  | k + 1 => comp (comps s m k) ((m.drop (64 * k)).take 64)
def be64 (n : Nat) : List UInt8 := be n 8
def padTail (n : Nat) : List UInt8 := 128 :: (List.replicate ((119 - n % 64) % 64) 0 ++ be64 (8 * n))
def padded (m : List UInt8) : List UInt8 := m ++ padTail m.length
def outW (x : UInt32) : List UInt8 := [bt ((x >>> 24).toNat : Int), bt ((x >>> 16).toNat : Int), bt ((x >>> 8).toNat : Int), bt (x.toNat : Int)]
def outS (s : S8) : List UInt8 := [s.a, s.b, s.c, s.d, s.e, s.f, s.g, s.h].flatMap outW
def sha (m : List UInt8) : List UInt8 := outS (comps h0 (padded m) ((padded m).length / 64))
def padKey (key : List UInt8) (c : UInt8) : List UInt8 := let k := if 64 < key.length then sha key else key; (k ++ List.replicate (64 - k.length) 0).map (· ^^^ c)
def mac (key text : List UInt8) : List UInt8 := sha (padKey key 0x5c ++ sha (padKey key 0x36 ++ text))

set_option maxRecDepth 100000 in
theorem sha_abc : sha [97, 98, 99] = [186, 120, 22, 191, 143, 1, 207, 234, 65, 65, 64, 222, 93, 174, 34, 35, 176, 3, 97, 163, 150, 23, 122, 156, 180, 16, 255, 97, 242, 0, 21, 173] := by kernel_rfl
end Go.Proofs.YtdlhkhnoigbhjaaDoor.Pu
namespace Go.Proofs.YtdlhkhnoigbhjaaDoor.Lb
open Go Go.RowKit Go.Lib
variable {P : Program} {ops : Array Oper} {a : Act} {w : World} {rest : List Oper} {o : Oper}
theorem wpQuiet_at_blk {C : World → Prop} {Q : Act → Prop} (x i : Operand) (t : TypeId) (ho : o.op = .indexAddr t x i) (hw : Region.wanted o (yielded ops a.tmps) = true) {e : TypeId} {n : Nat} (ht : P.underlying t = some (.array n e)) (hi : (P.info? e).map (·.size) = some 1)
    {B : Nat} (hx : a.eval x = .pointer (some ⟨B, 0, none⟩)) (k : Nat) (hix : IsI (a.eval i) (k : Int)) (hk : k < n)
    (h : wpQuiet P ops C Q rest (a.put o.dst (.pointer (some ⟨B, k, none⟩)))) : wpQuiet P ops C Q (o :: rest) a := by
  obtain ⟨kd, hix⟩ := isI hix
  obtain ⟨ti, hti, hsz⟩ := Option.map_eq_some_iff.1 hi
  refine wpQuiet_of_run hw (v := .pointer (some ⟨B, k, none⟩)) (fun w _ => ?_) h
  unfold execOp
  simp [ho, Instr.indexAt, hx, hix, asIntOf, run_underlying ht, sizeOf, typeInfo, hti, hsz, Instr.sureAddr, hk, Addr.add_lit]
end Go.Proofs.YtdlhkhnoigbhjaaDoor.Lb
namespace Go.Proofs.YtdlhkhnoigbhjaaDoor.Wi
open Go Go.RowKit Pu Lb
def uv (l : List UInt32) : List Value := l.map fun x => .int .u32 (x.toNat : Int)
theorem uv_length (l : List UInt32) : (uv l).length = l.length := by simp [uv]
theorem uv_append (l r : List UInt32) : uv (l ++ r) = uv l ++ uv r := by simp [uv]
theorem uv_get {l : List UInt32} {k : Nat} (h : k < l.length) : (uv l)[k]? = some (.int .u32 ((gw l k).toNat : Int)) := by simp [uv, gw, h]
theorem uv_one (l : List UInt32) : ∀ u ∈ uv l, u.oneCell' = true := by
  intro u hu
  obtain ⟨_, _, rfl⟩ := List.mem_map.1 hu
  rfl
theorem sz_u32 : (Tryd.prog.info? 90).map (·.size) = some 1 := by kernel_rfl
theorem ld_u32 (ad : Addr) (u : Value) (w : World) (h : w.cell? ad = some u) : (loadVar 90 ad).run Tryd.prog w = .ok u w := load_one _ _ Tryd.underlying90 rfl ad u w h
theorem sz_u64 : (Tryd.prog.info? 93).map (·.size) = some 1 := by kernel_rfl
theorem ld_u64 (ad : Addr) (u : Value) (w : World) (h : w.cell? ad = some u) : (loadVar 93 ad).run Tryd.prog w = .ok u w := load_one _ _ Tryd.underlying93 rfl ad u w h
theorem zr_w64 : (Tryd.prog.info? 119).map (·.zero) = some (some (.agg (Array.replicate 64 (.int .u32 0)))) := by kernel_rfl
theorem sz_w64 : (Tryd.prog.info? 119).map (·.size) = some 64 := by kernel_rfl
theorem zr_w8 : (Tryd.prog.info? 91).map (·.zero) = some (some (.agg (Array.replicate 8 (.int .u32 0)))) := by kernel_rfl
theorem sz_w8 : (Tryd.prog.info? 91).map (·.size) = some 8 := by kernel_rfl
theorem zr_w4 : (Tryd.prog.info? 121).map (·.zero) = some (some (.agg (Array.replicate 4 (.int .u32 0)))) := by kernel_rfl
theorem sz_w4 : (Tryd.prog.info? 121).map (·.size) = some 4 := by kernel_rfl
theorem zr_b32 : (Tryd.prog.info? 99).map (·.zero) = some (some (.agg (Array.replicate 32 (.int .u8 0)))) := by kernel_rfl
theorem sz_b32 : (Tryd.prog.info? 99).map (·.size) = some 32 := by kernel_rfl
theorem sz_stm : (Tryd.prog.info? 95).map (·.size) = some 73 := by kernel_rfl
theorem zr_stm : (Tryd.prog.info? 95).map (·.zero) = some (some (.agg (Array.replicate 8 (.int .u32 0) ++ Array.replicate 64 (.int .u8 0) ++ #[.int .u64 0]))) := by kernel_rfl
theorem zeros_u32 (n : Nat) : (Value.agg (Array.replicate n (.int .u32 0))).cells = (List.replicate n (.int .u32 0)).toArray := by simp [Value.cells]

set_option maxRecDepth 100000 in
theorem mix_any (x : UInt32) (i j k : Nat) (zi zj zk : Int) (ei : zi = (i : Int)) (ej : zj = (j : Int)) (ek : zk = (k : Int)) (hi : 0 < i ∧ i < 32) (hj : 0 < j ∧ j < 32) (hk : 0 < k ∧ k < 32) (w : World) :
    Calls Tryd.prog 99 #[.int .u32 (x.toNat : Int), .int .i64 zi, .int .i64 zj, .int .i64 zk] w fun e w' => e = .returned (.int .u32 ((rr x i ^^^ rr x j ^^^ rr x k).toNat : Int)) ∧ w' = w := by
  subst ei; subst ej; subst ek
  have hx := lt32 x
  go_enter Tryd.func99, Tryd.ntmps99
  go_wp2_with (first | (go_at_call 105; (with_reducible refine (rotl_any x i _ rfl hi.1 hi.2 _).mono ?_); rintro e w' ⟨rfl, rfl⟩) | (go_at_call 105; (with_reducible refine (rotl_any x j _ rfl hj.1 hj.2 _).mono ?_); rintro e w' ⟨rfl, rfl⟩) | (go_at_call 105; (with_reducible refine (rotl_any x k _ rfl hk.1 hk.2 _).mono ?_); rintro e w' ⟨rfl, rfl⟩))
  go_ret
  refine ⟨?_, rfl⟩
  show Ending.returned (.int .u32 (bits .xor .u32 (bits .xor .u32 ((rr x i).toNat : Int) ((rr x j).toNat : Int)) ((rr x k).toNat : Int))) = _
  rw [ux, ux]
end Go.Proofs.YtdlhkhnoigbhjaaDoor.Wi
namespace Go.Proofs.YtdlhkhnoigbhjaaDoor.Pu
open Go
theorem growW_step : ∀ (k : Nat) (l : List UInt32), growW (k + 1) l = growW k l ++ [nextw (growW k l)]
  | 0, _ => rfl
  | k + 1, l => by
    have := growW_step k (l ++ [nextw l])
    exact this
theorem growW_len : ∀ (k : Nat) (l : List UInt32), (growW k l).length = l.length + k
  | 0, _ => rfl
  | k + 1, l => by
    have := growW_len k (l ++ [nextw l])
    rw [growW, this, List.length_append]; simp; omega
theorem w16_len (b : List UInt8) : ∀ k, (w16 b k).length = k
  | 0 => rfl
  | k + 1 => by rw [w16, List.length_append, w16_len]; rfl
theorem sched_len (b : List UInt8) (t : Nat) : (sched b t).length = t := by
  unfold sched
  rw [growW_len, w16_len]; omega
theorem sched_zero (b : List UInt8) : sched b 0 = [] := rfl
theorem sched_low (b : List UInt8) {t : Nat} (h : t < 16) : sched b (t + 1) = sched b t ++ [be32 (gb b (4 * t)) (gb b (4 * t + 1)) (gb b (4 * t + 2)) (gb b (4 * t + 3))] := by
  unfold sched
  rw [show t + 1 - 16 = 0 by omega, show t - 16 = 0 by omega, Nat.min_eq_left (by omega : t + 1 ≤ 16), Nat.min_eq_left (by omega : t ≤ 16)]
  rfl
theorem sched_high (b : List UInt8) {t : Nat} (h : 16 ≤ t) : sched b (t + 1) = sched b t ++ [nextw (sched b t)] := by
  unfold sched
  rw [show t + 1 - 16 = (t - 16) + 1 by omega, Nat.min_eq_right (by omega : 16 ≤ t + 1), Nat.min_eq_right h, growW_step]
/-- byte by byte -/
def acc32 (b : List UInt8) (t : Nat) : Nat → UInt32
  | 0 => 0
  | j + 1 => acc32 b t j <<< 8 ||| (gb b (4 * t + j)).toUInt32
theorem shl_shl (x : UInt32) (i j : Nat) (h : i + j < 32) : (x <<< UInt32.ofNat i) <<< UInt32.ofNat j = x <<< UInt32.ofNat (i + j) := by
  apply UInt32.toNat_inj.1
  rw [UInt32.toNat_shiftLeft, UInt32.toNat_shiftLeft, UInt32.toNat_shiftLeft, ofn (by omega), ofn (by omega), ofn (by omega), Nat.mod_eq_of_lt (by omega : i < 32), Nat.mod_eq_of_lt (by omega : j < 32), Nat.mod_eq_of_lt h]
  simp only [Nat.shiftLeft_eq]
  rw [Nat.mod_mul_mod, Nat.mul_assoc, ← Nat.pow_add]
theorem or_shl (x y z : UInt32) : (x ||| y) <<< z = x <<< z ||| y <<< z := by
  apply UInt32.toBitVec_inj.1
  rw [UInt32.toBitVec_or, UInt32.toBitVec_shiftLeft, UInt32.toBitVec_shiftLeft, UInt32.toBitVec_shiftLeft, UInt32.toBitVec_or]
  exact BitVec.shiftLeft_or_distrib _ _ _
theorem acc_be (b : List UInt8) (t : Nat) : acc32 b t 4 = be32 (gb b (4 * t)) (gb b (4 * t + 1)) (gb b (4 * t + 2)) (gb b (4 * t + 3)) := by
  simp only [acc32, be32, Nat.add_zero]
  have h8 : ∀ x : UInt32, (x <<< 8) <<< 8 = x <<< 16 := fun x => shl_shl x 8 8 (by omega)
  have h16 : ∀ x : UInt32, (x <<< 16) <<< 8 = x <<< 24 := fun x => shl_shl x 16 8 (by omega)
  have h0 : (0 : UInt32) <<< 8 = 0 := by decide
  simp only [h0, UInt32.zero_or, or_shl, h8, h16]
end Go.Proofs.YtdlhkhnoigbhjaaDoor.Pu
namespace Go.Proofs.YtdlhkhnoigbhjaaDoor.Wi
open Go Go.RowKit Pu Lb

/-- the block of the words so far -/
def wcells (l : List UInt32) : List Value := uv l ++ List.replicate (64 - l.length) (.int .u32 0)
theorem wcells_len {l : List UInt32} (h : l.length ≤ 64) : (wcells l).length = 64 := by
  unfold wcells
  rw [List.length_append, uv_length, List.length_replicate]; omega
theorem wcells_get {l : List UInt32} {k : Nat} (h : k < l.length) : (wcells l)[k]? = some (.int .u32 ((gw l k).toNat : Int)) := by
  unfold wcells
  rw [List.getElem?_append_left (by rw [uv_length]; exact h), uv_get h]
theorem wcells_top {l : List UInt32} (h : l.length < 64) : (wcells l)[l.length]? = some (.int .u32 0) := by
  unfold wcells
  rw [List.getElem?_append_right (by rw [uv_length]; exact Nat.le_refl _), uv_length, Nat.sub_self, List.getElem?_replicate, if_pos (by omega)]
theorem wcells_set {l : List UInt32} {x : UInt32} (h : l.length < 64) : (wcells l).set l.length (.int .u32 (x.toNat : Int)) = wcells (l ++ [x]) := by
  unfold wcells
  have := fill_step (pre := uv l) (n := 64) (q := l.length) (uv_length l) h (.int .u32 0) (.int .u32 (x.toNat : Int))
  rw [this, uv_append, List.length_append]
  rfl

theorem wcells_zero {l : List UInt32} (h : l.length < 64) : wcells (l ++ [0]) = wcells l := by
  unfold wcells
  rw [uv_append, List.length_append, List.append_assoc, show 64 - l.length = (64 - (l.length + 1)) + 1 by omega, List.replicate_succ]
  rfl
theorem gw_top (l : List UInt32) (x : UInt32) : gw (l ++ [x]) l.length = x := by simp [gw]
theorem wcells_reset {l : List UInt32} {x y : UInt32} (h : l.length < 64) : (wcells (l ++ [x])).set l.length (.int .u32 (y.toNat : Int)) = wcells (l ++ [y]) := by
  rw [← wcells_set h, List.set_set, wcells_set h]
theorem wcells_one (l : List UInt32) : ∀ u ∈ wcells l, u.oneCell' = true := by
  intro u hu
  rcases List.mem_append.1 hu with h | h
  · exact uv_one l u h
  · rw [List.eq_of_mem_replicate h]; rfl
theorem wcells_full {l : List UInt32} (h : l.length = 64) : wcells l = uv l := by
  unfold wcells
  rw [h, Nat.sub_self]; simp
theorem part_get {b : List UInt8} {t j n : Nat} (hj : j < n) (h : t + n ≤ b.length) : (bv ((b.drop t).take n))[j]? = some (.int .u8 ((gb b (t + j)).toNat : Int)) := by
  have h1 : ((b.drop t).take n)[j]? = some (gb b (t + j)) := by
    rw [List.getElem?_take, if_pos hj, List.getElem?_drop]
    simp [gb, List.getD_eq_getElem?_getD, show t + j < b.length by omega]
  exact bv_at h1
theorem sg0_eq (x : UInt32) : bits .xor .u32 (bits .xor .u32 ((rr x 7).toNat : Int) ((rr x 18).toNat : Int)) ((x.toNat : Int) / 8) = ((sg0 x).toNat : Int) := by
  have h := us x 3 (by omega)
  rw [show (8 : Int) = 2 ^ 3 from rfl, h, ux, ux]
  rfl
theorem sg1_eq (x : UInt32) : bits .xor .u32 (bits .xor .u32 ((rr x 17).toNat : Int) ((rr x 19).toNat : Int)) ((x.toNat : Int) / 1024) = ((sg1 x).toNat : Int) := by
  have h := us x 10 (by omega)
  rw [show (1024 : Int) = 2 ^ 10 from rfl, h, ux, ux]
  rfl
theorem up4 (a b c d : UInt32) : ((a.toNat : Int) + (b.toNat : Int) + (c.toNat : Int) + (d.toNat : Int)) % 4294967296 = ((a + b + c + d).toNat : Int) := by
  rw [← up, ← up, ← up]; omega
theorem acc_step (b : List UInt8) (t j : Nat) : bits .or .u32 ((acc32 b t j).toNat * 256 % 4294967296 : Int) ((gb b (4 * t + j)).toNat : Int) = ((acc32 b t (j + 1)).toNat : Int) := by
  have h1 := ul (acc32 b t j) 8 (by omega)
  rw [show (256 : Int) = 2 ^ 8 from rfl, h1, show ((gb b (4 * t + j)).toNat : Int) = ((gb b (4 * t + j)).toUInt32.toNat : Int) by rw [UInt8.toNat_toUInt32], uo]
  rfl

set_option maxRecDepth 100000 in
set_option maxHeartbeats 1600000 in
theorem schedule_any (v : Value) (b : List UInt8) (w : World) (hv : Rd w 1 v 64 (bv b)) :
    Calls Tryd.prog 98 #[v] w fun e w' => e = .returned (.agg (uv (sched b 64)).toArray) ∧ Below w.heap.size w w' := by
  have hl : b.length = 64 := by have := hv.1; rw [bv_length] at this; omega
  have HL := Lib.hid hl; clear hl
  go_enter Tryd.func98, Tryd.ntmps98
  go_upto_region 1 with (((with_reducible refine' wpList_alloc_blk (cs := List.replicate 64 (.int .u32 0)) 119 rfl ?_ zr_w64 ?_ ?_); exact rfl; exact zeros_u32 64; intro w1 hkA hN1 hz1; simp only [Act.put, List.setIfInBounds_toArray, List.set_cons_succ, List.set_cons_zero]))
  go_wp2_with (((with_reducible refine' wpList_alloc_blk (cs := List.replicate 64 (.int .u32 0)) 119 rfl ?_ zr_w64 ?_ ?_); exact rfl; exact zeros_u32 64; intro w2 hkB hN2 hz2; simp only [Act.put, List.setIfInBounds_toArray, List.set_cons_succ, List.set_cons_zero]))
  have hb := hN1.trans (hN2.mono hN1.size)
  replace hkA := hkA.below hN2 (by omega)
  have hlt1 : w.heap.size < w1.heap.size := by omega
  clear hz1 hz2
  go_loopw [11] (fun i wr => ∃ t : Nat, t ≤ 64 ∧ i = .int .i64 t ∧ Blk wr w1.heap.size 119 (wcells (sched b t)) ∧ Blk wr w.heap.size 119 (List.replicate 64 (.int .u32 0)) ∧ Below w.heap.size w wr) (fun i _ => 64 - (intOf i).toNat)
  case atStart => exact ⟨0, by omega, rfl, hkB, hkA, hb⟩
  case round =>
    obtain ⟨t, ht, rfl, hkW, hkR, hbl⟩ := hrel
    have hsl := sched_len b t
    have hwl := wcells_len (l := sched b t) (by omega)
    by_cases hlt : t < 64
    · obtain ⟨wo, rfl⟩ : ∃ wo : World, wo = wr := ⟨_, rfl⟩
      have hset : ∀ x : UInt32, (wcells (sched b t)).set t (.int .u32 (x.toNat : Int)) = wcells (sched b t ++ [x]) := fun x => by
        have := wcells_set (l := sched b t) (x := x) (by omega)
        rwa [hsl] at this
      have HSET := Lib.hid hset
      have HSL := Lib.hid hsl
      have HK := Lib.hid hkW
      clear hset hsl hkW
      go_upto_block 1 with fail
      go_cut [] (fun w' => Blk w' w1.heap.size 119 (wcells (sched b (t + 1))) ∧ Blk w' w.heap.size 119 (List.replicate 64 (.int .u32 0)) ∧ Below w.heap.size w w')
      case first =>
        by_cases h16 : t < 16
        · go_wp2_with (first | (((with_reducible refine' wpList_cut_b (.tmp 16) (.tmp 18) (.tmp 21) 49 rfl ?_ Tryd.underlying49 sz_u8 ?_ hv (4 * t) (4 * t + 4) ?_ ?_ ?_ ?_ ?_); exact rfl; exact rfl; (show (_ : Int) = _; omega); (show (_ : Int) = _; omega); omega; omega; intro v1 r1; simp only [Act.put, List.setIfInBounds_toArray, List.set_cons_succ, List.set_cons_zero]); rw [show 4 * t + 4 - 4 * t = 4 by omega] at r1) | ((with_reducible refine' wpList_len_rd (.tmp 22) 49 rfl ?_ Tryd.underlying49 ?_ r1 ?_); exact rfl; exact rfl; simp only [Act.put, List.setIfInBounds_toArray, List.set_cons_succ, List.set_cons_zero]))
          go_loopw [24] (fun i wr => ∃ j : Nat, j ≤ 4 ∧ i = .int .i64 j ∧ Blk wr w1.heap.size 119 (wcells (sched b t ++ [acc32 b t j])) ∧ Blk wr w.heap.size 119 (List.replicate 64 (.int .u32 0)) ∧ Below w.heap.size w wr) (fun i _ => 4 - (intOf i).toNat)
          case atStart => exact ⟨0, by omega, rfl, by rw [acc32, wcells_zero (by rw [HSL.out]; exact hlt)]; exact HK.out, hkR, hbl⟩
          case round =>
            obtain ⟨j, hj, rfl, hkj, hkR2, hbj⟩ := hrel
            have HJ := Lib.hid hkj
            clear hkj
            have rj := r1.below hbj
            by_cases hj4 : j < 4
            · have hc := part_get (b := b) (t := 4 * t) (n := 4) hj4 (by rw [HL.out]; omega)
              have hlen : t < (wcells (sched b t ++ [acc32 b t j])).length := by rw [wcells_len (by rw [List.length_append, HSL.out]; simp; omega)]; exact hlt
              have hw := wcells_get (l := sched b t ++ [acc32 b t j]) (k := t) (by rw [List.length_append, HSL.out]; simp)
              have ht2 := gw_top (sched b t) (acc32 b t j)
              rw [HSL.out] at ht2
              rw [ht2] at hw
              have hre := wcells_reset (l := sched b t) (x := acc32 b t j) (y := acc32 b t (j + 1)) (by rw [HSL.out]; exact hlt)
              rw [HSL.out, ← acc_step] at hre
              have hax := lt32 (acc32 b t j)
              have hby := u8_lt (gb b (4 * t + j))
              have C := Lib.hid hc
              have W := Lib.hid hw
              have RE := Lib.hid hre
              clear hc hw ht2 hre
              go_wp2_with (first | ((with_reducible refine' wpList_at1_rd (.tmp 22) (.tmp 24) 49 rfl ?_ Tryd.underlying49 sz_u8 ?_ r1 (j) ?_ ?_ ?_); exact rfl; exact rfl; (show (_ : Int) = _; omega); omega; simp only [Act.put, List.setIfInBounds_toArray, List.set_cons_succ, List.set_cons_zero]) | ((with_reducible refine' wpList_load_rd (.tmp 26) 5 rfl ?_ ld_u8 ?_ rj (C.out) ?_); exact rfl; exact rfl; simp only [Act.put, List.setIfInBounds_toArray, List.set_cons_succ, List.set_cons_zero]) | ((with_reducible refine' wpList_at_blk (.tmp 3) (.tmp 29) 119 rfl ?_ Tryd.underlying119 sz_u32 ?_ (t) ?_ ?_ ?_); exact rfl; exact rfl; (show (_ : Int) = _; omega); omega; simp only [Act.put, List.setIfInBounds_toArray, List.set_cons_succ, List.set_cons_zero]) | ((with_reducible refine' wpList_load_blk (.tmp 30) 90 rfl ?_ ld_u32 ?_ HJ.out (W.out) ?_); exact rfl; exact rfl; simp only [Act.put, List.setIfInBounds_toArray, List.set_cons_succ, List.set_cons_zero]) | ((with_reducible refine' wpList_at_blk (.tmp 3) (.tmp 28) 119 rfl ?_ Tryd.underlying119 sz_u32 ?_ (t) ?_ ?_ ?_); exact rfl; exact rfl; (show (_ : Int) = _; omega); omega; simp only [Act.put, List.setIfInBounds_toArray, List.set_cons_succ, List.set_cons_zero]) | (((with_reducible refine' wpList_set_blk (u := .int .u32 (bits .or .u32 ((acc32 b t j).toNat * 256 % 4294967296) ((gb b (4 * t + j)).toNat : Int))) 90 (.tmp 36) (.tmp 35) rfl ?_ sz_u32 ?_ ?_ HJ.out (hlen) ?_ ?_); exact rfl; exact rfl; exact rfl; exact rfl; intro w4 hk4 hq4 hz4; simp only [Act.put]); rw [RE.out] at hk4; have HK4 := Lib.hid hk4; clear hk4; have hb4 := hbj.trans (hq4.below (by omega) hbj.size); have hkR4 := hq4.blk hkR2 (by omega)))
              go_roundw
              case rel => exact ⟨j + 1, by omega, by go_num, HK4.out, hkR4, hb4⟩
              case measure => simp [intOf]; omega
            · obtain rfl : j = 4 := by omega
              go_wp2_with fail
              go_meet
              case rel =>
                have h := HJ.out
                rw [acc_be, ← sched_low b h16] at h
                exact ⟨h, hkR2, hbj⟩
        · have hW1 := wcells_get (l := sched b t) (k := t - 15) (by rw [HSL.out]; omega)
          have hW2 := wcells_get (l := sched b t) (k := t - 2) (by rw [HSL.out]; omega)
          have hW3 := wcells_get (l := sched b t) (k := t - 16) (by rw [HSL.out]; omega)
          have hW4 := wcells_get (l := sched b t) (k := t - 7) (by rw [HSL.out]; omega)
          obtain ⟨x1, hx1⟩ : ∃ x, gw (sched b t) (t - 15) = x := ⟨_, rfl⟩
          obtain ⟨x2, hx2⟩ : ∃ x, gw (sched b t) (t - 2) = x := ⟨_, rfl⟩
          obtain ⟨x3, hx3⟩ : ∃ x, gw (sched b t) (t - 16) = x := ⟨_, rfl⟩
          obtain ⟨x4, hx4⟩ : ∃ x, gw (sched b t) (t - 7) = x := ⟨_, rfl⟩
          rw [hx1] at hW1; rw [hx2] at hW2; rw [hx3] at hW3; rw [hx4] at hW4
          have W1 := Lib.hid hW1; have W2 := Lib.hid hW2; have W3 := Lib.hid hW3; have W4 := Lib.hid hW4
          have X1 := Lib.hid hx1; have X2 := Lib.hid hx2; have X3 := Lib.hid hx3; have X4 := Lib.hid hx4
          clear hW1 hW2 hW3 hW4 hx1 hx2 hx3 hx4
          have hlen : t < (wcells (sched b t)).length := by rw [hwl]; exact hlt
          have e9 := sg0_eq x1; have e10 := sg1_eq x2
          obtain ⟨g0, hg0⟩ : ∃ x, sg0 x1 = x := ⟨_, rfl⟩
          obtain ⟨g1, hg1⟩ : ∃ x, sg1 x2 = x := ⟨_, rfl⟩
          rw [hg0] at e9; rw [hg1] at e10
          have G0 := Lib.hid hg0; have G1 := Lib.hid hg1
          clear hg0 hg1
          have hb5 := lt32 g0; have hb6 := lt32 g1
          have hb1 := lt32 x1; have hb2 := lt32 x2; have hb3 := lt32 x3; have hb4 := lt32 x4
          go_wp2_with (first
            | (refine wp_region_quiet_lit (by kernel_rfl) (by kernel_rfl) ?_; (repeat (first | ((with_reducible refine' wpQuiet_at_blk (.tmp 3) (.tmp 39) 119 rfl ?_ Tryd.underlying119 sz_u32 ?_ (t - 15) ?_ ?_ ?_); exact rfl; exact rfl; (show (_ : Int) = _; omega); omega; simp only [Act.put, List.setIfInBounds_toArray, List.set_cons_succ, List.set_cons_zero]) | ((with_reducible refine' wpQuiet_load_blk (fun _ h => h) (.tmp 40) 90 rfl ?_ ld_u32 ?_ HK.out (W1.out) ?_); exact rfl; exact rfl; simp only [Act.put, List.setIfInBounds_toArray, List.set_cons_succ, List.set_cons_zero]) | ((with_reducible refine' wpQuiet_at_blk (.tmp 3) (.tmp 43) 119 rfl ?_ Tryd.underlying119 sz_u32 ?_ (t - 2) ?_ ?_ ?_); exact rfl; exact rfl; (show (_ : Int) = _; omega); omega; simp only [Act.put, List.setIfInBounds_toArray, List.set_cons_succ, List.set_cons_zero]) | ((with_reducible refine' wpQuiet_load_blk (fun _ h => h) (.tmp 44) 90 rfl ?_ ld_u32 ?_ HK.out (W2.out) ?_); exact rfl; exact rfl; simp only [Act.put, List.setIfInBounds_toArray, List.set_cons_succ, List.set_cons_zero]) | go_big_quiet_step (fail))); refine wpQuiet_nil ?_; intro _ hw'; obtain ⟨nq, hw''⟩ := hw'; subst hw'')
            | (go_at_call 105; (with_reducible refine (rotl_any x1 7 (-7) rfl (by omega) (by omega) _).mono ?_); rintro e w' ⟨rfl, rfl⟩)
            | (go_at_call 105; (with_reducible refine (rotl_any x1 18 (-18) rfl (by omega) (by omega) _).mono ?_); rintro e w' ⟨rfl, rfl⟩)
            | (go_at_call 105; (with_reducible refine (rotl_any x2 17 (-17) rfl (by omega) (by omega) _).mono ?_); rintro e w' ⟨rfl, rfl⟩)
            | (go_at_call 105; (with_reducible refine (rotl_any x2 19 (-19) rfl (by omega) (by omega) _).mono ?_); rintro e w' ⟨rfl, rfl⟩))
          (refine wp_region_tail 15 (by kernel_rfl) (by kernel_rfl) ?_; simp only [List.take_succ_cons, List.take_zero, List.drop_succ_cons, List.drop_zero]; (repeat (first | ((with_reducible refine' wpQuiet_at_blk (.tmp 3) (.tmp 64) 119 rfl ?_ Tryd.underlying119 sz_u32 ?_ (t - 16) ?_ ?_ ?_); exact rfl; exact rfl; (show (_ : Int) = _; omega); omega; simp only [Act.put, List.setIfInBounds_toArray, List.set_cons_succ, List.set_cons_zero]) | ((with_reducible refine' wpQuiet_load_blk still_drew (.tmp 65) 90 rfl ?_ ld_u32 ?_ (Blk.drewN HK.out nq) (W3.out) ?_); exact rfl; exact rfl; simp only [Act.put, List.setIfInBounds_toArray, List.set_cons_succ, List.set_cons_zero]) | ((with_reducible refine' wpQuiet_at_blk (.tmp 3) (.tmp 70) 119 rfl ?_ Tryd.underlying119 sz_u32 ?_ (t - 7) ?_ ?_ ?_); exact rfl; exact rfl; (show (_ : Int) = _; omega); omega; simp only [Act.put, List.setIfInBounds_toArray, List.set_cons_succ, List.set_cons_zero]) | ((with_reducible refine' wpQuiet_load_blk still_drew (.tmp 71) 90 rfl ?_ ld_u32 ?_ (Blk.drewN HK.out nq) (W4.out) ?_); exact rfl; exact rfl; simp only [Act.put, List.setIfInBounds_toArray, List.set_cons_succ, List.set_cons_zero]) | ((with_reducible refine' wpQuiet_at_blk (.tmp 3) (.tmp 62) 119 rfl ?_ Tryd.underlying119 sz_u32 ?_ (t) ?_ ?_ ?_); exact rfl; exact rfl; (show (_ : Int) = _; omega); omega; simp only [Act.put, List.setIfInBounds_toArray, List.set_cons_succ, List.set_cons_zero]) | go_big_quiet_step (fail))); refine wpQuiet_nil ?_; show wpList _ _ _ _ _ _)
          (with_reducible refine' wpList_set_blk 90 (.tmp 76) (.tmp 75) rfl ?_ sz_u32 ?_ rfl (Blk.drew (Blk.drewN HK.out nq)) hlen ?_ ?_); exact rfl; exact rfl; exact rfl; intro w4 hk4 hq4 hz4
          simp [Act.eval] at hk4
          go_wp2
          go_meet
          case rel =>
            refine ⟨?_, hq4.blk hkR (by omega), (below_drew (below_drewN hbl nq)).trans (hq4.below (by omega) hbl.size)⟩
            have hn : nextw (sched b t) = x3 + g0 + x4 + g1 := by
              unfold nextw
              rw [HSL.out, X1.out, X2.out, X3.out, X4.out, G0.out, G1.out]
            rw [up4, HSET.out] at hk4
            rw [sched_high b (by omega), hn]
            exact hk4
      case rest =>
        obtain ⟨hk3, hk4, hb3⟩ := hcut
        have HK3 := Lib.hid hk3
        clear hk3
        go_wp2_with fail
        go_roundw
        case rel => exact ⟨t + 1, by omega, by go_num, HK3.out, hk4, hb3⟩
        case measure => simp [intOf]; omega
    · obtain rfl : t = 64 := by omega
      go_wp2_with (first | ((with_reducible refine' wpList_loadall_blk (.tmp 3) 119 rfl ?_ Tryd.underlying119 sz_w64 ?_ hkW ?_ ?_ ?_); exact rfl; exact rfl; exact hwl; omega; simp only [Act.put, List.setIfInBounds_toArray, List.set_cons_succ, List.set_cons_zero]) | ((with_reducible refine' wpList_store_blk (cs := (wcells (sched b 64))) 119 (.tmp 2) (.tmp 78) rfl ?_ ?_ ?_ hkR sz_w64 ?_ ?_ ?_ ?_); exact rfl; exact rfl; exact rfl; exact hwl; simp; exact wcells_one _; intro w3 hk3 hO3 hz3; simp only [Act.put]))
      rw [wcells_full hsl] at hk3
      ((try simp only [Exit.inBlock, Exit.then]); refine bodyPost_ret (results_cell_row rfl _ _ _ _ _ _ _ rfl hk3 Tryd.underlying119 rfl (by rw [sz_w64]; simp [uv_length, hsl])) rfl ?_)
      exact ⟨rfl, hbl.trans (hO3.below (Nat.le_refl _) hbl.size)⟩
end Go.Proofs.YtdlhkhnoigbhjaaDoor.Wi
namespace Go.Proofs.YtdlhkhnoigbhjaaDoor.Pu
open Go

theorem comps_app (s : S8) (m t : List UInt8) : ∀ k, 64 * k ≤ m.length → comps s (m ++ t) k = comps s m k
  | 0, _ => rfl
  | k + 1, h => by
    rw [comps, comps, comps_app s m t k (by omega), List.drop_append_of_le_length (by omega), List.take_append_of_le_length (by rw [List.length_drop]; omega)]

/-- what a stream holds -/
structure Strm where
  (s : S8) (b : List UInt8) (n : Nat)
def IsS (m : List UInt8) (x : Strm) : Prop := x.b.length = 64 ∧ x.n = m.length ∧ x.s = comps h0 m (m.length / 64) ∧ x.b.take (m.length % 64) = m.drop (64 * (m.length / 64))
theorem isS_nil : IsS [] ⟨h0, List.replicate 64 0, 0⟩ := ⟨rfl, rfl, rfl, rfl⟩
/-- the block with bytes put in -/
def splice (b : List UInt8) (at_ : Nat) (t : List UInt8) : List UInt8 := b.take at_ ++ t ++ b.drop (at_ + t.length)
theorem splice_len {b : List UInt8} {i : Nat} {t : List UInt8} (h : i + t.length ≤ b.length) : (splice b i t).length = b.length := by
  unfold splice
  rw [List.length_append, List.length_append, List.length_take, List.length_drop]; omega
theorem isS_part {m t : List UInt8} {x : Strm} (h : IsS m x) (hk : m.length % 64 + t.length < 64) : IsS (m ++ t) ⟨x.s, splice x.b (m.length % 64) t, x.n + t.length⟩ := by
  obtain ⟨h1, h2, h3, h4⟩ := h
  have e : (m ++ t).length / 64 = m.length / 64 := by rw [List.length_append]; omega
  have e2 : (m ++ t).length % 64 = m.length % 64 + t.length := by rw [List.length_append]; omega
  refine ⟨?_, ?_, ?_, ?_⟩
  · show (splice _ _ _).length = 64
    rw [splice_len (by omega), h1]
  · show x.n + _ = _
    rw [List.length_append, h2]
  · show x.s = _
    rw [e, comps_app _ _ _ _ (by omega), h3]
  · show (splice _ _ _).take _ = _
    rw [e, e2, List.drop_append_of_le_length (by omega), ← h4, splice, List.take_left' (by rw [List.length_append, List.length_take]; omega)]
theorem isS_full {m t : List UInt8} {x : Strm} (h : IsS m x) (hk : m.length % 64 + t.length = 64) : IsS (m ++ t) ⟨comp x.s (splice x.b (m.length % 64) t), splice x.b (m.length % 64) t, x.n + t.length⟩ := by
  obtain ⟨h1, h2, h3, h4⟩ := h
  have e : (m ++ t).length / 64 = m.length / 64 + 1 := by rw [List.length_append]; omega
  have e2 : (m ++ t).length % 64 = 0 := by rw [List.length_append]; omega
  have e3 : splice x.b (m.length % 64) t = (m ++ t).drop (64 * (m.length / 64)) := by
    rw [List.drop_append_of_le_length (by omega), ← h4, splice, List.drop_of_length_le (by omega), List.append_nil]
  refine ⟨?_, ?_, ?_, ?_⟩
  · show (splice _ _ _).length = 64
    rw [splice_len (by omega), h1]
  · show x.n + _ = _
    rw [List.length_append, h2]
  · show comp x.s _ = _
    rw [e, comps, comps_app _ _ _ _ (by omega), ← h3, e3, List.take_of_length_le (by rw [List.length_drop, List.length_append]; omega)]
  · show (splice _ _ _).take _ = _
    rw [e, e2, List.take_zero, List.drop_of_length_le (by rw [List.length_append]; omega)]

/-! ### the padding -/
def zn (n : Nat) : Nat := (119 - n % 64) % 64
theorem be64_len (n : Nat) : (be64 n).length = 8 := be_length _ _
theorem padTail_len (n : Nat) : (padTail n).length = zn n + 9 := by
  unfold padTail zn
  rw [List.length_cons, List.length_append, List.length_replicate, be64_len]
theorem padded_mod (m : List UInt8) : (padded m).length % 64 = 0 := by
  unfold padded
  rw [List.length_append, padTail_len]; unfold zn; omega
/-- the zeros so far are too few -/
theorem zn_lt {n j : Nat} (h : j < zn n) : (n + (j + 1)) % 64 ≠ 56 := by unfold zn at h; omega
theorem zn_eq (n : Nat) : (n + (zn n + 1)) % 64 = 56 := by unfold zn; omega
/-- byte i of the eight -/
theorem be64_get (n : Nat) {i : Nat} (h : i < 8) : (be64 n)[i]? = some (bt ((n / 256 ^ (7 - i) : Nat) : Int)) := by
  unfold be64
  have h1 := le_get n (k := 8) (j := 7 - i) (by omega)
  rw [be_rev, List.getElem?_reverse (by rw [le_length]; exact h), le_length, show 8 - 1 - i = 7 - i by omega, h1]
theorem be64_take (n : Nat) {i : Nat} (h : i < 8) : (be64 n).take (i + 1) = (be64 n).take i ++ [bt ((n / 256 ^ (7 - i) : Nat) : Int)] := by
  have h1 := be64_get n h
  have hl : i < (be64 n).length := by rw [be64_len]; exact h
  rw [List.take_succ_eq_append_getElem hl]
  rw [List.getElem?_eq_getElem hl, Option.some.injEq] at h1
  rw [h1]

/-! ### the bytes of the sum -/
def l8 (s : S8) : List UInt32 := [s.a, s.b, s.c, s.d, s.e, s.f, s.g, s.h]
theorem outS_len (s : S8) : (outS s).length = 32 := rfl
theorem shr_zero (x : UInt32) : x >>> UInt32.ofNat 0 = x := by
  apply UInt32.toNat_inj.1
  rw [UInt32.toNat_shiftRight]; simp
theorem outS_get (s : S8) {i : Nat} (h : i < 32) : (outS s)[i]? = some (bt (((gw (l8 s) (i / 4)) >>> UInt32.ofNat (24 - 8 * (i % 4))).toNat : Int)) := by
  have : i = 0 ∨ i = 1 ∨ i = 2 ∨ i = 3 ∨ i = 4 ∨ i = 5 ∨ i = 6 ∨ i = 7 ∨ i = 8 ∨ i = 9 ∨ i = 10 ∨ i = 11 ∨ i = 12 ∨ i = 13 ∨ i = 14 ∨ i = 15 ∨ i = 16 ∨ i = 17 ∨ i = 18 ∨ i = 19 ∨ i = 20 ∨ i = 21 ∨ i = 22 ∨ i = 23 ∨ i = 24 ∨ i = 25 ∨ i = 26 ∨ i = 27 ∨ i = 28 ∨ i = 29 ∨ i = 30 ∨ i = 31 := by omega
  rcases this with rfl | rfl | rfl | rfl | rfl | rfl | rfl | rfl | rfl | rfl | rfl | rfl | rfl | rfl | rfl | rfl | rfl | rfl | rfl | rfl | rfl | rfl | rfl | rfl | rfl | rfl | rfl | rfl | rfl | rfl | rfl | rfl <;> first | rfl | (show some (bt _) = some (bt _); simp only [gw, l8, Nat.reduceDiv, Nat.reduceMod, Nat.reduceMul, Nat.reduceSub, shr_zero]; rfl)
theorem outS_take (s : S8) {i : Nat} (h : i < 32) : (outS s).take (i + 1) = (outS s).take i ++ [bt (((gw (l8 s) (i / 4)) >>> UInt32.ofNat (24 - 8 * (i % 4))).toNat : Int)] := by
  have h1 := outS_get s h
  have hl : i < (outS s).length := by rw [outS_len]; exact h
  rw [List.take_succ_eq_append_getElem hl]
  rw [List.getElem?_eq_getElem hl, Option.some.injEq] at h1
  rw [h1]
theorem sha_of {m : List UInt8} {x : Strm} (h : IsS (padded m) x) : outS x.s = sha m := by
  unfold sha; rw [h.2.2.1]
theorem sha_len (m : List UInt8) : (sha m).length = 32 := outS_len _
end Go.Proofs.YtdlhkhnoigbhjaaDoor.Pu
namespace Go.Proofs.YtdlhkhnoigbhjaaDoor.Wi
open Go Go.RowKit Pu Lb

/-- the round constants in their place -/
abbrev TabH (w : World) : Prop := Tb w 1 (uv kk)
theorem TabH.below {w w' : World} (h : TabH w) (hb : Below w.heap.size w w') : TabH w' := Tb.below h hb
/-- the sums of the walk, each opaque -/
def pl (x y : UInt32) : UInt32 := x + y
def xr (x y : UInt32) : UInt32 := x ^^^ y
def an (x y : UInt32) : UInt32 := x &&& y
def nt (x : UInt32) : UInt32 := ~~~x
theorem pl_eq (x y : UInt32) : ((x.toNat : Int) + (y.toNat : Int)) % 4294967296 = ((pl x y).toNat : Int) := up x y
theorem pl_eq' (x y : UInt32) : IntKind.u32.wrap ((x.toNat : Int) + (y.toNat : Int)) = ((pl x y).toNat : Int) := by rw [IntKind.wrap_u32]; exact up x y
theorem xr_eq (x y : UInt32) : bits .xor .u32 (x.toNat : Int) (y.toNat : Int) = ((xr x y).toNat : Int) := ux x y
theorem an_eq (x y : UInt32) : bits .and .u32 (x.toNat : Int) (y.toNat : Int) = ((an x y).toNat : Int) := ua x y

def mx (x : UInt32) (i j k : Nat) : UInt32 := rr x i ^^^ rr x j ^^^ rr x k
theorem mx_any (x : UInt32) (i j k : Nat) (zi zj zk : Int) (ei : zi = (i : Int)) (ej : zj = (j : Int)) (ek : zk = (k : Int)) (hi : 0 < i ∧ i < 32) (hj : 0 < j ∧ j < 32) (hk : 0 < k ∧ k < 32) (w : World) :
    Calls Tryd.prog 99 #[.int .u32 (x.toNat : Int), .int .i64 zi, .int .i64 zj, .int .i64 zk] w fun e w' => e = .returned (.int .u32 ((mx x i j k).toNat : Int)) ∧ w' = w := mix_any x i j k zi zj zk ei ej ek hi hj hk w
theorem nt_eq (x : UInt32) : bits .xor .u32 (if IntKind.u32.signed = true then -1 else IntKind.u32.max) (x.toNat : Int) = ((nt x).toNat : Int) := by
  have h : (if IntKind.u32.signed = true then (-1 : Int) else IntKind.u32.max) = ((4294967295 : UInt32).toNat : Int) := by decide
  rw [h, ux]
  congr 2
/-- the state while its words are added: the first half up to i, the second half up to j -/
def adds (s r : S8) (i j : Nat) : List UInt32 := [if 0 < i then pl s.a r.a else s.a, if 1 < i then pl s.b r.b else s.b, if 2 < i then pl s.c r.c else s.c, if 3 < i then pl s.d r.d else s.d,
  if 0 < j then pl s.e r.e else s.e, if 1 < j then pl s.f r.f else s.f, if 2 < j then pl s.g r.g else s.g, if 3 < j then pl s.h r.h else s.h]
theorem four {i : Nat} (h : i < 4) : i = 0 ∨ i = 1 ∨ i = 2 ∨ i = 3 := by omega
theorem adds_at {s r : S8} {i : Nat} (h : i < 4) : (uv (adds s r i i))[i]? = some (.int .u32 ((gw [s.a, s.b, s.c, s.d] i).toNat : Int)) := by
  rcases four h with rfl | rfl | rfl | rfl <;> rfl
theorem adds_at2 {s r : S8} {i : Nat} (h : i < 4) : (uv (adds s r (i + 1) i))[i + 4]? = some (.int .u32 ((gw [s.e, s.f, s.g, s.h] i).toNat : Int)) := by
  rcases four h with rfl | rfl | rfl | rfl <;> rfl
theorem half_at {a b c d : UInt32} {i : Nat} (h : i < 4) : (uv [a, b, c, d])[i]? = some (.int .u32 ((gw [a, b, c, d] i).toNat : Int)) := by
  rcases four h with rfl | rfl | rfl | rfl <;> rfl
theorem adds_set {s r : S8} {i : Nat} (h : i < 4) : (uv (adds s r i i)).set i (.int .u32 ((pl (gw [s.a, s.b, s.c, s.d] i) (gw [r.a, r.b, r.c, r.d] i)).toNat : Int)) = uv (adds s r (i + 1) i) := by
  rcases four h with rfl | rfl | rfl | rfl <;> rfl
theorem adds_set2 {s r : S8} {i : Nat} (h : i < 4) : (uv (adds s r (i + 1) i)).set (i + 4) (.int .u32 ((pl (gw [s.e, s.f, s.g, s.h] i) (gw [r.e, r.f, r.g, r.h] i)).toNat : Int)) = uv (adds s r (i + 1) (i + 1)) := by
  rcases four h with rfl | rfl | rfl | rfl <;> rfl
theorem adds_zero (s r : S8) : adds s r 0 0 = l8 s := rfl
theorem adds_all (s r : S8) : adds s r 4 4 = l8 (addS s r) := rfl
theorem adds_len (s r : S8) (i j : Nat) : (uv (adds s r i j)).length = 8 := rfl
theorem sz_kk : (Tryd.prog.info? 119).map (·.size) = some (uv kk).length := by kernel_rfl
theorem heap_first (w : World) (c d : List Value) {t t' : TypeId} : Blk ((w.alloc (.cells c.toArray t)).alloc (.cells d.toArray t')).drew w.heap.size t c := by
  have h : Blk (w.alloc (.cells c.toArray t)) w.heap.size t c := heap_alloc_new w _
  exact Blk.below h (((Below.refl _ _).alloc (Nat.le_refl _) _).drew) (by rw [World.size_alloc]; omega)
theorem heap_second (w : World) (c d : List Value) {t t' : TypeId} : Blk ((w.alloc (.cells c.toArray t)).alloc (.cells d.toArray t')).drew (w.heap.size + 1) t' d := by
  have h : Blk ((w.alloc (.cells c.toArray t)).alloc (.cells d.toArray t')) (w.alloc (.cells c.toArray t)).heap.size t' d := heap_alloc_new _ _
  rw [World.size_alloc] at h
  exact h
theorem heap_two (w : World) (c d : List Value) {t t' : TypeId} : Below w.heap.size w ((w.alloc (.cells c.toArray t)).alloc (.cells d.toArray t')).drew :=
  (((Below.refl _ w).alloc (Nat.le_refl _) _).alloc (by simp) _).drew

theorem rnds_zero (s : S8) (w : List UInt32) : rnds s w 0 = s := rfl
theorem rnds_succ (s : S8) (w : List UInt32) (t : Nat) : rnds s w (t + 1) = rnd (rnds s w t) (gw kk t) (gw w t) := rfl
theorem comp_eq (s : S8) (b : List UInt8) : comp s b = addS s (rnds s (sched b 64) 64) := rfl
attribute [local irreducible] rnds comp sched
set_option maxRecDepth 100000 in
set_option maxHeartbeats 400000 in
theorem compress_any (v : Value) (s : S8) (b : List UInt8) (w : World) (hT : TabH w) (hv : Rd w 1 v 64 (bv b)) :
    Calls Tryd.prog 90 #[.agg (uv (l8 s)).toArray, v] w fun e w' => e = .returned (.agg (uv (l8 (comp s b))).toArray) ∧ Below w.heap.size w w' := by
  have sl := sched_len b 64
  have SL := Lib.hid sl; clear sl
  go_enter Tryd.func90, Tryd.ntmps90
  go_upto_region 1 with (first | ((with_reducible refine' wpList_boxa (cs := (uv (l8 s))) 91 (.tmp 0) rfl ?_ ?_ ?_); exact rfl; exact rfl; intro w1 hkS hN1 hz1; simp only [Act.put, List.setIfInBounds_toArray, List.set_cons_succ, List.set_cons_zero]) | ((with_reducible refine' wpList_alloc_blk (cs := List.replicate 8 (.int .u32 0)) 91 rfl ?_ zr_w8 ?_ ?_); exact rfl; exact zeros_u32 8; intro w2 hkR hN2 hz2; simp only [Act.put, List.setIfInBounds_toArray, List.set_cons_succ, List.set_cons_zero]))
  have hb := hN1.trans (hN2.mono hN1.size)
  replace hkS := hkS.below hN2 (by omega)
  have hv2 := hv.below hb
  go_upto_region 2 with (first | (go_at_call 98; (with_reducible refine (schedule_any v b w2 hv2).mono ?_); rintro e w' ⟨rfl, hb3⟩) | ((with_reducible refine' wpList_alloc_blk (cs := List.replicate 64 (.int .u32 0)) 119 rfl ?_ zr_w64 ?_ ?_); exact rfl; exact zeros_u32 64; intro w4 hkW hN4 hz4; simp only [Act.put, List.setIfInBounds_toArray, List.set_cons_succ, List.set_cons_zero]) | ((with_reducible refine' wpList_store_blk (cs := (uv (sched b 64))) 119 (.tmp 5) (.tmp 14) rfl ?_ ?_ ?_ hkW sz_w64 ?_ ?_ ?_ ?_); exact rfl; exact rfl; exact rfl; rw [uv_length]; exact SL.out; simp; exact uv_one _; intro w5 hkW hO5 hz5; simp only [Act.put]))
  have hN3 := hb3.trans (hN4.mono hb3.size)
  replace hkS := (hkS.below hN3 (by omega))
  replace hkR := (hkR.below hN3 (by omega))
  replace hkS := hO5.blk hkS (by have := hb3.size; omega)
  replace hkR := hO5.blk hkR (by have := hb3.size; omega)
  have hb5 : Below w.heap.size w w5 := (hb.trans (hN3.mono hb.size)).trans (hO5.below (by have := hb3.size; omega) (by have := hb3.size; omega))
  have hz : w.heap.size + 2 < w5.heap.size := by have := hb3.size; omega
  have hBW : w.heap.size + 1 < w'.heap.size := by have := hb3.size; omega
  have hBW5 : w'.heap.size < w5.heap.size := by omega
  clear hN3 hb3 hN4 hz4 hO5 hz5 hb hN1 hN2
  go_cut [6, 7] (fun x6 x7 w' => ∃ B6 B7 : Nat, x6 = .pointer (some ⟨B6, 0, none⟩) ∧ x7 = .pointer (some ⟨B7, 0, none⟩) ∧ B6 ≠ B7 ∧ w5.heap.size ≤ B6 ∧ w5.heap.size ≤ B7 ∧ Blk w' B6 121 (uv [s.a, s.b, s.c, s.d]) ∧ Blk w' B7 121 (uv [s.e, s.f, s.g, s.h]) ∧ Below w5.heap.size w5 w')
  case first =>
    rename_i J K2 hJ hK2
    have c0 := hkS.cell (j := 0) rfl
    have c1 := hkS.cell (j := 1) rfl
    have c2 := hkS.cell (j := 2) rfl
    have c3 := hkS.cell (j := 3) rfl
    have c4 := hkS.cell (j := 4) rfl
    have c5 := hkS.cell (j := 5) rfl
    have c6 := hkS.cell (j := 6) rfl
    have c7 := hkS.cell (j := 7) rfl
    have ha : ∀ (w : World) (ad : Addr) (cap : Nat), (Instr.arrayAt 121 (.slice (some ad) 4 cap)).run Tryd.prog w = .ok (.pointer (some ad)) w := fun w ad cap => by simp [Instr.arrayAt, run_underlying Tryd.underlying121]
    have hl0 : w.heap.size < w5.heap.size := by omega
    have hl1 : w.heap.size < w5.heap.size + 1 := by omega
    have hl2 : w.heap.size ≠ w5.heap.size := by omega
    have hl3 : w.heap.size ≠ w5.heap.size + 1 := by omega
    go_region
    all_goals
      refine hK2 _ _ (Met.intro (hJ _ _ ?_))
      (repeat apply Exists.intro)
      refine ⟨?_, rfl⟩
    · exact ⟨_, _, rfl, rfl, by omega, by omega, by omega, heap_first _ _ _, heap_second _ _ _, heap_two _ _ _⟩
    · exact ⟨_, _, rfl, rfl, by omega, by omega, by omega, heap_second _ _ _, heap_first _ _ _, heap_two _ _ _⟩
  case rest =>
    obtain ⟨B6, B7, rfl, rfl, hne, hB6, hB7, hkV, hkE, hN⟩ := hcut
    replace hkS := hkS.below hN (by omega)
    replace hkR := hkR.below hN (by omega)
    replace hkW := hkW.below hN (by omega)
    have hb := hb5.trans (hN.mono (by omega))
    have hT' := hT.below hb
    obtain ⟨KV, hKV⟩ : ∃ KV, uv kk = KV := ⟨_, rfl⟩
    have hsk := sz_kk
    unfold TabH at hT'
    rw [hKV] at hT' hsk
    have HKV := Lib.hid hKV
    have HSK := Lib.hid hsk
    clear hKV hsk
    have hn1 : w1.heap.size ≠ B6 ∧ w1.heap.size ≠ B7 ∧ w1.heap.size ≠ w.heap.size := by omega
    have hn2 : w'.heap.size ≠ B6 ∧ w'.heap.size ≠ B7 ∧ w'.heap.size ≠ w.heap.size ∧ w'.heap.size ≠ w1.heap.size := by omega
    have hn3 : w.heap.size ≠ B6 ∧ w.heap.size ≠ B7 := by omega
    have hn4 : w.heap.size ≤ B6 ∧ w.heap.size ≤ B7 := by omega
    obtain ⟨C5, hC5⟩ : ∃ C, w'.heap.size = C := ⟨_, rfl⟩
    rw [hC5] at hkW hn2 ⊢
    have EZ1 := Lib.hid hz1
    clear hz1 hz2 hN hz hBW hBW5 hv2 hb5 hB6 hB7 hC5
    have HNE := Lib.hid hne; have HN1 := Lib.hid hn1; have HN2 := Lib.hid hn2; have HN3 := Lib.hid hn3
    clear hne hn1 hn2 hn3
    go_upto_region 4 with (((with_reducible refine' wpList_load_tab (cs := KV) (.global 1) 119 rfl ?_ Tryd.underlying119 rfl (HSK.out) ?_ hT' ?_); exact rfl; exact rfl; simp only [Act.put, List.setIfInBounds_toArray, List.set_cons_succ, List.set_cons_zero]))
    go_loopw [22] (fun i wr => ∃ t : Nat, t ≤ 64 ∧ i = .int .i64 t ∧ Blk wr B6 121 (uv [(rnds s (sched b 64) t).a, (rnds s (sched b 64) t).b, (rnds s (sched b 64) t).c, (rnds s (sched b 64) t).d]) ∧ Blk wr B7 121 (uv [(rnds s (sched b 64) t).e, (rnds s (sched b 64) t).f, (rnds s (sched b 64) t).g, (rnds s (sched b 64) t).h]) ∧ Blk wr C5 119 (uv (sched b 64)) ∧ Blk wr w.heap.size 91 (uv (l8 s)) ∧ Blk wr w1.heap.size 91 (List.replicate 8 (.int .u32 0)) ∧ Below w.heap.size w wr) (fun i _ => 64 - (intOf i).toNat)
    case atStart => exact ⟨0, by omega, rfl, by rw [rnds_zero]; exact hkV, by rw [rnds_zero]; exact hkE, hkW, hkS, hkR, hb⟩
    case round =>
      obtain ⟨t, ht, rfl, hkV, hkE, hkW, hkS, hkR, hbl⟩ := hrel
      obtain ⟨r, hr⟩ : ∃ r, rnds s (sched b 64) t = r := ⟨_, rfl⟩
      rw [hr] at hkV hkE
      obtain ⟨ra, rb, rc, rd, re, rf, rg, rh⟩ := r
      simp only at hkV hkE
      have HR := Lib.hid hr
      clear hr
      by_cases hlt : t < 64
      · obtain ⟨wo, rfl⟩ : ∃ wo : World, wo = wr := ⟨_, rfl⟩
        have E0 := Lib.hid (show (uv [re, rf, rg, rh])[0]? = some (.int .u32 (re.toNat : Int)) from rfl)
        have E1 := Lib.hid (show (uv [re, rf, rg, rh])[1]? = some (.int .u32 (rf.toNat : Int)) from rfl)
        have E2 := Lib.hid (show (uv [re, rf, rg, rh])[2]? = some (.int .u32 (rg.toNat : Int)) from rfl)
        have E3 := Lib.hid (show (uv [re, rf, rg, rh])[3]? = some (.int .u32 (rh.toNat : Int)) from rfl)
        have V0 := Lib.hid (show (uv [ra, rb, rc, rd])[0]? = some (.int .u32 (ra.toNat : Int)) from rfl)
        have V1 := Lib.hid (show (uv [ra, rb, rc, rd])[1]? = some (.int .u32 (rb.toNat : Int)) from rfl)
        have V2 := Lib.hid (show (uv [ra, rb, rc, rd])[2]? = some (.int .u32 (rc.toNat : Int)) from rfl)
        have V3 := Lib.hid (show (uv [ra, rb, rc, rd])[3]? = some (.int .u32 (rd.toNat : Int)) from rfl)
        have WT := Lib.hid (uv_get (l := sched b 64) (k := t) (by rw [SL.out]; exact hlt))
        have KT := Lib.hid (uv_get (l := kk) (k := t) hlt)
        obtain ⟨xk, hxk⟩ : ∃ x, gw kk t = x := ⟨_, rfl⟩
        obtain ⟨xw, hxw⟩ : ∃ x, gw (sched b 64) t = x := ⟨_, rfl⟩
        rw [hxk, HKV.out] at KT; rw [hxw] at WT
        have XK := Lib.hid hxk; have XW := Lib.hid hxw
        clear hxk hxw
        have hk1 := lt32 xk; have hk2 := lt32 xw; have b1 := lt32 re; have b2 := lt32 rf; have b3 := lt32 rg; have b4 := lt32 rh
        have c1 := lt32 ra; have c2 := lt32 rb; have c3 := lt32 rc; have c4 := lt32 rd
        have PL := pl_eq; have PL' := pl_eq'; have XR := xr_eq; have AN := an_eq; have NT := nt_eq
        go_upto_region 6 with (((with_reducible refine' wpList_index_agg (.tmp 21) (.tmp 22) 119 rfl ?_ Tryd.underlying119 Tryd.underlying90 rfl sz_u32 ?_ (t) ?_ ?_ KT.out ?_); exact rfl; exact rfl; (show (_ : Int) = _; omega); omega; simp only [Act.put, List.setIfInBounds_toArray, List.set_cons_succ, List.set_cons_zero]))
        (refine wp_region_quiet_lit (by kernel_rfl) (by kernel_rfl) ?_; (repeat (first | ((with_reducible refine' wpQuiet_at_blk (.tmp 7) (.const (.int .i64 0)) 121 rfl ?_ Tryd.underlying121 sz_u32 ?_ (0) ?_ ?_ ?_); exact rfl; exact rfl; (show (_ : Int) = _; omega); omega; simp only [Act.put, List.setIfInBounds_toArray, List.set_cons_succ, List.set_cons_zero]) | ((with_reducible refine' wpQuiet_at_blk (.tmp 7) (.const (.int .i64 1)) 121 rfl ?_ Tryd.underlying121 sz_u32 ?_ (1) ?_ ?_ ?_); exact rfl; exact rfl; (show (_ : Int) = _; omega); omega; simp only [Act.put, List.setIfInBounds_toArray, List.set_cons_succ, List.set_cons_zero]) | ((with_reducible refine' wpQuiet_at_blk (.tmp 7) (.const (.int .i64 2)) 121 rfl ?_ Tryd.underlying121 sz_u32 ?_ (2) ?_ ?_ ?_); exact rfl; exact rfl; (show (_ : Int) = _; omega); omega; simp only [Act.put, List.setIfInBounds_toArray, List.set_cons_succ, List.set_cons_zero]) | ((with_reducible refine' wpQuiet_at_blk (.tmp 7) (.const (.int .i64 3)) 121 rfl ?_ Tryd.underlying121 sz_u32 ?_ (3) ?_ ?_ ?_); exact rfl; exact rfl; (show (_ : Int) = _; omega); omega; simp only [Act.put, List.setIfInBounds_toArray, List.set_cons_succ, List.set_cons_zero]) | ((with_reducible refine' wpQuiet_load_blk (fun _ h => h) (.tmp 26) 90 rfl ?_ ld_u32 ?_ hkE (E3.out) ?_); exact rfl; exact rfl; simp only [Act.put, List.setIfInBounds_toArray, List.set_cons_succ, List.set_cons_zero]) | ((with_reducible refine' wpQuiet_load_blk (fun _ h => h) (.tmp 28) 90 rfl ?_ ld_u32 ?_ hkE (E0.out) ?_); exact rfl; exact rfl; simp only [Act.put, List.setIfInBounds_toArray, List.set_cons_succ, List.set_cons_zero]) | ((with_reducible refine' wpQuiet_load_blk (fun _ h => h) (.tmp 32) 90 rfl ?_ ld_u32 ?_ hkE (E0.out) ?_); exact rfl; exact rfl; simp only [Act.put, List.setIfInBounds_toArray, List.set_cons_succ, List.set_cons_zero]) | ((with_reducible refine' wpQuiet_load_blk (fun _ h => h) (.tmp 34) 90 rfl ?_ ld_u32 ?_ hkE (E1.out) ?_); exact rfl; exact rfl; simp only [Act.put, List.setIfInBounds_toArray, List.set_cons_succ, List.set_cons_zero]) | ((with_reducible refine' wpQuiet_load_blk (fun _ h => h) (.tmp 37) 90 rfl ?_ ld_u32 ?_ hkE (E0.out) ?_); exact rfl; exact rfl; simp only [Act.put, List.setIfInBounds_toArray, List.set_cons_succ, List.set_cons_zero]) | ((with_reducible refine' wpQuiet_load_blk (fun _ h => h) (.tmp 40) 90 rfl ?_ ld_u32 ?_ hkE (E2.out) ?_); exact rfl; exact rfl; simp only [Act.put, List.setIfInBounds_toArray, List.set_cons_succ, List.set_cons_zero]) | ((with_reducible refine' wpQuiet_at_blk (.tmp 5) (.tmp 47) 119 rfl ?_ Tryd.underlying119 sz_u32 ?_ (t) ?_ ?_ ?_); exact rfl; exact rfl; (show (_ : Int) = _; omega); omega; simp only [Act.put, List.setIfInBounds_toArray, List.set_cons_succ, List.set_cons_zero]) | ((with_reducible refine' wpQuiet_load_blk (fun _ h => h) (.tmp 48) 90 rfl ?_ ld_u32 ?_ hkW (WT.out) ?_); exact rfl; exact rfl; simp only [Act.put, List.setIfInBounds_toArray, List.set_cons_succ, List.set_cons_zero]) | go_big_quiet_step ((go_at_call 99; (with_reducible refine Calls.quiet_of_same (mx_any re 6 11 25 6 11 25 rfl rfl rfl (by omega) (by omega) (by omega) _)))) | go_big_quiet_step (fail))); refine wpQuiet_nil ?_; intro _ hw'; obtain ⟨nq, hw''⟩ := hw'; subst hw'')
        go_upto_region 7 with fail
        replace hkV := hkV.drewN nq; replace hkE := hkE.drewN nq; replace hkW := hkW.drewN nq; replace hkS := hkS.drewN nq; replace hkR := hkR.drewN nq; replace hbl := below_drewN hbl nq
        generalize wo.drewN nq = wq at hkV hkE hkW hkS hkR hbl ⊢
        (refine wp_region_quiet_lit (by kernel_rfl) (by kernel_rfl) ?_; (repeat (first | ((with_reducible refine' wpQuiet_at_blk (.tmp 6) (.const (.int .i64 0)) 121 rfl ?_ Tryd.underlying121 sz_u32 ?_ (0) ?_ ?_ ?_); exact rfl; exact rfl; (show (_ : Int) = _; omega); omega; simp only [Act.put, List.setIfInBounds_toArray, List.set_cons_succ, List.set_cons_zero]) | ((with_reducible refine' wpQuiet_at_blk (.tmp 6) (.const (.int .i64 1)) 121 rfl ?_ Tryd.underlying121 sz_u32 ?_ (1) ?_ ?_ ?_); exact rfl; exact rfl; (show (_ : Int) = _; omega); omega; simp only [Act.put, List.setIfInBounds_toArray, List.set_cons_succ, List.set_cons_zero]) | ((with_reducible refine' wpQuiet_at_blk (.tmp 6) (.const (.int .i64 2)) 121 rfl ?_ Tryd.underlying121 sz_u32 ?_ (2) ?_ ?_ ?_); exact rfl; exact rfl; (show (_ : Int) = _; omega); omega; simp only [Act.put, List.setIfInBounds_toArray, List.set_cons_succ, List.set_cons_zero]) | ((with_reducible refine' wpQuiet_load_blk (fun _ h => h) (.tmp 51) 90 rfl ?_ ld_u32 ?_ hkV (V0.out) ?_); exact rfl; exact rfl; simp only [Act.put, List.setIfInBounds_toArray, List.set_cons_succ, List.set_cons_zero]) | ((with_reducible refine' wpQuiet_load_blk (fun _ h => h) (.tmp 54) 90 rfl ?_ ld_u32 ?_ hkV (V0.out) ?_); exact rfl; exact rfl; simp only [Act.put, List.setIfInBounds_toArray, List.set_cons_succ, List.set_cons_zero]) | ((with_reducible refine' wpQuiet_load_blk (fun _ h => h) (.tmp 56) 90 rfl ?_ ld_u32 ?_ hkV (V1.out) ?_); exact rfl; exact rfl; simp only [Act.put, List.setIfInBounds_toArray, List.set_cons_succ, List.set_cons_zero]) | ((with_reducible refine' wpQuiet_load_blk (fun _ h => h) (.tmp 59) 90 rfl ?_ ld_u32 ?_ hkV (V0.out) ?_); exact rfl; exact rfl; simp only [Act.put, List.setIfInBounds_toArray, List.set_cons_succ, List.set_cons_zero]) | ((with_reducible refine' wpQuiet_load_blk (fun _ h => h) (.tmp 61) 90 rfl ?_ ld_u32 ?_ hkV (V2.out) ?_); exact rfl; exact rfl; simp only [Act.put, List.setIfInBounds_toArray, List.set_cons_succ, List.set_cons_zero]) | ((with_reducible refine' wpQuiet_load_blk (fun _ h => h) (.tmp 65) 90 rfl ?_ ld_u32 ?_ hkV (V1.out) ?_); exact rfl; exact rfl; simp only [Act.put, List.setIfInBounds_toArray, List.set_cons_succ, List.set_cons_zero]) | ((with_reducible refine' wpQuiet_load_blk (fun _ h => h) (.tmp 67) 90 rfl ?_ ld_u32 ?_ hkV (V2.out) ?_); exact rfl; exact rfl; simp only [Act.put, List.setIfInBounds_toArray, List.set_cons_succ, List.set_cons_zero]) | go_big_quiet_step ((go_at_call 99; (with_reducible refine Calls.quiet_of_same (mx_any ra 2 13 22 2 13 22 rfl rfl rfl (by omega) (by omega) (by omega) _)))) | go_big_quiet_step (fail))); refine wpQuiet_nil ?_; intro _ hw'; obtain ⟨nq, hw''⟩ := hw'; subst hw'')
        replace hkV := hkV.drewN nq; replace hkE := hkE.drewN nq; replace hkW := hkW.drewN nq; replace hkS := hkS.drewN nq; replace hkR := hkR.drewN nq; replace hbl := below_drewN hbl nq
        generalize wq.drewN nq = wp at hkV hkE hkW hkS hkR hbl ⊢
        obtain ⟨X, hX⟩ : ∃ X, pl (pl (pl (pl rh (mx re 6 11 25)) (xr (an re rf) (an (nt re) rg))) xk) xw = X := ⟨_, rfl⟩
        obtain ⟨Y, hY⟩ : ∃ Y, pl (mx ra 2 13 22) (xr (xr (an ra rb) (an ra rc)) (an rb rc)) = Y := ⟨_, rfl⟩
        rw [hX, hY]
        have HX := Lib.hid hX; have HY := Lib.hid hY
        clear hX hY
        have d1 := lt32 X; have d2 := lt32 Y
        go_wp2_with (first
          | ((with_reducible refine' wpList_at_blk (.tmp 7) (.const (.int .i64 0)) 121 rfl ?_ Tryd.underlying121 sz_u32 ?_ (0) ?_ ?_ ?_); exact rfl; exact rfl; (show (_ : Int) = _; omega); omega; simp only [Act.put, List.setIfInBounds_toArray, List.set_cons_succ, List.set_cons_zero]) | ((with_reducible refine' wpList_at_blk (.tmp 7) (.const (.int .i64 1)) 121 rfl ?_ Tryd.underlying121 sz_u32 ?_ (1) ?_ ?_ ?_); exact rfl; exact rfl; (show (_ : Int) = _; omega); omega; simp only [Act.put, List.setIfInBounds_toArray, List.set_cons_succ, List.set_cons_zero]) | ((with_reducible refine' wpList_at_blk (.tmp 7) (.const (.int .i64 2)) 121 rfl ?_ Tryd.underlying121 sz_u32 ?_ (2) ?_ ?_ ?_); exact rfl; exact rfl; (show (_ : Int) = _; omega); omega; simp only [Act.put, List.setIfInBounds_toArray, List.set_cons_succ, List.set_cons_zero]) | ((with_reducible refine' wpList_at_blk (.tmp 6) (.const (.int .i64 0)) 121 rfl ?_ Tryd.underlying121 sz_u32 ?_ (0) ?_ ?_ ?_); exact rfl; exact rfl; (show (_ : Int) = _; omega); omega; simp only [Act.put, List.setIfInBounds_toArray, List.set_cons_succ, List.set_cons_zero]) | ((with_reducible refine' wpList_at_blk (.tmp 6) (.const (.int .i64 1)) 121 rfl ?_ Tryd.underlying121 sz_u32 ?_ (1) ?_ ?_ ?_); exact rfl; exact rfl; (show (_ : Int) = _; omega); omega; simp only [Act.put, List.setIfInBounds_toArray, List.set_cons_succ, List.set_cons_zero]) | ((with_reducible refine' wpList_at_blk (.tmp 6) (.const (.int .i64 2)) 121 rfl ?_ Tryd.underlying121 sz_u32 ?_ (2) ?_ ?_ ?_); exact rfl; exact rfl; (show (_ : Int) = _; omega); omega; simp only [Act.put, List.setIfInBounds_toArray, List.set_cons_succ, List.set_cons_zero]) | ((with_reducible refine' wpList_at_blk (.tmp 6) (.const (.int .i64 3)) 121 rfl ?_ Tryd.underlying121 sz_u32 ?_ (3) ?_ ?_ ?_); exact rfl; exact rfl; (show (_ : Int) = _; omega); omega; simp only [Act.put, List.setIfInBounds_toArray, List.set_cons_succ, List.set_cons_zero])
          | ((with_reducible refine' wpList_load_blk (.tmp 72) 90 rfl ?_ ld_u32 ?_ hkV (V3.out) ?_); exact rfl; exact rfl; simp only [Act.put, List.setIfInBounds_toArray, List.set_cons_succ, List.set_cons_zero]) | ((with_reducible refine' wpList_load_blk (.tmp 76) 90 rfl ?_ ld_u32 ?_ hkE (E0.out) ?_); exact rfl; exact rfl; simp only [Act.put, List.setIfInBounds_toArray, List.set_cons_succ, List.set_cons_zero]) | ((with_reducible refine' wpList_load_blk (.tmp 78) 90 rfl ?_ ld_u32 ?_ hkE (E1.out) ?_); exact rfl; exact rfl; simp only [Act.put, List.setIfInBounds_toArray, List.set_cons_succ, List.set_cons_zero]) | ((with_reducible refine' wpList_load_blk (.tmp 80) 90 rfl ?_ ld_u32 ?_ hkE (E2.out) ?_); exact rfl; exact rfl; simp only [Act.put, List.setIfInBounds_toArray, List.set_cons_succ, List.set_cons_zero]) | (((with_reducible refine' wpList_store_blk (cs := uv [pl rd X, re, rf, rg]) 121 (.tmp 7) (.tmp 82) rfl ?_ ?_ ?_ hkE sz_w4 ?_ ?_ ?_ ?_); exact rfl; exact rfl; exact rfl; rfl; rfl; exact uv_one _; intro wA hkE8 hO8 hz8; simp only [Act.put]); have hkV8 := hO8.blk hkV HNE.out)
          | ((with_reducible refine' wpList_load_blk (.tmp 86) 90 rfl ?_ ld_u32 ?_ hkV8 (V0.out) ?_); exact rfl; exact rfl; simp only [Act.put, List.setIfInBounds_toArray, List.set_cons_succ, List.set_cons_zero]) | ((with_reducible refine' wpList_load_blk (.tmp 88) 90 rfl ?_ ld_u32 ?_ hkV8 (V1.out) ?_); exact rfl; exact rfl; simp only [Act.put, List.setIfInBounds_toArray, List.set_cons_succ, List.set_cons_zero]) | ((with_reducible refine' wpList_load_blk (.tmp 90) 90 rfl ?_ ld_u32 ?_ hkV8 (V2.out) ?_); exact rfl; exact rfl; simp only [Act.put, List.setIfInBounds_toArray, List.set_cons_succ, List.set_cons_zero]) | (((with_reducible refine' wpList_store_blk (cs := uv [pl X Y, ra, rb, rc]) 121 (.tmp 6) (.tmp 92) rfl ?_ ?_ ?_ hkV8 sz_w4 ?_ ?_ ?_ ?_); exact rfl; exact rfl; exact rfl; rfl; rfl; exact uv_one _; intro wB hkV9 hO9 hz9; simp only [Act.put]); have hkE9 := hO9.blk hkE8 HNE.out.symm))
        go_roundw
        case rel =>
          rw [← HX.out] at hkE9 hkV9
          rw [← HY.out] at hkV9
          have hs := hbl.size
          have hs8 := hO8.size
          refine ⟨t + 1, by omega, by go_num, ?_, ?_, hO9.blk (hO8.blk hkW HN2.out.2.1) HN2.out.1, hO9.blk (hO8.blk hkS HN3.out.2) HN3.out.1, hO9.blk (hO8.blk hkR HN1.out.2.1) HN1.out.1, (hbl.trans (hO8.below (by omega) hs)).trans (hO9.below (by omega) (by omega))⟩
          · rw [rnds_succ, HR.out, XK.out, XW.out]
            exact hkV9
          · rw [rnds_succ, HR.out, XK.out, XW.out]
            exact hkE9
        case measure => simp [intOf]; omega
      · obtain rfl : t = 64 := by omega
        go_upto_region 12 with fail
        go_loopw [94] (fun i wr => ∃ t : Nat, t ≤ 4 ∧ i = .int .i64 t ∧ Blk wr B6 121 (uv [ra, rb, rc, rd]) ∧ Blk wr B7 121 (uv [re, rf, rg, rh]) ∧ Blk wr w.heap.size 91 (uv (adds s ⟨ra, rb, rc, rd, re, rf, rg, rh⟩ t t)) ∧ Blk wr w1.heap.size 91 (List.replicate 8 (.int .u32 0)) ∧ Below w.heap.size w wr) (fun i _ => 4 - (intOf i).toNat)
        case atStart => exact ⟨0, by omega, rfl, hkV, hkE, by rw [adds_zero]; exact hkS, hkR, hbl⟩
        case round =>
          obtain ⟨t, ht, rfl, hkV, hkE, hkS, hkR, hbl⟩ := hrel
          by_cases hlt : t < 4
          · obtain ⟨wo, rfl⟩ : ∃ wo : World, wo = wr := ⟨_, rfl⟩
            have SA := Lib.hid (adds_at (s := s) (r := ⟨ra, rb, rc, rd, re, rf, rg, rh⟩) hlt)
            have SB := Lib.hid (adds_at2 (s := s) (r := ⟨ra, rb, rc, rd, re, rf, rg, rh⟩) hlt)
            have VI := Lib.hid (half_at (a := ra) (b := rb) (c := rc) (d := rd) hlt)
            have EI := Lib.hid (half_at (a := re) (b := rf) (c := rg) (d := rh) hlt)
            have SET := Lib.hid (adds_set (s := s) (r := ⟨ra, rb, rc, rd, re, rf, rg, rh⟩) hlt)
            have SET2 := Lib.hid (adds_set2 (s := s) (r := ⟨ra, rb, rc, rd, re, rf, rg, rh⟩) hlt)
            obtain ⟨x1, hx1⟩ : ∃ x, gw [s.a, s.b, s.c, s.d] t = x := ⟨_, rfl⟩
            obtain ⟨x2, hx2⟩ : ∃ x, gw [s.e, s.f, s.g, s.h] t = x := ⟨_, rfl⟩
            obtain ⟨x3, hx3⟩ : ∃ x, gw [ra, rb, rc, rd] t = x := ⟨_, rfl⟩
            obtain ⟨x4, hx4⟩ : ∃ x, gw [re, rf, rg, rh] t = x := ⟨_, rfl⟩
            simp only at SET SET2
            rw [hx1] at SA SET; rw [hx2] at SB SET2; rw [hx3] at VI SET; rw [hx4] at EI SET2
            clear hx1 hx2 hx3 hx4
            have b1 := lt32 x1; have b2 := lt32 x2; have b3 := lt32 x3; have b4 := lt32 x4
            have PL := pl_eq; have PL' := pl_eq'
            have hl8 := adds_len s ⟨ra, rb, rc, rd, re, rf, rg, rh⟩
            have LA := Lib.hid hl8
            clear hl8
            go_upto_region 14 with fail
            (refine wp_region_tail 8 (by kernel_rfl) (by kernel_rfl) ?_; simp only [List.take_succ_cons, List.take_zero, List.drop_succ_cons, List.drop_zero]; (repeat (first | ((with_reducible refine' wpQuiet_at_blk (.tmp 2) (.tmp 97) 91 rfl ?_ Tryd.underlying91 sz_u32 ?_ (t) ?_ ?_ ?_); exact rfl; exact rfl; (show (_ : Int) = _; omega); omega; simp only [Act.put, List.setIfInBounds_toArray, List.set_cons_succ, List.set_cons_zero]) | ((with_reducible refine' wpQuiet_at_blk (.tmp 6) (.tmp 100) 121 rfl ?_ Tryd.underlying121 sz_u32 ?_ (t) ?_ ?_ ?_); exact rfl; exact rfl; (show (_ : Int) = _; omega); omega; simp only [Act.put, List.setIfInBounds_toArray, List.set_cons_succ, List.set_cons_zero]) | ((with_reducible refine' wpQuiet_load_blk still_drew (.tmp 98) 90 rfl ?_ ld_u32 ?_ hkS (SA.out) ?_); exact rfl; exact rfl; simp only [Act.put, List.setIfInBounds_toArray, List.set_cons_succ, List.set_cons_zero]) | ((with_reducible refine' wpQuiet_load_blk still_drew (.tmp 101) 90 rfl ?_ ld_u32 ?_ hkV (VI.out) ?_); exact rfl; exact rfl; simp only [Act.put, List.setIfInBounds_toArray, List.set_cons_succ, List.set_cons_zero]) | go_big_quiet_step (fail))); refine wpQuiet_nil ?_; show wpList _ _ _ _ _ _)
            (with_reducible refine' wpList_set_blk (k := t) 90 (.tmp 104) (.tmp 103) rfl ?_ sz_u32 ?_ rfl (Blk.drew hkS) (by rw [LA.out]; omega) ?_ ?_); exact rfl; exact rfl; exact rfl; intro wA hkA hOA hzA; simp only [Act.put]
            simp [Act.eval] at hkA
            rw [SET.out] at hkA
            replace hkV := hOA.blk (Blk.drew hkV) HN3.out.1.symm
            replace hkE := hOA.blk (Blk.drew hkE) HN3.out.2.symm
            replace hkR := hOA.blk (Blk.drew hkR) HN1.out.2.2
            replace hbl := (below_drew hbl).trans (hOA.below (Nat.le_refl _) hbl.size)
            clear hkS hOA hzA
            have hw1 : IntKind.i64.wrap ((t : Int) + 4) = (t : Int) + 4 := by rw [IntKind.wrap_i64]; omega
            go_upto_region 15 with fail
            (refine wp_region_tail 9 (by kernel_rfl) (by kernel_rfl) ?_; simp only [List.take_succ_cons, List.take_zero, List.drop_succ_cons, List.drop_zero]; (repeat (first | ((with_reducible refine' wpQuiet_at_blk (.tmp 2) (.tmp 106) 91 rfl ?_ Tryd.underlying91 sz_u32 ?_ (t + 4) ?_ ?_ ?_); exact rfl; exact rfl; (show (_ : Int) = _; omega); omega; simp only [Act.put, List.setIfInBounds_toArray, List.set_cons_succ, List.set_cons_zero]) | ((with_reducible refine' wpQuiet_at_blk (.tmp 7) (.tmp 109) 121 rfl ?_ Tryd.underlying121 sz_u32 ?_ (t) ?_ ?_ ?_); exact rfl; exact rfl; (show (_ : Int) = _; omega); omega; simp only [Act.put, List.setIfInBounds_toArray, List.set_cons_succ, List.set_cons_zero]) | ((with_reducible refine' wpQuiet_load_blk still_drew (.tmp 107) 90 rfl ?_ ld_u32 ?_ hkA (SB.out) ?_); exact rfl; exact rfl; simp only [Act.put, List.setIfInBounds_toArray, List.set_cons_succ, List.set_cons_zero]) | ((with_reducible refine' wpQuiet_load_blk still_drew (.tmp 110) 90 rfl ?_ ld_u32 ?_ hkE (EI.out) ?_); exact rfl; exact rfl; simp only [Act.put, List.setIfInBounds_toArray, List.set_cons_succ, List.set_cons_zero]) | go_big_quiet_step (fail))); refine wpQuiet_nil ?_; show wpList _ _ _ _ _ _)
            clear hw1
            (with_reducible refine' wpList_set_blk (k := t + 4) 90 (.tmp 113) (.tmp 112) rfl ?_ sz_u32 ?_ rfl (Blk.drew hkA) (by rw [LA.out]; omega) ?_ ?_); exact rfl; exact rfl; exact rfl; intro wB hkB hOB hzB; simp only [Act.put]
            simp [Act.eval] at hkB
            rw [SET2.out] at hkB
            replace hkV := hOB.blk (Blk.drew hkV) HN3.out.1.symm
            replace hkE := hOB.blk (Blk.drew hkE) HN3.out.2.symm
            replace hkR := hOB.blk (Blk.drew hkR) HN1.out.2.2
            replace hbl := (below_drew hbl).trans (hOB.below (Nat.le_refl _) hbl.size)
            clear hkA hOB hzB
            go_wp2_with fail
            go_roundw
            case rel => exact ⟨t + 1, by omega, by go_num, hkV, hkE, hkB, hkR, hbl⟩
            case measure => simp [intOf]; omega
          · obtain rfl : t = 4 := by omega
            rw [adds_all] at hkS
            rw [EZ1.out] at hkR
            go_upto_region 17 with fail
            refine wp_region_lit ?_
            ((with_reducible refine' wpList_loadall_blk (.tmp 2) 91 rfl ?_ Tryd.underlying91 sz_w8 ?_ hkS ?_ ?_ ?_); exact rfl; exact rfl; rfl; omega; simp only [Act.put, List.setIfInBounds_toArray, List.set_cons_succ, List.set_cons_zero])
            ((with_reducible refine' wpList_store_blk (cs := (uv (l8 (addS s ⟨ra, rb, rc, rd, re, rf, rg, rh⟩)))) 91 (.tmp 4) (.tmp 115) rfl ?_ ?_ ?_ hkR sz_w8 ?_ ?_ ?_ ?_); exact rfl; exact rfl; exact rfl; rfl; rfl; exact uv_one _; intro w3 hk3 hO3 hz3; simp only [Act.put])
            go_wp2_with fail
            ((try simp only [Exit.inBlock, Exit.then]); refine bodyPost_ret (results_cell_row rfl _ _ _ _ _ _ _ rfl hk3 Tryd.underlying91 rfl (by rw [sz_w8]; rfl)) rfl ?_)
            exact ⟨by rw [comp_eq, HR.out], hbl.trans (hO3.below (by omega) hbl.size)⟩
end Go.Proofs.YtdlhkhnoigbhjaaDoor.Wi
namespace Go.Proofs.YtdlhkhnoigbhjaaDoor.Lb
open Go Go.RowKit Go.Lib
section
variable {P : Program} {ops : Array Oper} {Q : Exit → Act → World → Prop} {a : Act} {w : World} {rest : List Oper} {o : Oper}
/-- 's[lo:]' of a string -/
theorem wpList_str_from (x lo : Operand) (t : TypeId) (ho : o.op = .slice t x (some lo) none none) (hw : Region.wanted o (yielded ops a.tmps) = true) (ht : P.underlying t = some .string)
    {l : List UInt8} (hx : a.eval x = .string ⟨l.toArray⟩) (L : Nat) (hlo : IsI (a.eval lo) (L : Int)) (hL : L ≤ l.length)
    (h : wpList P ops Q rest (a.put o.dst (.string ⟨(l.drop L).toArray⟩)) w) : wpList P ops Q (o :: rest) a w := by
  obtain ⟨kl, hlo⟩ := isI hlo
  refine wpList_of_run hw (v := .string ⟨(l.drop L).toArray⟩) (w' := w) ?_ h
  have hs : (ByteArray.mk l.toArray).size = l.length := by simp [ByteArray.size]
  have he : (ByteArray.mk l.toArray).extract L l.length = ⟨(l.drop L).toArray⟩ := by
    rw [← hs]
    apply ByteArray.ext
    rw [ByteArray.data_extract]
    apply Array.toList_inj.1
    simp [hs]
    rw [List.take_of_length_le (by rw [List.length_drop]; exact Nat.le_refl _)]
  unfold execOp
  simp [ho, Instr.sliceAt, hx, hlo, run_underlying ht, Instr.slice, Instr.sliceBounds, Instr.sliceBound, asIntOf, hs, hL, he]
end
end Go.Proofs.YtdlhkhnoigbhjaaDoor.Lb
namespace Go.Proofs.YtdlhkhnoigbhjaaDoor.Wi
open Go Go.RowKit Pu Lb
set_option linter.unusedSimpArgs false

/-- a stream's cells -/
def stv (x : Strm) : List Value := uv (l8 x.s) ++ (bv x.b ++ [.int .u64 (x.n : Int)])
theorem stv_len {x : Strm} (h : x.b.length = 64) : (stv x).length = 73 := by
  unfold stv
  rw [List.length_append, List.length_append, uv_length, bv_length, h]; rfl
theorem stv_one (x : Strm) : ∀ u ∈ stv x, u.oneCell' = true := by
  intro u hu
  unfold stv at hu
  rcases List.mem_append.1 hu with h | h
  · exact uv_one _ u h
  · rcases List.mem_append.1 h with h | h
    · exact bv_one _ u h
    · simp at h; subst h; rfl
theorem l8_len (s : S8) : (uv (l8 s)).length = 8 := rfl
theorem stv_n {x : Strm} (h : x.b.length = 64) : (stv x)[72]? = some (.int .u64 (x.n : Int)) := by
  unfold stv
  rw [List.getElem?_append_right (by rw [l8_len]; decide), List.getElem?_append_right (by rw [l8_len, bv_length, h]; decide), l8_len, bv_length, h]
  rfl
theorem stv_state (x : Strm) : ((stv x).drop 0).take 8 = uv (l8 x.s) := by
  unfold stv
  rw [List.drop_zero, List.take_left' (l8_len _)]
theorem stv_setn {x : Strm} (h : x.b.length = 64) (n : Nat) : (stv x).set 72 (.int .u64 (n : Int)) = stv ⟨x.s, x.b, n⟩ := by
  unfold stv
  rw [List.set_append_right _ _ (by rw [l8_len]; decide), List.set_append_right _ _ (by rw [l8_len, bv_length, h]; decide), l8_len, bv_length, h]
  rfl
theorem stv_puts (x : Strm) (s : S8) : put (stv x) 0 (uv (l8 s)) = stv ⟨s, x.b, x.n⟩ := by
  unfold put stv
  rw [List.take_zero, List.nil_append, Nat.zero_add, l8_len, List.drop_left' (l8_len _)]
theorem stv_putb {x : Strm} (h : x.b.length = 64) {i : Nat} {t : List UInt8} (hi : i + t.length ≤ 64) : put (stv x) (8 + i) (bv t) = stv ⟨x.s, splice x.b i t, x.n⟩ := by
  have e1 : (stv x).take (8 + i) = uv (l8 x.s) ++ bv (x.b.take i) := by
    unfold stv
    rw [List.take_append, l8_len, List.take_of_length_le (by rw [l8_len]; omega), Nat.add_sub_cancel_left, List.take_append_of_le_length (by rw [bv_length]; omega), bv_take]
  have e2 : (stv x).drop (8 + i + t.length) = bv (x.b.drop (i + t.length)) ++ [.int .u64 (x.n : Int)] := by
    unfold stv
    rw [List.drop_append, l8_len, List.drop_of_length_le (by rw [l8_len]; omega), List.nil_append, show 8 + i + t.length - 8 = i + t.length by omega, List.drop_append_of_le_length (by rw [bv_length]; omega), bv_drop]
  unfold put
  rw [bv_length, e1, e2]
  unfold stv splice
  rw [bv_append, bv_append]
  simp only [List.append_assoc]
theorem stv_block {x : Strm} (h : x.b.length = 64) : ((stv x).drop 8).take 64 = bv x.b := by
  unfold stv
  rw [List.drop_left' (l8_len _), List.take_left' (by rw [bv_length, h])]
def stz : List Value := List.replicate 8 (.int .u32 0) ++ List.replicate 64 (.int .u8 0) ++ [.int .u64 0]
theorem stz_len : stz.length = 73 := by decide
theorem stv_zero : (Value.agg (Array.replicate 8 (Value.int .u32 0) ++ Array.replicate 64 (Value.int .u8 0) ++ #[Value.int .u64 0])).cells = stz.toArray := by
  simp [Value.cells, stz]
theorem isS_len {m : List UInt8} {x : Strm} (h : IsS m x) : x.b.length = 64 ∧ x.n = m.length := ⟨h.1, h.2.1⟩

def begin0 : Strm := ⟨h0, List.replicate 64 0, 0⟩
set_option maxRecDepth 100000 in
theorem begin_any (w : World) : Calls Tryd.prog 68 #[] w fun e w' => e = .returned (.agg (stv begin0).toArray) ∧ Below w.heap.size w w' := by
  go_enter Tryd.func68, Tryd.ntmps68
  go_upto_region 1 with (((with_reducible refine' wpList_alloc_blk (cs := stz) 95 rfl ?_ zr_stm ?_ ?_); exact rfl; exact stv_zero; intro w1 hk1 hN1 hz1; simp only [Act.put, List.setIfInBounds_toArray, List.set_cons_succ, List.set_cons_zero]))
  refine wp_region_lit ?_
  ((with_reducible refine' wpList_of_run (v := .agg (uv (l8 h0)).toArray) (w' := w1) ?_ ?_ ?_); exact rfl; kernel_rfl; simp only [Act.put, List.setIfInBounds_toArray, List.set_cons_succ, List.set_cons_zero])
  ((with_reducible refine' wpList_of_run (v := .agg (stv begin0).toArray) (w' := w1) ?_ ?_ ?_); exact rfl; kernel_rfl; simp only [Act.put, List.setIfInBounds_toArray, List.set_cons_succ, List.set_cons_zero])
  ((with_reducible refine' wpList_store_blk (cs := stv begin0) 95 (.tmp 0) (.tmp 2) rfl ?_ ?_ ?_ hk1 sz_stm ?_ ?_ ?_ ?_); exact rfl; exact rfl; exact rfl; rfl; rfl; exact stv_one _; intro w2 hk2 hO2 hz2; simp only [Act.put])
  go_wp2_with fail
  ((try simp only [Exit.inBlock, Exit.then]); refine bodyPost_ret (results_cell_row rfl _ _ _ _ _ _ _ rfl hk2 Tryd.underlying95 rfl (by rw [sz_stm]; rfl)) rfl ?_)
  exact ⟨rfl, hN1.trans (hO2.below (Nat.le_refl _) hN1.size)⟩

attribute [local irreducible] comp sched comps
set_option maxRecDepth 100000 in
set_option maxHeartbeats 1600000 in
theorem add_any (m t : List UInt8) (x : Strm) (w : World) (hT : TabH w) (hx : IsS m x) (hm : m.length + t.length < 1152921504606846976) :
    Calls Tryd.prog 69 #[.agg (stv x).toArray, .string ⟨t.toArray⟩] w fun e w' => ∃ y, e = .returned (.agg (stv y).toArray) ∧ IsS (m ++ t) y ∧ Below w.heap.size w w' := by
  go_enter Tryd.func69, Tryd.ntmps69
  go_upto_region 1 with (first | ((with_reducible refine' wpList_boxa (cs := stv x) 95 (.tmp 0) rfl ?_ ?_ ?_); exact rfl; exact rfl; intro w1 hkS hN1 hz1; simp only [Act.put, List.setIfInBounds_toArray, List.set_cons_succ, List.set_cons_zero]) | ((with_reducible refine' wpList_alloc_blk (cs := stz) 95 rfl ?_ zr_stm ?_ ?_); exact rfl; exact stv_zero; intro w2 hkR hN2 hz2; simp only [Act.put, List.setIfInBounds_toArray, List.set_cons_succ, List.set_cons_zero]))
  have hb := hN1.trans (hN2.mono hN1.size)
  replace hkS := hkS.below hN2 (by omega)
  have EZ1 := Lib.hid hz1
  have hX := Lib.hid hx
  clear hx hN1 hN2 hz1 hz2
  go_loopw [1] (fun v wr => ∃ (i : Nat) (y : Strm), i ≤ t.length ∧ v = .string ⟨(t.drop i).toArray⟩ ∧ Hid (IsS (m ++ t.take i) y) ∧ Blk wr w.heap.size 95 (stv y) ∧ Blk wr w1.heap.size 95 stz ∧ Below w.heap.size w wr) (fun v _ => match v with | .string s => s.size | _ => 0)
  case atStart => exact ⟨0, x, by omega, rfl, Lib.hid (by rw [List.take_zero, List.append_nil]; exact hX.out), hkS, hkR, hb⟩
  case round =>
    obtain ⟨i, y, hi, rfl, HY, hkS, hkR, hbl⟩ := hrel
    by_cases hlt : i < t.length
    · obtain ⟨wo, rfl⟩ : ∃ wo : World, wo = wr := ⟨_, rfl⟩
      have hte : (t.drop i).isEmpty = false := by rw [List.isEmpty_eq_false_iff]; intro h; have := congrArg List.length h; rw [List.length_drop] at this; simp at this; omega
      have hyl := HY.out.1
      have hyn : y.n = m.length + i := by have := HY.out.2.1; rw [List.length_append, List.length_take] at this; omega
      have hn60 : y.n < 1152921504606846976 := by omega
      have HYN := Lib.hid hyn
      have HYL := Lib.hid hyl
      have N0 := Lib.hid (stv_n hyl)
      have L0 := Lib.hid (stv_len hyl)
      obtain ⟨k, hk⟩ : ∃ k, min (t.drop i).length (64 - y.n % 64) = k := ⟨_, rfl⟩
      obtain ⟨tk, htk⟩ : ∃ tk, (t.drop i).take (64 - y.n % 64) = tk := ⟨_, rfl⟩
      have hk64 : k ≤ 64 := by omega
      have hkl : k ≤ (t.drop i).length := by omega
      have hk0 : 0 < k := by rw [List.length_drop] at hk; omega
      have hktl : tk.length = k := by rw [← htk, List.length_take, ← hk]; omega
      have hfit : y.n % 64 + tk.length ≤ 64 := by rw [hktl]; omega
      have hspl := splice_len (b := y.b) (i := y.n % 64) (t := tk) (by rw [hyl]; exact hfit)
      rw [hyl] at hspl
      have N1 := Lib.hid (stv_n (x := ⟨y.s, splice y.b (y.n % 64) tk, y.n⟩) hspl)
      have L1 := Lib.hid (stv_len (x := ⟨y.s, splice y.b (y.n % 64) tk, y.n⟩) hspl)
      have PB := Lib.hid (stv_putb hyl hfit)
      have sn : (stv ⟨y.s, splice y.b (y.n % 64) tk, y.n⟩).set 72 (.int .u64 ((y.n : Int) + (k : Int))) = stv ⟨y.s, splice y.b (y.n % 64) tk, y.n + k⟩ := by
        rw [← Int.natCast_add]; exact stv_setn hspl (y.n + k)
      have SN := Lib.hid sn
      have bl := stv_block (x := ⟨y.s, splice y.b (y.n % 64) tk, y.n + k⟩) hspl
      have BL := Lib.hid bl
      have L2 := Lib.hid (stv_len (x := ⟨y.s, splice y.b (y.n % 64) tk, y.n + k⟩) hspl)
      have ek : t.take (i + k) = t.take i ++ tk := by
        rw [List.take_add, ← htk, ← hk, List.take_eq_take_min (i := 64 - y.n % 64), Nat.min_comm]
      have EK := Lib.hid ek
      clear sn bl ek
      have HK := Lib.hid hk
      have HTK := Lib.hid htk
      have HKT := Lib.hid hktl
      have HSP := Lib.hid hspl
      simp only at N1
      clear hyl hyn hk htk hktl hfit hspl
      have ed : (t.drop i).drop k = t.drop (i + k) := by rw [List.drop_drop]
      have ED := Lib.hid ed
      clear ed
      by_cases hfull : y.n % 64 + k = 64
      · have hfb : ((y.n : Int) % 64 + (k : Int) == 64) = true := by simp; omega
        go_upto_region 7 with (first
          | ((with_reducible refine' wpList_load_blk (.tmp 9) 93 rfl ?_ ld_u64 ?_ hkS (N0.out) ?_); exact rfl; exact rfl; simp only [Act.put, List.setIfInBounds_toArray, List.set_cons_succ, List.set_cons_zero])
          | ((with_reducible refine' wpList_arr_from (B := w.heap.size) (f := 8) (.tmp 13) (.tmp 14) 92 rfl ?_ Tryd.underlying92 sz_u8 ?_ (y.n % 64) ?_ ?_ ?_); exact rfl; exact rfl; (show (_ : Int) = _; omega); omega; simp only [Act.put, List.setIfInBounds_toArray, List.set_cons_succ, List.set_cons_zero])
          | (((with_reducible refine' wpList_copy_str (s := (t.drop i)) (f := 8 + y.n % 64) (n := 64 - y.n % 64) (cap := 64 - y.n % 64) (.tmp 15) (.tmp 16) 49 9 rfl ?_ Tryd.underlying49 sz_u8 ?_ ?_ hkS ?_ HK.out ?_); exact rfl; exact rfl; exact rfl; rw [L0.out]; omega; intro wA hkA hOA hzA; simp only [Act.put, List.setIfInBounds_toArray, List.set_cons_succ, List.set_cons_zero]); rw [HTK.out, PB.out] at hkA)
          | (((with_reducible refine' wpList_str_from (.tmp 18) (.tmp 19) 9 rfl ?_ Tryd.underlying9 (l := (t.drop i)) ?_ (k) ?_ ?_ ?_); exact rfl; exact rfl; (show (_ : Int) = _; omega); exact hkl; simp only [Act.put, List.setIfInBounds_toArray, List.set_cons_succ, List.set_cons_zero]); rw [ED.out])
          | ((with_reducible refine' wpList_load_blk (.tmp 21) 93 rfl ?_ ld_u64 ?_ hkA (N1.out) ?_); exact rfl; exact rfl; simp only [Act.put, List.setIfInBounds_toArray, List.set_cons_succ, List.set_cons_zero])
          | ((with_reducible refine' wpList_set_blk (k := 72) (B := w.heap.size) (u := .int .u64 ((y.n : Int) + (k : Int))) 93 (.tmp 26) (.tmp 25) rfl ?_ sz_u64 ?_ ?_ hkA (by rw [L1.out]; decide) ?_ ?_); exact rfl; exact rfl; exact rfl; exact rfl; intro wB hkB hOB hzB; rw [SN.out] at hkB; simp only [Act.put]))
        have hE := EZ1.out
        have hs := hbl.size
        have hkR2 := hOB.blk (hOA.blk hkR (by omega)) (by omega)
        have hsA := hOA.size
        have hblB := (hbl.trans (hOA.below (Nat.le_refl _) hs)).trans (hOB.below (Nat.le_refl _) (by omega))
        have hTB := hT.below hblB
        have hrd := Blk.rd hkB 8 64 64 1 (by rw [L2.out]; decide) (Nat.le_refl _) (by unfold maxLen; omega)
        rw [Nat.mul_one, BL.out] at hrd
        clear hOA hOB hzA hzB hkA hE hs
        have hbc0 := below_drew hblB
        (refine wp_region_tail 4 (by kernel_rfl) (by kernel_rfl) ?_; simp only [List.take_succ_cons, List.take_zero, List.drop_succ_cons, List.drop_zero]; (repeat (first | ((with_reducible refine' wpQuiet_load_part (f := 0) (cp := uv (l8 y.s)) still_drew (.tmp 31) 91 rfl ?_ Tryd.underlying91 rfl sz_w8 ?_ hkB ?_ ?_ ?_); exact rfl; exact rfl; rw [L2.out]; decide; exact stv_state _; simp only [Act.put, List.setIfInBounds_toArray, List.set_cons_succ, List.set_cons_zero]) | ((with_reducible refine' wpQuiet_arr_all (B := w.heap.size) (f := 8) (.tmp 33) 92 rfl ?_ Tryd.underlying92 sz_u8 ?_ ?_); exact rfl; exact rfl; simp only [Act.put, List.setIfInBounds_toArray, List.set_cons_succ, List.set_cons_zero]) | go_big_quiet_step (fail))); refine wpQuiet_nil ?_; show wpList _ _ _ _ _ _)
        go_wp2_with (first
          | ((go_at_call 90; (with_reducible refine (compress_any (.slice (some ⟨w.heap.size, 8, none⟩) 64 64) y.s (splice y.b (y.n % 64) tk) wB.drew (Tb.drew hTB) (Rd.drew hrd)).mono ?_); rintro e w' ⟨rfl, hbc⟩); have hkB2 := Blk.below (Blk.drew hkB) hbc (Blk.lt hkB); have hkR3 := Blk.below (Blk.drew hkR2) hbc (Blk.lt hkR2); have hb3 := hbc0.trans (hbc.mono (by have := hblB.size; exact this)))
          | (((with_reducible refine' wpList_store_part (f := 0) (cs := uv (l8 (comp y.s (splice y.b (y.n % 64) tk)))) 91 (.tmp 36) (.tmp 35) rfl ?_ ?_ ?_ hkB2 sz_w8 ?_ ?_ ?_ ?_); exact rfl; exact rfl; exact rfl; rfl; rw [L2.out]; decide; exact uv_one _; intro wC hkC hOC hzC; simp only [Act.put, List.setIfInBounds_toArray, List.set_cons_succ, List.set_cons_zero]); rw [stv_puts] at hkC))
        go_roundw
        case rel =>
          refine ⟨i + k, ⟨comp y.s (splice y.b (y.n % 64) tk), splice y.b (y.n % 64) tk, y.n + k⟩, by rw [List.length_drop] at hkl; omega, rfl, Lib.hid ?_, hkC, hOC.blk hkR3 (by have := EZ1.out; omega), hb3.trans (hOC.below (Nat.le_refl _) hb3.size)⟩
          rw [EK.out, ← List.append_assoc]
          have h := isS_full (t := tk) HY.out (by rw [← HY.out.2.1, HKT.out]; omega)
          rw [← HY.out.2.1, HKT.out] at h
          exact h
        case measure =>
          show (ByteArray.mk (t.drop (i + k)).toArray).size < (ByteArray.mk (t.drop i).toArray).size
          rw [size_str, size_str, List.length_drop, List.length_drop]; omega
      · have hfb : ((y.n : Int) % 64 + (k : Int) == 64) = false := by simp; omega
        go_wp2_with (first
          | ((with_reducible refine' wpList_load_blk (.tmp 9) 93 rfl ?_ ld_u64 ?_ hkS (N0.out) ?_); exact rfl; exact rfl; simp only [Act.put, List.setIfInBounds_toArray, List.set_cons_succ, List.set_cons_zero])
          | ((with_reducible refine' wpList_arr_from (B := w.heap.size) (f := 8) (.tmp 13) (.tmp 14) 92 rfl ?_ Tryd.underlying92 sz_u8 ?_ (y.n % 64) ?_ ?_ ?_); exact rfl; exact rfl; (show (_ : Int) = _; omega); omega; simp only [Act.put, List.setIfInBounds_toArray, List.set_cons_succ, List.set_cons_zero])
          | (((with_reducible refine' wpList_copy_str (s := (t.drop i)) (f := 8 + y.n % 64) (n := 64 - y.n % 64) (cap := 64 - y.n % 64) (.tmp 15) (.tmp 16) 49 9 rfl ?_ Tryd.underlying49 sz_u8 ?_ ?_ hkS ?_ HK.out ?_); exact rfl; exact rfl; exact rfl; rw [L0.out]; omega; intro wA hkA hOA hzA; simp only [Act.put, List.setIfInBounds_toArray, List.set_cons_succ, List.set_cons_zero]); rw [HTK.out, PB.out] at hkA)
          | (((with_reducible refine' wpList_str_from (.tmp 18) (.tmp 19) 9 rfl ?_ Tryd.underlying9 (l := (t.drop i)) ?_ (k) ?_ ?_ ?_); exact rfl; exact rfl; (show (_ : Int) = _; omega); exact hkl; simp only [Act.put, List.setIfInBounds_toArray, List.set_cons_succ, List.set_cons_zero]); rw [ED.out])
          | ((with_reducible refine' wpList_load_blk (.tmp 21) 93 rfl ?_ ld_u64 ?_ hkA (N1.out) ?_); exact rfl; exact rfl; simp only [Act.put, List.setIfInBounds_toArray, List.set_cons_succ, List.set_cons_zero])
          | ((with_reducible refine' wpList_set_blk (k := 72) (B := w.heap.size) (u := .int .u64 ((y.n : Int) + (k : Int))) 93 (.tmp 26) (.tmp 25) rfl ?_ sz_u64 ?_ ?_ hkA (by rw [L1.out]; decide) ?_ ?_); exact rfl; exact rfl; exact rfl; exact rfl; intro wB hkB hOB hzB; rw [SN.out] at hkB; simp only [Act.put]))
        have hE := EZ1.out
        have hs := hbl.size
        have hsA := hOA.size
        go_roundw
        case rel =>
          refine ⟨i + k, ⟨y.s, splice y.b (y.n % 64) tk, y.n + k⟩, by rw [List.length_drop] at hkl; omega, rfl, Lib.hid ?_, hkB, hOB.blk (hOA.blk hkR (by omega)) (by omega), (hbl.trans (hOA.below (Nat.le_refl _) hs)).trans (hOB.below (Nat.le_refl _) (by omega))⟩
          rw [EK.out, ← List.append_assoc]
          have h := isS_part (t := tk) HY.out (by rw [← HY.out.2.1, HKT.out]; have := HK.out; omega)
          rw [← HY.out.2.1, HKT.out] at h
          exact h
        case measure =>
          show (ByteArray.mk (t.drop (i + k)).toArray).size < (ByteArray.mk (t.drop i).toArray).size
          rw [size_str, size_str, List.length_drop, List.length_drop]; omega
    · obtain rfl : i = t.length := by omega
      have hte : (t.drop t.length).isEmpty = true := by simp
      have L0 := Lib.hid (stv_len HY.out.1)
      go_wp2_with (first | ((with_reducible refine' wpList_load_part (f := 0) (cp := stv y) (.tmp 2) 95 rfl ?_ Tryd.underlying95 rfl sz_stm ?_ hkS ?_ ?_ ?_); exact rfl; exact rfl; rw [L0.out]; decide; rw [List.drop_zero, List.take_of_length_le (by rw [L0.out]; decide)]; simp only [Act.put, List.setIfInBounds_toArray, List.set_cons_succ, List.set_cons_zero]) | (((with_reducible refine' wpList_store_blk (cs := stv y) 95 (.tmp 4) (.tmp 37) rfl ?_ ?_ ?_ hkR sz_stm ?_ ?_ ?_ ?_); exact rfl; exact rfl; exact rfl; exact L0.out; exact stz_len; exact stv_one _; intro w3 hk3 hO3 hz3; simp only [Act.put])))
      ((try simp only [Exit.inBlock, Exit.then]); refine bodyPost_ret (results_cell_row rfl _ _ _ _ _ _ _ rfl hk3 Tryd.underlying95 rfl (by rw [sz_stm]; simp [L0.out])) rfl ?_)
      exact ⟨y, rfl, by have h := HY.out; rw [List.take_length] at h; exact h, hbl.trans (hO3.below (by have := EZ1.out; omega) hbl.size)⟩
end Go.Proofs.YtdlhkhnoigbhjaaDoor.Wi
