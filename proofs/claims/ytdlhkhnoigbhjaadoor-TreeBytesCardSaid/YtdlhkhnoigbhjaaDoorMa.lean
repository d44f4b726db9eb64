/-
  Lib, Sv, Pure, Dec, Row, Opa, Ty, Arr, Blk, Hq: my texts of these names, one behind the other. Conditions: those that each law names.
-/
import Derived.WalkKit
import Derived.WalkLawsBesides
import Derived.WalkSpells
import Derived.BigQuiet
import Derived.Lib.AppendStr
import Derived.ProofKit
import Derived.OpenShut
import Derived.ShutString
import Derived.SliceStrings
import Derived.ArgAppend
import Derived.Deep.Upon
import Derived.Test.YtdlhkhnoigbhjaaDoorRows
import Derived.SizedLaws
import Derived.Deep.CondSized
import Derived.Test.YtdlhkhnoigbhjaaDoorProg
import Derived.Laws.StructEq
import Derived.StillTail
namespace Go.Proofs.YtdlhkhnoigbhjaaDoor.Lb
open Go Go.RowKit Go.Lib

/-- the slice value v has n elements of s cells each, and they hold xs -/
def Rd (w : World) (s : Nat) (v : Value) (n : Nat) (xs : List Value) : Prop :=
  xs.length = n * s ∧ ∃ a cap, v = .slice a n cap ∧ n ≤ cap ∧ cap ≤ maxLen ∧ (a = none → cap = 0) ∧
    ∀ j u, xs[j]? = some u → ∃ b o, a = some ⟨b, o, none⟩ ∧ w.cell? ⟨b, o + j, none⟩ = some u

theorem Rd.len {w : World} {s : Nat} {v : Value} {n : Nat} {xs : List Value} (h : Rd w s v n xs) : n ≤ maxLen := by
  obtain ⟨_, a, cap, _, h1, h2, _⟩ := h; omega

theorem Rd.below {w w' : World} {s : Nat} {v : Value} {n : Nat} {xs : List Value} (h : Rd w s v n xs) (hb : Below w.heap.size w w') : Rd w' s v n xs := by
  obtain ⟨hl, a, cap, hv, h1, h2, h3, hc⟩ := h
  refine ⟨hl, a, cap, hv, h1, h2, h3, fun j u hu => ?_⟩
  obtain ⟨b, o, ha, hcell⟩ := hc j u hu
  exact ⟨b, o, ha, (hb.cell (World.block_lt_of_cell? _ _ hcell)).trans hcell⟩

/-- what the call owns reads as a slice -/
theorem Rd.of_own {w : World} {base : Nat} {e : TypeId} {s : Nat} {v : Value} {n : Nat} {xs : List Value} (h : w.ownsRow base e s v n xs) : Rd w s v n xs := by
  refine ⟨h.1, ?_⟩
  have hcells := fun g (hg : v.ownBlock = some g) => h.cells hg
  rcases h.2 with ⟨rfl, rfl⟩ | ⟨g, cap, cur, rfl, hb, hg, h1, h2, h3, h4⟩
  · have hx : xs = [] := List.eq_nil_of_length_eq_zero (by simpa using h.1)
    subst hx
    exact ⟨none, 0, rfl, Nat.le_refl _, by unfold maxLen; omega, fun _ => rfl, fun j u hu => by simp at hu⟩
  · refine ⟨_, cap, rfl, h1, h2, (fun h => by cases h), fun j u hu => ⟨g, 0, rfl, ?_⟩⟩
    have := hcells g rfl j u hu
    rwa [Addr.add_lit] at this

theorem own_below {w w' : World} {base : Nat} {e : TypeId} {s : Nat} {v : Value} {n : Nat} {xs : List Value} (h : w.ownsRow base e s v n xs) (hb : Below w.heap.size w w') : w'.ownsRow base e s v n xs := by
  refine ⟨h.1, ?_⟩
  rcases h.2 with hn | ⟨g, cap, cur, rfl, hbg, hg, rest⟩
  · exact .inl hn
  · exact .inr ⟨g, cap, cur, rfl, hbg, by rw [hb.block g (Array.getElem?_eq_some_iff.1 hg).1]; exact hg, rest⟩

theorem own_mono {w : World} {base base' : Nat} {e : TypeId} {s : Nat} {v : Value} {n : Nat} {xs : List Value} (h : w.ownsRow base e s v n xs) (hb : base' ≤ base) : w.ownsRow base' e s v n xs := by
  refine ⟨h.1, ?_⟩
  rcases h.2 with hn | ⟨g, cap, cur, rfl, hbg, rest⟩
  · exact .inl hn
  · exact .inr ⟨g, cap, cur, rfl, by omega, rest⟩

theorem below_of_grown {w w' : World} {B : Nat} {v : Value} {e : TypeId} {s n : Nat} {xs : List Value} (hg : w.grownBy w' v.ownBlock) (ho : w.ownsRow B e s v n xs) (hB : B ≤ w.heap.size) : Below B w w' :=
  (Below.refl B w).grown hg hB fun k hk => (ho.lt k hk).1

theorem rd_nil (w : World) (s : Nat) : Rd w s (.slice none 0 0) 0 [] := ⟨by simp, none, 0, rfl, Nat.le_refl _, by unfold maxLen; omega, fun _ => rfl, fun j u hu => by simp at hu⟩

/-- the value is the number z -/
def IsI : Value → Int → Prop
  | .int _ y, z => y = z
  | _, _ => False
theorem isI {v : Value} {z : Int} (h : IsI v z) : ∃ kd, v = .int kd z := by
  cases v <;> simp only [IsI] at h
  subst h; exact ⟨_, rfl⟩

/-! ### the walk's laws -/
section
variable {P : Program} {ops : Array Oper} {Q : Exit → Act → World → Prop} {a : Act} {w : World} {rest : List Oper} {o : Oper}

theorem wpList_of_run (hw : Region.wanted o (yielded ops a.tmps) = true) {v : Value} {w' : World} (hr : (execOp a.eval o).run P w = .ok (.value v) w')
    (h : wpList P ops Q rest (a.put o.dst v) w') : wpList P ops Q (o :: rest) a w :=
  BigFrame.wpList_want hw fun K hK => by
    unfold Oper.wp Oper.upon
    rw [hr]
    exact hK _ _ h

/-- 'len(x)' -/
theorem wpList_len_rd (x : Operand) (t : TypeId) (ho : o.op = .call { callee := .builtin .len, args := #[x], argTypes := #[t] }) (hw : Region.wanted o (yielded ops a.tmps) = true)
    {e : TypeId} (ht : P.underlying t = some (.slice e)) {w0 : World} {s : Nat} {v : Value} {n : Nat} {xs : List Value} (hx : a.eval x = v) (hv : Rd w0 s v n xs)
    (h : wpList P ops Q rest (a.put o.dst (.int .i64 n)) w) : wpList P ops Q (o :: rest) a w := by
  obtain ⟨_, ad, cap, rfl, h1, h2, _⟩ := hv
  refine wpList_of_run hw (v := .int .i64 n) (w' := w) ?_ h
  unfold execOp
  simp [ho, resolve, invoke, builtin, Builtin.len_, hx, run_underlying ht, goInt]

/-- the place of cell j -/
def ep (v : Value) (j : Nat) : Value := match v with | .slice (some a) _ _ => .pointer (some (a.add j)) | _ => undef

/-- '*p', p the place of a cell -/
theorem wpList_load_rd (p : Operand) (t : TypeId) (ho : o.op = .load t p) (hw : Region.wanted o (yielded ops a.tmps) = true)
    (hload : ∀ (ad : Addr) (u : Value) (w : World), w.cell? ad = some u → (loadVar t ad).run P w = .ok u w) {s : Nat} {v : Value} {n : Nat} {xs : List Value} {k : Nat} {u : Value}
    (hx : a.eval p = ep v k) (hv : Rd w s v n xs) (hk : xs[k]? = some u)
    (h : wpList P ops Q rest (a.put o.dst u) w) : wpList P ops Q (o :: rest) a w := by
  obtain ⟨hl, ad, cap, rfl, h1, h2, h3, h4⟩ := hv
  obtain ⟨b, of, rfl, hc⟩ := h4 k u hk
  refine wpList_of_run hw (v := u) (w' := w) ?_ h
  have := hload ⟨b, of + k, none⟩ u w hc
  unfold execOp
  simp [ho, Instr.loadAt, hx, ep, Instr.sureAddr, Addr.add_lit, this]

/-! ### cutting a slice -/
theorem rd_cut {w : World} {s : Nat} {ad : Option Addr} {n cap : Nat} {xs : List Value} (hv : Rd w s (.slice ad n cap) n xs) {L H : Nat} (h1 : L ≤ H) (h2 : H ≤ n) {m : Nat} (hm : m ≤ cap) (hHm : H ≤ m) :
    Rd w s (.slice (if m = L then ad else ad.map (·.add (L * s))) (H - L) (m - L)) (H - L) ((xs.drop (L * s)).take ((H - L) * s)) := by
  obtain ⟨hl, ad', cap', hveq, g1, g2, g3, g4⟩ := hv
  simp only [Value.slice.injEq] at hveq
  obtain ⟨rfl, _, rfl⟩ := hveq
  have hle : (H - L) * s + L * s ≤ n * s := by rw [← Nat.add_mul]; exact Nat.mul_le_mul_right _ (by omega)
  refine ⟨by rw [List.length_take, List.length_drop, hl]; omega, _, _, rfl, by omega, by omega, fun h => ?_, fun j u hu => ?_⟩
  · split at h
    · omega
    · have := g3 (by simpa using h); omega
  · rw [List.getElem?_take] at hu
    split at hu
    · rename_i hj
      rw [List.getElem?_drop] at hu
      obtain ⟨b, of, rfl, hc⟩ := g4 _ _ hu
      by_cases hLm : m = L
      · exfalso; have : H - L = 0 := by omega
        rw [this] at hj; omega
      · refine ⟨b, of + L * s, ?_, by rw [Nat.add_assoc]; exact hc⟩
        simp only [if_neg hLm, Option.map_some, Addr.add_lit]
    · cases hu

/-- 'x[lo:hi]' -/
theorem wpList_cut_rd (x lo hi : Operand) (t : TypeId) (ho : o.op = .slice t x (some lo) (some hi) none) (hw : Region.wanted o (yielded ops a.tmps) = true)
    {e : TypeId} (ht : P.underlying t = some (.slice e)) {w0 : World} {s : Nat} (hsz : (P.info? e).map (·.size) = some s) {v : Value} {n : Nat} {xs : List Value} (hx : a.eval x = v) (hv : Rd w0 s v n xs)
    (L H : Nat) (hlo : IsI (a.eval lo) (L : Int)) (hhi : IsI (a.eval hi) (H : Int)) (h1 : L ≤ H) (h2 : H ≤ n)
    (h : ∀ v', Rd w0 s v' (H - L) ((xs.drop (L * s)).take ((H - L) * s)) → wpList P ops Q rest (a.put o.dst v') w) : wpList P ops Q (o :: rest) a w := by
  obtain ⟨ti, hti, rfl⟩ := Option.map_eq_some_iff.1 hsz
  obtain ⟨kl, hlo⟩ := isI hlo
  obtain ⟨kh, hhi⟩ := isI hhi
  have hv' := hv
  obtain ⟨hl, ad, cap, rfl, g1, g2, g3, g4⟩ := hv
  refine wpList_of_run hw (v := _) (w' := w) ?_ (h _ (rd_cut hv' h1 h2 (Nat.le_refl cap) (by omega)))
  have e1 : H ≤ cap := by omega
  unfold execOp
  simp [ho, Instr.sliceAt, hx, hlo, hhi, run_underlying ht, Instr.slice, Instr.sliceBounds, Instr.sliceBound, asIntOf, sizeOf, typeInfo, hti, e1, h1]

/-- 'x[:hi]' -/
theorem wpList_to_rd (x hi : Operand) (t : TypeId) (ho : o.op = .slice t x none (some hi) none) (hw : Region.wanted o (yielded ops a.tmps) = true)
    {e : TypeId} (ht : P.underlying t = some (.slice e)) {w0 : World} {s : Nat} (hsz : (P.info? e).map (·.size) = some s) {v : Value} {n : Nat} {xs : List Value} (hx : a.eval x = v) (hv : Rd w0 s v n xs)
    (H : Nat) (hhi : IsI (a.eval hi) (H : Int)) (h2 : H ≤ n)
    (h : ∀ v', Rd w0 s v' H (xs.take (H * s)) → wpList P ops Q rest (a.put o.dst v') w) : wpList P ops Q (o :: rest) a w := by
  obtain ⟨ti, hti, rfl⟩ := Option.map_eq_some_iff.1 hsz
  obtain ⟨kh, hhi⟩ := isI hhi
  have hv' := hv
  obtain ⟨hl, ad, cap, rfl, g1, g2, g3, g4⟩ := hv
  have hc := rd_cut hv' (Nat.zero_le H) h2 (Nat.le_refl cap) (by omega)
  simp only [Nat.zero_mul, List.drop_zero, Nat.sub_zero] at hc
  refine wpList_of_run hw (v := _) (w' := w) ?_ (h _ hc)
  have e1 : H ≤ cap := by omega
  unfold execOp
  simp [ho, Instr.sliceAt, hx, hhi, run_underlying ht, Instr.slice, Instr.sliceBounds, Instr.sliceBound, asIntOf, sizeOf, typeInfo, hti, e1]

/-- 'x[lo:]' -/
theorem wpList_from_rd (x lo : Operand) (t : TypeId) (ho : o.op = .slice t x (some lo) none none) (hw : Region.wanted o (yielded ops a.tmps) = true)
    {e : TypeId} (ht : P.underlying t = some (.slice e)) {w0 : World} {s : Nat} (hsz : (P.info? e).map (·.size) = some s) {v : Value} {n : Nat} {xs : List Value} (hx : a.eval x = v) (hv : Rd w0 s v n xs)
    (L : Nat) (hlo : IsI (a.eval lo) (L : Int)) (h1 : L ≤ n)
    (h : ∀ v', Rd w0 s v' (n - L) (xs.drop (L * s)) → wpList P ops Q rest (a.put o.dst v') w) : wpList P ops Q (o :: rest) a w := by
  obtain ⟨ti, hti, rfl⟩ := Option.map_eq_some_iff.1 hsz
  obtain ⟨kl, hlo⟩ := isI hlo
  have hv' := hv
  obtain ⟨hl, ad, cap, rfl, g1, g2, g3, g4⟩ := hv
  have hc := rd_cut hv' h1 (Nat.le_refl n) (Nat.le_refl cap) (by omega)
  rw [List.take_of_length_le (by rw [List.length_drop, hl, ← Nat.sub_mul]; exact Nat.le_refl _)] at hc
  refine wpList_of_run hw (v := _) (w' := w) ?_ (h _ hc)
  unfold execOp
  simp [ho, Instr.sliceAt, hx, hlo, run_underlying ht, Instr.slice, Instr.sliceBounds, Instr.sliceBound, asIntOf, sizeOf, typeInfo, hti, h1]

/-! ### bytes and strings -/
def bv (l : List UInt8) : List Value := l.map fun b => .int .u8 (b.toNat : Int)
theorem bv_length (l : List UInt8) : (bv l).length = l.length := by simp [bv]
theorem bv_append (l r : List UInt8) : bv (l ++ r) = bv l ++ bv r := by simp [bv]
theorem bv_take (l : List UInt8) (k : Nat) : (bv l).take k = bv (l.take k) := by simp [bv, List.map_take]
theorem bv_drop (l : List UInt8) (k : Nat) : (bv l).drop k = bv (l.drop k) := by simp [bv, List.map_drop]
theorem bv_get (l : List UInt8) (k : Nat) (h : k < l.length) : (bv l)[k]? = some (.int .u8 (l[k].toNat : Int)) := by simp [bv, h]
theorem bv_at {l : List UInt8} {k : Nat} {x : UInt8} (h : l[k]? = some x) : (bv l)[k]? = some (.int .u8 (x.toNat : Int)) := by simp [bv, h]
theorem get_lt {α : Type} {l : List α} {k : Nat} (h : k < l.length) : ∃ x, l[k]? = some x := ⟨l[k], by simp [h]⟩
theorem bv_one (l : List UInt8) : ∀ u ∈ bv l, u.oneCell' = true := by
  intro u hu
  obtain ⟨_, _, rfl⟩ := List.mem_map.1 hu
  rfl

/-- 'string(b)' -/
theorem wpList_str_rd (x : Operand) (src dst : TypeId) (ho : o.op = .convert src dst x) (hw : Region.wanted o (yielded ops a.tmps) = true)
    {e : TypeId} (hs : P.underlying src = some (.slice e)) (he : P.underlying e = some (.int .u8)) (hd : P.underlying dst = some .string) {v : Value} {n : Nat} {l : List UInt8} (hx : a.eval x = v) (hv : Rd w 1 v n (bv l))
    (h : wpList P ops Q rest (a.put o.dst (.string ⟨l.toArray⟩)) w) : wpList P ops Q (o :: rest) a w := by
  obtain ⟨hl, ad, cap, rfl, g1, g2, g3, g4⟩ := hv
  rw [bv_length, Nat.mul_one] at hl
  subst hl
  refine wpList_of_run hw (v := .string ⟨l.toArray⟩) (w' := w) ?_ h
  have key : (convert src dst (.slice ad l.length cap)).run P w = .ok (.string ⟨l.toArray⟩) w := by
    cases ad with
    | none =>
      have : cap = 0 := g3 rfl
      have h0 : l = [] := List.eq_nil_of_length_eq_zero (by omega)
      subst h0
      rw [run_convert_bytes_nil w src e hs he _ _ dst hd]
      rfl
    | some ad =>
      refine run_convert_bytes_back w src dst e ad cap l hs he hd fun j hj => ?_
      obtain ⟨b, of, hab, hc⟩ := g4 j _ (bv_get l j hj)
      obtain rfl := Option.some.inj hab
      rw [Addr.add_lit]; exact hc
  unfold execOp
  simp [ho, hx, key]

theorem grownCap_bd (w : World) (n : Nat) (e : TypeId) (h : n ≤ maxLen) : n ≤ grownCap w n 0 e ∧ grownCap w n 0 e ≤ maxLen := ⟨grownCap_ge _ _ _ _, grownCap_le_maxLen _ _ _ _ h⟩

theorem bytesRow_get (s : ByteArray) (cap j : Nat) (u : Value) (h : (bv s.data.toList)[j]? = some u) : (bytesRow s cap)[j]? = some u := by
  have hj : j < s.data.size := by have := (List.getElem?_eq_some_iff.1 h).1; rw [bv_length] at this; simpa using this
  simp only [bytesRow, Array.getElem?_append, Array.size_map, hj, if_true]
  simp only [bv] at h
  simpa [hj] using h

/-- '[]byte(s)' -/
theorem wpList_bytes_of (x : Operand) (src dst : TypeId) (ho : o.op = .convert src dst x) (hw : Region.wanted o (yielded ops a.tmps) = true)
    {e : TypeId} (hs : P.underlying src = some .string) (hd : P.underlying dst = some (.slice e)) (he : P.underlying e = some (.int .u8)) {s : ByteArray} (hx : a.eval x = .string s) (hm : s.size ≤ maxLen)
    (h : ∀ v' w', Rd w' 1 v' s.size (bv s.data.toList) → Below w.heap.size w w' → wpList P ops Q rest (a.put o.dst v') w') : wpList P ops Q (o :: rest) a w := by
  have hrun := run_bytes_of_string (P := P) w src dst e s hs hd he
  have hb := grownCap_bd w s.size e hm
  refine wpList_of_run hw (v := (.slice (some ⟨w.heap.size, 0, none⟩) s.size (grownCap w s.size 0 e)))
    (w' := (w.drew.alloc (.cells (bytesRow s (grownCap w s.size 0 e)) e ((bytesRow s (grownCap w s.size 0 e)).size, (bytesRow s (grownCap w s.size 0 e)).size + 1))))
    (by unfold execOp; simp only [ho, hx]; simp only [Sem.run_bind, hrun, Result.andThen, Sem.run_pure]) (h _ _ ?_ ((Below.refl _ _).drew.alloc (Nat.le_refl _) _))
  refine ⟨(by rw [bv_length, Nat.mul_one, Array.length_toList]; rfl), _, _, rfl, hb.1, hb.2, (fun h => by cases h), fun j u hu => ⟨_, 0, rfl, ?_⟩⟩
  rw [Nat.zero_add]
  have := World.cell?_alloc_mark w.drew (bytesRow s (grownCap w s.size 0 e)) e ((bytesRow s (grownCap w s.size 0 e)).size, (bytesRow s (grownCap w s.size 0 e)).size + 1) j
  simp only [World.size_drew] at this
  rw [this]
  exact bytesRow_get s _ j u hu

/-! ### append to what the call owns -/
theorem run_append_rd (base : Nat) (t ty e : TypeId) (z : Value) (s bytes : Nat) (ht : P.underlying t = some (.slice e)) (hinfo : (P.info? e).map (fun i => (i.zero, i.size, i.bytes)) = some (some z, s, bytes)) (hzs : z.cells.size = s) (hs0 : 0 < s)
    {v : Value} {n : Nat} {xs : List Value} (hown : w.ownsRow base e s v n xs) {v2 : Value} {m : Nat} {ys : List Value} (hv : Rd w s v2 m ys) (h1 : ∀ u ∈ ys, u.oneCell' = true)
    (h63 : n + m ≤ maxLen) (hbytes : (n + m) * bytes ≤ 140737488355328) (hbase : base ≤ w.heap.size) :
    ∃ v' w', (Builtin.append_ #[t, t] ty #[v, v2]).run P w = .ok v' w' ∧ w'.ownsRow base e s v' (n + m) (xs ++ ys) ∧ w.grownBy w' v.ownBlock ∧ (v' = .slice none 0 0 ↔ v = .slice none 0 0 ∧ m = 0) := by
  obtain ⟨i, hi, hz, hsz, hby⟩ := info_parts hinfo
  obtain ⟨hl, ad, cap, rfl, g1, g2, g3, g4⟩ := hv
  cases ad with
  | some ad =>
    refine run_append_own w base t ty e i z s bytes ht hi hz hsz hby hzs hs0 v n xs hown ad m cap ys hl (fun j u hu => ?_) h1 h63 hbytes hbase
    obtain ⟨b, of, hab, hc⟩ := g4 j u hu
    obtain rfl := Option.some.inj hab
    rw [Addr.add_lit]; exact hc
  | none =>
    have hc0 : cap = 0 := g3 rfl
    subst hc0
    have hm : m = 0 := by omega
    subst hm
    have hy : ys = [] := List.eq_nil_of_length_eq_zero (by simpa using hl)
    subst hy
    have hrun := run_append_owned_none (P := P) w base t ty e i s ht hi v n xs hown
    exact ⟨v, w, hrun, by simpa using hown, World.grownBy.refl _ _, by simp⟩

theorem wpList_append_rd (x y : Operand) (t : TypeId) (ho : o.op = .call { callee := .builtin .append, args := #[x, y], argTypes := #[t, t] }) (hw : Region.wanted o (yielded ops a.tmps) = true)
    {e : TypeId} {z : Value} {s bytes : Nat} (ht : P.underlying t = some (.slice e)) (hinfo : (P.info? e).map (fun i => (i.zero, i.size, i.bytes)) = some (some z, s, bytes)) (hzs : z.cells.size = s) (hs0 : 0 < s)
    {v : Value} {n : Nat} {xs : List Value} {base : Nat} (hx : a.eval x = v) (hown : w.ownsRow base e s v n xs) {v2 : Value} {m : Nat} {ys : List Value} (hy : a.eval y = v2) (hv : Rd w s v2 m ys) (h1 : ∀ u ∈ ys, u.oneCell' = true)
    (h63 : n + m ≤ maxLen) (hbytes : (n + m) * bytes ≤ 140737488355328) (hbase : base ≤ w.heap.size)
    (h : ∀ v' w', w'.ownsRow base e s v' (n + m) (xs ++ ys) → Below base w w' → wpList P ops Q rest (a.put o.dst v') w') : wpList P ops Q (o :: rest) a w := by
  obtain ⟨v', w', hr, ho', hg, _⟩ := run_append_rd (P := P) base t o.type e z s bytes ht hinfo hzs hs0 hown hv h1 h63 hbytes hbase
  refine wpList_of_run hw (v := v') (w' := w') ?_ (h v' w' ho' (below_of_grown hg hown hbase))
  unfold execOp
  simp only [ho, resolve, invoke, builtin, Sem.run_bind, Sem.run_pure, Result.andThen_ok, List.map_toArray, List.map_cons, List.map_nil, hx, hy, hr]

/-- 'append(x, u)': the one element lies in a block of its own -/
theorem wpList_append_one (x y : Operand) (t : TypeId) (ho : o.op = .call { callee := .builtin .append, args := #[x, y], argTypes := #[t, t] }) {u : Value} {e : TypeId} (hw : Region.wanted o (yielded ops a.tmps) = true)
    {z : Value} {bytes : Nat} (ht : P.underlying t = some (.slice e)) (hinfo : (P.info? e).map (fun i => (i.zero, i.size, i.bytes)) = some (some z, 1, bytes)) (hzs : z.cells.size = 1)
    {v : Value} {n : Nat} {xs : List Value} {base : Nat} (hx : a.eval x = v) (hown : w.ownsRow base e 1 v n xs) (hy : a.eval y = .slice (some ⟨w.heap.size, 0, none⟩) 1 1) (h1 : u.oneCell' = true)
    (h63 : n + 1 ≤ maxLen) (hbytes : (n + 1) * bytes ≤ 140737488355328) (hbase : base ≤ w.heap.size)
    (h : ∀ v' w', w'.ownsRow base e 1 v' (n + 1) (xs ++ [u]) → Below base w w' → wpList P ops Q rest (a.put o.dst v') w') : wpList P ops Q (o :: rest) a (w.alloc (.cells #[u] e)) := by
  have hrd : Rd (w.alloc (.cells #[u] e)) 1 (.slice (some ⟨w.heap.size, 0, none⟩) 1 1) 1 [u] := by
    refine ⟨rfl, _, _, rfl, Nat.le_refl _, (by unfold maxLen; omega), (fun h => by cases h), fun j u' hu => ⟨_, 0, rfl, ?_⟩⟩
    rw [Nat.zero_add, World.cell?_alloc_new]
    simpa using hu
  refine wpList_append_rd x y t ho hw ht hinfo hzs (by omega) hx (hown.alloc _) hy hrd (by intro u' hu'; simp at hu'; subst hu'; exact h1) h63 hbytes (by simp; omega) fun v' w' ho' hb' => h v' w' ho' ?_
  exact ((Below.refl base w).alloc hbase _).trans hb'

/-- a row that a literal has just laid -/
theorem own_lit (w : World) (e : TypeId) (l : List Value) (hm : l.length ≤ maxLen) : (w.alloc (.cells l.toArray e)).ownsRow w.heap.size e 1 (.slice (some ⟨w.heap.size, 0, none⟩) l.length l.length) l.length l := by
  refine ⟨by simp, .inr ⟨w.heap.size, _, _, rfl, Nat.le_refl _, heap_alloc_new w _, Nat.le_refl _, hm, by simp, by simp⟩⟩

/-! ### loads of one cell -/
theorem load_one (t : TypeId) (d : TypeDesc) (hu : P.underlying t = some d) (hd : (match d with | .struct _ | .array _ _ => false | _ => true) = true) (ad : Addr) (u : Value) (w : World) (h : w.cell? ad = some u) :
    (loadVar t ad).run P w = .ok u w := by
  have hi : (isAgg t).run P w = .ok false w := by
    unfold isAgg
    simp only [Sem.run_bind, run_underlying hu, Result.andThen]
    cases d <;> simp_all
  unfold loadVar
  simp [Sem.run_bind, hi, Result.andThen, load, Sem.run, h]

/-! ### a region that draws its order and only reads -/
theorem Rd.drewN {w : World} {s : Nat} {v : Value} {n : Nat} {xs : List Value} (h : Rd w s v n xs) (k : Nat) : Rd (w.drewN k) s v n xs := h
theorem below_drewN {B : Nat} {a w : World} (h : Below B a w) (n : Nat) : Below B a (w.drewN n) := ⟨h.os, h.tape, h.output, h.size, h.block⟩

theorem below_undrew {B : Nat} {a w : World} (h : Below B a.drew w) : Below B a w := ⟨h.os, h.tape, h.output, h.size, h.block⟩

section
variable {C : World → Prop} {Q : Act → Prop}
theorem wpQuiet_of_run (hw : Region.wanted o (yielded ops a.tmps) = true) {v : Value} (hr : ∀ w, C w → (execOp a.eval o).run P w = .ok (.value v) w) (h : wpQuiet P ops C Q rest (a.put o.dst v)) : wpQuiet P ops C Q (o :: rest) a :=
  BigFrame.wpQuiet_want hw fun K hK => ⟨v, fun w hC => by unfold Oper.quietAt; rw [hr w hC]; exact ⟨rfl, rfl⟩, hK _ h⟩

theorem run_len_rd (x : Operand) (t : TypeId) (ho : o.op = .call { callee := .builtin .len, args := #[x], argTypes := #[t] })
    {e : TypeId} (ht : P.underlying t = some (.slice e)) {w0 : World} {s : Nat} {v : Value} {n : Nat} {xs : List Value} (hx : a.eval x = v) (hv : Rd w0 s v n xs) (w : World) :
    (execOp a.eval o).run P w = .ok (.value (.int .i64 n)) w := by
  obtain ⟨_, ad, cap, rfl, h1, h2, _⟩ := hv
  unfold execOp
  simp [ho, resolve, invoke, builtin, Builtin.len_, hx, run_underlying ht, goInt]

theorem wpQuiet_len_rd (x : Operand) (t : TypeId) (ho : o.op = .call { callee := .builtin .len, args := #[x], argTypes := #[t] }) (hw : Region.wanted o (yielded ops a.tmps) = true)
    {e : TypeId} (ht : P.underlying t = some (.slice e)) {w0 : World} {s : Nat} {v : Value} {n : Nat} {xs : List Value} (hx : a.eval x = v) (hv : Rd w0 s v n xs)
    (h : wpQuiet P ops C Q rest (a.put o.dst (.int .i64 n))) : wpQuiet P ops C Q (o :: rest) a :=
  wpQuiet_of_run hw (fun w _ => run_len_rd x t ho ht hx hv w) h

theorem run_at_rd (x i : Operand) (t : TypeId) (ho : o.op = .indexAddr t x i)
    {e : TypeId} (ht : P.underlying t = some (.slice e)) {w0 : World} {s : Nat} (hi : (P.info? e).map (·.size) = some s) {v : Value} {n : Nat} {xs : List Value} (hx : a.eval x = v) (hv : Rd w0 s v n xs) (hpos : 0 < s)
    (k : Nat) (hix : IsI (a.eval i) (k : Int)) (hk : k < n) (w : World) :
    (execOp a.eval o).run P w = .ok (.value (ep v (k * s))) w := by
  obtain ⟨kd, hix⟩ := isI hix
  obtain ⟨ti, hti, rfl⟩ := Option.map_eq_some_iff.1 hi
  obtain ⟨hl, ad, cap, rfl, h1, h2, h3, h4⟩ := hv
  have h0 : 0 < xs.length := by rw [hl]; exact Nat.mul_pos (by omega) hpos
  obtain ⟨b, of, rfl, _⟩ := h4 0 xs[0] (by simp)
  unfold execOp
  simp [ho, Instr.indexAt, hx, hix, asIntOf, run_underlying ht, sizeOf, typeInfo, hti, ep, hk]

theorem wpQuiet_at_rd (x i : Operand) (t : TypeId) (ho : o.op = .indexAddr t x i) (hw : Region.wanted o (yielded ops a.tmps) = true)
    {e : TypeId} (ht : P.underlying t = some (.slice e)) {w0 : World} {s : Nat} (hi : (P.info? e).map (·.size) = some s) {v : Value} {n : Nat} {xs : List Value} (hx : a.eval x = v) (hv : Rd w0 s v n xs) (hpos : 0 < s)
    (k : Nat) (hix : IsI (a.eval i) (k : Int)) (hk : k < n)
    (h : wpQuiet P ops C Q rest (a.put o.dst (ep v (k * s)))) : wpQuiet P ops C Q (o :: rest) a :=
  wpQuiet_of_run hw (fun w _ => run_at_rd x i t ho ht hi hx hv hpos k hix hk w) h

theorem wpQuiet_load_rd {w0 : World} (hC : ∀ w, C w → ∃ n, w = w0.drewN n) (p : Operand) (t : TypeId) (ho : o.op = .load t p) (hw : Region.wanted o (yielded ops a.tmps) = true)
    (hload : ∀ (ad : Addr) (u : Value) (w : World), w.cell? ad = some u → (loadVar t ad).run P w = .ok u w) {s : Nat} {v : Value} {n : Nat} {xs : List Value} {k : Nat} {u : Value}
    (hx : a.eval p = ep v k) (hv : Rd w0 s v n xs) (hk : xs[k]? = some u)
    (h : wpQuiet P ops C Q rest (a.put o.dst u)) : wpQuiet P ops C Q (o :: rest) a := by
  obtain ⟨hl, ad, cap, rfl, h1, h2, h3, h4⟩ := hv
  obtain ⟨b, of, rfl, hc⟩ := h4 k u hk
  refine wpQuiet_of_run hw (fun w hCw => ?_) h
  obtain ⟨m, rfl⟩ := hC w hCw
  have := hload ⟨b, of + k, none⟩ u (w0.drewN m) hc
  unfold execOp
  simp [ho, Instr.loadAt, hx, ep, Instr.sureAddr, Addr.add_lit, this]
end

/-! ### the same outside such a region -/
/-- '&x[i]' -/
theorem wpList_at_rd (x i : Operand) (t : TypeId) (ho : o.op = .indexAddr t x i) (hw : Region.wanted o (yielded ops a.tmps) = true)
    {e : TypeId} (ht : P.underlying t = some (.slice e)) {w0 : World} {s : Nat} (hi : (P.info? e).map (·.size) = some s) {v : Value} {n : Nat} {xs : List Value} (hx : a.eval x = v) (hv : Rd w0 s v n xs) (hpos : 0 < s)
    (k : Nat) (hix : IsI (a.eval i) (k : Int)) (hk : k < n)
    (h : wpList P ops Q rest (a.put o.dst (ep v (k * s))) w) : wpList P ops Q (o :: rest) a w :=
  wpList_of_run hw (run_at_rd x i t ho ht hi hx hv hpos k hix hk w) h

/-- .. where an element is one cell -/
theorem wpList_at1_rd (x i : Operand) (t : TypeId) (ho : o.op = .indexAddr t x i) (hw : Region.wanted o (yielded ops a.tmps) = true)
    {e : TypeId} (ht : P.underlying t = some (.slice e)) {w0 : World} (hi : (P.info? e).map (·.size) = some 1) {v : Value} {n : Nat} {xs : List Value} (hx : a.eval x = v) (hv : Rd w0 1 v n xs)
    (k : Nat) (hix : IsI (a.eval i) (k : Int)) (hk : k < n)
    (h : wpList P ops Q rest (a.put o.dst (ep v k)) w) : wpList P ops Q (o :: rest) a w :=
  wpList_at_rd x i t ho hw ht hi hx hv (by omega) k hix hk (by rw [Nat.mul_one]; exact h)
theorem wpQuiet_at1_rd {C : World → Prop} {Q : Act → Prop} (x i : Operand) (t : TypeId) (ho : o.op = .indexAddr t x i) (hw : Region.wanted o (yielded ops a.tmps) = true)
    {e : TypeId} (ht : P.underlying t = some (.slice e)) {w0 : World} (hi : (P.info? e).map (·.size) = some 1) {v : Value} {n : Nat} {xs : List Value} (hx : a.eval x = v) (hv : Rd w0 1 v n xs)
    (k : Nat) (hix : IsI (a.eval i) (k : Int)) (hk : k < n)
    (h : wpQuiet P ops C Q rest (a.put o.dst (ep v k))) : wpQuiet P ops C Q (o :: rest) a :=
  wpQuiet_at_rd x i t ho hw ht hi hx hv (by omega) k hix hk (by rw [Nat.mul_one]; exact h)

/-- 'b[lo:hi]', 'b[:hi]', 'b[lo:]' of bytes -/
theorem wpList_cut_b (x lo hi : Operand) (t : TypeId) (ho : o.op = .slice t x (some lo) (some hi) none) (hw : Region.wanted o (yielded ops a.tmps) = true)
    {e : TypeId} (ht : P.underlying t = some (.slice e)) {w0 : World} (hi' : (P.info? e).map (·.size) = some 1) {v : Value} {n : Nat} {l : List UInt8} (hx : a.eval x = v) (hv : Rd w0 1 v n (bv l))
    (L H : Nat) (hlo : IsI (a.eval lo) (L : Int)) (hhi : IsI (a.eval hi) (H : Int)) (h1 : L ≤ H) (h2 : H ≤ n)
    (h : ∀ v', Rd w0 1 v' (H - L) (bv ((l.drop L).take (H - L))) → wpList P ops Q rest (a.put o.dst v') w) : wpList P ops Q (o :: rest) a w :=
  wpList_cut_rd x lo hi t ho hw ht hi' hx hv L H hlo hhi h1 h2 fun v' hv' => h v' (by rw [Nat.mul_one, Nat.mul_one, bv_drop, bv_take] at hv'; exact hv')
theorem wpList_to_b (x hi : Operand) (t : TypeId) (ho : o.op = .slice t x none (some hi) none) (hw : Region.wanted o (yielded ops a.tmps) = true)
    {e : TypeId} (ht : P.underlying t = some (.slice e)) {w0 : World} (hi' : (P.info? e).map (·.size) = some 1) {v : Value} {n : Nat} {l : List UInt8} (hx : a.eval x = v) (hv : Rd w0 1 v n (bv l))
    (H : Nat) (hhi : IsI (a.eval hi) (H : Int)) (h2 : H ≤ n)
    (h : ∀ v', Rd w0 1 v' H (bv (l.take H)) → wpList P ops Q rest (a.put o.dst v') w) : wpList P ops Q (o :: rest) a w :=
  wpList_to_rd x hi t ho hw ht hi' hx hv H hhi h2 fun v' hv' => h v' (by rw [Nat.mul_one, bv_take] at hv'; exact hv')
theorem wpList_from_b (x lo : Operand) (t : TypeId) (ho : o.op = .slice t x (some lo) none none) (hw : Region.wanted o (yielded ops a.tmps) = true)
    {e : TypeId} (ht : P.underlying t = some (.slice e)) {w0 : World} (hi' : (P.info? e).map (·.size) = some 1) {v : Value} {n : Nat} {l : List UInt8} (hx : a.eval x = v) (hv : Rd w0 1 v n (bv l))
    (L : Nat) (hlo : IsI (a.eval lo) (L : Int)) (h1 : L ≤ n)
    (h : ∀ v', Rd w0 1 v' (n - L) (bv (l.drop L)) → wpList P ops Q rest (a.put o.dst v') w) : wpList P ops Q (o :: rest) a w :=
  wpList_from_rd x lo t ho hw ht hi' hx hv L hlo h1 fun v' hv' => h v' (by rw [Nat.mul_one, bv_drop] at hv'; exact hv')

/-! ### the same as facts for a region that is walked in every order -/
theorem cut_run_to {t e : TypeId} (ht : P.underlying t = some (.slice e)) {w0 : World} {s : Nat} (hsz : (P.info? e).map (·.size) = some s) {v : Value} {n : Nat} {xs : List Value} (hv : Rd w0 s v n xs) (kh : IntKind) (H : Nat) {z : Int} (hz : z = (H : Int)) (h2 : H ≤ n) :
    ∃ v', (∀ w, (Instr.slice t v none (some (.int kh z)) none).run P w = .ok v' w) ∧ Rd w0 s v' H (xs.take (H * s)) := by
  subst hz
  obtain ⟨ti, hti, rfl⟩ := Option.map_eq_some_iff.1 hsz
  have hv' := hv
  obtain ⟨hl, ad, cap, rfl, g1, g2, g3, g4⟩ := hv
  have hc := rd_cut hv' (Nat.zero_le H) h2 (Nat.le_refl cap) (by omega)
  simp only [Nat.zero_mul, List.drop_zero, Nat.sub_zero] at hc
  refine ⟨_, fun w => ?_, hc⟩
  have e1 : H ≤ cap := by omega
  simp [run_underlying ht, Instr.slice, Instr.sliceBounds, Instr.sliceBound, asIntOf, sizeOf, typeInfo, hti, e1]

/-! ### append of a string -/
theorem size_str (l : List UInt8) : (ByteArray.mk l.toArray).size = l.length := by simp [ByteArray.size]
theorem str_eta (s : ByteArray) : s = ⟨s.data.toList.toArray⟩ := by cases s; simp
theorem strCells_bv (l : List UInt8) : strCells ⟨l.toArray⟩ = bv l := by simp [strCells, bv]

theorem wpList_append_str (x y : Operand) (t u : TypeId) (ho : o.op = .call { callee := .builtin .append, args := #[x, y], argTypes := #[t, u] }) (hw : Region.wanted o (yielded ops a.tmps) = true)
    {e : TypeId} (ht : P.underlying t = some (.slice e)) (hu : P.underlying u = some .string) (hinfo : (P.info? e).map (fun i => (i.zero, i.size, i.bytes)) = some (some (.int .u8 0), 1, 1))
    {v : Value} {n : Nat} {xs : List Value} {base : Nat} (hx : a.eval x = v) (hown : w.ownsRow base e 1 v n xs) {l : List UInt8} (hy : a.eval y = .string ⟨l.toArray⟩)
    (hbytes : n + l.length ≤ 140737488355328) (hbase : base ≤ w.heap.size)
    (h : ∀ v' w', w'.ownsRow base e 1 v' (n + l.length) (xs ++ bv l) → Below base w w' → wpList P ops Q rest (a.put o.dst v') w') : wpList P ops Q (o :: rest) a w := by
  obtain ⟨i, hi, hz, hsz, hby⟩ := info_parts hinfo
  obtain ⟨v', w', hr, ho', hg, _⟩ := run_append_own_string (P := P) w base t u o.type e i ht hu hi hz hsz hby v n xs hown ⟨l.toArray⟩ (by rw [size_str]; unfold maxLen; omega) (by rw [size_str]; omega) hbase
  rw [size_str, strCells_bv] at ho'
  refine wpList_of_run hw (v := v') (w' := w') ?_ (h v' w' ho' (below_of_grown hg hown hbase))
  unfold execOp
  simp only [ho, resolve, invoke, builtin, Sem.run_bind, Sem.run_pure, Result.andThen_ok, List.map_toArray, List.map_cons, List.map_nil, hx, hy, hr]

/-- '[]byte(s)', the string by its bytes -/
theorem wpList_bytes_l (x : Operand) (src dst : TypeId) (ho : o.op = .convert src dst x) (hw : Region.wanted o (yielded ops a.tmps) = true)
    {e : TypeId} (hs : P.underlying src = some .string) (hd : P.underlying dst = some (.slice e)) (he : P.underlying e = some (.int .u8)) {l : List UInt8} (hx : a.eval x = .string ⟨l.toArray⟩) (hm : l.length ≤ maxLen)
    (h : ∀ v' w', Rd w' 1 v' l.length (bv l) → Below w.heap.size w w' → wpList P ops Q rest (a.put o.dst v') w') : wpList P ops Q (o :: rest) a w :=
  wpList_bytes_of x src dst ho hw hs hd he hx (by rw [size_str]; exact hm) fun v' w' h1 h2 => h v' w' (by rw [size_str] at h1; exact h1) h2

end
end Go.Proofs.YtdlhkhnoigbhjaaDoor.Lb
namespace Go.Proofs.YtdlhkhnoigbhjaaDoor.Wi
open Go Go.RowKit Lb
def iv (l : List Int) : List Value := l.map (Value.int .i64)
def sv (l : List (List UInt8)) : List Value := l.map fun s => .string ⟨s.toArray⟩
theorem iv_at {l : List Int} {k : Nat} {x : Int} (h : l[k]? = some x) : (iv l)[k]? = some (.int .i64 x) := by simp [iv, h]
theorem sv_at {l : List (List UInt8)} {k : Nat} {x : List UInt8} (h : l[k]? = some x) : (sv l)[k]? = some (.string ⟨x.toArray⟩) := by simp [sv, h]
theorem iv_length (l : List Int) : (iv l).length = l.length := by simp [iv]
theorem sv_length (l : List (List UInt8)) : (sv l).length = l.length := by simp [sv]
def IntsOk (l : List Int) : Prop := ∀ x ∈ l, -9223372036854775808 ≤ x ∧ x ≤ 9223372036854775807
theorem mem_of_get {α : Type} {l : List α} {k : Nat} {x : α} (h : l[k]? = some x) : x ∈ l := List.mem_of_getElem? h
end Go.Proofs.YtdlhkhnoigbhjaaDoor.Wi
namespace Go.Proofs.YtdlhkhnoigbhjaaDoor.Pu

/-- the byte that a number leaves -/
def bt (z : Int) : UInt8 := UInt8.ofNat (z % 256).toNat

theorem bt_toNat (z : Int) : ((bt z).toNat : Int) = z % 256 := by
  unfold bt
  rw [UInt8.toNat_ofNat']
  have h1 : 0 ≤ z % 256 := Int.emod_nonneg _ (by omega)
  have h2 : z % 256 < 256 := Int.emod_lt_of_pos _ (by omega)
  have h3 : (z % 256).toNat % 2 ^ 8 = (z % 256).toNat := Nat.mod_eq_of_lt (by omega)
  rw [h3]; omega

theorem u8_lt (b : UInt8) : b.toNat < 256 := b.toNat_lt

theorem u8_ext {a b : UInt8} (h : (a.toNat : Int) = b.toNat) : a = b := UInt8.toNat_inj.1 (by omega)

/-- how many digits to the base 256 -/
def nd (m : Nat) : Nat := if h : m = 0 then 0 else nd (m / 256) + 1
termination_by m
decreasing_by omega

theorem nd_zero : nd 0 = 0 := by unfold nd; simp
theorem nd_pos {m : Nat} (h : 0 < m) : nd m = nd (m / 256) + 1 := by
  rw [nd]; simp only [dif_neg (show ¬ m = 0 by omega)]

theorem nd_le {m k : Nat} (h : m < 256 ^ k) : nd m ≤ k := by
  induction k generalizing m with
  | zero => have : m = 0 := by simpa using h
            subst this; simp [nd_zero]
  | succ k ih =>
    by_cases hm : m = 0
    · subst hm; simp [nd_zero]
    · rw [nd_pos (by omega)]
      have : m / 256 < 256 ^ k := Nat.div_lt_of_lt_mul (by rw [Nat.pow_succ] at h; omega)
      have := ih this
      omega

theorem lt_pow_nd (m : Nat) : m < 256 ^ nd m := by
  induction m using Nat.strongRecOn with
  | _ m ih =>
    by_cases hm : m = 0
    · subst hm; simp [nd_zero]
    · rw [nd_pos (by omega), Nat.pow_succ]
      have := ih (m / 256) (by omega)
      omega

theorem pow_le_of_nd {m : Nat} (h : 0 < m) : 256 ^ (nd m - 1) ≤ m := by
  induction m using Nat.strongRecOn with
  | _ m ih =>
    rw [nd_pos h]
    by_cases hm : m / 256 = 0
    · rw [hm, nd_zero]; simp; omega
    · have h1 := ih (m / 256) (by omega) (by omega)
      have h2 : 0 < nd (m / 256) := by rw [nd_pos (by omega)]; omega
      have e : nd (m / 256) + 1 - 1 = (nd (m / 256) - 1) + 1 := by omega
      rw [e, Nat.pow_succ]
      omega

/-- the digits: the greatest first, k of them -/
def be (m : Nat) : Nat → List UInt8
  | 0 => []
  | k + 1 => be (m / 256) k ++ [bt m]

theorem be_length (m k : Nat) : (be m k).length = k := by
  induction k generalizing m with
  | zero => rfl
  | succ k ih => simp [be, ih]

/-- the digits, taken from the front -/
theorem be_cons (m k : Nat) : be m (k + 1) = bt ((m / 256 ^ k : Nat) : Int) :: be m k := by
  induction k generalizing m with
  | zero => simp [be]
  | succ k ih =>
    rw [be, ih (m / 256)]
    rw [show be m (k + 1) = be (m / 256) k ++ [bt m] from rfl]
    rw [Nat.div_div_eq_div_mul, ← Nat.pow_succ']
    simp

/-- a byte turned round where the number is below nought -/
def fl (neg : Bool) (b : UInt8) : UInt8 := b ^^^ (if neg then 255 else 0)
/-- what a byte is turned round with -/
def fb (neg : Bool) : Int := if neg then 255 else 0
theorem fb_bd (neg : Bool) : 0 ≤ fb neg ∧ fb neg ≤ 255 := by cases neg <;> decide

theorem fl_fl (neg : Bool) (b : UInt8) : fl neg (fl neg b) = b := by
  unfold fl; rw [UInt8.xor_assoc, UInt8.xor_self, UInt8.xor_zero]

theorem xor_ones (w x : Nat) (h : x < 2 ^ w) : x ^^^ (2 ^ w - 1) = 2 ^ w - 1 - x := by
  have e := congrArg BitVec.toNat (BitVec.xor_allOnes (x := BitVec.ofNat w x))
  rw [BitVec.toNat_xor, BitVec.toNat_not, BitVec.toNat_allOnes, BitVec.toNat_ofNat, Nat.mod_eq_of_lt h] at e
  exact e

theorem xor255 (b : Nat) (h : b < 256) : b ^^^ 255 = 255 - b := xor_ones 8 b h

theorem fl_false (b : UInt8) : fl false b = b := by simp [fl]
theorem fl_true (b : UInt8) : ((fl true b).toNat : Int) = 255 - b.toNat := by
  have := u8_lt b
  simp only [fl, if_true, UInt8.toNat_xor]
  rw [show (255 : UInt8).toNat = 255 from rfl, xor255 _ this]; omega

/-- what is written of an integer -/
def mag (n : Int) : Nat := if n < 0 then (-1 - n).toNat else n.toNat
def enc (n : Int) : List UInt8 := (bt (128 + nd (mag n)) :: be (mag n) (nd (mag n))).map (fl (decide (n < 0)))

theorem enc_length (n : Int) : (enc n).length = nd (mag n) + 1 := by simp [enc, be_length]

theorem mag_lt {n : Int} (h0 : -9223372036854775808 ≤ n) (h1 : n ≤ 9223372036854775807) : mag n < 9223372036854775808 := by
  unfold mag; split <;> omega

theorem be_step (m k j : Nat) (h0 : 0 < j) (h1 : j ≤ k) : be (m / 256 ^ (j - 1)) (k - (j - 1)) = be (m / 256 ^ j) (k - j) ++ [bt ((m / 256 ^ (j - 1) : Nat) : Int)] := by
  have e : k - (j - 1) = (k - j) + 1 := by omega
  have e2 : m / 256 ^ (j - 1) / 256 = m / 256 ^ j := by
    rw [Nat.div_div_eq_div_mul, ← Nat.pow_succ]; congr 2; omega
  rw [e, be, e2]

theorem pow8 (j : Nat) : 2 ^ (8 * j) = 256 ^ j := by rw [Nat.pow_mul]

theorem nd_eq {m j : Nat} (h1 : m < 256 ^ j) (h2 : j = 0 ∨ 0 < m / 256 ^ (j - 1)) : nd m = j := by
  have a := nd_le h1
  rcases h2 with rfl | h2
  · omega
  · by_cases hj : nd m < j
    · exfalso
      have h3 := lt_pow_nd m
      have h4 : 256 ^ nd m ≤ 256 ^ (j - 1) := Nat.pow_le_pow_right (by omega) (by omega)
      have h5 : m / 256 ^ (j - 1) = 0 := Nat.div_eq_of_lt (by omega)
      omega
    · omega

/-- the digits, the least first -/
def le (m : Nat) : Nat → List UInt8
  | 0 => []
  | k + 1 => bt m :: le (m / 256) k
theorem le_length (m k : Nat) : (le m k).length = k := by
  induction k generalizing m with
  | zero => rfl
  | succ k ih => simp [le, ih]
theorem le_snoc (m k : Nat) : le m (k + 1) = le m k ++ [bt ((m / 256 ^ k : Nat) : Int)] := by
  induction k generalizing m with
  | zero => simp [le]
  | succ k ih => rw [le, ih (m / 256), le, Nat.div_div_eq_div_mul, ← Nat.pow_succ']; rfl
theorem be_rev (m k : Nat) : be m k = (le m k).reverse := by
  induction k generalizing m with
  | zero => rfl
  | succ k ih => rw [be, le, ih]; simp
theorem le_get (m : Nat) {k j : Nat} (h : j < k) : (le m k)[j]? = some (bt ((m / 256 ^ j : Nat) : Int)) := by
  induction k generalizing m j with
  | zero => omega
  | succ k ih =>
    cases j with
    | zero => simp [le]
    | succ j => rw [le, List.getElem?_cons_succ, ih (m / 256) (by omega), Nat.div_div_eq_div_mul, ← Nat.pow_succ']

theorem nd_mag_le {n : Int} (h0 : -9223372036854775808 ≤ n) (h1 : n ≤ 9223372036854775807) : nd (mag n) ≤ 8 :=
  nd_le (by have := mag_lt h0 h1; omega)

end Go.Proofs.YtdlhkhnoigbhjaaDoor.Pu
namespace Go.Proofs.YtdlhkhnoigbhjaaDoor.Pu

/-- the number of digits, the greatest first -/
def val (l : List UInt8) : Nat := l.foldl (fun m c => 256 * m + c.toNat) 0

theorem val_foldl (l : List UInt8) (a : Nat) : l.foldl (fun m c => 256 * m + c.toNat) a = a * 256 ^ l.length + val l := by
  induction l generalizing a with
  | nil => simp [val]
  | cons c l ih =>
    unfold val
    simp only [List.foldl_cons, List.length_cons]
    rw [ih, ih (256 * 0 + c.toNat), Nat.pow_succ]
    have e : (256 * a + c.toNat) * 256 ^ l.length = a * (256 ^ l.length * 256) + c.toNat * 256 ^ l.length := by
      rw [Nat.add_mul, Nat.mul_comm 256 a, Nat.mul_assoc, Nat.mul_comm 256]
    rw [e]; simp only [Nat.mul_zero, Nat.zero_add]; omega
theorem val_nil : val [] = 0 := rfl
theorem val_cons (c : UInt8) (l : List UInt8) : val (c :: l) = c.toNat * 256 ^ l.length + val l := by
  unfold val; simp only [List.foldl_cons]; rw [val_foldl]; simp [val]
theorem val_snoc (l : List UInt8) (c : UInt8) : val (l ++ [c]) = 256 * val l + c.toNat := by
  unfold val; rw [List.foldl_append]; rfl
theorem val_lt (l : List UInt8) : val l < 256 ^ l.length := by
  induction l with
  | nil => simp [val]
  | cons c l ih =>
    rw [val_cons, List.length_cons, Nat.pow_succ]
    have h := u8_lt c
    have h2 : c.toNat * 256 ^ l.length ≤ 255 * 256 ^ l.length := Nat.mul_le_mul_right _ (by omega)
    omega

theorem be_val (l : List UInt8) : be (val l) l.length = l := by
  generalize hn : l.length = n
  induction n generalizing l with
  | zero => rw [List.eq_nil_of_length_eq_zero hn]; rfl
  | succ n ih0 =>
    obtain rfl | ⟨l, c, rfl⟩ := List.eq_nil_or_concat l
    · simp at hn
    rw [List.concat_eq_append] at hn ⊢
    rw [List.length_append, List.length_singleton] at hn
    have ih := ih0 l (by omega)
    obtain rfl : n = l.length := by omega
    have h := u8_lt c
    rw [be, val_snoc]
    have e : (256 * val l + c.toNat) / 256 = val l := by omega
    rw [e, ih]
    congr 1
    congr 1
    apply u8_ext
    rw [bt_toNat]
    omega

theorem val_be (m k : Nat) : val (be m k) = m % 256 ^ k := by
  induction k generalizing m with
  | zero => simp [be, val, Nat.mod_one]
  | succ k ih =>
    rw [be, val_snoc, ih]
    have h := bt_toNat (m : Int)
    have h2 : (bt (m : Int)).toNat = m % 256 := by omega
    rw [h2, Nat.pow_succ', Nat.mod_mul]
    omega
theorem val_be_nd (m : Nat) : val (be m (nd m)) = m := by rw [val_be, Nat.mod_eq_of_lt (lt_pow_nd m)]

theorem nd_val {l : List UInt8} (h : l.head? ≠ some 0) : nd (val l) = l.length := by
  refine nd_eq (val_lt l) ?_
  cases l with
  | nil => left; rfl
  | cons c l =>
    right
    have hc : 0 < c.toNat := by
      rcases Nat.eq_zero_or_pos c.toNat with h0 | h0
      · exfalso; apply h; simp; exact UInt8.toNat_inj.1 (by rw [h0]; rfl)
      · exact h0
    rw [val_cons]
    simp only [List.length_cons, Nat.add_sub_cancel]
    have h2 : 1 * 256 ^ l.length ≤ c.toNat * 256 ^ l.length := Nat.mul_le_mul_right _ hc
    exact Nat.div_pos (by omega) (Nat.pow_pos (by omega))

theorem be_head (m : Nat) : (be m (nd m)).head? ≠ some 0 := by
  by_cases hm : m = 0
  · subst hm; simp [nd_zero, be]
  · have h1 : nd m = (nd m - 1) + 1 := by rw [nd_pos (by omega)]; omega
    rw [h1, be_cons]
    intro h
    simp only [List.head?_cons, Option.some.injEq] at h
    have h2 := bt_toNat ((m / 256 ^ (nd m - 1) : Nat) : Int)
    rw [h] at h2
    have h3 := pow_le_of_nd (m := m) (by omega)
    have h4 : 0 < m / 256 ^ (nd m - 1) := Nat.div_pos h3 (Nat.pow_pos (by omega))
    have h5 : m / 256 ^ (nd m - 1) < 256 := by
      refine Nat.div_lt_of_lt_mul ?_
      have := lt_pow_nd m
      rw [h1, Nat.pow_succ] at this
      exact this
    have h6 : ((0 : UInt8).toNat : Int) = 0 := rfl
    rw [h6] at h2
    omega

/-! ### the decoder -/
/-- what is made of the digits behind a head -/
def fin (neg : Bool) (ds : List UInt8) : Int × Nat × Nat :=
  if ds.head? = some 0 ∨ 9223372036854775808 ≤ val ds then (0, 0, 2) else (if neg then -1 - (val ds : Int) else val ds, ds.length + 1, 0)

def getInt : List UInt8 → Int × Nat × Nat
  | [] => (0, 0, 3)
  | c :: r =>
    let neg := decide (c.toNat < 128)
    let k := (fl neg c).toNat - 128
    if 8 < k then (0, 0, 2) else if r.length < k then (0, 0, 3) else fin neg ((r.take k).map (fl neg))

theorem fl_head (c : UInt8) : 128 ≤ (fl (decide (c.toNat < 128)) c).toNat := by
  by_cases h : c.toNat < 128
  · have := fl_true c; rw [decide_eq_true h]; omega
  · rw [decide_eq_false h, fl_false]; omega

theorem fl_inj {neg : Bool} {a b : UInt8} (h : fl neg a = fl neg b) : a = b := by rw [← fl_fl neg a, h, fl_fl]
theorem fl_map (neg : Bool) (l : List UInt8) : (l.map (fl neg)).map (fl neg) = l := by
  rw [List.map_map]; conv => rhs; rw [← List.map_id l]
  exact List.map_congr_left fun a _ => fl_fl neg a

theorem mag_pos (m : Nat) : mag (m : Int) = m := by unfold mag; rw [if_neg (by omega)]; omega
theorem mag_neg (m : Nat) : mag (-1 - (m : Int)) = m := by unfold mag; rw [if_pos (by omega)]; omega
theorem mag_sgn (neg : Bool) (m : Nat) : mag (if neg then -1 - (m : Int) else m) = m ∧ decide ((if neg then -1 - (m : Int) else (m : Int)) < 0) = neg := by
  cases neg
  · exact ⟨mag_pos m, by simp⟩
  · exact ⟨mag_neg m, by simp; omega⟩
theorem sgn_mag (n : Int) : n = if decide (n < 0) then -1 - (mag n : Int) else mag n := by
  unfold mag
  by_cases h : n < 0
  · simp only [decide_eq_true h, if_pos h, if_true]; omega
  · simp only [decide_eq_false h, if_neg h, Bool.false_eq_true, if_false]; omega

theorem bt_nat {n : Nat} (h : n < 256) : (bt (n : Int)).toNat = n := by have := bt_toNat (n : Int); omega

/-- the head of an encoding reads back -/
theorem head_back (neg : Bool) (k : Nat) (hk : k ≤ 8) : decide ((fl neg (bt (128 + k))).toNat < 128) = neg ∧ (fl neg (fl neg (bt (128 + k)))).toNat = 128 + k := by
  have e : (bt (128 + k)).toNat = 128 + k := by have := bt_nat (n := 128 + k) (by omega); push_cast at this; exact this
  refine ⟨?_, by rw [fl_fl, e]⟩
  cases neg
  · rw [fl_false, e]; simp
  · have := fl_true (bt (128 + k)); rw [decide_eq_true_iff]; omega

/-- what is written is read -/
theorem get_enc (n : Int) (t : List UInt8) (h0 : -9223372036854775808 ≤ n) (h1 : n ≤ 9223372036854775807) : getInt (enc n ++ t) = (n, (enc n).length, 0) := by
  have hm := mag_lt h0 h1
  have hk := nd_mag_le h0 h1
  obtain ⟨hb1, hb2⟩ := head_back (decide (n < 0)) (nd (mag n)) hk
  rw [enc_length]
  unfold enc
  simp only [List.map_cons, List.cons_append, getInt]
  rw [hb1, hb2]
  rw [show 128 + nd (mag n) - 128 = nd (mag n) by omega, if_neg (by omega), if_neg (by simp [be_length])]
  rw [List.take_left' (by simp [be_length]), fl_map]
  unfold fin
  rw [if_neg, val_be_nd, be_length, ← sgn_mag]
  rintro (h | h)
  · exact be_head _ h
  · rw [val_be_nd] at h; omega

/-- what is read is what was written -/
theorem enc_fin {neg : Bool} {ds : List UInt8} {n : Int} {used : Nat} (h : fin neg ds = (n, used, 0)) :
    -9223372036854775808 ≤ n ∧ n ≤ 9223372036854775807 ∧ used = ds.length + 1 ∧ enc n = (bt (128 + ds.length) :: ds).map (fl neg) := by
  unfold fin at h
  split at h
  · simp at h
  · rename_i hc
    simp only [Prod.mk.injEq, and_true] at h
    obtain ⟨rfl, rfl⟩ := h
    have hv : val ds < 9223372036854775808 := Nat.lt_of_not_le fun h => hc (.inr h)
    obtain ⟨e1, e2⟩ := mag_sgn neg (val ds)
    have hnd := nd_val fun h => hc (.inl h)
    refine ⟨by split <;> omega, by split <;> omega, rfl, ?_⟩
    unfold enc
    rw [e1, e2, hnd, be_val]

theorem enc_get {b : List UInt8} {n : Int} {used : Nat} (h : getInt b = (n, used, 0)) :
    -9223372036854775808 ≤ n ∧ n ≤ 9223372036854775807 ∧ used ≤ b.length ∧ enc n = b.take used ∧ 1 ≤ used ∧ used ≤ 9 := by
  cases b with
  | nil => simp [getInt] at h
  | cons c r =>
    simp only [getInt] at h
    split at h
    · simp at h
    · split at h
      · simp at h
      · rename_i hk hl
        have hlen : ((r.take ((fl (decide (c.toNat < 128)) c).toNat - 128)).map (fl (decide (c.toNat < 128)))).length = (fl (decide (c.toNat < 128)) c).toNat - 128 := by
          rw [List.length_map, List.length_take]; omega
        obtain ⟨a1, a2, a3, a4⟩ := enc_fin h
        rw [hlen] at a3 a4
        have hh := fl_head c
        have hc := u8_lt (fl (decide (c.toNat < 128)) c)
        subst a3
        refine ⟨a1, a2, by simp; omega, ?_, by omega, by omega⟩
        rw [List.map_cons, fl_map] at a4
        have hx : fl (decide (c.toNat < 128)) (bt (128 + (((fl (decide (c.toNat < 128)) c).toNat - 128 : Nat) : Int))) = c := by
          apply fl_inj (neg := decide (c.toNat < 128))
          rw [fl_fl]
          apply u8_ext
          rw [bt_toNat]
          generalize (fl (decide (c.toNat < 128)) c).toNat = q at hh hc
          omega
        rw [hx] at a4
        exact a4

theorem get_used_zero {b : List UInt8} {n : Int} {used e : Nat} (h : getInt b = (n, used, e)) (he : e ≠ 0) : n = 0 ∧ used = 0 ∧ (e = 2 ∨ e = 3) := by
  cases b with
  | nil => simp [getInt] at h; omega
  | cons c r =>
    simp only [getInt] at h
    split at h
    · simp at h; omega
    · split at h
      · simp at h; omega
      · unfold fin at h
        split at h
        · simp at h; omega
        · simp at h; omega

/-- a part of what is written reads as too short -/
theorem get_part (n : Int) (i : Nat) (h0 : -9223372036854775808 ≤ n) (h1 : n ≤ 9223372036854775807) (hi : i < (enc n).length) : getInt ((enc n).take i) = (0, 0, 3) := by
  have hk := nd_mag_le h0 h1
  obtain ⟨hb1, hb2⟩ := head_back (decide (n < 0)) (nd (mag n)) hk
  rw [enc_length] at hi
  cases i with
  | zero => rfl
  | succ i =>
    unfold enc
    simp only [List.map_cons, List.take_succ_cons, getInt]
    rw [hb1, hb2]
    rw [show 128 + nd (mag n) - 128 = nd (mag n) by omega, if_neg (by omega), if_pos (by simp [be_length]; omega)]


/-! ### lists -/
/-- a count of elements that take at least sz bytes each -/
def cnt (b : List UInt8) (sz : Nat) : Nat × Nat × Nat :=
  let x := getInt b
  if x.2.2 ≠ 0 then (0, 0, x.2.2) else if x.1 < 0 then (0, 0, 2) else if (b.length - x.2.1) / sz < x.1.toNat then (0, 0, 3) else (x.1.toNat, x.2.1, 0)

theorem cnt_ok {b : List UInt8} {sz n at_ : Nat} (h : cnt b sz = (n, at_, 0)) : getInt b = ((n : Int), at_, 0) ∧ at_ ≤ b.length ∧ n * sz ≤ b.length - at_ ∧ 1 ≤ at_ ∧ at_ ≤ 9 := by
  unfold cnt at h
  simp only at h
  split at h
  · rename_i h1; simp only [Prod.mk.injEq] at h; exact absurd h.2.2 h1
  · split at h
    · simp at h
    · split at h
      · simp at h
      · rename_i h1 h2 h3
        simp only [Prod.mk.injEq, and_true] at h
        obtain ⟨rfl, rfl⟩ := h
        have e1 : getInt b = ((getInt b).1, (getInt b).2.1, 0) := by
          have : (getInt b).2.2 = 0 := Decidable.of_not_not h1
          rw [← this]
        obtain ⟨_, _, h4, _, h5, h6⟩ := enc_get e1
        refine ⟨?_, h4, ?_, h5, h6⟩
        · rw [Int.toNat_of_nonneg (by omega)]; exact e1
        · have := Nat.mul_le_mul_right sz (Nat.le_of_not_lt h3)
          exact Nat.le_trans this (Nat.div_mul_le_self _ _)

/-- a byte string -/
def encBytes (s : List UInt8) : List UInt8 := enc s.length ++ s
def getBytes (b : List UInt8) : List UInt8 × Nat × Nat :=
  let x := cnt b 1
  if x.2.2 ≠ 0 then ([], 0, x.2.2) else ((b.drop x.2.1).take x.1, x.2.1 + x.1, 0)

/-! ### the lists' encoders -/
theorem flat_step {α : Type} {l : List α} {k : Nat} {x : α} (f : α → List UInt8) (h : l[k]? = some x) : (l.take (k + 1)).flatMap f = (l.take k).flatMap f ++ f x := by
  rw [List.take_add_one, h, List.flatMap_append]; simp
theorem flat_le {α : Type} (l : List α) (k : Nat) (f : α → List UInt8) : ((l.take k).flatMap f).length ≤ (l.flatMap f).length := by
  conv => rhs; rw [← List.take_append_drop k l, List.flatMap_append, List.length_append]
  omega
def encList {α : Type} (f : α → List UInt8) (l : List α) : List UInt8 := enc l.length ++ l.flatMap f
def encTo {α : Type} (f : α → List UInt8) (l : List α) (k : Nat) : List UInt8 := enc l.length ++ (l.take k).flatMap f
theorem encTo_zero {α : Type} (f : α → List UInt8) (l : List α) : encTo f l 0 = enc l.length := by simp [encTo]
theorem encTo_step {α : Type} {l : List α} {k : Nat} {x : α} (f : α → List UInt8) (h : l[k]? = some x) : encTo f l (k + 1) = encTo f l k ++ f x := by
  unfold encTo; rw [flat_step f h, List.append_assoc]
theorem encTo_all {α : Type} (f : α → List UInt8) (l : List α) {k : Nat} (h : l.length ≤ k) : encTo f l k = encList f l := by
  unfold encTo encList; rw [List.take_of_length_le h]
theorem encTo_le {α : Type} (f : α → List UInt8) (l : List α) (k : Nat) : (encTo f l k).length ≤ (encList f l).length := by
  unfold encTo encList; rw [List.length_append, List.length_append]; have := flat_le l k f; omega

/-- k elements, one after the other, from place 'at_' on -/
def decN {α : Type} (f : List UInt8 → α × Nat × Nat) (b : List UInt8) : Nat → Nat → List α × Nat × Nat
  | 0, at_ => ([], at_, 0)
  | k + 1, at_ =>
    let x := f (b.drop at_)
    if x.2.2 ≠ 0 then ([], 0, x.2.2) else
    let r := decN f b k (at_ + x.2.1)
    if r.2.2 ≠ 0 then ([], 0, r.2.2) else (x.1 :: r.1, r.2.1, 0)

/-- what is read is put behind what has been read -/
def behind {α : Type} (acc : List α) (r : List α × Nat × Nat) : List α × Nat × Nat := if r.2.2 ≠ 0 then ([], 0, r.2.2) else (acc ++ r.1, r.2.1, 0)
theorem behind_nil {α : Type} (f : List UInt8 → α × Nat × Nat) (b : List UInt8) (k at_ : Nat) : behind [] (decN f b k at_) = decN f b k at_ := by
  cases k with
  | zero => rfl
  | succ k =>
    by_cases h1 : (f (b.drop at_)).2.2 = 0
    · by_cases h2 : (decN f b k (at_ + (f (b.drop at_)).2.1)).2.2 = 0
      · simp [decN, behind, h1, h2]
      · simp [decN, behind, h1, h2]
    · simp [decN, behind, h1]
theorem behind_fail {α : Type} {f : List UInt8 → α × Nat × Nat} {b : List UInt8} {k at_ : Nat} {acc : List α} {x : α} {used e : Nat} (h : f (b.drop at_) = (x, used, e)) (he : e ≠ 0) : behind acc (decN f b (k + 1) at_) = ([], 0, e) := by
  simp [decN, behind, h, he]
theorem behind_step {α : Type} {f : List UInt8 → α × Nat × Nat} {b : List UInt8} {k at_ : Nat} {acc : List α} {x : α} {used : Nat} (h : f (b.drop at_) = (x, used, 0)) :
    behind acc (decN f b (k + 1) at_) = behind (acc ++ [x]) (decN f b k (at_ + used)) := by
  by_cases h2 : (decN f b k (at_ + used)).2.2 = 0
  · simp [decN, behind, h, h2]
  · simp [decN, behind, h, h2]
theorem behind_zero {α : Type} (f : List UInt8 → α × Nat × Nat) (b : List UInt8) (at_ : Nat) (acc : List α) : behind acc (decN f b 0 at_) = (acc, at_, 0) := by
  simp [decN, behind]

def getInts (b : List UInt8) : List Int × Nat × Nat :=
  let x := cnt b 1
  if x.2.2 ≠ 0 then ([], 0, x.2.2) else decN getInt b x.1 x.2.1
def getStrings (b : List UInt8) : List (List UInt8) × Nat × Nat :=
  let x := cnt b 1
  if x.2.2 ≠ 0 then ([], 0, x.2.2) else decN getBytes b x.1 x.2.1
/-- sixteen bytes -/
def getDig (b : List UInt8) : List UInt8 × Nat × Nat := (b.take 16, 16, 0)
def getDigests (b : List UInt8) : List (List UInt8) × Nat × Nat :=
  let x := cnt b 16
  if x.2.2 ≠ 0 then ([], 0, x.2.2) else decN getDig b x.1 x.2.1

end Go.Proofs.YtdlhkhnoigbhjaaDoor.Pu
namespace Go.Proofs.YtdlhkhnoigbhjaaDoor.Wi
open Go Go.RowKit Pu Lb

theorem get_of_take' {α : Type} {l : List α} {k j : Nat} {x : α} (h : (l.take k)[j]? = some x) : l[j]? = some x := by
  rw [List.getElem?_take] at h
  split at h
  · exact h
  · cases h
theorem spot_none {w : World} {x : Addr} {u : Value} (h : w.cell? x = some u) : ∃ b o, x = ⟨b, o, none⟩ := by
  obtain ⟨b, o, s⟩ := x
  unfold World.cell? at h
  cases s with
  | none => exact ⟨b, o, rfl⟩
  | some n => exfalso; simp at h; split at h <;> simp at h

theorem rd_cells {w : World} {s : Nat} {x : Addr} {len cap : Nat} {xs : List Value} (h1 : len ≤ cap) (h2 : cap ≤ maxLen) (h3 : len * s ≤ xs.length) (h4 : ∀ i u, xs[i]? = some u → w.cell? (x.add i) = some u) :
    Rd w s (.slice (some x) len cap) len (xs.take (len * s)) := by
  refine ⟨by rw [List.length_take]; omega, _, _, rfl, h1, h2, (fun h => by cases h), fun j u hu => ?_⟩
  have hu' : xs[j]? = some u := get_of_take' hu
  have hlt := (List.getElem?_eq_some_iff.1 hu').1
  obtain ⟨b, o, rfl⟩ : ∃ b o, x = ⟨b, o, none⟩ := by
    have h0 := h4 0 xs[0] (by simp)
    rw [show x.add 0 = x by simp [Addr.add]] at h0
    exact spot_none h0
  refine ⟨b, o, rfl, ?_⟩
  have := h4 j u hu'
  rwa [Addr.add_lit] at this

/-- what the row says of a slice of numbers -/
def Row (k : IntKind) (w : World) (a : Option Addr) (len cap : Nat) (zs : List Int) : Prop :=
  (a = none ∧ len = 0 ∧ cap = 0 ∧ zs = []) ∨
  ∃ x, a = some x ∧ len ≤ cap ∧ cap ≤ maxLen ∧ zs.length = cap ∧ (∀ i, i < zs.length → w.cell? (x.add i) = some (.int k (zs.getD i 0))) ∧ ∀ n ∈ zs, (Lit.int k n).wf = true

theorem row_rd {k : IntKind} {w : World} {a : Option Addr} {len cap : Nat} {zs : List Int} (h : Row k w a len cap zs) :
    Rd w 1 (.slice a len cap) len ((zs.take len).map (Value.int k)) ∧ (zs.take len).length = len ∧ ∀ n ∈ zs, (Lit.int k n).wf = true := by
  rcases h with ⟨rfl, rfl, rfl, rfl⟩ | ⟨x, rfl, h1, h2, h3, h4, h5⟩
  · exact ⟨rd_nil w 1, rfl, fun n hn => by cases hn⟩
  · have := rd_cells (w := w) (s := 1) (x := x) (xs := zs.map (Value.int k)) h1 h2 (by simp; omega) fun i u hu => by
      rw [List.getElem?_map, Option.map_eq_some_iff] at hu
      obtain ⟨z, hz, rfl⟩ := hu
      have hi := (List.getElem?_eq_some_iff.1 hz).1
      have := h4 i hi
      rwa [List.getD_eq_getElem?_getD, hz, Option.getD_some] at this
    rw [Nat.mul_one, ← List.map_take] at this
    exact ⟨this, by simp; omega, h5⟩

theorem wf_u8 {n : Int} (h : (Lit.int .u8 n).wf = true) : 0 ≤ n ∧ n ≤ 255 := by
  simpa [Lit.wf, IntKind.min, IntKind.max, IntKind.signed, IntKind.bits] using h
theorem wf_i64 {n : Int} (h : (Lit.int .i64 n).wf = true) : -9223372036854775808 ≤ n ∧ n ≤ 9223372036854775807 := by
  simpa [Lit.wf, IntKind.min, IntKind.max, IntKind.signed, IntKind.bits] using h

theorem row_bytes {w : World} {a : Option Addr} {len cap : Nat} {zs : List Int} (h : Row .u8 w a len cap zs) : ∃ l : List UInt8, l.length = len ∧ Rd w 1 (.slice a len cap) len (bv l) := by
  obtain ⟨h1, h2, h3⟩ := row_rd h
  refine ⟨(zs.take len).map bt, by simpa using h2, ?_⟩
  rwa [show bv ((zs.take len).map bt) = (zs.take len).map (Value.int .u8) by
    unfold bv
    rw [List.map_map]
    refine List.map_congr_left fun z hz => ?_
    have := wf_u8 (h3 z (List.mem_of_mem_take hz))
    show Value.int .u8 _ = _
    rw [bt_toNat]; congr 1; omega]

theorem row_ints {w : World} {a : Option Addr} {len cap : Nat} {zs : List Int} (h : Row .i64 w a len cap zs) : ∃ l : List Int, l.length = len ∧ IntsOk l ∧ Rd w 1 (.slice a len cap) len (iv l) := by
  obtain ⟨h1, h2, h3⟩ := row_rd h
  exact ⟨zs.take len, h2, fun z hz => wf_i64 (h3 z (List.mem_of_mem_take hz)), h1⟩

/-- what the row says of a slice of strings -/
def RowS (w : World) (a : Option Addr) (len cap : Nat) (ss : List ByteArray) : Prop :=
  (a = none ∧ len = 0 ∧ cap = 0 ∧ ss = []) ∨
  ∃ x, a = some x ∧ len ≤ cap ∧ cap ≤ maxLen ∧ ss.length = cap ∧ (∀ i, i < ss.length → w.cell? (x.add i) = some (.string (ss.getD i ByteArray.empty))) ∧ ∀ s ∈ ss, s.size ≤ maxLen

theorem row_strs {w : World} {a : Option Addr} {len cap : Nat} {ss : List ByteArray} (h : RowS w a len cap ss) : ∃ l : List (List UInt8), l = (ss.take len).map (·.data.toList) ∧ l.length = len ∧ (∀ s ∈ l, s.length ≤ maxLen) ∧ Rd w 1 (.slice a len cap) len (sv l) := by
  refine ⟨_, rfl, ?_⟩
  rcases h with ⟨rfl, rfl, rfl, rfl⟩ | ⟨x, rfl, h1, h2, h3, h4, h5⟩
  · exact ⟨rfl, (fun s hs => by cases hs), rd_nil w 1⟩
  · refine ⟨by simp; omega, fun s hs => ?_, ?_⟩
    · obtain ⟨t, ht, rfl⟩ := List.mem_map.1 hs
      show t.data.toList.length ≤ maxLen
      rw [Array.length_toList]
      exact h5 t (List.mem_of_mem_take ht)
    · have := rd_cells (w := w) (s := 1) (x := x) (xs := ss.map Value.string) h1 h2 (by simp; omega) fun i u hu => by
        rw [List.getElem?_map, Option.map_eq_some_iff] at hu
        obtain ⟨z, hz, rfl⟩ := hu
        have hi := (List.getElem?_eq_some_iff.1 hz).1
        have := h4 i hi
        rwa [List.getD_eq_getElem?_getD, hz, Option.getD_some] at this
      rw [Nat.mul_one, ← List.map_take] at this
      rwa [show sv ((ss.take len).map (·.data.toList)) = (ss.take len).map Value.string by
        unfold sv; rw [List.map_map]; exact List.map_congr_left fun z _ => by simp]
end Go.Proofs.YtdlhkhnoigbhjaaDoor.Wi
namespace Go.Proofs.YtdlhkhnoigbhjaaDoor.Wi
open Go Go.RowKit Go.ChangeShapes Pu Lb

/-- the reading of a slice of n elements -/
def Elems {H : Type} (d : DataW H) (n : Nat) : Prop := (d = .nil ∧ n = 0) ∨ ∃ es sp, d = .slice es sp ∧ es.length = n
/-- the reading of a slice of strings -/
def ElemsS {H : Type} (d : DataW H) (l : List (List UInt8)) : Prop := (d = .nil ∧ l = []) ∨ ∃ sp, d = .slice (l.map fun s => .lit (.string s)) sp
theorem ElemsS.len {H : Type} {d : DataW H} {l : List (List UInt8)} (h : ElemsS d l) : Elems d l.length := by
  rcases h with ⟨rfl, rfl⟩ | ⟨sp, rfl⟩
  · exact .inl ⟨rfl, rfl⟩
  · exact .inr ⟨_, _, rfl, by simp⟩

section
variable {H : Type} {enc : TypeId × Value → H} {P : Program} {w : World} {t e : TypeId} {v : Value} {d : DataW H} {ps : List MemPlace} {r : Reach} {b0 : Nat}

theorem op_int {k : IntKind} (ht : P.underlying t = some (.int k)) (hval : Value.okWide P w r b0 t v) (h : DataW.Trod enc P w 0 (fun _ => true) true t v d ps) : ∃ z, v = .int k z ∧ (Lit.int k z).wf = true := by
  obtain ⟨z, h1, _, _, h2⟩ := Go.ChangeShapes.open_int ht hval h
  exact ⟨z, h1, h2⟩

theorem op_str (ht : P.underlying t = some .string) (hval : Value.okWide P w r b0 t v) (h : DataW.Trod enc P w 0 (fun _ => true) true t v d ps) : ∃ s : List UInt8, v = .string ⟨s.toArray⟩ ∧ s.length ≤ maxLen ∧ d = .lit (.string s) := by
  obtain ⟨s, rfl, rfl, _, h2⟩ := Go.ChangeMaps.open_string ht hval h
  exact ⟨s.data.toList, by simp, by rw [Array.length_toList]; exact h2, rfl⟩

theorem row_of_ints {k : IntKind} (ht : P.underlying t = some (.slice e)) (he : P.underlying e = some (.int k)) (hc : P.cellsOf e = 1) (hval : Value.okWide P w r b0 t v) (h : DataW.Trod enc P w 0 (fun _ => true) true t v d ps) :
    ∃ a len cap zs, v = .slice a len cap ∧ Row k w a len cap zs ∧ Elems d len := by
  obtain ⟨a, len, cap, rfl⟩ := Go.WideShapes.okWide_slice ht hval
  obtain ⟨fuel, hf⟩ := h
  refine ⟨a, len, cap, ?_⟩
  rcases Go.ChangeShapes.open_ints ht he hc hf with ⟨hcs, hx⟩ | ⟨x, l, c, zs, hcs, _, hl, hm, hz, hx, hcell, hwz⟩
  · simp [Value.cells] at hcs
    obtain ⟨rfl, rfl, rfl⟩ := hcs
    exact ⟨[], rfl, .inl ⟨rfl, rfl, rfl, rfl⟩, .inl ⟨(Prod.mk.inj hx).1, rfl⟩⟩
  · simp [Value.cells] at hcs
    obtain ⟨rfl, rfl, rfl⟩ := hcs
    simp only [if_true] at hz
    exact ⟨zs, rfl, .inr ⟨_, rfl, hl, hm, hz, hcell, hwz⟩, .inr ⟨_, _, (Prod.mk.inj hx).1, by simp [lits]; omega⟩⟩

theorem op_bytes (ht : P.underlying t = some (.slice e)) (he : P.underlying e = some (.int .u8)) (hc : P.cellsOf e = 1) (hval : Value.okWide P w r b0 t v) (h : DataW.Trod enc P w 0 (fun _ => true) true t v d ps) :
    ∃ l : List UInt8, Rd w 1 v l.length (bv l) ∧ Elems d l.length := by
  obtain ⟨a, len, cap, zs, rfl, hr, hd⟩ := row_of_ints ht he hc hval h
  obtain ⟨l, rfl, hl⟩ := row_bytes hr
  exact ⟨l, hl, hd⟩

theorem op_ints (ht : P.underlying t = some (.slice e)) (he : P.underlying e = some (.int .i64)) (hc : P.cellsOf e = 1) (hval : Value.okWide P w r b0 t v) (h : DataW.Trod enc P w 0 (fun _ => true) true t v d ps) :
    ∃ l : List Int, IntsOk l ∧ Rd w 1 v l.length (iv l) ∧ Elems d l.length := by
  obtain ⟨a, len, cap, zs, rfl, hr, hd⟩ := row_of_ints ht he hc hval h
  obtain ⟨l, rfl, hok, hl⟩ := row_ints hr
  exact ⟨l, hok, hl, hd⟩

theorem op_strs (ht : P.underlying t = some (.slice e)) (he : P.underlying e = some .string) (hc : P.cellsOf e = 1) (hval : Value.okWide P w r b0 t v) (h : DataW.Trod enc P w 0 (fun _ => true) true t v d ps) :
    ∃ l : List (List UInt8), (∀ s ∈ l, s.length ≤ maxLen) ∧ Rd w 1 v l.length (sv l) ∧ ElemsS d l := by
  obtain ⟨a, len, cap, rfl⟩ := Go.WideShapes.okWide_slice ht hval
  obtain ⟨fuel, hf⟩ := h
  rcases Go.ChangeShapes.open_strings ht he hc hf with ⟨hcs, hx⟩ | ⟨x, l, c, ss, hcs, _, hl, hm, hz, hx, hcell, hwz⟩
  · simp [Value.cells] at hcs
    obtain ⟨rfl, rfl, rfl⟩ := hcs
    exact ⟨[], (fun s hs => by cases hs), rd_nil w 1, .inl ⟨(Prod.mk.inj hx).1, rfl⟩⟩
  · simp [Value.cells] at hcs
    obtain ⟨rfl, rfl, rfl⟩ := hcs
    simp only [if_true] at hz
    obtain ⟨L, hL, h1, h2, h3⟩ := row_strs (w := w) (a := some x) (len := len) (cap := cap) (ss := ss) (.inr ⟨_, rfl, hl, hm, hz, hcell, hwz⟩)
    refine ⟨L, h2, by rw [h1]; exact h3, .inr ⟨strs (ss.drop len), ?_⟩⟩
    rw [(Prod.mk.inj hx).1, hL, strs, List.map_map]
    rfl

end

/-! ### sizes -/
theorem sized_elems {H : Type} {P : Program} {ts : List TypeId} {ds : List (DataW H)} (h : (DataW.weightsEach P ts ds).all (· ≤ reachBytes) = true) {j : Nat} {t e : TypeId} {d : DataW H} {n : Nat} (ht : ts[j]? = some t) (hd : ds[j]? = some d) (hu : P.underlying t = some (.slice e)) (hE : Elems d n) {b : Nat} (hb : P.bytesOf e = b) : n * b ≤ 140737488351232 := by
  rcases hE with ⟨_, rfl⟩ | ⟨es, sp, rfl, rfl⟩
  · omega
  · have := sized_slice h ht hd hu
    rw [hb, Nat.add_mul] at this
    have e : reachBytes = 140737488351232 := by decide
    omega
theorem sized_str {H : Type} {P : Program} {ts : List TypeId} {ds : List (DataW H)} (h : (DataW.weightsEach P ts ds).all (· ≤ reachBytes) = true) {j : Nat} {t : TypeId} {s : List UInt8} (ht : ts[j]? = some t) (hd : ds[j]? = some (.lit (.string s))) : s.length ≤ 140737488351232 := by
  have := sized_string h ht hd
  have e : reachBytes = 140737488351232 := by decide
  omega
theorem weights_strs {H : Type} {P : Program} {e : TypeId} {s : List UInt8} : ∀ {l : List (List UInt8)}, s ∈ l → s.length ∈ DataW.weightsAll P e (l.map fun s => (DataW.lit (.string s) : DataW H))
  | x :: r, h => by
    simp only [List.map_cons, DataW.weightsAll, DataW.weights, List.mem_append, List.mem_singleton]
    rcases List.mem_cons.1 h with rfl | h
    · exact .inl rfl
    · exact .inr (weights_strs h)
theorem sized_strs {H : Type} {P : Program} {ts : List TypeId} {ds : List (DataW H)} (h : (DataW.weightsEach P ts ds).all (· ≤ reachBytes) = true) {j : Nat} {t e : TypeId} {d : DataW H} {l : List (List UInt8)} (ht : ts[j]? = some t) (hd : ds[j]? = some d) (hu : P.underlying t = some (.slice e)) (hE : ElemsS d l) :
    ∀ s ∈ l, s.length ≤ 140737488351232 := by
  intro s hs
  rcases hE with ⟨_, rfl⟩ | ⟨sp, rfl⟩
  · cases hs
  · have := List.all_eq_true.1 h _ (DataW.weights_mem_each ht hd s.length (by simp only [DataW.weights, hu, List.mem_cons, List.mem_append]; exact .inr (.inl (weights_strs hs))))
    have e : reachBytes = 140737488351232 := by decide
    simp only [decide_eq_true_eq] at this
    omega

theorem bulk_one {H : Type} (d : DataW H) : 1 ≤ Rows.uptoBulk d := by
  cases d with
  | lit l => cases l <;> simp [Rows.uptoBulk]
  | _ => simp [Rows.uptoBulk]
theorem bulk_mem {H : Type} {d : DataW H} : ∀ {l : List (DataW H)}, d ∈ l → Rows.uptoBulk d ≤ Rows.uptoBulkAll l
  | x :: r, h => by
    simp only [Rows.uptoBulkAll]
    rcases List.mem_cons.1 h with rfl | h
    · omega
    · have := bulk_mem h; omega
theorem bulk_len {H : Type} : ∀ (l : List (DataW H)), l.length ≤ Rows.uptoBulkAll l
  | [] => by simp [Rows.uptoBulkAll]
  | x :: r => by have := bulk_one x; have := bulk_len r; simp only [Rows.uptoBulkAll, List.length_cons]; omega
theorem bulk_strs {H : Type} : ∀ (l : List (List UInt8)), Rows.uptoBulkAll (l.map fun s => (DataW.lit (.string s) : DataW H)) = (l.map List.length).sum + l.length
  | [] => by simp [Rows.uptoBulkAll]
  | x :: r => by
    have := bulk_strs (H := H) r
    simp only [List.map_cons, Rows.uptoBulkAll, Rows.uptoBulk, List.sum_cons, List.length_cons]; omega
theorem bulk_elems {H : Type} {ds : List (DataW H)} (hk : Rows.uptoSmall H ds = true) {d : DataW H} {n : Nat} (hd : d ∈ ds) (hE : Elems d n) : n ≤ 1048576 := by
  have h0 : Rows.uptoBulkAll ds ≤ 1048576 := of_decide_eq_true hk
  have h1 := bulk_mem hd
  rcases hE with ⟨_, rfl⟩ | ⟨es, sp, rfl, rfl⟩
  · omega
  · have := bulk_len es
    simp only [Rows.uptoBulk] at h1
    omega
theorem bulk_str {H : Type} {ds : List (DataW H)} (hk : Rows.uptoSmall H ds = true) {s : List UInt8} (hd : DataW.lit (.string s) ∈ ds) : s.length ≤ 1048576 := by
  have h0 : Rows.uptoBulkAll ds ≤ 1048576 := of_decide_eq_true hk
  have h1 := bulk_mem hd
  simp only [Rows.uptoBulk] at h1
  omega
theorem bulk_elemsS {H : Type} {ds : List (DataW H)} (hk : Rows.uptoSmall H ds = true) {d : DataW H} {l : List (List UInt8)} (hd : d ∈ ds) (hE : ElemsS d l) : (l.map List.length).sum + l.length ≤ 1048576 := by
  have h0 : Rows.uptoBulkAll ds ≤ 1048576 := of_decide_eq_true hk
  have h1 := bulk_mem hd
  rcases hE with ⟨_, rfl⟩ | ⟨sp, rfl⟩
  · simp
  · simp only [Rows.uptoBulk, bulk_strs] at h1
    omega
end Go.Proofs.YtdlhkhnoigbhjaaDoor.Wi
namespace Go.Proofs.YtdlhkhnoigbhjaaDoor.Lb
open Go

theorem inf_u8 : (Tryd.prog.info? 5).map (fun i => (i.zero, i.size, i.bytes)) = some (some (.int .u8 0), 1, 1) := by kernel_rfl
theorem sz_u8 : (Tryd.prog.info? 5).map (·.size) = some 1 := by kernel_rfl
theorem ld_u8 (ad : Addr) (u : Value) (w : World) (h : w.cell? ad = some u) : (loadVar 5 ad).run Tryd.prog w = .ok u w := load_one _ _ Tryd.underlying5 rfl ad u w h
theorem inf_int : (Tryd.prog.info? 3).map (fun i => (i.zero, i.size, i.bytes)) = some (some (.int .i64 0), 1, 8) := by kernel_rfl
theorem sz_int : (Tryd.prog.info? 3).map (·.size) = some 1 := by kernel_rfl
theorem ld_int (ad : Addr) (u : Value) (w : World) (h : w.cell? ad = some u) : (loadVar 3 ad).run Tryd.prog w = .ok u w := load_one _ _ Tryd.underlying3 rfl ad u w h
theorem inf_str : (Tryd.prog.info? 9).map (fun i => (i.zero, i.size, i.bytes)) = some (some (.string .empty), 1, 16) := by kernel_rfl
theorem sz_str : (Tryd.prog.info? 9).map (·.size) = some 1 := by kernel_rfl
theorem ld_str (ad : Addr) (u : Value) (w : World) (h : w.cell? ad = some u) : (loadVar 9 ad).run Tryd.prog w = .ok u w := load_one _ _ Tryd.underlying9 rfl ad u w h
theorem inf_dig : (Tryd.prog.info? 53).map (fun i => (i.zero, i.size, i.bytes)) = some (some (.agg (Array.replicate 16 (.int .u8 0))), 16, 16) := by kernel_rfl
theorem zr_dig : (Tryd.prog.info? 53).map (·.zero) = some (some (.agg (Array.replicate 16 (.int .u8 0)))) := by kernel_rfl
theorem sz_dig : (Tryd.prog.info? 53).map (·.size) = some 16 := by kernel_rfl
theorem ld_bs (ad : Addr) (u : Value) (w : World) (h : w.cell? ad = some u) : (loadVar 49 ad).run Tryd.prog w = .ok u w := load_one _ _ Tryd.underlying49 rfl ad u w h
end Go.Proofs.YtdlhkhnoigbhjaaDoor.Lb
namespace Go.Proofs.YtdlhkhnoigbhjaaDoor.Lb
open Go Go.RowKit Go.Lib

section
variable {P : Program} {ops : Array Oper} {Q : Exit → Act → World → Prop} {a : Act} {w : World} {rest : List Oper} {o : Oper}

theorem run_part1 (t : TypeId) (d : TypeDesc) (hu : P.underlying t = some d) (hd : (match d with | .struct _ | .array _ _ => false | _ => true) = true) (cs : List Value) (i : Nat) (v : Value) (h : cs[i]? = some v) (w : World) :
    (part t cs.toArray i).run P w = .ok v w := by
  have hi : (isAgg t).run P w = .ok false w := by
    unfold isAgg
    simp only [Sem.run_bind, run_underlying hu, Result.andThen]
    cases d <;> simp_all
  unfold part
  simp [Sem.run_bind, hi, Result.andThen, h]

/-- the loop of '==' over the elements from place i on -/
theorem run_eq_from (d : Nat) (e : TypeId) (k : IntKind) (he : P.underlying e = some (.int k)) (xs ys : List Int) :
    ∀ (m i : Nat), xs.length = i + m → ys.length = i + m → ∀ w : World,
    (forIn (m := Sem) (List.range' i m) ((none, ()) : Option Bool × Unit) fun j _ => do
        if !(← Op.equalIn (d + 1) e (← part e (xs.map (Value.int k)).toArray (j * 1)) (← part e (ys.map (Value.int k)).toArray (j * 1))) then pure (ForInStep.done (some false, ())) else pure (ForInStep.yield (none, ()))).run P w
      = .ok (if xs.drop i = ys.drop i then (none, ()) else (some false, ())) w := by
  intro m
  induction m with
  | zero => intro i h1 h2 w; simp [List.drop_of_length_le, h1, h2]
  | succ m ih =>
    intro i h1 h2 w
    have hx : i < xs.length := by omega
    have hy : i < ys.length := by omega
    have p1 := fun w => run_part1 (P := P) e _ he rfl (xs.map (Value.int k)) (i * 1) (.int k xs[i]) (by simp [hx]) w
    have p2 := fun w => run_part1 (P := P) e _ he rfl (ys.map (Value.int k)) (i * 1) (.int k ys[i]) (by simp [hy]) w
    rw [List.range'_succ, List.forIn_cons]
    simp only [Sem.run_bind, p1, p2, Result.andThen_ok, run_equalIn_int _ d e k k _ _ he]
    have hc : (xs.drop i = ys.drop i) = (xs[i] = ys[i] ∧ xs.drop (i + 1) = ys.drop (i + 1)) := by
      rw [List.drop_eq_getElem_cons hx, List.drop_eq_getElem_cons hy, List.cons.injEq]
    by_cases h : xs[i] = ys[i]
    · simp only [h, beq_self_eq_true, Bool.not_true, Bool.false_eq_true, if_false, Sem.run_pure, Result.andThen_ok]
      rw [ih (i + 1) (by omega) (by omega) w]
      simp only [hc, h, true_and]
    · have hb : (xs[i] == ys[i]) = false := by simp [h]
      simp only [hb, Bool.not_false, if_true, Sem.run_pure, Result.andThen_ok]
      simp only [hc, h, false_and, if_false]

theorem run_eq_arr (d : Nat) (t e : TypeId) (k : IntKind) (n : Nat) (ht : P.underlying t = some (.array n e)) (he : P.underlying e = some (.int k)) (hsz : (P.info? e).map (·.size) = some 1) (xs ys : List Int) (hx : xs.length = n) (hy : ys.length = n) (w : World) :
    (Op.equalIn (d + 2) t (.agg (xs.map (Value.int k)).toArray) (.agg (ys.map (Value.int k)).toArray)).run P w = .ok (decide (xs = ys)) w := by
  obtain ⟨ti, hti, hs⟩ := Option.map_eq_some_iff.1 hsz
  have h := run_eq_from (P := P) d e k he xs ys n 0 (by omega) (by omega) w
  simp only [List.drop_zero] at h
  rw [Op.equalIn]
  simp only [Sem.run_bind, run_underlying ht, Result.andThen_ok]
  have hsize : (sizeOf e).run P w = .ok 1 w := by simp [sizeOf, typeInfo, hti, hs]
  rw [hsize]
  simp only [Result.andThen_ok, Std.Legacy.Range.forIn_eq_forIn_range', Std.Legacy.Range.size, Nat.sub_zero, Nat.add_sub_cancel, Nat.div_one]
  rw [h]
  by_cases hxy : xs = ys
  · simp [hxy]
  · simp [hxy]

theorem bv_ints (l : List UInt8) : bv l = (l.map fun b => (b.toNat : Int)).map (Value.int .u8) := by simp [bv]
theorem u8_ints_inj {A B : List UInt8} : (A.map fun b => (b.toNat : Int)) = (B.map fun b => (b.toNat : Int)) ↔ A = B := by
  constructor
  · intro h
    have hinj : ∀ {a b : UInt8}, (a.toNat : Int) = b.toNat → a = b := fun h => UInt8.toNat_inj.1 (by omega)
    exact List.map_inj_right (fun _ _ h => hinj h) |>.1 h
  · rintro rfl; rfl

/-- '==' of two arrays of bytes -/
theorem run_eq_bytes (d : Nat) (t e : TypeId) (n : Nat) (ht : P.underlying t = some (.array n e)) (he : P.underlying e = some (.int .u8)) (hsz : (P.info? e).map (·.size) = some 1) (A B : List UInt8) (hx : A.length = n) (hy : B.length = n) (w : World) :
    (Op.equalIn (d + 2) t (.agg (bv A).toArray) (.agg (bv B).toArray)).run P w = .ok (decide (A = B)) w := by
  rw [bv_ints, bv_ints, run_eq_arr d t e .u8 n ht he hsz _ _ (by simpa using hx) (by simpa using hy)]
  congr 1
  exact decide_eq_decide.2 u8_ints_inj

/-! ### a whole array out of a slice's element -/
theorem run_load_arr (p : Operand) (t : TypeId) (ho : o.op = .load t p) {e : TypeId} {m : Nat} (ht : P.underlying t = some (.array m e)) {s : Nat} (hsz : (P.info? t).map (·.size) = some s)
    {s' : Nat} {v : Value} {n : Nat} {xs : List Value} {k : Nat} (hx : a.eval p = ep v k) (hv : Rd w s' v n xs) (hk : k + s ≤ xs.length) (hs : 0 < s) :
    (execOp a.eval o).run P w = .ok (.value (.agg ((xs.drop k).take s).toArray)) w := by
  obtain ⟨ti, hti, rfl⟩ := Option.map_eq_some_iff.1 hsz
  obtain ⟨hl, ad, cap, rfl, h1, h2, h3, h4⟩ := hv
  obtain ⟨b, of, rfl, _⟩ := h4 0 xs[0] (by simp)
  have hlen : ((xs.drop k).take ti.size).length = ti.size := by rw [List.length_take, List.length_drop]; omega
  have hl := run_loadCells_list (P := P) w (⟨b, of + k, none⟩ : Addr) ((xs.drop k).take ti.size) (fun j u hu => by
    rw [List.getElem?_take] at hu
    split at hu
    · rw [List.getElem?_drop] at hu
      obtain ⟨b', o', hab, hc⟩ := h4 _ _ hu
      simp only [Option.some.injEq, Addr.mk.injEq] at hab
      obtain ⟨rfl, rfl, _⟩ := hab
      rw [Addr.add_lit, Nat.add_assoc]
      exact hc
    · cases hu)
  rw [hlen] at hl
  have hagg : (isAgg t).run P w = .ok true w := by
    unfold isAgg
    simp [Sem.run_bind, run_underlying ht, Result.andThen]
  have hsize : (sizeOf t).run P w = .ok ti.size w := by simp [sizeOf, typeInfo, hti]
  unfold execOp
  simp [ho, Instr.loadAt, hx, ep, Instr.sureAddr, Addr.add_lit, loadVar, hagg, hsize, hl]

theorem wpList_load_arr (p : Operand) (t : TypeId) (ho : o.op = .load t p) (hw : Region.wanted o (yielded ops a.tmps) = true) {e : TypeId} {m : Nat} (ht : P.underlying t = some (.array m e)) {s : Nat} (hsz : (P.info? t).map (·.size) = some s)
    {s' : Nat} {v : Value} {n : Nat} {xs : List Value} (k : Nat) (hx : a.eval p = ep v k) (hv : Rd w s' v n xs) (hk : k + s ≤ xs.length) (hs : 0 < s)
    (h : wpList P ops Q rest (a.put o.dst (.agg ((xs.drop k).take s).toArray)) w) : wpList P ops Q (o :: rest) a w :=
  wpList_of_run hw (run_load_arr p t ho ht hsz hx hv hk hs) h
theorem wpQuiet_load_arr {C : World → Prop} {Q : Act → Prop} {w0 : World} (hC : ∀ w, C w → ∃ n, w = w0.drewN n) (p : Operand) (t : TypeId) (ho : o.op = .load t p) (hw : Region.wanted o (yielded ops a.tmps) = true) {e : TypeId} {m : Nat} (ht : P.underlying t = some (.array m e)) {s : Nat} (hsz : (P.info? t).map (·.size) = some s)
    {s' : Nat} {v : Value} {n : Nat} {xs : List Value} (k : Nat) (hx : a.eval p = ep v k) (hv : Rd w0 s' v n xs) (hk : k + s ≤ xs.length) (hs : 0 < s)
    (h : wpQuiet P ops C Q rest (a.put o.dst (.agg ((xs.drop k).take s).toArray))) : wpQuiet P ops C Q (o :: rest) a :=
  wpQuiet_of_run hw (fun w hc => by obtain ⟨m', rfl⟩ := hC w hc; exact run_load_arr p t ho ht hsz hx (hv.drewN m') hk hs) h

theorem flat_part {α : Type} {ds : List (List α)} {m k : Nat} {d : List α} (h : ∀ d ∈ ds, d.length = m) (hk : ds[k]? = some d) : (ds.flatten.drop (k * m)).take m = d := by
  induction ds generalizing k with
  | nil => simp at hk
  | cons x ds ih =>
    have hx : x.length = m := h x (by simp)
    cases k with
    | zero =>
      simp only [List.getElem?_cons_zero, Option.some.injEq] at hk
      subst hk
      rw [Nat.zero_mul, List.drop_zero, List.flatten_cons, List.take_left' hx]
    | succ k =>
      rw [List.getElem?_cons_succ] at hk
      rw [List.flatten_cons, show (k + 1) * m = x.length + k * m by rw [hx, Nat.add_mul]; omega, List.drop_append]
      rw [List.drop_of_length_le (by omega), List.nil_append, Nat.add_sub_cancel_left]
      exact ih (fun d hd => h d (by simp [hd])) hk
theorem flat_len {α : Type} {ds : List (List α)} {m : Nat} (h : ∀ d ∈ ds, d.length = m) : ds.flatten.length = ds.length * m := by
  induction ds with
  | nil => simp
  | cons x ds ih =>
    rw [List.flatten_cons, List.length_append, ih (fun d hd => h d (by simp [hd])), h x (by simp), List.length_cons, Nat.add_mul]; omega
end
end Go.Proofs.YtdlhkhnoigbhjaaDoor.Lb
namespace Go.Proofs.YtdlhkhnoigbhjaaDoor.Lb
open Go Go.RowKit Go.Lib

/-- block B holds the cells cs, and may be written -/
def Blk (w : World) (B : Nat) (t : TypeId) (cs : List Value) : Prop := w.heap[B]? = some (.cells cs.toArray t (0, 0))

theorem Blk.lt {w : World} {B : Nat} {t : TypeId} {cs : List Value} (h : Blk w B t cs) : B < w.heap.size := (Array.getElem?_eq_some_iff.1 h).1
theorem Blk.below {w w' : World} {B C : Nat} {t : TypeId} {cs : List Value} (h : Blk w B t cs) (hb : Below C w w') (hC : B < C) : Blk w' B t cs := by
  unfold Blk; rw [hb.block B hC]; exact h
theorem Blk.cell {w : World} {B : Nat} {t : TypeId} {cs : List Value} (h : Blk w B t cs) {j : Nat} {u : Value} (hu : cs[j]? = some u) : w.cell? ⟨B, j, none⟩ = some u := by
  rw [cell_of_row w B j _ t (0, 0) h]; simpa using hu
theorem Blk.free {w : World} {B : Nat} {t : TypeId} {cs : List Value} (h : Blk w B t cs) (j : Nat) : w.frozen? ⟨B, j, none⟩ = false := by
  unfold World.frozen?; rw [h]; simp
theorem Blk.drewN {w : World} {B : Nat} {t : TypeId} {cs : List Value} (h : Blk w B t cs) (n : Nat) : Blk (w.drewN n) B t cs := h
/-- a whole block reads as a slice over it -/
theorem Blk.rd {w : World} {B : Nat} {t : TypeId} {cs : List Value} (h : Blk w B t cs) (o n cap s : Nat) (h1 : o + n * s ≤ cs.length) (h2 : n ≤ cap) (h3 : cap ≤ maxLen) :
    Rd w s (.slice (some ⟨B, o, none⟩) n cap) n ((cs.drop o).take (n * s)) := by
  refine ⟨by rw [List.length_take, List.length_drop]; omega, _, _, rfl, h2, h3, (fun h => by cases h), fun j u hu => ⟨B, o, rfl, ?_⟩⟩
  rw [List.getElem?_take] at hu
  split at hu
  · rw [List.getElem?_drop] at hu; exact h.cell hu
  · cases hu

/-- only block B may have changed, and blocks may have come -/
def Only (B : Nat) (w w' : World) : Prop := w.grownBy w' (some B)
theorem Only.below {B C : Nat} {w w' : World} (h : Only B w w') (hC : C ≤ B) (hs : C ≤ w.heap.size) : Below C w w' := (Below.refl C w).grown h hs fun k hk => by simp at hk; omega
theorem Only.blk {B C : Nat} {t : TypeId} {cs : List Value} {w w' : World} (h : Only B w w') (hb : Blk w C t cs) (hne : C ≠ B) : Blk w' C t cs := by
  unfold Blk; rw [h.block C hb.lt (by simp; exact hne)]; exact hb
theorem Only.size {B : Nat} {w w' : World} (h : Only B w w') : w.heap.size ≤ w'.heap.size := World.grownBy.size h
theorem Only.refl (B : Nat) (w : World) : Only B w w := World.grownBy.refl _ _

theorem foldl_set (cs : List Value) : ∀ (k : Nat) (pre zs : List Value), pre.length = k → zs.length = cs.length →
    (cs.zipIdx k).foldl (fun (acc : Array Value) x => acc.setIfInBounds x.2 x.1) (pre ++ zs).toArray = (pre ++ cs).toArray := by
  induction cs with
  | nil => intro k pre zs _ h2; rw [List.eq_nil_of_length_eq_zero h2]; rfl
  | cons c cs ih =>
    intro k pre zs h1 h2
    cases zs with
    | nil => simp at h2
    | cons z zs =>
      rw [List.zipIdx_cons, List.foldl_cons]
      have e : (pre ++ z :: zs).toArray.setIfInBounds k c = ((pre ++ [c]) ++ zs).toArray := by
        rw [List.setIfInBounds_toArray, List.set_append_right _ _ (by omega), h1, Nat.sub_self, List.set_cons_zero]; simp
      rw [e, ih (k + 1) (pre ++ [c]) zs (by simp [h1]) (by simpa using h2)]
      simp

theorem fill_step {pre : List Value} {n q : Nat} (hq : pre.length = q) (h : q < n) (z u : Value) : (pre ++ List.replicate (n - q) z).set q u = (pre ++ [u]) ++ List.replicate (n - (q + 1)) z := by
  rw [List.set_append_right _ _ (by omega), hq, Nat.sub_self, show n - q = (n - (q + 1)) + 1 by omega, List.replicate_succ, List.set_cons_zero, List.append_assoc]; rfl

theorem fill_full (ps : List (Nat × Value)) : ∀ (k : Nat) (pre zs : List Value), pre.length = k → zs.length = ps.length → ps.map (·.1) = List.range' k ps.length → (∀ p ∈ ps, p.2.oneCell' = true) →
    Instr.fill (fun i => some (i * 1, 1)) (pre ++ zs).toArray ps = some (pre ++ ps.map (·.2)).toArray := by
  induction ps with
  | nil => intro k pre zs _ h2 _ _; rw [List.eq_nil_of_length_eq_zero h2]; rfl
  | cons p ps ih =>
    intro k pre zs h1 h2 h3 h4
    obtain ⟨i, v⟩ := p
    cases zs with
    | nil => simp at h2
    | cons z zs =>
      rw [List.map_cons, List.length_cons, List.range'_succ, List.cons.injEq] at h3
      obtain ⟨rfl, h3⟩ := h3
      have hv : v.cells = #[v] := by have := h4 (i, v) (by simp); cases v <;> simp_all [Value.cells, Value.oneCell']
      have e : (pre ++ z :: zs).toArray.setIfInBounds i v = ((pre ++ [v]) ++ zs).toArray := by
        rw [List.setIfInBounds_toArray, List.set_append_right _ _ (by omega), h1, Nat.sub_self, List.set_cons_zero]; simp
      have hsz : ¬ ((pre ++ z :: zs).length < i + 1) := by simp; omega
      have e2 : Instr.fill (fun i => some (i * 1, 1)) (pre ++ z :: zs).toArray ((i, v) :: ps) = Instr.fill (fun i => some (i * 1, 1)) ((pre ++ [v]) ++ zs).toArray ps := by
        rw [← e]
        simp [Instr.fill, hv]
        omega
      rw [e2, ih (i + 1) (pre ++ [v]) zs (by simp [h1]) (by simpa using h2) h3 (fun p hp => h4 p (by simp [hp]))]
      simp

section
variable {P : Program} {ops : Array Oper} {Q : Exit → Act → World → Prop} {a : Act} {w : World} {rest : List Oper} {o : Oper}

/-- 'new' of a variable's type: its zero value in a block of its own -/
theorem wpList_alloc_blk (t : TypeId) (ho : o.op = .alloc t) (hw : Region.wanted o (yielded ops a.tmps) = true) {z : Value} (hz : (P.info? t).map (·.zero) = some (some z)) {cs : List Value} (hcs : z.cells = cs.toArray)
    (h : ∀ w', Blk w' w.heap.size t cs → Below w.heap.size w w' → w'.heap.size = w.heap.size + 1 → wpList P ops Q rest (a.put o.dst (.pointer (some ⟨w.heap.size, 0, none⟩))) w') : wpList P ops Q (o :: rest) a w := by
  obtain ⟨ti, hti, hzz⟩ := Option.map_eq_some_iff.1 hz
  refine wpList_of_run hw (v := .pointer (some ⟨w.heap.size, 0, none⟩)) (w' := w.alloc (.cells cs.toArray t)) ?_ (h _ (heap_alloc_new w _) ((Below.refl _ _).alloc (Nat.le_refl _) _) (by simp))
  unfold execOp
  simp [ho, Instr.alloc, zeroValue, typeInfo, hti, hzz, newVar, newRow, hcs]

theorem setCell_blk {B : Nat} {t : TypeId} {cs : List Value} (hb : Blk w B t cs) (k : Nat) (u : Value) : Blk (w.setCell ⟨B, k, none⟩ u) B t (cs.set k u) := by
  have hlt : B < w.heap.size := hb.lt
  have hv : w.heap[B] = .cells cs.toArray t (0, 0) := (Array.getElem?_eq_some_iff.1 hb).2
  unfold Blk World.setCell
  rw [Array.getElem?_eq_getElem (by simpa using hlt), Array.getElem_modify]
  simp [hv]
theorem setCell_only (B k : Nat) (u : Value) : Only B w (w.setCell ⟨B, k, none⟩ u) :=
  ⟨rfl, rfl, rfl, by simp [World.setCell], fun j _ hj => Below.heap_setCell _ _ _ _ (by simp at hj; exact hj)⟩
theorem setRow_only (B : Nat) (cs : Array Value) : Only B w (w.setRow B cs) :=
  ⟨rfl, rfl, rfl, by simp [World.setRow], fun j _ hj => setRow_other w B j cs (by simp at hj; exact hj)⟩

/-- a store of a whole array -/
theorem wpList_store_blk (ty : TypeId) (x y : Operand) (ho : o.op = .store ty x y) (hw : Region.wanted o (yielded ops a.tmps) = true) {B : Nat} {t : TypeId} {old cs : List Value} (hx : a.eval x = .pointer (some ⟨B, 0, none⟩)) (hy : a.eval y = .agg cs.toArray)
    (hb : Blk w B t old) {s : Nat} (hi : (P.info? ty).map (·.size) = some s) (hs : cs.length = s) (hl : old.length = s) (h1 : ∀ u ∈ cs, u.oneCell' = true)
    (h : ∀ w', Blk w' B t cs → Only B w w' → w'.heap.size = w.heap.size → wpList P ops Q rest (a.put o.dst undef) w') : wpList P ops Q (o :: rest) a w := by
  subst hs
  have hrun := run_storeVar_row (P := P) w B t ty old.toArray cs.toArray hb (by simpa using hi) (by simpa using hl) (by rw [Array.all_eq_true_iff_forall_mem]; intro u hu; exact h1 u (by simpa using hu))
  refine BigFrame.wpList_want hw fun K hK => ?_
  have hh := h (w.setRow B cs.toArray) (setRow_heap w B _ _ t _ hb) (setRow_only B _) (by simp [World.setRow])
  unfold Oper.wp execOp
  simp only [ho, hx, hy, Instr.storeAt, Instr.sureAddr, Sem.run_bind, Sem.run_pure, Result.andThen_ok, hrun]
  exact hK _ _ hh

/-- '&x[i]', x an array variable -/
theorem wpList_at_blk (x i : Operand) (t : TypeId) (ho : o.op = .indexAddr t x i) (hw : Region.wanted o (yielded ops a.tmps) = true) {e : TypeId} {n : Nat} (ht : P.underlying t = some (.array n e)) (hi : (P.info? e).map (·.size) = some 1)
    {B : Nat} (hx : a.eval x = .pointer (some ⟨B, 0, none⟩)) (k : Nat) (hix : IsI (a.eval i) (k : Int)) (hk : k < n)
    (h : wpList P ops Q rest (a.put o.dst (.pointer (some ⟨B, k, none⟩))) w) : wpList P ops Q (o :: rest) a w := by
  obtain ⟨kd, hix⟩ := isI hix
  obtain ⟨ti, hti, hsz⟩ := Option.map_eq_some_iff.1 hi
  refine wpList_of_run hw (v := .pointer (some ⟨B, k, none⟩)) (w' := w) ?_ h
  unfold execOp
  simp [ho, Instr.indexAt, hx, hix, asIntOf, run_underlying ht, sizeOf, typeInfo, hti, hsz, Instr.sureAddr, hk, Addr.add_lit]

/-- '&p[i]', p the place of an array in a slice -/
theorem wpList_at_ep (x i : Operand) (t : TypeId) (ho : o.op = .indexAddr t x i) (hw : Region.wanted o (yielded ops a.tmps) = true) {e : TypeId} {n : Nat} (ht : P.underlying t = some (.array n e)) (hi : (P.info? e).map (·.size) = some 1)
    {w0 : World} {s m : Nat} {xs : List Value} {v : Value} {j : Nat} (hx : a.eval x = ep v j) (hv : Rd w0 s v m xs) (hne : 0 < xs.length) (k : Nat) (hix : IsI (a.eval i) (k : Int)) (hk : k < n)
    (h : wpList P ops Q rest (a.put o.dst (ep v (j + k))) w) : wpList P ops Q (o :: rest) a w := by
  obtain ⟨kd, hix⟩ := isI hix
  obtain ⟨ti, hti, hsz⟩ := Option.map_eq_some_iff.1 hi
  obtain ⟨hl, ad, cap, rfl, h1, h2, h3, h4⟩ := hv
  obtain ⟨b, of, rfl, _⟩ := h4 0 xs[0] (by simp)
  refine wpList_of_run hw (v := ep (.slice (some ⟨b, of, none⟩) m cap) (j + k)) (w' := w) ?_ h
  unfold execOp
  simp [ho, Instr.indexAt, hx, hix, asIntOf, run_underlying ht, sizeOf, typeInfo, hti, hsz, Instr.sureAddr, hk, Addr.add_lit, ep, Nat.add_assoc]

/-- a cell of a block -/
theorem wpList_load_blk (p : Operand) (t : TypeId) (ho : o.op = .load t p) (hw : Region.wanted o (yielded ops a.tmps) = true)
    (hload : ∀ (ad : Addr) (u : Value) (w : World), w.cell? ad = some u → (loadVar t ad).run P w = .ok u w) {B k : Nat} {t' : TypeId} {cs : List Value} {u : Value} (hx : a.eval p = .pointer (some ⟨B, k, none⟩)) (hb : Blk w B t' cs) (hk : cs[k]? = some u)
    (h : wpList P ops Q rest (a.put o.dst u) w) : wpList P ops Q (o :: rest) a w := by
  refine wpList_of_run hw (v := u) (w' := w) ?_ h
  have := hload ⟨B, k, none⟩ u w (hb.cell hk)
  unfold execOp
  simp [ho, Instr.loadAt, hx, Instr.sureAddr, this]

theorem wpQuiet_load_blk {C : World → Prop} {Q : Act → Prop} {w0 : World} (hC : ∀ w, C w → ∃ n, w = w0.drewN n) (p : Operand) (t : TypeId) (ho : o.op = .load t p) (hw : Region.wanted o (yielded ops a.tmps) = true)
    (hload : ∀ (ad : Addr) (u : Value) (w : World), w.cell? ad = some u → (loadVar t ad).run P w = .ok u w) {B k : Nat} {t' : TypeId} {cs : List Value} {u : Value} (hx : a.eval p = .pointer (some ⟨B, k, none⟩)) (hb : Blk w0 B t' cs) (hk : cs[k]? = some u)
    (h : wpQuiet P ops C Q rest (a.put o.dst u)) : wpQuiet P ops C Q (o :: rest) a := by
  refine wpQuiet_of_run hw (fun w hc => ?_) h
  obtain ⟨m, rfl⟩ := hC w hc
  have := hload ⟨B, k, none⟩ u (w0.drewN m) ((hb.drewN m).cell hk)
  unfold execOp
  simp [ho, Instr.loadAt, hx, Instr.sureAddr, this]

/-- a whole array out of its block -/
theorem wpList_loadall_blk (p : Operand) (t : TypeId) (ho : o.op = .load t p) (hw : Region.wanted o (yielded ops a.tmps) = true) {e : TypeId} {m : Nat} (ht : P.underlying t = some (.array m e)) {s : Nat} (hsz : (P.info? t).map (·.size) = some s)
    {B : Nat} {t' : TypeId} {cs : List Value} (hx : a.eval p = .pointer (some ⟨B, 0, none⟩)) (hb : Blk w B t' cs) (hs : cs.length = s) (hs0 : 0 < s)
    (h : wpList P ops Q rest (a.put o.dst (.agg cs.toArray)) w) : wpList P ops Q (o :: rest) a w := by
  have hr := hb.rd 0 1 1 s (by omega) (Nat.le_refl _) (by unfold maxLen; omega)
  have hrun := run_load_arr (P := P) (a := a) (o := o) p t ho ht hsz (k := 0) (by rw [hx]; simp [ep, Addr.add]) hr (by rw [List.drop_zero, List.length_take]; omega) hs0
  rw [List.drop_zero, List.drop_zero, Nat.one_mul, List.take_of_length_le (by rw [List.length_take]; omega), List.take_of_length_le (by omega)] at hrun
  exact wpList_of_run hw hrun h

theorem storeVar_one (ty : TypeId) (hi : (P.info? ty).map (·.size) = some 1) {B k : Nat} {t : TypeId} {cs : List Value} (hb : Blk w B t cs) (hk : k < cs.length) (u : Value) (h1 : u.oneCell' = true) :
    (storeVar ty ⟨B, k, none⟩ u).run P w = .ok () (w.setCell ⟨B, k, none⟩ u) := by
  obtain ⟨ti, hti, hsz⟩ := Option.map_eq_some_iff.1 hi
  have hc := hb.cell (j := k) (u := cs[k]) (by simp [hk])
  have hf := hb.free k
  have hcells : u.cells = #[u] := by cases u <;> simp_all [Value.cells, Value.oneCell']
  have hst : (store ⟨B, k, none⟩ u).run P w = .ok () (w.setCell ⟨B, k, none⟩ u) := by
    cases u <;> simp_all [store, Sem.run, Value.oneCell']
  unfold storeVar
  simp [hcells, sizeOf, typeInfo, hti, hsz, storeCells, hst, Addr.add]

/-- a store into a cell of a block -/
theorem wpList_set_blk (ty : TypeId) (x y : Operand) (ho : o.op = .store ty x y) (hw : Region.wanted o (yielded ops a.tmps) = true) (hi : (P.info? ty).map (·.size) = some 1) {B k : Nat} {t : TypeId} {cs : List Value} {u : Value} (hx : a.eval x = .pointer (some ⟨B, k, none⟩)) (hy : a.eval y = u)
    (hb : Blk w B t cs) (hk : k < cs.length) (h1 : u.oneCell' = true)
    (h : ∀ w', Blk w' B t (cs.set k u) → Only B w w' → w'.heap.size = w.heap.size → wpList P ops Q rest (a.put o.dst undef) w') : wpList P ops Q (o :: rest) a w := by
  have hrun := storeVar_one (P := P) (w := w) ty hi hb hk u h1
  refine BigFrame.wpList_want hw fun K hK => ?_
  have hh := h _ (setCell_blk hb k u) (setCell_only B k u) (by simp)
  unfold Oper.wp execOp
  simp only [ho, hx, hy, Instr.storeAt, Instr.sureAddr, Sem.run_bind, Sem.run_pure, Result.andThen_ok, hrun]
  exact hK _ _ hh

/-- 'x[:]', x an array variable -/
theorem wpList_all_blk (x : Operand) (t : TypeId) (ho : o.op = .slice t x none none none) (hw : Region.wanted o (yielded ops a.tmps) = true) {e : TypeId} {n : Nat} (ht : P.underlying t = some (.array n e)) (hi : (P.info? e).map (·.size) = some 1)
    {B : Nat} {t' : TypeId} {cs : List Value} (hx : a.eval x = .pointer (some ⟨B, 0, none⟩)) (hb : Blk w B t' cs) (hn : cs.length = n) (hm : n ≤ maxLen)
    (h : Rd w 1 (.slice (some ⟨B, 0, none⟩) n n) n cs → wpList P ops Q rest (a.put o.dst (.slice (some ⟨B, 0, none⟩) n n)) w) : wpList P ops Q (o :: rest) a w := by
  obtain ⟨ti, hti, hsz⟩ := Option.map_eq_some_iff.1 hi
  have hr := hb.rd 0 n n 1 (by omega) (Nat.le_refl _) hm
  rw [List.drop_zero, Nat.mul_one, List.take_of_length_le (by omega)] at hr
  refine wpList_of_run hw (v := .slice (some ⟨B, 0, none⟩) n n) (w' := w) ?_ (h hr)
  unfold execOp
  simp [ho, Instr.sliceAt, hx, Instr.sureAddr, run_underlying ht, Instr.sliceBounds, sizeOf, typeInfo, hti, Addr.add]

/-- '(*[n]T)(b)' -/
theorem wpList_arr_ptr (x : Operand) (t : TypeId) (ho : o.op = .sliceToArrayPointer t x) (hw : Region.wanted o (yielded ops a.tmps) = true) {e : TypeId} {m : Nat} (ht : P.underlying t = some (.array m e))
    {w0 : World} {s : Nat} {v : Value} {n : Nat} {xs : List Value} (hx : a.eval x = v) (hv : Rd w0 s v n xs) (hm : m ≤ n) (hne : 0 < xs.length)
    (h : wpList P ops Q rest (a.put o.dst (ep v 0)) w) : wpList P ops Q (o :: rest) a w := by
  obtain ⟨hl, ad, cap, rfl, h1, h2, h3, h4⟩ := hv
  obtain ⟨b, of, rfl, _⟩ := h4 0 xs[0] (by simp)
  refine wpList_of_run hw (v := ep (.slice (some ⟨b, of, none⟩) n cap) 0) (w' := w) ?_ h
  have : ¬ n < m := by omega
  unfold execOp
  simp [ho, Instr.arrayAt, hx, run_underlying ht, this, ep, Addr.add]

/-- '[]T{x, y, ..}', elements of one cell -/
theorem wpList_build_cs {t : TypeId} {n : Nat} {parts : Array (Nat × Operand)} (ho : o.op = .buildSlice t n parts) (hw : Region.wanted o (yielded ops a.tmps) = true) {e : TypeId} (ht : P.underlying t = some (.slice e)) {z : Value} {bytes : Nat} (hinfo : (P.info? e).map (fun i => (i.zero, i.size, i.bytes)) = some (some z, 1, bytes))
    (hidx : parts.toList.map (·.1) = List.range' 0 n) (hn0 : 0 < n) (hn1 : n ≤ 100000) {cs : List Value} (hcs : parts.toList.map (fun p => a.eval p.2) = cs) (h1 : ∀ u ∈ cs, u.oneCell' = true)
    (h : ∀ v' w', Rd w' 1 v' n cs → Below w.heap.size w w' → wpList P ops Q rest (a.put o.dst v') w') : wpList P ops Q (o :: rest) a w := by
  obtain ⟨i, hi, hz, hsz, hby⟩ := info_parts hinfo
  have hlen : parts.toList.length = n := by have := congrArg List.length hidx; simpa using this
  have hcl : cs.length = n := by rw [← hcs, List.length_map, hlen]
  have hf : Instr.fill (fun i => some (i * 1, 1)) ((Array.range (n * 1)).map (z.cells[· % z.cells.size]!)) (parts.map fun (i, x) => (i, a.eval x)).toList = some cs.toArray := by
    have hzz : ((Array.range (n * 1)).map (z.cells[· % z.cells.size]!)).size = n := by simp
    obtain ⟨zs, hzs'⟩ : ∃ zs : List Value, ((Array.range (n * 1)).map (z.cells[· % z.cells.size]!)) = zs.toArray := ⟨_, (Array.toArray_toList).symm⟩
    rw [hzs'] at hzz ⊢
    have hmap : (parts.map fun (i, x) => (i, a.eval x)).toList = parts.toList.map fun p => (p.1, a.eval p.2) := by simp
    have h2 : (parts.toList.map fun p => (p.1, a.eval p.2)).map (·.2) = cs := by rw [List.map_map]; exact hcs
    have := fill_full (parts.toList.map fun p => (p.1, a.eval p.2)) 0 [] zs rfl (by simp at hzz; rw [List.length_map, hlen]; omega) (by rw [List.map_map, List.length_map, hlen]; exact hidx) (by
      intro p hp
      refine h1 p.2 ?_
      rw [← h2]
      exact List.mem_map_of_mem hp)
    rw [hmap]
    simpa [h2] using this
  refine wpList_of_run hw (v := .slice (some ⟨w.heap.size, 0, none⟩) n n) (w' := w.alloc (.cells cs.toArray e)) ?_ (h _ _ ?_ ((Below.refl _ _).alloc (Nat.le_refl _) _))
  · have h0' : ¬ n = 0 := by omega
    have h24 : ¬ (16777216 < n) := by omega
    unfold execOp
    simp only [ho, Instr.buildSlice, Sem.run_bind, run_underlying ht, Result.andThen_ok]
    simp only [sizeOf, typeInfo]
    simp only [Nat.mul_one, Array.toList_map] at hf
    simp [hsz, h0', h24, zeroValue, typeInfo, hi, hz, newRow]
    simp [hf]
  · have hb : Blk (w.alloc (.cells cs.toArray e)) w.heap.size e cs := heap_alloc_new w _
    have hr := hb.rd 0 n n 1 (by omega) (Nat.le_refl _) (by unfold maxLen; omega)
    rwa [List.drop_zero, Nat.mul_one, List.take_of_length_le (by omega)] at hr

/-- '[]T{x}' -/
theorem wpList_build_one (x : Operand) (t : TypeId) (ho : o.op = .buildSlice t 1 #[(0, x)]) (hw : Region.wanted o (yielded ops a.tmps) = true) {e : TypeId} (ht : P.underlying t = some (.slice e)) {z : Value} {s bytes : Nat} (hinfo : (P.info? e).map (fun i => (i.zero, i.size, i.bytes)) = some (some z, s, bytes)) (_hzs : z.cells.size = s) (hs0 : 0 < s) (hs1 : s ≤ 16777216)
    {cs : List Value} (hcs : (a.eval x).cells = cs.toArray) (hl : cs.length = s)
    (h : ∀ v' w', Rd w' s v' 1 cs → Below w.heap.size w w' → w'.heap.size = w.heap.size + 1 → wpList P ops Q rest (a.put o.dst v') w') : wpList P ops Q (o :: rest) a w := by
  obtain ⟨i, hi, hz, hsz, hby⟩ := info_parts hinfo
  have hf : Instr.fill (fun i => some (i * s, s)) ((Array.range (1 * s)).map (z.cells[· % z.cells.size]!)) [(0, a.eval x)] = some cs.toArray := by
    have hzz : ((Array.range (1 * s)).map (z.cells[· % z.cells.size]!)).size = s := by simp
    obtain ⟨zs, hzs'⟩ : ∃ zs : List Value, ((Array.range (1 * s)).map (z.cells[· % z.cells.size]!)) = zs.toArray := ⟨_, (Array.toArray_toList).symm⟩
    rw [hzs'] at hzz ⊢
    have hzl : zs.length = cs.length := by simp at hzz; omega
    have := foldl_set cs 0 [] zs rfl hzl
    simp only [List.nil_append] at this
    simp [Instr.fill, hcs, hl, hzl, this]
  refine wpList_of_run hw (v := .slice (some ⟨w.heap.size, 0, none⟩) 1 1) (w' := w.alloc (.cells cs.toArray e)) ?_ (h _ _ ?_ ((Below.refl _ _).alloc (Nat.le_refl _) _) (by simp))
  · have h0' : ¬ s = 0 := by omega
    unfold execOp
    simp only [ho, Instr.buildSlice, List.map_toArray, List.map_cons, List.map_nil, Sem.run_bind, run_underlying ht, Result.andThen_ok]
    simp only [sizeOf, typeInfo]
    simp [hsz, h0', zeroValue, typeInfo, hi, hz]
    simp only [Nat.one_mul] at hf
    rw [hf]
    simp [newRow, hs1]
  · have hb : Blk (w.alloc (.cells cs.toArray e)) w.heap.size e cs := heap_alloc_new w _
    have hr := hb.rd 0 1 1 s (by omega) (Nat.le_refl _) (by unfold maxLen; omega)
    rwa [List.drop_zero, Nat.one_mul, List.take_of_length_le (by omega)] at hr
end
end Go.Proofs.YtdlhkhnoigbhjaaDoor.Lb
namespace Go.Proofs.YtdlhkhnoigbhjaaDoor.Lb
open Go Go.RowKit Go.Lib

theorem wpStill_of_quiet {P : Program} {ops : Array Oper} {W : World} {Q : Act → Prop} : ∀ (l : List Oper) (a : Act), wpQuiet P ops (fun w' => w' = W) Q l a → wpStill P ops W Q l a
  | [], a, h => h
  | o :: l, a, h => by
    unfold wpQuiet at h
    unfold wpStill
    split at h
    · rename_i hw
      rw [if_pos hw]
      obtain ⟨v, hv, hn⟩ := h
      have h1 := hv W rfl
      unfold Oper.quietAt at h1
      unfold Oper.still
      generalize (execOp a.eval o).run P W = r at h1 ⊢
      have hn' := wpStill_of_quiet l _ hn
      unfold Oper.quietUpon at h1
      unfold Oper.stillUpon
      split at h1
      · obtain ⟨rfl, rfl⟩ := h1
        exact ⟨rfl, hn'⟩
      · obtain ⟨rfl, rfl⟩ := h1
        exact ⟨rfl, hn'⟩
      · obtain ⟨rfl, hc⟩ := h1
        exact ⟨rfl, v, hc, hn'⟩
      · exact h1.elim
    · rename_i hw
      rw [if_neg hw]
      exact wpStill_of_quiet l _ h

theorem wp_region_tail {P : Program} {id : Nat} {Q : Exit → Act → World → Prop} {a : Act} {w : World} {l : List Oper} (n : Nat) (hm : P.follows .mixedOrders = true) (hB : Region.lexTailB .any l.toArray n = true)
    (h : wpQuiet P l.toArray (fun w' => w' = w.drew) (fun a' => wpList P l.toArray Q (l.drop n) a' w.drew) (l.take n) a) : (Code.region id l.toArray true).wp P Q a w :=
  wp_region_still_tail n hm hB (wpStill_of_quiet _ _ h)

theorem still_drew {w : World} : ∀ w', w' = w.drew → ∃ n, w' = w.drewN n := fun _ h => ⟨1, h⟩
theorem Blk.drew {w : World} {B : Nat} {t : TypeId} {cs : List Value} (h : Blk w B t cs) : Blk w.drew B t cs := h
theorem Rd.drew {w : World} {s : Nat} {v : Value} {n : Nat} {xs : List Value} (h : Rd w s v n xs) : Rd w.drew s v n xs := h
theorem below_drew {B : Nat} {a w : World} (h : Below B a w) : Below B a w.drew := ⟨h.os, h.tape, h.output, h.size, h.block⟩
end Go.Proofs.YtdlhkhnoigbhjaaDoor.Lb
