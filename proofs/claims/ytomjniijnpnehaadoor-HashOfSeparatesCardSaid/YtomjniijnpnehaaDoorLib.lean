/-
  Slices by what they hold: a slice value is a name of which it is known which cells it reads ('Rd'); the operations on it as laws of the walk. Over whatever program. Conditions: those that each law names.
-/
import Derived.WalkKit
import Derived.WalkLawsBesides
import Derived.WalkSpells
import Derived.BigQuiet
import Derived.Lib.AppendStr
namespace Go.Proofs.YtomjniijnpnehaaDoor.Lb
open Go Go.RowKit Go.Lib

/-- the slice value v has n elements of s cells each, and they hold xs -/
def Rd (w : World) (s : Nat) (v : Value) (n : Nat) (xs : List Value) : Prop :=
  xs.length = n * s ∧ ∃ a cap, v = .slice a n cap ∧ n ≤ cap ∧ cap ≤ maxLen ∧ (a = none → cap = 0) ∧
    ∀ j u, xs[j]? = some u → ∃ b o, a = some ⟨b, o, none⟩ ∧ w.cell? ⟨b, o + j, none⟩ = some u

theorem Rd.len {w : World} {s : Nat} {v : Value} {n : Nat} {xs : List Value} (h : Rd w s v n xs) : n ≤ maxLen := by
  obtain ⟨_, a, cap, _, h1, h2, _⟩ := h; omega

theorem Rd.below {w w' : World} {s : Nat} {v : Value} {n : Nat} {xs : List Value} (h : Rd w s v n xs) (hb : Below w.heap.size w w') : Rd w' s v n xs := by
  obtain ⟨hl, a, cap, hv, h1, h2, h3, hc⟩ := h
  refine ⟨hl, a, cap, hv, h1, h2, h3, fun j u hu => ?_⟩
  obtain ⟨b, o, ha, hcell⟩ := hc j u hu
  exact ⟨b, o, ha, (hb.cell (World.block_lt_of_cell? _ _ hcell)).trans hcell⟩

/-- what the call owns reads as a slice -/
theorem Rd.of_own {w : World} {base : Nat} {e : TypeId} {s : Nat} {v : Value} {n : Nat} {xs : List Value} (h : w.ownsRow base e s v n xs) : Rd w s v n xs := by
  refine ⟨h.1, ?_⟩
  have hcells := fun g (hg : v.ownBlock = some g) => h.cells hg
  rcases h.2 with ⟨rfl, rfl⟩ | ⟨g, cap, cur, rfl, hb, hg, h1, h2, h3, h4⟩
  · have hx : xs = [] := List.eq_nil_of_length_eq_zero (by simpa using h.1)
    subst hx
    exact ⟨none, 0, rfl, Nat.le_refl _, by unfold maxLen; omega, fun _ => rfl, fun j u hu => by simp at hu⟩
  · refine ⟨_, cap, rfl, h1, h2, (fun h => by cases h), fun j u hu => ⟨g, 0, rfl, ?_⟩⟩
    have := hcells g rfl j u hu
    rwa [Addr.add_lit] at this

theorem own_below {w w' : World} {base : Nat} {e : TypeId} {s : Nat} {v : Value} {n : Nat} {xs : List Value} (h : w.ownsRow base e s v n xs) (hb : Below w.heap.size w w') : w'.ownsRow base e s v n xs := by
  refine ⟨h.1, ?_⟩
  rcases h.2 with hn | ⟨g, cap, cur, rfl, hbg, hg, rest⟩
  · exact .inl hn
  · exact .inr ⟨g, cap, cur, rfl, hbg, by rw [hb.block g (Array.getElem?_eq_some_iff.1 hg).1]; exact hg, rest⟩

theorem own_mono {w : World} {base base' : Nat} {e : TypeId} {s : Nat} {v : Value} {n : Nat} {xs : List Value} (h : w.ownsRow base e s v n xs) (hb : base' ≤ base) : w.ownsRow base' e s v n xs := by
  refine ⟨h.1, ?_⟩
  rcases h.2 with hn | ⟨g, cap, cur, rfl, hbg, rest⟩
  · exact .inl hn
  · exact .inr ⟨g, cap, cur, rfl, by omega, rest⟩

theorem below_of_grown {w w' : World} {B : Nat} {v : Value} {e : TypeId} {s n : Nat} {xs : List Value} (hg : w.grownBy w' v.ownBlock) (ho : w.ownsRow B e s v n xs) (hB : B ≤ w.heap.size) : Below B w w' :=
  (Below.refl B w).grown hg hB fun k hk => (ho.lt k hk).1

theorem rd_nil (w : World) (s : Nat) : Rd w s (.slice none 0 0) 0 [] := ⟨by simp, none, 0, rfl, Nat.le_refl _, by unfold maxLen; omega, fun _ => rfl, fun j u hu => by simp at hu⟩

/-- the value is the number z -/
def IsI : Value → Int → Prop
  | .int _ y, z => y = z
  | _, _ => False
theorem isI {v : Value} {z : Int} (h : IsI v z) : ∃ kd, v = .int kd z := by
  cases v <;> simp only [IsI] at h
  subst h; exact ⟨_, rfl⟩

/-! ### the walk's laws -/
section
variable {P : Program} {ops : Array Oper} {Q : Exit → Act → World → Prop} {a : Act} {w : World} {rest : List Oper} {o : Oper}

theorem wpList_of_run (hw : Region.wanted o (yielded ops a.tmps) = true) {v : Value} {w' : World} (hr : (execOp a.eval o).run P w = .ok (.value v) w')
    (h : wpList P ops Q rest (a.put o.dst v) w') : wpList P ops Q (o :: rest) a w :=
  BigFrame.wpList_want hw fun K hK => by
    unfold Oper.wp Oper.upon
    rw [hr]
    exact hK _ _ h

/-- 'len(x)' -/
theorem wpList_len_rd (x : Operand) (t : TypeId) (ho : o.op = .call { callee := .builtin .len, args := #[x], argTypes := #[t] }) (hw : Region.wanted o (yielded ops a.tmps) = true)
    {e : TypeId} (ht : P.underlying t = some (.slice e)) {w0 : World} {s : Nat} {v : Value} {n : Nat} {xs : List Value} (hx : a.eval x = v) (hv : Rd w0 s v n xs)
    (h : wpList P ops Q rest (a.put o.dst (.int .i64 n)) w) : wpList P ops Q (o :: rest) a w := by
  obtain ⟨_, ad, cap, rfl, h1, h2, _⟩ := hv
  refine wpList_of_run hw (v := .int .i64 n) (w' := w) ?_ h
  unfold execOp
  simp [ho, resolve, invoke, builtin, Builtin.len_, hx, run_underlying ht, goInt]

/-- the place of cell j -/
def ep (v : Value) (j : Nat) : Value := match v with | .slice (some a) _ _ => .pointer (some (a.add j)) | _ => undef

/-- '*p', p the place of a cell -/
theorem wpList_load_rd (p : Operand) (t : TypeId) (ho : o.op = .load t p) (hw : Region.wanted o (yielded ops a.tmps) = true)
    (hload : ∀ (ad : Addr) (u : Value) (w : World), w.cell? ad = some u → (loadVar t ad).run P w = .ok u w) {s : Nat} {v : Value} {n : Nat} {xs : List Value} {k : Nat} {u : Value}
    (hx : a.eval p = ep v k) (hv : Rd w s v n xs) (hk : xs[k]? = some u)
    (h : wpList P ops Q rest (a.put o.dst u) w) : wpList P ops Q (o :: rest) a w := by
  obtain ⟨hl, ad, cap, rfl, h1, h2, h3, h4⟩ := hv
  obtain ⟨b, of, rfl, hc⟩ := h4 k u hk
  refine wpList_of_run hw (v := u) (w' := w) ?_ h
  have := hload ⟨b, of + k, none⟩ u w hc
  unfold execOp
  simp [ho, Instr.loadAt, hx, ep, Instr.sureAddr, Addr.add_lit, this]

/-! ### cutting a slice -/
theorem rd_cut {w : World} {s : Nat} {ad : Option Addr} {n cap : Nat} {xs : List Value} (hv : Rd w s (.slice ad n cap) n xs) {L H : Nat} (h1 : L ≤ H) (h2 : H ≤ n) {m : Nat} (hm : m ≤ cap) (hHm : H ≤ m) :
    Rd w s (.slice (if m = L then ad else ad.map (·.add (L * s))) (H - L) (m - L)) (H - L) ((xs.drop (L * s)).take ((H - L) * s)) := by
  obtain ⟨hl, ad', cap', hveq, g1, g2, g3, g4⟩ := hv
  simp only [Value.slice.injEq] at hveq
  obtain ⟨rfl, _, rfl⟩ := hveq
  have hle : (H - L) * s + L * s ≤ n * s := by rw [← Nat.add_mul]; exact Nat.mul_le_mul_right _ (by omega)
  refine ⟨by rw [List.length_take, List.length_drop, hl]; omega, _, _, rfl, by omega, by omega, fun h => ?_, fun j u hu => ?_⟩
  · split at h
    · omega
    · have := g3 (by simpa using h); omega
  · rw [List.getElem?_take] at hu
    split at hu
    · rename_i hj
      rw [List.getElem?_drop] at hu
      obtain ⟨b, of, rfl, hc⟩ := g4 _ _ hu
      by_cases hLm : m = L
      · exfalso; have : H - L = 0 := by omega
        rw [this] at hj; omega
      · refine ⟨b, of + L * s, ?_, by rw [Nat.add_assoc]; exact hc⟩
        simp only [if_neg hLm, Option.map_some, Addr.add_lit]
    · cases hu

/-- 'x[lo:hi]' -/
theorem wpList_cut_rd (x lo hi : Operand) (t : TypeId) (ho : o.op = .slice t x (some lo) (some hi) none) (hw : Region.wanted o (yielded ops a.tmps) = true)
    {e : TypeId} (ht : P.underlying t = some (.slice e)) {w0 : World} {s : Nat} (hsz : (P.info? e).map (·.size) = some s) {v : Value} {n : Nat} {xs : List Value} (hx : a.eval x = v) (hv : Rd w0 s v n xs)
    (L H : Nat) (hlo : IsI (a.eval lo) (L : Int)) (hhi : IsI (a.eval hi) (H : Int)) (h1 : L ≤ H) (h2 : H ≤ n)
    (h : ∀ v', Rd w0 s v' (H - L) ((xs.drop (L * s)).take ((H - L) * s)) → wpList P ops Q rest (a.put o.dst v') w) : wpList P ops Q (o :: rest) a w := by
  obtain ⟨ti, hti, rfl⟩ := Option.map_eq_some_iff.1 hsz
  obtain ⟨kl, hlo⟩ := isI hlo
  obtain ⟨kh, hhi⟩ := isI hhi
  have hv' := hv
  obtain ⟨hl, ad, cap, rfl, g1, g2, g3, g4⟩ := hv
  refine wpList_of_run hw (v := _) (w' := w) ?_ (h _ (rd_cut hv' h1 h2 (Nat.le_refl cap) (by omega)))
  have e1 : H ≤ cap := by omega
  unfold execOp
  simp [ho, Instr.sliceAt, hx, hlo, hhi, run_underlying ht, Instr.slice, Instr.sliceBounds, Instr.sliceBound, asIntOf, sizeOf, typeInfo, hti, e1, h1]

/-- 'x[:hi]' -/
theorem wpList_to_rd (x hi : Operand) (t : TypeId) (ho : o.op = .slice t x none (some hi) none) (hw : Region.wanted o (yielded ops a.tmps) = true)
    {e : TypeId} (ht : P.underlying t = some (.slice e)) {w0 : World} {s : Nat} (hsz : (P.info? e).map (·.size) = some s) {v : Value} {n : Nat} {xs : List Value} (hx : a.eval x = v) (hv : Rd w0 s v n xs)
    (H : Nat) (hhi : IsI (a.eval hi) (H : Int)) (h2 : H ≤ n)
    (h : ∀ v', Rd w0 s v' H (xs.take (H * s)) → wpList P ops Q rest (a.put o.dst v') w) : wpList P ops Q (o :: rest) a w := by
  obtain ⟨ti, hti, rfl⟩ := Option.map_eq_some_iff.1 hsz
  obtain ⟨kh, hhi⟩ := isI hhi
  have hv' := hv
  obtain ⟨hl, ad, cap, rfl, g1, g2, g3, g4⟩ := hv
  have hc := rd_cut hv' (Nat.zero_le H) h2 (Nat.le_refl cap) (by omega)
  simp only [Nat.zero_mul, List.drop_zero, Nat.sub_zero] at hc
  refine wpList_of_run hw (v := _) (w' := w) ?_ (h _ hc)
  have e1 : H ≤ cap := by omega
  unfold execOp
  simp [ho, Instr.sliceAt, hx, hhi, run_underlying ht, Instr.slice, Instr.sliceBounds, Instr.sliceBound, asIntOf, sizeOf, typeInfo, hti, e1]

/-- 'x[lo:]' -/
theorem wpList_from_rd (x lo : Operand) (t : TypeId) (ho : o.op = .slice t x (some lo) none none) (hw : Region.wanted o (yielded ops a.tmps) = true)
    {e : TypeId} (ht : P.underlying t = some (.slice e)) {w0 : World} {s : Nat} (hsz : (P.info? e).map (·.size) = some s) {v : Value} {n : Nat} {xs : List Value} (hx : a.eval x = v) (hv : Rd w0 s v n xs)
    (L : Nat) (hlo : IsI (a.eval lo) (L : Int)) (h1 : L ≤ n)
    (h : ∀ v', Rd w0 s v' (n - L) (xs.drop (L * s)) → wpList P ops Q rest (a.put o.dst v') w) : wpList P ops Q (o :: rest) a w := by
  obtain ⟨ti, hti, rfl⟩ := Option.map_eq_some_iff.1 hsz
  obtain ⟨kl, hlo⟩ := isI hlo
  have hv' := hv
  obtain ⟨hl, ad, cap, rfl, g1, g2, g3, g4⟩ := hv
  have hc := rd_cut hv' h1 (Nat.le_refl n) (Nat.le_refl cap) (by omega)
  rw [List.take_of_length_le (by rw [List.length_drop, hl, ← Nat.sub_mul]; exact Nat.le_refl _)] at hc
  refine wpList_of_run hw (v := _) (w' := w) ?_ (h _ hc)
  unfold execOp
  simp [ho, Instr.sliceAt, hx, hlo, run_underlying ht, Instr.slice, Instr.sliceBounds, Instr.sliceBound, asIntOf, sizeOf, typeInfo, hti, h1]

/-! ### bytes and strings -/
def bv (l : List UInt8) : List Value := l.map fun b => .int .u8 (b.toNat : Int)
theorem bv_length (l : List UInt8) : (bv l).length = l.length := by simp [bv]
theorem bv_append (l r : List UInt8) : bv (l ++ r) = bv l ++ bv r := by simp [bv]
theorem bv_take (l : List UInt8) (k : Nat) : (bv l).take k = bv (l.take k) := by simp [bv, List.map_take]
theorem bv_drop (l : List UInt8) (k : Nat) : (bv l).drop k = bv (l.drop k) := by simp [bv, List.map_drop]
theorem bv_get (l : List UInt8) (k : Nat) (h : k < l.length) : (bv l)[k]? = some (.int .u8 (l[k].toNat : Int)) := by simp [bv, h]
theorem bv_at {l : List UInt8} {k : Nat} {x : UInt8} (h : l[k]? = some x) : (bv l)[k]? = some (.int .u8 (x.toNat : Int)) := by simp [bv, h]
theorem get_lt {α : Type} {l : List α} {k : Nat} (h : k < l.length) : ∃ x, l[k]? = some x := ⟨l[k], by simp [h]⟩
theorem bv_one (l : List UInt8) : ∀ u ∈ bv l, u.oneCell' = true := by
  intro u hu
  obtain ⟨_, _, rfl⟩ := List.mem_map.1 hu
  rfl

/-- 'string(b)' -/
theorem wpList_str_rd (x : Operand) (src dst : TypeId) (ho : o.op = .convert src dst x) (hw : Region.wanted o (yielded ops a.tmps) = true)
    {e : TypeId} (hs : P.underlying src = some (.slice e)) (he : P.underlying e = some (.int .u8)) (hd : P.underlying dst = some .string) {v : Value} {n : Nat} {l : List UInt8} (hx : a.eval x = v) (hv : Rd w 1 v n (bv l))
    (h : wpList P ops Q rest (a.put o.dst (.string ⟨l.toArray⟩)) w) : wpList P ops Q (o :: rest) a w := by
  obtain ⟨hl, ad, cap, rfl, g1, g2, g3, g4⟩ := hv
  rw [bv_length, Nat.mul_one] at hl
  subst hl
  refine wpList_of_run hw (v := .string ⟨l.toArray⟩) (w' := w) ?_ h
  have key : (convert src dst (.slice ad l.length cap)).run P w = .ok (.string ⟨l.toArray⟩) w := by
    cases ad with
    | none =>
      have : cap = 0 := g3 rfl
      have h0 : l = [] := List.eq_nil_of_length_eq_zero (by omega)
      subst h0
      rw [run_convert_bytes_nil w src e hs he _ _ dst hd]
      rfl
    | some ad =>
      refine run_convert_bytes_back w src dst e ad cap l hs he hd fun j hj => ?_
      obtain ⟨b, of, hab, hc⟩ := g4 j _ (bv_get l j hj)
      obtain rfl := Option.some.inj hab
      rw [Addr.add_lit]; exact hc
  unfold execOp
  simp [ho, hx, key]

theorem grownCap_bd (w : World) (n : Nat) (e : TypeId) (h : n ≤ maxLen) : n ≤ grownCap w n 0 e ∧ grownCap w n 0 e ≤ maxLen := ⟨grownCap_ge _ _ _ _, grownCap_le_maxLen _ _ _ _ h⟩

theorem bytesRow_get (s : ByteArray) (cap j : Nat) (u : Value) (h : (bv s.data.toList)[j]? = some u) : (bytesRow s cap)[j]? = some u := by
  have hj : j < s.data.size := by have := (List.getElem?_eq_some_iff.1 h).1; rw [bv_length] at this; simpa using this
  simp only [bytesRow, Array.getElem?_append, Array.size_map, hj, if_true]
  simp only [bv] at h
  simpa [hj] using h

/-- '[]byte(s)' -/
theorem wpList_bytes_of (x : Operand) (src dst : TypeId) (ho : o.op = .convert src dst x) (hw : Region.wanted o (yielded ops a.tmps) = true)
    {e : TypeId} (hs : P.underlying src = some .string) (hd : P.underlying dst = some (.slice e)) (he : P.underlying e = some (.int .u8)) {s : ByteArray} (hx : a.eval x = .string s) (hm : s.size ≤ maxLen)
    (h : ∀ v' w', Rd w' 1 v' s.size (bv s.data.toList) → Below w.heap.size w w' → wpList P ops Q rest (a.put o.dst v') w') : wpList P ops Q (o :: rest) a w := by
  have hrun := run_bytes_of_string (P := P) w src dst e s hs hd he
  have hb := grownCap_bd w s.size e hm
  refine wpList_of_run hw (v := (.slice (some ⟨w.heap.size, 0, none⟩) s.size (grownCap w s.size 0 e)))
    (w' := (w.drew.alloc (.cells (bytesRow s (grownCap w s.size 0 e)) e ((bytesRow s (grownCap w s.size 0 e)).size, (bytesRow s (grownCap w s.size 0 e)).size + 1))))
    (by unfold execOp; simp only [ho, hx]; simp only [Sem.run_bind, hrun, Result.andThen, Sem.run_pure]) (h _ _ ?_ ((Below.refl _ _).drew.alloc (Nat.le_refl _) _))
  refine ⟨(by rw [bv_length, Nat.mul_one, Array.length_toList]; rfl), _, _, rfl, hb.1, hb.2, (fun h => by cases h), fun j u hu => ⟨_, 0, rfl, ?_⟩⟩
  rw [Nat.zero_add]
  have := World.cell?_alloc_mark w.drew (bytesRow s (grownCap w s.size 0 e)) e ((bytesRow s (grownCap w s.size 0 e)).size, (bytesRow s (grownCap w s.size 0 e)).size + 1) j
  simp only [World.size_drew] at this
  rw [this]
  exact bytesRow_get s _ j u hu

/-! ### append to what the call owns -/
theorem run_append_rd (base : Nat) (t ty e : TypeId) (z : Value) (s bytes : Nat) (ht : P.underlying t = some (.slice e)) (hinfo : (P.info? e).map (fun i => (i.zero, i.size, i.bytes)) = some (some z, s, bytes)) (hzs : z.cells.size = s) (hs0 : 0 < s)
    {v : Value} {n : Nat} {xs : List Value} (hown : w.ownsRow base e s v n xs) {v2 : Value} {m : Nat} {ys : List Value} (hv : Rd w s v2 m ys) (h1 : ∀ u ∈ ys, u.oneCell' = true)
    (h63 : n + m ≤ maxLen) (hbytes : (n + m) * bytes ≤ 140737488355328) (hbase : base ≤ w.heap.size) :
    ∃ v' w', (Builtin.append_ #[t, t] ty #[v, v2]).run P w = .ok v' w' ∧ w'.ownsRow base e s v' (n + m) (xs ++ ys) ∧ w.grownBy w' v.ownBlock ∧ (v' = .slice none 0 0 ↔ v = .slice none 0 0 ∧ m = 0) := by
  obtain ⟨i, hi, hz, hsz, hby⟩ := info_parts hinfo
  obtain ⟨hl, ad, cap, rfl, g1, g2, g3, g4⟩ := hv
  cases ad with
  | some ad =>
    refine run_append_own w base t ty e i z s bytes ht hi hz hsz hby hzs hs0 v n xs hown ad m cap ys hl (fun j u hu => ?_) h1 h63 hbytes hbase
    obtain ⟨b, of, hab, hc⟩ := g4 j u hu
    obtain rfl := Option.some.inj hab
    rw [Addr.add_lit]; exact hc
  | none =>
    have hc0 : cap = 0 := g3 rfl
    subst hc0
    have hm : m = 0 := by omega
    subst hm
    have hy : ys = [] := List.eq_nil_of_length_eq_zero (by simpa using hl)
    subst hy
    have hrun := run_append_owned_none (P := P) w base t ty e i s ht hi v n xs hown
    exact ⟨v, w, hrun, by simpa using hown, World.grownBy.refl _ _, by simp⟩

theorem wpList_append_rd (x y : Operand) (t : TypeId) (ho : o.op = .call { callee := .builtin .append, args := #[x, y], argTypes := #[t, t] }) (hw : Region.wanted o (yielded ops a.tmps) = true)
    {e : TypeId} {z : Value} {s bytes : Nat} (ht : P.underlying t = some (.slice e)) (hinfo : (P.info? e).map (fun i => (i.zero, i.size, i.bytes)) = some (some z, s, bytes)) (hzs : z.cells.size = s) (hs0 : 0 < s)
    {v : Value} {n : Nat} {xs : List Value} {base : Nat} (hx : a.eval x = v) (hown : w.ownsRow base e s v n xs) {v2 : Value} {m : Nat} {ys : List Value} (hy : a.eval y = v2) (hv : Rd w s v2 m ys) (h1 : ∀ u ∈ ys, u.oneCell' = true)
    (h63 : n + m ≤ maxLen) (hbytes : (n + m) * bytes ≤ 140737488355328) (hbase : base ≤ w.heap.size)
    (h : ∀ v' w', w'.ownsRow base e s v' (n + m) (xs ++ ys) → Below base w w' → wpList P ops Q rest (a.put o.dst v') w') : wpList P ops Q (o :: rest) a w := by
  obtain ⟨v', w', hr, ho', hg, _⟩ := run_append_rd (P := P) base t o.type e z s bytes ht hinfo hzs hs0 hown hv h1 h63 hbytes hbase
  refine wpList_of_run hw (v := v') (w' := w') ?_ (h v' w' ho' (below_of_grown hg hown hbase))
  unfold execOp
  simp only [ho, resolve, invoke, builtin, Sem.run_bind, Sem.run_pure, Result.andThen_ok, List.map_toArray, List.map_cons, List.map_nil, hx, hy, hr]

/-- 'append(x, u)': the one element lies in a block of its own -/
theorem wpList_append_one (x y : Operand) (t : TypeId) (ho : o.op = .call { callee := .builtin .append, args := #[x, y], argTypes := #[t, t] }) {u : Value} {e : TypeId} (hw : Region.wanted o (yielded ops a.tmps) = true)
    {z : Value} {bytes : Nat} (ht : P.underlying t = some (.slice e)) (hinfo : (P.info? e).map (fun i => (i.zero, i.size, i.bytes)) = some (some z, 1, bytes)) (hzs : z.cells.size = 1)
    {v : Value} {n : Nat} {xs : List Value} {base : Nat} (hx : a.eval x = v) (hown : w.ownsRow base e 1 v n xs) (hy : a.eval y = .slice (some ⟨w.heap.size, 0, none⟩) 1 1) (h1 : u.oneCell' = true)
    (h63 : n + 1 ≤ maxLen) (hbytes : (n + 1) * bytes ≤ 140737488355328) (hbase : base ≤ w.heap.size)
    (h : ∀ v' w', w'.ownsRow base e 1 v' (n + 1) (xs ++ [u]) → Below base w w' → wpList P ops Q rest (a.put o.dst v') w') : wpList P ops Q (o :: rest) a (w.alloc (.cells #[u] e)) := by
  have hrd : Rd (w.alloc (.cells #[u] e)) 1 (.slice (some ⟨w.heap.size, 0, none⟩) 1 1) 1 [u] := by
    refine ⟨rfl, _, _, rfl, Nat.le_refl _, (by unfold maxLen; omega), (fun h => by cases h), fun j u' hu => ⟨_, 0, rfl, ?_⟩⟩
    rw [Nat.zero_add, World.cell?_alloc_new]
    simpa using hu
  refine wpList_append_rd x y t ho hw ht hinfo hzs (by omega) hx (hown.alloc _) hy hrd (by intro u' hu'; simp at hu'; subst hu'; exact h1) h63 hbytes (by simp; omega) fun v' w' ho' hb' => h v' w' ho' ?_
  exact ((Below.refl base w).alloc hbase _).trans hb'

/-- a row that a literal has just laid -/
theorem own_lit (w : World) (e : TypeId) (l : List Value) (hm : l.length ≤ maxLen) : (w.alloc (.cells l.toArray e)).ownsRow w.heap.size e 1 (.slice (some ⟨w.heap.size, 0, none⟩) l.length l.length) l.length l := by
  refine ⟨by simp, .inr ⟨w.heap.size, _, _, rfl, Nat.le_refl _, heap_alloc_new w _, Nat.le_refl _, hm, by simp, by simp⟩⟩

/-! ### loads of one cell -/
theorem load_one (t : TypeId) (d : TypeDesc) (hu : P.underlying t = some d) (hd : (match d with | .struct _ | .array _ _ => false | _ => true) = true) (ad : Addr) (u : Value) (w : World) (h : w.cell? ad = some u) :
    (loadVar t ad).run P w = .ok u w := by
  have hi : (isAgg t).run P w = .ok false w := by
    unfold isAgg
    simp only [Sem.run_bind, run_underlying hu, Result.andThen]
    cases d <;> simp_all
  unfold loadVar
  simp [Sem.run_bind, hi, Result.andThen, load, Sem.run, h]

/-! ### a region that draws its order and only reads -/
theorem Rd.drewN {w : World} {s : Nat} {v : Value} {n : Nat} {xs : List Value} (h : Rd w s v n xs) (k : Nat) : Rd (w.drewN k) s v n xs := h
theorem below_drewN {B : Nat} {a w : World} (h : Below B a w) (n : Nat) : Below B a (w.drewN n) := ⟨h.os, h.tape, h.output, h.size, h.block⟩

theorem below_undrew {B : Nat} {a w : World} (h : Below B a.drew w) : Below B a w := ⟨h.os, h.tape, h.output, h.size, h.block⟩

section
variable {C : World → Prop} {Q : Act → Prop}
theorem wpQuiet_of_run (hw : Region.wanted o (yielded ops a.tmps) = true) {v : Value} (hr : ∀ w, C w → (execOp a.eval o).run P w = .ok (.value v) w) (h : wpQuiet P ops C Q rest (a.put o.dst v)) : wpQuiet P ops C Q (o :: rest) a :=
  BigFrame.wpQuiet_want hw fun K hK => ⟨v, fun w hC => by unfold Oper.quietAt; rw [hr w hC]; exact ⟨rfl, rfl⟩, hK _ h⟩

theorem run_len_rd (x : Operand) (t : TypeId) (ho : o.op = .call { callee := .builtin .len, args := #[x], argTypes := #[t] })
    {e : TypeId} (ht : P.underlying t = some (.slice e)) {w0 : World} {s : Nat} {v : Value} {n : Nat} {xs : List Value} (hx : a.eval x = v) (hv : Rd w0 s v n xs) (w : World) :
    (execOp a.eval o).run P w = .ok (.value (.int .i64 n)) w := by
  obtain ⟨_, ad, cap, rfl, h1, h2, _⟩ := hv
  unfold execOp
  simp [ho, resolve, invoke, builtin, Builtin.len_, hx, run_underlying ht, goInt]

theorem wpQuiet_len_rd (x : Operand) (t : TypeId) (ho : o.op = .call { callee := .builtin .len, args := #[x], argTypes := #[t] }) (hw : Region.wanted o (yielded ops a.tmps) = true)
    {e : TypeId} (ht : P.underlying t = some (.slice e)) {w0 : World} {s : Nat} {v : Value} {n : Nat} {xs : List Value} (hx : a.eval x = v) (hv : Rd w0 s v n xs)
    (h : wpQuiet P ops C Q rest (a.put o.dst (.int .i64 n))) : wpQuiet P ops C Q (o :: rest) a :=
  wpQuiet_of_run hw (fun w _ => run_len_rd x t ho ht hx hv w) h

theorem run_at_rd (x i : Operand) (t : TypeId) (ho : o.op = .indexAddr t x i)
    {e : TypeId} (ht : P.underlying t = some (.slice e)) {w0 : World} {s : Nat} (hi : (P.info? e).map (·.size) = some s) {v : Value} {n : Nat} {xs : List Value} (hx : a.eval x = v) (hv : Rd w0 s v n xs) (hpos : 0 < s)
    (k : Nat) (hix : IsI (a.eval i) (k : Int)) (hk : k < n) (w : World) :
    (execOp a.eval o).run P w = .ok (.value (ep v (k * s))) w := by
  obtain ⟨kd, hix⟩ := isI hix
  obtain ⟨ti, hti, rfl⟩ := Option.map_eq_some_iff.1 hi
  obtain ⟨hl, ad, cap, rfl, h1, h2, h3, h4⟩ := hv
  have h0 : 0 < xs.length := by rw [hl]; exact Nat.mul_pos (by omega) hpos
  obtain ⟨b, of, rfl, _⟩ := h4 0 xs[0] (by simp)
  unfold execOp
  simp [ho, Instr.indexAt, hx, hix, asIntOf, run_underlying ht, sizeOf, typeInfo, hti, ep, hk]

theorem wpQuiet_at_rd (x i : Operand) (t : TypeId) (ho : o.op = .indexAddr t x i) (hw : Region.wanted o (yielded ops a.tmps) = true)
    {e : TypeId} (ht : P.underlying t = some (.slice e)) {w0 : World} {s : Nat} (hi : (P.info? e).map (·.size) = some s) {v : Value} {n : Nat} {xs : List Value} (hx : a.eval x = v) (hv : Rd w0 s v n xs) (hpos : 0 < s)
    (k : Nat) (hix : IsI (a.eval i) (k : Int)) (hk : k < n)
    (h : wpQuiet P ops C Q rest (a.put o.dst (ep v (k * s)))) : wpQuiet P ops C Q (o :: rest) a :=
  wpQuiet_of_run hw (fun w _ => run_at_rd x i t ho ht hi hx hv hpos k hix hk w) h

theorem wpQuiet_load_rd {w0 : World} (hC : ∀ w, C w → ∃ n, w = w0.drewN n) (p : Operand) (t : TypeId) (ho : o.op = .load t p) (hw : Region.wanted o (yielded ops a.tmps) = true)
    (hload : ∀ (ad : Addr) (u : Value) (w : World), w.cell? ad = some u → (loadVar t ad).run P w = .ok u w) {s : Nat} {v : Value} {n : Nat} {xs : List Value} {k : Nat} {u : Value}
    (hx : a.eval p = ep v k) (hv : Rd w0 s v n xs) (hk : xs[k]? = some u)
    (h : wpQuiet P ops C Q rest (a.put o.dst u)) : wpQuiet P ops C Q (o :: rest) a := by
  obtain ⟨hl, ad, cap, rfl, h1, h2, h3, h4⟩ := hv
  obtain ⟨b, of, rfl, hc⟩ := h4 k u hk
  refine wpQuiet_of_run hw (fun w hCw => ?_) h
  obtain ⟨m, rfl⟩ := hC w hCw
  have := hload ⟨b, of + k, none⟩ u (w0.drewN m) hc
  unfold execOp
  simp [ho, Instr.loadAt, hx, ep, Instr.sureAddr, Addr.add_lit, this]
end

/-! ### the same outside such a region -/
/-- '&x[i]' -/
theorem wpList_at_rd (x i : Operand) (t : TypeId) (ho : o.op = .indexAddr t x i) (hw : Region.wanted o (yielded ops a.tmps) = true)
    {e : TypeId} (ht : P.underlying t = some (.slice e)) {w0 : World} {s : Nat} (hi : (P.info? e).map (·.size) = some s) {v : Value} {n : Nat} {xs : List Value} (hx : a.eval x = v) (hv : Rd w0 s v n xs) (hpos : 0 < s)
    (k : Nat) (hix : IsI (a.eval i) (k : Int)) (hk : k < n)
    (h : wpList P ops Q rest (a.put o.dst (ep v (k * s))) w) : wpList P ops Q (o :: rest) a w :=
  wpList_of_run hw (run_at_rd x i t ho ht hi hx hv hpos k hix hk w) h

/-- .. where an element is one cell -/
theorem wpList_at1_rd (x i : Operand) (t : TypeId) (ho : o.op = .indexAddr t x i) (hw : Region.wanted o (yielded ops a.tmps) = true)
    {e : TypeId} (ht : P.underlying t = some (.slice e)) {w0 : World} (hi : (P.info? e).map (·.size) = some 1) {v : Value} {n : Nat} {xs : List Value} (hx : a.eval x = v) (hv : Rd w0 1 v n xs)
    (k : Nat) (hix : IsI (a.eval i) (k : Int)) (hk : k < n)
    (h : wpList P ops Q rest (a.put o.dst (ep v k)) w) : wpList P ops Q (o :: rest) a w :=
  wpList_at_rd x i t ho hw ht hi hx hv (by omega) k hix hk (by rw [Nat.mul_one]; exact h)
theorem wpQuiet_at1_rd {C : World → Prop} {Q : Act → Prop} (x i : Operand) (t : TypeId) (ho : o.op = .indexAddr t x i) (hw : Region.wanted o (yielded ops a.tmps) = true)
    {e : TypeId} (ht : P.underlying t = some (.slice e)) {w0 : World} (hi : (P.info? e).map (·.size) = some 1) {v : Value} {n : Nat} {xs : List Value} (hx : a.eval x = v) (hv : Rd w0 1 v n xs)
    (k : Nat) (hix : IsI (a.eval i) (k : Int)) (hk : k < n)
    (h : wpQuiet P ops C Q rest (a.put o.dst (ep v k))) : wpQuiet P ops C Q (o :: rest) a :=
  wpQuiet_at_rd x i t ho hw ht hi hx hv (by omega) k hix hk (by rw [Nat.mul_one]; exact h)

/-- 'b[lo:hi]', 'b[:hi]', 'b[lo:]' of bytes -/
theorem wpList_cut_b (x lo hi : Operand) (t : TypeId) (ho : o.op = .slice t x (some lo) (some hi) none) (hw : Region.wanted o (yielded ops a.tmps) = true)
    {e : TypeId} (ht : P.underlying t = some (.slice e)) {w0 : World} (hi' : (P.info? e).map (·.size) = some 1) {v : Value} {n : Nat} {l : List UInt8} (hx : a.eval x = v) (hv : Rd w0 1 v n (bv l))
    (L H : Nat) (hlo : IsI (a.eval lo) (L : Int)) (hhi : IsI (a.eval hi) (H : Int)) (h1 : L ≤ H) (h2 : H ≤ n)
    (h : ∀ v', Rd w0 1 v' (H - L) (bv ((l.drop L).take (H - L))) → wpList P ops Q rest (a.put o.dst v') w) : wpList P ops Q (o :: rest) a w :=
  wpList_cut_rd x lo hi t ho hw ht hi' hx hv L H hlo hhi h1 h2 fun v' hv' => h v' (by rw [Nat.mul_one, Nat.mul_one, bv_drop, bv_take] at hv'; exact hv')
theorem wpList_to_b (x hi : Operand) (t : TypeId) (ho : o.op = .slice t x none (some hi) none) (hw : Region.wanted o (yielded ops a.tmps) = true)
    {e : TypeId} (ht : P.underlying t = some (.slice e)) {w0 : World} (hi' : (P.info? e).map (·.size) = some 1) {v : Value} {n : Nat} {l : List UInt8} (hx : a.eval x = v) (hv : Rd w0 1 v n (bv l))
    (H : Nat) (hhi : IsI (a.eval hi) (H : Int)) (h2 : H ≤ n)
    (h : ∀ v', Rd w0 1 v' H (bv (l.take H)) → wpList P ops Q rest (a.put o.dst v') w) : wpList P ops Q (o :: rest) a w :=
  wpList_to_rd x hi t ho hw ht hi' hx hv H hhi h2 fun v' hv' => h v' (by rw [Nat.mul_one, bv_take] at hv'; exact hv')
theorem wpList_from_b (x lo : Operand) (t : TypeId) (ho : o.op = .slice t x (some lo) none none) (hw : Region.wanted o (yielded ops a.tmps) = true)
    {e : TypeId} (ht : P.underlying t = some (.slice e)) {w0 : World} (hi' : (P.info? e).map (·.size) = some 1) {v : Value} {n : Nat} {l : List UInt8} (hx : a.eval x = v) (hv : Rd w0 1 v n (bv l))
    (L : Nat) (hlo : IsI (a.eval lo) (L : Int)) (h1 : L ≤ n)
    (h : ∀ v', Rd w0 1 v' (n - L) (bv (l.drop L)) → wpList P ops Q rest (a.put o.dst v') w) : wpList P ops Q (o :: rest) a w :=
  wpList_from_rd x lo t ho hw ht hi' hx hv L hlo h1 fun v' hv' => h v' (by rw [Nat.mul_one, bv_drop] at hv'; exact hv')

/-! ### the same as facts for a region that is walked in every order -/
theorem cut_run_to {t e : TypeId} (ht : P.underlying t = some (.slice e)) {w0 : World} {s : Nat} (hsz : (P.info? e).map (·.size) = some s) {v : Value} {n : Nat} {xs : List Value} (hv : Rd w0 s v n xs) (kh : IntKind) (H : Nat) {z : Int} (hz : z = (H : Int)) (h2 : H ≤ n) :
    ∃ v', (∀ w, (Instr.slice t v none (some (.int kh z)) none).run P w = .ok v' w) ∧ Rd w0 s v' H (xs.take (H * s)) := by
  subst hz
  obtain ⟨ti, hti, rfl⟩ := Option.map_eq_some_iff.1 hsz
  have hv' := hv
  obtain ⟨hl, ad, cap, rfl, g1, g2, g3, g4⟩ := hv
  have hc := rd_cut hv' (Nat.zero_le H) h2 (Nat.le_refl cap) (by omega)
  simp only [Nat.zero_mul, List.drop_zero, Nat.sub_zero] at hc
  refine ⟨_, fun w => ?_, hc⟩
  have e1 : H ≤ cap := by omega
  simp [run_underlying ht, Instr.slice, Instr.sliceBounds, Instr.sliceBound, asIntOf, sizeOf, typeInfo, hti, e1]

/-! ### append of a string -/
theorem size_str (l : List UInt8) : (ByteArray.mk l.toArray).size = l.length := by simp [ByteArray.size]
theorem str_eta (s : ByteArray) : s = ⟨s.data.toList.toArray⟩ := by cases s; simp
theorem strCells_bv (l : List UInt8) : strCells ⟨l.toArray⟩ = bv l := by simp [strCells, bv]

theorem wpList_append_str (x y : Operand) (t u : TypeId) (ho : o.op = .call { callee := .builtin .append, args := #[x, y], argTypes := #[t, u] }) (hw : Region.wanted o (yielded ops a.tmps) = true)
    {e : TypeId} (ht : P.underlying t = some (.slice e)) (hu : P.underlying u = some .string) (hinfo : (P.info? e).map (fun i => (i.zero, i.size, i.bytes)) = some (some (.int .u8 0), 1, 1))
    {v : Value} {n : Nat} {xs : List Value} {base : Nat} (hx : a.eval x = v) (hown : w.ownsRow base e 1 v n xs) {l : List UInt8} (hy : a.eval y = .string ⟨l.toArray⟩)
    (hbytes : n + l.length ≤ 140737488355328) (hbase : base ≤ w.heap.size)
    (h : ∀ v' w', w'.ownsRow base e 1 v' (n + l.length) (xs ++ bv l) → Below base w w' → wpList P ops Q rest (a.put o.dst v') w') : wpList P ops Q (o :: rest) a w := by
  obtain ⟨i, hi, hz, hsz, hby⟩ := info_parts hinfo
  obtain ⟨v', w', hr, ho', hg, _⟩ := run_append_own_string (P := P) w base t u o.type e i ht hu hi hz hsz hby v n xs hown ⟨l.toArray⟩ (by rw [size_str]; unfold maxLen; omega) (by rw [size_str]; omega) hbase
  rw [size_str, strCells_bv] at ho'
  refine wpList_of_run hw (v := v') (w' := w') ?_ (h v' w' ho' (below_of_grown hg hown hbase))
  unfold execOp
  simp only [ho, resolve, invoke, builtin, Sem.run_bind, Sem.run_pure, Result.andThen_ok, List.map_toArray, List.map_cons, List.map_nil, hx, hy, hr]

/-- '[]byte(s)', the string by its bytes -/
theorem wpList_bytes_l (x : Operand) (src dst : TypeId) (ho : o.op = .convert src dst x) (hw : Region.wanted o (yielded ops a.tmps) = true)
    {e : TypeId} (hs : P.underlying src = some .string) (hd : P.underlying dst = some (.slice e)) (he : P.underlying e = some (.int .u8)) {l : List UInt8} (hx : a.eval x = .string ⟨l.toArray⟩) (hm : l.length ≤ maxLen)
    (h : ∀ v' w', Rd w' 1 v' l.length (bv l) → Below w.heap.size w w' → wpList P ops Q rest (a.put o.dst v') w') : wpList P ops Q (o :: rest) a w :=
  wpList_bytes_of x src dst ho hw hs hd he hx (by rw [size_str]; exact hm) fun v' w' h1 h2 => h v' w' (by rw [size_str] at h1; exact h1) h2

end
end Go.Proofs.YtomjniijnpnehaaDoor.Lb
