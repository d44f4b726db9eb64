/-
  Arrays of numbers: equality, whole loads, slices of an array variable, as laws of the walk. Over whatever program. Conditions: those that each law names.
-/
import Derived.Test.YtomjniijnpnehaaDoorLib
import Derived.Laws.StructEq
namespace Go.Proofs.YtomjniijnpnehaaDoor.Lb
open Go Go.RowKit Go.Lib

section
variable {P : Program} {ops : Array Oper} {Q : Exit → Act → World → Prop} {a : Act} {w : World} {rest : List Oper} {o : Oper}

theorem run_part1 (t : TypeId) (d : TypeDesc) (hu : P.underlying t = some d) (hd : (match d with | .struct _ | .array _ _ => false | _ => true) = true) (cs : List Value) (i : Nat) (v : Value) (h : cs[i]? = some v) (w : World) :
    (part t cs.toArray i).run P w = .ok v w := by
  have hi : (isAgg t).run P w = .ok false w := by
    unfold isAgg
    simp only [Sem.run_bind, run_underlying hu, Result.andThen]
    cases d <;> simp_all
  unfold part
  simp [Sem.run_bind, hi, Result.andThen, h]

/-- the loop of '==' over the elements from place i on -/
theorem run_eq_from (d : Nat) (e : TypeId) (k : IntKind) (he : P.underlying e = some (.int k)) (xs ys : List Int) :
    ∀ (m i : Nat), xs.length = i + m → ys.length = i + m → ∀ w : World,
    (forIn (m := Sem) (List.range' i m) ((none, ()) : Option Bool × Unit) fun j _ => do
        if !(← Op.equalIn (d + 1) e (← part e (xs.map (Value.int k)).toArray (j * 1)) (← part e (ys.map (Value.int k)).toArray (j * 1))) then pure (ForInStep.done (some false, ())) else pure (ForInStep.yield (none, ()))).run P w
      = .ok (if xs.drop i = ys.drop i then (none, ()) else (some false, ())) w := by
  intro m
  induction m with
  | zero => intro i h1 h2 w; simp [List.drop_of_length_le, h1, h2]
  | succ m ih =>
    intro i h1 h2 w
    have hx : i < xs.length := by omega
    have hy : i < ys.length := by omega
    have p1 := fun w => run_part1 (P := P) e _ he rfl (xs.map (Value.int k)) (i * 1) (.int k xs[i]) (by simp [hx]) w
    have p2 := fun w => run_part1 (P := P) e _ he rfl (ys.map (Value.int k)) (i * 1) (.int k ys[i]) (by simp [hy]) w
    rw [List.range'_succ, List.forIn_cons]
    simp only [Sem.run_bind, p1, p2, Result.andThen_ok, run_equalIn_int _ d e k k _ _ he]
    have hc : (xs.drop i = ys.drop i) = (xs[i] = ys[i] ∧ xs.drop (i + 1) = ys.drop (i + 1)) := by
      rw [List.drop_eq_getElem_cons hx, List.drop_eq_getElem_cons hy, List.cons.injEq]
    by_cases h : xs[i] = ys[i]
    · simp only [h, beq_self_eq_true, Bool.not_true, Bool.false_eq_true, if_false, Sem.run_pure, Result.andThen_ok]
      rw [ih (i + 1) (by omega) (by omega) w]
      simp only [hc, h, true_and]
    · have hb : (xs[i] == ys[i]) = false := by simp [h]
      simp only [hb, Bool.not_false, if_true, Sem.run_pure, Result.andThen_ok]
      simp only [hc, h, false_and, if_false]

theorem run_eq_arr (d : Nat) (t e : TypeId) (k : IntKind) (n : Nat) (ht : P.underlying t = some (.array n e)) (he : P.underlying e = some (.int k)) (hsz : (P.info? e).map (·.size) = some 1) (xs ys : List Int) (hx : xs.length = n) (hy : ys.length = n) (w : World) :
    (Op.equalIn (d + 2) t (.agg (xs.map (Value.int k)).toArray) (.agg (ys.map (Value.int k)).toArray)).run P w = .ok (decide (xs = ys)) w := by
  obtain ⟨ti, hti, hs⟩ := Option.map_eq_some_iff.1 hsz
  have h := run_eq_from (P := P) d e k he xs ys n 0 (by omega) (by omega) w
  simp only [List.drop_zero] at h
  rw [Op.equalIn]
  simp only [Sem.run_bind, run_underlying ht, Result.andThen_ok]
  have hsize : (sizeOf e).run P w = .ok 1 w := by simp [sizeOf, typeInfo, hti, hs]
  rw [hsize]
  simp only [Result.andThen_ok, Std.Legacy.Range.forIn_eq_forIn_range', Std.Legacy.Range.size, Nat.sub_zero, Nat.add_sub_cancel, Nat.div_one]
  rw [h]
  by_cases hxy : xs = ys
  · simp [hxy]
  · simp [hxy]

theorem bv_ints (l : List UInt8) : bv l = (l.map fun b => (b.toNat : Int)).map (Value.int .u8) := by simp [bv]
theorem u8_ints_inj {A B : List UInt8} : (A.map fun b => (b.toNat : Int)) = (B.map fun b => (b.toNat : Int)) ↔ A = B := by
  constructor
  · intro h
    have hinj : ∀ {a b : UInt8}, (a.toNat : Int) = b.toNat → a = b := fun h => UInt8.toNat_inj.1 (by omega)
    exact List.map_inj_right (fun _ _ h => hinj h) |>.1 h
  · rintro rfl; rfl

/-- '==' of two arrays of bytes -/
theorem run_eq_bytes (d : Nat) (t e : TypeId) (n : Nat) (ht : P.underlying t = some (.array n e)) (he : P.underlying e = some (.int .u8)) (hsz : (P.info? e).map (·.size) = some 1) (A B : List UInt8) (hx : A.length = n) (hy : B.length = n) (w : World) :
    (Op.equalIn (d + 2) t (.agg (bv A).toArray) (.agg (bv B).toArray)).run P w = .ok (decide (A = B)) w := by
  rw [bv_ints, bv_ints, run_eq_arr d t e .u8 n ht he hsz _ _ (by simpa using hx) (by simpa using hy)]
  congr 1
  exact decide_eq_decide.2 u8_ints_inj

/-! ### a whole array out of a slice's element -/
theorem run_load_arr (p : Operand) (t : TypeId) (ho : o.op = .load t p) {e : TypeId} {m : Nat} (ht : P.underlying t = some (.array m e)) {s : Nat} (hsz : (P.info? t).map (·.size) = some s)
    {s' : Nat} {v : Value} {n : Nat} {xs : List Value} {k : Nat} (hx : a.eval p = ep v k) (hv : Rd w s' v n xs) (hk : k + s ≤ xs.length) (hs : 0 < s) :
    (execOp a.eval o).run P w = .ok (.value (.agg ((xs.drop k).take s).toArray)) w := by
  obtain ⟨ti, hti, rfl⟩ := Option.map_eq_some_iff.1 hsz
  obtain ⟨hl, ad, cap, rfl, h1, h2, h3, h4⟩ := hv
  obtain ⟨b, of, rfl, _⟩ := h4 0 xs[0] (by simp)
  have hlen : ((xs.drop k).take ti.size).length = ti.size := by rw [List.length_take, List.length_drop]; omega
  have hl := run_loadCells_list (P := P) w (⟨b, of + k, none⟩ : Addr) ((xs.drop k).take ti.size) (fun j u hu => by
    rw [List.getElem?_take] at hu
    split at hu
    · rw [List.getElem?_drop] at hu
      obtain ⟨b', o', hab, hc⟩ := h4 _ _ hu
      simp only [Option.some.injEq, Addr.mk.injEq] at hab
      obtain ⟨rfl, rfl, _⟩ := hab
      rw [Addr.add_lit, Nat.add_assoc]
      exact hc
    · cases hu)
  rw [hlen] at hl
  have hagg : (isAgg t).run P w = .ok true w := by
    unfold isAgg
    simp [Sem.run_bind, run_underlying ht, Result.andThen]
  have hsize : (sizeOf t).run P w = .ok ti.size w := by simp [sizeOf, typeInfo, hti]
  unfold execOp
  simp [ho, Instr.loadAt, hx, ep, Instr.sureAddr, Addr.add_lit, loadVar, hagg, hsize, hl]

theorem wpList_load_arr (p : Operand) (t : TypeId) (ho : o.op = .load t p) (hw : Region.wanted o (yielded ops a.tmps) = true) {e : TypeId} {m : Nat} (ht : P.underlying t = some (.array m e)) {s : Nat} (hsz : (P.info? t).map (·.size) = some s)
    {s' : Nat} {v : Value} {n : Nat} {xs : List Value} (k : Nat) (hx : a.eval p = ep v k) (hv : Rd w s' v n xs) (hk : k + s ≤ xs.length) (hs : 0 < s)
    (h : wpList P ops Q rest (a.put o.dst (.agg ((xs.drop k).take s).toArray)) w) : wpList P ops Q (o :: rest) a w :=
  wpList_of_run hw (run_load_arr p t ho ht hsz hx hv hk hs) h
theorem wpQuiet_load_arr {C : World → Prop} {Q : Act → Prop} {w0 : World} (hC : ∀ w, C w → ∃ n, w = w0.drewN n) (p : Operand) (t : TypeId) (ho : o.op = .load t p) (hw : Region.wanted o (yielded ops a.tmps) = true) {e : TypeId} {m : Nat} (ht : P.underlying t = some (.array m e)) {s : Nat} (hsz : (P.info? t).map (·.size) = some s)
    {s' : Nat} {v : Value} {n : Nat} {xs : List Value} (k : Nat) (hx : a.eval p = ep v k) (hv : Rd w0 s' v n xs) (hk : k + s ≤ xs.length) (hs : 0 < s)
    (h : wpQuiet P ops C Q rest (a.put o.dst (.agg ((xs.drop k).take s).toArray))) : wpQuiet P ops C Q (o :: rest) a :=
  wpQuiet_of_run hw (fun w hc => by obtain ⟨m', rfl⟩ := hC w hc; exact run_load_arr p t ho ht hsz hx (hv.drewN m') hk hs) h

theorem flat_part {α : Type} {ds : List (List α)} {m k : Nat} {d : List α} (h : ∀ d ∈ ds, d.length = m) (hk : ds[k]? = some d) : (ds.flatten.drop (k * m)).take m = d := by
  induction ds generalizing k with
  | nil => simp at hk
  | cons x ds ih =>
    have hx : x.length = m := h x (by simp)
    cases k with
    | zero =>
      simp only [List.getElem?_cons_zero, Option.some.injEq] at hk
      subst hk
      rw [Nat.zero_mul, List.drop_zero, List.flatten_cons, List.take_left' hx]
    | succ k =>
      rw [List.getElem?_cons_succ] at hk
      rw [List.flatten_cons, show (k + 1) * m = x.length + k * m by rw [hx, Nat.add_mul]; omega, List.drop_append]
      rw [List.drop_of_length_le (by omega), List.nil_append, Nat.add_sub_cancel_left]
      exact ih (fun d hd => h d (by simp [hd])) hk
theorem flat_len {α : Type} {ds : List (List α)} {m : Nat} (h : ∀ d ∈ ds, d.length = m) : ds.flatten.length = ds.length * m := by
  induction ds with
  | nil => simp
  | cons x ds ih =>
    rw [List.flatten_cons, List.length_append, ih (fun d hd => h d (by simp [hd])), h x (by simp), List.length_cons, Nat.add_mul]; omega
end
end Go.Proofs.YtomjniijnpnehaaDoor.Lb
