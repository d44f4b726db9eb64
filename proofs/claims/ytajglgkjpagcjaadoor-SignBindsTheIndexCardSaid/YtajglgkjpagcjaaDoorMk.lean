/-
  Sy, Sap, Saq, Tsd, Tsan: my texts of these names, one behind the other. Conditions: those that each law names.
-/
import Derived.Test.YtajglgkjpagcjaaDoorMj
import Derived.Test.YtajglgkjpagcjaaDoorMe
import Derived.Test.YtajglgkjpagcjaaDoorMi
import Derived.Test.YtajglgkjpagcjaaDoorMh
import Derived.Test.YtajglgkjpagcjaaDoorMf
namespace Go.Proofs.YtajglgkjpagcjaaDoor.Wi
open Go Go.RowKit Pu Lb
set_option linter.unusedSimpArgs false
set_option linter.unusedVariables false
attribute [local irreducible] comp sched comps sha outS mac digOf encInts adv startV nodeAt pt16
set_option maxRecDepth 100000 in
set_option maxHeartbeats 400000 in
theorem refver_form1 (p m sig : List UInt8) (l used : Nat) (z : Int) (w : World) (hp : p.length = 16) (hl6 : l ≤ 6) (hm : m.length ≤ 1048576) (hsg : sig.length ≤ 1000000) (hget : getInt sig = (z, used, 0)) (hz : z < 0) (hlen : (sig.drop used).length = (sig.drop used).length) :
    Calls Tryd.prog 19 #[.agg (bv p).toArray, .int .i64 (l : Int), .string ⟨m.toArray⟩, .string ⟨sig.toArray⟩] w fun e w' => e = .returned (RZ (0, 2)) ∧ Below w.heap.size w w' := by
  have hd1 : decide (z < 0) = true := decide_eq_true hz
  have hsm := size_str m
  have hd0 : decide ((l : Int) < 0) = false := decide_eq_false (by omega)
  have hd6 : decide (6 < (l : Int)) = false := decide_eq_false (by omega)
  obtain ⟨z0, z1, hu, _⟩ := enc_get hget
  have HG := Lib.hid hget
  obtain ⟨rest, hrest⟩ : ∃ rest, sig.drop used = rest := ⟨_, rfl⟩
  rw [hrest] at hlen
  have hsr := size_str rest
  have hrl : rest.length ≤ 1000000 := by rw [← hrest, List.length_drop]; omega
  have HRS := Lib.hid hrest
  clear hrest hget hp
  have hb := Below.refl w.heap.size w
  go_enter Tryd.func19, Tryd.ntmps19
  go_wp2_with (first
    | (((with_reducible refine' wpList_boxa (cs := bv p) 23 (.tmp 0) rfl ?_ ?_ ?_); exact rfl; exact rfl; intro w1 hk4 hN hz1; simp only [Act.put, List.setIfInBounds_toArray, List.set_cons_succ, List.set_cons_zero]); replace hb := hb.trans ((by exact hN : Below _ _ _).mono hb.size); clear hz1)
    | (((with_reducible refine' wpList_bytes_l (l := sig) (.tmp 32) 9 52 rfl ?_ Tryd.underlying9 Tryd.underlying52 Tryd.underlying5 ?_ ((by unfold maxLen; omega)) ?_); exact rfl; exact rfl; intro v2 w2 r2 hN; simp only [Act.put, List.setIfInBounds_toArray, List.set_cons_succ, List.set_cons_zero]); replace hb := hb.trans ((by exact hN : Below _ _ _).mono hb.size))
    | ((go_at_call 41; (with_reducible refine (refget_any v2 _ sig _ r2).mono ?_); rintro e w' ⟨rfl, hN⟩); rw [HG.out]; unfold R3; simp only; replace hb := hb.trans ((by exact hN : Below _ _ _).mono hb.size))
    | (((with_reducible refine' wpList_str_from (.tmp 41) (.tmp 42) 9 rfl ?_ Tryd.underlying9 (l := sig) ?_ (used) ?_ ?_ ?_); exact rfl; exact rfl; (show (_ : Int) = _; omega); exact hu; simp only [Act.put, List.setIfInBounds_toArray, List.set_cons_succ, List.set_cons_zero]); rw [HRS.out]))
  go_ret2
  exact ⟨rfl, hb⟩
set_option maxRecDepth 100000 in
set_option maxHeartbeats 400000 in
theorem refver_form2 (p m sig : List UInt8) (l used : Nat) (z : Int) (w : World) (hp : p.length = 16) (hl6 : l ≤ 6) (hm : m.length ≤ 1048576) (hsg : sig.length ≤ 1000000) (hget : getInt sig = (z, used, 0)) (hz0 : 0 ≤ z) (hz : ((2 ^ l : Nat) : Int) ≤ z) (hlen : (sig.drop used).length = (sig.drop used).length) :
    Calls Tryd.prog 19 #[.agg (bv p).toArray, .int .i64 (l : Int), .string ⟨m.toArray⟩, .string ⟨sig.toArray⟩] w fun e w' => e = .returned (RZ (0, 2)) ∧ Below w.heap.size w w' := by
  have hd1 : decide (z < 0) = false := decide_eq_false (by omega)
  have hpw := wrap_pow hl6
  obtain ⟨K, hK⟩ : ∃ K : Nat, 2 ^ l = K := ⟨_, rfl⟩
  rw [hK] at hpw hz
  have hd2 : decide ((K : Int) ≤ z) = true := decide_eq_true hz
  clear hK
  have hsm := size_str m
  have hd0 : decide ((l : Int) < 0) = false := decide_eq_false (by omega)
  have hd6 : decide (6 < (l : Int)) = false := decide_eq_false (by omega)
  obtain ⟨z0, z1, hu, _⟩ := enc_get hget
  have HG := Lib.hid hget
  obtain ⟨rest, hrest⟩ : ∃ rest, sig.drop used = rest := ⟨_, rfl⟩
  rw [hrest] at hlen
  have hsr := size_str rest
  have hrl : rest.length ≤ 1000000 := by rw [← hrest, List.length_drop]; omega
  have HRS := Lib.hid hrest
  clear hrest hget hp
  have hb := Below.refl w.heap.size w
  go_enter Tryd.func19, Tryd.ntmps19
  go_wp2_with (first
    | (((with_reducible refine' wpList_boxa (cs := bv p) 23 (.tmp 0) rfl ?_ ?_ ?_); exact rfl; exact rfl; intro w1 hk4 hN hz1; simp only [Act.put, List.setIfInBounds_toArray, List.set_cons_succ, List.set_cons_zero]); replace hb := hb.trans ((by exact hN : Below _ _ _).mono hb.size); clear hz1)
    | (((with_reducible refine' wpList_bytes_l (l := sig) (.tmp 32) 9 52 rfl ?_ Tryd.underlying9 Tryd.underlying52 Tryd.underlying5 ?_ ((by unfold maxLen; omega)) ?_); exact rfl; exact rfl; intro v2 w2 r2 hN; simp only [Act.put, List.setIfInBounds_toArray, List.set_cons_succ, List.set_cons_zero]); replace hb := hb.trans ((by exact hN : Below _ _ _).mono hb.size))
    | ((go_at_call 41; (with_reducible refine (refget_any v2 _ sig _ r2).mono ?_); rintro e w' ⟨rfl, hN⟩); rw [HG.out]; unfold R3; simp only; replace hb := hb.trans ((by exact hN : Below _ _ _).mono hb.size))
    | (((with_reducible refine' wpList_str_from (.tmp 41) (.tmp 42) 9 rfl ?_ Tryd.underlying9 (l := sig) ?_ (used) ?_ ?_ ?_); exact rfl; exact rfl; (show (_ : Int) = _; omega); exact hu; simp only [Act.put, List.setIfInBounds_toArray, List.set_cons_succ, List.set_cons_zero]); rw [HRS.out]))
  go_ret2
  exact ⟨rfl, hb⟩
set_option maxRecDepth 100000 in
set_option maxHeartbeats 400000 in
theorem refver_form3 (p m sig : List UInt8) (l used : Nat) (z : Int) (w : World) (hp : p.length = 16) (hl6 : l ≤ 6) (hm : m.length ≤ 1048576) (hsg : sig.length ≤ 1000000) (hget : getInt sig = (z, used, 0)) (hz0 : 0 ≤ z) (hz : z < ((2 ^ l : Nat) : Int)) (hlen : (((sig.drop used).length : Int) != (68 + (l : Int)) * 16) = true) :
    Calls Tryd.prog 19 #[.agg (bv p).toArray, .int .i64 (l : Int), .string ⟨m.toArray⟩, .string ⟨sig.toArray⟩] w fun e w' => e = .returned (RZ (0, 2)) ∧ Below w.heap.size w w' := by
  have hd1 : decide (z < 0) = false := decide_eq_false (by omega)
  have hpw := wrap_pow hl6
  obtain ⟨K, hK⟩ : ∃ K : Nat, 2 ^ l = K := ⟨_, rfl⟩
  rw [hK] at hpw hz
  have hd2 : decide ((K : Int) ≤ z) = false := decide_eq_false (by omega)
  clear hK
  have hsm := size_str m
  have hd0 : decide ((l : Int) < 0) = false := decide_eq_false (by omega)
  have hd6 : decide (6 < (l : Int)) = false := decide_eq_false (by omega)
  obtain ⟨z0, z1, hu, _⟩ := enc_get hget
  have HG := Lib.hid hget
  obtain ⟨rest, hrest⟩ : ∃ rest, sig.drop used = rest := ⟨_, rfl⟩
  rw [hrest] at hlen
  have hsr := size_str rest
  have hrl : rest.length ≤ 1000000 := by rw [← hrest, List.length_drop]; omega
  have HRS := Lib.hid hrest
  clear hrest hget hp
  have hb := Below.refl w.heap.size w
  go_enter Tryd.func19, Tryd.ntmps19
  go_wp2_with (first
    | (((with_reducible refine' wpList_boxa (cs := bv p) 23 (.tmp 0) rfl ?_ ?_ ?_); exact rfl; exact rfl; intro w1 hk4 hN hz1; simp only [Act.put, List.setIfInBounds_toArray, List.set_cons_succ, List.set_cons_zero]); replace hb := hb.trans ((by exact hN : Below _ _ _).mono hb.size); clear hz1)
    | (((with_reducible refine' wpList_bytes_l (l := sig) (.tmp 32) 9 52 rfl ?_ Tryd.underlying9 Tryd.underlying52 Tryd.underlying5 ?_ ((by unfold maxLen; omega)) ?_); exact rfl; exact rfl; intro v2 w2 r2 hN; simp only [Act.put, List.setIfInBounds_toArray, List.set_cons_succ, List.set_cons_zero]); replace hb := hb.trans ((by exact hN : Below _ _ _).mono hb.size))
    | ((go_at_call 41; (with_reducible refine (refget_any v2 _ sig _ r2).mono ?_); rintro e w' ⟨rfl, hN⟩); rw [HG.out]; unfold R3; simp only; replace hb := hb.trans ((by exact hN : Below _ _ _).mono hb.size))
    | (((with_reducible refine' wpList_str_from (.tmp 41) (.tmp 42) 9 rfl ?_ Tryd.underlying9 (l := sig) ?_ (used) ?_ ?_ ?_); exact rfl; exact rfl; (show (_ : Int) = _; omega); exact hu; simp only [Act.put, List.setIfInBounds_toArray, List.set_cons_succ, List.set_cons_zero]); rw [HRS.out]))
  go_ret2
  exact ⟨rfl, hb⟩
set_option maxRecDepth 100000 in
theorem refverify_any (p m sig : List UInt8) (h : Int) (w : World) (hT : TabR w) (hp : p.length = 16) (hm : m.length ≤ 140737488355328) (hsg : sig.length ≤ 1000000) :
    Calls Tryd.prog 19 #[.agg (bv p).toArray, .int .i64 h, .string ⟨m.toArray⟩, .string ⟨sig.toArray⟩] w fun e w' => e = .returned (RZ (verV p h m sig)) ∧ Below w.heap.size w w' := by
  have hsm := size_str m
  by_cases hh : 0 ≤ h ∧ h ≤ 6
  · obtain ⟨l, rfl⟩ : ∃ l : Nat, h = (l : Int) := ⟨h.toNat, by omega⟩
    have hl6 : l ≤ 6 := by omega
    have hd0 : decide ((l : Int) < 0) = false := decide_eq_false (by omega)
    have hd6 : decide (6 < (l : Int)) = false := decide_eq_false (by omega)
    by_cases hlong : 1048576 < m.length
    · have HB := Lib.hid (ver_long (p := p) (sig := sig) hh hlong)
      clear hh
      go_enter Tryd.func19, Tryd.ntmps19
      go_wp2_with (((with_reducible refine' wpList_boxa (cs := bv p) 23 (.tmp 0) rfl ?_ ?_ ?_); exact rfl; exact rfl; intro w1 hk4 hN hz1; simp only [Act.put, List.setIfInBounds_toArray, List.set_cons_succ, List.set_cons_zero]))
      go_ret2
      exact ⟨by rw [HB.out]; rfl, hN⟩
    · by_cases hg : (getInt sig).2.2 = 0
      · obtain ⟨z, used, hget⟩ : ∃ z used, getInt sig = (z, used, 0) := ⟨(getInt sig).1, (getInt sig).2.1, by rw [← hg]⟩
        by_cases hz0 : z < 0
        · rw [ver_form hh hlong hget (.inl hz0)]
          exact refver_form1 p m sig l used z w hp hl6 (by omega) hsg hget hz0 rfl
        · by_cases hz1 : ((2 ^ l : Nat) : Int) ≤ z
          · rw [ver_form hh hlong hget (.inr (.inl (by simpa using hz1)))]
            exact refver_form2 p m sig l used z w hp hl6 (by omega) hsg hget (by omega) hz1 rfl
          · by_cases hlen : (sig.drop used).length = (68 + l) * 16
            · obtain ⟨ix, rfl⟩ : ∃ ix : Nat, z = (ix : Int) := ⟨z.toNat, by omega⟩
              have hi : ix < 2 ^ l := by omega
              rw [ver_good hl6 hlong hget hi hlen]
              exact refver_main p m sig l ix used w hT hp hl6 (by omega) hsg hget hi hlen
            · rw [ver_form hh hlong hget (.inr (.inr (by simpa using hlen)))]
              refine refver_form3 p m sig l used z w hp hl6 (by omega) hsg hget (by omega) (by omega) ?_
              have : (((sig.drop used).length : Int)) ≠ (68 + (l : Int)) * 16 := by
                intro h
                apply hlen
                have h2 : (((sig.drop used).length : Int)) = (((68 + l) * 16 : Nat) : Int) := by rw [h]; push_cast; rfl
                exact_mod_cast h2
              simp only [bne_iff_ne, ne_eq]
              exact this
      · have HB := Lib.hid (ver_get (p := p) hh hlong hg)
        obtain ⟨e, he⟩ : ∃ e, (getInt sig).2.2 = e := ⟨_, rfl⟩
        have h3 := get_used_zero (b := sig) (n := (getInt sig).1) (used := (getInt sig).2.1) (e := e) (by rw [← he]) (by rw [← he]; exact hg)
        have hget : getInt sig = (0, 0, e) := by rw [← h3.1]; conv => lhs; rw [show getInt sig = ((getInt sig).1, (getInt sig).2.1, (getInt sig).2.2) from rfl, h3.2.1, he]
        have HG := Lib.hid hget
        rw [he] at hg HB
        have hne : ((e : Int) != 0) = true := by simp; omega
        clear hh h3 hget he
        go_enter Tryd.func19, Tryd.ntmps19
        have hb := Below.refl w.heap.size w
        go_wp2_with (first
          | (((with_reducible refine' wpList_boxa (cs := bv p) 23 (.tmp 0) rfl ?_ ?_ ?_); exact rfl; exact rfl; intro w1 hk4 hN hz1; simp only [Act.put, List.setIfInBounds_toArray, List.set_cons_succ, List.set_cons_zero]); replace hb := hb.trans ((by exact hN : Below _ _ _).mono hb.size); clear hz1)
          | (((with_reducible refine' wpList_bytes_l (l := sig) (.tmp 32) 9 52 rfl ?_ Tryd.underlying9 Tryd.underlying52 Tryd.underlying5 ?_ ((by unfold maxLen; omega)) ?_); exact rfl; exact rfl; intro v2 w2 r2 hN; simp only [Act.put, List.setIfInBounds_toArray, List.set_cons_succ, List.set_cons_zero]); replace hb := hb.trans ((by exact hN : Below _ _ _).mono hb.size))
          | ((go_at_call 41; (with_reducible refine (refget_any v2 _ sig _ r2).mono ?_); rintro e w' ⟨rfl, hN⟩); rw [HG.out]; unfold R3; simp only; replace hb := hb.trans ((by exact hN : Below _ _ _).mono hb.size)))
        go_ret2
        exact ⟨by rw [HB.out]; rfl, hb⟩
  · have HB := Lib.hid (ver_height (p := p) (m := m) (sig := sig) hh)
    by_cases h0 : h < 0
    · have hd0 : decide (h < 0) = true := decide_eq_true h0
      clear hh
      go_enter Tryd.func19, Tryd.ntmps19
      go_wp2_with (((with_reducible refine' wpList_boxa (cs := bv p) 23 (.tmp 0) rfl ?_ ?_ ?_); exact rfl; exact rfl; intro w1 hk4 hN hz1; simp only [Act.put, List.setIfInBounds_toArray, List.set_cons_succ, List.set_cons_zero]))
      go_ret2
      exact ⟨by rw [HB.out]; rfl, hN⟩
    · have hd0 : decide (h < 0) = false := decide_eq_false h0
      have hd6 : decide (6 < h) = true := decide_eq_true (by omega)
      clear hh
      go_enter Tryd.func19, Tryd.ntmps19
      go_wp2_with (((with_reducible refine' wpList_boxa (cs := bv p) 23 (.tmp 0) rfl ?_ ?_ ?_); exact rfl; exact rfl; intro w1 hk4 hN hz1; simp only [Act.put, List.setIfInBounds_toArray, List.set_cons_succ, List.set_cons_zero]))
      go_ret2
      exact ⟨by rw [HB.out]; rfl, hN⟩
end Go.Proofs.YtajglgkjpagcjaaDoor.Wi
namespace Go.Proofs.YtajglgkjpagcjaaDoor.Pu
open Wi
theorem pt16_left {a b : List UInt8} {k : Nat} (h : 16 * k + 16 ≤ a.length) : pt16 (a ++ b) k = pt16 a k := by
  unfold pt16
  rw [List.drop_append_of_le_length (by omega), List.take_append_of_le_length (by rw [List.length_drop]; omega)]
theorem pt16_right {a b : List UInt8} {k l : Nat} (h : a.length = 16 * k) : pt16 (a ++ b) (k + l) = pt16 b l := by
  unfold pt16
  rw [List.drop_append, List.drop_of_length_le (by omega), List.nil_append]
  congr 2; omega
theorem pt16_vals {f : Nat → List UInt8} {n k : Nat} (h : ∀ c, c < n → (f c).length = 16) (hk : k < n) : pt16 (vals f n) k = f k := vals_part h hk
theorem adv_through (i c : Int) {q : Nat} (hq : q ≤ 3) (v : List UInt8) : adv i c q (3 - q) (adv i c 0 q v) = adv i c 0 3 v := by
  have h := adv_add i c 0 q (3 - q) v
  rw [show q + (3 - q) = 3 by omega, Nat.zero_add] at h
  exact h.symm
/-- what stands behind the index in a signature -/
def restV (seed : List UInt8) (h i : Nat) (m : List UInt8) : List UInt8 := vals (chainV seed i (digs (msgD (nodeAt seed h 0) i m))) 68 ++ vals (fun l => nodeAt seed l (sib (i / 2 ^ l))) h
theorem sig_rest (seed : List UInt8) (h i : Nat) (m : List UInt8) : sigV seed h i m = enc i ++ restV seed h i m := by rw [sigV_eq, List.append_assoc]; rfl
theorem rest_len (seed : List UInt8) (h i : Nat) (m : List UInt8) : (restV seed h i m).length = (68 + h) * 16 := by
  unfold restV
  rw [List.length_append, vals_len (fun c _ => chainV_len _ _ _ _), vals_len (fun c _ => nodeAt_len _ _ _)]; omega
theorem rest_chain (seed : List UInt8) (h i : Nat) (m : List UInt8) {c : Nat} (hc : c < 68) : pt16 (restV seed h i m) c = chainV seed i (digs (msgD (nodeAt seed h 0) i m)) c := by
  unfold restV
  have hl := vals_len (f := chainV seed i (digs (msgD (nodeAt seed h 0) i m))) (n := 68) (fun c _ => chainV_len _ _ _ _)
  rw [pt16_left (by omega), pt16_vals (fun c _ => chainV_len _ _ _ _) hc]
theorem rest_node (seed : List UInt8) (h i : Nat) (m : List UInt8) {l : Nat} (hl : l < h) : pt16 (restV seed h i m) (68 + l) = nodeAt seed l (sib (i / 2 ^ l)) := by
  unfold restV
  have hl2 := vals_len (f := chainV seed i (digs (msgD (nodeAt seed h 0) i m))) (n := 68) (fun c _ => chainV_len _ _ _ _)
  rw [pt16_right hl2, pt16_vals (fun c _ => nodeAt_len _ _ _) hl]
theorem way_node (seed : List UInt8) (h i : Nat) (m : List UInt8) : ∀ l, l ≤ h → wayUp i (restV seed h i m) (nodeAt seed 0 i) l = nodeAt seed l (i / 2 ^ l)
  | 0, _ => by rw [Nat.pow_zero, Nat.div_one]; rfl
  | l + 1, hl => by
    rw [wayUp, way_node seed h i m l (by omega), rest_node seed h i m (by omega), ← div_step]
    obtain ⟨n, hn⟩ : ∃ n, i / 2 ^ l = n := ⟨_, rfl⟩
    rw [hn]
    by_cases ho : n % 2 = 1
    · rw [if_pos ho]
      have h1 : sib n = 2 * (n / 2) := by unfold sib; rw [if_pos ho]; omega
      have h2 : n = 2 * (n / 2) + 1 := by omega
      rw [h1]
      conv => lhs; rw [h2]
      rw [show (2 * (n / 2) + 1) / 2 = n / 2 by omega]
      rfl
    · rw [if_neg ho]
      have h1 : sib n = 2 * (n / 2) + 1 := by unfold sib; rw [if_neg ho]; omega
      have h2 : n = 2 * (n / 2) := by omega
      rw [h1]
      conv => lhs; rw [h2]
      rw [show (2 * (n / 2)) / 2 = n / 2 by omega]
      rfl
theorem get_sig (i : Nat) (t : List UInt8) (hi : i ≤ 1000000) : getInt (enc i ++ t) = ((i : Int), (enc (i : Int)).length, 0) := get_enc (i : Int) t (by omega) (by omega)
theorem accept (seed : List UInt8) (h i : Nat) (m : List UInt8) (hh : h ≤ 6) (hi : i < 2 ^ h) (hm : m.length ≤ 1048576) : verV (nodeAt seed h 0) (h : Int) m (sigV seed h i m) = ((i : Int), 0) := by
  have hp6 : 2 ^ h ≤ 2 ^ 6 := Nat.pow_le_pow_right (by decide) hh
  have hi64 : i ≤ 1000000 := by omega
  rw [sig_rest]
  have hd : (enc (i : Int) ++ restV seed h i m).drop (enc (i : Int)).length = restV seed h i m := by simp
  rw [ver_good hh (by omega) (get_sig i _ hi64) hi (by rw [hd]; exact rest_len _ _ _ _), hd]
  unfold verR
  have hroot : rootV (nodeAt seed h 0) h i m (restV seed h i m) = nodeAt seed h 0 := by
    unfold rootV
    have he : vals (endV i (digs (msgD (nodeAt seed h 0) i m)) (restV seed h i m)) 68 = vals (topV seed i) 68 := vals_congr fun c hc => by
      unfold endV
      rw [rest_chain seed h i m hc]
      unfold chainV topV
      exact adv_through _ _ (dg_le (msgD_len _ _ _) c) _
    rw [he]
    show wayUp i _ (nodeAt seed 0 i) h = _
    rw [way_node seed h i m h (Nat.le_refl _), Nat.div_eq_of_lt hi]
  rw [if_pos hroot]
theorem longer (seed : List UInt8) (h i : Nat) (m : List UInt8) (x : UInt8) (hh : h ≤ 6) (hi : i < 2 ^ h) (hm : m.length ≤ 1048576) : verV (nodeAt seed h 0) (h : Int) m (sigV seed h i m ++ [x]) = (0, 2) := by
  have hp6 : 2 ^ h ≤ 2 ^ 6 := Nat.pow_le_pow_right (by decide) hh
  rw [sig_rest, List.append_assoc]
  refine ver_form (by omega) (by omega) (get_sig i _ (by omega)) (.inr (.inr ?_))
  have hd : (enc (i : Int) ++ (restV seed h i m ++ [x])).drop (enc (i : Int)).length = restV seed h i m ++ [x] := by simp
  rw [hd, List.length_append, rest_len]
  simp
theorem shorter (seed : List UInt8) (h i : Nat) (m : List UInt8) (hh : h ≤ 6) (hi : i < 2 ^ h) (hm : m.length ≤ 1048576) : verV (nodeAt seed h 0) (h : Int) m ((sigV seed h i m).take ((sigV seed h i m).length - 1)) = (0, 2) := by
  have hp6 : 2 ^ h ≤ 2 ^ 6 := Nat.pow_le_pow_right (by decide) hh
  have hr := rest_len seed h i m
  rw [sig_rest]
  have ht : (enc (i : Int) ++ restV seed h i m).take ((enc (i : Int) ++ restV seed h i m).length - 1) = enc (i : Int) ++ (restV seed h i m).take ((restV seed h i m).length - 1) := by
    rw [List.length_append, show (enc (i : Int)).length + (restV seed h i m).length - 1 = (enc (i : Int)).length + ((restV seed h i m).length - 1) by omega, List.take_length_add_append]
  rw [ht]
  refine ver_form (by omega) (by omega) (get_sig i _ (by omega)) (.inr (.inr ?_))
  have hd : (enc (i : Int) ++ (restV seed h i m).take ((restV seed h i m).length - 1)).drop (enc (i : Int)).length = (restV seed h i m).take ((restV seed h i m).length - 1) := by simp
  rw [hd, List.length_take, hr]
  simp
  omega

/-! ### digits cross -/
theorem dsum_flat_inj : ∀ {a b : List UInt8}, a.length = b.length → a.flatMap dig4 = b.flatMap dig4 → a = b
  | [], [], _, _ => rfl
  | x :: a, y :: b, hl, h => by
    rw [List.flatMap_cons, List.flatMap_cons] at h
    obtain ⟨h1, h2⟩ := List.append_inj h rfl
    have hxy : x = y := by
      apply UInt8.toNat_inj.1
      have hx := x.toNat_lt
      have hy := y.toNat_lt
      simp only [dig4, List.cons.injEq, and_true] at h1
      omega
    rw [hxy, dsum_flat_inj (by simpa using hl) h2]
  | [], _ :: _, hl, _ => by simp at hl
  | _ :: _, [], hl, _ => by simp at hl
theorem dsum_mono : ∀ {a b : List Nat}, a.length = b.length → (∀ x ∈ a, x ≤ 3) → (∀ x ∈ b, x ≤ 3) → (∀ (i x y : Nat), a[i]? = some x → b[i]? = some y → x ≤ y) → dsum b ≤ dsum a ∧ (dsum b = dsum a → a = b)
  | [], [], _, _, _, _ => ⟨Nat.le_refl _, fun _ => rfl⟩
  | x :: a, y :: b, hl, ha, hb, h => by
    have ih := dsum_mono (a := a) (b := b) (by simpa using hl) (fun z hz => ha z (by simp [hz])) (fun z hz => hb z (by simp [hz])) (fun i x y h1 h2 => h (i + 1) x y (by simpa using h1) (by simpa using h2))
    have h0 := h 0 x y rfl rfl
    have hx := ha x (by simp)
    have hy := hb y (by simp)
    simp only [dsum, List.map_cons, List.sum_cons] at ih ⊢
    refine ⟨by omega, fun he => ?_⟩
    have : x = y := by omega
    rw [this, ih.2 (by omega)]
  | [], _ :: _, hl, _, _, _ => by simp at hl
  | _ :: _, [], hl, _, _, _ => by simp at hl
theorem chk_lt {s t : Nat} (h : s < t) : ∃ (i x y : Nat), i < 4 ∧ (chk s)[i]? = some x ∧ (chk t)[i]? = some y ∧ x < y := by
  by_cases h1 : s / 64 < t / 64
  · exact ⟨0, _, _, by omega, rfl, rfl, h1⟩
  · by_cases h2 : s / 16 % 4 < t / 16 % 4
    · exact ⟨1, _, _, by omega, rfl, rfl, h2⟩
    · by_cases h3 : s / 4 % 4 < t / 4 % 4
      · exact ⟨2, _, _, by omega, rfl, rfl, h3⟩
      · exact ⟨3, _, _, by omega, rfl, rfl, by omega⟩
/-- of different digests a digit of the first is less -/
theorem cross {a b : List UInt8} (ha : a.length = 16) (hb : b.length = 16) (hne : a ≠ b) : ∃ i, i < 68 ∧ dg (digs a) i < dg (digs b) i := by
  have la : (a.flatMap dig4).length = 64 := by rw [dig4_len, ha]
  have lb : (b.flatMap dig4).length = 64 := by rw [dig4_len, hb]
  have key : ∀ {i x y : Nat}, (digs a)[i]? = some x → (digs b)[i]? = some y → x < y → ∃ i, i < 68 ∧ dg (digs a) i < dg (digs b) i := by
    intro i x y h1 h2 h3
    refine ⟨i, ?_, ?_⟩
    · have := (List.getElem?_eq_some_iff.1 h1).1
      rw [digs_len ha] at this; exact this
    · unfold dg; rw [List.getD_eq_getElem?_getD, List.getD_eq_getElem?_getD, h1, h2]; exact h3
  by_cases hex : ∃ (i x y : Nat), (a.flatMap dig4)[i]? = some x ∧ (b.flatMap dig4)[i]? = some y ∧ x < y
  · obtain ⟨i, x, y, h1, h2, h3⟩ := hex
    have l1 := (List.getElem?_eq_some_iff.1 h1).1
    have l2 := (List.getElem?_eq_some_iff.1 h2).1
    refine key (i := i) (x := x) (y := y) ?_ ?_ h3
    · unfold digs; rw [List.getElem?_append_left l1]; exact h1
    · unfold digs; rw [List.getElem?_append_left l2]; exact h2
  · -- every digit of b is at most a's, so the checksum of b is more
    have hle : ∀ (i x y : Nat), (b.flatMap dig4)[i]? = some x → (a.flatMap dig4)[i]? = some y → x ≤ y := by
      intro i x y h1 h2
      rcases Nat.lt_or_ge y x with h | h
      · exact absurd ⟨i, y, x, h2, h1, h⟩ hex
      · exact h
    have hm := dsum_mono (a := b.flatMap dig4) (b := a.flatMap dig4) (by rw [la, lb]) (fun x hx => flat_dig_le hx) (fun x hx => flat_dig_le hx) hle
    have hlt : dsum (a.flatMap dig4) < dsum (b.flatMap dig4) := by
      rcases Nat.lt_or_ge (dsum (a.flatMap dig4)) (dsum (b.flatMap dig4)) with h | h
      · exact h
      · exact absurd (dsum_flat_inj (by rw [ha, hb]) (hm.2 (by omega))).symm hne
    have hb256 := dsum_le (b.flatMap dig4)
    rw [lb] at hb256
    obtain ⟨i, x, y, hi, h1, h2, h3⟩ := chk_lt hlt
    refine key (i := 64 + i) (x := x) (y := y) ?_ ?_ h3
    · unfold digs; rw [List.getElem?_append_right (by omega), la, Nat.add_sub_cancel_left]; exact h1
    · unfold digs; rw [List.getElem?_append_right (by omega), lb, Nat.add_sub_cancel_left]; exact h2
end Go.Proofs.YtajglgkjpagcjaaDoor.Pu
namespace Go.Proofs.YtajglgkjpagcjaaDoor.Pu
open Wi
theorem tops_short (k : Nat) : (vals (topV seed5 k) 68).length < 65536 := by
  rw [vals_len (fun c _ => topV_len _ _ _)]; decide
theorem tn_l0 : tn (nodeAt seed5 0 0) = L0n := by rw [← nodeAt_zero, ← leafN_eq (tops_short 0), tops0]; exact eqN_eq l0n_eq
theorem tn_l1 : tn (nodeAt seed5 0 1) = L1n := by rw [← nodeAt_zero, ← leafN_eq (tops_short 1), tops1]; exact eqN_eq l1n_eq
theorem tn_p0 : tn (nodeAt seed5 1 0) = P0n := by
  rw [← nodeAt_succ seed5 0 0, ← nodeN_eq (nodeAt_len _ _ _) (nodeAt_len _ _ _), Nat.mul_zero, Nat.zero_add, tn_l0, tn_l1]
  exact eqN_eq p0n_eq
theorem msgN_eq {p m : List UInt8} {i : Nat} (hp : p.length = 16) (hi : i < 65536) (hm : m.length < 65536) : digN 12 [tn p, encB i, tn m] = tn (msgD p (i : Int) m) := by
  rw [encB_eq hi]
  refine digN_eq (tag := 12) (by decide) (parts := [p, enc (i : Int), m]) fun q hq => ?_
  simp only [List.mem_cons, List.not_mem_nil, or_false] at hq
  rcases hq with rfl | rfl | rfl
  · omega
  · have h1 : (encB i).length ≤ 3 := by unfold encB; split <;> (try split) <;> simp only [List.length_cons, List.length_nil] <;> decide
    rw [encB_eq hi, List.length_map] at h1; omega
  · exact hm
theorem tn_m1 : tn (msgD (nodeAt seed5 1 0) (1 : Nat) [109]) = M1n := by
  rw [← msgN_eq (nodeAt_len _ _ _) (by decide) (by decide), tn_p0]; exact eqN_eq m1n_eq
theorem tn_n1 : tn (msgD (nodeAt seed5 1 0) (1 : Nat) [110]) = N1n := by
  rw [← msgN_eq (nodeAt_len _ _ _) (by decide) (by decide), tn_p0]; exact eqN_eq n1n_eq
theorem tn_m0 : tn (msgD (nodeAt seed5 1 0) (0 : Nat) [109]) = M0n := by
  rw [← msgN_eq (nodeAt_len _ _ _) (by decide) (by decide), tn_p0]; exact eqN_eq m0n_eq
theorem msg_differ : msgD (nodeAt seed5 1 0) 1 [109] ≠ msgD (nodeAt seed5 1 0) 0 [109] := by
  intro h
  have h2 : tn (msgD (nodeAt seed5 1 0) (1 : Nat) [109]) = tn (msgD (nodeAt seed5 1 0) (0 : Nat) [109]) := congrArg tn h
  rw [tn_m1, tn_m0] at h2
  exact absurd h2 (by decide)
def dig4N (n : Nat) : List Nat := [n / 64, n / 16 % 4, n / 4 % 4, n % 4]
theorem digs_tn (d : List UInt8) : digs d = (tn d).flatMap dig4N ++ chk (dsum ((tn d).flatMap dig4N)) := by
  have : (tn d).flatMap dig4N = d.flatMap dig4 := by unfold tn; rw [List.flatMap_map]; rfl
  rw [this]; rfl
theorem digs_m1 : digs (msgD (nodeAt seed5 1 0) (1 : Nat) [109]) = DM := by rw [digs_tn, tn_m1]; decide
theorem digs_n1 : digs (msgD (nodeAt seed5 1 0) (1 : Nat) [110]) = DN := by rw [digs_tn, tn_n1]; decide
theorem DM_le (c : Nat) : DM.getD c 0 ≤ 3 := by have := dg_le (msgD_len (nodeAt seed5 1 0) (1 : Nat) [109]) c; rw [digs_m1] at this; exact this
theorem DN_le (c : Nat) : DN.getD c 0 ≤ 3 := by have := dg_le (msgD_len (nodeAt seed5 1 0) (1 : Nat) [110]) c; rw [digs_n1] at this; exact this
def endX (c : Nat) : List UInt8 := adv (1 : Nat) c (DN.getD c 0) (3 - DN.getD c 0) (adv (1 : Nat) c 0 (DM.getD c 0) (startV seed5 (1 : Nat) c))
theorem endX_len (c : Nat) : (endX c).length = 16 := adv_len _ _ _ _ (adv_len _ _ _ _ (startV_len _ _ _))
theorem ends : tn (vals endX 68) = EX0 ++ (EX1 ++ (EX2 ++ EX3)) := four_parts (fun c hc => endN_eq hc (DM_le c) (DN_le c)) EX0_eq EX1_eq EX2_eq EX3_eq
theorem tn_lx : tn (leafD (vals endX 68)) = LXn := by
  rw [← leafN_eq (by rw [vals_len (fun c _ => endX_len c)]; decide), ends]; exact eqN_eq lxn_eq
theorem wrong_eq : verV (nodeAt seed5 1 0) 1 [110] (sigV seed5 1 1 [109]) = (0, 10) := by
  rw [sig_rest]
  have hd : (enc ((1 : Nat) : Int) ++ restV seed5 1 1 [109]).drop (enc ((1 : Nat) : Int)).length = restV seed5 1 1 [109] := by simp
  have hg := ver_good (p := nodeAt seed5 1 0) (m := [110]) (l := 1) (ix := 1) (by decide) (by decide) (get_sig 1 (restV seed5 1 1 [109]) (by decide)) (by decide) (by rw [hd]; exact rest_len _ _ _ _)
  rw [show ((1 : Int)) = ((1 : Nat) : Int) from rfl, hg, hd]
  unfold verR
  rw [if_neg]
  unfold rootV
  rw [digs_n1]
  have he : vals (endV 1 DN (restV seed5 1 1 [109])) 68 = vals endX 68 := vals_congr fun c hc => by
    unfold endV endX
    rw [rest_chain seed5 1 1 [109] hc, digs_m1]; rfl
  rw [he]
  have hw : wayUp 1 (restV seed5 1 1 [109]) (leafD (vals endX 68)) 1 = nodeD (nodeAt seed5 0 0) (leafD (vals endX 68)) := by
    have := rest_node seed5 1 1 [109] (l := 0) (by decide)
    rw [wayUp, wayUp, this]; rfl
  rw [hw]
  intro h
  have h2 := congrArg tn h
  rw [← nodeN_eq (nodeAt_len _ _ _) (leafD_len _), tn_l0, tn_lx, tn_p0, eqN_eq rxn_eq] at h2
  exact absurd h2 (by decide)
theorem good_eq : verV (nodeAt seed5 1 0) 1 [109] (sigV seed5 1 1 [109]) = (1, 0) := accept seed5 1 1 [109] (by decide) (by decide) (by decide)
theorem pub5 : pubV seed5 1 = (nodeAt seed5 1 0, 0) := pub_good ⟨rfl, by decide, by decide⟩
theorem sign5 : signV seed5 1 1 [109] = (sigV seed5 1 1 [109], 0) := sign_good ⟨rfl, by decide, by decide⟩ (by decide) (by decide)
theorem spent5 : signV seed5 1 2 [109] = ([], 20) := sign_spent ⟨rfl, by decide, by decide⟩ (by decide)
theorem short5 : pubV (seed5.drop 1) 0 = (zero16, 1) := pub_bad (by decide)
theorem zero_digs : dg (digs zero16) 0 = 0 ∧ dg (digs zero16) 64 = 3 ∧ dg (digs zero16) 67 = 0 := by decide
end Go.Proofs.YtajglgkjpagcjaaDoor.Pu
namespace Go.Proofs.YtajglgkjpagcjaaDoor.Wi
open Go Go.RowKit Pu Lb
set_option linter.unusedSimpArgs false
set_option linter.unusedVariables false
/-- the row while it is filled -/
def scells (c : UInt8) (k : Nat) : List Value := bv (List.replicate k c ++ List.replicate (32 - k) 0)
theorem scells_len (c : UInt8) {k : Nat} (h : k ≤ 32) : (scells c k).length = 32 := by
  unfold scells; rw [bv_length, List.length_append, List.length_replicate, List.length_replicate]; omega
theorem scells_set (c : UInt8) {k : Nat} (h : k < 32) : (scells c k).set k (.int .u8 (c.toNat : Int)) = scells c (k + 1) := by
  unfold scells
  obtain ⟨m, hm⟩ : ∃ m, 32 - k = m + 1 := ⟨31 - k, by omega⟩
  rw [hm, show 32 - (k + 1) = m by omega, bv_append, bv_append, List.set_append]
  rw [bv_length, List.length_replicate, if_neg (by omega), Nat.sub_self, List.replicate_succ, List.replicate_succ', bv_append, List.append_assoc]
  rfl
theorem blk_alloc (w : World) (t : TypeId) (cs : List Value) : Blk (w.alloc (.cells cs.toArray t)) w.heap.size t cs := by exact heap_alloc_new w _
theorem ep_slice (B n cap k : Nat) : ep (.slice (some ⟨B, 0, none⟩) n cap) k = .pointer (some ⟨B, k, none⟩) := by simp [ep, Addr.add_lit]
set_option maxRecDepth 100000 in
theorem seed_any (c : UInt8) (w : World) :
    Calls Tryd.prog 20 #[.int .u8 (c.toNat : Int)] w fun e w' => e = .returned (.string ⟨(List.replicate 32 c).toArray⟩) ∧ Below w.heap.size w w' := by
  have hc8 := u8_lt c
  go_enter Tryd.func20, Tryd.ntmps20
  go_upto_region 3 with (((with_reducible refine' wpList_of_run (o := ⟨_, .makeSlice _ _ _, _, _, _, _⟩) (v := .slice (some ⟨w.heap.size, 0, none⟩) 32 32) (w' := w.alloc (.cells (scells c 0).toArray 5)) ?_ ?_ ?_); exact rfl; kernel_rfl; simp only [Act.put, List.setIfInBounds_toArray, List.set_cons_succ, List.set_cons_zero]))
  obtain ⟨w1, hw1⟩ : ∃ w1, w.alloc (.cells (scells c 0).toArray 5) = w1 := ⟨_, rfl⟩
  have hk1 : Blk w1 w.heap.size 5 (scells c 0) := by rw [← hw1]; exact blk_alloc _ _ _
  have hN1 : Below w.heap.size w w1 := by rw [← hw1]; exact (Below.refl _ _).alloc (Nat.le_refl _) _
  rw [hw1]
  go_loopw [4] (fun i wr => ∃ k : Nat, k ≤ 32 ∧ i = .int .i64 k ∧ Blk wr w.heap.size 5 (scells c k) ∧ Below w.heap.size w wr) (fun i _ => 32 - (intOf i).toNat)
  case atStart => exact ⟨0, by omega, rfl, hk1, hN1⟩
  case round =>
    obtain ⟨k, hk, rfl, hkB, hbl⟩ := hrel
    have L32 := Lib.hid (scells_len c hk)
    have hrd := hkB.rd 0 32 32 1 (by rw [L32.out]; exact Nat.le_refl _) (Nat.le_refl _) (by unfold maxLen; omega)
    by_cases hlt : k < 32
    · have ST := Lib.hid (scells_set c hlt)
      obtain ⟨wo, rfl⟩ : ∃ wo : World, wo = wr := ⟨_, rfl⟩
      go_wp2_with (first | (((with_reducible refine' wpList_at1_rd (.tmp 10) (.tmp 11) 52 rfl ?_ Tryd.underlying52 sz_u8 ?_ hrd (k) ?_ ?_ ?_); exact rfl; exact rfl; (show (_ : Int) = _; omega); omega; simp only [Act.put, List.setIfInBounds_toArray, List.set_cons_succ, List.set_cons_zero]); rw [EP.out]) | ((with_reducible refine' wpList_set_blk (u := .int .u8 (c.toNat : Int)) 5 (.tmp 13) (.tmp 12) rfl ?_ sz_u8 ?_ ?_ hkB (by rw [L32.out]; exact hlt) ?_ ?_); exact rfl; exact rfl; exact rfl; exact rfl; intro w4 k4 hO4 hz4; simp only [Act.put]))
      go_roundw
      case rel =>
        rw [ST.out] at k4
        exact ⟨k + 1, by omega, by go_num, k4, hbl.trans (hO4.below (Nat.le_refl _) hbl.size)⟩
      case measure => simp [intOf]; omega
    · obtain rfl : k = 32 := by omega
      have e : ((scells c 32).drop 0).take (32 * 1) = bv (List.replicate 32 c) := by
        unfold scells
        rw [Nat.sub_self, List.replicate_zero, List.append_nil, List.drop_zero, List.take_of_length_le (by rw [bv_length, List.length_replicate]; exact Nat.le_refl _)]
      rw [e] at hrd
      go_wp2_with (((with_reducible refine' wpList_str_rd (.tmp 14) 52 9 rfl ?_ Tryd.underlying52 Tryd.underlying5 Tryd.underlying9 ?_ hrd ?_); exact rfl; exact rfl; simp only [Act.put, List.setIfInBounds_toArray, List.set_cons_succ, List.set_cons_zero]))
      go_ret
      exact ⟨rfl, hbl⟩
end Go.Proofs.YtajglgkjpagcjaaDoor.Wi
namespace Go.Proofs.YtajglgkjpagcjaaDoor.Wi
open Go Go.RowKit Pu Lb
set_option linter.unusedSimpArgs false
set_option linter.unusedVariables false
attribute [local irreducible] comp sched comps sha outS mac digOf
theorem len19 {us : List Value} (h : us.length = 19) : ∃ u0 u1 u2 u3 u4 u5 u6 u7 u8 u9 u10 u11 u12 u13 u14 u15 u16 u17 u18, us = [u0, u1, u2, u3, u4, u5, u6, u7, u8, u9, u10, u11, u12, u13, u14, u15, u16, u17, u18] := by
  obtain ⟨u0, t, rfl⟩ := List.exists_cons_of_length_eq_add_one h
  obtain ⟨u1, u2, u3, u4, u5, u6, u7, u8, u9, u10, u11, u12, u13, u14, u15, u16, u17, u18, rfl⟩ := len18 (by simpa using h)
  exact ⟨u0, u1, u2, u3, u4, u5, u6, u7, u8, u9, u10, u11, u12, u13, u14, u15, u16, u17, u18, rfl⟩
theorem len20 {us : List Value} (h : us.length = 20) : ∃ u0 u1 u2 u3 u4 u5 u6 u7 u8 u9 u10 u11 u12 u13 u14 u15 u16 u17 u18 u19, us = [u0, u1, u2, u3, u4, u5, u6, u7, u8, u9, u10, u11, u12, u13, u14, u15, u16, u17, u18, u19] := by
  obtain ⟨u0, t, rfl⟩ := List.exists_cons_of_length_eq_add_one h
  obtain ⟨u1, u2, u3, u4, u5, u6, u7, u8, u9, u10, u11, u12, u13, u14, u15, u16, u17, u18, u19, rfl⟩ := len19 (by simpa using h)
  exact ⟨u0, u1, u2, u3, u4, u5, u6, u7, u8, u9, u10, u11, u12, u13, u14, u15, u16, u17, u18, u19, rfl⟩
theorem len21 {us : List Value} (h : us.length = 21) : ∃ u0 u1 u2 u3 u4 u5 u6 u7 u8 u9 u10 u11 u12 u13 u14 u15 u16 u17 u18 u19 u20, us = [u0, u1, u2, u3, u4, u5, u6, u7, u8, u9, u10, u11, u12, u13, u14, u15, u16, u17, u18, u19, u20] := by
  obtain ⟨u0, t, rfl⟩ := List.exists_cons_of_length_eq_add_one h
  obtain ⟨u1, u2, u3, u4, u5, u6, u7, u8, u9, u10, u11, u12, u13, u14, u15, u16, u17, u18, u19, u20, rfl⟩ := len20 (by simpa using h)
  exact ⟨u0, u1, u2, u3, u4, u5, u6, u7, u8, u9, u10, u11, u12, u13, u14, u15, u16, u17, u18, u19, u20, rfl⟩
theorem len22 {us : List Value} (h : us.length = 22) : ∃ u0 u1 u2 u3 u4 u5 u6 u7 u8 u9 u10 u11 u12 u13 u14 u15 u16 u17 u18 u19 u20 u21, us = [u0, u1, u2, u3, u4, u5, u6, u7, u8, u9, u10, u11, u12, u13, u14, u15, u16, u17, u18, u19, u20, u21] := by
  obtain ⟨u0, t, rfl⟩ := List.exists_cons_of_length_eq_add_one h
  obtain ⟨u1, u2, u3, u4, u5, u6, u7, u8, u9, u10, u11, u12, u13, u14, u15, u16, u17, u18, u19, u20, u21, rfl⟩ := len21 (by simpa using h)
  exact ⟨u0, u1, u2, u3, u4, u5, u6, u7, u8, u9, u10, u11, u12, u13, u14, u15, u16, u17, u18, u19, u20, u21, rfl⟩
theorem len23 {us : List Value} (h : us.length = 23) : ∃ u0 u1 u2 u3 u4 u5 u6 u7 u8 u9 u10 u11 u12 u13 u14 u15 u16 u17 u18 u19 u20 u21 u22, us = [u0, u1, u2, u3, u4, u5, u6, u7, u8, u9, u10, u11, u12, u13, u14, u15, u16, u17, u18, u19, u20, u21, u22] := by
  obtain ⟨u0, t, rfl⟩ := List.exists_cons_of_length_eq_add_one h
  obtain ⟨u1, u2, u3, u4, u5, u6, u7, u8, u9, u10, u11, u12, u13, u14, u15, u16, u17, u18, u19, u20, u21, u22, rfl⟩ := len22 (by simpa using h)
  exact ⟨u0, u1, u2, u3, u4, u5, u6, u7, u8, u9, u10, u11, u12, u13, u14, u15, u16, u17, u18, u19, u20, u21, u22, rfl⟩
theorem len24 {us : List Value} (h : us.length = 24) : ∃ u0 u1 u2 u3 u4 u5 u6 u7 u8 u9 u10 u11 u12 u13 u14 u15 u16 u17 u18 u19 u20 u21 u22 u23, us = [u0, u1, u2, u3, u4, u5, u6, u7, u8, u9, u10, u11, u12, u13, u14, u15, u16, u17, u18, u19, u20, u21, u22, u23] := by
  obtain ⟨u0, t, rfl⟩ := List.exists_cons_of_length_eq_add_one h
  obtain ⟨u1, u2, u3, u4, u5, u6, u7, u8, u9, u10, u11, u12, u13, u14, u15, u16, u17, u18, u19, u20, u21, u22, u23, rfl⟩ := len23 (by simpa using h)
  exact ⟨u0, u1, u2, u3, u4, u5, u6, u7, u8, u9, u10, u11, u12, u13, u14, u15, u16, u17, u18, u19, u20, u21, u22, u23, rfl⟩
theorem len25 {us : List Value} (h : us.length = 25) : ∃ u0 u1 u2 u3 u4 u5 u6 u7 u8 u9 u10 u11 u12 u13 u14 u15 u16 u17 u18 u19 u20 u21 u22 u23 u24, us = [u0, u1, u2, u3, u4, u5, u6, u7, u8, u9, u10, u11, u12, u13, u14, u15, u16, u17, u18, u19, u20, u21, u22, u23, u24] := by
  obtain ⟨u0, t, rfl⟩ := List.exists_cons_of_length_eq_add_one h
  obtain ⟨u1, u2, u3, u4, u5, u6, u7, u8, u9, u10, u11, u12, u13, u14, u15, u16, u17, u18, u19, u20, u21, u22, u23, u24, rfl⟩ := len24 (by simpa using h)
  exact ⟨u0, u1, u2, u3, u4, u5, u6, u7, u8, u9, u10, u11, u12, u13, u14, u15, u16, u17, u18, u19, u20, u21, u22, u23, u24, rfl⟩
theorem len26 {us : List Value} (h : us.length = 26) : ∃ u0 u1 u2 u3 u4 u5 u6 u7 u8 u9 u10 u11 u12 u13 u14 u15 u16 u17 u18 u19 u20 u21 u22 u23 u24 u25, us = [u0, u1, u2, u3, u4, u5, u6, u7, u8, u9, u10, u11, u12, u13, u14, u15, u16, u17, u18, u19, u20, u21, u22, u23, u24, u25] := by
  obtain ⟨u0, t, rfl⟩ := List.exists_cons_of_length_eq_add_one h
  obtain ⟨u1, u2, u3, u4, u5, u6, u7, u8, u9, u10, u11, u12, u13, u14, u15, u16, u17, u18, u19, u20, u21, u22, u23, u24, u25, rfl⟩ := len25 (by simpa using h)
  exact ⟨u0, u1, u2, u3, u4, u5, u6, u7, u8, u9, u10, u11, u12, u13, u14, u15, u16, u17, u18, u19, u20, u21, u22, u23, u24, u25, rfl⟩
theorem len27 {us : List Value} (h : us.length = 27) : ∃ u0 u1 u2 u3 u4 u5 u6 u7 u8 u9 u10 u11 u12 u13 u14 u15 u16 u17 u18 u19 u20 u21 u22 u23 u24 u25 u26, us = [u0, u1, u2, u3, u4, u5, u6, u7, u8, u9, u10, u11, u12, u13, u14, u15, u16, u17, u18, u19, u20, u21, u22, u23, u24, u25, u26] := by
  obtain ⟨u0, t, rfl⟩ := List.exists_cons_of_length_eq_add_one h
  obtain ⟨u1, u2, u3, u4, u5, u6, u7, u8, u9, u10, u11, u12, u13, u14, u15, u16, u17, u18, u19, u20, u21, u22, u23, u24, u25, u26, rfl⟩ := len26 (by simpa using h)
  exact ⟨u0, u1, u2, u3, u4, u5, u6, u7, u8, u9, u10, u11, u12, u13, u14, u15, u16, u17, u18, u19, u20, u21, u22, u23, u24, u25, u26, rfl⟩
theorem len28 {us : List Value} (h : us.length = 28) : ∃ u0 u1 u2 u3 u4 u5 u6 u7 u8 u9 u10 u11 u12 u13 u14 u15 u16 u17 u18 u19 u20 u21 u22 u23 u24 u25 u26 u27, us = [u0, u1, u2, u3, u4, u5, u6, u7, u8, u9, u10, u11, u12, u13, u14, u15, u16, u17, u18, u19, u20, u21, u22, u23, u24, u25, u26, u27] := by
  obtain ⟨u0, t, rfl⟩ := List.exists_cons_of_length_eq_add_one h
  obtain ⟨u1, u2, u3, u4, u5, u6, u7, u8, u9, u10, u11, u12, u13, u14, u15, u16, u17, u18, u19, u20, u21, u22, u23, u24, u25, u26, u27, rfl⟩ := len27 (by simpa using h)
  exact ⟨u0, u1, u2, u3, u4, u5, u6, u7, u8, u9, u10, u11, u12, u13, u14, u15, u16, u17, u18, u19, u20, u21, u22, u23, u24, u25, u26, u27, rfl⟩
theorem len29 {us : List Value} (h : us.length = 29) : ∃ u0 u1 u2 u3 u4 u5 u6 u7 u8 u9 u10 u11 u12 u13 u14 u15 u16 u17 u18 u19 u20 u21 u22 u23 u24 u25 u26 u27 u28, us = [u0, u1, u2, u3, u4, u5, u6, u7, u8, u9, u10, u11, u12, u13, u14, u15, u16, u17, u18, u19, u20, u21, u22, u23, u24, u25, u26, u27, u28] := by
  obtain ⟨u0, t, rfl⟩ := List.exists_cons_of_length_eq_add_one h
  obtain ⟨u1, u2, u3, u4, u5, u6, u7, u8, u9, u10, u11, u12, u13, u14, u15, u16, u17, u18, u19, u20, u21, u22, u23, u24, u25, u26, u27, u28, rfl⟩ := len28 (by simpa using h)
  exact ⟨u0, u1, u2, u3, u4, u5, u6, u7, u8, u9, u10, u11, u12, u13, u14, u15, u16, u17, u18, u19, u20, u21, u22, u23, u24, u25, u26, u27, u28, rfl⟩
theorem len30 {us : List Value} (h : us.length = 30) : ∃ u0 u1 u2 u3 u4 u5 u6 u7 u8 u9 u10 u11 u12 u13 u14 u15 u16 u17 u18 u19 u20 u21 u22 u23 u24 u25 u26 u27 u28 u29, us = [u0, u1, u2, u3, u4, u5, u6, u7, u8, u9, u10, u11, u12, u13, u14, u15, u16, u17, u18, u19, u20, u21, u22, u23, u24, u25, u26, u27, u28, u29] := by
  obtain ⟨u0, t, rfl⟩ := List.exists_cons_of_length_eq_add_one h
  obtain ⟨u1, u2, u3, u4, u5, u6, u7, u8, u9, u10, u11, u12, u13, u14, u15, u16, u17, u18, u19, u20, u21, u22, u23, u24, u25, u26, u27, u28, u29, rfl⟩ := len29 (by simpa using h)
  exact ⟨u0, u1, u2, u3, u4, u5, u6, u7, u8, u9, u10, u11, u12, u13, u14, u15, u16, u17, u18, u19, u20, u21, u22, u23, u24, u25, u26, u27, u28, u29, rfl⟩
theorem len31 {us : List Value} (h : us.length = 31) : ∃ u0 u1 u2 u3 u4 u5 u6 u7 u8 u9 u10 u11 u12 u13 u14 u15 u16 u17 u18 u19 u20 u21 u22 u23 u24 u25 u26 u27 u28 u29 u30, us = [u0, u1, u2, u3, u4, u5, u6, u7, u8, u9, u10, u11, u12, u13, u14, u15, u16, u17, u18, u19, u20, u21, u22, u23, u24, u25, u26, u27, u28, u29, u30] := by
  obtain ⟨u0, t, rfl⟩ := List.exists_cons_of_length_eq_add_one h
  obtain ⟨u1, u2, u3, u4, u5, u6, u7, u8, u9, u10, u11, u12, u13, u14, u15, u16, u17, u18, u19, u20, u21, u22, u23, u24, u25, u26, u27, u28, u29, u30, rfl⟩ := len30 (by simpa using h)
  exact ⟨u0, u1, u2, u3, u4, u5, u6, u7, u8, u9, u10, u11, u12, u13, u14, u15, u16, u17, u18, u19, u20, u21, u22, u23, u24, u25, u26, u27, u28, u29, u30, rfl⟩
theorem len32 {us : List Value} (h : us.length = 32) : ∃ u0 u1 u2 u3 u4 u5 u6 u7 u8 u9 u10 u11 u12 u13 u14 u15 u16 u17 u18 u19 u20 u21 u22 u23 u24 u25 u26 u27 u28 u29 u30 u31, us = [u0, u1, u2, u3, u4, u5, u6, u7, u8, u9, u10, u11, u12, u13, u14, u15, u16, u17, u18, u19, u20, u21, u22, u23, u24, u25, u26, u27, u28, u29, u30, u31] := by
  obtain ⟨u0, t, rfl⟩ := List.exists_cons_of_length_eq_add_one h
  obtain ⟨u1, u2, u3, u4, u5, u6, u7, u8, u9, u10, u11, u12, u13, u14, u15, u16, u17, u18, u19, u20, u21, u22, u23, u24, u25, u26, u27, u28, u29, u30, u31, rfl⟩ := len31 (by simpa using h)
  exact ⟨u0, u1, u2, u3, u4, u5, u6, u7, u8, u9, u10, u11, u12, u13, u14, u15, u16, u17, u18, u19, u20, u21, u22, u23, u24, u25, u26, u27, u28, u29, u30, u31, rfl⟩
theorem len33 {us : List Value} (h : us.length = 33) : ∃ u0 u1 u2 u3 u4 u5 u6 u7 u8 u9 u10 u11 u12 u13 u14 u15 u16 u17 u18 u19 u20 u21 u22 u23 u24 u25 u26 u27 u28 u29 u30 u31 u32, us = [u0, u1, u2, u3, u4, u5, u6, u7, u8, u9, u10, u11, u12, u13, u14, u15, u16, u17, u18, u19, u20, u21, u22, u23, u24, u25, u26, u27, u28, u29, u30, u31, u32] := by
  obtain ⟨u0, t, rfl⟩ := List.exists_cons_of_length_eq_add_one h
  obtain ⟨u1, u2, u3, u4, u5, u6, u7, u8, u9, u10, u11, u12, u13, u14, u15, u16, u17, u18, u19, u20, u21, u22, u23, u24, u25, u26, u27, u28, u29, u30, u31, u32, rfl⟩ := len32 (by simpa using h)
  exact ⟨u0, u1, u2, u3, u4, u5, u6, u7, u8, u9, u10, u11, u12, u13, u14, u15, u16, u17, u18, u19, u20, u21, u22, u23, u24, u25, u26, u27, u28, u29, u30, u31, u32, rfl⟩
theorem len34 {us : List Value} (h : us.length = 34) : ∃ u0 u1 u2 u3 u4 u5 u6 u7 u8 u9 u10 u11 u12 u13 u14 u15 u16 u17 u18 u19 u20 u21 u22 u23 u24 u25 u26 u27 u28 u29 u30 u31 u32 u33, us = [u0, u1, u2, u3, u4, u5, u6, u7, u8, u9, u10, u11, u12, u13, u14, u15, u16, u17, u18, u19, u20, u21, u22, u23, u24, u25, u26, u27, u28, u29, u30, u31, u32, u33] := by
  obtain ⟨u0, t, rfl⟩ := List.exists_cons_of_length_eq_add_one h
  obtain ⟨u1, u2, u3, u4, u5, u6, u7, u8, u9, u10, u11, u12, u13, u14, u15, u16, u17, u18, u19, u20, u21, u22, u23, u24, u25, u26, u27, u28, u29, u30, u31, u32, u33, rfl⟩ := len33 (by simpa using h)
  exact ⟨u0, u1, u2, u3, u4, u5, u6, u7, u8, u9, u10, u11, u12, u13, u14, u15, u16, u17, u18, u19, u20, u21, u22, u23, u24, u25, u26, u27, u28, u29, u30, u31, u32, u33, rfl⟩
theorem len35 {us : List Value} (h : us.length = 35) : ∃ u0 u1 u2 u3 u4 u5 u6 u7 u8 u9 u10 u11 u12 u13 u14 u15 u16 u17 u18 u19 u20 u21 u22 u23 u24 u25 u26 u27 u28 u29 u30 u31 u32 u33 u34, us = [u0, u1, u2, u3, u4, u5, u6, u7, u8, u9, u10, u11, u12, u13, u14, u15, u16, u17, u18, u19, u20, u21, u22, u23, u24, u25, u26, u27, u28, u29, u30, u31, u32, u33, u34] := by
  obtain ⟨u0, t, rfl⟩ := List.exists_cons_of_length_eq_add_one h
  obtain ⟨u1, u2, u3, u4, u5, u6, u7, u8, u9, u10, u11, u12, u13, u14, u15, u16, u17, u18, u19, u20, u21, u22, u23, u24, u25, u26, u27, u28, u29, u30, u31, u32, u33, u34, rfl⟩ := len34 (by simpa using h)
  exact ⟨u0, u1, u2, u3, u4, u5, u6, u7, u8, u9, u10, u11, u12, u13, u14, u15, u16, u17, u18, u19, u20, u21, u22, u23, u24, u25, u26, u27, u28, u29, u30, u31, u32, u33, u34, rfl⟩
theorem len36 {us : List Value} (h : us.length = 36) : ∃ u0 u1 u2 u3 u4 u5 u6 u7 u8 u9 u10 u11 u12 u13 u14 u15 u16 u17 u18 u19 u20 u21 u22 u23 u24 u25 u26 u27 u28 u29 u30 u31 u32 u33 u34 u35, us = [u0, u1, u2, u3, u4, u5, u6, u7, u8, u9, u10, u11, u12, u13, u14, u15, u16, u17, u18, u19, u20, u21, u22, u23, u24, u25, u26, u27, u28, u29, u30, u31, u32, u33, u34, u35] := by
  obtain ⟨u0, t, rfl⟩ := List.exists_cons_of_length_eq_add_one h
  obtain ⟨u1, u2, u3, u4, u5, u6, u7, u8, u9, u10, u11, u12, u13, u14, u15, u16, u17, u18, u19, u20, u21, u22, u23, u24, u25, u26, u27, u28, u29, u30, u31, u32, u33, u34, u35, rfl⟩ := len35 (by simpa using h)
  exact ⟨u0, u1, u2, u3, u4, u5, u6, u7, u8, u9, u10, u11, u12, u13, u14, u15, u16, u17, u18, u19, u20, u21, u22, u23, u24, u25, u26, u27, u28, u29, u30, u31, u32, u33, u34, u35, rfl⟩
theorem len37 {us : List Value} (h : us.length = 37) : ∃ u0 u1 u2 u3 u4 u5 u6 u7 u8 u9 u10 u11 u12 u13 u14 u15 u16 u17 u18 u19 u20 u21 u22 u23 u24 u25 u26 u27 u28 u29 u30 u31 u32 u33 u34 u35 u36, us = [u0, u1, u2, u3, u4, u5, u6, u7, u8, u9, u10, u11, u12, u13, u14, u15, u16, u17, u18, u19, u20, u21, u22, u23, u24, u25, u26, u27, u28, u29, u30, u31, u32, u33, u34, u35, u36] := by
  obtain ⟨u0, t, rfl⟩ := List.exists_cons_of_length_eq_add_one h
  obtain ⟨u1, u2, u3, u4, u5, u6, u7, u8, u9, u10, u11, u12, u13, u14, u15, u16, u17, u18, u19, u20, u21, u22, u23, u24, u25, u26, u27, u28, u29, u30, u31, u32, u33, u34, u35, u36, rfl⟩ := len36 (by simpa using h)
  exact ⟨u0, u1, u2, u3, u4, u5, u6, u7, u8, u9, u10, u11, u12, u13, u14, u15, u16, u17, u18, u19, u20, u21, u22, u23, u24, u25, u26, u27, u28, u29, u30, u31, u32, u33, u34, u35, u36, rfl⟩
theorem len38 {us : List Value} (h : us.length = 38) : ∃ u0 u1 u2 u3 u4 u5 u6 u7 u8 u9 u10 u11 u12 u13 u14 u15 u16 u17 u18 u19 u20 u21 u22 u23 u24 u25 u26 u27 u28 u29 u30 u31 u32 u33 u34 u35 u36 u37, us = [u0, u1, u2, u3, u4, u5, u6, u7, u8, u9, u10, u11, u12, u13, u14, u15, u16, u17, u18, u19, u20, u21, u22, u23, u24, u25, u26, u27, u28, u29, u30, u31, u32, u33, u34, u35, u36, u37] := by
  obtain ⟨u0, t, rfl⟩ := List.exists_cons_of_length_eq_add_one h
  obtain ⟨u1, u2, u3, u4, u5, u6, u7, u8, u9, u10, u11, u12, u13, u14, u15, u16, u17, u18, u19, u20, u21, u22, u23, u24, u25, u26, u27, u28, u29, u30, u31, u32, u33, u34, u35, u36, u37, rfl⟩ := len37 (by simpa using h)
  exact ⟨u0, u1, u2, u3, u4, u5, u6, u7, u8, u9, u10, u11, u12, u13, u14, u15, u16, u17, u18, u19, u20, u21, u22, u23, u24, u25, u26, u27, u28, u29, u30, u31, u32, u33, u34, u35, u36, u37, rfl⟩
theorem len39 {us : List Value} (h : us.length = 39) : ∃ u0 u1 u2 u3 u4 u5 u6 u7 u8 u9 u10 u11 u12 u13 u14 u15 u16 u17 u18 u19 u20 u21 u22 u23 u24 u25 u26 u27 u28 u29 u30 u31 u32 u33 u34 u35 u36 u37 u38, us = [u0, u1, u2, u3, u4, u5, u6, u7, u8, u9, u10, u11, u12, u13, u14, u15, u16, u17, u18, u19, u20, u21, u22, u23, u24, u25, u26, u27, u28, u29, u30, u31, u32, u33, u34, u35, u36, u37, u38] := by
  obtain ⟨u0, t, rfl⟩ := List.exists_cons_of_length_eq_add_one h
  obtain ⟨u1, u2, u3, u4, u5, u6, u7, u8, u9, u10, u11, u12, u13, u14, u15, u16, u17, u18, u19, u20, u21, u22, u23, u24, u25, u26, u27, u28, u29, u30, u31, u32, u33, u34, u35, u36, u37, u38, rfl⟩ := len38 (by simpa using h)
  exact ⟨u0, u1, u2, u3, u4, u5, u6, u7, u8, u9, u10, u11, u12, u13, u14, u15, u16, u17, u18, u19, u20, u21, u22, u23, u24, u25, u26, u27, u28, u29, u30, u31, u32, u33, u34, u35, u36, u37, u38, rfl⟩
theorem seed5_any (w : World) : Calls Tryd.prog 20 #[.int .u8 5] w fun e w' => e = .returned (.string ⟨seed5.toArray⟩) ∧ Below w.heap.size w w' := seed_any 5 w
set_option maxRecDepth 100000 in
set_option maxHeartbeats 3200000 in
theorem sanity_any (w : World) (hT : TabH w) : Calls Tryd.prog 9 #[] w fun e w' => e = .returned (.bool true) ∧ Below w.heap.size w w' := by
  obtain ⟨s5, hs5⟩ : ∃ A, Hid (seed5 = A) := ⟨_, Lib.hid rfl⟩
  obtain ⟨P, hP⟩ : ∃ A, Hid (nodeAt seed5 1 0 = A) := ⟨_, Lib.hid rfl⟩
  obtain ⟨S, hS⟩ : ∃ A, Hid (sigV seed5 1 1 [109] = A) := ⟨_, Lib.hid rfl⟩
  obtain ⟨M1, hM1⟩ : ∃ A, Hid (msgD (nodeAt seed5 1 0) 1 [109] = A) := ⟨_, Lib.hid rfl⟩
  obtain ⟨M0, hM0⟩ : ∃ A, Hid (msgD (nodeAt seed5 1 0) 0 [109] = A) := ⟨_, Lib.hid rfl⟩
  obtain ⟨Z, hZ⟩ : ∃ A, Hid (nv (digs zero16) = A) := ⟨_, Lib.hid rfl⟩
  have SL := Lib.hid (show s5.length = 32 by rw [← hs5.out]; rfl)
  have P16 := Lib.hid (show P.length = 16 by rw [← hP.out, nodeAt_len])
  have B16 := Lib.hid (show (bv P).length = 16 by rw [bv_length, P16.out])
  have M16 := Lib.hid (show M1.length = 16 by rw [← hM1.out, msgD_len])
  have N16 := Lib.hid (show M0.length = 16 by rw [← hM0.out, msgD_len])
  have SG := Lib.hid (show S.length ≤ 1000000 by
    have h1 : (encB 1).length = (enc ((1 : Nat) : Int)).length := by rw [encB_eq (by decide), List.length_map]
    rw [← hS.out, sig_rest, List.length_append, rest_len, ← h1]; decide)
  have NE := Lib.hid (show decide (M1 = M0) = false by rw [← hM1.out, ← hM0.out]; exact decide_eq_false msg_differ)
  have E1 := Lib.hid (show D2 (pubV s5 1) = .tuple #[.agg (bv P).toArray, .int .i64 0] by rw [← hs5.out, ← hP.out, pub5]; rfl)
  have E2 := Lib.hid (show S2 (signV s5 1 1 [109]) = .tuple #[.string ⟨S.toArray⟩, .int .i64 0] by rw [← hs5.out, ← hS.out, sign5]; rfl)
  have E3 := Lib.hid (show RZ (verV P 1 [109] S) = .tuple #[.int .i64 1, .int .i64 0] by rw [← hP.out, ← hS.out, good_eq]; rfl)
  have E4 := Lib.hid (show RZ (verV P 1 [110] S) = .tuple #[.int .i64 0, .int .i64 10] by rw [← hP.out, ← hS.out, wrong_eq]; rfl)
  have E5 := Lib.hid (show S2 (signV s5 1 2 [109]) = .tuple #[.string ⟨#[]⟩, .int .i64 20] by rw [← hs5.out, spent5]; rfl)
  have E6 := Lib.hid (show D2 (pubV s5.tail 0) = .tuple #[.agg (bv zero16).toArray, .int .i64 1] by rw [← hs5.out, ← List.drop_one, short5]; rfl)
  have EM1 := Lib.hid (show msgD P 1 [109] = M1 by rw [← hP.out]; exact hM1.out)
  have EM0 := Lib.hid (show msgD P 0 [109] = M0 by rw [← hP.out]; exact hM0.out)
  have ZL := Lib.hid (show Z.length = 68 by rw [← hZ.out]; decide)
  have Z0 := Lib.hid (show Z[0]? = some (.int .i64 0) by rw [← hZ.out]; rfl)
  have Z64 := Lib.hid (show Z[64]? = some (.int .i64 3) by rw [← hZ.out]; rfl)
  have Z67 := Lib.hid (show Z[67]? = some (.int .i64 0) by rw [← hZ.out]; rfl)
  have D5 := Lib.hid (show s5.tail.length ≤ 1000000 by rw [List.length_tail, SL.out]; decide)
  have D16 := Lib.hid (show zero16.length = 16 from rfl)
  have DB := Lib.hid (show (bv zero16).length = 16 from rfl)
  go_enter Tryd.func9, Tryd.ntmps9
  have hb := Below.refl w.heap.size w
  go_upto_region 3 with (first
    | ((go_at_call 20; (with_reducible refine (seed5_any _).mono ?_); rintro e w' ⟨rfl, hN⟩); rw [hs5.out]; replace hb := hb.trans ((by exact hN : Below _ _ _).mono hb.size); have hT1 := hT.below hb)
    | ((go_at_call 12; (with_reducible refine (public_any s5 1 _ hT1 (by rw [SL.out]; decide)).mono ?_); rintro e w' ⟨rfl, hN⟩); rw [E1.out]; replace hb := hb.trans ((by exact hN : Below _ _ _).mono hb.size); have z1 := hb.size)
    | (((with_reducible refine' wpList_alloc_blk (cs := List.replicate 16 (.int .u8 0)) 23 rfl ?_ zr_dig ?_ ?_); exact rfl; exact zeros_u8 16; intro w2 k1 hN hz1; simp only [Act.put, List.setIfInBounds_toArray, List.set_cons_succ, List.set_cons_zero]); replace hb := hb.trans ((by exact hN : Below _ _ _).mono hb.size))
    | (((with_reducible refine' wpList_store_blk (cs := bv P) 23 (.tmp 2) (.tmp 19) rfl ?_ ?_ ?_ k1 sz_dig ?_ ?_ ?_ ?_); exact rfl; exact rfl; exact rfl; exact B16.out; exact List.length_replicate; exact bv_one _; intro w3 k1b hO hz2; simp only [Act.put]); replace hb := hb.trans (hO.below z1 hb.size); replace k1 := k1b))
  obtain ⟨B1, hB1⟩ : ∃ B, w'.heap.size = B := ⟨_, rfl⟩
  rw [hB1] at k1 ⊢
  clear hT1 hO k1b
  have hT1 := hT.below hb
  go_upto_region 4 with (first
    | ((go_at_call 14; (with_reducible refine (sign_any s5 [109] 1 1 _ hT1 (by rw [SL.out]; decide) (by decide)).mono ?_); rintro e w' ⟨rfl, hN⟩); rw [E2.out]; replace hb := hb.trans ((by exact hN : Below _ _ _).mono hb.size); (try replace k1 := Blk.below k1 hN (Blk.lt k1))))
  clear hT1
  have hT1 := hT.below hb
  go_upto_region 5 with (first
    | ((with_reducible refine' wpList_loadall_blk (.tmp 2) 23 rfl ?_ Tryd.underlying23 sz_dig ?_ k1 ?_ ?_ ?_); exact rfl; exact rfl; exact B16.out; omega; simp only [Act.put, List.setIfInBounds_toArray, List.set_cons_succ, List.set_cons_zero])
    | ((go_at_call 18; (with_reducible refine (verify_any P [109] S 1 _ hT1 P16.out (by decide) SG.out).mono ?_); rintro e w' ⟨rfl, hN⟩); rw [E3.out]; replace hb := hb.trans ((by exact hN : Below _ _ _).mono hb.size); (try replace k1 := Blk.below k1 hN (Blk.lt k1))))
  clear hT1
  have hT1 := hT.below hb
  go_upto_region 6 with (first
    | ((with_reducible refine' wpList_loadall_blk (.tmp 2) 23 rfl ?_ Tryd.underlying23 sz_dig ?_ k1 ?_ ?_ ?_); exact rfl; exact rfl; exact B16.out; omega; simp only [Act.put, List.setIfInBounds_toArray, List.set_cons_succ, List.set_cons_zero])
    | ((go_at_call 18; (with_reducible refine (verify_any P [110] S 1 _ hT1 P16.out (by decide) SG.out).mono ?_); rintro e w' ⟨rfl, hN⟩); rw [E4.out]; replace hb := hb.trans ((by exact hN : Below _ _ _).mono hb.size); (try replace k1 := Blk.below k1 hN (Blk.lt k1))))
  clear hT1
  have hT1 := hT.below hb
  go_upto_region 7 with (first
    | ((go_at_call 14; (with_reducible refine (sign_any s5 [109] 1 2 _ hT1 (by rw [SL.out]; decide) (by decide)).mono ?_); rintro e w' ⟨rfl, hN⟩); rw [E5.out]; replace hb := hb.trans ((by exact hN : Below _ _ _).mono hb.size); (try replace k1 := Blk.below k1 hN (Blk.lt k1))))
  clear hT1
  have hT1 := hT.below hb
  go_upto_region 8 with (first
    | ((with_reducible refine' wpList_str_from (.tmp 44) (.const (.int .i64 1)) 9 rfl ?_ Tryd.underlying9 (l := s5) ?_ (1) ?_ ?_ ?_); exact rfl; exact rfl; (show (_ : Int) = _; omega); rw [SL.out]; decide; simp only [Act.put, List.setIfInBounds_toArray, List.set_cons_succ, List.set_cons_zero])
    | ((go_at_call 12; (with_reducible refine (public_any s5.tail 0 _ hT1 D5.out).mono ?_); rintro e w' ⟨rfl, hN⟩); rw [E6.out]; replace hb := hb.trans ((by exact hN : Below _ _ _).mono hb.size); (try replace k1 := Blk.below k1 hN (Blk.lt k1)); have z2 := hb.size; have l1 := k1.lt)
    | (((with_reducible refine' wpList_alloc_blk (cs := List.replicate 16 (.int .u8 0)) 23 rfl ?_ zr_dig ?_ ?_); exact rfl; exact zeros_u8 16; intro w5 k2 hN hz3; simp only [Act.put, List.setIfInBounds_toArray, List.set_cons_succ, List.set_cons_zero]); replace hb := hb.trans ((by exact hN : Below _ _ _).mono hb.size); (try replace k1 := Blk.below k1 hN (Blk.lt k1)))
    | (((with_reducible refine' wpList_store_blk (cs := bv zero16) 23 (.tmp 12) (.tmp 47) rfl ?_ ?_ ?_ k2 sz_dig ?_ ?_ ?_ ?_); exact rfl; exact rfl; exact rfl; exact DB.out; exact List.length_replicate; exact bv_one _; intro w6 k2b hO hz4; simp only [Act.put]); replace hb := hb.trans (hO.below z2 hb.size); replace k2 := k2b; replace k1 := hO.blk k1 (by omega)))
  obtain ⟨B2, hB2⟩ : ∃ B, w'.heap.size = B := ⟨_, rfl⟩
  rw [hB2] at k2 ⊢
  clear hT1 hO k2b
  go_upto_region 11 with (first
    | ((with_reducible refine' wpList_of_run (o := ⟨_, .build _ _, _, _, _, _⟩) (v := .agg (bv zero16).toArray) (w' := w6) ?_ ?_ ?_); exact rfl; kernel_rfl; simp only [Act.put, List.setIfInBounds_toArray, List.set_cons_succ, List.set_cons_zero])
    | ((go_at_call 10; (with_reducible refine (digits_any zero16 _ D16.out).mono ?_); rintro e w' ⟨BD, rfl, kD, hN⟩); rw [hZ.out] at kD; replace hb := hb.trans ((by exact hN : Below _ _ _).mono hb.size); (try replace k1 := Blk.below k1 hN (Blk.lt k1)))
    | ((with_reducible refine' wpList_len_rd (.tmp 62) 25 rfl ?_ Tryd.underlying25 ?_ (kD.rd 0 68 68 1 (by rw [ZL.out]; exact Nat.le_refl _) (by decide) (by unfold maxLen; decide)) ?_); exact rfl; exact rfl; simp only [Act.put, List.setIfInBounds_toArray, List.set_cons_succ, List.set_cons_zero]))
  have hT2 := hT.below hb
  obtain ⟨ws, rfl⟩ : ∃ ws : World, ws = w' := ⟨_, rfl⟩
  clear hT
  have hrd := kD.rd 0 68 68 1 (by rw [ZL.out]; exact Nat.le_refl _) (by decide) (by unfold maxLen; decide)
  have HZZ : ((Z.drop 0).take (68 * 1)) = Z := by rw [List.drop_zero, List.take_of_length_le (by rw [ZL.out]; exact Nat.le_refl _)]
  rw [HZZ] at hrd
  clear HZZ kD
  obtain ⟨sl, hsl⟩ : ∃ s, s = Value.slice (some ⟨BD, 0, none⟩) 68 68 := ⟨_, rfl⟩
  rw [← hsl] at hrd ⊢
  clear hsl
  rw [show (Value.int .i64 ((68 : Nat) : Int)) = .int .i64 68 from rfl]

  refine wp_region_mono (w := ws) 38 (fun i => match i with | 0 => fun (vv : Value) (ww : World) => vv = .int .i64 1 | 1 => fun (vv : Value) (ww : World) => vv = .bool true | 2 => fun (vv : Value) (ww : World) => vv = .bool true | 3 => fun (vv : Value) (ww : World) => vv = .int .i64 10 | 4 => fun (vv : Value) (ww : World) => vv = .bool true | 5 => fun (vv : Value) (ww : World) => vv = .bool true | 6 => fun (vv : Value) (ww : World) => vv = .bool true | 7 => fun (vv : Value) (ww : World) => vv = .int .i64 20 | 8 => fun (vv : Value) (ww : World) => vv = .bool true | 9 => fun (vv : Value) (ww : World) => vv = .bool true | 10 => fun (vv : Value) (ww : World) => vv = .bool true | 11 => fun (vv : Value) (ww : World) => vv = .int .i64 1 | 12 => fun (vv : Value) (ww : World) => vv = .bool true | 13 => fun (vv : Value) (ww : World) => vv = .bool true | 14 => fun (vv : Value) (ww : World) => vv = .bool true | 15 => fun (vv : Value) (ww : World) => vv = sl | 16 => fun (vv : Value) (ww : World) => vv = ep sl 0 | 17 => fun (vv : Value) (ww : World) => vv = .int .i64 0 | 18 => fun (vv : Value) (ww : World) => vv = .bool true | 19 => fun (vv : Value) (ww : World) => vv = .bool true | 20 => fun (vv : Value) (ww : World) => vv = .bool true | 21 => fun (vv : Value) (ww : World) => vv = sl | 22 => fun (vv : Value) (ww : World) => vv = ep sl 64 | 23 => fun (vv : Value) (ww : World) => vv = .int .i64 3 | 24 => fun (vv : Value) (ww : World) => vv = .bool true | 25 => fun (vv : Value) (ww : World) => vv = .bool true | 26 => fun (vv : Value) (ww : World) => vv = .bool true | 27 => fun (vv : Value) (ww : World) => vv = sl | 28 => fun (vv : Value) (ww : World) => vv = ep sl 67 | 29 => fun (vv : Value) (ww : World) => vv = .int .i64 0 | 30 => fun (vv : Value) (ww : World) => vv = .bool true | 31 => fun (vv : Value) (ww : World) => vv = .bool true | 32 => fun (vv : Value) (ww : World) => vv = .bool true | 33 => fun (vv : Value) (ww : World) => vv = .agg (bv P).toArray | 34 => fun (vv : Value) (ww : World) => vv = .agg (bv M1).toArray | 35 => fun (vv : Value) (ww : World) => vv = .agg (bv P).toArray | 36 => fun (vv : Value) (ww : World) => vv = .agg (bv M0).toArray | 37 => fun (vv : Value) (ww : World) => vv = .bool true | _ => fun _ _ => True) (by kernel_rfl) (by kernel_rfl) ?_ ?_ ?_
  · intro i vv w1 w2 h hb
    rcases i with _ | _ | _ | _ | _ | _ | _ | _ | _ | _ | _ | _ | _ | _ | _ | _ | _ | _ | _ | _ | _ | _ | _ | _ | _ | _ | _ | _ | _ | _ | _ | _ | _ | _ | _ | _ | _ | _ | i
    all_goals first | exact h | exact Rd.below h hb | exact own_below h hb | (obtain ⟨B, h1, h2, h3⟩ := h; exact ⟨B, h1, h2, Blk.below h3 hb (Blk.lt h3)⟩) | trivial
  · intro i o hi ho us wz hl hbz hd
    obtain ⟨u0, u1, u2, u3, u4, u5, u6, u7, u8, u9, u10, u11, u12, u13, u14, u15, u16, u17, u18, u19, u20, u21, u22, u23, u24, u25, u26, u27, u28, u29, u30, u31, u32, u33, u34, u35, u36, u37, rfl⟩ := len38 hl
    rcases i with _ | _ | _ | _ | _ | _ | _ | _ | _ | _ | _ | _ | _ | _ | _ | _ | _ | _ | _ | _ | _ | _ | _ | _ | _ | _ | _ | _ | _ | _ | _ | _ | _ | _ | _ | _ | _ | _ | i
    · simp only [List.getElem?_cons_succ, List.getElem?_cons_zero, Option.some.injEq] at ho; subst ho; clear hi hl
      clear hd
      simp only [List.take_succ_cons, List.take_zero, List.drop_succ_cons, List.drop_zero, List.map_cons, List.map_nil, puts, Act.put, List.setIfInBounds_toArray, List.set_cons_succ, List.set_cons_zero]
      go_wp2_with (fail)
      exact ⟨rfl, _, rfl, Below.refl _ _, rfl⟩
    · simp only [List.getElem?_cons_succ, List.getElem?_cons_zero, Option.some.injEq] at ho; subst ho; clear hi hl
      have s0 : (fun (vv : Value) (ww : World) => vv = .int .i64 1) u0 wz := hd 0 (by kernel_rfl)
      simp only at s0
      obtain rfl := s0
      clear hd
      simp only [List.take_succ_cons, List.take_zero, List.drop_succ_cons, List.drop_zero, List.map_cons, List.map_nil, puts, Act.put, List.setIfInBounds_toArray, List.set_cons_succ, List.set_cons_zero]
      go_wp2_with (fail)
      exact ⟨rfl, _, rfl, Below.refl _ _, rfl⟩
    · simp only [List.getElem?_cons_succ, List.getElem?_cons_zero, Option.some.injEq] at ho; subst ho; clear hi hl
      have s1 : (fun (vv : Value) (ww : World) => vv = .bool true) u1 wz := hd 1 (by kernel_rfl)
      simp only at s1
      obtain rfl := s1
      clear hd
      simp only [List.take_succ_cons, List.take_zero, List.drop_succ_cons, List.drop_zero, List.map_cons, List.map_nil, puts, Act.put, List.setIfInBounds_toArray, List.set_cons_succ, List.set_cons_zero]
      go_wp2_with (fail)
      exact ⟨rfl, _, rfl, Below.refl _ _, rfl⟩
    · simp only [List.getElem?_cons_succ, List.getElem?_cons_zero, Option.some.injEq] at ho; subst ho; clear hi hl
      have s2 : (fun (vv : Value) (ww : World) => vv = .bool true) u2 wz := hd 2 (by kernel_rfl)
      simp only at s2
      obtain rfl := s2
      clear hd
      simp only [List.take_succ_cons, List.take_zero, List.drop_succ_cons, List.drop_zero, List.map_cons, List.map_nil, puts, Act.put, List.setIfInBounds_toArray, List.set_cons_succ, List.set_cons_zero]
      go_wp2_with (fail)
      exact ⟨rfl, _, rfl, Below.refl _ _, rfl⟩
    · simp only [List.getElem?_cons_succ, List.getElem?_cons_zero, Option.some.injEq] at ho; subst ho; clear hi hl
      have s3 : (fun (vv : Value) (ww : World) => vv = .int .i64 10) u3 wz := hd 3 (by kernel_rfl)
      simp only at s3
      obtain rfl := s3
      have s2 : (fun (vv : Value) (ww : World) => vv = .bool true) u2 wz := hd 2 (by kernel_rfl)
      simp only at s2
      obtain rfl := s2
      clear hd
      simp only [List.take_succ_cons, List.take_zero, List.drop_succ_cons, List.drop_zero, List.map_cons, List.map_nil, puts, Act.put, List.setIfInBounds_toArray, List.set_cons_succ, List.set_cons_zero]
      go_wp2_with (fail)
      exact ⟨rfl, _, rfl, Below.refl _ _, rfl⟩
    · simp only [List.getElem?_cons_succ, List.getElem?_cons_zero, Option.some.injEq] at ho; subst ho; clear hi hl
      have s2 : (fun (vv : Value) (ww : World) => vv = .bool true) u2 wz := hd 2 (by kernel_rfl)
      simp only at s2
      obtain rfl := s2
      have s4 : (fun (vv : Value) (ww : World) => vv = .bool true) u4 wz := hd 4 (by kernel_rfl)
      simp only at s4
      obtain rfl := s4
      clear hd
      simp only [List.take_succ_cons, List.take_zero, List.drop_succ_cons, List.drop_zero, List.map_cons, List.map_nil, puts, Act.put, List.setIfInBounds_toArray, List.set_cons_succ, List.set_cons_zero]
      go_wp2_with (fail)
      exact ⟨rfl, _, rfl, Below.refl _ _, rfl⟩
    · simp only [List.getElem?_cons_succ, List.getElem?_cons_zero, Option.some.injEq] at ho; subst ho; clear hi hl
      have s5 : (fun (vv : Value) (ww : World) => vv = .bool true) u5 wz := hd 5 (by kernel_rfl)
      simp only at s5
      obtain rfl := s5
      clear hd
      simp only [List.take_succ_cons, List.take_zero, List.drop_succ_cons, List.drop_zero, List.map_cons, List.map_nil, puts, Act.put, List.setIfInBounds_toArray, List.set_cons_succ, List.set_cons_zero]
      go_wp2_with (fail)
      exact ⟨rfl, _, rfl, Below.refl _ _, rfl⟩
    · simp only [List.getElem?_cons_succ, List.getElem?_cons_zero, Option.some.injEq] at ho; subst ho; clear hi hl
      have s6 : (fun (vv : Value) (ww : World) => vv = .bool true) u6 wz := hd 6 (by kernel_rfl)
      simp only at s6
      obtain rfl := s6
      clear hd
      simp only [List.take_succ_cons, List.take_zero, List.drop_succ_cons, List.drop_zero, List.map_cons, List.map_nil, puts, Act.put, List.setIfInBounds_toArray, List.set_cons_succ, List.set_cons_zero]
      go_wp2_with (fail)
      exact ⟨rfl, _, rfl, Below.refl _ _, rfl⟩
    · simp only [List.getElem?_cons_succ, List.getElem?_cons_zero, Option.some.injEq] at ho; subst ho; clear hi hl
      have s7 : (fun (vv : Value) (ww : World) => vv = .int .i64 20) u7 wz := hd 7 (by kernel_rfl)
      simp only at s7
      obtain rfl := s7
      have s6 : (fun (vv : Value) (ww : World) => vv = .bool true) u6 wz := hd 6 (by kernel_rfl)
      simp only at s6
      obtain rfl := s6
      clear hd
      simp only [List.take_succ_cons, List.take_zero, List.drop_succ_cons, List.drop_zero, List.map_cons, List.map_nil, puts, Act.put, List.setIfInBounds_toArray, List.set_cons_succ, List.set_cons_zero]
      go_wp2_with (fail)
      exact ⟨rfl, _, rfl, Below.refl _ _, rfl⟩
    · simp only [List.getElem?_cons_succ, List.getElem?_cons_zero, Option.some.injEq] at ho; subst ho; clear hi hl
      have s6 : (fun (vv : Value) (ww : World) => vv = .bool true) u6 wz := hd 6 (by kernel_rfl)
      simp only at s6
      obtain rfl := s6
      have s8 : (fun (vv : Value) (ww : World) => vv = .bool true) u8 wz := hd 8 (by kernel_rfl)
      simp only at s8
      obtain rfl := s8
      clear hd
      simp only [List.take_succ_cons, List.take_zero, List.drop_succ_cons, List.drop_zero, List.map_cons, List.map_nil, puts, Act.put, List.setIfInBounds_toArray, List.set_cons_succ, List.set_cons_zero]
      go_wp2_with (fail)
      exact ⟨rfl, _, rfl, Below.refl _ _, rfl⟩
    · simp only [List.getElem?_cons_succ, List.getElem?_cons_zero, Option.some.injEq] at ho; subst ho; clear hi hl
      have s9 : (fun (vv : Value) (ww : World) => vv = .bool true) u9 wz := hd 9 (by kernel_rfl)
      simp only at s9
      obtain rfl := s9
      clear hd
      simp only [List.take_succ_cons, List.take_zero, List.drop_succ_cons, List.drop_zero, List.map_cons, List.map_nil, puts, Act.put, List.setIfInBounds_toArray, List.set_cons_succ, List.set_cons_zero]
      go_wp2_with (fail)
      exact ⟨rfl, _, rfl, Below.refl _ _, rfl⟩
    · simp only [List.getElem?_cons_succ, List.getElem?_cons_zero, Option.some.injEq] at ho; subst ho; clear hi hl
      have s10 : (fun (vv : Value) (ww : World) => vv = .bool true) u10 wz := hd 10 (by kernel_rfl)
      simp only at s10
      obtain rfl := s10
      clear hd
      simp only [List.take_succ_cons, List.take_zero, List.drop_succ_cons, List.drop_zero, List.map_cons, List.map_nil, puts, Act.put, List.setIfInBounds_toArray, List.set_cons_succ, List.set_cons_zero]
      go_wp2_with (fail)
      exact ⟨rfl, _, rfl, Below.refl _ _, rfl⟩
    · simp only [List.getElem?_cons_succ, List.getElem?_cons_zero, Option.some.injEq] at ho; subst ho; clear hi hl
      have s11 : (fun (vv : Value) (ww : World) => vv = .int .i64 1) u11 wz := hd 11 (by kernel_rfl)
      simp only at s11
      obtain rfl := s11
      have s10 : (fun (vv : Value) (ww : World) => vv = .bool true) u10 wz := hd 10 (by kernel_rfl)
      simp only at s10
      obtain rfl := s10
      clear hd
      simp only [List.take_succ_cons, List.take_zero, List.drop_succ_cons, List.drop_zero, List.map_cons, List.map_nil, puts, Act.put, List.setIfInBounds_toArray, List.set_cons_succ, List.set_cons_zero]
      go_wp2_with (fail)
      exact ⟨rfl, _, rfl, Below.refl _ _, rfl⟩
    · simp only [List.getElem?_cons_succ, List.getElem?_cons_zero, Option.some.injEq] at ho; subst ho; clear hi hl
      have s10 : (fun (vv : Value) (ww : World) => vv = .bool true) u10 wz := hd 10 (by kernel_rfl)
      simp only at s10
      obtain rfl := s10
      have s12 : (fun (vv : Value) (ww : World) => vv = .bool true) u12 wz := hd 12 (by kernel_rfl)
      simp only at s12
      obtain rfl := s12
      clear hd
      simp only [List.take_succ_cons, List.take_zero, List.drop_succ_cons, List.drop_zero, List.map_cons, List.map_nil, puts, Act.put, List.setIfInBounds_toArray, List.set_cons_succ, List.set_cons_zero]
      go_wp2_with (fail)
      exact ⟨rfl, _, rfl, Below.refl _ _, rfl⟩
    · simp only [List.getElem?_cons_succ, List.getElem?_cons_zero, Option.some.injEq] at ho; subst ho; clear hi hl
      have s13 : (fun (vv : Value) (ww : World) => vv = .bool true) u13 wz := hd 13 (by kernel_rfl)
      simp only at s13
      obtain rfl := s13
      clear hd
      simp only [List.take_succ_cons, List.take_zero, List.drop_succ_cons, List.drop_zero, List.map_cons, List.map_nil, puts, Act.put, List.setIfInBounds_toArray, List.set_cons_succ, List.set_cons_zero]
      go_wp2_with (fail)
      exact ⟨rfl, _, rfl, Below.refl _ _, rfl⟩
    · simp only [List.getElem?_cons_succ, List.getElem?_cons_zero, Option.some.injEq] at ho; subst ho; clear hi hl
      have s14 : (fun (vv : Value) (ww : World) => vv = .bool true) u14 wz := hd 14 (by kernel_rfl)
      simp only at s14
      obtain rfl := s14
      clear hd
      simp only [List.take_succ_cons, List.take_zero, List.drop_succ_cons, List.drop_zero, List.map_cons, List.map_nil, puts, Act.put, List.setIfInBounds_toArray, List.set_cons_succ, List.set_cons_zero]
      go_wp2_with (fail)
      exact ⟨rfl, _, rfl, Below.refl _ _, rfl⟩
    · simp only [List.getElem?_cons_succ, List.getElem?_cons_zero, Option.some.injEq] at ho; subst ho; clear hi hl
      have s15 : (fun (vv : Value) (ww : World) => vv = sl) u15 wz := hd 15 (by kernel_rfl)
      simp only at s15
      obtain rfl := s15
      have s14 : (fun (vv : Value) (ww : World) => vv = .bool true) u14 wz := hd 14 (by kernel_rfl)
      simp only at s14
      obtain rfl := s14
      clear hd
      simp only [List.take_succ_cons, List.take_zero, List.drop_succ_cons, List.drop_zero, List.map_cons, List.map_nil, puts, Act.put, List.setIfInBounds_toArray, List.set_cons_succ, List.set_cons_zero]
      go_wp2_with (((with_reducible refine' wpList_at1_rd (.tmp 81) (.const (.int .i64 0)) 25 rfl ?_ Tryd.underlying25 sz_int ?_ hrd (0) ?_ ?_ ?_); exact rfl; exact rfl; (show (_ : Int) = _; omega); omega; simp only [Act.put, List.setIfInBounds_toArray, List.set_cons_succ, List.set_cons_zero]))
      exact ⟨rfl, _, rfl, Below.refl _ _, rfl⟩
    · simp only [List.getElem?_cons_succ, List.getElem?_cons_zero, Option.some.injEq] at ho; subst ho; clear hi hl
      have s16 : (fun (vv : Value) (ww : World) => vv = ep sl 0) u16 wz := hd 16 (by kernel_rfl)
      simp only at s16
      obtain rfl := s16
      have s14 : (fun (vv : Value) (ww : World) => vv = .bool true) u14 wz := hd 14 (by kernel_rfl)
      simp only at s14
      obtain rfl := s14
      clear hd
      simp only [List.take_succ_cons, List.take_zero, List.drop_succ_cons, List.drop_zero, List.map_cons, List.map_nil, puts, Act.put, List.setIfInBounds_toArray, List.set_cons_succ, List.set_cons_zero]
      go_wp2_with (((with_reducible refine' wpList_load_rd (.tmp 82) 3 rfl ?_ ld_int ?_ (hrd.below hbz) (Z0.out) ?_); exact rfl; exact rfl; simp only [Act.put, List.setIfInBounds_toArray, List.set_cons_succ, List.set_cons_zero]))
      exact ⟨rfl, _, rfl, Below.refl _ _, rfl⟩
    · simp only [List.getElem?_cons_succ, List.getElem?_cons_zero, Option.some.injEq] at ho; subst ho; clear hi hl
      have s17 : (fun (vv : Value) (ww : World) => vv = .int .i64 0) u17 wz := hd 17 (by kernel_rfl)
      simp only at s17
      obtain rfl := s17
      have s14 : (fun (vv : Value) (ww : World) => vv = .bool true) u14 wz := hd 14 (by kernel_rfl)
      simp only at s14
      obtain rfl := s14
      clear hd
      simp only [List.take_succ_cons, List.take_zero, List.drop_succ_cons, List.drop_zero, List.map_cons, List.map_nil, puts, Act.put, List.setIfInBounds_toArray, List.set_cons_succ, List.set_cons_zero]
      go_wp2_with (fail)
      exact ⟨rfl, _, rfl, Below.refl _ _, rfl⟩
    · simp only [List.getElem?_cons_succ, List.getElem?_cons_zero, Option.some.injEq] at ho; subst ho; clear hi hl
      have s14 : (fun (vv : Value) (ww : World) => vv = .bool true) u14 wz := hd 14 (by kernel_rfl)
      simp only at s14
      obtain rfl := s14
      have s18 : (fun (vv : Value) (ww : World) => vv = .bool true) u18 wz := hd 18 (by kernel_rfl)
      simp only at s18
      obtain rfl := s18
      clear hd
      simp only [List.take_succ_cons, List.take_zero, List.drop_succ_cons, List.drop_zero, List.map_cons, List.map_nil, puts, Act.put, List.setIfInBounds_toArray, List.set_cons_succ, List.set_cons_zero]
      go_wp2_with (fail)
      exact ⟨rfl, _, rfl, Below.refl _ _, rfl⟩
    · simp only [List.getElem?_cons_succ, List.getElem?_cons_zero, Option.some.injEq] at ho; subst ho; clear hi hl
      have s19 : (fun (vv : Value) (ww : World) => vv = .bool true) u19 wz := hd 19 (by kernel_rfl)
      simp only at s19
      obtain rfl := s19
      clear hd
      simp only [List.take_succ_cons, List.take_zero, List.drop_succ_cons, List.drop_zero, List.map_cons, List.map_nil, puts, Act.put, List.setIfInBounds_toArray, List.set_cons_succ, List.set_cons_zero]
      go_wp2_with (fail)
      exact ⟨rfl, _, rfl, Below.refl _ _, rfl⟩
    · simp only [List.getElem?_cons_succ, List.getElem?_cons_zero, Option.some.injEq] at ho; subst ho; clear hi hl
      have s20 : (fun (vv : Value) (ww : World) => vv = .bool true) u20 wz := hd 20 (by kernel_rfl)
      simp only at s20
      obtain rfl := s20
      clear hd
      simp only [List.take_succ_cons, List.take_zero, List.drop_succ_cons, List.drop_zero, List.map_cons, List.map_nil, puts, Act.put, List.setIfInBounds_toArray, List.set_cons_succ, List.set_cons_zero]
      go_wp2_with (fail)
      exact ⟨rfl, _, rfl, Below.refl _ _, rfl⟩
    · simp only [List.getElem?_cons_succ, List.getElem?_cons_zero, Option.some.injEq] at ho; subst ho; clear hi hl
      have s21 : (fun (vv : Value) (ww : World) => vv = sl) u21 wz := hd 21 (by kernel_rfl)
      simp only at s21
      obtain rfl := s21
      have s20 : (fun (vv : Value) (ww : World) => vv = .bool true) u20 wz := hd 20 (by kernel_rfl)
      simp only at s20
      obtain rfl := s20
      clear hd
      simp only [List.take_succ_cons, List.take_zero, List.drop_succ_cons, List.drop_zero, List.map_cons, List.map_nil, puts, Act.put, List.setIfInBounds_toArray, List.set_cons_succ, List.set_cons_zero]
      go_wp2_with (((with_reducible refine' wpList_at1_rd (.tmp 87) (.const (.int .i64 64)) 25 rfl ?_ Tryd.underlying25 sz_int ?_ hrd (64) ?_ ?_ ?_); exact rfl; exact rfl; (show (_ : Int) = _; omega); omega; simp only [Act.put, List.setIfInBounds_toArray, List.set_cons_succ, List.set_cons_zero]))
      exact ⟨rfl, _, rfl, Below.refl _ _, rfl⟩
    · simp only [List.getElem?_cons_succ, List.getElem?_cons_zero, Option.some.injEq] at ho; subst ho; clear hi hl
      have s22 : (fun (vv : Value) (ww : World) => vv = ep sl 64) u22 wz := hd 22 (by kernel_rfl)
      simp only at s22
      obtain rfl := s22
      have s20 : (fun (vv : Value) (ww : World) => vv = .bool true) u20 wz := hd 20 (by kernel_rfl)
      simp only at s20
      obtain rfl := s20
      clear hd
      simp only [List.take_succ_cons, List.take_zero, List.drop_succ_cons, List.drop_zero, List.map_cons, List.map_nil, puts, Act.put, List.setIfInBounds_toArray, List.set_cons_succ, List.set_cons_zero]
      go_wp2_with (((with_reducible refine' wpList_load_rd (.tmp 88) 3 rfl ?_ ld_int ?_ (hrd.below hbz) (Z64.out) ?_); exact rfl; exact rfl; simp only [Act.put, List.setIfInBounds_toArray, List.set_cons_succ, List.set_cons_zero]))
      exact ⟨rfl, _, rfl, Below.refl _ _, rfl⟩
    · simp only [List.getElem?_cons_succ, List.getElem?_cons_zero, Option.some.injEq] at ho; subst ho; clear hi hl
      have s23 : (fun (vv : Value) (ww : World) => vv = .int .i64 3) u23 wz := hd 23 (by kernel_rfl)
      simp only at s23
      obtain rfl := s23
      have s20 : (fun (vv : Value) (ww : World) => vv = .bool true) u20 wz := hd 20 (by kernel_rfl)
      simp only at s20
      obtain rfl := s20
      clear hd
      simp only [List.take_succ_cons, List.take_zero, List.drop_succ_cons, List.drop_zero, List.map_cons, List.map_nil, puts, Act.put, List.setIfInBounds_toArray, List.set_cons_succ, List.set_cons_zero]
      go_wp2_with (fail)
      exact ⟨rfl, _, rfl, Below.refl _ _, rfl⟩
    · simp only [List.getElem?_cons_succ, List.getElem?_cons_zero, Option.some.injEq] at ho; subst ho; clear hi hl
      have s20 : (fun (vv : Value) (ww : World) => vv = .bool true) u20 wz := hd 20 (by kernel_rfl)
      simp only at s20
      obtain rfl := s20
      have s24 : (fun (vv : Value) (ww : World) => vv = .bool true) u24 wz := hd 24 (by kernel_rfl)
      simp only at s24
      obtain rfl := s24
      clear hd
      simp only [List.take_succ_cons, List.take_zero, List.drop_succ_cons, List.drop_zero, List.map_cons, List.map_nil, puts, Act.put, List.setIfInBounds_toArray, List.set_cons_succ, List.set_cons_zero]
      go_wp2_with (fail)
      exact ⟨rfl, _, rfl, Below.refl _ _, rfl⟩
    · simp only [List.getElem?_cons_succ, List.getElem?_cons_zero, Option.some.injEq] at ho; subst ho; clear hi hl
      have s25 : (fun (vv : Value) (ww : World) => vv = .bool true) u25 wz := hd 25 (by kernel_rfl)
      simp only at s25
      obtain rfl := s25
      clear hd
      simp only [List.take_succ_cons, List.take_zero, List.drop_succ_cons, List.drop_zero, List.map_cons, List.map_nil, puts, Act.put, List.setIfInBounds_toArray, List.set_cons_succ, List.set_cons_zero]
      go_wp2_with (fail)
      exact ⟨rfl, _, rfl, Below.refl _ _, rfl⟩
    · simp only [List.getElem?_cons_succ, List.getElem?_cons_zero, Option.some.injEq] at ho; subst ho; clear hi hl
      have s26 : (fun (vv : Value) (ww : World) => vv = .bool true) u26 wz := hd 26 (by kernel_rfl)
      simp only at s26
      obtain rfl := s26
      clear hd
      simp only [List.take_succ_cons, List.take_zero, List.drop_succ_cons, List.drop_zero, List.map_cons, List.map_nil, puts, Act.put, List.setIfInBounds_toArray, List.set_cons_succ, List.set_cons_zero]
      go_wp2_with (fail)
      exact ⟨rfl, _, rfl, Below.refl _ _, rfl⟩
    · simp only [List.getElem?_cons_succ, List.getElem?_cons_zero, Option.some.injEq] at ho; subst ho; clear hi hl
      have s27 : (fun (vv : Value) (ww : World) => vv = sl) u27 wz := hd 27 (by kernel_rfl)
      simp only at s27
      obtain rfl := s27
      have s26 : (fun (vv : Value) (ww : World) => vv = .bool true) u26 wz := hd 26 (by kernel_rfl)
      simp only at s26
      obtain rfl := s26
      clear hd
      simp only [List.take_succ_cons, List.take_zero, List.drop_succ_cons, List.drop_zero, List.map_cons, List.map_nil, puts, Act.put, List.setIfInBounds_toArray, List.set_cons_succ, List.set_cons_zero]
      go_wp2_with (((with_reducible refine' wpList_at1_rd (.tmp 93) (.const (.int .i64 67)) 25 rfl ?_ Tryd.underlying25 sz_int ?_ hrd (67) ?_ ?_ ?_); exact rfl; exact rfl; (show (_ : Int) = _; omega); omega; simp only [Act.put, List.setIfInBounds_toArray, List.set_cons_succ, List.set_cons_zero]))
      exact ⟨rfl, _, rfl, Below.refl _ _, rfl⟩
    · simp only [List.getElem?_cons_succ, List.getElem?_cons_zero, Option.some.injEq] at ho; subst ho; clear hi hl
      have s28 : (fun (vv : Value) (ww : World) => vv = ep sl 67) u28 wz := hd 28 (by kernel_rfl)
      simp only at s28
      obtain rfl := s28
      have s26 : (fun (vv : Value) (ww : World) => vv = .bool true) u26 wz := hd 26 (by kernel_rfl)
      simp only at s26
      obtain rfl := s26
      clear hd
      simp only [List.take_succ_cons, List.take_zero, List.drop_succ_cons, List.drop_zero, List.map_cons, List.map_nil, puts, Act.put, List.setIfInBounds_toArray, List.set_cons_succ, List.set_cons_zero]
      go_wp2_with (((with_reducible refine' wpList_load_rd (.tmp 94) 3 rfl ?_ ld_int ?_ (hrd.below hbz) (Z67.out) ?_); exact rfl; exact rfl; simp only [Act.put, List.setIfInBounds_toArray, List.set_cons_succ, List.set_cons_zero]))
      exact ⟨rfl, _, rfl, Below.refl _ _, rfl⟩
    · simp only [List.getElem?_cons_succ, List.getElem?_cons_zero, Option.some.injEq] at ho; subst ho; clear hi hl
      have s29 : (fun (vv : Value) (ww : World) => vv = .int .i64 0) u29 wz := hd 29 (by kernel_rfl)
      simp only at s29
      obtain rfl := s29
      have s26 : (fun (vv : Value) (ww : World) => vv = .bool true) u26 wz := hd 26 (by kernel_rfl)
      simp only at s26
      obtain rfl := s26
      clear hd
      simp only [List.take_succ_cons, List.take_zero, List.drop_succ_cons, List.drop_zero, List.map_cons, List.map_nil, puts, Act.put, List.setIfInBounds_toArray, List.set_cons_succ, List.set_cons_zero]
      go_wp2_with (fail)
      exact ⟨rfl, _, rfl, Below.refl _ _, rfl⟩
    · simp only [List.getElem?_cons_succ, List.getElem?_cons_zero, Option.some.injEq] at ho; subst ho; clear hi hl
      have s26 : (fun (vv : Value) (ww : World) => vv = .bool true) u26 wz := hd 26 (by kernel_rfl)
      simp only at s26
      obtain rfl := s26
      have s30 : (fun (vv : Value) (ww : World) => vv = .bool true) u30 wz := hd 30 (by kernel_rfl)
      simp only at s30
      obtain rfl := s30
      clear hd
      simp only [List.take_succ_cons, List.take_zero, List.drop_succ_cons, List.drop_zero, List.map_cons, List.map_nil, puts, Act.put, List.setIfInBounds_toArray, List.set_cons_succ, List.set_cons_zero]
      go_wp2_with (fail)
      exact ⟨rfl, _, rfl, Below.refl _ _, rfl⟩
    · simp only [List.getElem?_cons_succ, List.getElem?_cons_zero, Option.some.injEq] at ho; subst ho; clear hi hl
      have s31 : (fun (vv : Value) (ww : World) => vv = .bool true) u31 wz := hd 31 (by kernel_rfl)
      simp only at s31
      obtain rfl := s31
      clear hd
      simp only [List.take_succ_cons, List.take_zero, List.drop_succ_cons, List.drop_zero, List.map_cons, List.map_nil, puts, Act.put, List.setIfInBounds_toArray, List.set_cons_succ, List.set_cons_zero]
      go_wp2_with (fail)
      exact ⟨rfl, _, rfl, Below.refl _ _, rfl⟩
    · simp only [List.getElem?_cons_succ, List.getElem?_cons_zero, Option.some.injEq] at ho; subst ho; clear hi hl
      have s32 : (fun (vv : Value) (ww : World) => vv = .bool true) u32 wz := hd 32 (by kernel_rfl)
      simp only at s32
      obtain rfl := s32
      clear hd
      simp only [List.take_succ_cons, List.take_zero, List.drop_succ_cons, List.drop_zero, List.map_cons, List.map_nil, puts, Act.put, List.setIfInBounds_toArray, List.set_cons_succ, List.set_cons_zero]
      go_wp2_with (((with_reducible refine' wpList_loadall_blk (.tmp 2) 23 rfl ?_ Tryd.underlying23 sz_dig ?_ (k1.below hbz k1.lt) ?_ ?_ ?_); exact rfl; exact rfl; exact B16.out; omega; simp only [Act.put, List.setIfInBounds_toArray, List.set_cons_succ, List.set_cons_zero]))
      exact ⟨rfl, _, rfl, Below.refl _ _, rfl⟩
    · simp only [List.getElem?_cons_succ, List.getElem?_cons_zero, Option.some.injEq] at ho; subst ho; clear hi hl
      have s33 : (fun (vv : Value) (ww : World) => vv = .agg (bv P).toArray) u33 wz := hd 33 (by kernel_rfl)
      simp only at s33
      obtain rfl := s33
      have s32 : (fun (vv : Value) (ww : World) => vv = .bool true) u32 wz := hd 32 (by kernel_rfl)
      simp only at s32
      obtain rfl := s32
      clear hd
      simp only [List.take_succ_cons, List.take_zero, List.drop_succ_cons, List.drop_zero, List.map_cons, List.map_nil, puts, Act.put, List.setIfInBounds_toArray, List.set_cons_succ, List.set_cons_zero]
      go_wp2_with (((go_at_call 16; (with_reducible refine (msg_any P 1 [109] _ (hT2.below hbz) P16.out (by unfold I64; decide) (by decide)).mono ?_); rintro e w' ⟨rfl, hN⟩); rw [EM1.out]))
      exact ⟨rfl, _, rfl, hN, rfl⟩
    · simp only [List.getElem?_cons_succ, List.getElem?_cons_zero, Option.some.injEq] at ho; subst ho; clear hi hl
      have s32 : (fun (vv : Value) (ww : World) => vv = .bool true) u32 wz := hd 32 (by kernel_rfl)
      simp only at s32
      obtain rfl := s32
      clear hd
      simp only [List.take_succ_cons, List.take_zero, List.drop_succ_cons, List.drop_zero, List.map_cons, List.map_nil, puts, Act.put, List.setIfInBounds_toArray, List.set_cons_succ, List.set_cons_zero]
      go_wp2_with (((with_reducible refine' wpList_loadall_blk (.tmp 2) 23 rfl ?_ Tryd.underlying23 sz_dig ?_ (k1.below hbz k1.lt) ?_ ?_ ?_); exact rfl; exact rfl; exact B16.out; omega; simp only [Act.put, List.setIfInBounds_toArray, List.set_cons_succ, List.set_cons_zero]))
      exact ⟨rfl, _, rfl, Below.refl _ _, rfl⟩
    · simp only [List.getElem?_cons_succ, List.getElem?_cons_zero, Option.some.injEq] at ho; subst ho; clear hi hl
      have s35 : (fun (vv : Value) (ww : World) => vv = .agg (bv P).toArray) u35 wz := hd 35 (by kernel_rfl)
      simp only at s35
      obtain rfl := s35
      have s32 : (fun (vv : Value) (ww : World) => vv = .bool true) u32 wz := hd 32 (by kernel_rfl)
      simp only at s32
      obtain rfl := s32
      clear hd
      simp only [List.take_succ_cons, List.take_zero, List.drop_succ_cons, List.drop_zero, List.map_cons, List.map_nil, puts, Act.put, List.setIfInBounds_toArray, List.set_cons_succ, List.set_cons_zero]
      go_wp2_with (((go_at_call 16; (with_reducible refine (msg_any P 0 [109] _ (hT2.below hbz) P16.out (by unfold I64; decide) (by decide)).mono ?_); rintro e w' ⟨rfl, hN⟩); rw [EM0.out]))
      exact ⟨rfl, _, rfl, hN, rfl⟩
    · simp only [List.getElem?_cons_succ, List.getElem?_cons_zero, Option.some.injEq] at ho; subst ho; clear hi hl
      have s34 : (fun (vv : Value) (ww : World) => vv = .agg (bv M1).toArray) u34 wz := hd 34 (by kernel_rfl)
      simp only at s34
      obtain rfl := s34
      have s36 : (fun (vv : Value) (ww : World) => vv = .agg (bv M0).toArray) u36 wz := hd 36 (by kernel_rfl)
      simp only at s36
      obtain rfl := s36
      have s32 : (fun (vv : Value) (ww : World) => vv = .bool true) u32 wz := hd 32 (by kernel_rfl)
      simp only at s32
      obtain rfl := s32
      clear hd
      simp only [List.take_succ_cons, List.take_zero, List.drop_succ_cons, List.drop_zero, List.map_cons, List.map_nil, puts, Act.put, List.setIfInBounds_toArray, List.set_cons_succ, List.set_cons_zero]
      go_wp2_with ((((with_reducible refine' wpList_arr_neq (l := M1) (m := M0) (.tmp 100) (.tmp 102) 23 23 rfl ?_ Tryd.underlying23 Tryd.underlying5 sz_u8 (by kernel_rfl) ?_ ?_ M16.out N16.out ?_); exact rfl; exact rfl; exact rfl; simp only [Act.put, List.setIfInBounds_toArray, List.set_cons_succ, List.set_cons_zero]); rw [NE.out]))
      exact ⟨rfl, _, rfl, Below.refl _ _, rfl⟩
    · omega
  intro us wz hl hbz hS
  obtain ⟨u0, u1, u2, u3, u4, u5, u6, u7, u8, u9, u10, u11, u12, u13, u14, u15, u16, u17, u18, u19, u20, u21, u22, u23, u24, u25, u26, u27, u28, u29, u30, u31, u32, u33, u34, u35, u36, u37, rfl⟩ := len38 hl
  have s32 : (fun (vv : Value) (ww : World) => vv = .bool true) u32 wz := hS 32 (by omega)
  simp only at s32
  obtain rfl := s32
  have s37 : (fun (vv : Value) (ww : World) => vv = .bool true) u37 wz := hS 37 (by omega)
  simp only at s37
  obtain rfl := s37
  clear hS hl
  simp only [List.take_succ_cons, List.take_zero, List.drop_succ_cons, List.drop_zero, List.map_cons, List.map_nil, puts, Act.put, List.setIfInBounds_toArray, List.set_cons_succ, List.set_cons_zero]
  go_wp2_with fail
  refine onlyN ?_
  go_wp2_with fail
  go_ret
  exact ⟨rfl, hb.trans (hbz.mono hb.size)⟩
end Go.Proofs.YtajglgkjpagcjaaDoor.Wi
