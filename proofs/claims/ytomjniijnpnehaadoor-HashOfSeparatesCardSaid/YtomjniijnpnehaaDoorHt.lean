/-
  The types of the hashes: sizes, zeros, loads; the place of an array's element in a region that only reads.
-/
import Derived.Test.YtomjniijnpnehaaDoorHq
import Derived.Test.YtomjniijnpnehaaDoorHs
import Derived.Test.YtomjniijnpnehaaDoorDec
namespace Go.Proofs.YtomjniijnpnehaaDoor.Lb
open Go Go.RowKit Go.Lib
variable {P : Program} {ops : Array Oper} {a : Act} {w : World} {rest : List Oper} {o : Oper}
theorem wpQuiet_at_blk {C : World → Prop} {Q : Act → Prop} (x i : Operand) (t : TypeId) (ho : o.op = .indexAddr t x i) (hw : Region.wanted o (yielded ops a.tmps) = true) {e : TypeId} {n : Nat} (ht : P.underlying t = some (.array n e)) (hi : (P.info? e).map (·.size) = some 1)
    {B : Nat} (hx : a.eval x = .pointer (some ⟨B, 0, none⟩)) (k : Nat) (hix : IsI (a.eval i) (k : Int)) (hk : k < n)
    (h : wpQuiet P ops C Q rest (a.put o.dst (.pointer (some ⟨B, k, none⟩)))) : wpQuiet P ops C Q (o :: rest) a := by
  obtain ⟨kd, hix⟩ := isI hix
  obtain ⟨ti, hti, hsz⟩ := Option.map_eq_some_iff.1 hi
  refine wpQuiet_of_run hw (v := .pointer (some ⟨B, k, none⟩)) (fun w _ => ?_) h
  unfold execOp
  simp [ho, Instr.indexAt, hx, hix, asIntOf, run_underlying ht, sizeOf, typeInfo, hti, hsz, Instr.sureAddr, hk, Addr.add_lit]
end Go.Proofs.YtomjniijnpnehaaDoor.Lb
namespace Go.Proofs.YtomjniijnpnehaaDoor.Wi
open Go Go.RowKit Pu Lb
def uv (l : List UInt32) : List Value := l.map fun x => .int .u32 (x.toNat : Int)
theorem uv_length (l : List UInt32) : (uv l).length = l.length := by simp [uv]
theorem uv_append (l r : List UInt32) : uv (l ++ r) = uv l ++ uv r := by simp [uv]
theorem uv_get {l : List UInt32} {k : Nat} (h : k < l.length) : (uv l)[k]? = some (.int .u32 ((gw l k).toNat : Int)) := by simp [uv, gw, h]
theorem uv_one (l : List UInt32) : ∀ u ∈ uv l, u.oneCell' = true := by
  intro u hu
  obtain ⟨_, _, rfl⟩ := List.mem_map.1 hu
  rfl
theorem sz_u32 : (Tryd.prog.info? 29).map (·.size) = some 1 := by kernel_rfl
theorem ld_u32 (ad : Addr) (u : Value) (w : World) (h : w.cell? ad = some u) : (loadVar 29 ad).run Tryd.prog w = .ok u w := load_one _ _ Tryd.underlying29 rfl ad u w h
theorem sz_u64 : (Tryd.prog.info? 32).map (·.size) = some 1 := by kernel_rfl
theorem ld_u64 (ad : Addr) (u : Value) (w : World) (h : w.cell? ad = some u) : (loadVar 32 ad).run Tryd.prog w = .ok u w := load_one _ _ Tryd.underlying32 rfl ad u w h
theorem zr_w64 : (Tryd.prog.info? 54).map (·.zero) = some (some (.agg (Array.replicate 64 (.int .u32 0)))) := by kernel_rfl
theorem sz_w64 : (Tryd.prog.info? 54).map (·.size) = some 64 := by kernel_rfl
theorem zr_w8 : (Tryd.prog.info? 30).map (·.zero) = some (some (.agg (Array.replicate 8 (.int .u32 0)))) := by kernel_rfl
theorem sz_w8 : (Tryd.prog.info? 30).map (·.size) = some 8 := by kernel_rfl
theorem zr_w4 : (Tryd.prog.info? 63).map (·.zero) = some (some (.agg (Array.replicate 4 (.int .u32 0)))) := by kernel_rfl
theorem sz_w4 : (Tryd.prog.info? 63).map (·.size) = some 4 := by kernel_rfl
theorem zr_b32 : (Tryd.prog.info? 24).map (·.zero) = some (some (.agg (Array.replicate 32 (.int .u8 0)))) := by kernel_rfl
theorem sz_b32 : (Tryd.prog.info? 24).map (·.size) = some 32 := by kernel_rfl
theorem sz_stm : (Tryd.prog.info? 34).map (·.size) = some 73 := by kernel_rfl
theorem zr_stm : (Tryd.prog.info? 34).map (·.zero) = some (some (.agg (Array.replicate 8 (.int .u32 0) ++ Array.replicate 64 (.int .u8 0) ++ #[.int .u64 0]))) := by kernel_rfl
theorem zeros_u32 (n : Nat) : (Value.agg (Array.replicate n (.int .u32 0))).cells = (List.replicate n (.int .u32 0)).toArray := by simp [Value.cells]

set_option maxRecDepth 100000 in
theorem mix_any (x : UInt32) (i j k : Nat) (zi zj zk : Int) (ei : zi = (i : Int)) (ej : zj = (j : Int)) (ek : zk = (k : Int)) (hi : 0 < i ∧ i < 32) (hj : 0 < j ∧ j < 32) (hk : 0 < k ∧ k < 32) (w : World) :
    Calls Tryd.prog 37 #[.int .u32 (x.toNat : Int), .int .i64 zi, .int .i64 zj, .int .i64 zk] w fun e w' => e = .returned (.int .u32 ((rr x i ^^^ rr x j ^^^ rr x k).toNat : Int)) ∧ w' = w := by
  subst ei; subst ej; subst ek
  have hx := lt32 x
  go_enter Tryd.func37, Tryd.ntmps37
  go_wp2_with (first | (go_at_call 40; (with_reducible refine (rotl_any x i _ rfl hi.1 hi.2 _).mono ?_); rintro e w' ⟨rfl, rfl⟩) | (go_at_call 40; (with_reducible refine (rotl_any x j _ rfl hj.1 hj.2 _).mono ?_); rintro e w' ⟨rfl, rfl⟩) | (go_at_call 40; (with_reducible refine (rotl_any x k _ rfl hk.1 hk.2 _).mono ?_); rintro e w' ⟨rfl, rfl⟩))
  go_ret
  refine ⟨?_, rfl⟩
  show Ending.returned (.int .u32 (bits .xor .u32 (bits .xor .u32 ((rr x i).toNat : Int) ((rr x j).toNat : Int)) ((rr x k).toNat : Int))) = _
  rw [ux, ux]
end Go.Proofs.YtomjniijnpnehaaDoor.Wi
