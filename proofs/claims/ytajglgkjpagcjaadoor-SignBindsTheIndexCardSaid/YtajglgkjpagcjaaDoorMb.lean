/-
  Hs, Ht, Hc, Hl, Hp, Hm, Mid: my texts of these names, one behind the other. Conditions: those that each law names.
-/
import Derived.Test.YtajglgkjpagcjaaDoorMa
import Derived.Deep.DeepCutAuto
import Derived.Deep.CutBlock
import Derived.Laws.CopyRow
import Derived.BigRegion
import Derived.Deep.Quiet
namespace Go.Proofs.YtajglgkjpagcjaaDoor.Pu
open Go

/-- four bytes, the first one the highest -/
def be32 (a b c d : UInt8) : UInt32 := a.toUInt32 <<< 24 ||| b.toUInt32 <<< 16 ||| c.toUInt32 <<< 8 ||| d.toUInt32
def sg0 (x : UInt32) : UInt32 := rr x 7 ^^^ rr x 18 ^^^ x >>> 3
def sg1 (x : UInt32) : UInt32 := rr x 17 ^^^ rr x 19 ^^^ x >>> 10
def gw (l : List UInt32) (i : Nat) : UInt32 := l.getD i 0
def gb (l : List UInt8) (i : Nat) : UInt8 := l.getD i 0
def nextw (l : List UInt32) : UInt32 := gw l (l.length - 16) + sg0 (gw l (l.length - 15)) + gw l (l.length - 7) + sg1 (gw l (l.length - 2))
def growW : Nat → List UInt32 → List UInt32
  | 0, l => l
  | k + 1, l => growW k (l ++ [nextw l])
def w16 (b : List UInt8) : Nat → List UInt32
  | 0 => []
  | k + 1 => w16 b k ++ [be32 (gb b (4 * k)) (gb b (4 * k + 1)) (gb b (4 * k + 2)) (gb b (4 * k + 3))]
/-- the first t words of a block's schedule -/
def sched (b : List UInt8) (t : Nat) : List UInt32 := growW (t - 16) (w16 b (min t 16))

structure S8 where
  (a b c d e f g h : UInt32)
deriving DecidableEq

def kk : List UInt32 := [
  0x428a2f98, 0x71374491, 0xb5c0fbcf, 0xe9b5dba5, 0x3956c25b, 0x59f111f1, 0x923f82a4, 0xab1c5ed5,
  0xd807aa98, 0x12835b01, 0x243185be, 0x550c7dc3, 0x72be5d74, 0x80deb1fe, 0x9bdc06a7, 0xc19bf174,
  0xe49b69c1, 0xefbe4786, 0x0fc19dc6, 0x240ca1cc, 0x2de92c6f, 0x4a7484aa, 0x5cb0a9dc, 0x76f988da,
  0x983e5152, 0xa831c66d, 0xb00327c8, 0xbf597fc7, 0xc6e00bf3, 0xd5a79147, 0x06ca6351, 0x14292967,
  0x27b70a85, 0x2e1b2138, 0x4d2c6dfc, 0x53380d13, 0x650a7354, 0x766a0abb, 0x81c2c92e, 0x92722c85,
  0xa2bfe8a1, 0xa81a664b, 0xc24b8b70, 0xc76c51a3, 0xd192e819, 0xd6990624, 0xf40e3585, 0x106aa070,
  0x19a4c116, 0x1e376c08, 0x2748774c, 0x34b0bcb5, 0x391c0cb3, 0x4ed8aa4a, 0x5b9cca4f, 0x682e6ff3,
  0x748f82ee, 0x78a5636f, 0x84c87814, 0x8cc70208, 0x90befffa, 0xa4506ceb, 0xbef9a3f7, 0xc67178f2]
def tx (s : S8) (k w : UInt32) : UInt32 := s.h + (rr s.e 6 ^^^ rr s.e 11 ^^^ rr s.e 25) + ((s.e &&& s.f) ^^^ (~~~s.e &&& s.g)) + k + w
def ty (s : S8) : UInt32 := (rr s.a 2 ^^^ rr s.a 13 ^^^ rr s.a 22) + ((s.a &&& s.b) ^^^ (s.a &&& s.c) ^^^ (s.b &&& s.c))
def rnd (s : S8) (k w : UInt32) : S8 := ⟨tx s k w + ty s, s.a, s.b, s.c, s.d + tx s k w, s.e, s.f, s.g⟩
/-- t rounds -/
def rnds (s : S8) (w : List UInt32) : Nat → S8
  | 0 => s
  | t + 1 => rnd (rnds s w t) (gw kk t) (gw w t)
def addS (s r : S8) : S8 := ⟨s.a + r.a, s.b + r.b, s.c + r.c, s.d + r.d, s.e + r.e, s.f + r.f, s.g + r.g, s.h + r.h⟩
def comp (s : S8) (b : List UInt8) : S8 := addS s (rnds s (sched b 64) 64)
def h0 : S8 := ⟨0x6a09e667, 0xbb67ae85, 0x3c6ef372, 0xa54ff53a, 0x510e527f, 0x9b05688c, 0x1f83d9ab, 0x5be0cd19⟩
/-- k blocks -/
def comps (s : S8) (m : List UInt8) : Nat → S8
  | 0 => s
  | k + 1 => comp (comps s m k) ((m.drop (64 * k)).take 64)
def be64 (n : Nat) : List UInt8 := be n 8
def padTail (n : Nat) : List UInt8 := 128 :: (List.replicate ((119 - n % 64) % 64) 0 ++ be64 (8 * n))
def padded (m : List UInt8) : List UInt8 := m ++ padTail m.length
def outW (x : UInt32) : List UInt8 := [bt ((x >>> 24).toNat : Int), bt ((x >>> 16).toNat : Int), bt ((x >>> 8).toNat : Int), bt (x.toNat : Int)]
def outS (s : S8) : List UInt8 := [s.a, s.b, s.c, s.d, s.e, s.f, s.g, s.h].flatMap outW
def sha (m : List UInt8) : List UInt8 := outS (comps h0 (padded m) ((padded m).length / 64))
def padKey (key : List UInt8) (c : UInt8) : List UInt8 := let k := if 64 < key.length then sha key else key; (k ++ List.replicate (64 - k.length) 0).map (· ^^^ c)
def mac (key text : List UInt8) : List UInt8 := sha (padKey key 0x5c ++ sha (padKey key 0x36 ++ text))

set_option maxRecDepth 100000 in
theorem sha_abc : sha [97, 98, 99] = [186, 120, 22, 191, 143, 1, 207, 234, 65, 65, 64, 222, 93, 174, 34, 35, 176, 3, 97, 163, 150, 23, 122, 156, 180, 16, 255, 97, 242, 0, 21, 173] := by kernel_rfl
end Go.Proofs.YtajglgkjpagcjaaDoor.Pu
namespace Go.Proofs.YtajglgkjpagcjaaDoor.Lb
open Go Go.RowKit Go.Lib
variable {P : Program} {ops : Array Oper} {a : Act} {w : World} {rest : List Oper} {o : Oper}
theorem wpQuiet_at_blk {C : World → Prop} {Q : Act → Prop} (x i : Operand) (t : TypeId) (ho : o.op = .indexAddr t x i) (hw : Region.wanted o (yielded ops a.tmps) = true) {e : TypeId} {n : Nat} (ht : P.underlying t = some (.array n e)) (hi : (P.info? e).map (·.size) = some 1)
    {B : Nat} (hx : a.eval x = .pointer (some ⟨B, 0, none⟩)) (k : Nat) (hix : IsI (a.eval i) (k : Int)) (hk : k < n)
    (h : wpQuiet P ops C Q rest (a.put o.dst (.pointer (some ⟨B, k, none⟩)))) : wpQuiet P ops C Q (o :: rest) a := by
  obtain ⟨kd, hix⟩ := isI hix
  obtain ⟨ti, hti, hsz⟩ := Option.map_eq_some_iff.1 hi
  refine wpQuiet_of_run hw (v := .pointer (some ⟨B, k, none⟩)) (fun w _ => ?_) h
  unfold execOp
  simp [ho, Instr.indexAt, hx, hix, asIntOf, run_underlying ht, sizeOf, typeInfo, hti, hsz, Instr.sureAddr, hk, Addr.add_lit]
end Go.Proofs.YtajglgkjpagcjaaDoor.Lb
namespace Go.Proofs.YtajglgkjpagcjaaDoor.Wi
open Go Go.RowKit Pu Lb
def uv (l : List UInt32) : List Value := l.map fun x => .int .u32 (x.toNat : Int)
theorem uv_length (l : List UInt32) : (uv l).length = l.length := by simp [uv]
theorem uv_append (l r : List UInt32) : uv (l ++ r) = uv l ++ uv r := by simp [uv]
theorem uv_get {l : List UInt32} {k : Nat} (h : k < l.length) : (uv l)[k]? = some (.int .u32 ((gw l k).toNat : Int)) := by simp [uv, gw, h]
theorem uv_one (l : List UInt32) : ∀ u ∈ uv l, u.oneCell' = true := by
  intro u hu
  obtain ⟨_, _, rfl⟩ := List.mem_map.1 hu
  rfl
theorem sz_u32 : (Tryd.prog.info? 81).map (·.size) = some 1 := by kernel_rfl
theorem ld_u32 (ad : Addr) (u : Value) (w : World) (h : w.cell? ad = some u) : (loadVar 81 ad).run Tryd.prog w = .ok u w := load_one _ _ Tryd.underlying81 rfl ad u w h
theorem sz_u64 : (Tryd.prog.info? 76).map (·.size) = some 1 := by kernel_rfl
theorem ld_u64 (ad : Addr) (u : Value) (w : World) (h : w.cell? ad = some u) : (loadVar 76 ad).run Tryd.prog w = .ok u w := load_one _ _ Tryd.underlying76 rfl ad u w h
theorem zr_w64 : (Tryd.prog.info? 103).map (·.zero) = some (some (.agg (Array.replicate 64 (.int .u32 0)))) := by kernel_rfl
theorem sz_w64 : (Tryd.prog.info? 103).map (·.size) = some 64 := by kernel_rfl
theorem zr_w8 : (Tryd.prog.info? 82).map (·.zero) = some (some (.agg (Array.replicate 8 (.int .u32 0)))) := by kernel_rfl
theorem sz_w8 : (Tryd.prog.info? 82).map (·.size) = some 8 := by kernel_rfl
theorem zr_w4 : (Tryd.prog.info? 106).map (·.zero) = some (some (.agg (Array.replicate 4 (.int .u32 0)))) := by kernel_rfl
theorem sz_w4 : (Tryd.prog.info? 106).map (·.size) = some 4 := by kernel_rfl
theorem zr_b32 : (Tryd.prog.info? 89).map (·.zero) = some (some (.agg (Array.replicate 32 (.int .u8 0)))) := by kernel_rfl
theorem sz_b32 : (Tryd.prog.info? 89).map (·.size) = some 32 := by kernel_rfl
theorem sz_stm : (Tryd.prog.info? 85).map (·.size) = some 73 := by kernel_rfl
theorem zr_stm : (Tryd.prog.info? 85).map (·.zero) = some (some (.agg (Array.replicate 8 (.int .u32 0) ++ Array.replicate 64 (.int .u8 0) ++ #[.int .u64 0]))) := by kernel_rfl
theorem zeros_u32 (n : Nat) : (Value.agg (Array.replicate n (.int .u32 0))).cells = (List.replicate n (.int .u32 0)).toArray := by simp [Value.cells]

set_option maxRecDepth 100000 in
theorem mix_any (x : UInt32) (i j k : Nat) (zi zj zk : Int) (ei : zi = (i : Int)) (ej : zj = (j : Int)) (ek : zk = (k : Int)) (hi : 0 < i ∧ i < 32) (hj : 0 < j ∧ j < 32) (hk : 0 < k ∧ k < 32) (w : World) :
    Calls Tryd.prog 73 #[.int .u32 (x.toNat : Int), .int .i64 zi, .int .i64 zj, .int .i64 zk] w fun e w' => e = .returned (.int .u32 ((rr x i ^^^ rr x j ^^^ rr x k).toNat : Int)) ∧ w' = w := by
  subst ei; subst ej; subst ek
  have hx := lt32 x
  go_enter Tryd.func73, Tryd.ntmps73
  go_wp2_with (first | (go_at_call 74; (with_reducible refine (rotl_any x i _ rfl hi.1 hi.2 _).mono ?_); rintro e w' ⟨rfl, rfl⟩) | (go_at_call 74; (with_reducible refine (rotl_any x j _ rfl hj.1 hj.2 _).mono ?_); rintro e w' ⟨rfl, rfl⟩) | (go_at_call 74; (with_reducible refine (rotl_any x k _ rfl hk.1 hk.2 _).mono ?_); rintro e w' ⟨rfl, rfl⟩))
  go_ret
  refine ⟨?_, rfl⟩
  show Ending.returned (.int .u32 (bits .xor .u32 (bits .xor .u32 ((rr x i).toNat : Int) ((rr x j).toNat : Int)) ((rr x k).toNat : Int))) = _
  rw [ux, ux]
end Go.Proofs.YtajglgkjpagcjaaDoor.Wi
namespace Go.Proofs.YtajglgkjpagcjaaDoor.Pu
open Go
theorem growW_step : ∀ (k : Nat) (l : List UInt32), growW (k + 1) l = growW k l ++ [nextw (growW k l)]
  | 0, _ => rfl
  | k + 1, l => by
    have := growW_step k (l ++ [nextw l])
    exact this
theorem growW_len : ∀ (k : Nat) (l : List UInt32), (growW k l).length = l.length + k
  | 0, _ => rfl
  | k + 1, l => by
    have := growW_len k (l ++ [nextw l])
    rw [growW, this, List.length_append]; simp; omega
theorem w16_len (b : List UInt8) : ∀ k, (w16 b k).length = k
  | 0 => rfl
  | k + 1 => by rw [w16, List.length_append, w16_len]; rfl
theorem sched_len (b : List UInt8) (t : Nat) : (sched b t).length = t := by
  unfold sched
  rw [growW_len, w16_len]; omega
theorem sched_zero (b : List UInt8) : sched b 0 = [] := rfl
theorem sched_low (b : List UInt8) {t : Nat} (h : t < 16) : sched b (t + 1) = sched b t ++ [be32 (gb b (4 * t)) (gb b (4 * t + 1)) (gb b (4 * t + 2)) (gb b (4 * t + 3))] := by
  unfold sched
  rw [show t + 1 - 16 = 0 by omega, show t - 16 = 0 by omega, Nat.min_eq_left (by omega : t + 1 ≤ 16), Nat.min_eq_left (by omega : t ≤ 16)]
  rfl
theorem sched_high (b : List UInt8) {t : Nat} (h : 16 ≤ t) : sched b (t + 1) = sched b t ++ [nextw (sched b t)] := by
  unfold sched
  rw [show t + 1 - 16 = (t - 16) + 1 by omega, Nat.min_eq_right (by omega : 16 ≤ t + 1), Nat.min_eq_right h, growW_step]
/-- byte by byte -/
def acc32 (b : List UInt8) (t : Nat) : Nat → UInt32
  | 0 => 0
  | j + 1 => acc32 b t j <<< 8 ||| (gb b (4 * t + j)).toUInt32
theorem shl_shl (x : UInt32) (i j : Nat) (h : i + j < 32) : (x <<< UInt32.ofNat i) <<< UInt32.ofNat j = x <<< UInt32.ofNat (i + j) := by
  apply UInt32.toNat_inj.1
  rw [UInt32.toNat_shiftLeft, UInt32.toNat_shiftLeft, UInt32.toNat_shiftLeft, ofn (by omega), ofn (by omega), ofn (by omega), Nat.mod_eq_of_lt (by omega : i < 32), Nat.mod_eq_of_lt (by omega : j < 32), Nat.mod_eq_of_lt h]
  simp only [Nat.shiftLeft_eq]
  rw [Nat.mod_mul_mod, Nat.mul_assoc, ← Nat.pow_add]
theorem or_shl (x y z : UInt32) : (x ||| y) <<< z = x <<< z ||| y <<< z := by
  apply UInt32.toBitVec_inj.1
  rw [UInt32.toBitVec_or, UInt32.toBitVec_shiftLeft, UInt32.toBitVec_shiftLeft, UInt32.toBitVec_shiftLeft, UInt32.toBitVec_or]
  exact BitVec.shiftLeft_or_distrib _ _ _
theorem acc_be (b : List UInt8) (t : Nat) : acc32 b t 4 = be32 (gb b (4 * t)) (gb b (4 * t + 1)) (gb b (4 * t + 2)) (gb b (4 * t + 3)) := by
  simp only [acc32, be32, Nat.add_zero]
  have h8 : ∀ x : UInt32, (x <<< 8) <<< 8 = x <<< 16 := fun x => shl_shl x 8 8 (by omega)
  have h16 : ∀ x : UInt32, (x <<< 16) <<< 8 = x <<< 24 := fun x => shl_shl x 16 8 (by omega)
  have h0 : (0 : UInt32) <<< 8 = 0 := by decide
  simp only [h0, UInt32.zero_or, or_shl, h8, h16]
end Go.Proofs.YtajglgkjpagcjaaDoor.Pu
namespace Go.Proofs.YtajglgkjpagcjaaDoor.Wi
open Go Go.RowKit Pu Lb

/-- the block of the words so far -/
def wcells (l : List UInt32) : List Value := uv l ++ List.replicate (64 - l.length) (.int .u32 0)
theorem wcells_len {l : List UInt32} (h : l.length ≤ 64) : (wcells l).length = 64 := by
  unfold wcells
  rw [List.length_append, uv_length, List.length_replicate]; omega
theorem wcells_get {l : List UInt32} {k : Nat} (h : k < l.length) : (wcells l)[k]? = some (.int .u32 ((gw l k).toNat : Int)) := by
  unfold wcells
  rw [List.getElem?_append_left (by rw [uv_length]; exact h), uv_get h]
theorem wcells_top {l : List UInt32} (h : l.length < 64) : (wcells l)[l.length]? = some (.int .u32 0) := by
  unfold wcells
  rw [List.getElem?_append_right (by rw [uv_length]; exact Nat.le_refl _), uv_length, Nat.sub_self, List.getElem?_replicate, if_pos (by omega)]
theorem wcells_set {l : List UInt32} {x : UInt32} (h : l.length < 64) : (wcells l).set l.length (.int .u32 (x.toNat : Int)) = wcells (l ++ [x]) := by
  unfold wcells
  have := fill_step (pre := uv l) (n := 64) (q := l.length) (uv_length l) h (.int .u32 0) (.int .u32 (x.toNat : Int))
  rw [this, uv_append, List.length_append]
  rfl

theorem wcells_zero {l : List UInt32} (h : l.length < 64) : wcells (l ++ [0]) = wcells l := by
  unfold wcells
  rw [uv_append, List.length_append, List.append_assoc, show 64 - l.length = (64 - (l.length + 1)) + 1 by omega, List.replicate_succ]
  rfl
theorem gw_top (l : List UInt32) (x : UInt32) : gw (l ++ [x]) l.length = x := by simp [gw]
theorem wcells_reset {l : List UInt32} {x y : UInt32} (h : l.length < 64) : (wcells (l ++ [x])).set l.length (.int .u32 (y.toNat : Int)) = wcells (l ++ [y]) := by
  rw [← wcells_set h, List.set_set, wcells_set h]
theorem wcells_one (l : List UInt32) : ∀ u ∈ wcells l, u.oneCell' = true := by
  intro u hu
  rcases List.mem_append.1 hu with h | h
  · exact uv_one l u h
  · rw [List.eq_of_mem_replicate h]; rfl
theorem wcells_full {l : List UInt32} (h : l.length = 64) : wcells l = uv l := by
  unfold wcells
  rw [h, Nat.sub_self]; simp
theorem part_get {b : List UInt8} {t j n : Nat} (hj : j < n) (h : t + n ≤ b.length) : (bv ((b.drop t).take n))[j]? = some (.int .u8 ((gb b (t + j)).toNat : Int)) := by
  have h1 : ((b.drop t).take n)[j]? = some (gb b (t + j)) := by
    rw [List.getElem?_take, if_pos hj, List.getElem?_drop]
    simp [gb, List.getD_eq_getElem?_getD, show t + j < b.length by omega]
  exact bv_at h1
theorem sg0_eq (x : UInt32) : bits .xor .u32 (bits .xor .u32 ((rr x 7).toNat : Int) ((rr x 18).toNat : Int)) ((x.toNat : Int) / 8) = ((sg0 x).toNat : Int) := by
  have h := us x 3 (by omega)
  rw [show (8 : Int) = 2 ^ 3 from rfl, h, ux, ux]
  rfl
theorem sg1_eq (x : UInt32) : bits .xor .u32 (bits .xor .u32 ((rr x 17).toNat : Int) ((rr x 19).toNat : Int)) ((x.toNat : Int) / 1024) = ((sg1 x).toNat : Int) := by
  have h := us x 10 (by omega)
  rw [show (1024 : Int) = 2 ^ 10 from rfl, h, ux, ux]
  rfl
theorem up4 (a b c d : UInt32) : ((a.toNat : Int) + (b.toNat : Int) + (c.toNat : Int) + (d.toNat : Int)) % 4294967296 = ((a + b + c + d).toNat : Int) := by
  rw [← up, ← up, ← up]; omega
theorem acc_step (b : List UInt8) (t j : Nat) : bits .or .u32 ((acc32 b t j).toNat * 256 % 4294967296 : Int) ((gb b (4 * t + j)).toNat : Int) = ((acc32 b t (j + 1)).toNat : Int) := by
  have h1 := ul (acc32 b t j) 8 (by omega)
  rw [show (256 : Int) = 2 ^ 8 from rfl, h1, show ((gb b (4 * t + j)).toNat : Int) = ((gb b (4 * t + j)).toUInt32.toNat : Int) by rw [UInt8.toNat_toUInt32], uo]
  rfl

set_option maxRecDepth 100000 in
set_option maxHeartbeats 1600000 in
theorem schedule_any (v : Value) (b : List UInt8) (w : World) (hv : Rd w 1 v 64 (bv b)) :
    Calls Tryd.prog 72 #[v] w fun e w' => e = .returned (.agg (uv (sched b 64)).toArray) ∧ Below w.heap.size w w' := by
  have hl : b.length = 64 := by have := hv.1; rw [bv_length] at this; omega
  have HL := Lib.hid hl; clear hl
  go_enter Tryd.func72, Tryd.ntmps72
  go_upto_region 1 with (((with_reducible refine' wpList_alloc_blk (cs := List.replicate 64 (.int .u32 0)) 103 rfl ?_ zr_w64 ?_ ?_); exact rfl; exact zeros_u32 64; intro w1 hkA hN1 hz1; simp only [Act.put, List.setIfInBounds_toArray, List.set_cons_succ, List.set_cons_zero]))
  go_wp2_with (((with_reducible refine' wpList_alloc_blk (cs := List.replicate 64 (.int .u32 0)) 103 rfl ?_ zr_w64 ?_ ?_); exact rfl; exact zeros_u32 64; intro w2 hkB hN2 hz2; simp only [Act.put, List.setIfInBounds_toArray, List.set_cons_succ, List.set_cons_zero]))
  have hb := hN1.trans (hN2.mono hN1.size)
  replace hkA := hkA.below hN2 (by omega)
  have hlt1 : w.heap.size < w1.heap.size := by omega
  clear hz1 hz2
  go_loopw [11] (fun i wr => ∃ t : Nat, t ≤ 64 ∧ i = .int .i64 t ∧ Blk wr w1.heap.size 103 (wcells (sched b t)) ∧ Blk wr w.heap.size 103 (List.replicate 64 (.int .u32 0)) ∧ Below w.heap.size w wr) (fun i _ => 64 - (intOf i).toNat)
  case atStart => exact ⟨0, by omega, rfl, hkB, hkA, hb⟩
  case round =>
    obtain ⟨t, ht, rfl, hkW, hkR, hbl⟩ := hrel
    have hsl := sched_len b t
    have hwl := wcells_len (l := sched b t) (by omega)
    by_cases hlt : t < 64
    · obtain ⟨wo, rfl⟩ : ∃ wo : World, wo = wr := ⟨_, rfl⟩
      have hset : ∀ x : UInt32, (wcells (sched b t)).set t (.int .u32 (x.toNat : Int)) = wcells (sched b t ++ [x]) := fun x => by
        have := wcells_set (l := sched b t) (x := x) (by omega)
        rwa [hsl] at this
      have HSET := Lib.hid hset
      have HSL := Lib.hid hsl
      have HK := Lib.hid hkW
      clear hset hsl hkW
      go_upto_block 1 with fail
      go_cut [] (fun w' => Blk w' w1.heap.size 103 (wcells (sched b (t + 1))) ∧ Blk w' w.heap.size 103 (List.replicate 64 (.int .u32 0)) ∧ Below w.heap.size w w')
      case first =>
        by_cases h16 : t < 16
        · go_wp2_with (first | (((with_reducible refine' wpList_cut_b (.tmp 16) (.tmp 18) (.tmp 21) 52 rfl ?_ Tryd.underlying52 sz_u8 ?_ hv (4 * t) (4 * t + 4) ?_ ?_ ?_ ?_ ?_); exact rfl; exact rfl; (show (_ : Int) = _; omega); (show (_ : Int) = _; omega); omega; omega; intro v1 r1; simp only [Act.put, List.setIfInBounds_toArray, List.set_cons_succ, List.set_cons_zero]); rw [show 4 * t + 4 - 4 * t = 4 by omega] at r1) | ((with_reducible refine' wpList_len_rd (.tmp 22) 52 rfl ?_ Tryd.underlying52 ?_ r1 ?_); exact rfl; exact rfl; simp only [Act.put, List.setIfInBounds_toArray, List.set_cons_succ, List.set_cons_zero]))
          go_loopw [24] (fun i wr => ∃ j : Nat, j ≤ 4 ∧ i = .int .i64 j ∧ Blk wr w1.heap.size 103 (wcells (sched b t ++ [acc32 b t j])) ∧ Blk wr w.heap.size 103 (List.replicate 64 (.int .u32 0)) ∧ Below w.heap.size w wr) (fun i _ => 4 - (intOf i).toNat)
          case atStart => exact ⟨0, by omega, rfl, by rw [acc32, wcells_zero (by rw [HSL.out]; exact hlt)]; exact HK.out, hkR, hbl⟩
          case round =>
            obtain ⟨j, hj, rfl, hkj, hkR2, hbj⟩ := hrel
            have HJ := Lib.hid hkj
            clear hkj
            have rj := r1.below hbj
            by_cases hj4 : j < 4
            · have hc := part_get (b := b) (t := 4 * t) (n := 4) hj4 (by rw [HL.out]; omega)
              have hlen : t < (wcells (sched b t ++ [acc32 b t j])).length := by rw [wcells_len (by rw [List.length_append, HSL.out]; simp; omega)]; exact hlt
              have hw := wcells_get (l := sched b t ++ [acc32 b t j]) (k := t) (by rw [List.length_append, HSL.out]; simp)
              have ht2 := gw_top (sched b t) (acc32 b t j)
              rw [HSL.out] at ht2
              rw [ht2] at hw
              have hre := wcells_reset (l := sched b t) (x := acc32 b t j) (y := acc32 b t (j + 1)) (by rw [HSL.out]; exact hlt)
              rw [HSL.out, ← acc_step] at hre
              have hax := lt32 (acc32 b t j)
              have hby := u8_lt (gb b (4 * t + j))
              have C := Lib.hid hc
              have W := Lib.hid hw
              have RE := Lib.hid hre
              clear hc hw ht2 hre
              go_wp2_with (first | ((with_reducible refine' wpList_at1_rd (.tmp 22) (.tmp 24) 52 rfl ?_ Tryd.underlying52 sz_u8 ?_ r1 (j) ?_ ?_ ?_); exact rfl; exact rfl; (show (_ : Int) = _; omega); omega; simp only [Act.put, List.setIfInBounds_toArray, List.set_cons_succ, List.set_cons_zero]) | ((with_reducible refine' wpList_load_rd (.tmp 26) 5 rfl ?_ ld_u8 ?_ rj (C.out) ?_); exact rfl; exact rfl; simp only [Act.put, List.setIfInBounds_toArray, List.set_cons_succ, List.set_cons_zero]) | ((with_reducible refine' wpList_at_blk (.tmp 3) (.tmp 29) 103 rfl ?_ Tryd.underlying103 sz_u32 ?_ (t) ?_ ?_ ?_); exact rfl; exact rfl; (show (_ : Int) = _; omega); omega; simp only [Act.put, List.setIfInBounds_toArray, List.set_cons_succ, List.set_cons_zero]) | ((with_reducible refine' wpList_load_blk (.tmp 30) 81 rfl ?_ ld_u32 ?_ HJ.out (W.out) ?_); exact rfl; exact rfl; simp only [Act.put, List.setIfInBounds_toArray, List.set_cons_succ, List.set_cons_zero]) | ((with_reducible refine' wpList_at_blk (.tmp 3) (.tmp 28) 103 rfl ?_ Tryd.underlying103 sz_u32 ?_ (t) ?_ ?_ ?_); exact rfl; exact rfl; (show (_ : Int) = _; omega); omega; simp only [Act.put, List.setIfInBounds_toArray, List.set_cons_succ, List.set_cons_zero]) | (((with_reducible refine' wpList_set_blk (u := .int .u32 (bits .or .u32 ((acc32 b t j).toNat * 256 % 4294967296) ((gb b (4 * t + j)).toNat : Int))) 81 (.tmp 36) (.tmp 35) rfl ?_ sz_u32 ?_ ?_ HJ.out (hlen) ?_ ?_); exact rfl; exact rfl; exact rfl; exact rfl; intro w4 hk4 hq4 hz4; simp only [Act.put]); rw [RE.out] at hk4; have HK4 := Lib.hid hk4; clear hk4; have hb4 := hbj.trans (hq4.below (by omega) hbj.size); have hkR4 := hq4.blk hkR2 (by omega)))
              go_roundw
              case rel => exact ⟨j + 1, by omega, by go_num, HK4.out, hkR4, hb4⟩
              case measure => simp [intOf]; omega
            · obtain rfl : j = 4 := by omega
              go_wp2_with fail
              go_meet
              case rel =>
                have h := HJ.out
                rw [acc_be, ← sched_low b h16] at h
                exact ⟨h, hkR2, hbj⟩
        · have hW1 := wcells_get (l := sched b t) (k := t - 15) (by rw [HSL.out]; omega)
          have hW2 := wcells_get (l := sched b t) (k := t - 2) (by rw [HSL.out]; omega)
          have hW3 := wcells_get (l := sched b t) (k := t - 16) (by rw [HSL.out]; omega)
          have hW4 := wcells_get (l := sched b t) (k := t - 7) (by rw [HSL.out]; omega)
          obtain ⟨x1, hx1⟩ : ∃ x, gw (sched b t) (t - 15) = x := ⟨_, rfl⟩
          obtain ⟨x2, hx2⟩ : ∃ x, gw (sched b t) (t - 2) = x := ⟨_, rfl⟩
          obtain ⟨x3, hx3⟩ : ∃ x, gw (sched b t) (t - 16) = x := ⟨_, rfl⟩
          obtain ⟨x4, hx4⟩ : ∃ x, gw (sched b t) (t - 7) = x := ⟨_, rfl⟩
          rw [hx1] at hW1; rw [hx2] at hW2; rw [hx3] at hW3; rw [hx4] at hW4
          have W1 := Lib.hid hW1; have W2 := Lib.hid hW2; have W3 := Lib.hid hW3; have W4 := Lib.hid hW4
          have X1 := Lib.hid hx1; have X2 := Lib.hid hx2; have X3 := Lib.hid hx3; have X4 := Lib.hid hx4
          clear hW1 hW2 hW3 hW4 hx1 hx2 hx3 hx4
          have hlen : t < (wcells (sched b t)).length := by rw [hwl]; exact hlt
          have e9 := sg0_eq x1; have e10 := sg1_eq x2
          obtain ⟨g0, hg0⟩ : ∃ x, sg0 x1 = x := ⟨_, rfl⟩
          obtain ⟨g1, hg1⟩ : ∃ x, sg1 x2 = x := ⟨_, rfl⟩
          rw [hg0] at e9; rw [hg1] at e10
          have G0 := Lib.hid hg0; have G1 := Lib.hid hg1
          clear hg0 hg1
          have hb5 := lt32 g0; have hb6 := lt32 g1
          have hb1 := lt32 x1; have hb2 := lt32 x2; have hb3 := lt32 x3; have hb4 := lt32 x4
          go_wp2_with (first
            | (refine wp_region_quiet_lit (by kernel_rfl) (by kernel_rfl) ?_; (repeat (first | ((with_reducible refine' wpQuiet_at_blk (.tmp 3) (.tmp 39) 103 rfl ?_ Tryd.underlying103 sz_u32 ?_ (t - 15) ?_ ?_ ?_); exact rfl; exact rfl; (show (_ : Int) = _; omega); omega; simp only [Act.put, List.setIfInBounds_toArray, List.set_cons_succ, List.set_cons_zero]) | ((with_reducible refine' wpQuiet_load_blk (fun _ h => h) (.tmp 40) 81 rfl ?_ ld_u32 ?_ HK.out (W1.out) ?_); exact rfl; exact rfl; simp only [Act.put, List.setIfInBounds_toArray, List.set_cons_succ, List.set_cons_zero]) | ((with_reducible refine' wpQuiet_at_blk (.tmp 3) (.tmp 43) 103 rfl ?_ Tryd.underlying103 sz_u32 ?_ (t - 2) ?_ ?_ ?_); exact rfl; exact rfl; (show (_ : Int) = _; omega); omega; simp only [Act.put, List.setIfInBounds_toArray, List.set_cons_succ, List.set_cons_zero]) | ((with_reducible refine' wpQuiet_load_blk (fun _ h => h) (.tmp 44) 81 rfl ?_ ld_u32 ?_ HK.out (W2.out) ?_); exact rfl; exact rfl; simp only [Act.put, List.setIfInBounds_toArray, List.set_cons_succ, List.set_cons_zero]) | go_big_quiet_step (fail))); refine wpQuiet_nil ?_; intro _ hw'; obtain ⟨nq, hw''⟩ := hw'; subst hw'')
            | (go_at_call 74; (with_reducible refine (rotl_any x1 7 (-7) rfl (by omega) (by omega) _).mono ?_); rintro e w' ⟨rfl, rfl⟩)
            | (go_at_call 74; (with_reducible refine (rotl_any x1 18 (-18) rfl (by omega) (by omega) _).mono ?_); rintro e w' ⟨rfl, rfl⟩)
            | (go_at_call 74; (with_reducible refine (rotl_any x2 17 (-17) rfl (by omega) (by omega) _).mono ?_); rintro e w' ⟨rfl, rfl⟩)
            | (go_at_call 74; (with_reducible refine (rotl_any x2 19 (-19) rfl (by omega) (by omega) _).mono ?_); rintro e w' ⟨rfl, rfl⟩))
          (refine wp_region_tail 15 (by kernel_rfl) (by kernel_rfl) ?_; simp only [List.take_succ_cons, List.take_zero, List.drop_succ_cons, List.drop_zero]; (repeat (first | ((with_reducible refine' wpQuiet_at_blk (.tmp 3) (.tmp 64) 103 rfl ?_ Tryd.underlying103 sz_u32 ?_ (t - 16) ?_ ?_ ?_); exact rfl; exact rfl; (show (_ : Int) = _; omega); omega; simp only [Act.put, List.setIfInBounds_toArray, List.set_cons_succ, List.set_cons_zero]) | ((with_reducible refine' wpQuiet_load_blk still_drew (.tmp 65) 81 rfl ?_ ld_u32 ?_ (Blk.drewN HK.out nq) (W3.out) ?_); exact rfl; exact rfl; simp only [Act.put, List.setIfInBounds_toArray, List.set_cons_succ, List.set_cons_zero]) | ((with_reducible refine' wpQuiet_at_blk (.tmp 3) (.tmp 70) 103 rfl ?_ Tryd.underlying103 sz_u32 ?_ (t - 7) ?_ ?_ ?_); exact rfl; exact rfl; (show (_ : Int) = _; omega); omega; simp only [Act.put, List.setIfInBounds_toArray, List.set_cons_succ, List.set_cons_zero]) | ((with_reducible refine' wpQuiet_load_blk still_drew (.tmp 71) 81 rfl ?_ ld_u32 ?_ (Blk.drewN HK.out nq) (W4.out) ?_); exact rfl; exact rfl; simp only [Act.put, List.setIfInBounds_toArray, List.set_cons_succ, List.set_cons_zero]) | ((with_reducible refine' wpQuiet_at_blk (.tmp 3) (.tmp 62) 103 rfl ?_ Tryd.underlying103 sz_u32 ?_ (t) ?_ ?_ ?_); exact rfl; exact rfl; (show (_ : Int) = _; omega); omega; simp only [Act.put, List.setIfInBounds_toArray, List.set_cons_succ, List.set_cons_zero]) | go_big_quiet_step (fail))); refine wpQuiet_nil ?_; show wpList _ _ _ _ _ _)
          (with_reducible refine' wpList_set_blk 81 (.tmp 76) (.tmp 75) rfl ?_ sz_u32 ?_ rfl (Blk.drew (Blk.drewN HK.out nq)) hlen ?_ ?_); exact rfl; exact rfl; exact rfl; intro w4 hk4 hq4 hz4
          simp [Act.eval] at hk4
          go_wp2
          go_meet
          case rel =>
            refine ⟨?_, hq4.blk hkR (by omega), (below_drew (below_drewN hbl nq)).trans (hq4.below (by omega) hbl.size)⟩
            have hn : nextw (sched b t) = x3 + g0 + x4 + g1 := by
              unfold nextw
              rw [HSL.out, X1.out, X2.out, X3.out, X4.out, G0.out, G1.out]
            rw [up4, HSET.out] at hk4
            rw [sched_high b (by omega), hn]
            exact hk4
      case rest =>
        obtain ⟨hk3, hk4, hb3⟩ := hcut
        have HK3 := Lib.hid hk3
        clear hk3
        go_wp2_with fail
        go_roundw
        case rel => exact ⟨t + 1, by omega, by go_num, HK3.out, hk4, hb3⟩
        case measure => simp [intOf]; omega
    · obtain rfl : t = 64 := by omega
      go_wp2_with (first | ((with_reducible refine' wpList_loadall_blk (.tmp 3) 103 rfl ?_ Tryd.underlying103 sz_w64 ?_ hkW ?_ ?_ ?_); exact rfl; exact rfl; exact hwl; omega; simp only [Act.put, List.setIfInBounds_toArray, List.set_cons_succ, List.set_cons_zero]) | ((with_reducible refine' wpList_store_blk (cs := (wcells (sched b 64))) 103 (.tmp 2) (.tmp 78) rfl ?_ ?_ ?_ hkR sz_w64 ?_ ?_ ?_ ?_); exact rfl; exact rfl; exact rfl; exact hwl; simp; exact wcells_one _; intro w3 hk3 hO3 hz3; simp only [Act.put]))
      rw [wcells_full hsl] at hk3
      ((try simp only [Exit.inBlock, Exit.then]); refine bodyPost_ret (results_cell_row rfl _ _ _ _ _ _ _ rfl hk3 Tryd.underlying103 rfl (by rw [sz_w64]; simp [uv_length, hsl])) rfl ?_)
      exact ⟨rfl, hbl.trans (hO3.below (Nat.le_refl _) hbl.size)⟩
end Go.Proofs.YtajglgkjpagcjaaDoor.Wi
namespace Go.Proofs.YtajglgkjpagcjaaDoor.Lb
open Go Go.RowKit Go.Lib

section
variable {P : Program} {ops : Array Oper} {Q : Exit → Act → World → Prop} {C : World → Prop} {R : Act → Prop} {a : Act} {w : World} {rest : List Oper} {o : Oper}

/-! ### slices over an array variable -/
theorem run_arr_from (x lo : Operand) (t : TypeId) (ho : o.op = .slice t x (some lo) none none) {e : TypeId} {n : Nat} (ht : P.underlying t = some (.array n e)) (hi : (P.info? e).map (·.size) = some 1)
    {B f : Nat} (hx : a.eval x = .pointer (some ⟨B, f, none⟩)) (L : Nat) (hlo : IsI (a.eval lo) (L : Int)) (hL : L < n) (w : World) :
    (execOp a.eval o).run P w = .ok (.value (.slice (some ⟨B, f + L, none⟩) (n - L) (n - L))) w := by
  obtain ⟨kl, hlo⟩ := isI hlo
  obtain ⟨ti, hti, hsz⟩ := Option.map_eq_some_iff.1 hi
  have h1 : L ≤ n := by omega
  have h2 : ¬ n = L := by omega
  unfold execOp
  simp [ho, Instr.sliceAt, hx, hlo, Instr.sureAddr, run_underlying ht, Instr.sliceBounds, Instr.sliceBound, asIntOf, sizeOf, typeInfo, hti, hsz, h1, h2, Addr.add_lit]
theorem run_arr_to (x hi : Operand) (t : TypeId) (ho : o.op = .slice t x none (some hi) none) {e : TypeId} {n : Nat} (ht : P.underlying t = some (.array n e)) (hsz : (P.info? e).map (·.size) = some 1)
    {B f : Nat} (hx : a.eval x = .pointer (some ⟨B, f, none⟩)) (H : Nat) (hhi : IsI (a.eval hi) (H : Int)) (hH : H ≤ n) (w : World) :
    (execOp a.eval o).run P w = .ok (.value (.slice (some ⟨B, f, none⟩) H n)) w := by
  obtain ⟨kl, hhi⟩ := isI hhi
  obtain ⟨ti, hti, _⟩ := Option.map_eq_some_iff.1 hsz
  unfold execOp
  simp [ho, Instr.sliceAt, hx, hhi, Instr.sureAddr, run_underlying ht, Instr.sliceBounds, Instr.sliceBound, asIntOf, sizeOf, typeInfo, hti, hH, Addr.add_lit]
theorem run_arr_all (x : Operand) (t : TypeId) (ho : o.op = .slice t x none none none) {e : TypeId} {n : Nat} (ht : P.underlying t = some (.array n e)) (hi : (P.info? e).map (·.size) = some 1)
    {B f : Nat} (hx : a.eval x = .pointer (some ⟨B, f, none⟩)) (w : World) :
    (execOp a.eval o).run P w = .ok (.value (.slice (some ⟨B, f, none⟩) n n)) w := by
  obtain ⟨ti, hti, hsz⟩ := Option.map_eq_some_iff.1 hi
  unfold execOp
  simp [ho, Instr.sliceAt, hx, Instr.sureAddr, run_underlying ht, Instr.sliceBounds, sizeOf, typeInfo, hti, Addr.add_lit]
theorem wpList_arr_from (x lo : Operand) (t : TypeId) (ho : o.op = .slice t x (some lo) none none) (hw : Region.wanted o (yielded ops a.tmps) = true) {e : TypeId} {n : Nat} (ht : P.underlying t = some (.array n e)) (hi : (P.info? e).map (·.size) = some 1)
    {B f : Nat} (hx : a.eval x = .pointer (some ⟨B, f, none⟩)) (L : Nat) (hlo : IsI (a.eval lo) (L : Int)) (hL : L < n)
    (h : wpList P ops Q rest (a.put o.dst (.slice (some ⟨B, f + L, none⟩) (n - L) (n - L))) w) : wpList P ops Q (o :: rest) a w := wpList_of_run hw (run_arr_from x lo t ho ht hi hx L hlo hL w) h
theorem wpQuiet_arr_from (x lo : Operand) (t : TypeId) (ho : o.op = .slice t x (some lo) none none) (hw : Region.wanted o (yielded ops a.tmps) = true) {e : TypeId} {n : Nat} (ht : P.underlying t = some (.array n e)) (hi : (P.info? e).map (·.size) = some 1)
    {B f : Nat} (hx : a.eval x = .pointer (some ⟨B, f, none⟩)) (L : Nat) (hlo : IsI (a.eval lo) (L : Int)) (hL : L < n)
    (h : wpQuiet P ops C R rest (a.put o.dst (.slice (some ⟨B, f + L, none⟩) (n - L) (n - L)))) : wpQuiet P ops C R (o :: rest) a := wpQuiet_of_run hw (fun w _ => run_arr_from x lo t ho ht hi hx L hlo hL w) h
theorem wpList_arr_to (x hi : Operand) (t : TypeId) (ho : o.op = .slice t x none (some hi) none) (hw : Region.wanted o (yielded ops a.tmps) = true) {e : TypeId} {n : Nat} (ht : P.underlying t = some (.array n e)) (hsz : (P.info? e).map (·.size) = some 1)
    {B f : Nat} (hx : a.eval x = .pointer (some ⟨B, f, none⟩)) (H : Nat) (hhi : IsI (a.eval hi) (H : Int)) (hH : H ≤ n)
    (h : wpList P ops Q rest (a.put o.dst (.slice (some ⟨B, f, none⟩) H n)) w) : wpList P ops Q (o :: rest) a w := wpList_of_run hw (run_arr_to x hi t ho ht hsz hx H hhi hH w) h
theorem wpQuiet_arr_to (x hi : Operand) (t : TypeId) (ho : o.op = .slice t x none (some hi) none) (hw : Region.wanted o (yielded ops a.tmps) = true) {e : TypeId} {n : Nat} (ht : P.underlying t = some (.array n e)) (hsz : (P.info? e).map (·.size) = some 1)
    {B f : Nat} (hx : a.eval x = .pointer (some ⟨B, f, none⟩)) (H : Nat) (hhi : IsI (a.eval hi) (H : Int)) (hH : H ≤ n)
    (h : wpQuiet P ops C R rest (a.put o.dst (.slice (some ⟨B, f, none⟩) H n))) : wpQuiet P ops C R (o :: rest) a := wpQuiet_of_run hw (fun w _ => run_arr_to x hi t ho ht hsz hx H hhi hH w) h
theorem wpList_arr_all (x : Operand) (t : TypeId) (ho : o.op = .slice t x none none none) (hw : Region.wanted o (yielded ops a.tmps) = true) {e : TypeId} {n : Nat} (ht : P.underlying t = some (.array n e)) (hi : (P.info? e).map (·.size) = some 1)
    {B f : Nat} (hx : a.eval x = .pointer (some ⟨B, f, none⟩))
    (h : wpList P ops Q rest (a.put o.dst (.slice (some ⟨B, f, none⟩) n n)) w) : wpList P ops Q (o :: rest) a w := wpList_of_run hw (run_arr_all x t ho ht hi hx w) h
theorem wpQuiet_arr_all (x : Operand) (t : TypeId) (ho : o.op = .slice t x none none none) (hw : Region.wanted o (yielded ops a.tmps) = true) {e : TypeId} {n : Nat} (ht : P.underlying t = some (.array n e)) (hi : (P.info? e).map (·.size) = some 1)
    {B f : Nat} (hx : a.eval x = .pointer (some ⟨B, f, none⟩))
    (h : wpQuiet P ops C R rest (a.put o.dst (.slice (some ⟨B, f, none⟩) n n))) : wpQuiet P ops C R (o :: rest) a := wpQuiet_of_run hw (fun w _ => run_arr_all x t ho ht hi hx w) h

/-- '(*[m]T)(b)', the slice known by its place -/
theorem run_arr_ptr (x : Operand) (t : TypeId) (ho : o.op = .sliceToArrayPointer t x) {e : TypeId} {m : Nat} (ht : P.underlying t = some (.array m e)) {ad : Addr} {n cap : Nat} (hx : a.eval x = .slice (some ad) n cap) (hm : m ≤ n) (w : World) :
    (execOp a.eval o).run P w = .ok (.value (.pointer (some ad))) w := by
  have : ¬ n < m := by omega
  unfold execOp
  simp [ho, Instr.arrayAt, hx, run_underlying ht, this]
theorem wpQuiet_arrptr (x : Operand) (t : TypeId) (ho : o.op = .sliceToArrayPointer t x) (hw : Region.wanted o (yielded ops a.tmps) = true) {e : TypeId} {m : Nat} (ht : P.underlying t = some (.array m e)) {ad : Addr} {n cap : Nat} (hx : a.eval x = .slice (some ad) n cap) (hm : m ≤ n)
    (h : wpQuiet P ops C R rest (a.put o.dst (.pointer (some ad)))) : wpQuiet P ops C R (o :: rest) a := wpQuiet_of_run hw (fun w _ => run_arr_ptr x t ho ht hx hm w) h

/-! ### a part of a block, whole -/
def isAggD (d : TypeDesc) : Bool := match d with | .struct _ | .array _ _ => true | _ => false
theorem run_load_part (p : Operand) (t : TypeId) (ho : o.op = .load t p) {d : TypeDesc} (hd : P.underlying t = some d) (ha : isAggD d = true) {s : Nat} (hsz : (P.info? t).map (·.size) = some s)
    {B f : Nat} {t' : TypeId} {cs : List Value} (hx : a.eval p = .pointer (some ⟨B, f, none⟩)) (hb : Blk w B t' cs) (hk : f + s ≤ cs.length) :
    (execOp a.eval o).run P w = .ok (.value (.agg ((cs.drop f).take s).toArray)) w := by
  obtain ⟨ti, hti, rfl⟩ := Option.map_eq_some_iff.1 hsz
  have hlen : ((cs.drop f).take ti.size).length = ti.size := by rw [List.length_take, List.length_drop]; omega
  have hl := run_loadCells_list (P := P) w (⟨B, f, none⟩ : Addr) ((cs.drop f).take ti.size) (fun j u hu => by
    rw [List.getElem?_take] at hu
    split at hu
    · rw [List.getElem?_drop] at hu
      rw [Addr.add_lit]
      exact hb.cell hu
    · cases hu)
  rw [hlen] at hl
  have hagg : (isAgg t).run P w = .ok true w := by
    unfold isAgg
    simp only [Sem.run_bind, run_underlying hd, Result.andThen]
    cases d <;> simp_all [isAggD]
  have hsize : (sizeOf t).run P w = .ok ti.size w := by simp [sizeOf, typeInfo, hti]
  unfold execOp
  simp [ho, Instr.loadAt, hx, Instr.sureAddr, loadVar, hagg, hsize, hl]
theorem wpList_load_part (p : Operand) (t : TypeId) (ho : o.op = .load t p) (hw : Region.wanted o (yielded ops a.tmps) = true) {d : TypeDesc} (hd : P.underlying t = some d) (ha : isAggD d = true) {s : Nat} (hsz : (P.info? t).map (·.size) = some s)
    {B f : Nat} {t' : TypeId} {cs : List Value} (hx : a.eval p = .pointer (some ⟨B, f, none⟩)) (hb : Blk w B t' cs) (hk : f + s ≤ cs.length) {cp : List Value} (hcs : (cs.drop f).take s = cp)
    (h : wpList P ops Q rest (a.put o.dst (.agg cp.toArray)) w) : wpList P ops Q (o :: rest) a w := by
  subst hcs; exact wpList_of_run hw (run_load_part p t ho hd ha hsz hx hb hk) h
theorem wpQuiet_load_part {w0 : World} (hC : ∀ w, C w → ∃ n, w = w0.drewN n) (p : Operand) (t : TypeId) (ho : o.op = .load t p) (hw : Region.wanted o (yielded ops a.tmps) = true) {d : TypeDesc} (hd : P.underlying t = some d) (ha : isAggD d = true) {s : Nat} (hsz : (P.info? t).map (·.size) = some s)
    {B f : Nat} {t' : TypeId} {cs : List Value} (hx : a.eval p = .pointer (some ⟨B, f, none⟩)) (hb : Blk w0 B t' cs) (hk : f + s ≤ cs.length) {cp : List Value} (hcs : (cs.drop f).take s = cp)
    (h : wpQuiet P ops C R rest (a.put o.dst (.agg cp.toArray))) : wpQuiet P ops C R (o :: rest) a := by
  subst hcs
  exact wpQuiet_of_run hw (fun w hc => by obtain ⟨m', rfl⟩ := hC w hc; exact run_load_part p t ho hd ha hsz hx (hb.drewN m') hk) h

/-- the cells with others put in -/
def put (cs : List Value) (f : Nat) (xs : List Value) : List Value := cs.take f ++ xs ++ cs.drop (f + xs.length)
theorem put_len {cs xs : List Value} {f : Nat} (h : f + xs.length ≤ cs.length) : (put cs f xs).length = cs.length := by
  unfold put
  rw [List.length_append, List.length_append, List.length_take, List.length_drop]; omega
theorem setRow_blk {B : Nat} {t : TypeId} {cs : List Value} (hb : Blk w B t cs) (cs' : List Value) : Blk (w.setRow B cs'.toArray) B t cs' := setRow_heap w B _ _ t _ hb

/-- a store of a whole array (or struct) into a part of a block -/
theorem wpList_store_part (ty : TypeId) (x y : Operand) (ho : o.op = .store ty x y) (hw : Region.wanted o (yielded ops a.tmps) = true) {B f : Nat} {t : TypeId} {old cs : List Value} (hx : a.eval x = .pointer (some ⟨B, f, none⟩)) (hy : a.eval y = .agg cs.toArray)
    (hb : Blk w B t old) {s : Nat} (hi : (P.info? ty).map (·.size) = some s) (hs : cs.length = s) (hl : f + s ≤ old.length) (h1 : ∀ u ∈ cs, u.oneCell' = true)
    (h : ∀ w', Blk w' B t (put old f cs) → Only B w w' → w'.heap.size = w.heap.size → wpList P ops Q rest (a.put o.dst undef) w') : wpList P ops Q (o :: rest) a w := by
  subst hs
  obtain ⟨ti, hti, hsz⟩ := Option.map_eq_some_iff.1 hi
  have hst := run_storeCells_at P B f t cs 0 old.toArray w hb (by simpa using hl) h1
  simp only [Nat.add_zero] at hst
  refine BigFrame.wpList_want hw fun K hK => ?_
  have hh := h (w.setRow B (put old f cs).toArray) (setRow_blk hb _) (setRow_only B _) (by simp [World.setRow])
  have hrun : (storeVar ty ⟨B, f, none⟩ (.agg cs.toArray)).run P w = .ok () (w.setRow B (put old f cs).toArray) := by
    unfold storeVar
    simp [sizeOf, typeInfo, hti, hsz, Value.cells, hst, put]
  unfold Oper.wp execOp
  simp only [ho, hx, hy, Instr.storeAt, Instr.sureAddr, Sem.run_bind, Sem.run_pure, Result.andThen_ok, hrun]
  exact hK _ _ hh

/-- 'copy(b, s)', b a slice over a part of a block: as much of s as fits -/
theorem wpList_copy_str (x y : Operand) (dT sT : TypeId) (ho : o.op = .call { callee := .builtin .copy, args := #[x, y], argTypes := #[dT, sT] }) (hw : Region.wanted o (yielded ops a.tmps) = true) {e : TypeId} (hu : P.underlying dT = some (.slice e)) (hi : (P.info? e).map (·.size) = some 1)
    {B f n cap : Nat} {t : TypeId} {old : List Value} {s : List UInt8} (hx : a.eval x = .slice (some ⟨B, f, none⟩) n cap) (hy : a.eval y = .string ⟨s.toArray⟩) (hb : Blk w B t old) (hl : f + n ≤ old.length) {k : Nat} (hmin : min s.length n = k)
    (h : ∀ w', Blk w' B t (put old f (bv (s.take n))) → Only B w w' → w'.heap.size = w.heap.size → wpList P ops Q rest (a.put o.dst (.int .i64 (k : Int))) w') : wpList P ops Q (o :: rest) a w := by
  subst hmin
  obtain ⟨ti, hti, hsz⟩ := Option.map_eq_some_iff.1 hi
  have hst := run_storeCells_at P B f t (bv (s.take n)) 0 old.toArray w hb (by rw [bv_length, List.length_take]; simp; omega) (bv_one _)
  simp only [Nat.add_zero] at hst
  have hh := h (w.setRow B (put old f (bv (s.take n))).toArray) (setRow_blk hb _) (setRow_only B _) (by simp [World.setRow])
  refine wpList_of_run hw (v := .int .i64 (min s.length n : Nat)) (w' := w.setRow B (put old f (bv (s.take n))).toArray) ?_ hh
  have hcells : List.take (if s.length ≤ n then s.length else n) (List.map (fun b : UInt8 => Value.int IntKind.u8 (b.toNat : Int)) s) = bv (s.take n) := by
    unfold bv
    rw [← List.map_take]
    congr 1
    split
    · rename_i h1
      rw [List.take_of_length_le (Nat.le_refl _), List.take_of_length_le h1]
    · rfl
  have hsize : (ByteArray.mk s.toArray).size = s.length := by simp [ByteArray.size]
  unfold execOp
  simp only [ho, resolve, invoke, builtin, Sem.run_bind, Sem.run_pure, Result.andThen_ok, List.map_toArray, List.map_cons, List.map_nil, hx, hy]
  unfold Builtin.copy_
  simp only [List.getElem?_toArray, List.getElem?_cons_zero, List.getElem?_cons_succ, Sem.run_bind, run_underlying hu, Result.andThen_ok, Builtin.lenOf, Sem.run_pure, hsize, Builtin.firstCells, sizeOf, typeInfo]
  simp only [Nat.min_def]
  simp [goInt, put, hti]
  rw [hcells, hst]
  simp [Result.andThen]

/-- 'x[i]', x an array by value -/
theorem wpList_index_agg (x i : Operand) (t : TypeId) (ho : o.op = .index t x i) (hw : Region.wanted o (yielded ops a.tmps) = true) {e : TypeId} {n : Nat} (ht : P.underlying t = some (.array n e)) {d : TypeDesc} (he : P.underlying e = some d) (hd : isAggD d = false) (hi : (P.info? e).map (·.size) = some 1)
    {cs : List Value} (hx : a.eval x = .agg cs.toArray) (k : Nat) (hix : IsI (a.eval i) (k : Int)) (hk : k < n) {u : Value} (hu : cs[k]? = some u)
    (h : wpList P ops Q rest (a.put o.dst u) w) : wpList P ops Q (o :: rest) a w := by
  obtain ⟨kd, hix⟩ := isI hix
  obtain ⟨ti, hti, hsz⟩ := Option.map_eq_some_iff.1 hi
  refine wpList_of_run hw (v := u) (w' := w) ?_ h
  have hagg : (isAgg e).run P w = .ok false w := by
    unfold isAgg
    simp only [Sem.run_bind, run_underlying he, Result.andThen]
    cases d <;> simp_all [isAggD]
  have hu' : cs.toArray[k]? = some u := by simpa using hu
  unfold execOp
  simp [ho, Instr.index, hx, hix, asIntOf, run_underlying ht, sizeOf, typeInfo, hti, hsz, hk, part, hagg, hu]

/-- an array (or struct) that is boxed -/
theorem wpList_boxa (t : TypeId) (x : Operand) (ho : o.op = .box t x) (hw : Region.wanted o (yielded ops a.tmps) = true) {cs : List Value} (hx : a.eval x = .agg cs.toArray)
    (h : ∀ w', Blk w' w.heap.size t cs → Below w.heap.size w w' → w'.heap.size = w.heap.size + 1 → wpList P ops Q rest (a.put o.dst (.pointer (some ⟨w.heap.size, 0, none⟩))) w') : wpList P ops Q (o :: rest) a w := by
  refine wpList_of_run hw (v := .pointer (some ⟨w.heap.size, 0, none⟩)) (w' := w.alloc (.cells cs.toArray t)) ?_ (h _ (heap_alloc_new w _) ((Below.refl _ _).alloc (Nat.le_refl _) _) (by simp))
  unfold execOp
  simp [ho, hx, Instr.box, newVar, newRow, Value.cells]

/-! ### a package-level array -/
/-- block g holds these cells -/
def Tb (w : World) (g : Nat) (cs : List Value) : Prop := ∀ (j : Nat) (u : Value), cs[j]? = some u → w.cell? ⟨g, j, none⟩ = some u
theorem Tb.below {w w' : World} {g : Nat} {cs : List Value} (h : Tb w g cs) (hb : Below w.heap.size w w') : Tb w' g cs := fun j u hu => by
  have hc := h j u hu
  exact (hb.cell (World.block_lt_of_cell? _ _ hc)).trans hc
theorem Tb.drewN {w : World} {g : Nat} {cs : List Value} (h : Tb w g cs) (n : Nat) : Tb (w.drewN n) g cs := h
theorem Tb.drew {w : World} {g : Nat} {cs : List Value} (h : Tb w g cs) : Tb w.drew g cs := h
theorem wpList_load_tab (p : Operand) (t : TypeId) (ho : o.op = .load t p) (hw : Region.wanted o (yielded ops a.tmps) = true) {d : TypeDesc} (hd : P.underlying t = some d) (ha : isAggD d = true) {cs : List Value} (hsz : (P.info? t).map (·.size) = some cs.length)
    {g : Nat} (hx : a.eval p = .pointer (some ⟨g, 0, none⟩)) (hb : Tb w g cs)
    (h : wpList P ops Q rest (a.put o.dst (.agg cs.toArray)) w) : wpList P ops Q (o :: rest) a w := by
  obtain ⟨ti, hti, hs⟩ := Option.map_eq_some_iff.1 hsz
  have hl := run_loadCells_list (P := P) w (⟨g, 0, none⟩ : Addr) cs (fun j u hu => by rw [Addr.add_lit, Nat.zero_add]; exact hb j u hu)
  have hagg : (isAgg t).run P w = .ok true w := by
    unfold isAgg
    simp only [Sem.run_bind, run_underlying hd, Result.andThen]
    cases d <;> simp_all [isAggD]
  refine wpList_of_run hw (v := .agg cs.toArray) (w' := w) ?_ h
  unfold execOp
  simp [ho, Instr.loadAt, hx, Instr.sureAddr, loadVar, hagg, sizeOf, typeInfo, hti, hs, hl]
theorem wpQuiet_load_tb {w0 : World} (hC : ∀ w, C w → ∃ n, w = w0.drewN n) (p : Operand) (t : TypeId) (ho : o.op = .load t p) (hw : Region.wanted o (yielded ops a.tmps) = true)
    (hload : ∀ (ad : Addr) (u : Value) (w : World), w.cell? ad = some u → (loadVar t ad).run P w = .ok u w) {g k : Nat} {cs : List Value} {u : Value} (hx : a.eval p = .pointer (some ⟨g, k, none⟩)) (hb : Tb w0 g cs) (hk : cs[k]? = some u)
    (h : wpQuiet P ops C R rest (a.put o.dst u)) : wpQuiet P ops C R (o :: rest) a := by
  refine wpQuiet_of_run hw (fun w hc => ?_) h
  obtain ⟨m, rfl⟩ := hC w hc
  have := hload ⟨g, k, none⟩ u (w0.drewN m) ((hb.drewN m) k u hk)
  unfold execOp
  simp [ho, Instr.loadAt, hx, Instr.sureAddr, this]
end
end Go.Proofs.YtajglgkjpagcjaaDoor.Lb
namespace Go.Proofs.YtajglgkjpagcjaaDoor.Pu
open Go

theorem comps_app (s : S8) (m t : List UInt8) : ∀ k, 64 * k ≤ m.length → comps s (m ++ t) k = comps s m k
  | 0, _ => rfl
  | k + 1, h => by
    rw [comps, comps, comps_app s m t k (by omega), List.drop_append_of_le_length (by omega), List.take_append_of_le_length (by rw [List.length_drop]; omega)]

/-- what a stream holds -/
structure Strm where
  (s : S8) (b : List UInt8) (n : Nat)
def IsS (m : List UInt8) (x : Strm) : Prop := x.b.length = 64 ∧ x.n = m.length ∧ x.s = comps h0 m (m.length / 64) ∧ x.b.take (m.length % 64) = m.drop (64 * (m.length / 64))
theorem isS_nil : IsS [] ⟨h0, List.replicate 64 0, 0⟩ := ⟨rfl, rfl, rfl, rfl⟩
/-- the block with bytes put in -/
def splice (b : List UInt8) (at_ : Nat) (t : List UInt8) : List UInt8 := b.take at_ ++ t ++ b.drop (at_ + t.length)
theorem splice_len {b : List UInt8} {i : Nat} {t : List UInt8} (h : i + t.length ≤ b.length) : (splice b i t).length = b.length := by
  unfold splice
  rw [List.length_append, List.length_append, List.length_take, List.length_drop]; omega
theorem isS_part {m t : List UInt8} {x : Strm} (h : IsS m x) (hk : m.length % 64 + t.length < 64) : IsS (m ++ t) ⟨x.s, splice x.b (m.length % 64) t, x.n + t.length⟩ := by
  obtain ⟨h1, h2, h3, h4⟩ := h
  have e : (m ++ t).length / 64 = m.length / 64 := by rw [List.length_append]; omega
  have e2 : (m ++ t).length % 64 = m.length % 64 + t.length := by rw [List.length_append]; omega
  refine ⟨?_, ?_, ?_, ?_⟩
  · show (splice _ _ _).length = 64
    rw [splice_len (by omega), h1]
  · show x.n + _ = _
    rw [List.length_append, h2]
  · show x.s = _
    rw [e, comps_app _ _ _ _ (by omega), h3]
  · show (splice _ _ _).take _ = _
    rw [e, e2, List.drop_append_of_le_length (by omega), ← h4, splice, List.take_left' (by rw [List.length_append, List.length_take]; omega)]
theorem isS_full {m t : List UInt8} {x : Strm} (h : IsS m x) (hk : m.length % 64 + t.length = 64) : IsS (m ++ t) ⟨comp x.s (splice x.b (m.length % 64) t), splice x.b (m.length % 64) t, x.n + t.length⟩ := by
  obtain ⟨h1, h2, h3, h4⟩ := h
  have e : (m ++ t).length / 64 = m.length / 64 + 1 := by rw [List.length_append]; omega
  have e2 : (m ++ t).length % 64 = 0 := by rw [List.length_append]; omega
  have e3 : splice x.b (m.length % 64) t = (m ++ t).drop (64 * (m.length / 64)) := by
    rw [List.drop_append_of_le_length (by omega), ← h4, splice, List.drop_of_length_le (by omega), List.append_nil]
  refine ⟨?_, ?_, ?_, ?_⟩
  · show (splice _ _ _).length = 64
    rw [splice_len (by omega), h1]
  · show x.n + _ = _
    rw [List.length_append, h2]
  · show comp x.s _ = _
    rw [e, comps, comps_app _ _ _ _ (by omega), ← h3, e3, List.take_of_length_le (by rw [List.length_drop, List.length_append]; omega)]
  · show (splice _ _ _).take _ = _
    rw [e, e2, List.take_zero, List.drop_of_length_le (by rw [List.length_append]; omega)]

/-! ### the padding -/
def zn (n : Nat) : Nat := (119 - n % 64) % 64
theorem be64_len (n : Nat) : (be64 n).length = 8 := be_length _ _
theorem padTail_len (n : Nat) : (padTail n).length = zn n + 9 := by
  unfold padTail zn
  rw [List.length_cons, List.length_append, List.length_replicate, be64_len]
theorem padded_mod (m : List UInt8) : (padded m).length % 64 = 0 := by
  unfold padded
  rw [List.length_append, padTail_len]; unfold zn; omega
/-- the zeros so far are too few -/
theorem zn_lt {n j : Nat} (h : j < zn n) : (n + (j + 1)) % 64 ≠ 56 := by unfold zn at h; omega
theorem zn_eq (n : Nat) : (n + (zn n + 1)) % 64 = 56 := by unfold zn; omega
/-- byte i of the eight -/
theorem be64_get (n : Nat) {i : Nat} (h : i < 8) : (be64 n)[i]? = some (bt ((n / 256 ^ (7 - i) : Nat) : Int)) := by
  unfold be64
  have h1 := le_get n (k := 8) (j := 7 - i) (by omega)
  rw [be_rev, List.getElem?_reverse (by rw [le_length]; exact h), le_length, show 8 - 1 - i = 7 - i by omega, h1]
theorem be64_take (n : Nat) {i : Nat} (h : i < 8) : (be64 n).take (i + 1) = (be64 n).take i ++ [bt ((n / 256 ^ (7 - i) : Nat) : Int)] := by
  have h1 := be64_get n h
  have hl : i < (be64 n).length := by rw [be64_len]; exact h
  rw [List.take_succ_eq_append_getElem hl]
  rw [List.getElem?_eq_getElem hl, Option.some.injEq] at h1
  rw [h1]

/-! ### the bytes of the sum -/
def l8 (s : S8) : List UInt32 := [s.a, s.b, s.c, s.d, s.e, s.f, s.g, s.h]
theorem outS_len (s : S8) : (outS s).length = 32 := rfl
theorem shr_zero (x : UInt32) : x >>> UInt32.ofNat 0 = x := by
  apply UInt32.toNat_inj.1
  rw [UInt32.toNat_shiftRight]; simp
theorem outS_get (s : S8) {i : Nat} (h : i < 32) : (outS s)[i]? = some (bt (((gw (l8 s) (i / 4)) >>> UInt32.ofNat (24 - 8 * (i % 4))).toNat : Int)) := by
  have : i = 0 ∨ i = 1 ∨ i = 2 ∨ i = 3 ∨ i = 4 ∨ i = 5 ∨ i = 6 ∨ i = 7 ∨ i = 8 ∨ i = 9 ∨ i = 10 ∨ i = 11 ∨ i = 12 ∨ i = 13 ∨ i = 14 ∨ i = 15 ∨ i = 16 ∨ i = 17 ∨ i = 18 ∨ i = 19 ∨ i = 20 ∨ i = 21 ∨ i = 22 ∨ i = 23 ∨ i = 24 ∨ i = 25 ∨ i = 26 ∨ i = 27 ∨ i = 28 ∨ i = 29 ∨ i = 30 ∨ i = 31 := by omega
  rcases this with rfl | rfl | rfl | rfl | rfl | rfl | rfl | rfl | rfl | rfl | rfl | rfl | rfl | rfl | rfl | rfl | rfl | rfl | rfl | rfl | rfl | rfl | rfl | rfl | rfl | rfl | rfl | rfl | rfl | rfl | rfl | rfl <;> first | rfl | (show some (bt _) = some (bt _); simp only [gw, l8, Nat.reduceDiv, Nat.reduceMod, Nat.reduceMul, Nat.reduceSub, shr_zero]; rfl)
theorem outS_take (s : S8) {i : Nat} (h : i < 32) : (outS s).take (i + 1) = (outS s).take i ++ [bt (((gw (l8 s) (i / 4)) >>> UInt32.ofNat (24 - 8 * (i % 4))).toNat : Int)] := by
  have h1 := outS_get s h
  have hl : i < (outS s).length := by rw [outS_len]; exact h
  rw [List.take_succ_eq_append_getElem hl]
  rw [List.getElem?_eq_getElem hl, Option.some.injEq] at h1
  rw [h1]
theorem sha_of {m : List UInt8} {x : Strm} (h : IsS (padded m) x) : outS x.s = sha m := by
  unfold sha; rw [h.2.2.1]
theorem sha_len (m : List UInt8) : (sha m).length = 32 := outS_len _
end Go.Proofs.YtajglgkjpagcjaaDoor.Pu
namespace Go.Proofs.YtajglgkjpagcjaaDoor.Wi
open Go Go.RowKit Pu Lb

/-- the round constants in their place -/
abbrev TabH (w : World) : Prop := Tb w 1 (uv kk)
theorem TabH.below {w w' : World} (h : TabH w) (hb : Below w.heap.size w w') : TabH w' := Tb.below h hb
/-- the sums of the walk, each opaque -/
def pl (x y : UInt32) : UInt32 := x + y
def xr (x y : UInt32) : UInt32 := x ^^^ y
def an (x y : UInt32) : UInt32 := x &&& y
def nt (x : UInt32) : UInt32 := ~~~x
theorem pl_eq (x y : UInt32) : ((x.toNat : Int) + (y.toNat : Int)) % 4294967296 = ((pl x y).toNat : Int) := up x y
theorem pl_eq' (x y : UInt32) : IntKind.u32.wrap ((x.toNat : Int) + (y.toNat : Int)) = ((pl x y).toNat : Int) := by rw [IntKind.wrap_u32]; exact up x y
theorem xr_eq (x y : UInt32) : bits .xor .u32 (x.toNat : Int) (y.toNat : Int) = ((xr x y).toNat : Int) := ux x y
theorem an_eq (x y : UInt32) : bits .and .u32 (x.toNat : Int) (y.toNat : Int) = ((an x y).toNat : Int) := ua x y

def mx (x : UInt32) (i j k : Nat) : UInt32 := rr x i ^^^ rr x j ^^^ rr x k
theorem mx_any (x : UInt32) (i j k : Nat) (zi zj zk : Int) (ei : zi = (i : Int)) (ej : zj = (j : Int)) (ek : zk = (k : Int)) (hi : 0 < i ∧ i < 32) (hj : 0 < j ∧ j < 32) (hk : 0 < k ∧ k < 32) (w : World) :
    Calls Tryd.prog 73 #[.int .u32 (x.toNat : Int), .int .i64 zi, .int .i64 zj, .int .i64 zk] w fun e w' => e = .returned (.int .u32 ((mx x i j k).toNat : Int)) ∧ w' = w := mix_any x i j k zi zj zk ei ej ek hi hj hk w
theorem nt_eq (x : UInt32) : bits .xor .u32 (if IntKind.u32.signed = true then -1 else IntKind.u32.max) (x.toNat : Int) = ((nt x).toNat : Int) := by
  have h : (if IntKind.u32.signed = true then (-1 : Int) else IntKind.u32.max) = ((4294967295 : UInt32).toNat : Int) := by decide
  rw [h, ux]
  congr 2
/-- the state while its words are added: the first half up to i, the second half up to j -/
def adds (s r : S8) (i j : Nat) : List UInt32 := [if 0 < i then pl s.a r.a else s.a, if 1 < i then pl s.b r.b else s.b, if 2 < i then pl s.c r.c else s.c, if 3 < i then pl s.d r.d else s.d,
  if 0 < j then pl s.e r.e else s.e, if 1 < j then pl s.f r.f else s.f, if 2 < j then pl s.g r.g else s.g, if 3 < j then pl s.h r.h else s.h]
theorem four {i : Nat} (h : i < 4) : i = 0 ∨ i = 1 ∨ i = 2 ∨ i = 3 := by omega
theorem adds_at {s r : S8} {i : Nat} (h : i < 4) : (uv (adds s r i i))[i]? = some (.int .u32 ((gw [s.a, s.b, s.c, s.d] i).toNat : Int)) := by
  rcases four h with rfl | rfl | rfl | rfl <;> rfl
theorem adds_at2 {s r : S8} {i : Nat} (h : i < 4) : (uv (adds s r (i + 1) i))[i + 4]? = some (.int .u32 ((gw [s.e, s.f, s.g, s.h] i).toNat : Int)) := by
  rcases four h with rfl | rfl | rfl | rfl <;> rfl
theorem half_at {a b c d : UInt32} {i : Nat} (h : i < 4) : (uv [a, b, c, d])[i]? = some (.int .u32 ((gw [a, b, c, d] i).toNat : Int)) := by
  rcases four h with rfl | rfl | rfl | rfl <;> rfl
theorem adds_set {s r : S8} {i : Nat} (h : i < 4) : (uv (adds s r i i)).set i (.int .u32 ((pl (gw [s.a, s.b, s.c, s.d] i) (gw [r.a, r.b, r.c, r.d] i)).toNat : Int)) = uv (adds s r (i + 1) i) := by
  rcases four h with rfl | rfl | rfl | rfl <;> rfl
theorem adds_set2 {s r : S8} {i : Nat} (h : i < 4) : (uv (adds s r (i + 1) i)).set (i + 4) (.int .u32 ((pl (gw [s.e, s.f, s.g, s.h] i) (gw [r.e, r.f, r.g, r.h] i)).toNat : Int)) = uv (adds s r (i + 1) (i + 1)) := by
  rcases four h with rfl | rfl | rfl | rfl <;> rfl
theorem adds_zero (s r : S8) : adds s r 0 0 = l8 s := rfl
theorem adds_all (s r : S8) : adds s r 4 4 = l8 (addS s r) := rfl
theorem adds_len (s r : S8) (i j : Nat) : (uv (adds s r i j)).length = 8 := rfl
theorem sz_kk : (Tryd.prog.info? 103).map (·.size) = some (uv kk).length := by kernel_rfl
theorem heap_first (w : World) (c d : List Value) {t t' : TypeId} : Blk ((w.alloc (.cells c.toArray t)).alloc (.cells d.toArray t')).drew w.heap.size t c := by
  have h : Blk (w.alloc (.cells c.toArray t)) w.heap.size t c := heap_alloc_new w _
  exact Blk.below h (((Below.refl _ _).alloc (Nat.le_refl _) _).drew) (by rw [World.size_alloc]; omega)
theorem heap_second (w : World) (c d : List Value) {t t' : TypeId} : Blk ((w.alloc (.cells c.toArray t)).alloc (.cells d.toArray t')).drew (w.heap.size + 1) t' d := by
  have h : Blk ((w.alloc (.cells c.toArray t)).alloc (.cells d.toArray t')) (w.alloc (.cells c.toArray t)).heap.size t' d := heap_alloc_new _ _
  rw [World.size_alloc] at h
  exact h
theorem heap_two (w : World) (c d : List Value) {t t' : TypeId} : Below w.heap.size w ((w.alloc (.cells c.toArray t)).alloc (.cells d.toArray t')).drew :=
  (((Below.refl _ w).alloc (Nat.le_refl _) _).alloc (by simp) _).drew

theorem rnds_zero (s : S8) (w : List UInt32) : rnds s w 0 = s := rfl
theorem rnds_succ (s : S8) (w : List UInt32) (t : Nat) : rnds s w (t + 1) = rnd (rnds s w t) (gw kk t) (gw w t) := rfl
theorem comp_eq (s : S8) (b : List UInt8) : comp s b = addS s (rnds s (sched b 64) 64) := rfl
attribute [local irreducible] rnds comp sched
set_option maxRecDepth 100000 in
set_option maxHeartbeats 400000 in
theorem compress_any (v : Value) (s : S8) (b : List UInt8) (w : World) (hT : TabH w) (hv : Rd w 1 v 64 (bv b)) :
    Calls Tryd.prog 67 #[.agg (uv (l8 s)).toArray, v] w fun e w' => e = .returned (.agg (uv (l8 (comp s b))).toArray) ∧ Below w.heap.size w w' := by
  have sl := sched_len b 64
  have SL := Lib.hid sl; clear sl
  go_enter Tryd.func67, Tryd.ntmps67
  go_upto_region 1 with (first | ((with_reducible refine' wpList_boxa (cs := (uv (l8 s))) 82 (.tmp 0) rfl ?_ ?_ ?_); exact rfl; exact rfl; intro w1 hkS hN1 hz1; simp only [Act.put, List.setIfInBounds_toArray, List.set_cons_succ, List.set_cons_zero]) | ((with_reducible refine' wpList_alloc_blk (cs := List.replicate 8 (.int .u32 0)) 82 rfl ?_ zr_w8 ?_ ?_); exact rfl; exact zeros_u32 8; intro w2 hkR hN2 hz2; simp only [Act.put, List.setIfInBounds_toArray, List.set_cons_succ, List.set_cons_zero]))
  have hb := hN1.trans (hN2.mono hN1.size)
  replace hkS := hkS.below hN2 (by omega)
  have hv2 := hv.below hb
  go_upto_region 2 with (first | (go_at_call 72; (with_reducible refine (schedule_any v b w2 hv2).mono ?_); rintro e w' ⟨rfl, hb3⟩) | ((with_reducible refine' wpList_alloc_blk (cs := List.replicate 64 (.int .u32 0)) 103 rfl ?_ zr_w64 ?_ ?_); exact rfl; exact zeros_u32 64; intro w4 hkW hN4 hz4; simp only [Act.put, List.setIfInBounds_toArray, List.set_cons_succ, List.set_cons_zero]) | ((with_reducible refine' wpList_store_blk (cs := (uv (sched b 64))) 103 (.tmp 5) (.tmp 14) rfl ?_ ?_ ?_ hkW sz_w64 ?_ ?_ ?_ ?_); exact rfl; exact rfl; exact rfl; rw [uv_length]; exact SL.out; simp; exact uv_one _; intro w5 hkW hO5 hz5; simp only [Act.put]))
  have hN3 := hb3.trans (hN4.mono hb3.size)
  replace hkS := (hkS.below hN3 (by omega))
  replace hkR := (hkR.below hN3 (by omega))
  replace hkS := hO5.blk hkS (by have := hb3.size; omega)
  replace hkR := hO5.blk hkR (by have := hb3.size; omega)
  have hb5 : Below w.heap.size w w5 := (hb.trans (hN3.mono hb.size)).trans (hO5.below (by have := hb3.size; omega) (by have := hb3.size; omega))
  have hz : w.heap.size + 2 < w5.heap.size := by have := hb3.size; omega
  have hBW : w.heap.size + 1 < w'.heap.size := by have := hb3.size; omega
  have hBW5 : w'.heap.size < w5.heap.size := by omega
  clear hN3 hb3 hN4 hz4 hO5 hz5 hb hN1 hN2
  go_cut [6, 7] (fun x6 x7 w' => ∃ B6 B7 : Nat, x6 = .pointer (some ⟨B6, 0, none⟩) ∧ x7 = .pointer (some ⟨B7, 0, none⟩) ∧ B6 ≠ B7 ∧ w5.heap.size ≤ B6 ∧ w5.heap.size ≤ B7 ∧ Blk w' B6 106 (uv [s.a, s.b, s.c, s.d]) ∧ Blk w' B7 106 (uv [s.e, s.f, s.g, s.h]) ∧ Below w5.heap.size w5 w')
  case first =>
    rename_i J K2 hJ hK2
    have c0 := hkS.cell (j := 0) rfl
    have c1 := hkS.cell (j := 1) rfl
    have c2 := hkS.cell (j := 2) rfl
    have c3 := hkS.cell (j := 3) rfl
    have c4 := hkS.cell (j := 4) rfl
    have c5 := hkS.cell (j := 5) rfl
    have c6 := hkS.cell (j := 6) rfl
    have c7 := hkS.cell (j := 7) rfl
    have ha : ∀ (w : World) (ad : Addr) (cap : Nat), (Instr.arrayAt 106 (.slice (some ad) 4 cap)).run Tryd.prog w = .ok (.pointer (some ad)) w := fun w ad cap => by simp [Instr.arrayAt, run_underlying Tryd.underlying106]
    have hl0 : w.heap.size < w5.heap.size := by omega
    have hl1 : w.heap.size < w5.heap.size + 1 := by omega
    have hl2 : w.heap.size ≠ w5.heap.size := by omega
    have hl3 : w.heap.size ≠ w5.heap.size + 1 := by omega
    go_region
    all_goals
      refine hK2 _ _ (Met.intro (hJ _ _ ?_))
      (repeat apply Exists.intro)
      refine ⟨?_, rfl⟩
    · exact ⟨_, _, rfl, rfl, by omega, by omega, by omega, heap_first _ _ _, heap_second _ _ _, heap_two _ _ _⟩
    · exact ⟨_, _, rfl, rfl, by omega, by omega, by omega, heap_second _ _ _, heap_first _ _ _, heap_two _ _ _⟩
  case rest =>
    obtain ⟨B6, B7, rfl, rfl, hne, hB6, hB7, hkV, hkE, hN⟩ := hcut
    replace hkS := hkS.below hN (by omega)
    replace hkR := hkR.below hN (by omega)
    replace hkW := hkW.below hN (by omega)
    have hb := hb5.trans (hN.mono (by omega))
    have hT' := hT.below hb
    obtain ⟨KV, hKV⟩ : ∃ KV, uv kk = KV := ⟨_, rfl⟩
    have hsk := sz_kk
    unfold TabH at hT'
    rw [hKV] at hT' hsk
    have HKV := Lib.hid hKV
    have HSK := Lib.hid hsk
    clear hKV hsk
    have hn1 : w1.heap.size ≠ B6 ∧ w1.heap.size ≠ B7 ∧ w1.heap.size ≠ w.heap.size := by omega
    have hn2 : w'.heap.size ≠ B6 ∧ w'.heap.size ≠ B7 ∧ w'.heap.size ≠ w.heap.size ∧ w'.heap.size ≠ w1.heap.size := by omega
    have hn3 : w.heap.size ≠ B6 ∧ w.heap.size ≠ B7 := by omega
    have hn4 : w.heap.size ≤ B6 ∧ w.heap.size ≤ B7 := by omega
    obtain ⟨C5, hC5⟩ : ∃ C, w'.heap.size = C := ⟨_, rfl⟩
    rw [hC5] at hkW hn2 ⊢
    have EZ1 := Lib.hid hz1
    clear hz1 hz2 hN hz hBW hBW5 hv2 hb5 hB6 hB7 hC5
    have HNE := Lib.hid hne; have HN1 := Lib.hid hn1; have HN2 := Lib.hid hn2; have HN3 := Lib.hid hn3
    clear hne hn1 hn2 hn3
    go_upto_region 4 with (((with_reducible refine' wpList_load_tab (cs := KV) (.global 1) 103 rfl ?_ Tryd.underlying103 rfl (HSK.out) ?_ hT' ?_); exact rfl; exact rfl; simp only [Act.put, List.setIfInBounds_toArray, List.set_cons_succ, List.set_cons_zero]))
    go_loopw [22] (fun i wr => ∃ t : Nat, t ≤ 64 ∧ i = .int .i64 t ∧ Blk wr B6 106 (uv [(rnds s (sched b 64) t).a, (rnds s (sched b 64) t).b, (rnds s (sched b 64) t).c, (rnds s (sched b 64) t).d]) ∧ Blk wr B7 106 (uv [(rnds s (sched b 64) t).e, (rnds s (sched b 64) t).f, (rnds s (sched b 64) t).g, (rnds s (sched b 64) t).h]) ∧ Blk wr C5 103 (uv (sched b 64)) ∧ Blk wr w.heap.size 82 (uv (l8 s)) ∧ Blk wr w1.heap.size 82 (List.replicate 8 (.int .u32 0)) ∧ Below w.heap.size w wr) (fun i _ => 64 - (intOf i).toNat)
    case atStart => exact ⟨0, by omega, rfl, by rw [rnds_zero]; exact hkV, by rw [rnds_zero]; exact hkE, hkW, hkS, hkR, hb⟩
    case round =>
      obtain ⟨t, ht, rfl, hkV, hkE, hkW, hkS, hkR, hbl⟩ := hrel
      obtain ⟨r, hr⟩ : ∃ r, rnds s (sched b 64) t = r := ⟨_, rfl⟩
      rw [hr] at hkV hkE
      obtain ⟨ra, rb, rc, rd, re, rf, rg, rh⟩ := r
      simp only at hkV hkE
      have HR := Lib.hid hr
      clear hr
      by_cases hlt : t < 64
      · obtain ⟨wo, rfl⟩ : ∃ wo : World, wo = wr := ⟨_, rfl⟩
        have E0 := Lib.hid (show (uv [re, rf, rg, rh])[0]? = some (.int .u32 (re.toNat : Int)) from rfl)
        have E1 := Lib.hid (show (uv [re, rf, rg, rh])[1]? = some (.int .u32 (rf.toNat : Int)) from rfl)
        have E2 := Lib.hid (show (uv [re, rf, rg, rh])[2]? = some (.int .u32 (rg.toNat : Int)) from rfl)
        have E3 := Lib.hid (show (uv [re, rf, rg, rh])[3]? = some (.int .u32 (rh.toNat : Int)) from rfl)
        have V0 := Lib.hid (show (uv [ra, rb, rc, rd])[0]? = some (.int .u32 (ra.toNat : Int)) from rfl)
        have V1 := Lib.hid (show (uv [ra, rb, rc, rd])[1]? = some (.int .u32 (rb.toNat : Int)) from rfl)
        have V2 := Lib.hid (show (uv [ra, rb, rc, rd])[2]? = some (.int .u32 (rc.toNat : Int)) from rfl)
        have V3 := Lib.hid (show (uv [ra, rb, rc, rd])[3]? = some (.int .u32 (rd.toNat : Int)) from rfl)
        have WT := Lib.hid (uv_get (l := sched b 64) (k := t) (by rw [SL.out]; exact hlt))
        have KT := Lib.hid (uv_get (l := kk) (k := t) hlt)
        obtain ⟨xk, hxk⟩ : ∃ x, gw kk t = x := ⟨_, rfl⟩
        obtain ⟨xw, hxw⟩ : ∃ x, gw (sched b 64) t = x := ⟨_, rfl⟩
        rw [hxk, HKV.out] at KT; rw [hxw] at WT
        have XK := Lib.hid hxk; have XW := Lib.hid hxw
        clear hxk hxw
        have hk1 := lt32 xk; have hk2 := lt32 xw; have b1 := lt32 re; have b2 := lt32 rf; have b3 := lt32 rg; have b4 := lt32 rh
        have c1 := lt32 ra; have c2 := lt32 rb; have c3 := lt32 rc; have c4 := lt32 rd
        have PL := pl_eq; have PL' := pl_eq'; have XR := xr_eq; have AN := an_eq; have NT := nt_eq
        go_upto_region 6 with (((with_reducible refine' wpList_index_agg (.tmp 21) (.tmp 22) 103 rfl ?_ Tryd.underlying103 Tryd.underlying81 rfl sz_u32 ?_ (t) ?_ ?_ KT.out ?_); exact rfl; exact rfl; (show (_ : Int) = _; omega); omega; simp only [Act.put, List.setIfInBounds_toArray, List.set_cons_succ, List.set_cons_zero]))
        (refine wp_region_quiet_lit (by kernel_rfl) (by kernel_rfl) ?_; (repeat (first | ((with_reducible refine' wpQuiet_at_blk (.tmp 7) (.const (.int .i64 0)) 106 rfl ?_ Tryd.underlying106 sz_u32 ?_ (0) ?_ ?_ ?_); exact rfl; exact rfl; (show (_ : Int) = _; omega); omega; simp only [Act.put, List.setIfInBounds_toArray, List.set_cons_succ, List.set_cons_zero]) | ((with_reducible refine' wpQuiet_at_blk (.tmp 7) (.const (.int .i64 1)) 106 rfl ?_ Tryd.underlying106 sz_u32 ?_ (1) ?_ ?_ ?_); exact rfl; exact rfl; (show (_ : Int) = _; omega); omega; simp only [Act.put, List.setIfInBounds_toArray, List.set_cons_succ, List.set_cons_zero]) | ((with_reducible refine' wpQuiet_at_blk (.tmp 7) (.const (.int .i64 2)) 106 rfl ?_ Tryd.underlying106 sz_u32 ?_ (2) ?_ ?_ ?_); exact rfl; exact rfl; (show (_ : Int) = _; omega); omega; simp only [Act.put, List.setIfInBounds_toArray, List.set_cons_succ, List.set_cons_zero]) | ((with_reducible refine' wpQuiet_at_blk (.tmp 7) (.const (.int .i64 3)) 106 rfl ?_ Tryd.underlying106 sz_u32 ?_ (3) ?_ ?_ ?_); exact rfl; exact rfl; (show (_ : Int) = _; omega); omega; simp only [Act.put, List.setIfInBounds_toArray, List.set_cons_succ, List.set_cons_zero]) | ((with_reducible refine' wpQuiet_load_blk (fun _ h => h) (.tmp 26) 81 rfl ?_ ld_u32 ?_ hkE (E3.out) ?_); exact rfl; exact rfl; simp only [Act.put, List.setIfInBounds_toArray, List.set_cons_succ, List.set_cons_zero]) | ((with_reducible refine' wpQuiet_load_blk (fun _ h => h) (.tmp 28) 81 rfl ?_ ld_u32 ?_ hkE (E0.out) ?_); exact rfl; exact rfl; simp only [Act.put, List.setIfInBounds_toArray, List.set_cons_succ, List.set_cons_zero]) | ((with_reducible refine' wpQuiet_load_blk (fun _ h => h) (.tmp 32) 81 rfl ?_ ld_u32 ?_ hkE (E0.out) ?_); exact rfl; exact rfl; simp only [Act.put, List.setIfInBounds_toArray, List.set_cons_succ, List.set_cons_zero]) | ((with_reducible refine' wpQuiet_load_blk (fun _ h => h) (.tmp 34) 81 rfl ?_ ld_u32 ?_ hkE (E1.out) ?_); exact rfl; exact rfl; simp only [Act.put, List.setIfInBounds_toArray, List.set_cons_succ, List.set_cons_zero]) | ((with_reducible refine' wpQuiet_load_blk (fun _ h => h) (.tmp 37) 81 rfl ?_ ld_u32 ?_ hkE (E0.out) ?_); exact rfl; exact rfl; simp only [Act.put, List.setIfInBounds_toArray, List.set_cons_succ, List.set_cons_zero]) | ((with_reducible refine' wpQuiet_load_blk (fun _ h => h) (.tmp 40) 81 rfl ?_ ld_u32 ?_ hkE (E2.out) ?_); exact rfl; exact rfl; simp only [Act.put, List.setIfInBounds_toArray, List.set_cons_succ, List.set_cons_zero]) | ((with_reducible refine' wpQuiet_at_blk (.tmp 5) (.tmp 47) 103 rfl ?_ Tryd.underlying103 sz_u32 ?_ (t) ?_ ?_ ?_); exact rfl; exact rfl; (show (_ : Int) = _; omega); omega; simp only [Act.put, List.setIfInBounds_toArray, List.set_cons_succ, List.set_cons_zero]) | ((with_reducible refine' wpQuiet_load_blk (fun _ h => h) (.tmp 48) 81 rfl ?_ ld_u32 ?_ hkW (WT.out) ?_); exact rfl; exact rfl; simp only [Act.put, List.setIfInBounds_toArray, List.set_cons_succ, List.set_cons_zero]) | go_big_quiet_step ((go_at_call 73; (with_reducible refine Calls.quiet_of_same (mx_any re 6 11 25 6 11 25 rfl rfl rfl (by omega) (by omega) (by omega) _)))) | go_big_quiet_step (fail))); refine wpQuiet_nil ?_; intro _ hw'; obtain ⟨nq, hw''⟩ := hw'; subst hw'')
        go_upto_region 7 with fail
        replace hkV := hkV.drewN nq; replace hkE := hkE.drewN nq; replace hkW := hkW.drewN nq; replace hkS := hkS.drewN nq; replace hkR := hkR.drewN nq; replace hbl := below_drewN hbl nq
        generalize wo.drewN nq = wq at hkV hkE hkW hkS hkR hbl ⊢
        (refine wp_region_quiet_lit (by kernel_rfl) (by kernel_rfl) ?_; (repeat (first | ((with_reducible refine' wpQuiet_at_blk (.tmp 6) (.const (.int .i64 0)) 106 rfl ?_ Tryd.underlying106 sz_u32 ?_ (0) ?_ ?_ ?_); exact rfl; exact rfl; (show (_ : Int) = _; omega); omega; simp only [Act.put, List.setIfInBounds_toArray, List.set_cons_succ, List.set_cons_zero]) | ((with_reducible refine' wpQuiet_at_blk (.tmp 6) (.const (.int .i64 1)) 106 rfl ?_ Tryd.underlying106 sz_u32 ?_ (1) ?_ ?_ ?_); exact rfl; exact rfl; (show (_ : Int) = _; omega); omega; simp only [Act.put, List.setIfInBounds_toArray, List.set_cons_succ, List.set_cons_zero]) | ((with_reducible refine' wpQuiet_at_blk (.tmp 6) (.const (.int .i64 2)) 106 rfl ?_ Tryd.underlying106 sz_u32 ?_ (2) ?_ ?_ ?_); exact rfl; exact rfl; (show (_ : Int) = _; omega); omega; simp only [Act.put, List.setIfInBounds_toArray, List.set_cons_succ, List.set_cons_zero]) | ((with_reducible refine' wpQuiet_load_blk (fun _ h => h) (.tmp 51) 81 rfl ?_ ld_u32 ?_ hkV (V0.out) ?_); exact rfl; exact rfl; simp only [Act.put, List.setIfInBounds_toArray, List.set_cons_succ, List.set_cons_zero]) | ((with_reducible refine' wpQuiet_load_blk (fun _ h => h) (.tmp 54) 81 rfl ?_ ld_u32 ?_ hkV (V0.out) ?_); exact rfl; exact rfl; simp only [Act.put, List.setIfInBounds_toArray, List.set_cons_succ, List.set_cons_zero]) | ((with_reducible refine' wpQuiet_load_blk (fun _ h => h) (.tmp 56) 81 rfl ?_ ld_u32 ?_ hkV (V1.out) ?_); exact rfl; exact rfl; simp only [Act.put, List.setIfInBounds_toArray, List.set_cons_succ, List.set_cons_zero]) | ((with_reducible refine' wpQuiet_load_blk (fun _ h => h) (.tmp 59) 81 rfl ?_ ld_u32 ?_ hkV (V0.out) ?_); exact rfl; exact rfl; simp only [Act.put, List.setIfInBounds_toArray, List.set_cons_succ, List.set_cons_zero]) | ((with_reducible refine' wpQuiet_load_blk (fun _ h => h) (.tmp 61) 81 rfl ?_ ld_u32 ?_ hkV (V2.out) ?_); exact rfl; exact rfl; simp only [Act.put, List.setIfInBounds_toArray, List.set_cons_succ, List.set_cons_zero]) | ((with_reducible refine' wpQuiet_load_blk (fun _ h => h) (.tmp 65) 81 rfl ?_ ld_u32 ?_ hkV (V1.out) ?_); exact rfl; exact rfl; simp only [Act.put, List.setIfInBounds_toArray, List.set_cons_succ, List.set_cons_zero]) | ((with_reducible refine' wpQuiet_load_blk (fun _ h => h) (.tmp 67) 81 rfl ?_ ld_u32 ?_ hkV (V2.out) ?_); exact rfl; exact rfl; simp only [Act.put, List.setIfInBounds_toArray, List.set_cons_succ, List.set_cons_zero]) | go_big_quiet_step ((go_at_call 73; (with_reducible refine Calls.quiet_of_same (mx_any ra 2 13 22 2 13 22 rfl rfl rfl (by omega) (by omega) (by omega) _)))) | go_big_quiet_step (fail))); refine wpQuiet_nil ?_; intro _ hw'; obtain ⟨nq, hw''⟩ := hw'; subst hw'')
        replace hkV := hkV.drewN nq; replace hkE := hkE.drewN nq; replace hkW := hkW.drewN nq; replace hkS := hkS.drewN nq; replace hkR := hkR.drewN nq; replace hbl := below_drewN hbl nq
        generalize wq.drewN nq = wp at hkV hkE hkW hkS hkR hbl ⊢
        obtain ⟨X, hX⟩ : ∃ X, pl (pl (pl (pl rh (mx re 6 11 25)) (xr (an re rf) (an (nt re) rg))) xk) xw = X := ⟨_, rfl⟩
        obtain ⟨Y, hY⟩ : ∃ Y, pl (mx ra 2 13 22) (xr (xr (an ra rb) (an ra rc)) (an rb rc)) = Y := ⟨_, rfl⟩
        rw [hX, hY]
        have HX := Lib.hid hX; have HY := Lib.hid hY
        clear hX hY
        have d1 := lt32 X; have d2 := lt32 Y
        go_wp2_with (first
          | ((with_reducible refine' wpList_at_blk (.tmp 7) (.const (.int .i64 0)) 106 rfl ?_ Tryd.underlying106 sz_u32 ?_ (0) ?_ ?_ ?_); exact rfl; exact rfl; (show (_ : Int) = _; omega); omega; simp only [Act.put, List.setIfInBounds_toArray, List.set_cons_succ, List.set_cons_zero]) | ((with_reducible refine' wpList_at_blk (.tmp 7) (.const (.int .i64 1)) 106 rfl ?_ Tryd.underlying106 sz_u32 ?_ (1) ?_ ?_ ?_); exact rfl; exact rfl; (show (_ : Int) = _; omega); omega; simp only [Act.put, List.setIfInBounds_toArray, List.set_cons_succ, List.set_cons_zero]) | ((with_reducible refine' wpList_at_blk (.tmp 7) (.const (.int .i64 2)) 106 rfl ?_ Tryd.underlying106 sz_u32 ?_ (2) ?_ ?_ ?_); exact rfl; exact rfl; (show (_ : Int) = _; omega); omega; simp only [Act.put, List.setIfInBounds_toArray, List.set_cons_succ, List.set_cons_zero]) | ((with_reducible refine' wpList_at_blk (.tmp 6) (.const (.int .i64 0)) 106 rfl ?_ Tryd.underlying106 sz_u32 ?_ (0) ?_ ?_ ?_); exact rfl; exact rfl; (show (_ : Int) = _; omega); omega; simp only [Act.put, List.setIfInBounds_toArray, List.set_cons_succ, List.set_cons_zero]) | ((with_reducible refine' wpList_at_blk (.tmp 6) (.const (.int .i64 1)) 106 rfl ?_ Tryd.underlying106 sz_u32 ?_ (1) ?_ ?_ ?_); exact rfl; exact rfl; (show (_ : Int) = _; omega); omega; simp only [Act.put, List.setIfInBounds_toArray, List.set_cons_succ, List.set_cons_zero]) | ((with_reducible refine' wpList_at_blk (.tmp 6) (.const (.int .i64 2)) 106 rfl ?_ Tryd.underlying106 sz_u32 ?_ (2) ?_ ?_ ?_); exact rfl; exact rfl; (show (_ : Int) = _; omega); omega; simp only [Act.put, List.setIfInBounds_toArray, List.set_cons_succ, List.set_cons_zero]) | ((with_reducible refine' wpList_at_blk (.tmp 6) (.const (.int .i64 3)) 106 rfl ?_ Tryd.underlying106 sz_u32 ?_ (3) ?_ ?_ ?_); exact rfl; exact rfl; (show (_ : Int) = _; omega); omega; simp only [Act.put, List.setIfInBounds_toArray, List.set_cons_succ, List.set_cons_zero])
          | ((with_reducible refine' wpList_load_blk (.tmp 72) 81 rfl ?_ ld_u32 ?_ hkV (V3.out) ?_); exact rfl; exact rfl; simp only [Act.put, List.setIfInBounds_toArray, List.set_cons_succ, List.set_cons_zero]) | ((with_reducible refine' wpList_load_blk (.tmp 76) 81 rfl ?_ ld_u32 ?_ hkE (E0.out) ?_); exact rfl; exact rfl; simp only [Act.put, List.setIfInBounds_toArray, List.set_cons_succ, List.set_cons_zero]) | ((with_reducible refine' wpList_load_blk (.tmp 78) 81 rfl ?_ ld_u32 ?_ hkE (E1.out) ?_); exact rfl; exact rfl; simp only [Act.put, List.setIfInBounds_toArray, List.set_cons_succ, List.set_cons_zero]) | ((with_reducible refine' wpList_load_blk (.tmp 80) 81 rfl ?_ ld_u32 ?_ hkE (E2.out) ?_); exact rfl; exact rfl; simp only [Act.put, List.setIfInBounds_toArray, List.set_cons_succ, List.set_cons_zero]) | (((with_reducible refine' wpList_store_blk (cs := uv [pl rd X, re, rf, rg]) 106 (.tmp 7) (.tmp 82) rfl ?_ ?_ ?_ hkE sz_w4 ?_ ?_ ?_ ?_); exact rfl; exact rfl; exact rfl; rfl; rfl; exact uv_one _; intro wA hkE8 hO8 hz8; simp only [Act.put]); have hkV8 := hO8.blk hkV HNE.out)
          | ((with_reducible refine' wpList_load_blk (.tmp 86) 81 rfl ?_ ld_u32 ?_ hkV8 (V0.out) ?_); exact rfl; exact rfl; simp only [Act.put, List.setIfInBounds_toArray, List.set_cons_succ, List.set_cons_zero]) | ((with_reducible refine' wpList_load_blk (.tmp 88) 81 rfl ?_ ld_u32 ?_ hkV8 (V1.out) ?_); exact rfl; exact rfl; simp only [Act.put, List.setIfInBounds_toArray, List.set_cons_succ, List.set_cons_zero]) | ((with_reducible refine' wpList_load_blk (.tmp 90) 81 rfl ?_ ld_u32 ?_ hkV8 (V2.out) ?_); exact rfl; exact rfl; simp only [Act.put, List.setIfInBounds_toArray, List.set_cons_succ, List.set_cons_zero]) | (((with_reducible refine' wpList_store_blk (cs := uv [pl X Y, ra, rb, rc]) 106 (.tmp 6) (.tmp 92) rfl ?_ ?_ ?_ hkV8 sz_w4 ?_ ?_ ?_ ?_); exact rfl; exact rfl; exact rfl; rfl; rfl; exact uv_one _; intro wB hkV9 hO9 hz9; simp only [Act.put]); have hkE9 := hO9.blk hkE8 HNE.out.symm))
        go_roundw
        case rel =>
          rw [← HX.out] at hkE9 hkV9
          rw [← HY.out] at hkV9
          have hs := hbl.size
          have hs8 := hO8.size
          refine ⟨t + 1, by omega, by go_num, ?_, ?_, hO9.blk (hO8.blk hkW HN2.out.2.1) HN2.out.1, hO9.blk (hO8.blk hkS HN3.out.2) HN3.out.1, hO9.blk (hO8.blk hkR HN1.out.2.1) HN1.out.1, (hbl.trans (hO8.below (by omega) hs)).trans (hO9.below (by omega) (by omega))⟩
          · rw [rnds_succ, HR.out, XK.out, XW.out]
            exact hkV9
          · rw [rnds_succ, HR.out, XK.out, XW.out]
            exact hkE9
        case measure => simp [intOf]; omega
      · obtain rfl : t = 64 := by omega
        go_upto_region 12 with fail
        go_loopw [94] (fun i wr => ∃ t : Nat, t ≤ 4 ∧ i = .int .i64 t ∧ Blk wr B6 106 (uv [ra, rb, rc, rd]) ∧ Blk wr B7 106 (uv [re, rf, rg, rh]) ∧ Blk wr w.heap.size 82 (uv (adds s ⟨ra, rb, rc, rd, re, rf, rg, rh⟩ t t)) ∧ Blk wr w1.heap.size 82 (List.replicate 8 (.int .u32 0)) ∧ Below w.heap.size w wr) (fun i _ => 4 - (intOf i).toNat)
        case atStart => exact ⟨0, by omega, rfl, hkV, hkE, by rw [adds_zero]; exact hkS, hkR, hbl⟩
        case round =>
          obtain ⟨t, ht, rfl, hkV, hkE, hkS, hkR, hbl⟩ := hrel
          by_cases hlt : t < 4
          · obtain ⟨wo, rfl⟩ : ∃ wo : World, wo = wr := ⟨_, rfl⟩
            have SA := Lib.hid (adds_at (s := s) (r := ⟨ra, rb, rc, rd, re, rf, rg, rh⟩) hlt)
            have SB := Lib.hid (adds_at2 (s := s) (r := ⟨ra, rb, rc, rd, re, rf, rg, rh⟩) hlt)
            have VI := Lib.hid (half_at (a := ra) (b := rb) (c := rc) (d := rd) hlt)
            have EI := Lib.hid (half_at (a := re) (b := rf) (c := rg) (d := rh) hlt)
            have SET := Lib.hid (adds_set (s := s) (r := ⟨ra, rb, rc, rd, re, rf, rg, rh⟩) hlt)
            have SET2 := Lib.hid (adds_set2 (s := s) (r := ⟨ra, rb, rc, rd, re, rf, rg, rh⟩) hlt)
            obtain ⟨x1, hx1⟩ : ∃ x, gw [s.a, s.b, s.c, s.d] t = x := ⟨_, rfl⟩
            obtain ⟨x2, hx2⟩ : ∃ x, gw [s.e, s.f, s.g, s.h] t = x := ⟨_, rfl⟩
            obtain ⟨x3, hx3⟩ : ∃ x, gw [ra, rb, rc, rd] t = x := ⟨_, rfl⟩
            obtain ⟨x4, hx4⟩ : ∃ x, gw [re, rf, rg, rh] t = x := ⟨_, rfl⟩
            simp only at SET SET2
            rw [hx1] at SA SET; rw [hx2] at SB SET2; rw [hx3] at VI SET; rw [hx4] at EI SET2
            clear hx1 hx2 hx3 hx4
            have b1 := lt32 x1; have b2 := lt32 x2; have b3 := lt32 x3; have b4 := lt32 x4
            have PL := pl_eq; have PL' := pl_eq'
            have hl8 := adds_len s ⟨ra, rb, rc, rd, re, rf, rg, rh⟩
            have LA := Lib.hid hl8
            clear hl8
            go_upto_region 14 with fail
            (refine wp_region_tail 8 (by kernel_rfl) (by kernel_rfl) ?_; simp only [List.take_succ_cons, List.take_zero, List.drop_succ_cons, List.drop_zero]; (repeat (first | ((with_reducible refine' wpQuiet_at_blk (.tmp 2) (.tmp 97) 82 rfl ?_ Tryd.underlying82 sz_u32 ?_ (t) ?_ ?_ ?_); exact rfl; exact rfl; (show (_ : Int) = _; omega); omega; simp only [Act.put, List.setIfInBounds_toArray, List.set_cons_succ, List.set_cons_zero]) | ((with_reducible refine' wpQuiet_at_blk (.tmp 6) (.tmp 100) 106 rfl ?_ Tryd.underlying106 sz_u32 ?_ (t) ?_ ?_ ?_); exact rfl; exact rfl; (show (_ : Int) = _; omega); omega; simp only [Act.put, List.setIfInBounds_toArray, List.set_cons_succ, List.set_cons_zero]) | ((with_reducible refine' wpQuiet_load_blk still_drew (.tmp 98) 81 rfl ?_ ld_u32 ?_ hkS (SA.out) ?_); exact rfl; exact rfl; simp only [Act.put, List.setIfInBounds_toArray, List.set_cons_succ, List.set_cons_zero]) | ((with_reducible refine' wpQuiet_load_blk still_drew (.tmp 101) 81 rfl ?_ ld_u32 ?_ hkV (VI.out) ?_); exact rfl; exact rfl; simp only [Act.put, List.setIfInBounds_toArray, List.set_cons_succ, List.set_cons_zero]) | go_big_quiet_step (fail))); refine wpQuiet_nil ?_; show wpList _ _ _ _ _ _)
            (with_reducible refine' wpList_set_blk (k := t) 81 (.tmp 104) (.tmp 103) rfl ?_ sz_u32 ?_ rfl (Blk.drew hkS) (by rw [LA.out]; omega) ?_ ?_); exact rfl; exact rfl; exact rfl; intro wA hkA hOA hzA; simp only [Act.put]
            simp [Act.eval] at hkA
            rw [SET.out] at hkA
            replace hkV := hOA.blk (Blk.drew hkV) HN3.out.1.symm
            replace hkE := hOA.blk (Blk.drew hkE) HN3.out.2.symm
            replace hkR := hOA.blk (Blk.drew hkR) HN1.out.2.2
            replace hbl := (below_drew hbl).trans (hOA.below (Nat.le_refl _) hbl.size)
            clear hkS hOA hzA
            have hw1 : IntKind.i64.wrap ((t : Int) + 4) = (t : Int) + 4 := by rw [IntKind.wrap_i64]; omega
            go_upto_region 15 with fail
            (refine wp_region_tail 9 (by kernel_rfl) (by kernel_rfl) ?_; simp only [List.take_succ_cons, List.take_zero, List.drop_succ_cons, List.drop_zero]; (repeat (first | ((with_reducible refine' wpQuiet_at_blk (.tmp 2) (.tmp 106) 82 rfl ?_ Tryd.underlying82 sz_u32 ?_ (t + 4) ?_ ?_ ?_); exact rfl; exact rfl; (show (_ : Int) = _; omega); omega; simp only [Act.put, List.setIfInBounds_toArray, List.set_cons_succ, List.set_cons_zero]) | ((with_reducible refine' wpQuiet_at_blk (.tmp 7) (.tmp 109) 106 rfl ?_ Tryd.underlying106 sz_u32 ?_ (t) ?_ ?_ ?_); exact rfl; exact rfl; (show (_ : Int) = _; omega); omega; simp only [Act.put, List.setIfInBounds_toArray, List.set_cons_succ, List.set_cons_zero]) | ((with_reducible refine' wpQuiet_load_blk still_drew (.tmp 107) 81 rfl ?_ ld_u32 ?_ hkA (SB.out) ?_); exact rfl; exact rfl; simp only [Act.put, List.setIfInBounds_toArray, List.set_cons_succ, List.set_cons_zero]) | ((with_reducible refine' wpQuiet_load_blk still_drew (.tmp 110) 81 rfl ?_ ld_u32 ?_ hkE (EI.out) ?_); exact rfl; exact rfl; simp only [Act.put, List.setIfInBounds_toArray, List.set_cons_succ, List.set_cons_zero]) | go_big_quiet_step (fail))); refine wpQuiet_nil ?_; show wpList _ _ _ _ _ _)
            clear hw1
            (with_reducible refine' wpList_set_blk (k := t + 4) 81 (.tmp 113) (.tmp 112) rfl ?_ sz_u32 ?_ rfl (Blk.drew hkA) (by rw [LA.out]; omega) ?_ ?_); exact rfl; exact rfl; exact rfl; intro wB hkB hOB hzB; simp only [Act.put]
            simp [Act.eval] at hkB
            rw [SET2.out] at hkB
            replace hkV := hOB.blk (Blk.drew hkV) HN3.out.1.symm
            replace hkE := hOB.blk (Blk.drew hkE) HN3.out.2.symm
            replace hkR := hOB.blk (Blk.drew hkR) HN1.out.2.2
            replace hbl := (below_drew hbl).trans (hOB.below (Nat.le_refl _) hbl.size)
            clear hkA hOB hzB
            go_wp2_with fail
            go_roundw
            case rel => exact ⟨t + 1, by omega, by go_num, hkV, hkE, hkB, hkR, hbl⟩
            case measure => simp [intOf]; omega
          · obtain rfl : t = 4 := by omega
            rw [adds_all] at hkS
            rw [EZ1.out] at hkR
            go_upto_region 17 with fail
            refine wp_region_lit ?_
            ((with_reducible refine' wpList_loadall_blk (.tmp 2) 82 rfl ?_ Tryd.underlying82 sz_w8 ?_ hkS ?_ ?_ ?_); exact rfl; exact rfl; rfl; omega; simp only [Act.put, List.setIfInBounds_toArray, List.set_cons_succ, List.set_cons_zero])
            ((with_reducible refine' wpList_store_blk (cs := (uv (l8 (addS s ⟨ra, rb, rc, rd, re, rf, rg, rh⟩)))) 82 (.tmp 4) (.tmp 115) rfl ?_ ?_ ?_ hkR sz_w8 ?_ ?_ ?_ ?_); exact rfl; exact rfl; exact rfl; rfl; rfl; exact uv_one _; intro w3 hk3 hO3 hz3; simp only [Act.put])
            go_wp2_with fail
            ((try simp only [Exit.inBlock, Exit.then]); refine bodyPost_ret (results_cell_row rfl _ _ _ _ _ _ _ rfl hk3 Tryd.underlying82 rfl (by rw [sz_w8]; rfl)) rfl ?_)
            exact ⟨by rw [comp_eq, HR.out], hbl.trans (hO3.below (by omega) hbl.size)⟩
end Go.Proofs.YtajglgkjpagcjaaDoor.Wi
namespace Go.Proofs.YtajglgkjpagcjaaDoor.Lb
open Go Go.RowKit

section
variable {P : Program} {ops : Array Oper} {md : Region.Mode} {C : World → Prop} {T : Nat → Bool} {Q : Exit → Act → World → Prop}

/-- the only way on is the normal one -/
def onlyNormal (Q : Exit → Act → World → Prop) : Exit → Act → World → Prop := fun e a w => e = .normal ∧ Q .normal a w
theorem not_letsOut : ¬ LetsOut (onlyNormal Q) := by rintro ⟨_, _, h, _⟩; cases h
theorem wpOp_onlyNormal {i : Nat} {K K' : Act → World → Prop} {a : Act} {w : World} (hk : ∀ a w, K a w → K' a w) (h : wpOp P ops (onlyNormal Q) i K a w) : wpOp P ops Q i K' a w := by
  unfold wpOp at *
  split
  · rename_i ho; simp only [ho] at h; exact hk _ _ h
  · rename_i o ho
    simp only [ho] at h
    split
    · rename_i hw
      simp only [hw, if_true] at h
      rcases h with h | ⟨_, h⟩
      · refine .inl ?_
        unfold Oper.wp at *
        generalize (execOp a.eval o).run P w = r at *
        cases r with
        | ok n w' =>
          cases n <;> simp only [Oper.upon] at h ⊢
          case value u => exact hk _ _ h
          case skip => exact hk _ _ h
          case defer d => exact hk _ _ h
          case enter f args =>
            refine Calls.mono h fun e w'' he => ?_
            cases e with
            | returned u => exact hk _ _ he
            | panicked c => exact absurd he.1 (by simp)
            | outgrown => exact (not_letsOut he).elim
          case row row args => exact Rows.mono h fun u w'' he => hk _ _ he
        | halt x w' =>
          cases x <;> simp only [Oper.upon] at h ⊢
          case panic u => exact absurd h.1 (by simp)
      · exact (not_letsOut h).elim
    · rename_i hw; simp only [hw] at h; exact hk _ _ h

/-- whatever order is picked from here on; behind every operation but the tail's the world is one of the class -/
def wpAnyC (P : Program) (md : Region.Mode) (ops : Array Oper) (C : World → Prop) (T : Nat → Bool) (Q : Exit → Act → World → Prop) : Nat → Array Bool → Act → World → Prop
  | 0, listed, a, w => Region.ready md ops listed = [] ∧ Q .normal a w
  | fuel + 1, listed, a, w =>
    (Region.ready md ops listed = [] → Q .normal a w) ∧
    ∀ i ∈ Region.ready md ops listed, wpOp P ops (onlyNormal Q) i (fun a' w' => (T i = false → C w') ∧ wpAnyC P md ops C T Q fuel (listed.setIfInBounds i true) a' w') a w
theorem wpAny_of_C : ∀ (fuel : Nat) (listed : Array Bool) (a : Act) (w : World), wpAnyC P md ops C T Q fuel listed a w → wpAny P md ops Q fuel listed a w
  | 0, _, _, _, h => h
  | fuel + 1, _, _, _, h => ⟨h.1, fun i hi => wpOp_onlyNormal (fun a' w' h' => wpAny_of_C fuel _ a' w' h'.2) (h.2 i hi)⟩

/-- in state a, in every world of the class, operation o yields v and leaves the world alone -/
def YieldsC (P : Program) (ops : Array Oper) (C : World → Prop) (o : Oper) (v : Value) (a : Act) : Prop :=
  (Region.wanted o (yielded ops a.tmps) = true ∧ ∀ w, C w → (execOp a.eval o).run P w = .ok (.value v) w) ∨
  (Region.wanted o (yielded ops a.tmps) = false ∧ v = undef)
theorem YieldsC.wpOp {i : Nat} {o : Oper} {v : Value} {a : Act} (hi : ops[i]? = some o) (hy : YieldsC P ops C o v a)
    {K : Act → World → Prop} {w : World} (hw : C w) (h : K (a.put o.dst v) w) : wpOp P ops Q i K a w := by
  unfold Go.wpOp
  simp only [hi]
  rcases hy with ⟨hw', hv⟩ | ⟨hw', rfl⟩
  · simp only [hw', if_true, Oper.wp, hv w hw, Oper.upon]; exact .inl h
  · simp only [hw', Bool.false_eq_true, if_false]; exact h
theorem YieldsC.of_same {o : Oper} {v : Value} {a a' : Act} (hy : YieldsC P ops C o v a) (he : execOp a'.eval o = execOp a.eval o)
    (hw : Region.wanted o (yielded ops a'.tmps) = Region.wanted o (yielded ops a.tmps)) : YieldsC P ops C o v a' := by
  unfold YieldsC at *
  rw [he, hw]
  exact hy
theorem wpOp_putC {j : Nat} {oi oj : Oper} {v : Value} (hj : ops[j]? = some oj) (hap : oi.apart ops oj = true)
    (hsi : ∀ cs b, oi.op ≠ .select cs b) (hsj : ∀ cs b, oj.op ≠ .select cs b) {K : Act → World → Prop} {a : Act} {w : World}
    (hy : YieldsC P ops C oi v a) (h : wpOp P ops (onlyNormal Q) j K (a.put oi.dst v) w) :
    wpOp P ops (onlyNormal Q) j (fun a' w' => YieldsC P ops C oi v a' ∧ K (a'.put oi.dst v) w') a w := by
  obtain ⟨h1, h2, h3⟩ := Oper.apart_spec hap
  have keep : ∀ (a : Act), YieldsC P ops C oi v a → ∀ u, YieldsC P ops C oi v (a.put oj.dst u) := fun a hy u =>
    hy.of_same (execOp_put oi hsi a oj.dst u h3) (wanted_put oi a oj.dst u h3)
  have keepD : ∀ d, YieldsC P ops C oi v { a with defers := d :: a.defers } := fun d => hy.of_same rfl rfl
  unfold wpOp at *
  simp only [hj] at *
  rw [wanted_put oj a oi.dst v h1] at h
  split
  · rename_i hw
    simp only [hw, if_true] at h
    rcases h with h | ⟨_, h⟩
    case inr => exact (not_letsOut h).elim
    refine .inl ?_
    unfold Oper.wp at *
    rw [execOp_put oj hsj a oi.dst v h1] at h
    generalize (execOp a.eval oj).run P w = r at *
    cases r with
    | ok n w' =>
      cases n <;> simp only [Oper.upon] at h ⊢
      case value u => exact ⟨keep a hy u, by rw [← Act.put_comm a v u h2]; exact h⟩
      case skip => exact ⟨keep a hy _, by rw [← Act.put_comm a v undef h2]; exact h⟩
      case defer d =>
        refine ⟨keep _ (keepD d) _, ?_⟩
        rw [← Act.put_comm _ v undef h2, ← Act.put_defers]
        exact h
      case enter f args =>
        refine Calls.mono h fun e w'' he => ?_
        cases e with
        | returned u => exact ⟨keep a hy u, by rw [← Act.put_comm a v u h2]; exact he⟩
        | panicked c => exact absurd he.1 (by simp)
        | outgrown => exact he
      case row row args => exact Rows.mono h fun u w'' he => ⟨keep a hy u, by rw [← Act.put_comm a v u h2]; exact he⟩
    | halt x w' =>
      cases x <;> simp only [Oper.upon] at h ⊢
      case panic u => exact absurd h.1 (by simp)
  · rename_i hw
    simp only [hw] at h
    exact ⟨keep a hy _, by rw [← Act.put_comm a v undef h2]; exact h⟩

theorem getD_false_of {listed : Array Bool} {i : Nat} (h : listed.getD i true = false) : listed.getD i false = false := by
  rcases Nat.lt_or_ge i listed.size with h' | h'
  · simp [h'] at h ⊢; exact h
  · simp [Array.getElem?_eq_none h'] at h

/-- an operation that reads may be taken first -/
theorem wpAnyC_first {i : Nat} {oi : Oper} {v : Value} (hi : ops[i]? = some oi) (hsel : ∀ (j : Nat) (o : Oper) cs b, ops[j]? = some o → o.op ≠ .select cs b)
    (hT : ∀ j oj, T j = true → ops[j]? = some oj → ∃ e ∈ oj.after, Region.binds md e = true ∧ e.on = i) :
    ∀ (fuel : Nat) (listed : Array Bool) (a : Act) (w : World), C w →
      (∀ j oj, ops[j]? = some oj → j ≠ i → listed.getD j true = false → (∀ e ∈ oj.after, Region.binds md e = true → e.on ≠ i) → oi.apart ops oj = true) →
      i ∈ Region.ready md ops listed → YieldsC P ops C oi v a →
      wpAnyC P md ops C T Q fuel (listed.setIfInBounds i true) (a.put oi.dst v) w → wpAnyC P md ops C T Q (fuel + 1) listed a w := by
  intro fuel
  induction fuel with
  | zero =>
    intro listed a w hC _ hr hy H
    refine ⟨fun h => (by rw [h] at hr; cases hr), fun j hj => ?_⟩
    by_cases hji : j = i
    · subst hji; exact hy.wpOp hi hC ⟨fun _ => hC, H⟩
    · have := ready_mono hj hji
      rw [H.1] at this
      cases this
  | succ fuel ih =>
    intro listed a w hC hfree hr hy H
    refine ⟨fun h => (by rw [h] at hr; cases hr), fun j hj => ?_⟩
    by_cases hji : j = i
    · subst hji; exact hy.wpOp hi hC ⟨fun _ => hC, H⟩
    · have h1 := H.2 j (ready_mono hj hji)
      obtain ⟨hjun, oj, hoj, hall⟩ := mem_ready.1 hj
      have hnot : ∀ e ∈ oj.after, Region.binds md e = true → e.on ≠ i := fun e he hb heq => by
        have h1 := hall e he hb
        rw [heq, getD_false_of (mem_ready.1 hr).1] at h1
        cases h1
      have hTj : T j = false := by
        cases hb : T j with
        | false => rfl
        | true => obtain ⟨e, he, hbd, hon⟩ := hT j oj hb hoj; exact absurd hon (hnot e he hbd)
      have h2 := wpOp_putC hoj (hfree j oj hoj hji hjun hnot) (fun cs b => hsel i oi cs b hi) (fun cs b => hsel j oj cs b hoj) hy h1
      have hfree' : ∀ k ok, ops[k]? = some ok → k ≠ i → (listed.setIfInBounds j true).getD k true = false →
          (∀ e ∈ ok.after, Region.binds md e = true → e.on ≠ i) → oi.apart ops ok = true := fun k ok hk hki hun hno => by
        refine hfree k ok hk hki ?_ hno
        by_cases hjk : j = k
        · subst hjk; exact hjun
        · rw [getD_set_ne true hjk] at hun; exact hun
      refine wpOp_mono (fun a' w' h3 => ⟨fun _ => h3.2.1 hTj, ih (listed.setIfInBounds j true) a' w' (h3.2.1 hTj) hfree' (ready_mono hr (Ne.symm hji)) h3.1 ?_⟩) h2
      rw [Array.setIfInBounds_comm _ _ hji]
      exact h3.2.2

/-! ### the order that is walked -/
/-- the operations in the middle; behind each the world is one of the class -/
def wpMid (P : Program) (ops : Array Oper) (C : World → Prop) (Q : Exit → Act → World → Prop) (tl : List Oper) : List Oper → Act → World → Prop
  | [], a, w => wpList P ops (onlyNormal Q) tl a w
  | o :: l, a, w => if Region.wanted o (yielded ops a.tmps) then o.wp P a w (fun a' w' => C w' ∧ wpMid P ops C Q tl l a' w') (onlyNormal Q) else C w ∧ wpMid P ops C Q tl l (a.put o.dst undef) w
/-- one after the other, each the only one that may come up -/
def seqIx (md : Region.Mode) (ops : Array Oper) : List Nat → Array Bool → Bool
  | [], listed => (Region.ready md ops listed).isEmpty
  | k :: ks, listed => decide (Region.ready md ops listed = [k]) && seqIx md ops ks (listed.setIfInBounds k true)
def headIx (md : Region.Mode) (ops : Array Oper) (sq : List Nat) : List Nat → Array Bool → Bool
  | [], listed => seqIx md ops sq listed
  | k :: ks, listed => (Region.ready md ops listed).contains k && Region.free md ops listed k && headIx md ops sq ks (listed.setIfInBounds k true)
def waits (md : Region.Mode) (ops : Array Oper) (t i : Nat) : Bool :=
  match ops[t]? with
  | some o => o.after.any fun e => Region.binds md e && e.on == i
  | none => true
/-- what only computes or reads -/
def readsB (o : Oper) : Bool := match o.op with
  | .move _ | .assign _ | .load _ _ | .binOp _ _ _ _ _ | .unOp _ _ _ | .convert _ _ _ | .sliceToArrayPointer _ _ | .slice _ _ _ _ _ | .fieldAddr _ _ _ | .field _ _ _ | .indexAddr _ _ _ | .index _ _ _ | .build _ _ => true
  | .call c => match c.callee with | .builtin .len => true | _ => false
  | _ => false
def midB (md : Region.Mode) (ops : Array Oper) (hs ms ts : List Nat) : Bool :=
  Region.noSelect ops && decide (hs.length + (ms.length + ts.length) = ops.size) && ts.all (fun t => hs.all fun i => waits md ops t i) && hs.all (fun i => ((ops[i]?).map readsB).getD false) && headIx md ops (ms ++ ts) hs (Array.replicate ops.size false)

theorem val_only {s : Sem Value} {w w' : World} {n : Next} (h : (do pure (Next.value (← s)) : Sem Next).run P w = .ok n w') : ∃ u, n = .value u := by
  rw [Sem.run_bind] at h
  cases hs : s.run P w with
  | ok v w2 =>
    rw [hs, Result.andThen_ok, Sem.run_pure] at h
    injection h with h1 h2
    exact ⟨v, h1.symm⟩
  | halt x w2 =>
    rw [hs] at h
    cases h
theorem reads_only {o : Oper} (h : readsB o = true) {ρ : Operand → Value} {w w' : World} {n : Next} (hr : (execOp ρ o).run P w = .ok n w') : ∃ u, n = .value u := by
  unfold readsB at h
  split at h <;> try (cases h; done)
  all_goals (rename_i ho; unfold execOp at hr; simp only [ho] at hr)
  all_goals first
    | exact val_only hr
    | (simp only [Sem.run_pure] at hr; injection hr with h1 h2; exact ⟨_, h1.symm⟩)
    | skip
  split at h
  · rename_i hc
    simp only [resolve, hc, Sem.run_bind, Sem.run_pure, Result.andThen_ok, invoke, builtin] at hr
    cases hs : Sem.run P (Builtin.len_ _ o.type (Array.map ρ _)) w with
    | ok v w2 =>
      rw [hs, Result.andThen_ok] at hr
      injection hr with h1 h2
      exact ⟨v, h1.symm⟩
    | halt x w2 =>
      rw [hs] at hr
      cases hr
  · cases h

theorem yieldsC_of_quiet {o : Oper} {a : Act} {K : Act → Prop} (hr : readsB o = true) (h : if Region.wanted o (yielded ops a.tmps) then o.quiet P a C K else K (a.put o.dst undef)) : ∃ v, YieldsC P ops C o v a ∧ K (a.put o.dst v) := by
  by_cases hw : Region.wanted o (yielded ops a.tmps) = true
  · simp only [hw, if_true] at h
    obtain ⟨v, h1, h2⟩ := h
    refine ⟨v, .inl ⟨hw, fun w hC => ?_⟩, h2⟩
    have h3 := h1 w hC
    unfold Oper.quietAt at h3
    cases hres : (execOp a.eval o).run P w with
    | ok n w' =>
      obtain ⟨u, rfl⟩ := reads_only hr hres
      rw [hres] at h3
      obtain ⟨rfl, rfl⟩ := h3
      rfl
    | halt x w' =>
      rw [hres] at h3
      exact h3.elim
  · simp only [hw] at h
    exact ⟨undef, .inr ⟨by simpa using hw, rfl⟩, h⟩

theorem wpAnyC_tail {ts : List Nat} (hts : ∀ t, t ∈ ts → T t = true) : ∀ (ks : List Nat) (tl9 : List Oper) (listed : Array Bool) (a : Act) (w : World), (∀ t, t ∈ ks → t ∈ ts) → ks.map (ops[·]?) = tl9.map some → seqIx md ops ks listed = true →
    wpList P ops (onlyNormal Q) tl9 a w → wpAnyC P md ops C T Q ks.length listed a w
  | [], [], listed, a, w, _, _, hB, h => by
    unfold wpList at h
    exact ⟨by simpa [seqIx] using hB, h.2⟩
  | [], o :: tl9, _, _, _, _, hm, _, _ => by simp at hm
  | k :: ks, [], _, _, _, _, hm, _, _ => by simp at hm
  | k :: ks, o :: tl9, listed, a, w, hin, hm, hB, h => by
    simp only [List.map_cons, List.cons.injEq] at hm
    simp only [seqIx, Bool.and_eq_true, decide_eq_true_eq] at hB
    refine ⟨fun h1 => (by rw [hB.1] at h1; cases h1), fun i hi => ?_⟩
    rw [hB.1] at hi
    obtain rfl : i = k := by simpa using hi
    have hw : wpOp P ops (onlyNormal Q) i (wpList P ops (onlyNormal Q) tl9) a w := by unfold wpOp; simp only [hm.1]; exact h
    exact wpOp_mono (fun a' w' h' => ⟨fun hT => absurd (hts i (hin i (by simp))) (by simp [hT]), wpAnyC_tail hts ks tl9 _ a' w' (fun t ht => hin t (by simp [ht])) hm.2 hB.2 h'⟩) hw
theorem wpAnyC_mid {ts : List Nat} {tl9 : List Oper} (hts : ∀ t, t ∈ ts → T t = true) (htm : ts.map (ops[·]?) = tl9.map some) : ∀ (ms : List Nat) (mo : List Oper) (listed : Array Bool) (a : Act) (w : World), ms.map (ops[·]?) = mo.map some → seqIx md ops (ms ++ ts) listed = true →
    wpMid P ops C Q tl9 mo a w → wpAnyC P md ops C T Q (ms.length + ts.length) listed a w
  | [], [], listed, a, w, _, hB, h => by
    rw [List.length_nil, Nat.zero_add]
    exact wpAnyC_tail hts ts tl9 listed a w (fun _ h => h) htm hB h
  | [], o :: mo, _, _, _, hm, _, _ => by simp at hm
  | k :: ks, [], _, _, _, hm, _, _ => by simp at hm
  | k :: ks, o :: mo, listed, a, w, hm, hB, h => by
    simp only [List.map_cons, List.cons.injEq] at hm
    simp only [List.cons_append, seqIx, Bool.and_eq_true, decide_eq_true_eq] at hB
    rw [List.length_cons, show ks.length + 1 + ts.length = (ks.length + ts.length) + 1 by omega]
    refine ⟨fun h1 => (by rw [hB.1] at h1; cases h1), fun i hi => ?_⟩
    rw [hB.1] at hi
    obtain rfl : i = k := by simpa using hi
    have hw : wpOp P ops (onlyNormal Q) i (fun a' w' => C w' ∧ wpMid P ops C Q tl9 mo a' w') a w := by
      unfold wpOp
      simp only [hm.1]
      unfold wpMid at h
      split
      · rename_i hw; rw [if_pos hw] at h; exact .inl h
      · rename_i hw; rw [if_neg hw] at h; exact h
    exact wpOp_mono (fun a' w' h' => ⟨fun _ => h'.1, wpAnyC_mid hts htm ks mo _ a' w' hm.2 hB.2 h'.2⟩) hw
theorem wpAnyC_head {sq : List Nat} {L : Act → World → Prop} (hsel : Region.noSelect ops = true) (hL : ∀ listed a w, seqIx md ops sq listed = true → L a w → wpAnyC P md ops C T Q sq.length listed a w) :
    ∀ (hs : List Nat) (ho : List Oper) (listed : Array Bool) (a : Act) (w : World), C w → hs.map (ops[·]?) = ho.map some → headIx md ops sq hs listed = true → (∀ o ∈ ho, readsB o = true) →
      (∀ i ∈ hs, ∀ j oj, T j = true → ops[j]? = some oj → ∃ e ∈ oj.after, Region.binds md e = true ∧ e.on = i) → wpQuiet P ops C (fun a' => L a' w) ho a → wpAnyC P md ops C T Q (hs.length + sq.length) listed a w
  | [], [], listed, a, w, _, _, hB, _, _, h => by
    rw [List.length_nil, Nat.zero_add]
    exact hL listed a w hB h
  | [], o :: ho, _, _, _, _, hm, _, _, _, _ => by simp at hm
  | k :: ks, [], _, _, _, _, hm, _, _, _, _ => by simp at hm
  | k :: ks, o :: ho, listed, a, w, hC, hm, hB, hr, hT, h => by
    simp only [List.map_cons, List.cons.injEq] at hm
    simp only [headIx, Bool.and_eq_true] at hB
    obtain ⟨⟨hr1, hf⟩, hB'⟩ := hB
    rw [List.length_cons, show ks.length + 1 + sq.length = (ks.length + sq.length) + 1 by omega]
    obtain ⟨v, hy, hK⟩ := yieldsC_of_quiet (ops := ops) (hr o (by simp)) h
    exact wpAnyC_first hm.1 (Region.noSelect_spec hsel) (hT k (by simp)) _ listed a w hC (Region.free_spec hm.1 hf) (by simpa using hr1) hy
      (wpAnyC_head hsel hL ks ho _ _ w hC hm.2 hB' (fun o' h' => hr o' (by simp [h'])) (fun i hi => hT i (by simp [hi])) hK)

/-! ### the operations by kinds -/
inductive Kd | h | m | t
def pickH : List Kd → List Oper → List Oper
  | .h :: ks, o :: l => o :: pickH ks l
  | .m :: ks, _ :: l => pickH ks l
  | .t :: ks, _ :: l => pickH ks l
  | _, _ => []
def pickM : List Kd → List Oper → List Oper
  | .h :: ks, _ :: l => pickM ks l
  | .m :: ks, o :: l => o :: pickM ks l
  | .t :: ks, _ :: l => pickM ks l
  | _, _ => []
def pickT : List Kd → List Oper → List Oper
  | .h :: ks, _ :: l => pickT ks l
  | .m :: ks, _ :: l => pickT ks l
  | .t :: ks, o :: l => o :: pickT ks l
  | _, _ => []
def ixH : List Kd → Nat → List Nat
  | [], _ => []
  | .h :: ks, n => n :: ixH ks (n + 1)
  | .m :: ks, n => ixH ks (n + 1)
  | .t :: ks, n => ixH ks (n + 1)
def ixM : List Kd → Nat → List Nat
  | [], _ => []
  | .h :: ks, n => ixM ks (n + 1)
  | .m :: ks, n => n :: ixM ks (n + 1)
  | .t :: ks, n => ixM ks (n + 1)
def ixT : List Kd → Nat → List Nat
  | [], _ => []
  | .h :: ks, n => ixT ks (n + 1)
  | .m :: ks, n => ixT ks (n + 1)
  | .t :: ks, n => n :: ixT ks (n + 1)
theorem ixH_map : ∀ (ks : List Kd) (l pre : List Oper), ks.length = l.length → (ixH ks pre.length).map ((pre ++ l)[·]?) = (pickH ks l).map some
  | [], [], _, _ => rfl
  | [], _ :: _, _, h => by simp at h
  | _ :: _, [], _, h => by simp at h
  | k :: ks, o :: l, pre, h => by
    have ih := ixH_map ks l (pre ++ [o]) (by simpa using h)
    simp only [List.length_append, List.length_singleton, List.append_assoc, List.singleton_append] at ih
    cases k <;> simp only [ixH, pickH, List.map_cons, ih] <;> simp
theorem ixM_map : ∀ (ks : List Kd) (l pre : List Oper), ks.length = l.length → (ixM ks pre.length).map ((pre ++ l)[·]?) = (pickM ks l).map some
  | [], [], _, _ => rfl
  | [], _ :: _, _, h => by simp at h
  | _ :: _, [], _, h => by simp at h
  | k :: ks, o :: l, pre, h => by
    have ih := ixM_map ks l (pre ++ [o]) (by simpa using h)
    simp only [List.length_append, List.length_singleton, List.append_assoc, List.singleton_append] at ih
    cases k <;> simp only [ixM, pickM, List.map_cons, ih] <;> simp
theorem ixT_map : ∀ (ks : List Kd) (l pre : List Oper), ks.length = l.length → (ixT ks pre.length).map ((pre ++ l)[·]?) = (pickT ks l).map some
  | [], [], _, _ => rfl
  | [], _ :: _, _, h => by simp at h
  | _ :: _, [], _, h => by simp at h
  | k :: ks, o :: l, pre, h => by
    have ih := ixT_map ks l (pre ++ [o]) (by simpa using h)
    simp only [List.length_append, List.length_singleton, List.append_assoc, List.singleton_append] at ih
    cases k <;> simp only [ixT, pickT, List.map_cons, ih] <;> simp

def kdB (md : Region.Mode) (l : List Oper) (ks : List Kd) : Bool :=
  decide (ks.length = l.length) && midB md l.toArray (ixH ks 0) (ixM ks 0) (ixT ks 0) && (pickH ks l).all readsB
/-- a region that draws its order, walked in one order -/
theorem wp_region_mid {id : Nat} {a : Act} {w : World} {l : List Oper} (C : World → Prop) (ks : List Kd) (hm : P.follows .mixedOrders = true) (hB : kdB .any l ks = true) (hC : C w.drew)
    (h : wpQuiet P l.toArray C (fun a' => wpMid P l.toArray C Q (pickT ks l) (pickM ks l) a' w.drew) (pickH ks l) a) : (Code.region id l.toArray true).wp P Q a w := by
  simp only [kdB, midB, Bool.and_eq_true, decide_eq_true_eq] at hB
  obtain ⟨⟨hlen, ⟨⟨⟨⟨hsel, hsz⟩, hw⟩, _⟩, hx⟩⟩, hr⟩ := hB
  have e1 := ixH_map ks l [] hlen
  have e2 := ixM_map ks l [] hlen
  have e3 := ixT_map ks l [] hlen
  simp only [List.length_nil, List.nil_append] at e1 e2 e3
  refine wp_region_any hm (wpAny_of_C (C := C) (T := fun i => decide (i ∈ ixT ks 0)) _ _ _ _ ?_)
  have := wpAnyC_head (P := P) (md := .any) (ops := l.toArray) (C := C) (T := fun i => decide (i ∈ ixT ks 0)) (Q := Q) (sq := ixM ks 0 ++ ixT ks 0) (L := wpMid P l.toArray C Q (pickT ks l) (pickM ks l)) hsel
    (fun listed a w hs hL => by
      rw [List.length_append]
      exact wpAnyC_mid (fun t ht => by simpa using ht) (by simpa using e3) (ixM ks 0) (pickM ks l) listed a w (by simpa using e2) hs hL)
    (ixH ks 0) (pickH ks l) (Array.replicate l.toArray.size false) a w.drew hC (by simpa using e1) hx (fun o ho => List.all_eq_true.1 hr o ho)
    (fun i hi j oj hT hj => by
      have h1 := List.all_eq_true.1 hw j (by simpa using hT)
      have h2 := List.all_eq_true.1 h1 i hi
      unfold waits at h2
      rw [hj] at h2
      obtain ⟨e, he, hb⟩ := Array.any_eq_true'.1 h2
      simp only [Bool.and_eq_true, beq_iff_eq] at hb
      exact ⟨e, he, hb.1, hb.2⟩) h
  rw [List.length_append, hsz] at this
  exact this
end
end Go.Proofs.YtajglgkjpagcjaaDoor.Lb
