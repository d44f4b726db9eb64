/-
  Words of 32 bits: the walk's numbers as UInt32; the rotations. Conditions: a rotation by 1 to 31.
-/
import Derived.Test.YtomjniijnpnehaaDoorBlk
import Derived.Test.YtomjniijnpnehaaDoorTy
import Derived.Test.YtomjniijnpnehaaDoorPure
import Derived.Deep.DeepCutAuto
import Derived.Deep.CutBlock
import Derived.Lib.Hide
namespace Go.Proofs.YtomjniijnpnehaaDoor.Pu
open Go
theorem lt32 (x : UInt32) : x.toNat < 4294967296 := x.toNat_lt
theorem ux (x y : UInt32) : bits .xor .u32 (x.toNat : Int) (y.toNat : Int) = ((x ^^^ y).toNat : Int) := by rw [u32_xor_nat _ _ (lt32 x) (lt32 y), UInt32.toNat_xor]
theorem ua (x y : UInt32) : bits .and .u32 (x.toNat : Int) (y.toNat : Int) = ((x &&& y).toNat : Int) := by rw [u32_and_nat _ _ (lt32 x) (lt32 y), UInt32.toNat_and]
theorem uo (x y : UInt32) : bits .or .u32 (x.toNat : Int) (y.toNat : Int) = ((x ||| y).toNat : Int) := by rw [u32_or_nat _ _ (lt32 x) (lt32 y), UInt32.toNat_or]
theorem ofn {n : Nat} (h : n < 4294967296) : (UInt32.ofNat n).toNat = n := by
  show n % 2 ^ 32 = n
  exact Nat.mod_eq_of_lt h
theorem us (x : UInt32) (n : Nat) (h : n < 32) : (x.toNat : Int) / 2 ^ n = ((x >>> UInt32.ofNat n).toNat : Int) := by
  rw [UInt32.toNat_shiftRight, ofn (by omega), Nat.mod_eq_of_lt h, Nat.shiftRight_eq_div_pow]
  norm_cast
theorem ul (x : UInt32) (n : Nat) (h : n < 32) : (x.toNat : Int) * 2 ^ n % 4294967296 = ((x <<< UInt32.ofNat n).toNat : Int) := by
  rw [UInt32.toNat_shiftLeft, ofn (by omega), Nat.mod_eq_of_lt h, Nat.shiftLeft_eq, Int.natCast_emod, Int.natCast_mul, Int.natCast_pow]
  rfl
theorem up (x y : UInt32) : ((x.toNat : Int) + (y.toNat : Int)) % 4294967296 = ((x + y).toNat : Int) := by
  have h := UInt32.toNat_add x y
  rw [h, Int.natCast_emod, Int.natCast_add]
  rfl
/-- a rotation to the right -/
def rr (x : UInt32) (n : Nat) : UInt32 := x >>> UInt32.ofNat n ||| x <<< UInt32.ofNat (32 - n)
theorem and31 (n : Nat) (h0 : 0 < n) (h : n < 32) : bits .and .u64 (IntKind.u64.wrap (-(n : Int))) 31 = ((32 - n : Nat) : Int) := by
  have e : IntKind.u64.wrap (-(n : Int)) = ((18446744073709551616 - n : Nat) : Int) := by rw [IntKind.wrap_u64]; omega
  rw [e, show (31 : Int) = ((31 : Nat) : Int) from rfl, u64_and_nat _ _ (by omega) (by omega), show (31 : Nat) = 2 ^ 5 - 1 from rfl, Nat.and_two_pow_sub_one_eq_mod]
  congr 1; omega
end Go.Proofs.YtomjniijnpnehaaDoor.Pu
namespace Go.Proofs.YtomjniijnpnehaaDoor.Wi
open Go Go.RowKit Pu Lb

set_option maxRecDepth 100000 in
theorem rotl_any (x : UInt32) (n : Nat) (z : Int) (hz : z = -(n : Int)) (hn : 0 < n) (hn2 : n < 32) (w : World) :
    Calls Tryd.prog 40 #[.int .u32 (x.toNat : Int), .int .i64 z] w fun e w' => e = .returned (.int .u32 ((rr x n).toNat : Int)) ∧ w' = w := by
  subst hz
  have hx := lt32 x
  have h1 := and31 n hn hn2
  obtain ⟨m, hm⟩ : ∃ m : Nat, m = 32 - n := ⟨_, rfl⟩
  rw [← hm] at h1
  have hm2 : 32 - m = n := by omega
  have hm3 : m < 32 := by omega
  have HM := Lib.hid hm
  have HM2 := Lib.hid hm2
  clear hm hm2
  go_enter Tryd.func40, Tryd.ntmps40
  go_wp2
  go_ret
  refine ⟨?_, rfl⟩
  show Ending.returned (.int .u32 (bits .or .u32 ((x.toNat : Int) * 2 ^ m % 4294967296) ((x.toNat : Int) / 2 ^ (32 - m)))) = _
  rw [HM2.out, us x n hn2, HM.out, ul x (32 - n) (by omega), uo, UInt32.or_comm]
  rfl

set_option maxRecDepth 100000 in
theorem rotr_any (x : UInt32) (n : Nat) (z : Int) (hz : z = (n : Int)) (hn : 0 < n) (hn2 : n < 32) (w : World) :
    Calls Tryd.prog 29 #[.int .u32 (x.toNat : Int), .int .i64 z] w fun e w' => e = .returned (.int .u32 ((rr x n).toNat : Int)) ∧ ∃ q, w' = w.drewN q := by
  subst hz
  have hx := lt32 x
  go_enter Tryd.func29, Tryd.ntmps29
  go_wp2_with ((refine wp_region_quiet_lit (by kernel_rfl) (by kernel_rfl) ?_; (repeat (first | fail | go_big_quiet_step (fail))); refine wpQuiet_nil ?_; intro _ hw'; obtain ⟨nq, hw''⟩ := hw'; subst hw''))
  go_ret
  refine ⟨?_, _, rfl⟩
  show Ending.returned (.int .u32 (bits .or .u32 ((x.toNat : Int) / 2 ^ n) ((x.toNat : Int) * 2 ^ (32 - n) % 4294967296))) = _
  rw [us x n hn2, ul x (32 - n) (by omega), uo]
  rfl
end Go.Proofs.YtomjniijnpnehaaDoor.Wi
