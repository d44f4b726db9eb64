/-
  Closed facts on the types of this seat's program. Conditions: none.
-/
import Derived.Test.YtomjniijnpnehaaDoorProg
import Derived.Test.YtomjniijnpnehaaDoorLib
namespace Go.Proofs.YtomjniijnpnehaaDoor.Lb
open Go

theorem inf_u8 : (Tryd.prog.info? 5).map (fun i => (i.zero, i.size, i.bytes)) = some (some (.int .u8 0), 1, 1) := by kernel_rfl
theorem sz_u8 : (Tryd.prog.info? 5).map (·.size) = some 1 := by kernel_rfl
theorem ld_u8 (ad : Addr) (u : Value) (w : World) (h : w.cell? ad = some u) : (loadVar 5 ad).run Tryd.prog w = .ok u w := load_one _ _ Tryd.underlying5 rfl ad u w h
theorem inf_int : (Tryd.prog.info? 3).map (fun i => (i.zero, i.size, i.bytes)) = some (some (.int .i64 0), 1, 8) := by kernel_rfl
theorem sz_int : (Tryd.prog.info? 3).map (·.size) = some 1 := by kernel_rfl
theorem ld_int (ad : Addr) (u : Value) (w : World) (h : w.cell? ad = some u) : (loadVar 3 ad).run Tryd.prog w = .ok u w := load_one _ _ Tryd.underlying3 rfl ad u w h
theorem inf_str : (Tryd.prog.info? 9).map (fun i => (i.zero, i.size, i.bytes)) = some (some (.string .empty), 1, 16) := by kernel_rfl
theorem sz_str : (Tryd.prog.info? 9).map (·.size) = some 1 := by kernel_rfl
theorem ld_str (ad : Addr) (u : Value) (w : World) (h : w.cell? ad = some u) : (loadVar 9 ad).run Tryd.prog w = .ok u w := load_one _ _ Tryd.underlying9 rfl ad u w h
theorem inf_dig : (Tryd.prog.info? 44).map (fun i => (i.zero, i.size, i.bytes)) = some (some (.agg (Array.replicate 16 (.int .u8 0))), 16, 16) := by kernel_rfl
theorem zr_dig : (Tryd.prog.info? 44).map (·.zero) = some (some (.agg (Array.replicate 16 (.int .u8 0)))) := by kernel_rfl
theorem sz_dig : (Tryd.prog.info? 44).map (·.size) = some 16 := by kernel_rfl
theorem ld_bs (ad : Addr) (u : Value) (w : World) (h : w.cell? ad = some u) : (loadVar 22 ad).run Tryd.prog w = .ok u w := load_one _ _ Tryd.underlying22 rfl ad u w h
end Go.Proofs.YtomjniijnpnehaaDoor.Lb
