/-
  What the rows' listed variables give the walks: the constants lie as the program's text lays them. Conditions: none.
-/
import Derived.Test.YtomjniijnpnehaaDoorOpa
import Derived.Test.YtomjniijnpnehaaDoorRs
import Derived.Lib.LaidTab
import Derived.LaidMore
import Derived.ProofKit
import Derived.OpenShut
import Derived.Stop.Joined
namespace Go.Proofs.YtomjniijnpnehaaDoor.Wi
open Go Go.RowKit Pu Lb

theorem gH : Tryd.prog.globalNamed "scoria/hash.constants" = some 1 := by kernel_rfl
theorem gR : Tryd.prog.globalNamed "scoria/scoriaref02.constants" = some 0 := by kernel_rfl
theorem gtH : (Tryd.prog.globals[1]?).map (·.type) = some 54 := by kernel_rfl
theorem gtR : (Tryd.prog.globals[0]?).map (·.type) = some 54 := by kernel_rfl
abbrev lH : List (String × DataW Unit) := [("scoria/hash.constants", Rows.laid_scoria_hash_constants)]
abbrev lRH : List (String × DataW Unit) := [("scoria/scoriaref02.constants", Rows.laid_scoria_scoriaref02_constants), ("scoria/hash.constants", Rows.laid_scoria_hash_constants)]
def kz : List Int := kk.map fun x => (x.toNat : Int)
theorem dH : (Rows.laid_scoria_hash_constants : DataW Unit) = Lib.tabData .u32 kz := by kernel_rfl
theorem dR : (Rows.laid_scoria_scoriaref02_constants : DataW Unit) = Lib.tabData .u32 kz := by kernel_rfl
theorem tb_of {W : World} {name : String} {g : Nat} (h : Lib.TabIs Tryd.prog W name .u32 kz) (hg : Tryd.prog.globalNamed name = some g) : Tb W g (uv kk) := by
  intro j u hj
  rw [World.var?_cell hg h j]
  simp only [kz, List.map_map] at *
  simpa [uv] using hj
theorem tabH_of {W : World} (h : laidMetH Tryd.prog lH W) : TabH W := by
  rw [MakeChecks.laidMetH_plain _ _ _ (by kernel_rfl)] at h
  unfold lH at h
  rw [dH] at h
  exact tb_of (Lib.tabIs_of_head gH gtH Tryd.underlying54 Tryd.underlying29 (by kernel_rfl) (by kernel_rfl) h) gH
theorem laid_tail {P : Program} {W : World} {n : String} {d : DataW Unit} {rest : List (String × DataW Unit)} (h : laidMet P ((n, d) :: rest) W) : laidMet P rest W := by
  obtain ⟨ps, ⟨g, t, cs, f, p, q, h1, h2, h3, h4, h5, rfl⟩, hnd, hc⟩ := h
  exact ⟨q, h5, (List.nodup_append.1 hnd).2.1, fun b off hm => hc b off (List.mem_append_right _ hm)⟩
theorem tabs_of {W : World} (h : laidMetH Tryd.prog lRH W) : TabR W ∧ TabH W := by
  rw [MakeChecks.laidMetH_plain _ _ _ (by kernel_rfl)] at h
  unfold lRH at h
  rw [dH, dR] at h
  exact ⟨tb_of (Lib.tabIs_of_head gR gtR Tryd.underlying54 Tryd.underlying29 (by kernel_rfl) (by kernel_rfl) h) gR,
    tb_of (Lib.tabIs_of_head gH gtH Tryd.underlying54 Tryd.underlying29 (by kernel_rfl) (by kernel_rfl) (laid_tail h)) gH⟩
theorem doorH (os : Os) (args : Array Value) : laidMetH Tryd.prog lH ((World.doorLaid Tryd.prog 19 os).forCall (fun _ _ => 0) ⟨#[], args, []⟩).memory :=
  laidMetH_of_parts3 (fuel := 8) (laidMet_of_run' 8 (by kernel_rfl) (by kernel_rfl)) (by kernel_rfl) (by kernel_rfl)
theorem doorRH (os : Os) (args : Array Value) : laidMetH Tryd.prog lRH ((World.doorLaid Tryd.prog 19 os).forCall (fun _ _ => 0) ⟨#[], args, []⟩).memory :=
  laidMetH_of_parts3 (fuel := 8) (laidMet_of_run' 8 (by kernel_rfl) (by kernel_rfl)) (by kernel_rfl) (by kernel_rfl)
end Go.Proofs.YtomjniijnpnehaaDoor.Wi
