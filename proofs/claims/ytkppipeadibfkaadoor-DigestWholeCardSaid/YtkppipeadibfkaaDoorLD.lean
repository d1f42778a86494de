/- What the rows' list gives: the table of SHA-256 lies in block 0. -/
import Derived.Test.YtkppipeadibfkaaDoorRows
import Derived.Test.YtkppipeadibfkaaDoorF
import Derived.Deep.DeepHandedRow
import Derived.Lib.LaidTab
namespace Go.Proofs.YtkppipeadibfkaaDoor
open Go.RowKit Go.Proofs.YtkppipeadibfkaaDoorW.PrintWords KB WG
set_option linter.unusedVariables false
theorem gTab : Tryd.prog.globalNamed "postern/digest.keys" = some 0 := by kernel_rfl
theorem gTabType : (Tryd.prog.globals[0]?).map (·.type) = some 84 := by kernel_rfl
theorem cells84 : Tryd.prog.cellsOf 84 = 64 := by kernel_rfl
theorem cells73 : Tryd.prog.cellsOf 73 = 1 := by kernel_rfl
def kInts : List Int := kTab.map fun x => (x.toNat : Int)
theorem laid_keys : (Rows.laid_postern_digest_keys : DataW Unit) = Lib.tabData .u32 kInts := by kernel_rfl
theorem kt_of_laid {W : World} (h : laidMetH Tryd.prog [("postern/digest.keys", Rows.laid_postern_digest_keys)] W) : At W ⟨0, 0, none⟩ (wcs kTab) := by
  have hT : Lib.TabIs Tryd.prog W "postern/digest.keys" .u32 kInts := Lib.tabIs_of_head (rest := []) gTab gTabType Tryd.underlying84 Tryd.underlying73 cells73 cells84 (by rw [laid_keys] at h; exact h)
  intro j v hv
  have hj : j < kTab.length := by have := (List.getElem?_eq_some_iff.1 hv).1; rwa [wcs_len] at this
  have := hT.cell gTab j (by rw [kInts, List.length_map]; exact hj)
  rw [addr_add, Nat.zero_add, this]
  rw [wcs_get hj] at hv
  rw [← hv]
  simp [kInts, wv, List.getD_eq_getElem?_getD, List.getElem?_eq_getElem hj]
/-- A world for the witness. -/
noncomputable def laidWorld (os : Os) : World :=
  { World.holding Tryd.prog os ⟨#[], #[], []⟩ with heap := (World.holding Tryd.prog os ⟨#[], #[], []⟩).heap.modify 0 fun
      | .cells _ t frozen => .cells (wcs kTab).toArray t frozen
      | o => o }
end Go.Proofs.YtkppipeadibfkaaDoor
