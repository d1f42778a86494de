/- The law MeterRaw of the given program answers true: whatever configuration and meter there are, every call of package meter ends. No conditions. -/
import Derived.Test.YtflkkkkbbgfbdaaRdMeterRaw
namespace Go.Proofs.Ytflkkkkbbgfbdaa.Pure
open Go.RowKit Go.Proofs.Ytflkkkkbbgfbdaa.PMeterRaw

theorem MeterRaw : LawPure := by
  intro x ⟨⟨h1, h2⟩, hl, hw⟩
  unfold posternlaw8_MeterRaw.f
  exact if_pos ⟨⟨RD.wf_i64 h1, RD.wf_u64 h2, by omega⟩, fun y hy => ⟨RD.wf_i64 (hw y hy).2.1, RD.wf_u64 (hw y hy).2.2.1, RD.wf_i64 (hw y hy).2.2.2⟩⟩

end Go.Proofs.Ytflkkkkbbgfbdaa.Pure
