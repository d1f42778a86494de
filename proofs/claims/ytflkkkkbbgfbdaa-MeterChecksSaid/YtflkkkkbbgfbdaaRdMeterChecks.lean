-- Written by xprint.py, a program of this session's, over the kit's print.
import Derived.Test.YtflkkkkbbgfbdaaRD
import Derived.Test.YtflkkkkbbgfbdaaPMeterChecksx4
namespace Go.Proofs.Ytflkkkkbbgfbdaa.PMeterChecks
open Go.RowKit Go.Proofs.YtflkkkkbbgfbdaaW.PrintWords Go.Proofs.YtflkkkkbbgfbdaaW.PrintLast
set_option linter.unusedVariables false
def w28 (x : S28) : Prop := ((fun x : Int => (Lit.int .i64 x).wf = true) x.f0) ∧ ((fun x : Int => (Lit.int .u64 x).wf = true) x.f1)
theorem rd28 (W : World) : RD.Reads Try.prog W 28 k28 w28 :=
  (RD.reads_struct Try.underlying28 (show RD.ReadsF _ _ [_, _] 0 _ _ from (RD.readsF_cons (RD.reads_int Try.underlying2) rfl (by kernel_rfl) (RD.readsF_one (RD.reads_int Try.underlying26) rfl (by kernel_rfl)))) (by kernel_rfl) (fun x : S28 => (x.f0, x.f1)) (fun p => (⟨p.1, p.2⟩ : S28)) (fun _ => rfl)).imp (fun _ h => h)
/-- THE ONE PURE STATEMENT of the law. -/
def LawPure : Prop := ∀ (x0 : List (S28)), ((fun l : List _ => l.length * 16 ≤ 140737488351232 ∧ ∀ x ∈ l, w28 x) x0) → ∃ k, posternlaw8_MeterChecks.f k x0 = some true
end Go.Proofs.Ytflkkkkbbgfbdaa.PMeterChecks
