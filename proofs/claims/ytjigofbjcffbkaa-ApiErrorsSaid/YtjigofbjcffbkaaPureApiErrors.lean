/- The law ApiErrors of the given program answers true. No conditions. -/
import Derived.Test.YtjigofbjcffbkaaPApiErrorsx1
namespace Go.Proofs.Ytjigofbjcffbkaa.Pure
open Go.RowKit Go.Proofs.Ytjigofbjcffbkaa.PApiErrors Go.Proofs.YtjigofbjcffbkaaW.PrintWords Go.Proofs.YtjigofbjcffbkaaW.PrintLast

/-- YOURS: ∃ k, posternlaw0_ApiErrors.f k  = some true
What it reaches (each with k first where it has rounds; `.mono`: more rounds tell the same; `.l0`, ..: its loops, with `.mono_l`): posternlaw0_same.f, posternlaw0_num.f, posternlaw0_errors1.f, posternlaw0_errors2.f, posternlaw0_errors3.f, posternlaw0_errors4.f, posternlaw0_ApiErrors.f -/
theorem ApiErrors : posternlaw0_ApiErrors.Pure := by
  exact ⟨200, by decide +kernel⟩

end Go.Proofs.Ytjigofbjcffbkaa.Pure
