/- The law ApiLimits of the given program answers true. No conditions. -/
import Derived.Test.YtjigofbjcffbkaaPApiLimitsx1
namespace Go.Proofs.Ytjigofbjcffbkaa.Pure
open Go.RowKit Go.Proofs.Ytjigofbjcffbkaa.PApiLimits Go.Proofs.YtjigofbjcffbkaaW.PrintWords Go.Proofs.YtjigofbjcffbkaaW.PrintLast

/-- YOURS: ∃ k, posternlaw0_ApiLimits.f k  = some true
What it reaches (each with k first where it has rounds; `.mono`: more rounds tell the same; `.l0`, ..: its loops, with `.mono_l`): posternlaw0_same.f, posternlaw0_ApiLimits.f -/
theorem ApiLimits : posternlaw0_ApiLimits.Pure := by
  exact ⟨200, by decide +kernel⟩

end Go.Proofs.Ytjigofbjcffbkaa.Pure
