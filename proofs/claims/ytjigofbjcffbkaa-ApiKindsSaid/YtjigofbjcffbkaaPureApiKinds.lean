/- The law ApiKinds of the given program answers true. No conditions. -/
import Derived.Test.YtjigofbjcffbkaaPApiKindsx1
namespace Go.Proofs.Ytjigofbjcffbkaa.Pure
open Go.RowKit Go.Proofs.Ytjigofbjcffbkaa.PApiKinds Go.Proofs.YtjigofbjcffbkaaW.PrintWords Go.Proofs.YtjigofbjcffbkaaW.PrintLast

/-- YOURS: ∃ k, posternlaw0_ApiKinds.f k  = some true
What it reaches (each with k first where it has rounds; `.mono`: more rounds tell the same; `.l0`, ..: its loops, with `.mono_l`): posternlaw0_same.f, posternlaw0_ApiKinds.f -/
theorem ApiKinds : posternlaw0_ApiKinds.Pure := by
  exact ⟨200, by decide +kernel⟩

end Go.Proofs.Ytjigofbjcffbkaa.Pure
