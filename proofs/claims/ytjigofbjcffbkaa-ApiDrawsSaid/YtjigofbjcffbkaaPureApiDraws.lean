/- The law ApiDraws of the given program answers true. (Closed.) No conditions. -/
import Derived.Test.YtjigofbjcffbkaaRdApiDraws
namespace Go.Proofs.Ytjigofbjcffbkaa.Pure
open Go.Proofs.Ytjigofbjcffbkaa.PApiDraws

theorem ApiDraws : LawPure := rfl

end Go.Proofs.Ytjigofbjcffbkaa.Pure
