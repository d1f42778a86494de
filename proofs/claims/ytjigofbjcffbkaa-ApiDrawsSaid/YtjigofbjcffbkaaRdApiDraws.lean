-- Written by xprint.py, a program of this session's, over the kit's print.
import Derived.Test.YtjigofbjcffbkaaRD
import Derived.Test.YtjigofbjcffbkaaWLast
import Derived.Test.YtjigofbjcffbkaaA
namespace Go.Proofs.Ytjigofbjcffbkaa.PApiDraws
open Go.RowKit Go.Proofs.YtjigofbjcffbkaaW.PrintWords Go.Proofs.YtjigofbjcffbkaaW.PrintLast
set_option linter.unusedVariables false

/-- THE ONE PURE STATEMENT of the law. -/
def LawPure : Prop := posternlaw0_ApiDraws.f  = some true
end Go.Proofs.Ytjigofbjcffbkaa.PApiDraws
