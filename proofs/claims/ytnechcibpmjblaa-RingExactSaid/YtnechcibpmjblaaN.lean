/- The walk of posternlaw5.grown: a life's ring is a ring. Conditions: the turns are read. -/
import Derived.Test.YtnechcibpmjblaaL
namespace Go.Proofs.Ytnechcibpmjblaa
open Go.RowKit Go.Proofs.YtnechcibpmjblaaW.PrintWords KB
set_option linter.unusedVariables false
set_option linter.unusedSimpArgs false

theorem RO.grown {w w1 : World} {A : Option Addr} {c : Nat} {r : Rg} {g t : Nat} {cells : Array Value} (h : RO w A c r) (hb : w.heap[g]? = some (.cells cells t (0, 0))) (ht : 107 ≠ t) (hg : w.grownBy w1 (some g)) : RO w1 A c r :=
  Kd.R_mono (Kd.R_grown (ok := fun k => True ∧ k ≠ g) (Kd.R_types h hb (fun q hq => by
    obtain rfl : q = 107 := by simpa [kKey, kBlk] using hq
    exact ht)) hg (fun k hk he => hk.2 (by injection he))) (fun _ _ => trivial)
end Go.Proofs.Ytnechcibpmjblaa
