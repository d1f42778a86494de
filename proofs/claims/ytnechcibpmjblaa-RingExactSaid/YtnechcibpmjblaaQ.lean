/- What a ring is without one of its keys. No conditions but those of each lemma. -/
import Derived.Test.YtnechcibpmjblaaN
namespace Go.Proofs.Ytnechcibpmjblaa
open Go.RowKit Go.Proofs.YtnechcibpmjblaaW.PrintWords KB
set_option linter.unusedVariables false

/-- A ring x without the key k of the ring init ++ [last]. -/
structure Gone (init : List Key) (last : Key) (next : Int) (k : Key) (s : Bs 32) (init' : List Key) (last' : Key) (next' : Int) : Prop where
  ring : IsRing init' last' next'
  gone : ∀ x ∈ init' ++ [last'], x.kid ≠ k.kid
  others : ∀ x ∈ init ++ [last], x ≠ k → x ∈ init' ++ [last']
  other : k.kid ≠ last.kid → last' = last ∧ next' = next ∧ init'.length + 1 = init.length
  same : k.kid = last.kid → last' = ⟨next, s, 0⟩ ∧ next' = next + 1 ∧ init'.length = init.length
  nonneg : 0 ≤ next'
theorem Gone.find_none {init : List Key} {last : Key} {next : Int} {k : Key} {s : Bs 32} {init' : List Key} {last' : Key} {next' : Int} (g : Gone init last next k s init' last' next') : findF k.kid (init' ++ [last']) next' = zKey := g.ring.find_none g.gone
theorem Gone.find {init : List Key} {last : Key} {next : Int} {k : Key} {s : Bs 32} {init' : List Key} {last' : Key} {next' : Int} (g : Gone init last next k s init' last' next') {x : Key} (hx : x ∈ init ++ [last]) (hn : x ≠ k) : findF x.kid (init' ++ [last']) next' = x := g.ring.find (g.others x hx hn)
end Go.Proofs.Ytnechcibpmjblaa
