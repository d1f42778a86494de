/-
  No cell of these rows narrows 'for every input' (looked for: loops, veiled, ifaces, maps, wideKeys, modest, calm, conditions, laid).
  DERIVED. THE GIVEN ROWS OF THIS SEAT. 5 by the template 'for every input the law returns true; each argument reads behind the call as it read before'; 0 by the template 'total and deterministic' (their statements: YtnechcibpmjblaaTotals.lean).
  GIVEN WITH THE SEED: the statements are not yours to turn. If you find one false, say at which input.
  Laid BY PROGRAM, IN A SANDBOX (cutbox-rows.mjs): the forced cells as the released guide's own fill.sh prints them over the translation 6548e9bf560915b5… (all of the seat's roots in one cut). By AI agents, Wed Nov 11 2026. No macro, syntax, notation, axiom, sorry.
-/
import Derived.Test.YtnechcibpmjblaaChecked
import GoSem.Claim
import GoSem.ClaimJoined
import GoSem.ClaimMapViews
import Derived.JoinedTies
import Derived.KernelRfl
namespace Go.Proofs.Ytnechcibpmjblaa
/- THE CELL 'sum', in the pinned program and in every row, IS THE sha256 OF THE DUMP (.gsa) THAT YtnechcibpmjblaaProg.lean LOADS. Nothing in Lean hashes anything: it is a label: what it is worth is what the hold of that sum in a sandbox is worth. -/
noncomputable def Try.pinned : Pinned := { name := "ytnechcibpmjblaa", sum := "6548e9bf560915b56848c74a72ec399c95c16c3b72681a886ad7a865690ac35e", checked := Try.checked }
namespace Rows
def none {H : Type} : Left H := { results := [], args := [] }

/-- 'posternlaw5.RingExact': WHATEVER THE INPUT: true; the input reads as it did. -/
def ringExactSpec : ChangeSpec := { name := "ringExact", fn := fun _ => fun
  | [d] => { results := [.lit (.bool true)], args := [d] }
  | _ => none }
def ringExactRow : OpenClaim := { program := "ytnechcibpmjblaa", sum := "6548e9bf560915b56848c74a72ec399c95c16c3b72681a886ad7a865690ac35e", func := "postern/posternlaw5.RingExact", spec := "ringExact", unfollowed := true, recurses := true, apart := false }
def RingExactSaid : Prop := ringExactRow.holds Try.pinned (OpenSpec.ofChange ringExactSpec)

/-- ITS FALSE NEIGHBOUR: 'it returns false'. Refute it at one input. -/
def ringExactWrong : ChangeSpec := { name := "ringExact", fn := fun _ => fun
  | [d] => { results := [.lit (.bool false)], args := [d] }
  | _ => none }
def RingExactWrongFalsely : Prop := ringExactRow.holds Try.pinned (OpenSpec.ofChange ringExactWrong)

/-- 'posternlaw5.RingForms': WHATEVER THE INPUT: true; the input reads as it did. -/
def ringFormsSpec : ChangeSpec := { name := "ringForms", fn := fun _ => fun
  | [d] => { results := [.lit (.bool true)], args := [d] }
  | _ => none }
def ringFormsRow : OpenClaim := { program := "ytnechcibpmjblaa", sum := "6548e9bf560915b56848c74a72ec399c95c16c3b72681a886ad7a865690ac35e", func := "postern/posternlaw5.RingForms", spec := "ringForms", unfollowed := true, recurses := true, apart := false }
def RingFormsSaid : Prop := ringFormsRow.holds Try.pinned (OpenSpec.ofChange ringFormsSpec)

/-- ITS FALSE NEIGHBOUR: 'it returns false'. Refute it at one input. -/
def ringFormsWrong : ChangeSpec := { name := "ringForms", fn := fun _ => fun
  | [d] => { results := [.lit (.bool false)], args := [d] }
  | _ => none }
def RingFormsWrongFalsely : Prop := ringFormsRow.holds Try.pinned (OpenSpec.ofChange ringFormsWrong)

/-- 'posternlaw5.RingLives': WHATEVER THE INPUT: true; the input reads as it did. -/
def ringLivesSpec : ChangeSpec := { name := "ringLives", fn := fun _ => fun
  | [d] => { results := [.lit (.bool true)], args := [d] }
  | _ => none }
def ringLivesRow : OpenClaim := { program := "ytnechcibpmjblaa", sum := "6548e9bf560915b56848c74a72ec399c95c16c3b72681a886ad7a865690ac35e", func := "postern/posternlaw5.RingLives", spec := "ringLives", unfollowed := true, recurses := true, apart := false }
def RingLivesSaid : Prop := ringLivesRow.holds Try.pinned (OpenSpec.ofChange ringLivesSpec)

/-- ITS FALSE NEIGHBOUR: 'it returns false'. Refute it at one input. -/
def ringLivesWrong : ChangeSpec := { name := "ringLives", fn := fun _ => fun
  | [d] => { results := [.lit (.bool false)], args := [d] }
  | _ => none }
def RingLivesWrongFalsely : Prop := ringLivesRow.holds Try.pinned (OpenSpec.ofChange ringLivesWrong)

/-- 'posternlaw5.RingTimes': WHATEVER THE INPUT: true; the input reads as it did. -/
def ringTimesSpec : ChangeSpec := { name := "ringTimes", fn := fun _ => fun
  | [d] => { results := [.lit (.bool true)], args := [d] }
  | _ => none }
def ringTimesRow : OpenClaim := { program := "ytnechcibpmjblaa", sum := "6548e9bf560915b56848c74a72ec399c95c16c3b72681a886ad7a865690ac35e", func := "postern/posternlaw5.RingTimes", spec := "ringTimes", unfollowed := true, recurses := true, apart := false }
def RingTimesSaid : Prop := ringTimesRow.holds Try.pinned (OpenSpec.ofChange ringTimesSpec)

/-- ITS FALSE NEIGHBOUR: 'it returns false'. Refute it at one input. -/
def ringTimesWrong : ChangeSpec := { name := "ringTimes", fn := fun _ => fun
  | [d] => { results := [.lit (.bool false)], args := [d] }
  | _ => none }
def RingTimesWrongFalsely : Prop := ringTimesRow.holds Try.pinned (OpenSpec.ofChange ringTimesWrong)

/-- 'posternlaw5.RingSwift': WHATEVER THE INPUT: true; the input reads as it did. -/
def ringSwiftSpec : ChangeSpec := { name := "ringSwift", fn := fun _ => fun
  | [d] => { results := [.lit (.bool true)], args := [d] }
  | _ => none }
def ringSwiftRow : OpenClaim := { program := "ytnechcibpmjblaa", sum := "6548e9bf560915b56848c74a72ec399c95c16c3b72681a886ad7a865690ac35e", func := "postern/posternlaw5.RingSwift", spec := "ringSwift", unfollowed := true, recurses := true, apart := false }
def RingSwiftSaid : Prop := ringSwiftRow.holds Try.pinned (OpenSpec.ofChange ringSwiftSpec)

/-- ITS FALSE NEIGHBOUR: 'it returns false'. Refute it at one input. -/
def ringSwiftWrong : ChangeSpec := { name := "ringSwift", fn := fun _ => fun
  | [d] => { results := [.lit (.bool false)], args := [d] }
  | _ => none }
def RingSwiftWrongFalsely : Prop := ringSwiftRow.holds Try.pinned (OpenSpec.ofChange ringSwiftWrong)

/- THE SECOND FORM. 'bulk': how many values and letters a reading holds, each counted each time it is reached (what is shared counts as often as it is met; a slice's spare places count too). A statement '..UptoSaid' is the law's where the arguments, and the package variables that the reading takes, are together of bulk at most 1048576: NARROWER than '..Said'. Prove '..Said' where nothing that the law and all that it calls make is longer than what came in: it says more and counts as full. Else prove '..UptoSaid'. A law counts once. -/
mutual
def uptoBulk {H : Type} : DataW H → Nat
  | .lit (.string bytes) => bytes.length + 1
  | .lit _ => 1
  | .nil => 1
  | .ptr d => uptoBulk d + 1
  | .slice elems spare => uptoBulkAll elems + uptoBulkAll spare + 1
  | .agg parts => uptoBulkAll parts + 1
  | .iface _ d => uptoBulk d + 1
  | .map entries => uptoBulkEntries entries + 1
  | .held _ => 1
def uptoBulkAll {H : Type} : List (DataW H) → Nat
  | [] => 0
  | d :: r => uptoBulk d + uptoBulkAll r
def uptoBulkEntries {H : Type} : List (Lit × DataW H) → Nat
  | [] => 0
  | x :: r => uptoBulkEntry x + uptoBulkEntries r
def uptoBulkEntry {H : Type} : Lit × DataW H → Nat
  | (.string bytes, d) => bytes.length + uptoBulk d + 1
  | (_, d) => uptoBulk d + 1
 end
def uptoSmall : (H : Type) → List (DataW H) → Bool := fun _ ds => decide (uptoBulkAll ds ≤ 1048576)
def OpenSpec.upto (s : _root_.Go.ChangeSpec) : _root_.Go.OpenSpec := { _root_.Go.OpenSpec.ofChange s with cond := some uptoSmall }

/-- 'posternlaw5.RingExact', WHERE WHAT IT READS IS OF BULK AT MOST 1048576: true; the input reads as it did. -/
def ringExactUptoRow : OpenClaim := { program := "ytnechcibpmjblaa", sum := "6548e9bf560915b56848c74a72ec399c95c16c3b72681a886ad7a865690ac35e", func := "postern/posternlaw5.RingExact", spec := "ringExact", unfollowed := true, recurses := true, apart := false, narrowed := true }
def RingExactUptoSaid : Prop := ringExactUptoRow.holds Try.pinned (OpenSpec.upto ringExactSpec)

/-- 'posternlaw5.RingForms', WHERE WHAT IT READS IS OF BULK AT MOST 1048576: true; the input reads as it did. -/
def ringFormsUptoRow : OpenClaim := { program := "ytnechcibpmjblaa", sum := "6548e9bf560915b56848c74a72ec399c95c16c3b72681a886ad7a865690ac35e", func := "postern/posternlaw5.RingForms", spec := "ringForms", unfollowed := true, recurses := true, apart := false, narrowed := true }
def RingFormsUptoSaid : Prop := ringFormsUptoRow.holds Try.pinned (OpenSpec.upto ringFormsSpec)

/-- 'posternlaw5.RingLives', WHERE WHAT IT READS IS OF BULK AT MOST 1048576: true; the input reads as it did. -/
def ringLivesUptoRow : OpenClaim := { program := "ytnechcibpmjblaa", sum := "6548e9bf560915b56848c74a72ec399c95c16c3b72681a886ad7a865690ac35e", func := "postern/posternlaw5.RingLives", spec := "ringLives", unfollowed := true, recurses := true, apart := false, narrowed := true }
def RingLivesUptoSaid : Prop := ringLivesUptoRow.holds Try.pinned (OpenSpec.upto ringLivesSpec)

/-- 'posternlaw5.RingTimes', WHERE WHAT IT READS IS OF BULK AT MOST 1048576: true; the input reads as it did. -/
def ringTimesUptoRow : OpenClaim := { program := "ytnechcibpmjblaa", sum := "6548e9bf560915b56848c74a72ec399c95c16c3b72681a886ad7a865690ac35e", func := "postern/posternlaw5.RingTimes", spec := "ringTimes", unfollowed := true, recurses := true, apart := false, narrowed := true }
def RingTimesUptoSaid : Prop := ringTimesUptoRow.holds Try.pinned (OpenSpec.upto ringTimesSpec)

/-- 'posternlaw5.RingSwift', WHERE WHAT IT READS IS OF BULK AT MOST 1048576: true; the input reads as it did. -/
def ringSwiftUptoRow : OpenClaim := { program := "ytnechcibpmjblaa", sum := "6548e9bf560915b56848c74a72ec399c95c16c3b72681a886ad7a865690ac35e", func := "postern/posternlaw5.RingSwift", spec := "ringSwift", unfollowed := true, recurses := true, apart := false, narrowed := true }
def RingSwiftUptoSaid : Prop := ringSwiftUptoRow.holds Try.pinned (OpenSpec.upto ringSwiftSpec)

end Rows
end Go.Proofs.Ytnechcibpmjblaa
