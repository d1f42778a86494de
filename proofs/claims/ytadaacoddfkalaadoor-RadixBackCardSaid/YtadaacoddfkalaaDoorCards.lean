/-
  DERIVED. GIVEN WITH THE SEED: THE CARDS: each row of YtadaacoddfkalaaDoorRows.lean that lists a variable, with what it lists TIED to the program's text (the seventh form; the later family's looks); each row that meets fmt, with fmt's text TOLD by the authors' own Lean function (tested against real Go, not proved from fmt's source: count such statements apart). THE CARD IS WHAT COUNTS. Prove the row's statement (the work); the ties are given (YtadaacoddfkalaaDoorTie.lean); close each card by the builder's one call (the guide's Derived/Test/ToyasCard.lean, 'card_holds'). Laid BY PROGRAM, IN A SANDBOX (cutbox-door.mjs). By AI agents, Wed Nov 11 2026. No macro, syntax, notation, axiom, sorry.
-/
import Derived.Test.YtadaacoddfkalaaDoorRows
import GoSem.ClaimSeven
namespace Go.Proofs.YtadaacoddfkalaaDoor
namespace Rows

/-- THE TIED CARD OF 'posternlaw1.RadixJoins'. -/
def radixJoinsCard : Claim7 := { stood := { row := radixJoinsRow, standIns := [], harness := (true, "ff60ceecd42838b13edf22562441992e00f3b103363fb1610233c81f6b5eedf5"), looks := true }, kinds := [], alts := [], laidByText := true, laidKinds := [.data, .data, .data, .data, .sentinel, .sentinel, .pinned], laidTests := true, laidLooks := .later }
def RadixJoinsCardSaid : Prop := Claim7.holds Tryd.pinned (.plain (OpenSpec.ofChange radixJoinsSpec)) radixJoinsCard

/-- THE TIED CARD OF 'posternlaw1.RadixOne'. -/
def radixOneCard : Claim7 := { stood := { row := radixOneRow, standIns := [], harness := (true, "ff60ceecd42838b13edf22562441992e00f3b103363fb1610233c81f6b5eedf5"), looks := true }, kinds := [], alts := [], laidByText := true, laidKinds := [.data, .data, .data, .data, .sentinel, .sentinel, .pinned], laidTests := true, laidLooks := .later }
def RadixOneCardSaid : Prop := Claim7.holds Tryd.pinned (.plain (OpenSpec.ofChange radixOneSpec)) radixOneCard

/-- THE TIED CARD OF 'posternlaw1.RadixBack'. -/
def radixBackCard : Claim7 := { stood := { row := radixBackRow, standIns := [], harness := (true, "ff60ceecd42838b13edf22562441992e00f3b103363fb1610233c81f6b5eedf5"), looks := true }, kinds := [], alts := [], laidByText := true, laidKinds := [.data, .data, .data, .data, .sentinel, .sentinel, .pinned], laidTests := true, laidLooks := .later }
def RadixBackCardSaid : Prop := Claim7.holds Tryd.pinned (.plain (OpenSpec.ofChange radixBackSpec)) radixBackCard

/-- THE SECOND FORM's CARD OF 'posternlaw1.RadixJoins'. -/
def radixJoinsUptoCard : Claim7 := { stood := { row := radixJoinsUptoRow, standIns := [], harness := (true, "ff60ceecd42838b13edf22562441992e00f3b103363fb1610233c81f6b5eedf5"), looks := true }, kinds := [], alts := [], laidByText := true, laidKinds := [.data, .data, .data, .data, .sentinel, .sentinel, .pinned], laidTests := true, laidLooks := .later }
def RadixJoinsUptoCardSaid : Prop := Claim7.holds Tryd.pinned (.plain (OpenSpec.upto radixJoinsSpec)) radixJoinsUptoCard

/-- THE SECOND FORM's CARD OF 'posternlaw1.RadixOne'. -/
def radixOneUptoCard : Claim7 := { stood := { row := radixOneUptoRow, standIns := [], harness := (true, "ff60ceecd42838b13edf22562441992e00f3b103363fb1610233c81f6b5eedf5"), looks := true }, kinds := [], alts := [], laidByText := true, laidKinds := [.data, .data, .data, .data, .sentinel, .sentinel, .pinned], laidTests := true, laidLooks := .later }
def RadixOneUptoCardSaid : Prop := Claim7.holds Tryd.pinned (.plain (OpenSpec.upto radixOneSpec)) radixOneUptoCard

/-- THE SECOND FORM's CARD OF 'posternlaw1.RadixBack'. -/
def radixBackUptoCard : Claim7 := { stood := { row := radixBackUptoRow, standIns := [], harness := (true, "ff60ceecd42838b13edf22562441992e00f3b103363fb1610233c81f6b5eedf5"), looks := true }, kinds := [], alts := [], laidByText := true, laidKinds := [.data, .data, .data, .data, .sentinel, .sentinel, .pinned], laidTests := true, laidLooks := .later }
def RadixBackUptoCardSaid : Prop := Claim7.holds Tryd.pinned (.plain (OpenSpec.upto radixBackSpec)) radixBackUptoCard
end Rows
end Go.Proofs.YtadaacoddfkalaaDoor
