/-
  DERIVED. GIVEN WITH THE SEED: THE CARDS: each row of YtkppipeadibfkaaDoorRows.lean that lists a variable, with what it lists TIED to the program's text (the seventh form; the later family's looks); each row that meets fmt, with fmt's text TOLD by the authors' own Lean function (tested against real Go, not proved from fmt's source: count such statements apart). THE CARD IS WHAT COUNTS. Prove the row's statement (the work); the ties are given (YtkppipeadibfkaaDoorTie.lean); close each card by the builder's one call (the guide's Derived/Test/ToyasCard.lean, 'card_holds'). Laid BY PROGRAM, IN A SANDBOX (cutbox-door.mjs). By AI agents, Wed Nov 11 2026. No macro, syntax, notation, axiom, sorry.
-/
import Derived.Test.YtkppipeadibfkaaDoorRows
import GoSem.ClaimSeven
namespace Go.Proofs.YtkppipeadibfkaaDoor
namespace Rows

/-- THE TIED CARD OF 'posternlaw4.DigestExact'. -/
def digestExactCard : Claim7 := { stood := { row := digestExactRow, standIns := [], harness := (true, "e80ee1413812715baf576e9cb5a6af9d66f8ead0103548b792084c7d0667a63a"), looks := false }, kinds := [], alts := [], laidByText := true, laidKinds := [.data], laidTests := true, laidLooks := .later }
def DigestExactCardSaid : Prop := Claim7.holds Tryd.pinned (.plain (OpenSpec.ofChange digestExactSpec)) digestExactCard

/-- THE TIED CARD OF 'posternlaw4.DigestMac'. -/
def digestMacCard : Claim7 := { stood := { row := digestMacRow, standIns := [], harness := (true, "e80ee1413812715baf576e9cb5a6af9d66f8ead0103548b792084c7d0667a63a"), looks := false }, kinds := [], alts := [], laidByText := true, laidKinds := [.data], laidTests := true, laidLooks := .later }
def DigestMacCardSaid : Prop := Claim7.holds Tryd.pinned (.plain (OpenSpec.ofChange digestMacSpec)) digestMacCard

/-- THE TIED CARD OF 'posternlaw4.DigestSame'. -/
def digestSameCard : Claim7 := { stood := { row := digestSameRow, standIns := [], harness := (true, "e80ee1413812715baf576e9cb5a6af9d66f8ead0103548b792084c7d0667a63a"), looks := false }, kinds := [], alts := [], laidByText := true, laidKinds := [.data], laidTests := true, laidLooks := .later }
def DigestSameCardSaid : Prop := Claim7.holds Tryd.pinned (.plain (OpenSpec.ofChange digestSameSpec)) digestSameCard

/-- THE TIED CARD OF 'posternlaw4.DigestPass'. -/
def digestPassCard : Claim7 := { stood := { row := digestPassRow, standIns := [], harness := (true, "e80ee1413812715baf576e9cb5a6af9d66f8ead0103548b792084c7d0667a63a"), looks := false }, kinds := [], alts := [], laidByText := true, laidKinds := [.data], laidTests := true, laidLooks := .later }
def DigestPassCardSaid : Prop := Claim7.holds Tryd.pinned (.plain (OpenSpec.ofChange digestPassSpec)) digestPassCard

/-- THE TIED CARD OF 'posternlaw4.DigestMade'. -/
def digestMadeCard : Claim7 := { stood := { row := digestMadeRow, standIns := [], harness := (true, "e80ee1413812715baf576e9cb5a6af9d66f8ead0103548b792084c7d0667a63a"), looks := false }, kinds := [], alts := [], laidByText := true, laidKinds := [.data], laidTests := true, laidLooks := .later }
def DigestMadeCardSaid : Prop := Claim7.holds Tryd.pinned (.plain (OpenSpec.ofChange digestMadeSpec)) digestMadeCard

/-- THE TIED CARD OF 'posternlaw4.DigestApart'. -/
def digestApartCard : Claim7 := { stood := { row := digestApartRow, standIns := [], harness := (true, "e80ee1413812715baf576e9cb5a6af9d66f8ead0103548b792084c7d0667a63a"), looks := false }, kinds := [], alts := [], laidByText := true, laidKinds := [.data], laidTests := true, laidLooks := .later }
def DigestApartCardSaid : Prop := Claim7.holds Tryd.pinned (.plain (OpenSpec.ofChange digestApartSpec)) digestApartCard

/-- THE TIED CARD OF 'posternlaw4.DigestParts'. -/
def digestPartsCard : Claim7 := { stood := { row := digestPartsRow, standIns := [], harness := (true, "e80ee1413812715baf576e9cb5a6af9d66f8ead0103548b792084c7d0667a63a"), looks := false }, kinds := [], alts := [], laidByText := true, laidKinds := [.data], laidTests := true, laidLooks := .later }
def DigestPartsCardSaid : Prop := Claim7.holds Tryd.pinned (.plain (OpenSpec.ofChange digestPartsSpec)) digestPartsCard

/-- THE TIED CARD OF 'posternlaw4.DigestWhole'. -/
def digestWholeCard : Claim7 := { stood := { row := digestWholeRow, standIns := [], harness := (true, "e80ee1413812715baf576e9cb5a6af9d66f8ead0103548b792084c7d0667a63a"), looks := false }, kinds := [], alts := [], laidByText := true, laidKinds := [.data], laidTests := true, laidLooks := .later }
def DigestWholeCardSaid : Prop := Claim7.holds Tryd.pinned (.plain (OpenSpec.ofChange digestWholeSpec)) digestWholeCard

/-- THE TIED CARD OF 'posternlaw4.DigestMany'. -/
def digestManyCard : Claim7 := { stood := { row := digestManyRow, standIns := [], harness := (true, "e80ee1413812715baf576e9cb5a6af9d66f8ead0103548b792084c7d0667a63a"), looks := false }, kinds := [], alts := [], laidByText := true, laidKinds := [.data], laidTests := true, laidLooks := .later }
def DigestManyCardSaid : Prop := Claim7.holds Tryd.pinned (.plain (OpenSpec.ofChange digestManySpec)) digestManyCard

/-- THE TIED CARD OF 'posternlaw4.DigestKnown'. -/
def digestKnownCard : Claim7 := { stood := { row := digestKnownRow, standIns := [], harness := (true, "e80ee1413812715baf576e9cb5a6af9d66f8ead0103548b792084c7d0667a63a"), looks := false }, kinds := [], alts := [], laidByText := true, laidKinds := [.data], laidTests := true, laidLooks := .later }
def DigestKnownCardSaid : Prop := Claim7.holds Tryd.pinned (.plain (OpenSpec.ofChange digestKnownSpec)) digestKnownCard

/-- THE SECOND FORM's CARD OF 'posternlaw4.DigestExact'. -/
def digestExactUptoCard : Claim7 := { stood := { row := digestExactUptoRow, standIns := [], harness := (true, "e80ee1413812715baf576e9cb5a6af9d66f8ead0103548b792084c7d0667a63a"), looks := false }, kinds := [], alts := [], laidByText := true, laidKinds := [.data], laidTests := true, laidLooks := .later }
def DigestExactUptoCardSaid : Prop := Claim7.holds Tryd.pinned (.plain (OpenSpec.upto digestExactSpec)) digestExactUptoCard

/-- THE SECOND FORM's CARD OF 'posternlaw4.DigestMac'. -/
def digestMacUptoCard : Claim7 := { stood := { row := digestMacUptoRow, standIns := [], harness := (true, "e80ee1413812715baf576e9cb5a6af9d66f8ead0103548b792084c7d0667a63a"), looks := false }, kinds := [], alts := [], laidByText := true, laidKinds := [.data], laidTests := true, laidLooks := .later }
def DigestMacUptoCardSaid : Prop := Claim7.holds Tryd.pinned (.plain (OpenSpec.upto digestMacSpec)) digestMacUptoCard

/-- THE SECOND FORM's CARD OF 'posternlaw4.DigestSame'. -/
def digestSameUptoCard : Claim7 := { stood := { row := digestSameUptoRow, standIns := [], harness := (true, "e80ee1413812715baf576e9cb5a6af9d66f8ead0103548b792084c7d0667a63a"), looks := false }, kinds := [], alts := [], laidByText := true, laidKinds := [.data], laidTests := true, laidLooks := .later }
def DigestSameUptoCardSaid : Prop := Claim7.holds Tryd.pinned (.plain (OpenSpec.upto digestSameSpec)) digestSameUptoCard

/-- THE SECOND FORM's CARD OF 'posternlaw4.DigestPass'. -/
def digestPassUptoCard : Claim7 := { stood := { row := digestPassUptoRow, standIns := [], harness := (true, "e80ee1413812715baf576e9cb5a6af9d66f8ead0103548b792084c7d0667a63a"), looks := false }, kinds := [], alts := [], laidByText := true, laidKinds := [.data], laidTests := true, laidLooks := .later }
def DigestPassUptoCardSaid : Prop := Claim7.holds Tryd.pinned (.plain (OpenSpec.upto digestPassSpec)) digestPassUptoCard

/-- THE SECOND FORM's CARD OF 'posternlaw4.DigestMade'. -/
def digestMadeUptoCard : Claim7 := { stood := { row := digestMadeUptoRow, standIns := [], harness := (true, "e80ee1413812715baf576e9cb5a6af9d66f8ead0103548b792084c7d0667a63a"), looks := false }, kinds := [], alts := [], laidByText := true, laidKinds := [.data], laidTests := true, laidLooks := .later }
def DigestMadeUptoCardSaid : Prop := Claim7.holds Tryd.pinned (.plain (OpenSpec.upto digestMadeSpec)) digestMadeUptoCard

/-- THE SECOND FORM's CARD OF 'posternlaw4.DigestApart'. -/
def digestApartUptoCard : Claim7 := { stood := { row := digestApartUptoRow, standIns := [], harness := (true, "e80ee1413812715baf576e9cb5a6af9d66f8ead0103548b792084c7d0667a63a"), looks := false }, kinds := [], alts := [], laidByText := true, laidKinds := [.data], laidTests := true, laidLooks := .later }
def DigestApartUptoCardSaid : Prop := Claim7.holds Tryd.pinned (.plain (OpenSpec.upto digestApartSpec)) digestApartUptoCard

/-- THE SECOND FORM's CARD OF 'posternlaw4.DigestParts'. -/
def digestPartsUptoCard : Claim7 := { stood := { row := digestPartsUptoRow, standIns := [], harness := (true, "e80ee1413812715baf576e9cb5a6af9d66f8ead0103548b792084c7d0667a63a"), looks := false }, kinds := [], alts := [], laidByText := true, laidKinds := [.data], laidTests := true, laidLooks := .later }
def DigestPartsUptoCardSaid : Prop := Claim7.holds Tryd.pinned (.plain (OpenSpec.upto digestPartsSpec)) digestPartsUptoCard

/-- THE SECOND FORM's CARD OF 'posternlaw4.DigestWhole'. -/
def digestWholeUptoCard : Claim7 := { stood := { row := digestWholeUptoRow, standIns := [], harness := (true, "e80ee1413812715baf576e9cb5a6af9d66f8ead0103548b792084c7d0667a63a"), looks := false }, kinds := [], alts := [], laidByText := true, laidKinds := [.data], laidTests := true, laidLooks := .later }
def DigestWholeUptoCardSaid : Prop := Claim7.holds Tryd.pinned (.plain (OpenSpec.upto digestWholeSpec)) digestWholeUptoCard

/-- THE SECOND FORM's CARD OF 'posternlaw4.DigestMany'. -/
def digestManyUptoCard : Claim7 := { stood := { row := digestManyUptoRow, standIns := [], harness := (true, "e80ee1413812715baf576e9cb5a6af9d66f8ead0103548b792084c7d0667a63a"), looks := false }, kinds := [], alts := [], laidByText := true, laidKinds := [.data], laidTests := true, laidLooks := .later }
def DigestManyUptoCardSaid : Prop := Claim7.holds Tryd.pinned (.plain (OpenSpec.upto digestManySpec)) digestManyUptoCard

/-- THE SECOND FORM's CARD OF 'posternlaw4.DigestKnown'. -/
def digestKnownUptoCard : Claim7 := { stood := { row := digestKnownUptoRow, standIns := [], harness := (true, "e80ee1413812715baf576e9cb5a6af9d66f8ead0103548b792084c7d0667a63a"), looks := false }, kinds := [], alts := [], laidByText := true, laidKinds := [.data], laidTests := true, laidLooks := .later }
def DigestKnownUptoCardSaid : Prop := Claim7.holds Tryd.pinned (.plain (OpenSpec.upto digestKnownSpec)) digestKnownUptoCard
end Rows
end Go.Proofs.YtkppipeadibfkaaDoor
