/-
  NARROWER THAN 'FOR EVERY INPUT', by the rows' own cells (each row's printed sentence says how): DigestExact: laid · DigestMac: laid · DigestSame: laid · DigestPass: laid · DigestMade: laid · DigestApart: laid · DigestParts: laid · DigestWhole: laid · DigestMany: laid · DigestKnown: laid.
  DERIVED. THE GIVEN ROWS OF THIS SEAT. 10 by the template 'for every input the law returns true; each argument reads behind the call as it read before'; 0 by the template 'total and deterministic' (their statements: YtkppipeadibfkaaDoorTotals.lean).
  GIVEN WITH THE SEED: the statements are not yours to turn. If you find one false, say at which input.
  Laid BY PROGRAM, IN A SANDBOX (cutbox-rows.mjs): the forced cells as the released guide's own fill.sh prints them over the translation 1f969c55bd3f7ef0… (all of the seat's roots in one cut). By AI agents, Wed Nov 11 2026. No macro, syntax, notation, axiom, sorry.
-/
import Derived.Test.YtkppipeadibfkaaDoorChecked
import GoSem.Claim
import GoSem.ClaimJoined
import GoSem.ClaimMapViews
import Derived.JoinedTies
import Derived.KernelRfl
namespace Go.Proofs.YtkppipeadibfkaaDoor
/- THE CELL 'sum', in the pinned program and in every row, IS THE sha256 OF THE DUMP (.gsa) THAT YtkppipeadibfkaaDoorProg.lean LOADS. Nothing in Lean hashes anything: it is a label: what it is worth is what the hold of that sum in a sandbox is worth. -/
noncomputable def Tryd.pinned : Pinned := { name := "ytkppipeadibfkaadoor", sum := "1f969c55bd3f7ef01ded1340fcb1688562762b920ecfb98dcf7629099f484c4b", checked := Tryd.checked }
namespace Rows
def none {H : Type} : Left H := { results := [], args := [] }

/- WHAT THE LISTED PACKAGE-LEVEL VARIABLES READ AS WHEN THE CALL BEGINS. Each datum BY PROGRAM (the guide's laid-datum.mjs) off the statement by which the dump's own 'gosem.cut.vars' lays the variable. In a bare row this is a premise. The card (YtkppipeadibfkaaDoorCards.lean) ties it to the program's text. -/
def laid_postern_digest_keys {H : Type} : DataW H := .agg [.lit (.int .u32 1116352408), .lit (.int .u32 1899447441), .lit (.int .u32 3049323471), .lit (.int .u32 3921009573), .lit (.int .u32 961987163), .lit (.int .u32 1508970993), .lit (.int .u32 2453635748), .lit (.int .u32 2870763221), .lit (.int .u32 3624381080), .lit (.int .u32 310598401), .lit (.int .u32 607225278), .lit (.int .u32 1426881987), .lit (.int .u32 1925078388), .lit (.int .u32 2162078206), .lit (.int .u32 2614888103), .lit (.int .u32 3248222580), .lit (.int .u32 3835390401), .lit (.int .u32 4022224774), .lit (.int .u32 264347078), .lit (.int .u32 604807628), .lit (.int .u32 770255983), .lit (.int .u32 1249150122), .lit (.int .u32 1555081692), .lit (.int .u32 1996064986), .lit (.int .u32 2554220882), .lit (.int .u32 2821834349), .lit (.int .u32 2952996808), .lit (.int .u32 3210313671), .lit (.int .u32 3336571891), .lit (.int .u32 3584528711), .lit (.int .u32 113926993), .lit (.int .u32 338241895), .lit (.int .u32 666307205), .lit (.int .u32 773529912), .lit (.int .u32 1294757372), .lit (.int .u32 1396182291), .lit (.int .u32 1695183700), .lit (.int .u32 1986661051), .lit (.int .u32 2177026350), .lit (.int .u32 2456956037), .lit (.int .u32 2730485921), .lit (.int .u32 2820302411), .lit (.int .u32 3259730800), .lit (.int .u32 3345764771), .lit (.int .u32 3516065817), .lit (.int .u32 3600352804), .lit (.int .u32 4094571909), .lit (.int .u32 275423344), .lit (.int .u32 430227734), .lit (.int .u32 506948616), .lit (.int .u32 659060556), .lit (.int .u32 883997877), .lit (.int .u32 958139571), .lit (.int .u32 1322822218), .lit (.int .u32 1537002063), .lit (.int .u32 1747873779), .lit (.int .u32 1955562222), .lit (.int .u32 2024104815), .lit (.int .u32 2227730452), .lit (.int .u32 2361852424), .lit (.int .u32 2428436474), .lit (.int .u32 2756734187), .lit (.int .u32 3204031479), .lit (.int .u32 3329325298)]

/-- 'posternlaw4.DigestExact': WHATEVER THE INPUT: true; the input reads as it did. -/
def digestExactSpec : ChangeSpec := { name := "digestExact", fn := fun _ => fun
  | [d] => { results := [.lit (.bool true)], args := [d] }
  | _ => none }
def digestExactRow : OpenClaim := { program := "ytkppipeadibfkaadoor", sum := "1f969c55bd3f7ef01ded1340fcb1688562762b920ecfb98dcf7629099f484c4b", func := "postern/posternlaw4.DigestExact", spec := "digestExact", named := ["postern/digest.keys"], apart := false, laid := [("postern/digest.keys", laid_postern_digest_keys)] }
def DigestExactSaid : Prop := digestExactRow.holds Tryd.pinned (OpenSpec.ofChange digestExactSpec)

/-- ITS FALSE NEIGHBOUR: 'it returns false'. Refute it at one input. -/
def digestExactWrong : ChangeSpec := { name := "digestExact", fn := fun _ => fun
  | [d] => { results := [.lit (.bool false)], args := [d] }
  | _ => none }
def DigestExactWrongFalsely : Prop := digestExactRow.holds Tryd.pinned (OpenSpec.ofChange digestExactWrong)

/-- 'posternlaw4.DigestMac': WHATEVER THE INPUT: true; the input reads as it did. -/
def digestMacSpec : ChangeSpec := { name := "digestMac", fn := fun _ => fun
  | [d] => { results := [.lit (.bool true)], args := [d] }
  | _ => none }
def digestMacRow : OpenClaim := { program := "ytkppipeadibfkaadoor", sum := "1f969c55bd3f7ef01ded1340fcb1688562762b920ecfb98dcf7629099f484c4b", func := "postern/posternlaw4.DigestMac", spec := "digestMac", named := ["postern/digest.keys"], apart := false, laid := [("postern/digest.keys", laid_postern_digest_keys)] }
def DigestMacSaid : Prop := digestMacRow.holds Tryd.pinned (OpenSpec.ofChange digestMacSpec)

/-- ITS FALSE NEIGHBOUR: 'it returns false'. Refute it at one input. -/
def digestMacWrong : ChangeSpec := { name := "digestMac", fn := fun _ => fun
  | [d] => { results := [.lit (.bool false)], args := [d] }
  | _ => none }
def DigestMacWrongFalsely : Prop := digestMacRow.holds Tryd.pinned (OpenSpec.ofChange digestMacWrong)

/-- 'posternlaw4.DigestSame': WHATEVER THE INPUT: true; the input reads as it did. -/
def digestSameSpec : ChangeSpec := { name := "digestSame", fn := fun _ => fun
  | [d] => { results := [.lit (.bool true)], args := [d] }
  | _ => none }
def digestSameRow : OpenClaim := { program := "ytkppipeadibfkaadoor", sum := "1f969c55bd3f7ef01ded1340fcb1688562762b920ecfb98dcf7629099f484c4b", func := "postern/posternlaw4.DigestSame", spec := "digestSame", named := ["postern/digest.keys"], apart := false, laid := [("postern/digest.keys", laid_postern_digest_keys)] }
def DigestSameSaid : Prop := digestSameRow.holds Tryd.pinned (OpenSpec.ofChange digestSameSpec)

/-- ITS FALSE NEIGHBOUR: 'it returns false'. Refute it at one input. -/
def digestSameWrong : ChangeSpec := { name := "digestSame", fn := fun _ => fun
  | [d] => { results := [.lit (.bool false)], args := [d] }
  | _ => none }
def DigestSameWrongFalsely : Prop := digestSameRow.holds Tryd.pinned (OpenSpec.ofChange digestSameWrong)

/-- 'posternlaw4.DigestPass': WHATEVER THE INPUT: true; the input reads as it did. -/
def digestPassSpec : ChangeSpec := { name := "digestPass", fn := fun _ => fun
  | [d] => { results := [.lit (.bool true)], args := [d] }
  | _ => none }
def digestPassRow : OpenClaim := { program := "ytkppipeadibfkaadoor", sum := "1f969c55bd3f7ef01ded1340fcb1688562762b920ecfb98dcf7629099f484c4b", func := "postern/posternlaw4.DigestPass", spec := "digestPass", named := ["postern/digest.keys"], apart := false, laid := [("postern/digest.keys", laid_postern_digest_keys)] }
def DigestPassSaid : Prop := digestPassRow.holds Tryd.pinned (OpenSpec.ofChange digestPassSpec)

/-- ITS FALSE NEIGHBOUR: 'it returns false'. Refute it at one input. -/
def digestPassWrong : ChangeSpec := { name := "digestPass", fn := fun _ => fun
  | [d] => { results := [.lit (.bool false)], args := [d] }
  | _ => none }
def DigestPassWrongFalsely : Prop := digestPassRow.holds Tryd.pinned (OpenSpec.ofChange digestPassWrong)

/-- 'posternlaw4.DigestMade': WHATEVER THE INPUT: true; the input reads as it did. -/
def digestMadeSpec : ChangeSpec := { name := "digestMade", fn := fun _ => fun
  | [d] => { results := [.lit (.bool true)], args := [d] }
  | _ => none }
def digestMadeRow : OpenClaim := { program := "ytkppipeadibfkaadoor", sum := "1f969c55bd3f7ef01ded1340fcb1688562762b920ecfb98dcf7629099f484c4b", func := "postern/posternlaw4.DigestMade", spec := "digestMade", named := ["postern/digest.keys"], apart := false, laid := [("postern/digest.keys", laid_postern_digest_keys)] }
def DigestMadeSaid : Prop := digestMadeRow.holds Tryd.pinned (OpenSpec.ofChange digestMadeSpec)

/-- ITS FALSE NEIGHBOUR: 'it returns false'. Refute it at one input. -/
def digestMadeWrong : ChangeSpec := { name := "digestMade", fn := fun _ => fun
  | [d] => { results := [.lit (.bool false)], args := [d] }
  | _ => none }
def DigestMadeWrongFalsely : Prop := digestMadeRow.holds Tryd.pinned (OpenSpec.ofChange digestMadeWrong)

/-- 'posternlaw4.DigestApart': WHATEVER THE INPUT: true; the input reads as it did. -/
def digestApartSpec : ChangeSpec := { name := "digestApart", fn := fun _ => fun
  | [d] => { results := [.lit (.bool true)], args := [d] }
  | _ => none }
def digestApartRow : OpenClaim := { program := "ytkppipeadibfkaadoor", sum := "1f969c55bd3f7ef01ded1340fcb1688562762b920ecfb98dcf7629099f484c4b", func := "postern/posternlaw4.DigestApart", spec := "digestApart", named := ["postern/digest.keys"], apart := false, laid := [("postern/digest.keys", laid_postern_digest_keys)] }
def DigestApartSaid : Prop := digestApartRow.holds Tryd.pinned (OpenSpec.ofChange digestApartSpec)

/-- ITS FALSE NEIGHBOUR: 'it returns false'. Refute it at one input. -/
def digestApartWrong : ChangeSpec := { name := "digestApart", fn := fun _ => fun
  | [d] => { results := [.lit (.bool false)], args := [d] }
  | _ => none }
def DigestApartWrongFalsely : Prop := digestApartRow.holds Tryd.pinned (OpenSpec.ofChange digestApartWrong)

/-- 'posternlaw4.DigestParts': WHATEVER THE INPUT: true; the input reads as it did. -/
def digestPartsSpec : ChangeSpec := { name := "digestParts", fn := fun _ => fun
  | [d] => { results := [.lit (.bool true)], args := [d] }
  | _ => none }
def digestPartsRow : OpenClaim := { program := "ytkppipeadibfkaadoor", sum := "1f969c55bd3f7ef01ded1340fcb1688562762b920ecfb98dcf7629099f484c4b", func := "postern/posternlaw4.DigestParts", spec := "digestParts", named := ["postern/digest.keys"], apart := false, laid := [("postern/digest.keys", laid_postern_digest_keys)] }
def DigestPartsSaid : Prop := digestPartsRow.holds Tryd.pinned (OpenSpec.ofChange digestPartsSpec)

/-- ITS FALSE NEIGHBOUR: 'it returns false'. Refute it at one input. -/
def digestPartsWrong : ChangeSpec := { name := "digestParts", fn := fun _ => fun
  | [d] => { results := [.lit (.bool false)], args := [d] }
  | _ => none }
def DigestPartsWrongFalsely : Prop := digestPartsRow.holds Tryd.pinned (OpenSpec.ofChange digestPartsWrong)

/-- 'posternlaw4.DigestWhole': WHATEVER THE INPUT: true; the input reads as it did. -/
def digestWholeSpec : ChangeSpec := { name := "digestWhole", fn := fun _ => fun
  | [d] => { results := [.lit (.bool true)], args := [d] }
  | _ => none }
def digestWholeRow : OpenClaim := { program := "ytkppipeadibfkaadoor", sum := "1f969c55bd3f7ef01ded1340fcb1688562762b920ecfb98dcf7629099f484c4b", func := "postern/posternlaw4.DigestWhole", spec := "digestWhole", named := ["postern/digest.keys"], apart := false, laid := [("postern/digest.keys", laid_postern_digest_keys)] }
def DigestWholeSaid : Prop := digestWholeRow.holds Tryd.pinned (OpenSpec.ofChange digestWholeSpec)

/-- ITS FALSE NEIGHBOUR: 'it returns false'. Refute it at one input. -/
def digestWholeWrong : ChangeSpec := { name := "digestWhole", fn := fun _ => fun
  | [d] => { results := [.lit (.bool false)], args := [d] }
  | _ => none }
def DigestWholeWrongFalsely : Prop := digestWholeRow.holds Tryd.pinned (OpenSpec.ofChange digestWholeWrong)

/-- 'posternlaw4.DigestMany': WHATEVER THE INPUT: true; the input reads as it did. -/
def digestManySpec : ChangeSpec := { name := "digestMany", fn := fun _ => fun
  | [d] => { results := [.lit (.bool true)], args := [d] }
  | _ => none }
def digestManyRow : OpenClaim := { program := "ytkppipeadibfkaadoor", sum := "1f969c55bd3f7ef01ded1340fcb1688562762b920ecfb98dcf7629099f484c4b", func := "postern/posternlaw4.DigestMany", spec := "digestMany", named := ["postern/digest.keys"], apart := false, laid := [("postern/digest.keys", laid_postern_digest_keys)] }
def DigestManySaid : Prop := digestManyRow.holds Tryd.pinned (OpenSpec.ofChange digestManySpec)

/-- ITS FALSE NEIGHBOUR: 'it returns false'. Refute it at one input. -/
def digestManyWrong : ChangeSpec := { name := "digestMany", fn := fun _ => fun
  | [d] => { results := [.lit (.bool false)], args := [d] }
  | _ => none }
def DigestManyWrongFalsely : Prop := digestManyRow.holds Tryd.pinned (OpenSpec.ofChange digestManyWrong)

/-- 'posternlaw4.DigestKnown': WHATEVER THE INPUT: true; the input reads as it did. -/
def digestKnownSpec : ChangeSpec := { name := "digestKnown", fn := fun _ => fun
  | [] => { results := [.lit (.bool true)], args := [] }
  | _ => none }
def digestKnownRow : OpenClaim := { program := "ytkppipeadibfkaadoor", sum := "1f969c55bd3f7ef01ded1340fcb1688562762b920ecfb98dcf7629099f484c4b", func := "postern/posternlaw4.DigestKnown", spec := "digestKnown", named := ["postern/digest.keys"], apart := false, laid := [("postern/digest.keys", laid_postern_digest_keys)] }
def DigestKnownSaid : Prop := digestKnownRow.holds Tryd.pinned (OpenSpec.ofChange digestKnownSpec)

/-- ITS FALSE NEIGHBOUR: 'it returns false'. Refute it at one input. -/
def digestKnownWrong : ChangeSpec := { name := "digestKnown", fn := fun _ => fun
  | [] => { results := [.lit (.bool false)], args := [] }
  | _ => none }
def DigestKnownWrongFalsely : Prop := digestKnownRow.holds Tryd.pinned (OpenSpec.ofChange digestKnownWrong)

/- THE SECOND FORM. 'bulk': how many values and letters a reading holds, each counted each time it is reached (what is shared counts as often as it is met; a slice's spare places count too). A statement '..UptoSaid' is the law's where the arguments, and the package variables that the reading takes, are together of bulk at most 1048576: NARROWER than '..Said'. Prove '..Said' where nothing that the law and all that it calls make is longer than what came in: it says more and counts as full. Else prove '..UptoSaid'. A law counts once. -/
mutual
def uptoBulk {H : Type} : DataW H → Nat
  | .lit (.string bytes) => bytes.length + 1
  | .lit _ => 1
  | .nil => 1
  | .ptr d => uptoBulk d + 1
  | .slice elems spare => uptoBulkAll elems + uptoBulkAll spare + 1
  | .agg parts => uptoBulkAll parts + 1
  | .iface _ d => uptoBulk d + 1
  | .map entries => uptoBulkEntries entries + 1
  | .held _ => 1
def uptoBulkAll {H : Type} : List (DataW H) → Nat
  | [] => 0
  | d :: r => uptoBulk d + uptoBulkAll r
def uptoBulkEntries {H : Type} : List (Lit × DataW H) → Nat
  | [] => 0
  | x :: r => uptoBulkEntry x + uptoBulkEntries r
def uptoBulkEntry {H : Type} : Lit × DataW H → Nat
  | (.string bytes, d) => bytes.length + uptoBulk d + 1
  | (_, d) => uptoBulk d + 1
 end
def uptoSmall : (H : Type) → List (DataW H) → Bool := fun _ ds => decide (uptoBulkAll ds ≤ 1048576)
def OpenSpec.upto (s : _root_.Go.ChangeSpec) : _root_.Go.OpenSpec := { _root_.Go.OpenSpec.ofChange s with cond := some uptoSmall }

/-- 'posternlaw4.DigestExact', WHERE WHAT IT READS IS OF BULK AT MOST 1048576: true; the input reads as it did. -/
def digestExactUptoRow : OpenClaim := { program := "ytkppipeadibfkaadoor", sum := "1f969c55bd3f7ef01ded1340fcb1688562762b920ecfb98dcf7629099f484c4b", func := "postern/posternlaw4.DigestExact", spec := "digestExact", named := ["postern/digest.keys"], apart := false, laid := [("postern/digest.keys", laid_postern_digest_keys)], narrowed := true }
def DigestExactUptoSaid : Prop := digestExactUptoRow.holds Tryd.pinned (OpenSpec.upto digestExactSpec)

/-- 'posternlaw4.DigestMac', WHERE WHAT IT READS IS OF BULK AT MOST 1048576: true; the input reads as it did. -/
def digestMacUptoRow : OpenClaim := { program := "ytkppipeadibfkaadoor", sum := "1f969c55bd3f7ef01ded1340fcb1688562762b920ecfb98dcf7629099f484c4b", func := "postern/posternlaw4.DigestMac", spec := "digestMac", named := ["postern/digest.keys"], apart := false, laid := [("postern/digest.keys", laid_postern_digest_keys)], narrowed := true }
def DigestMacUptoSaid : Prop := digestMacUptoRow.holds Tryd.pinned (OpenSpec.upto digestMacSpec)

/-- 'posternlaw4.DigestSame', WHERE WHAT IT READS IS OF BULK AT MOST 1048576: true; the input reads as it did. -/
def digestSameUptoRow : OpenClaim := { program := "ytkppipeadibfkaadoor", sum := "1f969c55bd3f7ef01ded1340fcb1688562762b920ecfb98dcf7629099f484c4b", func := "postern/posternlaw4.DigestSame", spec := "digestSame", named := ["postern/digest.keys"], apart := false, laid := [("postern/digest.keys", laid_postern_digest_keys)], narrowed := true }
def DigestSameUptoSaid : Prop := digestSameUptoRow.holds Tryd.pinned (OpenSpec.upto digestSameSpec)

/-- 'posternlaw4.DigestPass', WHERE WHAT IT READS IS OF BULK AT MOST 1048576: true; the input reads as it did. -/
def digestPassUptoRow : OpenClaim := { program := "ytkppipeadibfkaadoor", sum := "1f969c55bd3f7ef01ded1340fcb1688562762b920ecfb98dcf7629099f484c4b", func := "postern/posternlaw4.DigestPass", spec := "digestPass", named := ["postern/digest.keys"], apart := false, laid := [("postern/digest.keys", laid_postern_digest_keys)], narrowed := true }
def DigestPassUptoSaid : Prop := digestPassUptoRow.holds Tryd.pinned (OpenSpec.upto digestPassSpec)

/-- 'posternlaw4.DigestMade', WHERE WHAT IT READS IS OF BULK AT MOST 1048576: true; the input reads as it did. -/
def digestMadeUptoRow : OpenClaim := { program := "ytkppipeadibfkaadoor", sum := "1f969c55bd3f7ef01ded1340fcb1688562762b920ecfb98dcf7629099f484c4b", func := "postern/posternlaw4.DigestMade", spec := "digestMade", named := ["postern/digest.keys"], apart := false, laid := [("postern/digest.keys", laid_postern_digest_keys)], narrowed := true }
def DigestMadeUptoSaid : Prop := digestMadeUptoRow.holds Tryd.pinned (OpenSpec.upto digestMadeSpec)

/-- 'posternlaw4.DigestApart', WHERE WHAT IT READS IS OF BULK AT MOST 1048576: true; the input reads as it did. -/
def digestApartUptoRow : OpenClaim := { program := "ytkppipeadibfkaadoor", sum := "1f969c55bd3f7ef01ded1340fcb1688562762b920ecfb98dcf7629099f484c4b", func := "postern/posternlaw4.DigestApart", spec := "digestApart", named := ["postern/digest.keys"], apart := false, laid := [("postern/digest.keys", laid_postern_digest_keys)], narrowed := true }
def DigestApartUptoSaid : Prop := digestApartUptoRow.holds Tryd.pinned (OpenSpec.upto digestApartSpec)

/-- 'posternlaw4.DigestParts', WHERE WHAT IT READS IS OF BULK AT MOST 1048576: true; the input reads as it did. -/
def digestPartsUptoRow : OpenClaim := { program := "ytkppipeadibfkaadoor", sum := "1f969c55bd3f7ef01ded1340fcb1688562762b920ecfb98dcf7629099f484c4b", func := "postern/posternlaw4.DigestParts", spec := "digestParts", named := ["postern/digest.keys"], apart := false, laid := [("postern/digest.keys", laid_postern_digest_keys)], narrowed := true }
def DigestPartsUptoSaid : Prop := digestPartsUptoRow.holds Tryd.pinned (OpenSpec.upto digestPartsSpec)

/-- 'posternlaw4.DigestWhole', WHERE WHAT IT READS IS OF BULK AT MOST 1048576: true; the input reads as it did. -/
def digestWholeUptoRow : OpenClaim := { program := "ytkppipeadibfkaadoor", sum := "1f969c55bd3f7ef01ded1340fcb1688562762b920ecfb98dcf7629099f484c4b", func := "postern/posternlaw4.DigestWhole", spec := "digestWhole", named := ["postern/digest.keys"], apart := false, laid := [("postern/digest.keys", laid_postern_digest_keys)], narrowed := true }
def DigestWholeUptoSaid : Prop := digestWholeUptoRow.holds Tryd.pinned (OpenSpec.upto digestWholeSpec)

/-- 'posternlaw4.DigestMany', WHERE WHAT IT READS IS OF BULK AT MOST 1048576: true; the input reads as it did. -/
def digestManyUptoRow : OpenClaim := { program := "ytkppipeadibfkaadoor", sum := "1f969c55bd3f7ef01ded1340fcb1688562762b920ecfb98dcf7629099f484c4b", func := "postern/posternlaw4.DigestMany", spec := "digestMany", named := ["postern/digest.keys"], apart := false, laid := [("postern/digest.keys", laid_postern_digest_keys)], narrowed := true }
def DigestManyUptoSaid : Prop := digestManyUptoRow.holds Tryd.pinned (OpenSpec.upto digestManySpec)

/-- 'posternlaw4.DigestKnown', WHERE WHAT IT READS IS OF BULK AT MOST 1048576: true; the input reads as it did. -/
def digestKnownUptoRow : OpenClaim := { program := "ytkppipeadibfkaadoor", sum := "1f969c55bd3f7ef01ded1340fcb1688562762b920ecfb98dcf7629099f484c4b", func := "postern/posternlaw4.DigestKnown", spec := "digestKnown", named := ["postern/digest.keys"], apart := false, laid := [("postern/digest.keys", laid_postern_digest_keys)], narrowed := true }
def DigestKnownUptoSaid : Prop := digestKnownUptoRow.holds Tryd.pinned (OpenSpec.upto digestKnownSpec)

end Rows
end Go.Proofs.YtkppipeadibfkaaDoor
