/-
  No cell of these rows narrows 'for every input' (looked for: loops, veiled, ifaces, maps, wideKeys, modest, calm, conditions, laid).
  DERIVED. THE GIVEN ROWS OF THIS SEAT. 5 by the template 'for every input the law returns true; each argument reads behind the call as it read before'; 0 by the template 'total and deterministic' (their statements: YtflkkkkbbgfbdaaTotals.lean).
  GIVEN WITH THE SEED: the statements are not yours to turn. If you find one false, say at which input.
  Laid BY PROGRAM, IN A SANDBOX (cutbox-rows.mjs): the forced cells as the released guide's own fill.sh prints them over the translation 77769e07e920c6ae… (all of the seat's roots in one cut). By AI agents, Wed Nov 11 2026. No macro, syntax, notation, axiom, sorry.
-/
import Derived.Test.YtflkkkkbbgfbdaaChecked
import GoSem.Claim
import GoSem.ClaimJoined
import GoSem.ClaimMapViews
import Derived.JoinedTies
import Derived.KernelRfl
namespace Go.Proofs.Ytflkkkkbbgfbdaa
/- THE CELL 'sum', in the pinned program and in every row, IS THE sha256 OF THE DUMP (.gsa) THAT YtflkkkkbbgfbdaaProg.lean LOADS. Nothing in Lean hashes anything: it is a label: what it is worth is what the hold of that sum in a sandbox is worth. -/
noncomputable def Try.pinned : Pinned := { name := "ytflkkkkbbgfbdaa", sum := "77769e07e920c6ae92dba6ff86b2af75e8077098b2d56681c4eaf7993c52112c", checked := Try.checked }
namespace Rows
def none {H : Type} : Left H := { results := [], args := [] }

/-- 'posternlaw8.MeterChecks': WHATEVER THE INPUT: true; the input reads as it did. -/
def meterChecksSpec : ChangeSpec := { name := "meterChecks", fn := fun _ => fun
  | [d] => { results := [.lit (.bool true)], args := [d] }
  | _ => none }
def meterChecksRow : OpenClaim := { program := "ytflkkkkbbgfbdaa", sum := "77769e07e920c6ae92dba6ff86b2af75e8077098b2d56681c4eaf7993c52112c", func := "postern/posternlaw8.MeterChecks", spec := "meterChecks", inPlace := ["math.Float64frombits", "math.Float64bits"], apart := false }
def MeterChecksSaid : Prop := meterChecksRow.holds Try.pinned (OpenSpec.ofChange meterChecksSpec)

/-- ITS FALSE NEIGHBOUR: 'it returns false'. Refute it at one input. -/
def meterChecksWrong : ChangeSpec := { name := "meterChecks", fn := fun _ => fun
  | [d] => { results := [.lit (.bool false)], args := [d] }
  | _ => none }
def MeterChecksWrongFalsely : Prop := meterChecksRow.holds Try.pinned (OpenSpec.ofChange meterChecksWrong)

/-- 'posternlaw8.MeterWaits': WHATEVER THE INPUT: true; the input reads as it did. -/
def meterWaitsSpec : ChangeSpec := { name := "meterWaits", fn := fun _ => fun
  | [d] => { results := [.lit (.bool true)], args := [d] }
  | _ => none }
def meterWaitsRow : OpenClaim := { program := "ytflkkkkbbgfbdaa", sum := "77769e07e920c6ae92dba6ff86b2af75e8077098b2d56681c4eaf7993c52112c", func := "postern/posternlaw8.MeterWaits", spec := "meterWaits", inPlace := ["math.Float64frombits", "math.Float64bits"], apart := false }
def MeterWaitsSaid : Prop := meterWaitsRow.holds Try.pinned (OpenSpec.ofChange meterWaitsSpec)

/-- ITS FALSE NEIGHBOUR: 'it returns false'. Refute it at one input. -/
def meterWaitsWrong : ChangeSpec := { name := "meterWaits", fn := fun _ => fun
  | [d] => { results := [.lit (.bool false)], args := [d] }
  | _ => none }
def MeterWaitsWrongFalsely : Prop := meterWaitsRow.holds Try.pinned (OpenSpec.ofChange meterWaitsWrong)

/-- 'posternlaw8.MeterExact': WHATEVER THE INPUT: true; the input reads as it did. -/
def meterExactSpec : ChangeSpec := { name := "meterExact", fn := fun _ => fun
  | [d] => { results := [.lit (.bool true)], args := [d] }
  | _ => none }
def meterExactRow : OpenClaim := { program := "ytflkkkkbbgfbdaa", sum := "77769e07e920c6ae92dba6ff86b2af75e8077098b2d56681c4eaf7993c52112c", func := "postern/posternlaw8.MeterExact", spec := "meterExact", inPlace := ["math.Float64frombits", "math.Float64bits"], apart := false }
def MeterExactSaid : Prop := meterExactRow.holds Try.pinned (OpenSpec.ofChange meterExactSpec)

/-- ITS FALSE NEIGHBOUR: 'it returns false'. Refute it at one input. -/
def meterExactWrong : ChangeSpec := { name := "meterExact", fn := fun _ => fun
  | [d] => { results := [.lit (.bool false)], args := [d] }
  | _ => none }
def MeterExactWrongFalsely : Prop := meterExactRow.holds Try.pinned (OpenSpec.ofChange meterExactWrong)

/-- 'posternlaw8.MeterRaw': WHATEVER THE INPUT: true; the input reads as it did. -/
def meterRawSpec : ChangeSpec := { name := "meterRaw", fn := fun _ => fun
  | [d] => { results := [.lit (.bool true)], args := [d] }
  | _ => none }
def meterRawRow : OpenClaim := { program := "ytflkkkkbbgfbdaa", sum := "77769e07e920c6ae92dba6ff86b2af75e8077098b2d56681c4eaf7993c52112c", func := "postern/posternlaw8.MeterRaw", spec := "meterRaw", inPlace := ["math.Float64frombits", "math.Float64bits"], apart := false }
def MeterRawSaid : Prop := meterRawRow.holds Try.pinned (OpenSpec.ofChange meterRawSpec)

/-- ITS FALSE NEIGHBOUR: 'it returns false'. Refute it at one input. -/
def meterRawWrong : ChangeSpec := { name := "meterRaw", fn := fun _ => fun
  | [d] => { results := [.lit (.bool false)], args := [d] }
  | _ => none }
def MeterRawWrongFalsely : Prop := meterRawRow.holds Try.pinned (OpenSpec.ofChange meterRawWrong)

/-- 'posternlaw8.MeterLater': WHATEVER THE INPUT: true; the input reads as it did. -/
def meterLaterSpec : ChangeSpec := { name := "meterLater", fn := fun _ => fun
  | [d] => { results := [.lit (.bool true)], args := [d] }
  | _ => none }
def meterLaterRow : OpenClaim := { program := "ytflkkkkbbgfbdaa", sum := "77769e07e920c6ae92dba6ff86b2af75e8077098b2d56681c4eaf7993c52112c", func := "postern/posternlaw8.MeterLater", spec := "meterLater", inPlace := ["math.Float64frombits", "math.Float64bits"], apart := false }
def MeterLaterSaid : Prop := meterLaterRow.holds Try.pinned (OpenSpec.ofChange meterLaterSpec)

/-- ITS FALSE NEIGHBOUR: 'it returns false'. Refute it at one input. -/
def meterLaterWrong : ChangeSpec := { name := "meterLater", fn := fun _ => fun
  | [d] => { results := [.lit (.bool false)], args := [d] }
  | _ => none }
def MeterLaterWrongFalsely : Prop := meterLaterRow.holds Try.pinned (OpenSpec.ofChange meterLaterWrong)

/- THE SECOND FORM. 'bulk': how many values and letters a reading holds, each counted each time it is reached (what is shared counts as often as it is met; a slice's spare places count too). A statement '..UptoSaid' is the law's where the arguments, and the package variables that the reading takes, are together of bulk at most 1048576: NARROWER than '..Said'. Prove '..Said' where nothing that the law and all that it calls make is longer than what came in: it says more and counts as full. Else prove '..UptoSaid'. A law counts once. -/
mutual
def uptoBulk {H : Type} : DataW H → Nat
  | .lit (.string bytes) => bytes.length + 1
  | .lit _ => 1
  | .nil => 1
  | .ptr d => uptoBulk d + 1
  | .slice elems spare => uptoBulkAll elems + uptoBulkAll spare + 1
  | .agg parts => uptoBulkAll parts + 1
  | .iface _ d => uptoBulk d + 1
  | .map entries => uptoBulkEntries entries + 1
  | .held _ => 1
def uptoBulkAll {H : Type} : List (DataW H) → Nat
  | [] => 0
  | d :: r => uptoBulk d + uptoBulkAll r
def uptoBulkEntries {H : Type} : List (Lit × DataW H) → Nat
  | [] => 0
  | x :: r => uptoBulkEntry x + uptoBulkEntries r
def uptoBulkEntry {H : Type} : Lit × DataW H → Nat
  | (.string bytes, d) => bytes.length + uptoBulk d + 1
  | (_, d) => uptoBulk d + 1
 end
def uptoSmall : (H : Type) → List (DataW H) → Bool := fun _ ds => decide (uptoBulkAll ds ≤ 1048576)
def OpenSpec.upto (s : _root_.Go.ChangeSpec) : _root_.Go.OpenSpec := { _root_.Go.OpenSpec.ofChange s with cond := some uptoSmall }

/-- 'posternlaw8.MeterChecks', WHERE WHAT IT READS IS OF BULK AT MOST 1048576: true; the input reads as it did. -/
def meterChecksUptoRow : OpenClaim := { program := "ytflkkkkbbgfbdaa", sum := "77769e07e920c6ae92dba6ff86b2af75e8077098b2d56681c4eaf7993c52112c", func := "postern/posternlaw8.MeterChecks", spec := "meterChecks", inPlace := ["math.Float64frombits", "math.Float64bits"], apart := false, narrowed := true }
def MeterChecksUptoSaid : Prop := meterChecksUptoRow.holds Try.pinned (OpenSpec.upto meterChecksSpec)

/-- 'posternlaw8.MeterWaits', WHERE WHAT IT READS IS OF BULK AT MOST 1048576: true; the input reads as it did. -/
def meterWaitsUptoRow : OpenClaim := { program := "ytflkkkkbbgfbdaa", sum := "77769e07e920c6ae92dba6ff86b2af75e8077098b2d56681c4eaf7993c52112c", func := "postern/posternlaw8.MeterWaits", spec := "meterWaits", inPlace := ["math.Float64frombits", "math.Float64bits"], apart := false, narrowed := true }
def MeterWaitsUptoSaid : Prop := meterWaitsUptoRow.holds Try.pinned (OpenSpec.upto meterWaitsSpec)

/-- 'posternlaw8.MeterExact', WHERE WHAT IT READS IS OF BULK AT MOST 1048576: true; the input reads as it did. -/
def meterExactUptoRow : OpenClaim := { program := "ytflkkkkbbgfbdaa", sum := "77769e07e920c6ae92dba6ff86b2af75e8077098b2d56681c4eaf7993c52112c", func := "postern/posternlaw8.MeterExact", spec := "meterExact", inPlace := ["math.Float64frombits", "math.Float64bits"], apart := false, narrowed := true }
def MeterExactUptoSaid : Prop := meterExactUptoRow.holds Try.pinned (OpenSpec.upto meterExactSpec)

/-- 'posternlaw8.MeterRaw', WHERE WHAT IT READS IS OF BULK AT MOST 1048576: true; the input reads as it did. -/
def meterRawUptoRow : OpenClaim := { program := "ytflkkkkbbgfbdaa", sum := "77769e07e920c6ae92dba6ff86b2af75e8077098b2d56681c4eaf7993c52112c", func := "postern/posternlaw8.MeterRaw", spec := "meterRaw", inPlace := ["math.Float64frombits", "math.Float64bits"], apart := false, narrowed := true }
def MeterRawUptoSaid : Prop := meterRawUptoRow.holds Try.pinned (OpenSpec.upto meterRawSpec)

/-- 'posternlaw8.MeterLater', WHERE WHAT IT READS IS OF BULK AT MOST 1048576: true; the input reads as it did. -/
def meterLaterUptoRow : OpenClaim := { program := "ytflkkkkbbgfbdaa", sum := "77769e07e920c6ae92dba6ff86b2af75e8077098b2d56681c4eaf7993c52112c", func := "postern/posternlaw8.MeterLater", spec := "meterLater", inPlace := ["math.Float64frombits", "math.Float64bits"], apart := false, narrowed := true }
def MeterLaterUptoSaid : Prop := meterLaterUptoRow.holds Try.pinned (OpenSpec.upto meterLaterSpec)

end Rows
end Go.Proofs.Ytflkkkkbbgfbdaa
