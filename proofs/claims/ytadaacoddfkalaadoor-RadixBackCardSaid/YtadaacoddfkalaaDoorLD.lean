/- What the rows' list gives: the table of powers of ten, strconv's ErrRange; a world for the witness. -/
import Derived.Test.YtadaacoddfkalaaDoorRows
import Derived.Test.YtadaacoddfkalaaDoorG3
import Derived.Deep.DeepHandedRow
import Derived.Lib.LaidTab
import Derived.Stop.LaidErr
namespace Go.Proofs.YtadaacoddfkalaaDoor
open Go.RowKit Go.Proofs.YtadaacoddfkalaaDoorW.PrintWords KB WG
set_option linter.unusedVariables false
theorem gPow : Tryd.prog.globalNamed "internal/strconv.uint64pow10" = some 3 := by kernel_rfl
theorem gPowType : (Tryd.prog.globals[3]?).map (·.type) = some 114 := by kernel_rfl
theorem cells114 : Tryd.prog.cellsOf 114 = 20 := by kernel_rfl
theorem cells31 : Tryd.prog.cellsOf 31 = 1 := by kernel_rfl
theorem gER : Tryd.prog.globalNamed "strconv.ErrRange" = some 2 := by kernel_rfl
theorem gERType : (Tryd.prog.globals[2]?).map (·.type) = some 56 := by kernel_rfl
theorem cells126 : Tryd.prog.cellsOf 126 = 1 := by kernel_rfl
theorem cells9 : Tryd.prog.cellsOf 9 = 1 := by kernel_rfl
theorem laid_pow : (Rows.laid_internal_strconv_uint64pow10 : DataW Unit) = Lib.tabData .u64 Lib.pow10Tab := by kernel_rfl
theorem star_es : "*" ++ "errors.errorString" = "*errors.errorString" := by decide
theorem row124 (u : TypeId) (h : Tryd.prog.typeName? 3 u = some "*errors.errorString") : u = 124 :=
  typeName_ptr_named (nm := "errors.errorString") (by rw [star_es]; kernel_rfl) (by kernel_rfl) (by decide) u (by rw [star_es]; exact h)
theorem env_of_laid {a b d e f : String × DataW Unit} {W : World} (ha : a.2.handleName?.isSome = false) (hb : b.2.handleName?.isSome = false) (hd : d.2.handleName?.isSome = false) (he : e.2.handleName?.isSome = false) (hf : f.2.handleName?.isSome = false)
    (h : laidMetH Tryd.prog [a, b, ("internal/strconv.uint64pow10", Rows.laid_internal_strconv_uint64pow10), d, ("strconv.ErrRange", Rows.laid_strconv_ErrRange), e, f] W) : Env W := by
  have h : laidMet Tryd.prog [a, b, ("internal/strconv.uint64pow10", Rows.laid_internal_strconv_uint64pow10), d, ("strconv.ErrRange", Rows.laid_strconv_ErrRange), e, f] W := by
    unfold laidMetH at h
    rw [show List.filter (fun x : String × DataW Unit => x.2.handleName?.isSome) [a, b, ("internal/strconv.uint64pow10", Rows.laid_internal_strconv_uint64pow10), d, ("strconv.ErrRange", Rows.laid_strconv_ErrRange), e, f] = [] by
      simp only [List.filter_cons, ha, hb, hd, he, hf, Bool.false_eq_true, if_false, List.filter_nil]
      rfl] at h
    exact h
  have hT := h.tail.tail
  rw [laid_pow] at hT
  obtain ⟨a1, s1, hv1, -, -, -⟩ := laid_sentinel hT.tail.tail gER gERType Tryd.underlying56 row124 Tryd.underlying124 Tryd.underlying126 rfl rfl Tryd.underlying9 cells126 cells9
  have hc : W.cell? ⟨2, 0, none⟩ = some (.iface 124 (.pointer (some a1))) := by have h0 := World.var?_cell gER hv1 0; simpa using h0
  refine ⟨Lib.tabIs_of_head gPow gPowType Tryd.underlying114 Tryd.underlying31 cells31 cells114 hT, ⟨_, hc, .inr ⟨_, _, rfl⟩⟩, ?_⟩
  rcases Nat.lt_or_ge 2 W.heap.size with h' | h'
  · exact h'
  · unfold World.cell? at hc
    rw [Array.getElem?_eq_none h'] at hc
    cases hc
/-! ### A world for the witness -/
def ints : DataW Unit → List Value
  | .agg l => l.filterMap (fun x => match x with | .lit (.int k z) => some (.int k z) | _ => none)
  | _ => []
def ints2 : DataW Unit → List Value
  | .agg l => l.flatMap ints
  | _ => []
def putG (cs : List Value) (H : Array Obj) (g : Nat) : Array Obj := H.modify g fun
  | .cells _ t frozen => .cells cs.toArray t frozen
  | o => o
abbrev synS : ByteArray := { data := #[105, 110, 118, 97, 108, 105, 100, 32, 115, 121, 110, 116, 97, 120] }
abbrev rngS : ByteArray := { data := #[118, 97, 108, 117, 101, 32, 111, 117, 116, 32, 111, 102, 32, 114, 97, 110, 103, 101] }
noncomputable def low : Nat := (World.holding Tryd.prog default ⟨#[], #[], []⟩).heap.size
noncomputable def laidWorld (os : Os) : World :=
  let w0 := World.holding Tryd.prog os ⟨#[.cells #[.string synS] 126, .cells #[.string rngS] 126], #[], []⟩
  { w0 with heap := putG (ints Rows.laid_math_bits_deBruijn64tab) (putG (ints Rows.laid_math_bits_deBruijn32tab) (putG (ints2 Rows.laid_unicode_utf8_acceptRanges) (putG (ints Rows.laid_unicode_utf8_first) (putG (ints Rows.laid_internal_strconv_uint64pow10) (putG [.iface 124 (.pointer (some ⟨low + 1, 0, none⟩))] (putG [.iface 124 (.pointer (some ⟨low, 0, none⟩))] w0.heap 1) 2) 3) 4) 5) 6) 7 }
end Go.Proofs.YtadaacoddfkalaaDoor
