/- What a row of steps (what to do, on which, with which bytes) reads as. No conditions but those of each lemma. -/
import Derived.Test.YtkppipeadibfkaaDoorRL
import Derived.Test.YtkppipeadibfkaaDoorQ9
namespace Go.Proofs.YtkppipeadibfkaaDoor
open Go.RowKit Go.Proofs.YtkppipeadibfkaaDoorW.PrintWords KB WG RD
set_option linter.unusedVariables false
set_option linter.unnecessarySimpa false
abbrev kStep : Kd (Int × Int × List By) := Kd.iso (Kd.pair (Kd.int .i64) (Kd.pair (Kd.int .i64) kL)) id
def wStep (x : Int × Int × List By) : Prop := (Lit.int .i64 x.1).wf = true ∧ (Lit.int .i64 x.2.1).wf = true ∧ wL x.2.2
theorem rd58 (W : World) : Reads Tryd.prog W 58 kStep wStep :=
  RD.reads_struct Tryd.underlying58 (show RD.ReadsF _ _ [_, _, _] 0 _ _ from (RD.readsF_cons (RD.reads_int (by kernel_rfl)) rfl (by kernel_rfl) (RD.readsF_cons (RD.reads_int (by kernel_rfl)) rfl (by kernel_rfl) (RD.readsF_one (rd23 _) rfl (by kernel_rfl))))) (by kernel_rfl) id id (fun _ => rfl)
def wSteps (l : List (Int × Int × List By)) : Prop := l.length * 40 ≤ 140737488351232 ∧ ∀ x ∈ l, wStep x
theorem rd52 (W : World) : Reads Tryd.prog W 52 (Kd.slice 58 kStep) wSteps := reads_slice (B := 40) Tryd.underlying52 (rd58 W) (by kernel_rfl) (by kernel_rfl)
theorem StepR.ofC {w : World} {A : Option Addr} {n : Nat} {ls : List (Int × Int × List By)} (h : kStep.C w A n ls) (hw : wSteps ls) : StepR w A n := by
  obtain ⟨h1, h2, h3⟩ := h
  intro i hi
  obtain ⟨ad, e, hA⟩ := h3 (by omega)
  have hx : ls[i]? = some ls[i] := List.getElem?_eq_getElem (by omega)
  obtain ⟨c, hl, hk, hr⟩ := hA i _ hx
  obtain ⟨c1, r1, rfl, hk1, c2, c3, rfl, hk2, ⟨B, m, rfl, hm, hC⟩⟩ := hk
  have hb := (hw.2 _ (List.getElem_mem (show i < ls.length by omega))).2.2.1
  obtain rfl : c1 = _ := hk1
  obtain rfl : c2 = _ := hk2
  refine ⟨ad, ls[i].1, ls[i].2.1, B, m, ls[i].2.2, e, fun j u hu => ?_, Rb.ofC hC, hm, by simpa using hb⟩
  have := hr j u hu
  rw [← Addr.add_add] at this
  exact this
end Go.Proofs.YtkppipeadibfkaaDoor
