/- What the arguments of the laws over lives read as. No conditions but those of each lemma. -/
import Derived.Test.YtnechcibpmjblaaRD
import Derived.Test.YtnechcibpmjblaaL
namespace Go.Proofs.Ytnechcibpmjblaa
open Go.RowKit Go.Proofs.YtnechcibpmjblaaW.PrintWords KB RD
set_option linter.unusedVariables false

theorem reads_conv {P : Program} {w : World} {t : TypeId} {α β : Type} {kd : Kd α} {kd' : Kd β} {wf : α → Prop} {wf' : β → Prop} (h : Reads P w t kd wf) (hc : ∀ x cs, kd.K w x cs → wf x → ∃ y, kd'.K w y cs ∧ wf' y) : Reads P w t kd' wf' :=
  fun H enc fuel cs d ps hd hz => let ⟨x, h1, h2⟩ := h H enc fuel cs d ps hd hz; hc x cs h1 h2
def w70 (x : Bs 32) : Prop := ∀ b ∈ x.1, (Lit.int .u8 b).wf = true
theorem rd70 (W : World) : Reads Try.prog W 70 (kBs 32) w70 := reads_bytes Try.underlying70 Try.underlying5 (by kernel_rfl) (by kernel_rfl)
def w99 (x : Turn) : Prop := (Lit.int .i64 x.act).wf = true ∧ w70 x.sec ∧ (Lit.int .i64 x.at_).wf = true ∧ (Lit.int .u64 x.kid).wf = true
def w92 (l : List Turn) : Prop := l.length * 56 ≤ 140737488351232 ∧ ∀ x ∈ l, w99 x
def w94 (x : Bs 32 × List Turn) : Prop := w70 x.1 ∧ w92 x.2
def timesCs (s : Bs 32) (sl : Value) (a b : Int) : List Value := lifeCs s sl ++ [.int .i64 a, .int .i64 b]
def w103 (x : (Bs 32 × List Turn) × Int × Int) : Prop := w94 x.1 ∧ (Lit.int .i64 x.2.1).wf = true ∧ (Lit.int .i64 x.2.2).wf = true
end Go.Proofs.Ytnechcibpmjblaa
