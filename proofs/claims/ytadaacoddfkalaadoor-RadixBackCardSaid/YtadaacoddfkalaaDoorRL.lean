/- What the arguments of the radix laws read as: a row of texts; rows of bytes, texts, numbers. No conditions but those of each lemma. -/
import Derived.Test.YtadaacoddfkalaaDoorRD
import Derived.Test.YtadaacoddfkalaaDoorG4
namespace Go.Proofs.YtadaacoddfkalaaDoor
open Go.RowKit Go.Proofs.YtadaacoddfkalaaDoorW.PrintWords KB WG RD
set_option linter.unusedVariables false
set_option linter.unnecessarySimpa false
theorem reads_conv {P : Program} {w : World} {t : TypeId} {α β : Type} {kd : Kd α} {kd' : Kd β} {wf : α → Prop} {wf' : β → Prop} (h : Reads P w t kd wf) (hc : ∀ x cs, kd.K w x cs → wf x → ∃ y, kd'.K w y cs ∧ wf' y) : Reads P w t kd' wf' :=
  fun H enc fuel cs d ps hd hz => let ⟨x, h1, h2⟩ := h H enc fuel cs d ps hd hz; hc x cs h1 h2
theorem rd9 (W : World) : Reads Tryd.prog W 9 kT (fun l => l.length ≤ 140737488351232) :=
  reads_conv (RD.reads_string (by kernel_rfl)) (fun s cs hk hw => ⟨s.data.toList, by
    show cs = sc _
    unfold sc
    rw [ST.str_of]
    exact hk, by
    have e : s.data.toList.length = s.size := by rw [Array.length_toList]; rfl
    rw [e]
    exact hw⟩)
def w23 (l : List (List UInt8)) : Prop := l.length * 16 ≤ 140737488351232 ∧ ∀ x ∈ l, x.length ≤ 140737488351232
theorem rd23 (W : World) : Reads Tryd.prog W 23 (Kd.slice 9 kT) w23 := RD.reads_slice (B := 16) Tryd.underlying23 (rd9 W) (by kernel_rfl) (by kernel_rfl)
end Go.Proofs.YtadaacoddfkalaaDoor
