/- What the laws' arguments read as: rows of rows of bytes, keys and texts, salts. No conditions but those of each lemma. -/
import Derived.Test.YtkppipeadibfkaaDoorRD
import Derived.Test.YtkppipeadibfkaaDoorF
namespace Go.Proofs.YtkppipeadibfkaaDoor
open Go.RowKit Go.Proofs.YtkppipeadibfkaaDoorW.PrintWords KB WG RD
set_option linter.unusedVariables false
set_option linter.unnecessarySimpa false
theorem reads_conv {P : Program} {w : World} {t : TypeId} {α β : Type} {kd : Kd α} {kd' : Kd β} {wf : α → Prop} {wf' : β → Prop} (h : Reads P w t kd wf) (hc : ∀ x cs, kd.K w x cs → wf x → ∃ y, kd'.K w y cs ∧ wf' y) : Reads P w t kd' wf' :=
  fun H enc fuel cs d ps hd hz => let ⟨x, h1, h2⟩ := h H enc fuel cs d ps hd hz; hc x cs h1 h2
theorem un5 : Tryd.prog.underlying 5 = some (.int .u8) := by kernel_rfl
theorem rd5 (W : World) : Reads Tryd.prog W 5 kBy (fun _ => True) := reads_conv (reads_int un5) (fun x cs hk hw => by
  obtain ⟨h1, h2⟩ := wf_u8 hw
  have hk : cs = [.int .u8 x] := hk
  refine ⟨BitVec.ofInt 8 x, ?_, trivial⟩
  show cs = [bv _]
  rw [hk]
  refine congrArg (fun z => [Value.int .u8 z]) ?_
  rw [BitVec.toNat_ofInt]
  omega)
abbrev kL : Kd (List By) := Kd.slice 5 kBy
def wL (l : List By) : Prop := l.length * 1 ≤ 140737488351232 ∧ ∀ x ∈ l, True
theorem rd23 (W : World) : Reads Tryd.prog W 23 kL wL := reads_slice (B := 1) Tryd.underlying23 (rd5 W) (by kernel_rfl) (by kernel_rfl)
abbrev kLs : Kd (List (List By)) := Kd.slice 23 kL
def wLs (l : List (List By)) : Prop := l.length * 24 ≤ 140737488351232 ∧ ∀ x ∈ l, wL x
theorem rd22 (W : World) : Reads Tryd.prog W 22 kLs wLs := reads_slice (B := 24) Tryd.underlying22 (rd23 W) (by kernel_rfl) (by kernel_rfl)
theorem RowsB.ofC {w : World} {A : Option Addr} {n : Nat} {ls : List (List By)} (h : kL.C w A n ls) : RowsB w A n ls := by
  obtain ⟨h1, h2, h3⟩ := h
  refine ⟨h1, fun hn => ?_⟩
  obtain ⟨ad, e, hA⟩ := h3 hn
  refine ⟨ad, e, fun i b hi => ?_⟩
  obtain ⟨c, hl, ⟨B, m, hc, hm, hC⟩, hr⟩ := hA i b hi
  subst hc
  have := hr 0 _ rfl
  rw [show i * kL.sz + 0 = i by show i * 1 + 0 = i; omega] at this
  exact ⟨B, b.length, m, this, Rb.ofC hC, hm⟩
/-- One of the rows. -/
theorem RowsB.row {w : World} {L : Option Addr} {n i : Nat} {ls : List (List By)} (h : RowsB w L n ls) (hi : i < n) : ∃ adl B c, L = some adl ∧ w.cell? (adl.add i) = some (.slice B (ls.getD i []).length c) ∧ Rb w B (ls.getD i []).length (ls.getD i []) ∧ (ls.getD i []).length ≤ c := by
  obtain ⟨adl, e, hr⟩ := h.2 (by omega)
  have hl := h.1
  have hx : ls[i]? = some (ls.getD i []) := by rw [List.getD_eq_getElem?_getD, List.getElem?_eq_getElem (by omega)]; rfl
  obtain ⟨B, m, c, h1, h2, h3⟩ := hr i _ hx
  have hm := h2.1
  subst hm
  exact ⟨adl, B, c, e, h1, h2, h3⟩
theorem wLs_row {ls : List (List By)} (h : wLs ls) {i : Nat} : (ls.getD i []).length ≤ 140737488351232 := by
  rcases Nat.lt_or_ge i ls.length with hi | hi
  · have e : ls.getD i [] = ls[i] := by rw [List.getD_eq_getElem?_getD, List.getElem?_eq_getElem hi]; rfl
    have := (h.2 _ (List.getElem_mem hi)).1
    rw [e]
    omega
  · rw [List.getD_eq_getElem?_getD, List.getElem?_eq_none hi]; decide
/-- Two such rows. -/
abbrev kTwo : Kd (List (List By) × List (List By)) := Kd.iso (Kd.pair kLs kLs) id
def wTwo (x : List (List By) × List (List By)) : Prop := wLs x.1 ∧ wLs x.2
theorem rd36 (W : World) : Reads Tryd.prog W 36 kTwo wTwo :=
  RD.reads_struct Tryd.underlying36 (show RD.ReadsF _ _ [_, _] 0 _ _ from (RD.readsF_cons (rd22 _) rfl (by kernel_rfl) (RD.readsF_one (rd22 _) rfl (by kernel_rfl)))) (by kernel_rfl) id id (fun _ => rfl)
theorem rd32 (W : World) : Reads Tryd.prog W 32 kTwo wTwo :=
  RD.reads_struct Tryd.underlying32 (show RD.ReadsF _ _ [_, _] 0 _ _ from (RD.readsF_cons (rd22 _) rfl (by kernel_rfl) (RD.readsF_one (rd22 _) rfl (by kernel_rfl)))) (by kernel_rfl) id id (fun _ => rfl)
theorem two_of {W : World} {x : List (List By) × List (List By)} {cs : List Value} (h : kTwo.K W x cs) : ∃ A c B d, cs = [.slice A x.1.length c, .slice B x.2.length d] ∧ kL.C W A x.1.length x.1 ∧ kL.C W B x.2.length x.2 := by
  obtain ⟨c1, c2, rfl, ⟨A, c, rfl, _, hA⟩, ⟨B, d, rfl, _, hB⟩⟩ := h
  exact ⟨A, c, B, d, rfl, hA, hB⟩
end Go.Proofs.YtkppipeadibfkaaDoor
