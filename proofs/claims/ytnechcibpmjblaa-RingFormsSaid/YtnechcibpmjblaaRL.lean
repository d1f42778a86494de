/- What the arguments of the laws over lives read as. No conditions but those of each lemma. -/
import Derived.Test.YtnechcibpmjblaaRD
import Derived.Test.YtnechcibpmjblaaL
namespace Go.Proofs.Ytnechcibpmjblaa
open Go.RowKit Go.Proofs.YtnechcibpmjblaaW.PrintWords KB RD
set_option linter.unusedVariables false

theorem reads_conv {P : Program} {w : World} {t : TypeId} {α β : Type} {kd : Kd α} {kd' : Kd β} {wf : α → Prop} {wf' : β → Prop} (h : Reads P w t kd wf) (hc : ∀ x cs, kd.K w x cs → wf x → ∃ y, kd'.K w y cs ∧ wf' y) : Reads P w t kd' wf' :=
  fun H enc fuel cs d ps hd hz => let ⟨x, h1, h2⟩ := h H enc fuel cs d ps hd hz; hc x cs h1 h2
def w70 (x : Bs 32) : Prop := ∀ b ∈ x.1, (Lit.int .u8 b).wf = true
theorem rd70 (W : World) : Reads Try.prog W 70 (kBs 32) w70 := reads_bytes Try.underlying70 Try.underlying5 (by kernel_rfl) (by kernel_rfl)
def w99 (x : Turn) : Prop := (Lit.int .i64 x.act).wf = true ∧ w70 x.sec ∧ (Lit.int .i64 x.at_).wf = true ∧ (Lit.int .u64 x.kid).wf = true
theorem rd99 (W : World) : Reads Try.prog W 99 kTurn w99 :=
  reads_conv (RD.reads_struct Try.underlying99 (show RD.ReadsF _ _ [_, _, _, _] 0 _ _ from (RD.readsF_cons (RD.reads_int Try.underlying3) rfl (by kernel_rfl) (RD.readsF_cons (rd70 _) rfl (by kernel_rfl) (RD.readsF_cons (RD.reads_int Try.underlying2) rfl (by kernel_rfl) (RD.readsF_one (RD.reads_int Try.underlying67) rfl (by kernel_rfl)))))) (by kernel_rfl) id id (fun _ => rfl))
    (fun x cs hk hw => by
      obtain ⟨a, s, t, k⟩ := x
      obtain ⟨c1, r1, rfl, rfl, c2, r2, rfl, rfl, c3, c4, rfl, rfl, rfl⟩ := hk
      exact ⟨⟨a, s, t, k⟩, rfl, hw⟩)
def w92 (l : List Turn) : Prop := l.length * 56 ≤ 140737488351232 ∧ ∀ x ∈ l, w99 x
theorem rd92 (W : World) : Reads Try.prog W 92 (Kd.slice 99 kTurn) w92 := RD.reads_slice (B := 56) Try.underlying92 (rd99 W) (by kernel_rfl) (by kernel_rfl)
def w94 (x : Bs 32 × List Turn) : Prop := w70 x.1 ∧ w92 x.2
theorem rd94 (W : World) : Reads Try.prog W 94 (Kd.iso (Kd.pair (kBs 32) (Kd.slice 99 kTurn)) id) w94 :=
  RD.reads_struct Try.underlying94 (show RD.ReadsF _ _ [_, _] 0 _ _ from (RD.readsF_cons (rd70 _) rfl (by kernel_rfl) (RD.readsF_one (rd92 _) rfl (by kernel_rfl)))) (by kernel_rfl) id id (fun _ => rfl)
theorem life_of {W : World} {x : Bs 32 × List Turn} {cs : List Value} (h : (Kd.iso (Kd.pair (kBs 32) (Kd.slice 99 kTurn)) id).K W x cs) : ∃ A c, cs = lifeCs x.1 (.slice A x.2.length c) ∧ kTurn.C W A x.2.length x.2 ∧ x.2.length ≤ c := by
  obtain ⟨c1, c2, rfl, rfl, A, c, rfl, hl, hC⟩ := h
  exact ⟨A, c, rfl, hC, hl⟩
def timesCs (s : Bs 32) (sl : Value) (a b : Int) : List Value := lifeCs s sl ++ [.int .i64 a, .int .i64 b]
def w103 (x : (Bs 32 × List Turn) × Int × Int) : Prop := w94 x.1 ∧ (Lit.int .i64 x.2.1).wf = true ∧ (Lit.int .i64 x.2.2).wf = true
theorem rd103 (W : World) : Reads Try.prog W 103 (Kd.iso (Kd.pair (Kd.iso (Kd.pair (kBs 32) (Kd.slice 99 kTurn)) id) (Kd.pair (Kd.int .i64) (Kd.int .i64))) id) w103 :=
  RD.reads_struct Try.underlying103 (show RD.ReadsF _ _ [_, _, _] 0 _ _ from (RD.readsF_cons (rd94 _) rfl (by kernel_rfl) (RD.readsF_cons (RD.reads_int Try.underlying2) rfl (by kernel_rfl) (RD.readsF_one (RD.reads_int Try.underlying2) rfl (by kernel_rfl))))) (by kernel_rfl) id id (fun _ => rfl)
theorem times_of {W : World} {x : (Bs 32 × List Turn) × Int × Int} {cs : List Value} (h : (Kd.iso (Kd.pair (Kd.iso (Kd.pair (kBs 32) (Kd.slice 99 kTurn)) id) (Kd.pair (Kd.int .i64) (Kd.int .i64))) id).K W x cs) :
    ∃ A c, cs = timesCs x.1.1 (.slice A x.1.2.length c) x.2.1 x.2.2 ∧ kTurn.C W A x.1.2.length x.1.2 ∧ x.1.2.length ≤ c := by
  obtain ⟨c1, c2, rfl, h1, c3, c4, rfl, rfl, rfl⟩ := h
  obtain ⟨A, c, rfl, hC, hl⟩ := life_of h1
  exact ⟨A, c, rfl, hC, hl⟩
end Go.Proofs.Ytnechcibpmjblaa
