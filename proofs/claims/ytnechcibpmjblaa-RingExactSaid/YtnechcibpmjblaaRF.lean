/- The law RingForms of the given program answers true: its walk; steps, read. Conditions: the steps are read; their numbers are of their kinds. -/
import Derived.Test.YtnechcibpmjblaaRC
import Derived.Test.YtnechcibpmjblaaRL
namespace Go.Proofs.Ytnechcibpmjblaa
open Go.RowKit Go.Proofs.YtnechcibpmjblaaW.PrintWords KB WG RD
set_option linter.unusedVariables false
set_option linter.unusedSimpArgs false

/-! ### Steps -/
def stepCs (act : Int) (s : Bs 32) (tm kid : Int) (sl : Value) (next : Int) : List Value := .int .i64 act :: (s.cs ++ [.int .i64 tm, .int .u64 kid, sl, .int .u64 next])
section
variable {act : Int} {s : Bs 32} {tm kid : Int} {sl : Value} {next : Int}
theorem step_len : (stepCs act s tm kid sl next).length = 37 := by simp [stepCs, Bs.cs_len]
theorem step_size : ((stepCs act s tm kid sl next).toArray).size = 37 := by rw [List.size_toArray, step_len]
theorem step_get {j : Nat} {v : Value} (h : [Value.int .i64 tm, .int .u64 kid, sl, .int .u64 next][j]? = some v) : (stepCs act s tm kid sl next)[33 + j]? = some v := by
  have hs : s.cs.length = 32 := Bs.cs_len _
  rw [stepCs, show 33 + j = (32 + j) + 1 by omega, List.getElem?_cons_succ, List.getElem?_append_right (by omega), hs, show 32 + j - 32 = j by omega]
  exact h
theorem step_33 : (stepCs act s tm kid sl next)[33]? = some (.int .i64 tm) := step_get (j := 0) rfl
theorem step_34 : (stepCs act s tm kid sl next)[34]? = some (.int .u64 kid) := step_get (j := 1) rfl
theorem step_a33 : ((stepCs act s tm kid sl next).toArray)[33]? = some (.int .i64 tm) := by rw [List.getElem?_toArray]; exact step_33
theorem step_a34 : ((stepCs act s tm kid sl next).toArray)[34]? = some (.int .u64 kid) := by rw [List.getElem?_toArray]; exact step_34
theorem step_sec {w : World} {p : Addr} (h : At w p (stepCs act s tm kid sl next)) : At w (p.add 1) s.cs := fun j u hu => by
  rw [Addr.add_add]
  refine h (1 + j) u ?_
  have hj : j < s.cs.length := (List.getElem?_eq_some_iff.1 hu).1
  rw [Nat.add_comm]
  show (s.cs ++ _)[j]? = some u
  rw [List.getElem?_append_left hj]
  exact hu
theorem step_raw {w : World} {p : Addr} (h : At w p (stepCs act s tm kid sl next)) : At w (p.add 35) [sl, .int .u64 next] := fun j u hu => by
  rw [Addr.add_add, show 35 + j = 33 + (2 + j) by omega]
  exact h _ u (step_get (by rw [show 2 + j = j + 1 + 1 by omega]; simpa using hu))
theorem step_one (hs : sl.oneCell' = true) : ((stepCs act s tm kid sl next).toArray).all (·.oneCell') = true := all_oneCell_toArray (fun u hu => by
  simp only [stepCs, List.mem_cons, List.mem_append, List.not_mem_nil, or_false] at hu
  rcases hu with rfl | hu | rfl | rfl | rfl | rfl
  · rfl
  · exact Bs.cs_one _ u hu
  · rfl
  · rfl
  · exact hs
  · rfl)
end
theorem z72 : ∀ w, (zeroValue 72).run Try.prog w = .ok (.agg (stepCs 0 (zBs 32) 0 0 (.slice none 0 0) 0).toArray) w := fun _ => by kernel_rfl
abbrev kRing : Kd (List Key × Int) := Kd.iso (Kd.pair (Kd.slice 107 kKey) (Kd.int .u64)) id
abbrev StepT : Type := Int × Bs 32 × Int × Int × List Key × Int
abbrev kStep : Kd StepT := Kd.iso (Kd.pair (Kd.int .i64) (Kd.pair (kBs 32) (Kd.pair (Kd.int .i64) (Kd.pair (Kd.int .u64) kRing)))) id
def w107 (k : Key) : Prop := True
theorem rd107 (W : World) : Reads Try.prog W 107 kKey w107 :=
  reads_conv (RD.reads_struct Try.underlying107 (show RD.ReadsF _ _ [_, _, _] 0 _ _ from (RD.readsF_cons (RD.reads_int Try.underlying67) rfl (by kernel_rfl) (RD.readsF_cons (rd70 _) rfl (by kernel_rfl) (RD.readsF_one (RD.reads_int Try.underlying2) rfl (by kernel_rfl))))) (by kernel_rfl) id id (fun _ => rfl))
    (fun x cs hk hw => by
      obtain ⟨k, s, t⟩ := x
      obtain ⟨c1, r1, rfl, rfl, c2, r2, rfl, rfl, rfl⟩ := hk
      exact ⟨⟨k, s, t⟩, rfl, trivial⟩)
def w55 (l : List Key) : Prop := l.length * 48 ≤ 140737488351232 ∧ ∀ x ∈ l, w107 x
theorem rd55 (W : World) : Reads Try.prog W 55 (Kd.slice 107 kKey) w55 := RD.reads_slice (B := 48) Try.underlying55 (rd107 W) (by kernel_rfl) (by kernel_rfl)
def w69 (x : List Key × Int) : Prop := w55 x.1 ∧ (Lit.int .u64 x.2).wf = true
theorem rd69 (W : World) : Reads Try.prog W 69 kRing w69 :=
  RD.reads_struct Try.underlying69 (show RD.ReadsF _ _ [_, _] 0 _ _ from (RD.readsF_cons (rd55 _) rfl (by kernel_rfl) (RD.readsF_one (RD.reads_int Try.underlying67) rfl (by kernel_rfl)))) (by kernel_rfl) id id (fun _ => rfl)
def w72 (x : StepT) : Prop := (Lit.int .i64 x.1).wf = true ∧ w70 x.2.1 ∧ (Lit.int .i64 x.2.2.1).wf = true ∧ (Lit.int .u64 x.2.2.2.1).wf = true ∧ w69 x.2.2.2.2
theorem rd72 (W : World) : Reads Try.prog W 72 kStep w72 :=
  RD.reads_struct Try.underlying72 (show RD.ReadsF _ _ [_, _, _, _, _] 0 _ _ from (RD.readsF_cons (RD.reads_int Try.underlying3) rfl (by kernel_rfl) (RD.readsF_cons (rd70 _) rfl (by kernel_rfl) (RD.readsF_cons (RD.reads_int Try.underlying2) rfl (by kernel_rfl) (RD.readsF_cons (RD.reads_int Try.underlying67) rfl (by kernel_rfl) (RD.readsF_one (rd69 _) rfl (by kernel_rfl))))))) (by kernel_rfl) id id (fun _ => rfl)
def w22 (l : List StepT) : Prop := l.length * 88 ≤ 140737488351232 ∧ ∀ x ∈ l, w72 x
theorem rd22 (W : World) : Reads Try.prog W 22 (Kd.slice 72 kStep) w22 := RD.reads_slice (B := 88) Try.underlying22 (rd72 W) (by kernel_rfl) (by kernel_rfl)
/-! ### The calls, by what they tell -/
section
variable {ks : List Key} {next : Int} {q : Rg} {n : Int}
theorem eq_q (q : Rg) (A B : Option Addr) (c d : Nat) (w : World) (hr : RO w A c q) (hq : RO w B d q) :
    Calls Try.prog 21 #[.agg #[.slice A q.keys.length c, .int .u64 q.next], .agg #[.slice B q.keys.length d, .int .u64 q.next]] w fun e w' => e = .returned (.bool true) ∧ Below w.heap.size w w' := by
  have := eqRing_any q q A B c d w hr.rk hq.rk
  rwa [decide_eq_true rfl] at this
end
end Go.Proofs.Ytnechcibpmjblaa
