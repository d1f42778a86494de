/- Laws for operations on whole rows at any list of operations, [32]byte's making and '=='. No conditions but those of each lemma. -/
import Derived.Test.YtnechcibpmjblaaG2
namespace Go.Proofs.Ytnechcibpmjblaa
open Go.RowKit Go.Proofs.YtnechcibpmjblaaW.PrintWords KB
set_option linter.unusedVariables false
set_option linter.unusedSimpArgs false

theorem list_exec {P : Program} {ops : Array Oper} {rest : List Oper} {op : Oper} {a : Act} {w w' : World} {Q : Exit → Act → World → Prop} (hw : Region.wanted op (yielded ops a.tmps) = true) (v : Value) (he : (execOp a.eval op).run P w = .ok (.value v) w')
    (h : wpList P ops Q rest (a.put op.dst v) w') : wpList P ops Q (op :: rest) a w :=
  wpList_step fun K hK => by
    rw [if_pos hw]
    unfold Oper.wp
    rw [he]
    exact hK _ _ h
theorem exec_load {P : Program} {op : Oper} {ρ : Operand → Value} {w : World} (ty : TypeId) (x : Operand) (ho : op.op = .load ty x) (p : Addr) (hx : ρ x = .pointer (some p)) (cs : List Value) (d : TypeDesc) (hc : At w p cs)
    (hu : P.underlying ty = some d) (hd : d.isRow = true) (hi : (P.info? ty).map (·.size) = some cs.length) : (execOp ρ op).run P w = .ok (.value (.agg cs.toArray)) w := by
  unfold execOp
  simp only [ho, hx, Instr.loadAt, Instr.sureAddr, Sem.run_bind, Sem.run_pure, Result.andThen_ok, run_loadVar_at w p ty cs d hc hu hd hi]
theorem exec_load70 {op : Oper} {ρ : Operand → Value} {w : World} (x : Operand) (ho : op.op = .load 70 x) (p : Addr) (hx : ρ x = .pointer (some p)) (s : Bs 32) (hc : At w p s.cs) : (execOp ρ op).run Try.prog w = .ok (.value (.agg s.cs.toArray)) w :=
  exec_load 70 x ho p hx s.cs _ hc Try.underlying70 rfl (by rw [info70, Bs.cs_len])
theorem exec_load107 {op : Oper} {ρ : Operand → Value} {w : World} (x : Operand) (ho : op.op = .load 107 x) (p : Addr) (hx : ρ x = .pointer (some p)) (k : Key) (hc : At w p k.cs) : (execOp ρ op).run Try.prog w = .ok (.value (.agg k.arr)) w :=
  exec_load 107 x ho p hx k.cs _ hc Try.underlying107 rfl (by rw [info107, Key.cs_len])
theorem at_sec {w : World} {p : Addr} {k : Key} (h : At w p k.cs) : At w (p.add 1) k.sec.cs := fun j u hu => by
  rw [Addr.add_add]
  refine h (1 + j) u ?_
  have hj : j < k.sec.cs.length := (List.getElem?_eq_some_iff.1 hu).1
  rw [Nat.add_comm]
  show (k.sec.cs ++ [Value.int .i64 k.til])[j]? = some u
  rw [List.getElem?_append_left hj]
  exact hu
/-- [32]byte with two bytes laid. -/
def b32 (a b : Int) : Bs 32 := ⟨a :: b :: List.replicate 30 0, by simp⟩
theorem build70_1 (a : Int) (w : World) : (Instr.build 70 #[(0, .int .u8 a)]).run Try.prog w = .ok (.agg (b32 a 0).cs.toArray) w := by kernel_rfl
theorem exec_build1 {P : Program} {op : Oper} {ρ : Operand → Value} {w : World} (t : TypeId) (i : Nat) (x : Operand) (ho : op.op = .build t #[(i, x)]) (a v : Value) (hx : ρ x = a) (hv : (Instr.build t #[(i, a)]).run P w = .ok v w) : (execOp ρ op).run P w = .ok (.value v) w := by
  unfold execOp
  simp only [ho, List.map_toArray, List.map_cons, List.map_nil, hx, Sem.run_bind, hv, Result.andThen_ok, Sem.run_pure]
theorem eqlBytes (a b : Bs 32) (w : World) : (binOp .eql 70 (.agg a.cs.toArray) (.agg b.cs.toArray)).run Try.prog w = .ok (.bool (decide (a = b))) w := by
  rw [run_eql_struct, run_equalIn_bytes 9998 a b Try.underlying70 Try.underlying5 (by kernel_rfl) (by kernel_rfl)]
  rfl
theorem exec_eqlBytes {op : Oper} {ρ : Operand → Value} {w : World} (x y : Operand) (z : TypeId) (ho : op.op = .binOp .eql 70 x y z) (a b : Bs 32) (hx : ρ x = .agg a.cs.toArray) (hy : ρ y = .agg b.cs.toArray) :
    (execOp ρ op).run Try.prog w = .ok (.value (.bool (decide (a = b)))) w := by
  have g : (eqGuard .eql 70 x y (.agg a.cs.toArray) (.agg b.cs.toArray)).run Try.prog w = .ok () w := by
    have e : Try.prog.eqGuardType Try.prog.depth 70 = false := by kernel_rfl
    unfold eqGuard
    simp [e]
  unfold execOp
  simp only [ho, hx, hy, Sem.run_bind, g, eqlBytes a b w, Result.andThen_ok, Sem.run_pure]

theorem quiet_exec {P : Program} {ops : Array Oper} {C : World → Prop} {Q : Act → Prop} {a : Act} {o : Oper} {rest : List Oper} (hw : Region.wanted o (yielded ops a.tmps) = true) (v : Value) (he : ∀ w, C w → (execOp a.eval o).run P w = .ok (.value v) w)
    (h : wpQuiet P ops C Q rest (a.put o.dst v)) : wpQuiet P ops C Q (o :: rest) a := by
  refine wpQuiet_step fun K hK => ?_
  rw [if_pos hw]
  exact ⟨v, fun w hC => by
    unfold Oper.quietAt
    rw [he w hC]
    exact ⟨rfl, rfl⟩, hK _ h⟩
end Go.Proofs.Ytnechcibpmjblaa
