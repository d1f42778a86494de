/- The law RingSwift of the given program answers true: its walk. Conditions: the turns are read. -/
import Derived.Test.YtnechcibpmjblaaQ
import Derived.Test.YtnechcibpmjblaaWG
namespace Go.Proofs.Ytnechcibpmjblaa
open Go.RowKit Go.Proofs.YtnechcibpmjblaaW.PrintWords KB WG
set_option linter.unusedVariables false
set_option linter.unusedSimpArgs false

theorem z69 : ∀ w, (zeroValue 69).run Try.prog w = .ok (.agg #[.slice none 0 0, .int .u64 0]) w := fun _ => by kernel_rfl
theorem ex_neqk {op : Oper} {ρ : Operand → Value} {w : World} (x y : Operand) (z : TypeId) (ho : op.op = .binOp .neq 107 x y z) (a b : Key) (hx : ρ x = .agg a.arr) (hy : ρ y = .agg b.arr) (r : Bool) (hr : (!decide (a = b)) = r) :
    (execOp ρ op).run Try.prog w = .ok (.value (.bool r)) w := by
  subst hr
  exact exec_neqKey x y z ho a b hx hy
theorem ex_eqlk {op : Oper} {ρ : Operand → Value} {w : World} (x y : Operand) (z : TypeId) (ho : op.op = .binOp .eql 107 x y z) (a b : Key) (hx : ρ x = .agg a.arr) (hy : ρ y = .agg b.arr) (r : Bool) (hr : decide (a = b) = r) :
    (execOp ρ op).run Try.prog w = .ok (.value (.bool r)) w := by
  subst hr
  have g : (eqGuard .eql 107 x y (.agg a.arr) (.agg b.arr)).run Try.prog w = .ok () w := by
    have e : Try.prog.eqGuardType Try.prog.depth 107 = false := by kernel_rfl
    unfold eqGuard
    simp [e]
  exact ex_eql _ _ _ _ ho _ _ hx hy _ g (eqlKey a b w)
end Go.Proofs.Ytnechcibpmjblaa
