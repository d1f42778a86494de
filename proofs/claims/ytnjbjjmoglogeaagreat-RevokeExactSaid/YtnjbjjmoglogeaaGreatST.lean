/- Strings as lists of bytes, rows of bytes, bits of numbers, a scope with jumps: laws of one operation. No conditions but those of each lemma. -/
import Derived.Test.YtnjbjjmoglogeaaGreatRO
import Derived.ScopeJumps
import Derived.Lib.Bytealg
namespace Go.Proofs.YtnjbjjmoglogeaaGreat
open Go.RowKit Go.Proofs.YtnjbjjmoglogeaaGreatW.PrintWords KB WG RO
set_option linter.unusedVariables false
set_option linter.unusedSimpArgs false
set_option linter.unnecessarySimpa false
namespace ST
def str (l : List UInt8) : ByteArray := ⟨l.toArray⟩
/-! ### Rows of bytes -/
def bc (b : UInt8) : List Value := [.int .u8 (b.toNat : Int)]
theorem bc_len (b : UInt8) : (bc b).length = 1 := rfl
theorem bc_one (b : UInt8) : ∀ u ∈ bc b, u.oneCell' = true := fun u hu => by rw [List.mem_singleton.1 hu]; rfl
def kB : Kd UInt8 := kBlk bc 1 bc_len bc_one
/-! ### A scope whose label is jumped to -/
/-! ### Laws of one operation -/
section
variable {P : Program} {op : Oper} {ρ : Operand → Value} {w : World}
/-! Bits of small numbers -/
theorem ex_shlN (T T' : TypeId) (x y : Operand) (ho : op.op = .binOp .shl T x y T') (k yk : IntKind) (a n : Nat) (i : Int) (hx : ρ x = .int k (a : Int)) (hy : ρ y = .int yk i) (hi : i = (n : Int)) (hn : n ≤ k.bits) (r : Nat) (hr : a * 2 ^ n = r) (hw : k.wrap (r : Int) = (r : Int)) : (execOp ρ op).run P w = .ok (.value (.int k (r : Int))) w := by
  subst hr hi
  have hb : (binOp .shl T (.int k (a : Int)) (.int yk (n : Int))).run P w = .ok (.int k ((a * 2 ^ n : Nat) : Int)) w := by
    show (Op.shift .shl k (a : Int) yk (n : Int)).run P w = _
    unfold Op.shift
    rw [if_neg (by omega)]
    simp only [Int.toNat_natCast, Nat.min_eq_left hn]
    rw [show (a : Int) * 2 ^ n = ((a * 2 ^ n : Nat) : Int) by simp, hw]
    rfl
  have hg : (eqGuard .shl T x y (.int k (a : Int)) (.int yk (n : Int))).run P w = .ok () w := by simp [eqGuard]
  unfold execOp
  simp only [ho, hx, hy, Sem.run_bind, hg, hb, Result.andThen_ok, Sem.run_pure]
end
end ST
end Go.Proofs.YtnjbjjmoglogeaaGreat
