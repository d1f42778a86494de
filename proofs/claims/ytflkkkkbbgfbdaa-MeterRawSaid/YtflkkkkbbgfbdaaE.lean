/- What package meter's functions tell, as plain functions of numbers, and that the calls tell it: for the printed walks of the statements. Conditions: the numbers are of their kinds; of Fail, Pass and Wait: the score, at that time, is finite and not below 0; of Wait: the configuration may be. -/
import Derived.Test.YtflkkkkbbgfbdaaM
namespace Go.Proofs.Ytflkkkkbbgfbdaa
open Go.RowKit Flt

theorem run27s (n : Nat) (w : World) : (callFunc 27 #[.float .f64 n]).run Try.prog w = .ok (.value (.int .u64 n)) w := run27 n w
theorem cmp_ge (t : TypeId) (a b : Nat) : binOp .geq t (.float .f64 a) (.float .f64 b) = pure (.bool (geB a b)) := binOp_float_cmp_geq t .f64 a b
theorem cmp_le (t : TypeId) (a b : Nat) : binOp .leq t (.float .f64 a) (.float .f64 b) = pure (.bool (leB a b)) := binOp_float_cmp_leq t .f64 a b
theorem cmp_gt (t : TypeId) (a b : Nat) : binOp .gtr t (.float .f64 a) (.float .f64 b) = pure (.bool (gtB a b)) := binOp_float_cmp_gtr t .f64 a b

theorem fld33_0 (a b : Int) (w : World) : (Instr.field 33 (.agg #[.int .u64 a, .int .i64 b]) 0).run Try.prog w = .ok (.int .u64 a) w := by kernel_rfl
theorem fld33_1 (a b : Int) (w : World) : (Instr.field 33 (.agg #[.int .u64 a, .int .i64 b]) 1).run Try.prog w = .ok (.int .i64 b) w := by kernel_rfl

instance fitsDec (H S A t : Int) : Decidable (Fits H S A t) :=
  if h : -9223372036854775808 ≤ A ∧ t ≤ 9223372036854775807 ∧ H ≤ 9223372036854775807 ∧ 0 ≤ S ∧ S < 18446744073709551616 then .isTrue ⟨h.1, h.2.1, h.2.2.1, h.2.2.2.1, h.2.2.2.2⟩
  else .isFalse (fun f => h ⟨f.a, f.t, f.h, f.s0, f.s⟩)

def meter_Check.f (a0_0 a0_1 : Int) : Option Int := if 0 ≤ a0_1 ∧ a0_1 < 18446744073709551616 then some (if 1 ≤ a0_0 ∧ 4607182418800017408 ≤ a0_1 ∧ a0_1 < 9218868437227405312 then 0 else 80) else none
theorem meter_Check.calls (a0_0 a0_1 r : Int) (w : World) (h : meter_Check.f a0_0 a0_1 = some r) :
    Calls Try.prog 9 #[.agg #[.int .i64 a0_0, .int .u64 a0_1]] w fun e w' => e = .returned (.int .i64 r) ∧ Below w.heap.size w w' := by
  unfold meter_Check.f at h
  split at h
  · rename_i hc
    obtain rfl := Option.some.inj h
    exact check_any a0_0 a0_1 w hc.1 hc.2
  · cases h

def meter_Now.f (a0_0 _a0_1 a1_0 a1_1 a2 : Int) : Option (Int × Int) := if Fits a0_0 a1_0 a1_1 a2 then some (((nowP a0_0 a1_0 a1_1 a2).1 : Nat), (nowP a0_0 a1_0 a1_1 a2).2) else none
theorem meter_Now.calls (a0_0 a0_1 a1_0 a1_1 a2 r1 r2 : Int) (w : World) (h : meter_Now.f a0_0 a0_1 a1_0 a1_1 a2 = some (r1, r2)) :
    Calls Try.prog 17 #[.agg #[.int .i64 a0_0, .int .u64 a0_1], .agg #[.int .u64 a1_0, .int .i64 a1_1], .int .i64 a2] w fun e w' => e = .returned (.agg #[.int .u64 r1, .int .i64 r2]) ∧ Below w.heap.size w w' := by
  unfold meter_Now.f at h
  split at h
  · rename_i hc
    have := Option.some.inj h
    simp only [Prod.mk.injEq] at this
    obtain ⟨rfl, rfl⟩ := this
    exact mnow_any a0_0 a0_1 a1_0 a1_1 a2 w hc
  · cases h

def meter_Fail.f (a0_0 _a0_1 a1_0 a1_1 a2 : Int) : Option (Int × Int) := if Fits a0_0 a1_0 a1_1 a2 ∧ (nowP a0_0 a1_0 a1_1 a2).1 < infB then some ((plusN (nowP a0_0 a1_0 a1_1 a2).1 : Nat), (nowP a0_0 a1_0 a1_1 a2).2) else none
theorem meter_Fail.calls (a0_0 a0_1 a1_0 a1_1 a2 r1 r2 : Int) (w : World) (h : meter_Fail.f a0_0 a0_1 a1_0 a1_1 a2 = some (r1, r2)) :
    Calls Try.prog 19 #[.agg #[.int .i64 a0_0, .int .u64 a0_1], .agg #[.int .u64 a1_0, .int .i64 a1_1], .int .i64 a2] w fun e w' => e = .returned (.agg #[.int .u64 r1, .int .i64 r2]) ∧ Below w.heap.size w w' := by
  unfold meter_Fail.f at h
  split at h
  · rename_i hc
    have := Option.some.inj h
    simp only [Prod.mk.injEq] at this
    obtain ⟨rfl, rfl⟩ := this
    exact fail_any a0_0 a0_1 a1_0 a1_1 a2 w hc.1 hc.2
  · cases h

def meter_Pass.f (a0_0 _a0_1 a1_0 a1_1 a2 : Int) : Option (Int × Int) := if Fits a0_0 a1_0 a1_1 a2 ∧ (nowP a0_0 a1_0 a1_1 a2).1 < infB then some ((quarterN (nowP a0_0 a1_0 a1_1 a2).1 : Nat), (nowP a0_0 a1_0 a1_1 a2).2) else none
theorem meter_Pass.calls (a0_0 a0_1 a1_0 a1_1 a2 r1 r2 : Int) (w : World) (h : meter_Pass.f a0_0 a0_1 a1_0 a1_1 a2 = some (r1, r2)) :
    Calls Try.prog 21 #[.agg #[.int .i64 a0_0, .int .u64 a0_1], .agg #[.int .u64 a1_0, .int .i64 a1_1], .int .i64 a2] w fun e w' => e = .returned (.agg #[.int .u64 r1, .int .i64 r2]) ∧ Below w.heap.size w w' := by
  unfold meter_Pass.f at h
  split at h
  · rename_i hc
    have := Option.some.inj h
    simp only [Prod.mk.injEq] at this
    obtain ⟨rfl, rfl⟩ := this
    exact pass_any a0_0 a0_1 a1_0 a1_1 a2 w hc.1 hc.2
  · cases h

def meter_Locked.f (a0_0 a0_1 a1_0 a1_1 a2 : Int) : Option Bool := if Fits a0_0 a1_0 a1_1 a2 then some (geB (nowP a0_0 a1_0 a1_1 a2).1 a0_1.toNat) else none
theorem meter_Locked.calls (a0_0 a0_1 a1_0 a1_1 a2 : Int) (r : Bool) (w : World) (h : meter_Locked.f a0_0 a0_1 a1_0 a1_1 a2 = some r) :
    Calls Try.prog 14 #[.agg #[.int .i64 a0_0, .int .u64 a0_1], .agg #[.int .u64 a1_0, .int .i64 a1_1], .int .i64 a2] w fun e w' => e = .returned (.bool r) ∧ Below w.heap.size w w' := by
  unfold meter_Locked.f at h
  split at h
  · rename_i hc
    obtain rfl := Option.some.inj h
    exact locked_any a0_0 a0_1 a1_0 a1_1 a2 w hc
  · cases h

/-- What Wait asks. -/
def WaitOk (H L S A t : Int) : Prop :=
  (-9223372036854775808 ≤ A ∧ t ≤ 9223372036854775807 ∧ H ≤ 9223372036854775807 ∧ 0 ≤ S ∧ S < 18446744073709551616) ∧ (nowP H S A t).1 < infB ∧ 1 ≤ H ∧ 1 ≤ L ∧ L < 9218868437227405312 ∧
    (-9223372036854775808 ≤ (nowP H S A t).2 ∧ (nowP H S A t).2 ≤ 9223372036854775807) ∧ -9223372036854775808 ≤ t ∧ t < (nowP H S A t).2 + H
instance waitOkDec (H L S A t : Int) : Decidable (WaitOk H L S A t) := by unfold WaitOk; exact inferInstance
def meter_Wait.f (a0_0 a0_1 a1_0 a1_1 a2 : Int) : Option (Int × Bool) := if WaitOk a0_0 a0_1 a1_0 a1_1 a2 then some (waitP a0_0 a0_1 a1_0 a1_1 a2) else none
theorem meter_Wait.calls (a0_0 a0_1 a1_0 a1_1 a2 r1 : Int) (r2 : Bool) (w : World) (h : meter_Wait.f a0_0 a0_1 a1_0 a1_1 a2 = some (r1, r2)) :
    Calls Try.prog 13 #[.agg #[.int .i64 a0_0, .int .u64 a0_1], .agg #[.int .u64 a1_0, .int .i64 a1_1], .int .i64 a2] w fun e w' => e = .returned (.tuple #[.int .i64 r1, .bool r2]) ∧ Below w.heap.size w w' := by
  unfold meter_Wait.f at h
  split at h
  · rename_i hc
    have e := Option.some.inj h
    obtain ⟨h0, h1, h2, h3, h4, h5, h6, h7⟩ := hc
    have := wait_fine a0_0 a0_1 a1_0 a1_1 a2 w ⟨h0.1, h0.2.1, h0.2.2.1, h0.2.2.2.1, h0.2.2.2.2⟩ h1 h2 (by omega) h3 h4 h5 h6 h7
    rw [e] at this
    exact this
  · cases h
end Go.Proofs.Ytflkkkkbbgfbdaa
