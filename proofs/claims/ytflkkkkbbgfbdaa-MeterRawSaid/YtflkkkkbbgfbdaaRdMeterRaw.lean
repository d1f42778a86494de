-- Written by xprint.py, a program of this session's, over the kit's print.
import Derived.Test.YtflkkkkbbgfbdaaRD
import Derived.Test.YtflkkkkbbgfbdaaR2
namespace Go.Proofs.Ytflkkkkbbgfbdaa.PMeterRaw
open Go.RowKit Go.Proofs.YtflkkkkbbgfbdaaW.PrintWords Go.Proofs.YtflkkkkbbgfbdaaW.PrintLast
set_option linter.unusedVariables false
def w28 (x : S28) : Prop := ((fun x : Int => (Lit.int .i64 x).wf = true) x.f0) ∧ ((fun x : Int => (Lit.int .u64 x).wf = true) x.f1)
theorem rd28 (W : World) : RD.Reads Try.prog W 28 k28 w28 :=
  (RD.reads_struct Try.underlying28 (show RD.ReadsF _ _ [_, _] 0 _ _ from (RD.readsF_cons (RD.reads_int Try.underlying2) rfl (by kernel_rfl) (RD.readsF_one (RD.reads_int Try.underlying26) rfl (by kernel_rfl)))) (by kernel_rfl) (fun x : S28 => (x.f0, x.f1)) (fun p => (⟨p.1, p.2⟩ : S28)) (fun _ => rfl)).imp (fun _ h => h)
def w33 (x : S33) : Prop := ((fun x : Int => (Lit.int .u64 x).wf = true) x.f0) ∧ ((fun x : Int => (Lit.int .i64 x).wf = true) x.f1)
theorem rd33 (W : World) : RD.Reads Try.prog W 33 k33 w33 :=
  (RD.reads_struct Try.underlying33 (show RD.ReadsF _ _ [_, _] 0 _ _ from (RD.readsF_cons (RD.reads_int Try.underlying26) rfl (by kernel_rfl) (RD.readsF_one (RD.reads_int Try.underlying2) rfl (by kernel_rfl)))) (by kernel_rfl) (fun x : S33 => (x.f0, x.f1)) (fun p => (⟨p.1, p.2⟩ : S33)) (fun _ => rfl)).imp (fun _ h => h)
def w46 (x : S46) : Prop := ((fun x : Int => (Lit.int .i64 x).wf = true) x.f0) ∧ ((fun x : Int => (Lit.int .i64 x).wf = true) x.f1) ∧ (w33 x.f2)
theorem rd46 (W : World) : RD.Reads Try.prog W 46 k46 w46 :=
  (RD.reads_struct Try.underlying46 (show RD.ReadsF _ _ [_, _, _] 0 _ _ from (RD.readsF_cons (RD.reads_int Try.underlying3) rfl (by kernel_rfl) (RD.readsF_cons (RD.reads_int Try.underlying2) rfl (by kernel_rfl) (RD.readsF_one (rd33 _) rfl (by kernel_rfl))))) (by kernel_rfl) (fun x : S46 => (x.f0, x.f1, x.f2)) (fun p => (⟨p.1, p.2.1, p.2.2⟩ : S46)) (fun _ => rfl)).imp (fun _ h => h)
def w43 (x : S43) : Prop := (w28 x.f0) ∧ ((fun l : List _ => l.length * 32 ≤ 140737488351232 ∧ ∀ x ∈ l, w46 x) x.f1)
theorem rd43 (W : World) : RD.Reads Try.prog W 43 k43 w43 :=
  (RD.reads_struct Try.underlying43 (show RD.ReadsF _ _ [_, _] 0 _ _ from (RD.readsF_cons (rd28 _) rfl (by kernel_rfl) (RD.readsF_one (RD.reads_slice (B := 32) Try.underlying41 (rd46 _) (by kernel_rfl) (by kernel_rfl)) rfl (by kernel_rfl)))) (by kernel_rfl) (fun x : S43 => (x.f0, x.f1)) (fun p => (⟨p.1, p.2⟩ : S43)) (fun _ => rfl)).imp (fun _ h => h)
/-- THE ONE PURE STATEMENT of the law. -/
def LawPure : Prop := ∀ (x0 : S43), (w43 x0) → posternlaw8_MeterRaw.f x0.f0.f0 x0.f0.f1 x0.f1 = some true
end Go.Proofs.Ytflkkkkbbgfbdaa.PMeterRaw
