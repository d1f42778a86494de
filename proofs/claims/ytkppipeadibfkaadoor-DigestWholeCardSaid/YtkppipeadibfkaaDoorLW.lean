/- Words of the laws' walks: salts, passwords, rounds; slices under an equation. No conditions but those of each lemma. -/
import Derived.Test.YtkppipeadibfkaaDoorM3
namespace Go.Proofs.YtkppipeadibfkaaDoor
open Go.RowKit Go.Proofs.YtkppipeadibfkaaDoorW.PrintWords KB WG
set_option linter.unusedVariables false
set_option linter.unusedSimpArgs false
set_option linter.unnecessarySimpa false
theorem bne_self_b (x : Bool) : (x != x) = false := by simp
theorem bne_sym (x y : List By) : (decide (y = x) != decide (x = y)) = false := by rw [show decide (y = x) = decide (x = y) from decide_eq_decide.2 ⟨Eq.symm, Eq.symm⟩]; simp
theorem ex_ixE {P : Program} {op : Oper} {ρ : Operand → Value} {w : World} {t : TypeId} (x y : Operand) (ho : op.op = .indexAddr t x y) (ht : sl? P t 1 = true) (ad : Addr) (A : Option Addr) (hA : A = some ad) (n c : Nat) (hx : ρ x = .slice A n c) (k : IntKind) (i : Int) (hy : ρ y = .int k i) (j : Nat) (hj : i = (j : Int)) (hlt : j < n) : (execOp ρ op).run P w = .ok (.value (.pointer (some (ad.add j)))) w := by
  subst hA
  exact ex_ix t x y ho 1 ht ad n c hx k i hy j hj hlt _ (congrArg _ (Nat.mul_one _))
structure WordT where
  s : List By
  t : List By
  r : Int
  hs : s.length = 16
def wdCs (s t : List By) (r : Int) : List Value := bcs s ++ [.string (strB t), .int .i64 r]
theorem wd_len {s t : List By} {r : Int} (hs : s.length = 16) : (wdCs s t r).length = 18 := by simp [wdCs, bcs_len, hs]
theorem wd_ones (s t : List By) (r : Int) : ∀ u ∈ wdCs s t r, u.oneCell' = true := fun u hu => by
  rcases List.mem_append.1 hu with hu | hu
  · exact bcs_one _ u hu
  · simp only [List.mem_cons, List.not_mem_nil, or_false] at hu
    rcases hu with rfl | rfl <;> rfl
theorem wd_one {s t : List By} {r : Int} : (wdCs s t r).toArray.all (·.oneCell') = true := all_oneCell_toArray (wd_ones s t r)
def kWd : Kd WordT := kBlk (fun x => wdCs x.s x.t x.r) 18 (fun x => wd_len x.hs) (fun x => wd_ones x.s x.t x.r)
theorem wd_salt {w : World} {p : Addr} {s t : List By} {r : Int} (h : At w p (wdCs s t r)) : At w p (bcs s) := fun j v hv => h j v (by unfold wdCs; rw [List.getElem?_append_left (List.getElem?_eq_some_iff.1 hv).1]; exact hv)
theorem wd_16 {s t : List By} {r : Int} (hs : s.length = 16) : (wdCs s t r)[16]? = some (.string (strB t)) := by unfold wdCs; rw [List.getElem?_append_right (by rw [bcs_len]; omega), bcs_len, hs]; rfl
theorem wd_17 {s t : List By} {r : Int} (hs : s.length = 16) : (wdCs s t r)[17]? = some (.int .i64 r) := by unfold wdCs; rw [List.getElem?_append_right (by rw [bcs_len]; omega), bcs_len, hs]; rfl
theorem wd_a16 {s t : List By} {r : Int} (hs : s.length = 16) : ((wdCs s t r).toArray)[16]? = some (.string (strB t)) := by rw [List.getElem?_toArray]; exact wd_16 hs
theorem wd_a17 {s t : List By} {r : Int} (hs : s.length = 16) : ((wdCs s t r).toArray)[17]? = some (.int .i64 r) := by rw [List.getElem?_toArray]; exact wd_17 hs
theorem z42 (w : World) : (zeroValue 42).run Tryd.prog w = .ok (.agg (wdCs (List.replicate 16 0) [] 0).toArray) w := by kernel_rfl
theorem sz42 {s t : List By} {r : Int} (hs : s.length = 16) : (Tryd.prog.info? 42).map (·.size) = some ((wdCs s t r).toArray).size := by rw [List.size_toArray, wd_len hs]; kernel_rfl
theorem sz42_eq {s t s' t' : List By} {r r' : Int} (hs : s.length = 16) (hs' : s'.length = 16) : ((wdCs s t r).toArray).size = ((wdCs s' t' r').toArray).size := by rw [List.size_toArray, List.size_toArray, wd_len hs, wd_len hs']
/-- One of the words. -/
def wWd (x : WordT) : Prop := x.t.length ≤ 140737488351232 ∧ -9223372036854775808 ≤ x.r ∧ x.r ≤ 9223372036854775807
theorem at_word {w : World} {A : Option Addr} {n i : Nat} {l : List WordT} (h : kWd.C w A n l) (hi : i < n) (hwf : ∀ x ∈ l, wWd x) : ∃ ad s t r, A = some ad ∧ s.length = 16 ∧ At w (ad.add (i * 18)) (wdCs s t r) ∧ t.length ≤ 140737488351232 ∧ -9223372036854775808 ≤ r ∧ r ≤ 9223372036854775807 := by
  obtain ⟨h1, h2, h3⟩ := h
  obtain ⟨ad, e, hA⟩ := h3 (by omega)
  have hx : l[i]? = some l[i] := List.getElem?_eq_getElem (by omega)
  obtain ⟨c, hl, hc, hr⟩ := hA i _ hx
  have hc : c = wdCs l[i].s l[i].t l[i].r := hc
  have hw := hwf _ (List.getElem_mem (show i < l.length by omega))
  refine ⟨ad, l[i].s, l[i].t, l[i].r, e, l[i].hs, fun j v hv => ?_, hw.1, hw.2.1, hw.2.2⟩
  rw [Addr.add_add]
  exact hr j v (by rw [hc]; exact hv)
end Go.Proofs.YtkppipeadibfkaaDoor
