/- The law MeterChecks of the given program answers true: of every configuration the package's Check tells what the document's does. No conditions. -/
import Derived.Test.YtflkkkkbbgfbdaaRdMeterChecks
namespace Go.Proofs.Ytflkkkkbbgfbdaa.Pure
open Go.RowKit Go.Proofs.Ytflkkkkbbgfbdaa.PMeterChecks Go.Proofs.YtflkkkkbbgfbdaaW.PrintWords

theorem wakes_true : posternlaw8_wakes.f = some true := by decide +kernel

theorem check_same (H L : Int) (h0 : 0 ≤ L) (h1 : L < 18446744073709551616) : ∃ c, meter_Check.f H L = some c ∧ posternref8_Check.f H L = some c := by
  refine ⟨if 1 ≤ H ∧ 4607182418800017408 ≤ L ∧ L < 9218868437227405312 then 0 else 80, by unfold meter_Check.f; rw [if_pos ⟨h0, h1⟩], ?_⟩
  unfold posternref8_Check.f posternref8_Fine.f
  simp only [Option.bind_some]
  by_cases a : H < 1
  · rw [if_pos a, if_neg (by omega)]
  · rw [if_neg a]
    by_cases b : L < 9218868437227405312
    · rw [if_pos (decide_eq_true b)]
      by_cases c : L < 4607182418800017408
      · rw [if_pos c, if_neg (by omega)]
      · rw [if_neg c, if_pos (by omega)]
    · rw [if_neg (by simpa using b), if_neg (by omega)]

theorem all_checks (l : List S28) (hl : l.length ≤ 140737488351232) (hw : ∀ x ∈ l, w28 x) (d : Nat) : ∀ (k : Nat) (i : Int), 0 ≤ i → i ≤ l.length → (l.length : Int) - i = d → d < k →
    posternlaw8_MeterChecks.l0 k l i = some true := by
  induction d with
  | zero =>
    intro k i h0 h1 hd hk
    obtain ⟨k, rfl⟩ : ∃ m, k = m + 1 := ⟨k - 1, by omega⟩
    simp only [posternlaw8_MeterChecks.l0]
    rw [if_neg (by omega), wakes_true]; rfl
  | succ d ih =>
    intro k i h0 h1 hd hk
    obtain ⟨k, rfl⟩ : ∃ m, k = m + 1 := ⟨k - 1, by omega⟩
    have hlt : i < (l.length : Int) := by omega
    have hx : rd_T28 l i ∈ l := by
      unfold rd_T28
      rw [List.getD_eq_getElem?_getD, List.getElem?_eq_getElem (show i.toNat < l.length by omega)]
      exact List.getElem_mem _
    have hw' := RD.wf_u64 (hw _ hx).2
    obtain ⟨c, hc1, hc2⟩ := check_same (rd_T28 l i).f0 (rd_T28 l i).f1 (by omega) (by omega)
    simp only [posternlaw8_MeterChecks.l0]
    rw [if_pos hlt, if_pos h0, hc1]
    simp only [Option.bind_some, posternlaw8_num.f]
    rw [hc2]
    simp only [Option.bind_some, if_true]
    rw [show wrap64 (i + 1) = i + 1 by unfold wrap64; omega]
    exact ih k (i + 1) (by omega) (by omega) (by omega) (by omega)

theorem MeterChecks : LawPure := by
  intro l ⟨hl, hw⟩
  exact ⟨l.length + 1, all_checks l (by omega) hw l.length _ 0 (by omega) (by omega) (by omega) (by omega)⟩

end Go.Proofs.Ytflkkkkbbgfbdaa.Pure
