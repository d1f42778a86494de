/- The law MeterWaits of the given program answers true: a meter is locked ahead of the end of its Wait, and not at it. No conditions. -/
import Derived.Test.YtflkkkkbbgfbdaaRdMeterWaits
import Derived.Test.YtflkkkkbbgfbdaaG
namespace Go.Proofs.Ytflkkkkbbgfbdaa.Pure
open Go.RowKit Go.Proofs.Ytflkkkkbbgfbdaa.PMeterWaits Go.Proofs.YtflkkkkbbgfbdaaW.PrintWords Flt

theorem wakes_true : posternlaw8_wakes.f = some true := by decide +kernel

/-- what fine tells -/
theorem fine_some (H L S A : Int) (hL0 : 0 ≤ L) (hL1 : L < 18446744073709551616) (hS0 : 0 ≤ S) (hS1 : S < 18446744073709551616) :
    ∃ b, posternlaw8_fine.f H L S A = some b ∧ (b = true → 1 ≤ H ∧ 4607182418800017408 ≤ L ∧ L < 9218868437227405312 ∧ S < 9218868437227405312) := by
  unfold posternlaw8_fine.f meter_Check.f posternlaw8_num.f math_Signbit.f
  rw [if_pos ⟨hL0, hL1⟩]
  simp only [Option.bind_some]
  by_cases hc : 1 ≤ H ∧ 4607182418800017408 ≤ L ∧ L < 9218868437227405312
  · rw [if_pos hc, if_pos rfl]
    by_cases g : geB S.toNat 0 = true
    · rw [if_pos g]
      by_cases m : leB S.toNat 9218868437227405311 = true
      · rw [if_pos m]
        refine ⟨_, rfl, fun hb => ⟨hc.1, hc.2.1, hc.2.2, ?_⟩⟩
        have h1 : S < 9223372036854775808 := by
          simp only [Bool.not_eq_true', decide_eq_false_iff_not] at hb
          unfold wrap64 at hb
          omega
        rcases Nat.lt_trichotomy S.toNat infB with h | h | h
        · unfold infB at h; omega
        · rw [h] at m
          exact absurd m (by decide)
        · rw [geB_nan S.toNat 0 h (by omega)] at g
          cases g
      · rw [if_neg m]; exact ⟨_, rfl, fun h => by cases h⟩
    · rw [if_neg g]; exact ⟨_, rfl, fun h => by cases h⟩
  · rw [if_neg hc, if_neg (by decide)]
    exact ⟨_, rfl, fun h => by cases h⟩

theorem waits (H L S A t B : Int) (hH : 1 ≤ H) (hHu : H ≤ 9223372036854775807) (hL1 : 4607182418800017408 ≤ L) (hL2 : L < 9218868437227405312) (hS0 : 0 ≤ S) (hS : S < 9218868437227405312)
    (hA1 : -9223372036854775808 ≤ A) (hA2 : A ≤ 9223372036854775807) (ht1 : -9223372036854775808 ≤ t) (ht2 : t ≤ 9223372036854775807) (hf : posternlaw8_fine.f H L S A = some true) :
    posternlaw8_MeterWaits.f 1 H L S A t B = some true := by
  have fits : ∀ u, u ≤ 9223372036854775807 → Fits H S A u := fun u hu => ⟨hA1, hu, hHu, hS0, by omega⟩
  have hLl : L.toNat < infB := by unfold infB; omega
  have hLp : 0 < L.toNat := by omega
  have hSl : S.toNat < infB := by unfold infB; omega
  have hlock : ∀ u, u ≤ 9223372036854775807 → meter_Locked.f H L S A u = some (decide (lives H A u < lv S.toNat L.toNat)) := by
    intro u hu
    unfold meter_Locked.f
    rw [if_pos (fits u hu), geB_lives H S A u L.toNat hH hS0 hS hLp hLl]
  obtain ⟨f1, f2, f3, f4, f5⟩ := nowP_facts H S A t hH (fits t ht2) hS hA2
  have hwait : meter_Wait.f H L S A t = some (waitP H L S A t) := by
    unfold meter_Wait.f
    rw [if_pos ⟨⟨hA1, ht2, hHu, hS0, by omega⟩, f1, hH, by omega, hL2, ⟨f2, f3⟩, ht1, f5⟩]
  obtain ⟨k, hk⟩ : ∃ k, k = lives H A t := ⟨_, rfl⟩
  obtain ⟨n, hn⟩ : ∃ n, n = lv S.toNat L.toNat := ⟨_, rfl⟩
  have hnow := nowP_eq H S A t hH
  rw [← hk] at hnow
  have hkH : 0 ≤ (k : Int) * H := Int.mul_nonneg (by omega) (by omega)
  unfold posternlaw8_MeterWaits.f
  rw [hf, hwait]
  simp only [Option.bind_some, if_true]
  unfold waitP
  rw [hnow]
  dsimp only
  have hge := nl_ge L.toNat hLp k S.toNat hSl
  rw [← hn] at hge
  have hln := lv_nl L.toNat hLp k S.toNat hSl
  rw [← hn] at hln
  rw [hln]
  by_cases c1 : nl k S.toNat < L.toNat
  · have c2 : ¬ k < n := fun h => absurd (hge.mpr h) (by omega)
    rw [if_pos c1]
    simp only [if_true]
    rw [if_neg (by decide)]
    have hl0 : meter_Locked.f H L S A (wrap64 (t + 0)) = some false := by
      rw [show wrap64 (t + 0) = t by unfold wrap64; omega, hlock t ht2, ← hk, ← hn, decide_eq_false c2]
    have hj : posternlaw8_MeterWaits.j0 1 0 false H L S A t B = some true := by
      simp only [posternlaw8_MeterWaits.j0]
      rw [if_neg (by decide), if_neg (by decide), wakes_true]; rfl
    by_cases c3 : t > 0
    · rw [if_pos c3, if_neg (by unfold wrap64; omega), hl0]
      simp only [Option.bind_some]
      exact hj
    · rw [if_neg c3, hl0]
      simp only [Option.bind_some]
      exact hj
  · have c2 : k < n := hge.mp (by omega)
    rw [if_neg c1]
    have hlt : meter_Locked.f H L S A t = some true := by rw [hlock t ht2, ← hk, ← hn, decide_eq_true c2]
    obtain ⟨m, hm⟩ : ∃ m : Nat, n = k + m := ⟨n - k, by omega⟩
    have hm1 : 1 ≤ m := by omega
    rw [show n - k = m by omega]
    have hnH : (n : Int) * H = (k : Int) * H + (m : Int) * H := by rw [hm, Int.natCast_add, Int.add_mul]
    have hmH : H ≤ (m : Int) * H := by
      have := Int.mul_le_mul_of_nonneg_right (show (1 : Int) ≤ m by omega) (show 0 ≤ H by omega)
      omega
    have hnot : ((0 : Int), false).2 = true ↔ False := by simp
    have hno : (if ((0 : Int), false).2 = true then (if ((0 : Int), false).1 < 0 then posternlaw8_MeterWaits.j0 1 ((0 : Int), false).1 true H L S A t B else none) else (none : Option Bool)) = none := by simp
    clear hno hnot
    by_cases b1 : (9223372036854775807 - (A + (k : Int) * H)) / H < (m : Int)
    · rw [if_pos b1]
      simp only [Bool.false_eq_true, if_false, if_true]
      rw [hlt]
      simp only [Option.bind_some, if_true, wakes_true]
    · rw [if_neg b1]
      have hle : (m : Int) * H ≤ 9223372036854775807 - (A + (k : Int) * H) :=
        Int.le_trans (Int.mul_le_mul_of_nonneg_right (by omega) (by omega)) (Int.ediv_mul_le _ (by omega))
      rw [hnow] at f5
      have f5' : t < A + (k : Int) * H + H := f5
      by_cases b2 : 9223372036854775807 < A + (k : Int) * H + (m : Int) * H - t
      · rw [if_pos b2]
        simp only [Bool.false_eq_true, if_false, if_true]
        rw [hlt]
        simp only [Option.bind_some, if_true, wakes_true]
      · rw [if_neg b2]
        simp only [if_true]
        obtain ⟨w, hw⟩ : ∃ w, w = A + (k : Int) * H + (m : Int) * H - t := ⟨_, rfl⟩
        rw [← hw]
        have hend : lives H A (t + w) = n := lives_of H A (t + w) n hH (by omega) (by omega)
        have hlast : lives H A (t + w - 1) = n - 1 := lives_of H A (t + w - 1) (n - 1) hH (by
          have : ((n - 1 : Nat) : Int) * H = (n : Int) * H - H := by rw [show ((n - 1 : Nat) : Int) = (n : Int) - 1 by omega, Int.sub_mul, Int.one_mul]
          omega) (by
          have : ((n - 1 : Nat) : Int) * H = (n : Int) * H - H := by rw [show ((n - 1 : Nat) : Int) = (n : Int) - 1 by omega, Int.sub_mul, Int.one_mul]
          omega)
        have hl0 : meter_Locked.f H L S A (wrap64 (t + w)) = some false := by
          rw [show wrap64 (t + w) = t + w by unfold wrap64; omega, hlock (t + w) (by omega), hend, ← hn, decide_eq_false (by omega)]
        have hl1 : meter_Locked.f H L S A (wrap64 ((wrap64 (t + w)) - 1)) = some true := by
          rw [show wrap64 ((wrap64 (t + w)) - 1) = t + w - 1 by unfold wrap64; omega, hlock (t + w - 1) (by omega), hlast, ← hn, decide_eq_true (by omega)]
        have hj : posternlaw8_MeterWaits.j0 1 w false H L S A t B = some true := by
          simp only [posternlaw8_MeterWaits.j0]
          rw [if_neg (by decide), if_pos (by omega), hlt]
          simp only [Option.bind_some, if_true]
          rw [hl1]
          simp only [Option.bind_some, if_true, wakes_true]
        rw [if_neg (by omega)]
        by_cases c3 : t > 0
        · rw [if_pos c3, if_neg (by unfold wrap64; omega), hl0]
          simp only [Option.bind_some]
          exact hj
        · rw [if_neg c3, hl0]
          simp only [Option.bind_some]
          exact hj

theorem MeterWaits : LawPure := by
  intro x ⟨⟨h1, h2⟩, ⟨h3, h4⟩, h5, h6⟩
  have a1 := RD.wf_i64 h1; have a2 := RD.wf_u64 h2; have a3 := RD.wf_u64 h3; have a4 := RD.wf_i64 h4; have a5 := RD.wf_i64 h5
  obtain ⟨b, hb, hb'⟩ := fine_some x.f0.f0 x.f0.f1 x.f1.f0 x.f1.f1 a2.1 a2.2 a3.1 a3.2
  refine ⟨1, ?_⟩
  cases b with
  | false =>
    unfold posternlaw8_MeterWaits.f
    rw [hb]
    simp only [Option.bind_some, Bool.false_eq_true, if_false, wakes_true]
  | true =>
    obtain ⟨c1, c2, c3, c4⟩ := hb' rfl
    exact waits _ _ _ _ _ _ c1 a1.2 c2 c3 a3.1 c4 a4.1 a4.2 a5.1 a5.2 hb

end Go.Proofs.Ytflkkkkbbgfbdaa.Pure
