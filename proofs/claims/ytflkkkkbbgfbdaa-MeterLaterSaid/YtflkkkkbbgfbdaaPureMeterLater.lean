/- The law MeterLater of the given program answers true: what a meter is at a later time hangs on nothing in between. No conditions. -/
import Derived.Test.YtflkkkkbbgfbdaaRdMeterLater
import Derived.Test.YtflkkkkbbgfbdaaG
namespace Go.Proofs.Ytflkkkkbbgfbdaa.Pure
open Go.RowKit Go.Proofs.Ytflkkkkbbgfbdaa.PMeterLater Go.Proofs.YtflkkkkbbgfbdaaW.PrintWords Flt

theorem wakes_true : posternlaw8_wakes.f = some true := by decide +kernel

/-- what fine tells -/
theorem fine_some (H L S A : Int) (hL0 : 0 ≤ L) (hL1 : L < 18446744073709551616) (hS0 : 0 ≤ S) (hS1 : S < 18446744073709551616) :
    ∃ b, posternlaw8_fine.f H L S A = some b ∧ (b = true → 1 ≤ H ∧ 4607182418800017408 ≤ L ∧ L < 9218868437227405312 ∧ S < 9218868437227405312) := by
  unfold posternlaw8_fine.f meter_Check.f posternlaw8_num.f math_Signbit.f
  rw [if_pos ⟨hL0, hL1⟩]
  simp only [Option.bind_some]
  by_cases hc : 1 ≤ H ∧ 4607182418800017408 ≤ L ∧ L < 9218868437227405312
  · rw [if_pos hc, if_pos rfl]
    by_cases g : geB S.toNat 0 = true
    · rw [if_pos g]
      by_cases m : leB S.toNat 9218868437227405311 = true
      · rw [if_pos m]
        refine ⟨_, rfl, fun hb => ⟨hc.1, hc.2.1, hc.2.2, ?_⟩⟩
        have h1 : S < 9223372036854775808 := by
          simp only [Bool.not_eq_true', decide_eq_false_iff_not] at hb
          unfold wrap64 at hb
          omega
        rcases Nat.lt_trichotomy S.toNat infB with h | h | h
        · unfold infB at h; omega
        · rw [h] at m
          exact absurd m (by decide)
        · rw [geB_nan S.toNat 0 h (by omega)] at g
          cases g
      · rw [if_neg m]; exact ⟨_, rfl, fun h => by cases h⟩
    · rw [if_neg g]; exact ⟨_, rfl, fun h => by cases h⟩
  · rw [if_neg hc, if_neg (by decide)]
    exact ⟨_, rfl, fun h => by cases h⟩

theorem fine_true (H L S A : Int) (hH : 1 ≤ H) (hL1 : 4607182418800017408 ≤ L) (hL2 : L < 9218868437227405312) (hS0 : 0 ≤ S) (hS1 : S < 9218868437227405312) : posternlaw8_fine.f H L S A = some true := by
  have hs : S.toNat < infB := by unfold infB; omega
  unfold posternlaw8_fine.f meter_Check.f posternlaw8_num.f math_Signbit.f
  rw [if_pos ⟨by omega, by omega⟩, if_pos ⟨hH, hL1, hL2⟩]
  simp only [Option.bind_some]
  rw [if_pos trivial, geB_fine _ _ hs (by decide), if_pos (decide_eq_true (by omega)), leB_fine _ _ hs (by decide), if_pos (decide_eq_true (by omega))]
  rw [decide_eq_false (by unfold wrap64; omega)]; rfl

theorem laters (H L S A x y a b : Int) (hH : 1 ≤ H) (hHu : H ≤ 9223372036854775807) (hL1 : 4607182418800017408 ≤ L) (hL2 : L < 9218868437227405312) (hS0 : 0 ≤ S) (hS : S < 9218868437227405312)
    (hA1 : -9223372036854775808 ≤ A) (hA2 : A ≤ 9223372036854775807) (hx : x ≤ 9223372036854775807) (hy : y ≤ 9223372036854775807) (hxy : x ≤ y) :
    posternlaw8_MeterLater.j0 3 x y H L S A a b = some true := by
  have fits : ∀ u, u ≤ 9223372036854775807 → Fits H S A u := fun u hu => ⟨hA1, hu, hHu, hS0, by omega⟩
  have hSl : S.toNat < infB := by unfold infB; omega
  obtain ⟨p1, p2, p3, p4, p5⟩ := nowP_facts H S A x hH (fits x hx) hS hA2
  obtain ⟨q1, q2, q3, q4, q5⟩ := nowP_facts H S A y hH (fits y hy) hS hA2
  have nx := nowP_eq H S A x hH
  have ny := nowP_eq H S A y hH
  obtain ⟨k, hk⟩ : ∃ k, k = lives H A x := ⟨_, rfl⟩
  obtain ⟨j, hj⟩ : ∃ j, j = lives H (A + (k : Int) * H) y := ⟨_, rfl⟩
  have hkH : 0 ≤ (k : Int) * H := Int.mul_nonneg (by omega) (by omega)
  have hjH : 0 ≤ (j : Int) * H := Int.mul_nonneg (by omega) (by omega)
  have hkj : lives H A y = k + j := by
    by_cases h : A ≤ x
    · obtain ⟨m1, m2⟩ := lives_mul H A x hH h
      rw [← hk] at m1 m2
      obtain ⟨m3, m4⟩ := lives_mul H (A + (k : Int) * H) y hH (by omega)
      rw [← hj] at m3 m4
      have e : ((k + j : Nat) : Int) * H = (k : Int) * H + (j : Int) * H := by rw [Int.natCast_add, Int.add_mul]
      exact lives_of H A y (k + j) hH (by omega) (by omega)
    · have h0 : k = 0 := by rw [hk]; exact lives_le H A x hH (by omega)
      subst h0
      rw [hj]
      simp
  rw [← hk] at nx
  rw [hkj] at ny
  have e : ((k + j : Nat) : Int) * H = (k : Int) * H + (j : Int) * H := by rw [Int.natCast_add, Int.add_mul]
  have hn2 := nowP_eq H ((nl k S.toNat : Nat) : Int) (A + (k : Int) * H) y hH
  rw [← hj, Int.toNat_natCast, ← nl_add k j _ hSl, show A + (k : Int) * H + (j : Int) * H = A + ((k + j : Nat) : Int) * H by rw [e]; omega] at hn2
  obtain ⟨s, hs⟩ : ∃ s, s = nl (k + j) S.toNat := ⟨_, rfl⟩
  obtain ⟨T, hT⟩ : ∃ T, T = A + ((k + j : Nat) : Int) * H := ⟨_, rfl⟩
  rw [nx] at p1 p2 p3 p4 p5
  rw [ny] at q1 q2 q3 q4 q5
  rw [← hs, ← hT] at ny hn2
  rw [← hs, ← hT] at q1 q2 q3 q4 q5
  dsimp only at p1 p2 p3 p4 p5 q1 q2 q3 q4 q5
  have hkl := nl_lt k S.toNat hSl
  have hsl : s < infB := q1
  have hsk : s ≤ nl k S.toNat := by rw [hs, nl_add k j _ hSl]; exact nl_le j _ hkl
  unfold infB at hkl hsl
  have fx : meter_Now.f H L S A x = some (((nl k S.toNat : Nat) : Int), A + (k : Int) * H) := by
    unfold meter_Now.f; rw [if_pos (fits x hx), nx]
  have fy : meter_Now.f H L S A y = some ((s : Int), T) := by
    unfold meter_Now.f; rw [if_pos (fits y hy), ny]
  have fxy : meter_Now.f H L ((nl k S.toNat : Nat) : Int) (A + (k : Int) * H) y = some ((s : Int), T) := by
    unfold meter_Now.f; rw [if_pos ⟨p2, hy, hHu, by omega, by omega⟩, hn2]
  have ff : meter_Fail.f H L S A y = some (((plusN s : Nat) : Int), T) := by
    unfold meter_Fail.f; rw [ny]; dsimp only; rw [if_pos ⟨fits y hy, q1⟩]
  have fp : meter_Pass.f H L S A y = some (((quarterN s : Nat) : Int), T) := by
    unfold meter_Pass.f; rw [ny]; dsimp only; rw [if_pos ⟨fits y hy, q1⟩]
  have hpl := plusN_lt s q1
  have hql := quarterN_lt s q1
  have hpg := plusN_ge s q1
  have hqg := quarterN_le s
  have g1 : leB s (nl k S.toNat) = true := by rw [leB_fine _ _ q1 p1]; exact decide_eq_true hsk
  have g2 : geB (plusN s) s = true := by rw [geB_fine _ _ hpl q1]; exact decide_eq_true hpg.1
  have g3 : leB (quarterN s) s = true := by rw [leB_fine _ _ hql q1]; exact decide_eq_true hqg
  have hj2 : posternlaw8_MeterLater.j2 1 s false ((nl k S.toNat : Nat) : Int) (A + (k : Int) * H) ((plusN s : Nat) : Int) T ((quarterN s : Nat) : Int) T = some true := by
    simp only [posternlaw8_MeterLater.j2, Int.toNat_natCast]
    rw [if_neg (by decide), if_pos g1, if_pos g2, if_pos g3]
    by_cases h : gtB s 4831355200913801216 = true
    · rw [if_pos h, wakes_true]; rfl
    · rw [if_neg h]
      have g4 : gtB (plusN s) s = true := by
        rw [gtB_fine _ _ hpl q1]
        rw [gtB_fine _ _ q1 (by decide)] at h
        exact decide_eq_true (hpg.2 (by simpa using h))
      rw [if_pos g4, wakes_true]; rfl
  unfold infB at hpl hql
  have hj1 : posternlaw8_MeterLater.j1 2 y false H L S A a b ((nl k S.toNat : Nat) : Int) (A + (k : Int) * H) (s : Int) T = some true := by
    simp only [posternlaw8_MeterLater.j1]
    rw [if_neg (by decide), ff, fp]
    simp only [Option.bind_some]
    rw [fine_true H L _ T hH hL1 hL2 (by omega) (by omega), fine_true H L _ T hH hL1 hL2 (by omega) (by omega)]
    simp only [Option.bind_some, if_true]
    rw [show (T != T) = false by simp, Int.toNat_natCast]
    exact hj2
  simp only [posternlaw8_MeterLater.j0]
  rw [fx, fy]
  simp only [Option.bind_some]
  rw [fxy]
  simp only [Option.bind_some]
  rw [if_neg (by simp)]
  rw [fine_true H L _ _ hH hL1 hL2 (by omega) (by omega), fine_true H L _ _ hH hL1 hL2 (by omega) (by omega)]
  simp only [Option.bind_some, if_true]
  exact hj1

theorem MeterLater : LawPure := by
  intro x ⟨⟨h1, h2⟩, ⟨h3, h4⟩, h5, h6⟩
  have a1 := RD.wf_i64 h1; have a2 := RD.wf_u64 h2; have a3 := RD.wf_u64 h3; have a4 := RD.wf_i64 h4; have a5 := RD.wf_i64 h5; have a6 := RD.wf_i64 h6
  obtain ⟨b, hb, hb'⟩ := fine_some x.f0.f0 x.f0.f1 x.f1.f0 x.f1.f1 a2.1 a2.2 a3.1 a3.2
  refine ⟨3, ?_⟩
  unfold posternlaw8_MeterLater.f
  rw [hb]
  cases b with
  | false => simp only [Option.bind_some, Bool.false_eq_true, if_false, wakes_true]
  | true =>
    obtain ⟨c1, c2, c3, c4⟩ := hb' rfl
    simp only [Option.bind_some, if_true]
    by_cases h : x.f2 > x.f3
    · rw [if_pos h]
      exact laters _ _ _ _ _ _ _ _ c1 a1.2 c2 c3 a3.1 c4 a4.1 a4.2 a6.2 a5.2 (by omega)
    · rw [if_neg h]
      exact laters _ _ _ _ _ _ _ _ c1 a1.2 c2 c3 a3.1 c4 a4.1 a4.2 a5.2 a6.2 (by omega)

end Go.Proofs.Ytflkkkkbbgfbdaa.Pure
