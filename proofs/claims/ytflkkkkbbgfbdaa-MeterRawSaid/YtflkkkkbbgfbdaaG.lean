/- The plain law of the meter: what now, lives and waits are, in numbers. No conditions but those of each lemma. -/
import Derived.Test.YtflkkkkbbgfbdaaE
namespace Go.Proofs.Ytflkkkkbbgfbdaa
open Go.RowKit Flt

theorem nl_succ (k s : Nat) (h : s < infB) : nl (k + 1) s = nl k (halfN s) := by
  simp only [nl]
  by_cases h0 : 0 < s
  · rw [if_pos ⟨h0, h⟩]
  · obtain rfl : s = 0 := by omega
    rw [if_neg (by omega), halfN_zero]
    cases k with
    | zero => rfl
    | succ k => simp [nl]
theorem nl_lt (k : Nat) : ∀ s, s < infB → nl k s < infB := by
  induction k with
  | zero => intro s h; exact h
  | succ k ih => intro s h; rw [nl_succ k s h]; exact ih _ (halfN_lt s h)
theorem nl_add (a : Nat) : ∀ (b s : Nat), s < infB → nl (a + b) s = nl b (nl a s) := by
  induction a with
  | zero => intro b s _; simp [nl]
  | succ a ih =>
    intro b s h
    rw [show a + 1 + b = (a + b) + 1 by omega, nl_succ _ s h, nl_succ _ s h]
    exact ih b _ (halfN_lt s h)
theorem halfN_le' (s : Nat) : halfN s ≤ s := by
  by_cases h : 0 < s
  · exact Nat.le_of_lt (halfN_le s h)
  · obtain rfl : s = 0 := by omega
    decide
theorem nl_le (k : Nat) : ∀ s, s < infB → nl k s ≤ s := by
  induction k with
  | zero => intro s _; exact Nat.le_refl _
  | succ k ih => intro s h; rw [nl_succ k s h]; exact Nat.le_trans (ih _ (halfN_lt s h)) (halfN_le' s)
/-- A limit is reached as long as there are lives. -/
theorem nl_ge (l : Nat) (hl : 0 < l) (m : Nat) : ∀ s, s < infB → (l ≤ nl m s ↔ m < lv s l) := by
  induction m with
  | zero =>
    intro s _
    show l ≤ s ↔ _
    by_cases h : l ≤ s
    · rw [lv_step s l hl h]; omega
    · rw [lv_stop s l (by omega)]; omega
  | succ m ih =>
    intro s hs
    rw [nl_succ m s hs, ih _ (halfN_lt s hs)]
    by_cases h : l ≤ s
    · rw [lv_step s l hl h]; omega
    · have := halfN_le' s
      rw [lv_stop s l (by omega), lv_stop (halfN s) l (by omega)]; omega
theorem lv_nl (l : Nat) (hl : 0 < l) (k s : Nat) (hs : s < infB) : lv (nl k s) l = lv s l - k := by
  have h1 : ∀ m, m < lv (nl k s) l ↔ k + m < lv s l := by
    intro m
    rw [← nl_ge l hl m _ (nl_lt k s hs), ← nl_add k m s hs, nl_ge l hl _ s hs]
  have a := h1 (lv s l - k)
  have b := h1 (lv (nl k s) l)
  omega

/-- so many whole half-lives from a time to another one -/
def lives (H A t : Int) : Nat := ((t - A) / H).toNat
theorem lives_le (H A t : Int) (hH : 1 ≤ H) (h : t ≤ A) : lives H A t = 0 := by
  unfold lives
  by_cases h' : t = A
  · subst h'; simp
  · have : (t - A) / H < 0 := Int.ediv_neg_of_neg_of_pos (by omega) (by omega)
    omega
theorem lives_mul (H A t : Int) (hH : 1 ≤ H) (h : A ≤ t) : (lives H A t : Int) * H ≤ t - A ∧ t - A < (lives H A t : Int) * H + H := by
  unfold lives
  have h0 : 0 ≤ (t - A) / H := Int.ediv_nonneg (by omega) (by omega)
  rw [Int.toNat_of_nonneg h0]
  refine ⟨Int.ediv_mul_le _ (by omega), ?_⟩
  have := Int.lt_ediv_add_one_mul_self (t - A) (show 0 < H by omega)
  rw [Int.add_mul, Int.one_mul] at this
  exact this
theorem lives_of (H A t : Int) (n : Nat) (hH : 1 ≤ H) (h1 : (n : Int) * H ≤ t - A) (h2 : t - A < (n : Int) * H + H) : lives H A t = n := by
  have h0 : 0 ≤ (n : Int) * H := Int.mul_nonneg (by omega) (by omega)
  obtain ⟨a, b⟩ := lives_mul H A t hH (by omega)
  have c1 : ¬ lives H A t < n := by
    intro h
    have : ((lives H A t : Int) + 1) * H ≤ (n : Int) * H := Int.mul_le_mul_of_nonneg_right (by omega) (by omega)
    rw [Int.add_mul, Int.one_mul] at this
    omega
  have c2 : ¬ n < lives H A t := by
    intro h
    have : ((n : Int) + 1) * H ≤ (lives H A t : Int) * H := Int.mul_le_mul_of_nonneg_right (by omega) (by omega)
    rw [Int.add_mul, Int.one_mul] at this
    omega
  omega
theorem nowP_eq (H S A t : Int) (hH : 1 ≤ H) : nowP H S A t = (nl (lives H A t) S.toNat, A + (lives H A t : Int) * H) := by
  unfold nowP
  by_cases h : A < t
  · rw [if_pos ⟨h, hH⟩]
    unfold lives
    have h0 : 0 ≤ (t - A) / H := Int.ediv_nonneg (by omega) (by omega)
    rw [Int.toNat_of_nonneg h0]
  · rw [if_neg (by omega), lives_le H A t hH (by omega)]
    simp [nl]
theorem nowP_facts (H S A t : Int) (hH : 1 ≤ H) (f : Fits H S A t) (hs : S < 9218868437227405312) (hA : A ≤ 9223372036854775807) :
    (nowP H S A t).1 < infB ∧ -9223372036854775808 ≤ (nowP H S A t).2 ∧ (nowP H S A t).2 ≤ 9223372036854775807 ∧ A ≤ (nowP H S A t).2 ∧ t < (nowP H S A t).2 + H := by
  rw [nowP_eq H S A t hH]
  have h0 : 0 ≤ (lives H A t : Int) * H := Int.mul_nonneg (by omega) (by omega)
  have hf := f.a; have hf2 := f.t; have hf3 := f.s0
  refine ⟨nl_lt _ _ (by unfold infB; omega), by show _ ≤ A + _; omega, ?_, by show A ≤ A + _; omega, ?_⟩
  · show A + _ ≤ _
    by_cases h : A ≤ t
    · have := (lives_mul H A t hH h).1; omega
    · rw [lives_le H A t hH (by omega)]; omega
  · show t < A + _ + H
    by_cases h : A ≤ t
    · have := (lives_mul H A t hH h).2; omega
    · omega
theorem geB_lives (H S A t : Int) (L : Nat) (hH : 1 ≤ H) (hs0 : 0 ≤ S) (hs : S < 9218868437227405312) (hL : 0 < L) (hL2 : L < infB) :
    geB (nowP H S A t).1 L = decide (lives H A t < lv S.toNat L) := by
  have h1 : S.toNat < infB := by unfold infB; omega
  rw [nowP_eq H S A t hH]
  show geB (nl (lives H A t) S.toNat) L = _
  rw [geB_fine _ _ (nl_lt _ _ h1) hL2]
  exact decide_eq_decide.mpr (nl_ge L hL _ _ h1)

theorem plusN_ge (r : Nat) (h : r < infB) : r ≤ plusN r ∧ (r ≤ 4831355200913801216 → r < plusN r) := by
  have b1 : ∀ n d, n / d ≤ rne n d := fun n d => by unfold rne; omega
  unfold infB at h
  unfold plusN
  dsimp only
  by_cases hb : r < 4503599627370496
  · rw [if_pos hb, if_pos (by decide)]
    generalize rne (sig r) (2 ^ (1023 - 1)) = x
    omega
  · rw [if_neg hb]
    have hr : sig r = 4503599627370496 + r % 4503599627370496 := by unfold sig; rw [if_neg hb]
    obtain ⟨e, he⟩ : ∃ e, e = r / 4503599627370496 := ⟨_, rfl⟩
    rw [← he]
    by_cases h2 : e < 1023
    · rw [if_pos h2]
      generalize rne (sig r) (2 ^ (1023 - e)) = x
      omega
    · rw [if_neg h2]
      by_cases h3 : e = 1023
      · rw [if_pos h3]
        have := b1 (sig r) 2
        omega
      · rw [if_neg h3]
        by_cases h4 : 1076 < e
        · rw [if_pos h4]; omega
        · rw [if_neg h4]
          have hk1 : 2 ^ 1 ≤ 2 ^ (1077 - e) := Nat.pow_le_pow_right (by decide) (by omega)
          have hk2 : e ≤ 1075 → 2 ^ 2 ≤ 2 ^ (1077 - e) := fun h => Nat.pow_le_pow_right (by decide) (by omega)
          generalize 2 ^ (1077 - e) = K at *
          by_cases h5 : 4 * sig r + K < 36028797018963968
          · rw [if_pos h5]
            have := b1 (4 * sig r + K) 4
            generalize rne (4 * sig r + K) 4 = x at *
            refine ⟨by omega, fun h6 => ?_⟩
            have := hk2 (by omega)
            omega
          · rw [if_neg h5]
            have := b1 (4 * sig r + K) 8
            generalize rne (4 * sig r + K) 8 = x at *
            omega
theorem quarterN_le (r : Nat) : quarterN r ≤ r := by
  unfold quarterN
  by_cases h1 : r < 9007199254740992
  · rw [if_pos h1]; unfold rne; split <;> omega
  · rw [if_neg h1]
    by_cases h2 : r < 13510798882111488
    · rw [if_pos h2]; unfold rne; split <;> omega
    · rw [if_neg h2]; omega
end Go.Proofs.Ytflkkkkbbgfbdaa
