/- The law MeterExact of the given program answers true: whatever is done with a meter, every answer is the document's, to the last bit. No conditions. -/
import Derived.Test.YtflkkkkbbgfbdaaRdMeterExact
import Derived.Test.YtflkkkkbbgfbdaaG
import Derived.Laws.BitsAllLaws
namespace Go.Proofs.Ytflkkkkbbgfbdaa.Pure
open Go.RowKit Go.Proofs.Ytflkkkkbbgfbdaa.PMeterExact Go.Proofs.YtflkkkkbbgfbdaaW.PrintWords Go.Proofs.YtflkkkkbbgfbdaaW.PrintMore Flt

theorem wakes_true : posternlaw8_wakes.f = some true := by decide +kernel

theorem uw (x : Int) (h0 : 0 ≤ x) (h1 : x < 18446744073709551616) : IntKind.u64.wrap x = x := by rw [IntKind.wrap_u64]; omega
theorem td (x c : Int) (h0 : 0 ≤ x) : Int.tdiv x c = x / c := Int.tdiv_eq_ediv_of_nonneg h0
theorem tm (x c : Int) (h0 : 0 ≤ x) : Int.tmod x c = x % c := Int.tmod_eq_emod_of_nonneg h0

/-! ### a half, a quarter -/
theorem half_some (s : Nat) (h : s < infB) : posternref8_Half.f (s : Int) = some ((halfN s : Nat) : Int) := by
  unfold infB at h
  unfold posternref8_Half.f halfN
  rw [td _ _ (by omega), uw ((s : Int) / 2) (by omega) (by omega), tm _ _ (by omega), tm _ _ (by omega)]
  by_cases h1 : s < 9007199254740992
  · rw [if_neg (by omega), if_pos h1]
    unfold rne
    by_cases h2 : s % 2 = 1
    · rw [if_pos (by omega)]
      by_cases h3 : s / 2 % 2 = 1
      · rw [if_pos (by omega), if_pos (.inr ⟨by omega, h3⟩), uw _ (by omega) (by omega)]; congr 1
      · rw [if_neg (by omega), if_neg (by omega)]; congr 1
    · rw [if_neg (by omega), if_neg (by omega)]; congr 1
  · rw [if_pos (by omega), if_neg h1, uw _ (by omega) (by omega)]; congr 1; omega
theorem quarter_some (s : Nat) (h : s < infB) : posternref8_Quarter.f (s : Int) = some ((quarterN s : Nat) : Int) := by
  have key : ∀ (m : Nat), m < 36028797018963968 → (if (Int.tmod (m : Int) 4) > 2 then (some (IntKind.u64.wrap ((IntKind.u64.wrap (Int.tdiv (m : Int) 4)) + 1))) else (if (Int.tmod (m : Int) 4) = 2 then (if (Int.tmod (IntKind.u64.wrap (Int.tdiv (m : Int) 4)) 2) = 1 then (some (IntKind.u64.wrap ((IntKind.u64.wrap (Int.tdiv (m : Int) 4)) + 1))) else (some (IntKind.u64.wrap (Int.tdiv (m : Int) 4)))) else (some (IntKind.u64.wrap (Int.tdiv (m : Int) 4))))) = some ((rne m 4 : Nat) : Int) := by
    intro m hm
    rw [td _ _ (by omega), uw ((m : Int) / 4) (by omega) (by omega), tm _ _ (by omega), tm _ _ (by omega), uw _ (by omega) (by omega)]
    unfold rne
    by_cases h1 : m % 4 > 2
    · rw [if_pos (by omega), if_pos (.inl (by omega))]; congr 1
    · rw [if_neg (by omega)]
      by_cases h2 : m % 4 = 2
      · rw [if_pos (by omega)]
        by_cases h3 : m / 4 % 2 = 1
        · rw [if_pos (by omega), if_pos (.inr ⟨by omega, h3⟩)]; congr 1
        · rw [if_neg (by omega), if_neg (by omega)]; congr 1
      · rw [if_neg (by omega), if_neg (by omega)]; congr 1
  unfold infB at h
  unfold posternref8_Quarter.f quarterN
  by_cases h1 : s < 4503599627370496
  · rw [if_neg (by omega), if_neg (by omega), if_pos (show s < 9007199254740992 by omega)]
    exact key s (by omega)
  · rw [tm (s : Int) 4503599627370496 (by omega), uw ((s : Int) % 4503599627370496 + 4503599627370496) (by omega) (by omega)]
    by_cases h2 : s < 9007199254740992
    · rw [if_neg (by omega), if_pos (by omega), if_neg (by omega), if_pos h2]
      have := key s (by omega)
      rw [show (s : Int) % 4503599627370496 + 4503599627370496 = (s : Int) by omega]
      exact this
    · by_cases h3 : s < 13510798882111488
      · rw [if_neg (by omega), if_pos (by omega), if_pos (by omega), if_neg h2, if_pos h3, uw _ (by omega) (by omega)]
        have := key ((4503599627370496 + s % 4503599627370496) * 2) (by omega)
        rw [show (2 : Int) * ((s : Int) % 4503599627370496 + 4503599627370496) = (((4503599627370496 + s % 4503599627370496) * 2 : Nat) : Int) by omega]
        rw [this]
        congr 2
        exact rne_scale _ 2 2 (by decide)
      · rw [if_pos (by omega), if_neg h2, if_neg h3, uw _ (by omega) (by omega)]; congr 1; omega

/-! ### one more -/
/-- q with what is left over: rounded, ties to even, if more doesn't say otherwise -/
def rs (s d : Nat) (more : Bool) : Nat := s / d + (if d < 2 * (s % d) ∨ (d = 2 * (s % d) ∧ (more = true ∨ s / d % 2 = 1)) then 1 else 0)
theorem rs_false (s d : Nat) : rs s d false = rne s d := by unfold rs rne; simp
theorem sticky (n d : Nat) (hd : 0 < d) : rs (n / d) 4 (decide (n % d ≠ 0)) = rne n (4 * d) := by
  unfold rs rne
  have e1 : n / d / 4 = n / (4 * d) := by rw [Nat.div_div_eq_div_mul, Nat.mul_comm]
  have e2 : n % (4 * d) = (n / d % 4) * d + n % d := by
    rw [Nat.mul_comm 4 d, Nat.mod_mul]
    rw [Nat.mul_comm d]; omega
  have hr : n % d < d := Nat.mod_lt _ hd
  rw [e1, e2]
  generalize n % d = r at *
  have hq : n / d % 4 = 0 ∨ n / d % 4 = 1 ∨ n / d % 4 = 2 ∨ n / d % 4 = 3 := by omega
  generalize n / (4 * d) = q
  congr 1
  rcases hq with h | h | h | h <;> rw [h]
  · rw [if_neg (by omega), if_neg (by omega)]
  · rw [if_neg (by omega), if_neg (by omega)]
  · by_cases h0 : r = 0
    · subst h0
      by_cases hq2 : q % 2 = 1
      · rw [if_pos (.inr ⟨by omega, .inr hq2⟩), if_pos (.inr ⟨by omega, hq2⟩)]
      · rw [if_neg (by simp [hq2]), if_neg (by omega)]
    · rw [if_pos (.inr ⟨by omega, .inl (decide_eq_true h0)⟩), if_pos (.inl (by omega))]
  · rw [if_pos (.inl (by omega)), if_pos (.inl (by omega))]

theorem shl_nat (a n : Nat) (hn : n ≤ 64) (h : a * 2 ^ n < 18446744073709551616) : shl .u64 (a : Int) (n : Int) = ((a * 2 ^ n : Nat) : Int) := by
  unfold shl
  rw [Int.toNat_natCast, show min n IntKind.u64.bits = n from Nat.min_eq_left hn, IntKind.wrap_u64]
  have : (a : Int) * 2 ^ n = ((a * 2 ^ n : Nat) : Int) := by simp
  rw [this]; omega
theorem shr_nat (a n : Nat) (hn : n ≤ 64) : shr .u64 (a : Int) (n : Int) = ((a / 2 ^ n : Nat) : Int) := by
  unfold shr
  rw [Int.toNat_natCast, show min n IntKind.u64.bits = n from Nat.min_eq_left hn]
  simp
theorem mask (a n : Nat) (ha : a < 18446744073709551616) (hn : n < 64) : Go.bits .and .u64 (a : Int) (IntKind.u64.wrap ((shl .u64 1 (n : Int)) - 1)) = ((a % 2 ^ n : Nat) : Int) := by
  have hp : 2 ^ n ≤ 2 ^ 63 := Nat.pow_le_pow_right (by decide) (by omega)
  have hp0 := Nat.two_pow_pos n
  have := shl_nat 1 n (by omega) (by omega)
  rw [show ((1 : Nat) : Int) = 1 from rfl] at this
  rw [this, Nat.one_mul, uw _ (by omega) (by omega)]
  rw [show ((2 ^ n : Nat) : Int) - 1 = ((2 ^ n - 1 : Nat) : Int) by omega, u64_and_nat a _ ha (by omega), Nat.and_two_pow_sub_one_eq_mod]

theorem fin_some (k : Nat) (e q : Nat) (up : Bool) (he1 : 1 ≤ e) (he : e < 2046) (hq : q ≤ 9007199254740991) (hq2 : 4503599627370496 ≤ q) :
    posternref8_rounded.j1 (k + 1) (e : Int) (q : Int) up = some ((((e - 1) * 4503599627370496 + (q + (if up = true then 1 else 0)) : Nat)) : Int) := by
  simp only [posternref8_rounded.j1]
  rw [uw ((q : Int) + 1) (by omega) (by omega), uw (e : Int) (by omega) (by omega), show wrap64 ((e : Int) + 1) = (e : Int) + 1 by unfold wrap64; omega, uw ((e : Int) + 1) (by omega) (by omega),
    uw (((e : Int) + 1) * 4503599627370496) (by omega) (by omega), uw ((e : Int) * 4503599627370496) (by omega) (by omega)]
  cases up with
  | true =>
    rw [if_pos rfl, if_pos rfl]
    by_cases h : (q : Int) + 1 ≥ 9007199254740992
    · rw [if_pos h, td _ _ (by omega), uw (((q : Int) + 1) / 2) (by omega) (by omega), uw (((e : Int) + 1) * 4503599627370496 + ((q : Int) + 1) / 2) (by omega) (by omega), uw _ (by omega) (by omega)]
      congr 1; omega
    · rw [if_neg h, uw ((e : Int) * 4503599627370496 + ((q : Int) + 1)) (by omega) (by omega), uw _ (by omega) (by omega)]
      congr 1; omega
  | false =>
    rw [if_neg (by decide), if_neg (show ¬ (q : Int) ≥ 9007199254740992 by omega), if_neg (by decide), uw ((e : Int) * 4503599627370496 + (q : Int)) (by omega) (by omega), uw _ (by omega) (by omega)]
    congr 1; omega

theorem stop_some (k : Nat) (n e S : Nat) (more : Bool) (hn : n = 2 ∨ n = 3) (he1 : 1 ≤ e) (he : e < 2046) (h1 : 4503599627370496 * 2 ^ n ≤ S) (h2 : S < 9007199254740992 * 2 ^ n) :
    posternref8_rounded.l0 (k + 2) (n : Int) more (e : Int) (S : Int) = some ((((e - 1) * 4503599627370496 + rs S (2 ^ n) more : Nat)) : Int) := by
  have hp : 2 ^ n = 4 ∨ 2 ^ n = 8 := by rcases hn with rfl | rfl <;> simp
  have hs : S < 18446744073709551616 := by rcases hp with h | h <;> rw [h] at h2 <;> omega
  have hq : S / 2 ^ n ≤ 9007199254740991 ∧ 4503599627370496 ≤ S / 2 ^ n := by rcases hp with h | h <;> rw [h] at h1 h2 ⊢ <;> omega
  simp only [posternref8_rounded.l0]
  rw [uw (n : Int) (by omega) (by omega), if_pos (by omega)]
  have g1 := shl_nat 9007199254740992 n (by omega) (by rcases hp with h | h <;> rw [h] <;> omega)
  rw [show ((9007199254740992 : Nat) : Int) = 9007199254740992 from rfl] at g1
  rw [g1, if_neg (by omega)]
  rw [show wrap64 ((n : Int) - 1) = ((n - 1 : Nat) : Int) by unfold wrap64; omega, uw ((n - 1 : Nat) : Int) (by omega) (by omega), if_pos (by omega)]
  rw [mask S n hs (by omega), shr_nat S n (by omega)]
  have g2 := shl_nat 1 (n - 1) (by omega) (by rcases hn with rfl | rfl <;> decide)
  rw [show ((1 : Nat) : Int) = 1 from rfl, Nat.one_mul] at g2
  rw [g2]
  have hpp : 2 ^ n = 2 * 2 ^ (n - 1) := by rcases hn with rfl | rfl <;> rfl
  rw [tm _ _ (by omega)]
  unfold rs
  have fin := fun up => fin_some k e (S / 2 ^ n) up he1 he hq.1 hq.2
  by_cases c1 : S % 2 ^ n > 2 ^ (n - 1)
  · rw [if_pos (by omega), fin, if_pos rfl, if_pos (.inl (by omega))]
  · rw [if_neg (by omega)]
    by_cases c2 : S % 2 ^ n = 2 ^ (n - 1)
    · rw [if_pos (by omega)]
      cases more with
      | true => rw [if_pos rfl, fin, if_pos rfl, if_pos (.inr ⟨by omega, .inl rfl⟩)]
      | false =>
        rw [if_neg (by decide), fin]
        by_cases c3 : S / 2 ^ n % 2 = 1
        · rw [if_pos (by rw [beq_iff_eq]; omega), if_pos (.inr ⟨by omega, .inr c3⟩)]
        · rw [if_neg (by rw [beq_iff_eq]; omega), if_neg (by rintro (h | ⟨_, h | h⟩); · omega
                                                             · cases h
                                                             · exact c3 h)]
    · rw [if_neg (by omega), fin, if_neg (by decide), if_neg (by omega)]

theorem rounded_some (k : Nat) (a x e : Nat) (more : Bool) (he1 : 1 ≤ e) (he : e < 2045) (h1 : 18014398509481984 ≤ a * 4 + x) (h2 : a * 4 + x < 72057594037927936) :
    posternref8_rounded.f (k + 3) (a : Int) 2 (x : Int) more (e : Int) =
      some (((if a * 4 + x < 36028797018963968 then (e - 1) * 4503599627370496 + rs (a * 4 + x) 4 more else e * 4503599627370496 + rs (a * 4 + x) 8 more : Nat)) : Int) := by
  unfold posternref8_rounded.f
  rw [uw 2 (by decide) (by decide), if_pos (by decide)]
  have g := shl_nat a 2 (by decide) (by omega)
  rw [show ((2 : Nat) : Int) = 2 from rfl] at g
  rw [g, show ((a * 2 ^ 2 : Nat) : Int) + (x : Int) = ((a * 4 + x : Nat) : Int) by omega, uw _ (by omega) (by omega)]
  by_cases c : a * 4 + x < 36028797018963968
  · rw [if_pos c]
    exact stop_some (k + 1) 2 e _ more (.inl rfl) he1 (by omega) (by omega) (by omega)
  · rw [if_neg c]
    rw [show k + 3 = (k + 2) + 1 from rfl]
    simp only [posternref8_rounded.l0]
    rw [uw 2 (by decide) (by decide), if_pos (by decide)]
    have g1 := shl_nat 9007199254740992 2 (by decide) (by decide)
    rw [show ((9007199254740992 : Nat) : Int) = 9007199254740992 from rfl, show ((2 : Nat) : Int) = 2 from rfl] at g1
    rw [g1, if_pos (by omega)]
    rw [show wrap64 ((2 : Int) + 1) = ((3 : Nat) : Int) by unfold wrap64; decide, show wrap64 ((e : Int) + 1) = ((e + 1 : Nat) : Int) by unfold wrap64; omega]
    exact stop_some k 3 (e + 1) _ more (.inr rfl) (by omega) (by omega) (by omega) (by omega)

theorem plus_j0 (k : Nat) (r e m : Nat) (he1 : 1 ≤ e) (he : e ≤ 2046) (hm : m < 9007199254740992) (hm1 : 2 ≤ e → 4503599627370496 ≤ m) :
    posternref8_Plus.j0 (k + 4) (r : Int) (e : Int) (m : Int) =
      some (((if e < 1023 then 4607182418800017408 + rne m (2 ^ (1023 - e)) else if e = 1023 then 4607182418800017408 + 2251799813685248 + rne m 2 else if 1076 < e then r
        else if 4 * m + 2 ^ (1077 - e) < 36028797018963968 then (e - 1) * 4503599627370496 + rne (4 * m + 2 ^ (1077 - e)) 4 else e * 4503599627370496 + rne (4 * m + 2 ^ (1077 - e)) 8 : Nat)) : Int) := by
  simp only [posternref8_Plus.j0]
  by_cases c1 : (e : Int) > 1023
  · rw [if_pos c1, show wrap64 ((e : Int) - 1023) = ((e - 1023 : Nat) : Int) by unfold wrap64; omega]
    rw [if_neg (show ¬ e < 1023 by omega), if_neg (show ¬ e = 1023 by omega)]
    by_cases c2 : ((e - 1023 : Nat) : Int) > 53
    · rw [if_pos c2, if_pos (show 1076 < e by omega)]
    · rw [if_neg c2, if_neg (show ¬ 1076 < e by omega), uw ((e - 1023 : Nat) : Int) (by omega) (by omega), if_pos (by omega)]
      have g1 := shr_nat 18014398509481984 (e - 1023) (by omega)
      rw [show ((18014398509481984 : Nat) : Int) = 18014398509481984 from rfl] at g1
      have g2 := mask 18014398509481984 (e - 1023) (by decide) (by omega)
      rw [show ((18014398509481984 : Nat) : Int) = 18014398509481984 from rfl] at g2
      have e1 : 18014398509481984 = 2 ^ (1077 - e) * 2 ^ (e - 1023) := by rw [← Nat.pow_add, show 1077 - e + (e - 1023) = 54 by omega]
      have e2 : 18014398509481984 / 2 ^ (e - 1023) = 2 ^ (1077 - e) := by
        rw [e1]; exact Nat.mul_div_cancel _ (Nat.two_pow_pos _)
      have e3 : 18014398509481984 % 2 ^ (e - 1023) = 0 := by rw [e1]; exact Nat.mul_mod_left _ _
      rw [g1, g2, e2, e3, show (((0 : Nat) : Int) != 0) = false from rfl]
      have hk : 2 ^ (1077 - e) ≤ 2 ^ 53 := Nat.pow_le_pow_right (by decide) (by omega)
      have hm2 := hm1 (by omega)
      clear g1 g2 e1 e2 e3
      generalize 2 ^ (1077 - e) = K at *
      rw [rounded_some k m K e false he1 (by omega) (by omega) (by omega)]
      simp only [Option.bind_some, rs_false, Nat.mul_comm 4 m]
  · rw [if_neg c1, show wrap64 (1023 - (e : Int)) = ((1023 - e : Nat) : Int) by unfold wrap64; omega]
    have hu : IntKind.u64.wrap ((m : Int) * 4) = ((m * 4 : Nat) : Int) := by rw [uw _ (by omega) (by omega)]; omega
    by_cases c2 : ((1023 - e : Nat) : Int) > 60
    · rw [if_pos c2, if_pos (show e < 1023 by omega)]
      have := rounded_some k 4503599627370496 0 1023 ((m : Int) != 0) (by decide) (by decide) (by decide) (by decide)
      rw [show ((4503599627370496 : Nat) : Int) = 4503599627370496 from rfl, show ((0 : Nat) : Int) = 0 from rfl, show ((1023 : Nat) : Int) = 1023 from rfl] at this
      rw [this, if_pos (by decide)]
      simp only [Option.bind_some]
      have hp : 2 ^ 61 ≤ 2 ^ (1023 - e) := Nat.pow_le_pow_right (by decide) (by omega)
      rw [rne_small m _ (by generalize 2 ^ (1023 - e) = P at *; omega)]
      generalize ((m : Int) != 0) = b
      have e0 : rs (4503599627370496 * 4 + 0) 4 b = 4503599627370496 := by
        unfold rs
        rw [if_neg (by rintro (h | ⟨h, _⟩) <;> omega)]
      rw [e0]
    · rw [if_neg c2, uw ((1023 - e : Nat) : Int) (by omega) (by omega), if_pos (by omega), hu]
      rw [shr_nat (m * 4) (1023 - e) (by omega), mask (m * 4) (1023 - e) (by omega) (by omega)]
      have hx : m * 4 / 2 ^ (1023 - e) ≤ m * 4 := Nat.div_le_self _ _
      have := rounded_some k 4503599627370496 (m * 4 / 2 ^ (1023 - e)) 1023 (((m * 4 % 2 ^ (1023 - e) : Nat) : Int) != 0) (by decide) (by decide) (by generalize m * 4 / 2 ^ (1023 - e) = X at *; omega) (by generalize m * 4 / 2 ^ (1023 - e) = X at *; omega)
      rw [show ((4503599627370496 : Nat) : Int) = 4503599627370496 from rfl, show ((1023 : Nat) : Int) = 1023 from rfl] at this
      rw [this]
      simp only [Option.bind_some]
      have hb : (((m * 4 % 2 ^ (1023 - e) : Nat) : Int) != 0) = decide (m * 4 % 2 ^ (1023 - e) ≠ 0) := by
        by_cases h : m * 4 % 2 ^ (1023 - e) = 0
        · rw [h]; rfl
        · rw [decide_eq_true h]; exact bne_iff_ne.mpr (fun h' => h (Int.ofNat_inj.mp h'))
      rw [hb]
      by_cases c3 : e = 1023
      · subst c3
        have hm2 := hm1 (by decide)
        rw [if_neg (by omega), if_neg (by omega), if_pos rfl]
        have e1 : m * 4 % 2 ^ (1023 - 1023) = 0 := Nat.mod_one _
        rw [e1, show decide ((0 : Nat) ≠ 0) = false from rfl, rs_false, Nat.sub_self, Nat.pow_zero, Nat.div_one]
        rw [show 4503599627370496 * 4 + m * 4 = 2251799813685248 * 8 + m * 4 by omega, rne_add _ _ _ (by decide) (by decide), show (8 : Nat) = 2 * 4 from rfl, rne_scale m 2 4 (by decide)]
        congr 1; omega
      · have hd : 2 ^ 1 ≤ 2 ^ (1023 - e) := Nat.pow_le_pow_right (by decide) (by omega)
        have hx2 : m * 4 / 2 ^ (1023 - e) ≤ m * 2 := Nat.div_le_of_le_mul (by
          have := Nat.mul_le_mul_right (m * 2) hd
          omega)
        rw [if_pos (by omega), if_pos (by omega)]
        have e1 : rs (4503599627370496 * 4 + m * 4 / 2 ^ (1023 - e)) 4 (decide (m * 4 % 2 ^ (1023 - e) ≠ 0)) = 4503599627370496 + rs (m * 4 / 2 ^ (1023 - e)) 4 (decide (m * 4 % 2 ^ (1023 - e) ≠ 0)) := by
          generalize m * 4 / 2 ^ (1023 - e) = X
          generalize decide (m * 4 % 2 ^ (1023 - e) ≠ 0) = b
          unfold rs
          have a1 : (4503599627370496 * 4 + X) / 4 = 4503599627370496 + X / 4 := by omega
          have a2 : (4503599627370496 * 4 + X) % 4 = X % 4 := by omega
          have a3 : (4503599627370496 + X / 4) % 2 = X / 4 % 2 := by omega
          rw [a1, a2, a3]; omega
        rw [e1, sticky _ _ (Nat.two_pow_pos _), Nat.mul_comm 4 (2 ^ (1023 - e)), rne_scale m _ 4 (by decide)]
        congr 1; omega

theorem plus_some (k : Nat) (s : Nat) (h : s < infB) : posternref8_Plus.f (k + 4) (s : Int) = some ((plusN s : Nat) : Int) := by
  unfold infB at h
  unfold posternref8_Plus.f
  rw [td _ _ (by omega), tm _ _ (by omega), uw ((s : Int) / 4503599627370496) (by omega) (by omega), uw ((s : Int) % 4503599627370496 + 4503599627370496) (by omega) (by omega)]
  rw [show wrap64 ((s : Int) / 4503599627370496) = ((s / 4503599627370496 : Nat) : Int) by unfold wrap64; omega]
  unfold plusN
  dsimp only
  by_cases hb : s < 4503599627370496
  · have hg : sig s = s := by unfold sig; rw [if_pos hb]
    rw [if_pos (by omega), if_pos hb, hg]
    have := plus_j0 k s 1 s (by decide) (by decide) (by omega) (by omega)
    rw [show ((1 : Nat) : Int) = 1 from rfl] at this
    rw [show (s : Int) % 4503599627370496 = (s : Int) by omega, this]
  · have hg : sig s = 4503599627370496 + s % 4503599627370496 := by unfold sig; rw [if_neg hb]
    rw [if_neg (by omega), if_neg hb]
    have := plus_j0 k s (s / 4503599627370496) (sig s) (by omega) (by omega) (by omega) (by omega)
    rw [show (s : Int) % 4503599627370496 + 4503599627370496 = ((sig s : Nat) : Int) by omega, this]

/-! ### now, waits -/
theorem now_l0 (n : Nat) : ∀ (k s : Nat) (a : Int), n < k → s < infB → n < 18446744073709551616 → posternref8_Now.l0 k (n : Int) (s : Int) a = some (((nl n s : Nat) : Int), a) := by
  induction n with
  | zero =>
    intro k s a hk _ _
    obtain ⟨k, rfl⟩ : ∃ m, k = m + 1 := ⟨k - 1, by omega⟩
    simp only [posternref8_Now.l0]
    rw [if_neg (by decide)]; rfl
  | succ n ih =>
    intro k s a hk hs hn
    obtain ⟨k, rfl⟩ : ∃ m, k = m + 1 := ⟨k - 1, by omega⟩
    simp only [posternref8_Now.l0]
    rw [if_pos (by omega)]
    by_cases h0 : (s : Int) = 0
    · rw [if_pos h0]
      obtain rfl : s = 0 := by omega
      rw [show nl (n + 1) 0 = 0 by simp [nl]]
    · rw [if_neg h0, half_some s hs]
      simp only [Option.bind_some]
      rw [show IntKind.u64.wrap (((n + 1 : Nat) : Int) - 1) = (n : Int) by rw [uw _ (by omega) (by omega)]; omega, nl_succ n s hs]
      exact ih k _ a (by omega) (halfN_lt s hs) (by omega)

/-- what may be: a configuration, a meter, a time -/
structure Fine (H L S A : Int) : Prop where
  h : 1 ≤ H
  hu : H ≤ 9223372036854775807
  l : 4607182418800017408 ≤ L
  lu : L < 9218868437227405312
  s : 0 ≤ S
  su : S < 9218868437227405312
  a : -9223372036854775808 ≤ A
  au : A ≤ 9223372036854775807
theorem Fine.fits {H L S A : Int} (f : Fine H L S A) {t : Int} (ht : t ≤ 9223372036854775807) : Fits H S A t := ⟨f.a, ht, f.hu, f.s, by have := f.su; omega⟩
theorem lives_lt {H A t : Int} (hH : 1 ≤ H) (hA : -9223372036854775808 ≤ A) (ht : t ≤ 9223372036854775807) : lives H A t < 18446744073709551616 := by
  by_cases h : A ≤ t
  · have h1 := (lives_mul H A t hH h).1
    have h2 := Int.mul_le_mul_of_nonneg_left hH (show (0 : Int) ≤ (lives H A t : Int) by omega)
    omega
  · rw [lives_le H A t hH (by omega)]; decide

theorem now_some {H L S A t : Int} (f : Fine H L S A) (ht1 : -9223372036854775808 ≤ t) (ht2 : t ≤ 9223372036854775807) (K : Nat) (hK : lives H A t < K) :
    posternref8_Now.f K H L S A t = some ((((nowP H S A t).1 : Nat) : Int), (nowP H S A t).2) := by
  have f1 := f.h; have f2 := f.hu; have f3 := f.s; have f4 := f.su; have f5 := f.a; have f6 := f.au
  unfold posternref8_Now.f
  rw [nowP_eq H S A t f1]
  by_cases h : t ≤ A
  · rw [if_pos h, lives_le H A t f1 h]
    show some (S, A) = some (((S.toNat : Nat) : Int), A + ((0 : Nat) : Int) * H)
    rw [show ((S.toNat : Nat) : Int) = S by omega]; simp
  · rw [if_neg h, uw H (by omega) (by omega), if_neg (by omega)]
    have hm := (lives_mul H A t f1 (by omega)).1
    have hl := lives_lt f1 f5 ht2
    have hl0 : 0 ≤ (lives H A t : Int) * H := Int.mul_nonneg (by omega) (by omega)
    have e1 : IntKind.u64.wrap (IntKind.u64.wrap t - IntKind.u64.wrap A) = t - A := by
      rw [IntKind.wrap_u64, IntKind.wrap_u64, IntKind.wrap_u64]; omega
    have e2 : IntKind.u64.wrap (Int.tdiv (t - A) H) = (lives H A t : Int) := by
      rw [td _ _ (by omega)]
      have h0 : 0 ≤ (t - A) / H := Int.ediv_nonneg (by omega) (by omega)
      have : (lives H A t : Int) = (t - A) / H := by unfold lives; omega
      rw [← this, uw _ (by omega) (by omega)]
    rw [e1, e2]
    have e3 : wrap64 (IntKind.u64.wrap (IntKind.u64.wrap A + IntKind.u64.wrap ((lives H A t : Int) * H))) = A + (lives H A t : Int) * H := by
      rw [IntKind.wrap_u64, IntKind.wrap_u64, IntKind.wrap_u64]
      generalize (lives H A t : Int) * H = x at *
      unfold wrap64
      omega
    rw [e3]
    have := now_l0 (lives H A t) K S.toNat (A + (lives H A t : Int) * H) hK (by unfold infB; omega) hl
    rw [show ((S.toNat : Nat) : Int) = S by omega] at this
    exact this

theorem locked_some {H L S A t : Int} (f : Fine H L S A) (ht1 : -9223372036854775808 ≤ t) (ht2 : t ≤ 9223372036854775807) (K : Nat) (hK : lives H A t < K) :
    posternref8_Locked.f K H L S A t = some (decide (lives H A t < lv S.toNat L.toNat)) := by
  have f1 := f.h; have f3 := f.s; have f4 := f.su; have f5 := f.l; have f6 := f.lu
  have hs : S.toNat < infB := by unfold infB; omega
  unfold posternref8_Locked.f
  rw [now_some f ht1 ht2 K hK, nowP_eq H S A t f1]
  simp only [Option.bind_some]
  congr 1
  have := nl_ge L.toNat (by omega) (lives H A t) S.toNat hs
  refine decide_eq_decide.mpr ?_
  rw [← this]
  omega

theorem wait_loop {H L S A t : Int} (f : Fine H L S A) (ht1 : -9223372036854775808 ≤ t) (ht2 : t ≤ 9223372036854775807) (d : Nat) : ∀ (K j : Nat) (x : Int), j = lives H A x → j + d + 1 = lv S.toNat L.toNat →
    lv S.toNat L.toNat + d + 3 ≤ K → t ≤ x → x ≤ 9223372036854775807 → posternref8_Wait.l0 K t x H L S A =
      some (if 9223372036854775807 < A + (lv S.toNat L.toNat : Int) * H then (0, false) else if 9223372036854775807 < A + (lv S.toNat L.toNat : Int) * H - t then (0, false) else (A + (lv S.toNat L.toNat : Int) * H - t, true)) := by
  have f1 := f.h; have f2 := f.hu; have f3 := f.s; have f4 := f.su; have f5 := f.a; have f6 := f.au
  induction d with
  | zero =>
    intro K j x hj hd hK hx1 hx2
    obtain ⟨K, rfl⟩ : ∃ m, K = m + 1 := ⟨K - 1, by omega⟩
    have hm : (lv S.toNat L.toNat : Int) * H = (j : Int) * H + H := by
      rw [← hd]; push_cast; rw [Int.add_mul]; omega
    have hj0 : 0 ≤ (j : Int) * H := Int.mul_nonneg (by omega) (by omega)
    obtain ⟨p1, p2, p3, p4, p5⟩ := nowP_facts H S A x f1 (f.fits hx2) f4 f6
    rw [nowP_eq H S A x f1, ← hj] at p1 p2 p3 p4 p5
    dsimp only at p1 p2 p3 p4 p5
    simp only [posternref8_Wait.l0]
    rw [locked_some f (by omega) hx2 K (by omega), decide_eq_true (by omega)]
    simp only [Option.bind_some, if_true]
    rw [now_some f (by omega) hx2 K (by omega), nowP_eq H S A x f1, ← hj]
    simp only [Option.bind_some]
    rw [hm, show wrap64 (9223372036854775807 - (A + (j : Int) * H)) = if A + (j : Int) * H ≥ 0 then 9223372036854775807 - (A + (j : Int) * H) else wrap64 (9223372036854775807 - (A + (j : Int) * H)) by split <;> (try rfl); unfold wrap64; omega]
    have last : ∀ y : Int, y = A + (j : Int) * H + H → y ≤ 9223372036854775807 → posternref8_Wait.l0 K t (wrap64 y) H L S A =
        some (if 9223372036854775807 < y - t then (0, false) else (y - t, true)) := by
      intro y hy hy2
      obtain ⟨K, rfl⟩ : ∃ m, K = m + 1 := ⟨K - 1, by omega⟩
      rw [show wrap64 y = y by unfold wrap64; omega]
      have hly : lives H A y = j + 1 := lives_of H A y (j + 1) f1 (by push_cast; rw [Int.add_mul]; omega) (by push_cast; rw [Int.add_mul]; omega)
      simp only [posternref8_Wait.l0]
      rw [locked_some f (by omega) hy2 K (by omega), hly, decide_eq_false (by omega)]
      simp only [Option.bind_some, Bool.false_eq_true, if_false]
      have e1 : IntKind.u64.wrap (IntKind.u64.wrap y - IntKind.u64.wrap t) = y - t := by
        rw [IntKind.wrap_u64, IntKind.wrap_u64, IntKind.wrap_u64]; omega
      rw [e1]
      by_cases c : 9223372036854775807 < y - t
      · rw [if_pos c, if_pos c]
      · rw [if_neg c, if_neg c, show wrap64 (y - t) = y - t by unfold wrap64; omega]
    have l2 := last (A + (j : Int) * H + H) rfl
    rw [show A + ((j : Int) * H + H) = A + (j : Int) * H + H by omega]
    by_cases c1 : A + (j : Int) * H ≥ 0
    · rw [if_pos c1, if_pos c1]
      by_cases c2 : H > 9223372036854775807 - (A + (j : Int) * H)
      · rw [if_pos c2, if_pos (by omega)]
      · rw [if_neg c2, if_neg (by omega)]
        exact l2 (by omega)
    · rw [if_neg c1, if_neg (by omega)]
      exact l2 (by omega)
  | succ d ih =>
    intro K j x hj hd hK hx1 hx2
    obtain ⟨K, rfl⟩ : ∃ m, K = m + 1 := ⟨K - 1, by omega⟩
    have hj0 : 0 ≤ (j : Int) * H := Int.mul_nonneg (by omega) (by omega)
    have hm : (j : Int) * H + H + H ≤ (lv S.toNat L.toNat : Int) * H := by
      have : ((j : Int) + 1 + 1) * H ≤ (lv S.toNat L.toNat : Int) * H := Int.mul_le_mul_of_nonneg_right (by omega) (by omega)
      rw [Int.add_mul, Int.add_mul] at this
      omega
    obtain ⟨p1, p2, p3, p4, p5⟩ := nowP_facts H S A x f1 (f.fits hx2) f4 f6
    rw [nowP_eq H S A x f1, ← hj] at p1 p2 p3 p4 p5
    dsimp only at p1 p2 p3 p4 p5
    simp only [posternref8_Wait.l0]
    rw [locked_some f (by omega) hx2 K (by omega), decide_eq_true (by omega)]
    simp only [Option.bind_some, if_true]
    rw [now_some f (by omega) hx2 K (by omega), nowP_eq H S A x f1, ← hj]
    simp only [Option.bind_some]
    rw [show wrap64 (9223372036854775807 - (A + (j : Int) * H)) = if A + (j : Int) * H ≥ 0 then 9223372036854775807 - (A + (j : Int) * H) else wrap64 (9223372036854775807 - (A + (j : Int) * H)) by split <;> (try rfl); unfold wrap64; omega]
    have next : ∀ y : Int, y = A + (j : Int) * H + H → y ≤ 9223372036854775807 → posternref8_Wait.l0 K t (wrap64 y) H L S A =
        some (if 9223372036854775807 < A + (lv S.toNat L.toNat : Int) * H then (0, false) else if 9223372036854775807 < A + (lv S.toNat L.toNat : Int) * H - t then (0, false) else (A + (lv S.toNat L.toNat : Int) * H - t, true)) := fun y hy hy2 => by
      rw [show wrap64 y = y by unfold wrap64; omega]
      have hly : lives H A y = j + 1 := lives_of H A y (j + 1) f1 (by push_cast; rw [Int.add_mul]; omega) (by push_cast; rw [Int.add_mul]; omega)
      exact ih K (j + 1) y hly.symm (by omega) (by omega) (by omega) hy2
    have l2 := next (A + (j : Int) * H + H) rfl
    by_cases c1 : A + (j : Int) * H ≥ 0
    · rw [if_pos c1, if_pos c1]
      by_cases c2 : H > 9223372036854775807 - (A + (j : Int) * H)
      · rw [if_pos c2, if_pos (by omega)]
      · rw [if_neg c2]
        exact l2 (by omega)
    · rw [if_neg c1]
      exact l2 (by omega)

theorem wait_some {H L S A t : Int} (f : Fine H L S A) (ht1 : -9223372036854775808 ≤ t) (ht2 : t ≤ 9223372036854775807) (K : Nat) (hK : lives H A t + 2 * lv S.toNat L.toNat + 5 ≤ K) :
    posternref8_Wait.f K H L S A t = some (waitP H L S A t) := by
  have f1 := f.h; have f2 := f.hu; have f3 := f.s; have f4 := f.su; have f5 := f.a; have f6 := f.au; have f7 := f.l; have f8 := f.lu
  have hs : S.toNat < infB := by unfold infB; omega
  have hLp : 0 < L.toNat := by omega
  unfold posternref8_Wait.f waitP
  have hnow := nowP_eq H S A t f1
  obtain ⟨k, hk⟩ : ∃ k, k = lives H A t := ⟨_, rfl⟩
  obtain ⟨n, hn⟩ : ∃ n, n = lv S.toNat L.toNat := ⟨_, rfl⟩
  rw [hnow]
  dsimp only
  have hge := nl_ge L.toNat hLp (lives H A t) S.toNat hs
  have hln := lv_nl L.toNat hLp (lives H A t) S.toNat hs
  rw [hln]
  by_cases c : nl (lives H A t) S.toNat < L.toNat
  · have c2 : ¬ lives H A t < lv S.toNat L.toNat := fun h => absurd (hge.mpr h) (by omega)
    rw [if_pos c]
    obtain ⟨K, rfl⟩ : ∃ m, K = m + 1 := ⟨K - 1, by omega⟩
    simp only [posternref8_Wait.l0]
    rw [locked_some f ht1 ht2 K (by omega), decide_eq_false c2]
    simp only [Option.bind_some, Bool.false_eq_true, if_false]
    rw [show IntKind.u64.wrap t - IntKind.u64.wrap t = 0 by omega, uw 0 (by decide) (by decide), if_neg (by decide)]
    unfold wrap64
    rfl
  · have c2 : lives H A t < lv S.toNat L.toNat := hge.mp (by omega)
    rw [if_neg c]
    rw [wait_loop f ht1 ht2 (lv S.toNat L.toNat - lives H A t - 1) K (lives H A t) t rfl (by omega) (by omega) (Int.le_refl _) ht2]
    rw [← hk, ← hn] at *
    obtain ⟨m, hm⟩ : ∃ m : Nat, n = k + m := ⟨n - k, by omega⟩
    rw [show n - k = m by omega]
    have hnH : (n : Int) * H = (k : Int) * H + (m : Int) * H := by rw [hm, Int.natCast_add, Int.add_mul]
    rw [show A + (n : Int) * H = A + (k : Int) * H + (m : Int) * H by omega]
    congr 1
    have hiff : (9223372036854775807 - (A + (k : Int) * H)) / H < (m : Int) ↔ 9223372036854775807 < A + (k : Int) * H + (m : Int) * H := by
      rw [Int.ediv_lt_iff_lt_mul (by omega)]
      omega
    by_cases b1 : (9223372036854775807 - (A + (k : Int) * H)) / H < (m : Int)
    · rw [if_pos b1, if_pos (hiff.mp b1)]
    · rw [if_neg b1, if_neg (fun h => b1 (hiff.mpr h))]

/-! ### the law -/
theorem waitOk_of {H L S A t : Int} (f : Fine H L S A) (ht1 : -9223372036854775808 ≤ t) (ht2 : t ≤ 9223372036854775807) : meter_Wait.f H L S A t = some (waitP H L S A t) := by
  have f1 := f.h; have f4 := f.su; have f6 := f.au; have f7 := f.l
  obtain ⟨p1, p2, p3, p4, p5⟩ := nowP_facts H S A t f1 (f.fits ht2) f4 f6
  unfold meter_Wait.f
  rw [if_pos ⟨⟨f.a, ht2, f.hu, f.s, by omega⟩, p1, f1, by omega, f.lu, ⟨p2, p3⟩, ht1, p5⟩]

section
variable {l : List S46} {i H L h0 L0 S A : Int} {o : S46} {K : Nat}
theorem op_now (hlt : i < (l.length : Int)) (h1 : 0 ≤ i) (ho : rd_T46 l i = o) (c1 : o.f0 = 1) (f : Fine H L S A) (a1 : -9223372036854775808 ≤ o.f1 ∧ o.f1 ≤ 9223372036854775807) (hK : lives H A o.f1 < K)
    (hnext : posternlaw8_MeterExact.l0 K (wrap64 (i + 1)) h0 L0 l H L (((nowP H S A o.f1).1 : Nat) : Int) (nowP H S A o.f1).2 = some true) : posternlaw8_MeterExact.l0 (K + 1) i h0 L0 l H L S A = some true := by
  have hmn : meter_Now.f H L S A o.f1 = some ((((nowP H S A o.f1).1 : Nat) : Int), (nowP H S A o.f1).2) := by unfold meter_Now.f; rw [if_pos (f.fits a1.2)]
  simp only [posternlaw8_MeterExact.l0, ho]
  rw [if_pos hlt, if_pos h1, if_pos c1, now_some f a1.1 a1.2 K hK, hmn]
  simp only [Option.bind_some]
  rw [if_neg (by simp)]
  exact hnext
theorem plus_ge (s K : Nat) (h : s < infB) (hK : 4 ≤ K) : posternref8_Plus.f K (s : Int) = some ((plusN s : Nat) : Int) := by
  have e : K = (K - 4) + 4 := by omega
  rw [e]
  exact plus_some (K - 4) s h
theorem fail_some {H L S A t : Int} (f : Fine H L S A) (ht1 : -9223372036854775808 ≤ t) (ht2 : t ≤ 9223372036854775807) (K : Nat) (hK : lives H A t + 4 < K) (p1 : (nowP H S A t).1 < infB) :
    posternref8_Fail.f K H L S A t = some (((plusN (nowP H S A t).1 : Nat) : Int), (nowP H S A t).2) := by
  have h := now_some f ht1 ht2 K (by omega)
  have h2 := plus_ge (nowP H S A t).1 K p1 (by omega)
  unfold posternref8_Fail.f
  rw [h, Option.bind_some, h2, Option.bind_some]
theorem op_fail (hlt : i < (l.length : Int)) (h1 : 0 ≤ i) (ho : rd_T46 l i = o) (c1 : ¬ o.f0 = 1) (c2 : o.f0 = 2) (f : Fine H L S A) (a1 : -9223372036854775808 ≤ o.f1 ∧ o.f1 ≤ 9223372036854775807) (hK : lives H A o.f1 + 4 < K) (p1 : (nowP H S A o.f1).1 < infB)
    (hnext : posternlaw8_MeterExact.l0 K (wrap64 (i + 1)) h0 L0 l H L ((plusN (nowP H S A o.f1).1 : Nat) : Int) (nowP H S A o.f1).2 = some true) : posternlaw8_MeterExact.l0 (K + 1) i h0 L0 l H L S A = some true := by
  have e1 := fail_some f a1.1 a1.2 K hK p1
  have e2 : meter_Fail.f H L S A o.f1 = some (((plusN (nowP H S A o.f1).1 : Nat) : Int), (nowP H S A o.f1).2) := by
    unfold meter_Fail.f
    rw [if_pos ⟨f.fits a1.2, p1⟩]
  simp only [posternlaw8_MeterExact.l0, ho]
  rw [if_pos hlt, if_pos h1, if_neg c1, if_pos c2, e1, e2]
  simp only [Option.bind_some]
  rw [if_neg (by simp)]
  exact hnext
theorem op_pass (hlt : i < (l.length : Int)) (h1 : 0 ≤ i) (ho : rd_T46 l i = o) (c1 : ¬ o.f0 = 1) (c2 : ¬ o.f0 = 2) (c3 : o.f0 = 3) (f : Fine H L S A) (a1 : -9223372036854775808 ≤ o.f1 ∧ o.f1 ≤ 9223372036854775807) (hK : lives H A o.f1 < K) (p1 : (nowP H S A o.f1).1 < infB)
    (hnext : posternlaw8_MeterExact.l0 K (wrap64 (i + 1)) h0 L0 l H L ((quarterN (nowP H S A o.f1).1 : Nat) : Int) (nowP H S A o.f1).2 = some true) : posternlaw8_MeterExact.l0 (K + 1) i h0 L0 l H L S A = some true := by
  have e1 : posternref8_Pass.f K H L S A o.f1 = some (((quarterN (nowP H S A o.f1).1 : Nat) : Int), (nowP H S A o.f1).2) := by
    unfold posternref8_Pass.f
    rw [now_some f a1.1 a1.2 K hK]
    simp only [Option.bind_some]
    rw [quarter_some _ p1]
    simp only [Option.bind_some]
  have e2 : meter_Pass.f H L S A o.f1 = some (((quarterN (nowP H S A o.f1).1 : Nat) : Int), (nowP H S A o.f1).2) := by
    unfold meter_Pass.f
    rw [if_pos ⟨f.fits a1.2, p1⟩]
  simp only [posternlaw8_MeterExact.l0, ho]
  rw [if_pos hlt, if_pos h1, if_neg c1, if_neg c2, if_pos c3, e1, e2]
  simp only [Option.bind_some]
  rw [if_neg (by simp)]
  exact hnext
theorem op_locked (hlt : i < (l.length : Int)) (h1 : 0 ≤ i) (ho : rd_T46 l i = o) (c1 : ¬ o.f0 = 1) (c2 : ¬ o.f0 = 2) (c3 : ¬ o.f0 = 3) (c4 : o.f0 = 4) (f : Fine H L S A) (a1 : -9223372036854775808 ≤ o.f1 ∧ o.f1 ≤ 9223372036854775807) (hK : lives H A o.f1 < K)
    (hnext : posternlaw8_MeterExact.l0 K (wrap64 (i + 1)) h0 L0 l H L S A = some true) : posternlaw8_MeterExact.l0 (K + 1) i h0 L0 l H L S A = some true := by
  have f7 := f.l; have f8 := f.lu
  have e1 : meter_Locked.f H L S A o.f1 = some (decide (lives H A o.f1 < lv S.toNat L.toNat)) := by
    unfold meter_Locked.f
    rw [if_pos (f.fits a1.2), geB_lives H S A o.f1 L.toNat f.h f.s f.su (by omega) (by unfold infB; omega)]
  simp only [posternlaw8_MeterExact.l0, ho]
  rw [if_pos hlt, if_pos h1, if_neg c1, if_neg c2, if_neg c3, if_pos c4, e1, locked_some f a1.1 a1.2 K hK]
  simp only [Option.bind_some]
  rw [if_neg (by simp)]
  exact hnext
theorem op_wait (hlt : i < (l.length : Int)) (h1 : 0 ≤ i) (ho : rd_T46 l i = o) (c1 : ¬ o.f0 = 1) (c2 : ¬ o.f0 = 2) (c3 : ¬ o.f0 = 3) (c4 : ¬ o.f0 = 4) (c5 : o.f0 = 5) (f : Fine H L S A) (a1 : -9223372036854775808 ≤ o.f1 ∧ o.f1 ≤ 9223372036854775807)
    (hK : lives H A o.f1 + 2 * lv S.toNat L.toNat + 5 ≤ K) (hnext : posternlaw8_MeterExact.l0 K (wrap64 (i + 1)) h0 L0 l H L S A = some true) : posternlaw8_MeterExact.l0 (K + 1) i h0 L0 l H L S A = some true := by
  have e1 := waitOk_of f a1.1 a1.2
  have e2 := wait_some f a1.1 a1.2 K hK
  generalize waitP H L S A o.f1 = r at *
  simp only [posternlaw8_MeterExact.l0, ho]
  rw [if_pos hlt, if_pos h1, if_neg c1, if_neg c2, if_neg c3, if_neg c4, if_pos c5, e1, e2]
  simp only [Option.bind_some]
  rw [if_pos trivial, if_neg (by simp)]
  exact hnext
theorem op_set (hlt : i < (l.length : Int)) (h1 : 0 ≤ i) (ho : rd_T46 l i = o) (c1 : ¬ o.f0 = 1) (c2 : ¬ o.f0 = 2) (c3 : ¬ o.f0 = 3) (c4 : ¬ o.f0 = 4) (c5 : ¬ o.f0 = 5)
    (hnext1 : o.f0 = 6 → o.f2.f0 < 9218868437227405312 → posternlaw8_MeterExact.l0 K (wrap64 (i + 1)) h0 L0 l H L o.f2.f0 o.f2.f1 = some true)
    (hnext2 : posternlaw8_MeterExact.l0 K (wrap64 (i + 1)) h0 L0 l H L S A = some true) : posternlaw8_MeterExact.l0 (K + 1) i h0 L0 l H L S A = some true := by
  simp only [posternlaw8_MeterExact.l0, posternref8_Fine.f, ho]
  rw [if_pos hlt, if_pos h1, if_neg c1, if_neg c2, if_neg c3, if_neg c4, if_neg c5]
  by_cases c6 : o.f0 = 6
  · rw [if_pos c6]
    simp only [Option.bind_some]
    by_cases c7 : o.f2.f0 < 9218868437227405312
    · rw [if_pos (decide_eq_true c7)]
      exact hnext1 c6 c7
    · rw [if_neg (by simpa using c7)]
      exact hnext2
  · rw [if_neg c6]
    exact hnext2
end

theorem ops (l : List S46) (hl : l.length ≤ 140737488351232) (hw : ∀ x ∈ l, w46 x) (H L h0 L0 : Int) (d : Nat) : ∀ (i S A : Int), Fine H L S A → 0 ≤ i → i ≤ l.length → (l.length : Int) - i = d →
    ∃ K0, ∀ K, K0 ≤ K → posternlaw8_MeterExact.l0 K i h0 L0 l H L S A = some true := by
  induction d with
  | zero =>
    intro i S A f h1 h2 hd
    refine ⟨1, fun K hK => ?_⟩
    obtain ⟨K, rfl⟩ : ∃ m, K = m + 1 := ⟨K - 1, by omega⟩
    simp only [posternlaw8_MeterExact.l0]
    rw [if_neg (by omega), wakes_true]
    simp only [Option.bind_some]
  | succ d ih =>
    intro i S A f h1 h2 hd
    have hlt : i < (l.length : Int) := by omega
    have hx : rd_T46 l i ∈ l := by
      unfold rd_T46
      rw [List.getD_eq_getElem?_getD, List.getElem?_eq_getElem (show i.toNat < l.length by omega)]
      exact List.getElem_mem _
    obtain ⟨w0, w1, w2, w3⟩ := hw _ hx
    have a1 := RD.wf_i64 w1; have a2 := RD.wf_u64 w2; have a3 := RD.wf_i64 w3
    have hi : wrap64 (i + 1) = i + 1 := by unfold wrap64; omega
    generalize ho : rd_T46 l i = o at *
    have f1 := f.h; have f2 := f.hu; have f6 := f.au; have f7 := f.l; have f8 := f.lu; have f5 := f.a
    obtain ⟨p1, p2, p3, p4, p5⟩ := nowP_facts H S A o.f1 f1 (f.fits a1.2) f.su f6
    have hpl := plusN_lt _ p1
    have hql := quarterN_lt _ p1
    have fine : ∀ r : Nat, r < infB → Fine H L (r : Int) (nowP H S A o.f1).2 := fun r hr => ⟨f1, f2, f7, f8, by omega, by unfold infB at hr; omega, p2, p3⟩
    have next : ∀ S' A', Fine H L S' A' → ∃ K0, ∀ K, K0 ≤ K → posternlaw8_MeterExact.l0 K (wrap64 (i + 1)) h0 L0 l H L S' A' = some true := fun S' A' f' => by
      rw [hi]; exact ih (i + 1) S' A' f' (by omega) (by omega) (by omega)
    obtain ⟨K1, hK1⟩ := next _ _ (fine _ p1)
    obtain ⟨K2, hK2⟩ := next _ _ (fine _ hpl)
    obtain ⟨K3, hK3⟩ := next _ _ (fine _ hql)
    obtain ⟨K4, hK4⟩ := next S A f
    obtain ⟨K5, hK5⟩ : ∃ K5, ∀ K, K5 ≤ K → o.f2.f0 < 9218868437227405312 → posternlaw8_MeterExact.l0 K (wrap64 (i + 1)) h0 L0 l H L o.f2.f0 o.f2.f1 = some true := by
      by_cases c7 : o.f2.f0 < 9218868437227405312
      · obtain ⟨K5, h⟩ := next o.f2.f0 o.f2.f1 ⟨f1, f2, f7, f8, a2.1, c7, a3.1, a3.2⟩
        exact ⟨K5, fun K hK _ => h K hK⟩
      · exact ⟨0, fun K _ h => absurd h c7⟩
    refine ⟨K1 + K2 + K3 + K4 + K5 + lives H A o.f1 + 2 * lv S.toNat L.toNat + 8, fun K hK => ?_⟩
    obtain ⟨K, rfl⟩ : ∃ m, K = m + 1 := ⟨K - 1, by omega⟩
    by_cases c1 : o.f0 = 1
    · exact op_now hlt h1 ho c1 f a1 (by omega) (hK1 K (by omega))
    · by_cases c2 : o.f0 = 2
      · exact op_fail hlt h1 ho c1 c2 f a1 (by omega) p1 (hK2 K (by omega))
      · by_cases c3 : o.f0 = 3
        · exact op_pass hlt h1 ho c1 c2 c3 f a1 (by omega) p1 (hK3 K (by omega))
        · by_cases c4 : o.f0 = 4
          · exact op_locked hlt h1 ho c1 c2 c3 c4 f a1 (by omega) (hK4 K (by omega))
          · by_cases c5 : o.f0 = 5
            · exact op_wait hlt h1 ho c1 c2 c3 c4 c5 f a1 (by omega) (hK4 K (by omega))
            · exact op_set hlt h1 ho c1 c2 c3 c4 c5 (fun _ c7 => hK5 K (by omega) c7) (hK4 K (by omega))

theorem lock_some (H L : Int) (hHu : H ≤ 9223372036854775807) : ∃ H' L', posternlaw8_lock.f H L = some (H', L') ∧ Fine H' L' 0 0 := by
  unfold posternlaw8_lock.f posternref8_Check.f posternref8_Fine.f
  simp only [Option.bind_some]
  have dflt : Fine 10 4613937818241073152 0 0 := ⟨by decide, by decide, by decide, by decide, by decide, by decide, by decide, by decide⟩
  by_cases a : H < 1
  · rw [if_pos a]
    exact ⟨_, _, rfl, dflt⟩
  · rw [if_neg a]
    by_cases b : L < 9218868437227405312
    · rw [if_pos (decide_eq_true b)]
      by_cases c : L < 4607182418800017408
      · rw [if_pos c]
        exact ⟨_, _, rfl, dflt⟩
      · rw [if_neg c]
        exact ⟨H, L, rfl, ⟨by omega, hHu, by omega, b, by decide, by decide, by decide, by decide⟩⟩
    · rw [if_neg (by simpa using b)]
      exact ⟨_, _, rfl, dflt⟩

theorem MeterExact : LawPure := by
  intro x ⟨⟨h1, h2⟩, hl, hw⟩
  have a1 := RD.wf_i64 h1
  obtain ⟨H, L, he, hf⟩ := lock_some x.f0.f0 x.f0.f1 a1.2
  obtain ⟨K0, hK⟩ := ops x.f1 (by omega) hw H L x.f0.f0 x.f0.f1 x.f1.length 0 0 0 hf (by omega) (by omega) (by omega)
  refine ⟨K0, ?_⟩
  unfold posternlaw8_MeterExact.f
  rw [he]
  simp only [Option.bind_some]
  exact hK K0 (Nat.le_refl _)
end Go.Proofs.Ytflkkkkbbgfbdaa.Pure
