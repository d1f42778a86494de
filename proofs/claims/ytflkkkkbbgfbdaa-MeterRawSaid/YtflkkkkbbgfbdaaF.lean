/- The arithmetic of floats that the meter's statements need: a half, a quarter, one more, comparisons, of finite floats by their bits. No conditions but those of each lemma. -/
import Ieee.Arith
namespace Go.Proofs.Ytflkkkkbbgfbdaa.Flt
open Ieee

/-- n / d to the nearest, ties to even -/
def rne (n d : Nat) : Nat := n / d + (if d < 2 * (n % d) ∨ (d = 2 * (n % d) ∧ n / d % 2 = 1) then 1 else 0)

theorem rne_scale (n d c : Nat) (hc : 0 < c) : rne (n * c) (d * c) = rne n d := by
  unfold rne
  have e1 : n * c / (d * c) = n / d := by rw [Nat.mul_comm n c, Nat.mul_comm d c]; exact Nat.mul_div_mul_left n d hc
  have e2 : n * c % (d * c) = n % d * c := Nat.mul_mod_mul_right c n d
  rw [e1, e2]
  have e3 : (d * c < 2 * (n % d * c)) ↔ (d < 2 * (n % d)) := by
    rw [← Nat.mul_assoc]; exact Nat.mul_lt_mul_right hc
  have e4 : (d * c = 2 * (n % d * c)) ↔ (d = 2 * (n % d)) := by
    rw [← Nat.mul_assoc]; exact Nat.mul_right_cancel_iff hc
  simp only [e3, e4]

theorem rne_exact (m d : Nat) (hd : 0 < d) : rne (m * d) d = m := by
  unfold rne
  have : m * d % d = 0 := Nat.mul_mod_left m d
  rw [this, Nat.mul_div_cancel m hd]
  simp; omega

theorem rne_add (q d n : Nat) (hq : q % 2 = 0) (hd : 0 < d) : rne (q * d + n) d = q + rne n d := by
  unfold rne
  have e1 : (q * d + n) / d = q + n / d := by rw [Nat.add_comm, Nat.add_mul_div_right n q hd]; omega
  have e2 : (q * d + n) % d = n % d := by rw [Nat.add_comm]; exact Nat.add_mul_mod_self_right n q d
  rw [e1, e2]
  have e3 : (q + n / d) % 2 = n / d % 2 := by omega
  rw [e3]; omega

theorem rne_small (n d : Nat) (h : 2 * n < d) : rne n d = 0 := by
  unfold rne
  rw [Nat.div_eq_of_lt (by omega), Nat.mod_eq_of_lt (by omega)]
  rw [if_neg (by omega)]

theorem cut_even (neg : Bool) (n drop : Nat) : Toward.even.cut neg n drop = rne n (2 ^ drop) := by
  have hb : ∀ (b : Prop) [Decidable b], (decide b).toNat = if b then 1 else 0 := by intro b _; by_cases h : b <;> simp [h]
  by_cases hd : drop ≤ n.log2 + 2
  · unfold Toward.cut rne
    dsimp only
    rw [Nat.min_eq_left hd, Nat.one_shiftLeft]
    congr 1
    rw [← hb]; congr 1
    rw [Bool.decide_or, Bool.decide_and]; rfl
  · have hn : n < 2 ^ (n.log2 + 1) := Nat.lt_log2_self
    have hp : 2 ^ (n.log2 + 2) = 2 * 2 ^ (n.log2 + 1) := by rw [Nat.pow_succ]; omega
    have hq : 2 ^ (n.log2 + 2) ≤ 2 ^ drop := Nat.pow_le_pow_right (by decide) (by omega)
    rw [rne_small n _ (by omega)]
    unfold Toward.cut
    dsimp only
    rw [Nat.min_eq_right (by omega), Nat.one_shiftLeft]
    rw [Nat.div_eq_of_lt (by omega), Nat.mod_eq_of_lt (by omega)]
    have a1 : ¬ 2 ^ (n.log2 + 2) < 2 * n := by omega
    have a2 : ¬ 2 ^ (n.log2 + 2) = 2 * n := by omega
    simp [a1]

theorem log2_of {n L : Nat} (h1 : 2 ^ L ≤ n) (h2 : n < 2 ^ (L + 1)) : n.log2 = L := by
  have h0 : n ≠ 0 := by have := Nat.two_pow_pos L; omega
  exact (Nat.log2_eq_iff h0).mpr ⟨h1, h2⟩

def infB : Nat := 9218868437227405312

theorem nearest_gen (neg : Bool) (mag : Nat) (place : Int) (L : Nat) (h1 : 2 ^ (52 + L) ≤ mag) (h2 : mag < 2 ^ (53 + L)) (h3 : -1074 ≤ place + L) :
    Ieee.double.nearest neg mag place = Ieee.double.word neg (min ((place + L + 1074).toNat * 4503599627370496 + rne mag (2 ^ L)) infB) := by
  have h0 : mag ≠ 0 := by have := Nat.two_pow_pos (52 + L); omega
  have hl : mag.log2 = 52 + L := log2_of h1 (by rw [show 52 + L + 1 = 53 + L by omega]; exact h2)
  unfold Format.nearest
  rw [if_neg h0, hl]
  dsimp only
  have e1 : Ieee.double.leastPlace = -1074 := by decide
  have e2 : Ieee.double.binade = 4503599627370496 := by decide
  have e3 : Ieee.double.infRung = infB := by decide
  have e4 : (Ieee.double.fractionBits : Int) = 52 := by decide
  rw [e1, e2, e3, e4]
  have e5 : max (place + ((52 + L : Nat) : Int) - 52) (-1074) = place + L := by omega
  rw [e5, cut_even]
  have e6 : (place - (place + L)).toNat = 0 := by omega
  have e7 : (place + L - place).toNat = L := by omega
  rw [e6, e7, Nat.shiftLeft_zero]
  congr 5

theorem nearest_low (neg : Bool) (mag : Nat) (K : Nat) (h : mag < 2 ^ (53 + K)) :
    Ieee.double.nearest neg mag (-1074 - (K : Int)) = Ieee.double.word neg (min (rne mag (2 ^ K)) infB) := by
  by_cases h0 : mag = 0
  · subst h0
    rw [rne_small 0 _ (by have := Nat.two_pow_pos K; omega)]
    simp [Format.nearest]
  · have hl : mag.log2 < 53 + K := (Nat.log2_lt h0).mpr h
    unfold Format.nearest
    rw [if_neg h0]
    dsimp only
    have e1 : Ieee.double.leastPlace = -1074 := by decide
    have e2 : Ieee.double.binade = 4503599627370496 := by decide
    have e3 : Ieee.double.infRung = infB := by decide
    have e4 : (Ieee.double.fractionBits : Int) = 52 := by decide
    rw [e1, e2, e3, e4]
    have e5 : max (-1074 - (K : Int) + (mag.log2 : Int) - 52) (-1074) = -1074 := by omega
    rw [e5, cut_even]
    have e6 : (-1074 - (K : Int) - -1074).toNat = 0 := by omega
    have e7 : (-1074 - (-1074 - (K : Int))).toNat = K := by omega
    have e8 : ((-1074 : Int) - -1074).toNat = 0 := by decide
    rw [e6, e7, e8, Nat.shiftLeft_zero, Nat.zero_mul, Nat.zero_add]

/-- a magnitude's significand and (from the least place on) its place -/
def sig (r : Nat) : Nat := if r < 4503599627370496 then r else 4503599627370496 + r % 4503599627370496
def plc (r : Nat) : Nat := r / 4503599627370496 - 1

theorem sig_lt (r : Nat) : sig r < 2 ^ 53 := by unfold sig; split <;> omega

theorem read_fin (s : Bool) (r : Nat) (h : r < infB) : Ieee.double.read (Ieee.double.word s r) = .number s (sig r) (-1074 + (plc r : Int)) := by
  have e0 : Ieee.double.signWeight = 9223372036854775808 := by decide
  have e1 : Ieee.double.leastPlace = -1074 := by decide
  have e2 : Ieee.double.binade = 4503599627370496 := by decide
  have e3 : Ieee.double.infRung = infB := by decide
  have hr : r < 9223372036854775808 := by unfold infB at h; omega
  unfold Format.read Format.word
  rw [e0, e1, e2, e3]
  have a1 : (if s = true then 9223372036854775808 + r else r) / 9223372036854775808 % 2 = if s = true then 1 else 0 := by split <;> omega
  have a2 : (if s = true then 9223372036854775808 + r else r) % 9223372036854775808 = r := by split <;> omega
  dsimp only
  rw [a1, a2]
  have a3 : ((if s = true then 1 else 0 : Nat) == 1) = s := by cases s <;> rfl
  rw [a3]
  unfold sig plc
  by_cases hb : r < 4503599627370496
  · rw [if_pos hb, if_pos hb]
    have : r / 4503599627370496 = 0 := Nat.div_eq_of_lt hb
    rw [this]; rfl
  · rw [if_neg hb, if_neg hb, if_pos h]

/-- the magnitude's half -/
def halfN (r : Nat) : Nat := if r < 9007199254740992 then rne r 2 else r - 4503599627370496
def quarterN (r : Nat) : Nat := if r < 9007199254740992 then rne r 4 else if r < 13510798882111488 then rne (4503599627370496 + r % 4503599627370496) 2 else r - 9007199254740992

theorem halfN_lt (r : Nat) (h : r < infB) : halfN r < infB := by unfold halfN rne infB at *; split <;> (try split) <;> omega
theorem quarterN_lt (r : Nat) (h : r < infB) : quarterN r < infB := by unfold quarterN rne infB at *; split <;> (try split) <;> (try split) <;> omega

theorem mul_half (s : Bool) (r : Nat) (h : r < infB) : Ieee.double.mul (Ieee.double.word s r) 4602678819172646912 = some (Ieee.double.word s (halfN r)) := by
  have hc : Ieee.double.read 4602678819172646912 = .number false 4503599627370496 (-53) := by decide
  unfold Format.mul
  rw [read_fin s r h, hc]
  simp only [Datum.product, Option.map_some, Bool.xor_false, Format.write]
  congr 1
  unfold halfN
  have hs := sig_lt r
  by_cases h1 : r < 9007199254740992
  · rw [if_pos h1]
    have hp : plc r = 0 := by unfold plc; omega
    have hg : sig r = r := by unfold sig; split <;> omega
    rw [hp, hg]
    have := nearest_low s (r * 4503599627370496) 53 (by omega)
    rw [show (-1074 + ((0 : Nat) : Int) + -53) = -1074 - ((53 : Nat) : Int) by omega, this]
    rw [show (2 : Nat) ^ 53 = 2 * 4503599627370496 by decide, rne_scale _ _ _ (by decide)]
    congr 1
    unfold rne infB
    split <;> omega
  · rw [if_neg h1]
    have hg : sig r = 4503599627370496 + r % 4503599627370496 := by unfold sig; rw [if_neg (by omega)]
    have := nearest_gen s (sig r * 4503599627370496) (-1074 + (plc r : Int) + -53) 52 (by omega) (by omega) (by unfold plc; omega)
    rw [this]
    have e0 : rne (sig r * 4503599627370496) (2 ^ 52) = sig r := rne_exact _ _ (by decide)
    rw [e0]
    refine congrArg (Ieee.double.word s) ?_
    have e1 : (-1074 + (plc r : Int) + -53 + ((52 : Nat) : Int) + 1074).toNat = plc r - 1 := by omega
    have e2 : plc r = r / 4503599627370496 - 1 := rfl
    unfold infB at h
    clear this
    rw [e1, hg, e2]
    unfold infB
    omega

theorem mul_quarter (s : Bool) (r : Nat) (h : r < infB) : Ieee.double.mul (Ieee.double.word s r) 4598175219545276416 = some (Ieee.double.word s (quarterN r)) := by
  have hc : Ieee.double.read 4598175219545276416 = .number false 4503599627370496 (-54) := by decide
  unfold Format.mul
  rw [read_fin s r h, hc]
  simp only [Datum.product, Option.map_some, Bool.xor_false, Format.write]
  congr 1
  unfold quarterN
  have hs := sig_lt r
  by_cases h1 : r < 9007199254740992
  · rw [if_pos h1]
    have hp : plc r = 0 := by unfold plc; omega
    have hg : sig r = r := by unfold sig; split <;> omega
    rw [hp, hg]
    have := nearest_low s (r * 4503599627370496) 54 (by omega)
    rw [show (-1074 + ((0 : Nat) : Int) + -54) = -1074 - ((54 : Nat) : Int) by omega, this]
    rw [show (2 : Nat) ^ 54 = 4 * 4503599627370496 by decide, rne_scale _ _ _ (by decide)]
    congr 1
    unfold rne infB
    split <;> omega
  · rw [if_neg h1]
    have hg : sig r = 4503599627370496 + r % 4503599627370496 := by unfold sig; rw [if_neg (by omega)]
    by_cases h2 : r < 13510798882111488
    · rw [if_pos h2]
      have hp : plc r = 1 := by unfold plc; omega
      rw [hp]
      have := nearest_low s (sig r * 4503599627370496) 53 (by omega)
      rw [show (-1074 + ((1 : Nat) : Int) + -54) = -1074 - ((53 : Nat) : Int) by omega, this]
      rw [show (2 : Nat) ^ 53 = 2 * 4503599627370496 by decide, rne_scale _ _ _ (by decide), hg]
      congr 1
      unfold rne infB
      split <;> omega
    · rw [if_neg h2]
      have := nearest_gen s (sig r * 4503599627370496) (-1074 + (plc r : Int) + -54) 52 (by omega) (by omega) (by unfold plc; omega)
      rw [this]
      have e0 : rne (sig r * 4503599627370496) (2 ^ 52) = sig r := rne_exact _ _ (by decide)
      rw [e0]
      refine congrArg (Ieee.double.word s) ?_
      have e1 : (-1074 + (plc r : Int) + -54 + ((52 : Nat) : Int) + 1074).toNat = plc r - 2 := by omega
      have e2 : plc r = r / 4503599627370496 - 1 := rfl
      unfold infB at h
      clear this
      rw [e1, hg, e2]
      unfold infB
      omega

/-- the magnitude and one -/
def plusN (r : Nat) : Nat :=
  let e := if r < 4503599627370496 then 1 else r / 4503599627370496
  let m := sig r
  if e < 1023 then 4607182418800017408 + rne m (2 ^ (1023 - e))
  else if e = 1023 then 4607182418800017408 + 2251799813685248 + rne m 2
  else if 1076 < e then r
  else if 4 * m + 2 ^ (1077 - e) < 36028797018963968 then (e - 1) * 4503599627370496 + rne (4 * m + 2 ^ (1077 - e)) 4
  else e * 4503599627370496 + rne (4 * m + 2 ^ (1077 - e)) 8

theorem rne_near (q d n : Nat) (h : 2 * n < d) : rne (q * d + n) d = q := by
  unfold rne
  have hd : 0 < d := by omega
  have e1 : (q * d + n) / d = q := by rw [Nat.add_comm, Nat.add_mul_div_right n q hd, Nat.div_eq_of_lt (by omega)]; omega
  have e2 : (q * d + n) % d = n := by rw [Nat.add_comm, Nat.add_mul_mod_self_right n q d]; exact Nat.mod_eq_of_lt (by omega)
  rw [e1, e2, if_neg (by omega)]; rfl

theorem rne_le (n d : Nat) : rne n d ≤ n / d + 1 := by unfold rne; split <;> omega

theorem word_false (r : Nat) : Ieee.double.word false r = r := rfl

theorem add_form (r : Nat) (h : r < infB) : Ieee.double.add r 4607182418800017408 =
    some (Ieee.double.nearest false (sig r * 2 ^ (-1074 + (plc r : Int) - min (-1074 + (plc r : Int)) (-52)).toNat + 4503599627370496 * 2 ^ (-52 - min (-1074 + (plc r : Int)) (-52)).toNat) (min (-1074 + (plc r : Int)) (-52))) := by
  have hc : Ieee.double.read 4607182418800017408 = .number false 4503599627370496 (-52) := by decide
  have hr : Ieee.double.read r = .number false (sig r) (-1074 + (plc r : Int)) := read_fin false r h
  unfold Format.add
  rw [hr, hc]
  simp only [Datum.sum, Option.map_some, Format.write, signed, Bool.false_eq_true, if_false, Nat.shiftLeft_eq]
  generalize sig r * 2 ^ (-1074 + (plc r : Int) - min (-1074 + (plc r : Int)) (-52)).toNat = a
  generalize 4503599627370496 * 2 ^ (-52 - min (-1074 + (plc r : Int)) (-52)).toNat = b
  have e1 : (if (a : Int) + (b : Int) = 0 then (false && false) else decide ((a : Int) + (b : Int) < 0)) = false := by
    split
    · rfl
    · exact decide_eq_false (by omega)
  rw [e1]
  congr 2

theorem pow52 (d : Nat) : 2 ^ (52 + d) = 4503599627370496 * 2 ^ d := by rw [Nat.pow_add]
theorem pow53 (d : Nat) : 2 ^ (53 + d) = 9007199254740992 * 2 ^ d := by rw [Nat.pow_add]
theorem pow54 (d : Nat) : 2 ^ (54 + d) = 18014398509481984 * 2 ^ d := by rw [Nat.pow_add]

theorem near1 (m d : Nat) (hd : 1 ≤ d) (hm : m < 9007199254740992) (place : Int) (hp : place + d = -52) :
    Ieee.double.nearest false (m + 4503599627370496 * 2 ^ d) place = 4607182418800017408 + rne m (2 ^ d) := by
  have hp1 : 2 ^ 1 ≤ 2 ^ d := Nat.pow_le_pow_right (by decide) hd
  have hb := rne_le m (2 ^ d)
  have hb2 : m / 2 ^ d ≤ m := Nat.div_le_self _ _
  have z1 : 2 ^ (52 + d) ≤ m + 4503599627370496 * 2 ^ d := by rw [pow52]; exact Nat.le_add_left _ _
  have z2 : m + 4503599627370496 * 2 ^ d < 2 ^ (53 + d) := by
    rw [pow53]; clear z1 hb hb2; generalize 2 ^ d = P at *; omega
  rw [nearest_gen false _ _ d z1 z2 (by omega), hp]
  rw [Nat.add_comm m, rne_add _ _ _ (by decide) (Nat.two_pow_pos d)]
  clear z1 z2 hp1
  generalize m / 2 ^ d = q at *
  generalize rne m (2 ^ d) = x at *
  have m4 : ((-52 : Int) + 1074).toNat = 1022 := by decide
  rw [m4, word_false]
  unfold infB
  omega

theorem near2 (m : Nat) (h1 : 4503599627370496 ≤ m) (hm : m < 9007199254740992) :
    Ieee.double.nearest false (m + 4503599627370496) (-52) = 4607182418800017408 + 2251799813685248 + rne m 2 := by
  have hb := rne_le m 2
  rw [nearest_gen false _ _ 1 (by omega) (by omega) (by decide)]
  have e0 : rne (m + 4503599627370496) (2 ^ 1) = 2251799813685248 + rne m 2 := by
    rw [show m + 4503599627370496 = 2251799813685248 * 2 ^ 1 + m by omega]; exact rne_add _ _ _ (by decide) (by decide)
  have m4 : ((-52 : Int) + ((1 : Nat) : Int) + 1074).toNat = 1023 := by decide
  rw [e0, m4, word_false]
  generalize rne m 2 = x at *
  unfold infB
  omega

theorem near3 (m d : Nat) (hd : 54 ≤ d) (h1 : 4503599627370496 ≤ m) (hm : m < 9007199254740992) (hd2 : d ≤ 1023) :
    Ieee.double.nearest false (m * 2 ^ d + 4503599627370496) (-52) = (d + 1022) * 4503599627370496 + m := by
  have hpp : 18014398509481984 ≤ 2 ^ d := Nat.pow_le_pow_right (n := 2) (i := 54) (by decide) hd
  have q1 : 4503599627370496 * 2 ^ d ≤ m * 2 ^ d := Nat.mul_le_mul_right _ h1
  have q2 : m * 2 ^ d ≤ 9007199254740991 * 2 ^ d := Nat.mul_le_mul_right _ (by omega)
  have z1 : 2 ^ (52 + d) ≤ m * 2 ^ d + 4503599627370496 := by rw [pow52]; exact Nat.le_trans q1 (Nat.le_add_right _ _)
  have z2 : m * 2 ^ d + 4503599627370496 < 2 ^ (53 + d) := by
    rw [pow53]; clear z1; generalize 2 ^ d = P at *; generalize m * P = Q at *; omega
  have z3 : 2 * 4503599627370496 < 2 ^ d := Nat.lt_of_lt_of_le (by decide) hpp
  rw [nearest_gen false _ _ d z1 z2 (by clear z1 z2 z3 q1 q2 hpp; omega), rne_near _ _ _ z3, word_false]
  clear z1 z2 z3 q1 q2 hpp
  have m4 : ((-52 : Int) + (d : Int) + 1074).toNat = d + 1022 := by omega
  rw [m4]
  unfold infB
  omega

theorem near4 (m d K S : Nat) (hdK : K + d = 54) (hd : 1 ≤ d) (h1 : 4503599627370496 ≤ m) (hm : m < 9007199254740992) (hS : S = 4 * m + 2 ^ K) :
    Ieee.double.nearest false (m * 2 ^ d + 4503599627370496) (-52) =
      if S < 36028797018963968 then (d + 1022) * 4503599627370496 + rne S 4 else (d + 1023) * 4503599627370496 + rne S 8 := by
  have hp1 : 2 ^ 1 ≤ 2 ^ d := Nat.pow_le_pow_right (by decide) hd
  have hkd : 2 ^ K * 2 ^ d = 18014398509481984 := by rw [← Nat.pow_add, hdK]
  have hkl : 2 ^ K ≤ 9007199254740992 := Nat.pow_le_pow_right (n := 2) (j := 53) (by decide) (by omega)
  have hM : (m * 2 ^ d + 4503599627370496) * 4 = S * 2 ^ d := by
    rw [hS, Nat.add_mul, Nat.add_mul (4 * m), hkd, Nat.mul_assoc 4, Nat.mul_comm 4]
  have q1 : 4503599627370496 * 2 ^ d ≤ m * 2 ^ d := Nat.mul_le_mul_right _ h1
  generalize hMM : m * 2 ^ d + 4503599627370496 = M at *
  have hSb : S ≤ 45035996273704957 := by generalize 2 ^ K = k at *; omega
  have hd2 : d ≤ 54 := by omega
  clear hS hkd hkl hdK
  by_cases h4 : S < 36028797018963968
  · rw [if_pos h4]
    have q3 : S * 2 ^ d ≤ 36028797018963967 * 2 ^ d := Nat.mul_le_mul_right _ (by omega)
    have e5 : rne M (2 ^ d) = rne S 4 := by
      rw [← rne_scale M (2 ^ d) 4 (by decide), hM, Nat.mul_comm (2 ^ d) 4]
      exact rne_scale S 4 (2 ^ d) (Nat.two_pow_pos d)
    have z1 : 2 ^ (52 + d) ≤ M := by rw [pow52, ← hMM]; exact Nat.le_trans q1 (Nat.le_add_right _ _)
    have z2 : M < 2 ^ (53 + d) := by
      rw [pow53]; clear z1 e5 hMM q1; generalize 2 ^ d = P at *; generalize S * P = R at *; omega
    have hb := rne_le S 4
    rw [nearest_gen false _ _ d z1 z2 (by clear z1 z2 e5 q1 q3 hM hMM hp1; omega), e5, word_false]
    clear z1 z2 e5 q1 q3 hM hMM hp1
    have m4 : ((-52 : Int) + (d : Int) + 1074).toNat = d + 1022 := by omega
    rw [m4]
    generalize rne S 4 = x at *
    unfold infB
    omega
  · rw [if_neg h4]
    have q3 : 36028797018963968 * 2 ^ d ≤ S * 2 ^ d := Nat.mul_le_mul_right _ (by omega)
    have q4 : S * 2 ^ d ≤ 45035996273704957 * 2 ^ d := Nat.mul_le_mul_right _ hSb
    have e5 : rne M (2 ^ (d + 1)) = rne S 8 := by
      rw [← rne_scale M (2 ^ (d + 1)) 4 (by decide), hM, Nat.pow_succ, Nat.mul_assoc, Nat.mul_comm (2 ^ d)]
      exact rne_scale S 8 (2 ^ d) (Nat.two_pow_pos d)
    have z1 : 2 ^ (52 + (d + 1)) ≤ M := by
      rw [show 52 + (d + 1) = 53 + d by omega, pow53]; clear e5 hMM q1; generalize 2 ^ d = P at *; generalize S * P = R at *; omega
    have z2 : M < 2 ^ (53 + (d + 1)) := by
      rw [show 53 + (d + 1) = 54 + d by omega, pow54]; clear z1 e5 hMM q1; generalize 2 ^ d = P at *; generalize S * P = R at *; omega
    have hb := rne_le S 8
    rw [nearest_gen false _ _ (d + 1) z1 z2 (by clear z1 z2 e5 q1 q3 q4 hM hMM hp1; omega), e5, word_false]
    clear z1 z2 e5 q1 q3 q4 hM hMM hp1
    have m4 : ((-52 : Int) + ((d + 1 : Nat) : Int) + 1074).toNat = d + 1023 := by omega
    rw [m4]
    generalize rne S 8 = x at *
    unfold infB
    omega

theorem add_one (r : Nat) (h : r < infB) : Ieee.double.add r 4607182418800017408 = some (plusN r) := by
  rw [add_form r h]
  congr 1
  have hs : sig r < 9007199254740992 := sig_lt r
  unfold plusN
  dsimp only
  unfold infB at h
  by_cases hb : r < 4503599627370496
  · rw [if_pos hb, if_pos (by decide)]
    have hp : plc r = 0 := by unfold plc; omega
    rw [hp]
    have m1 : min (-1074 + ((0 : Nat) : Int)) (-52) = -1074 := by decide
    rw [m1]
    have m2 : (-1074 + ((0 : Nat) : Int) - -1074).toNat = 0 := by decide
    obtain ⟨d, hd⟩ : ∃ d : Nat, d = 1022 := ⟨_, rfl⟩
    have m3 : ((-52 : Int) - -1074).toNat = d := by rw [hd]; decide
    rw [m2, m3, Nat.pow_zero, Nat.mul_one, show 1023 - 1 = d from hd.symm]
    exact near1 (sig r) d (by omega) hs (-1074) (by omega)
  · rw [if_neg hb]
    have hr : sig r = 4503599627370496 + r % 4503599627370496 := by unfold sig; rw [if_neg hb]
    obtain ⟨e, he⟩ : ∃ e, e = r / 4503599627370496 := ⟨_, rfl⟩
    have hep : (plc r : Int) = (e : Int) - 1 := by unfold plc; omega
    rw [← he, hep]
    have h1 : 4503599627370496 ≤ sig r := by omega
    by_cases h2 : e < 1023
    · rw [if_pos h2]
      obtain ⟨d, hd⟩ : ∃ d, d = 1023 - e := ⟨_, rfl⟩
      have m1 : min (-1074 + ((e : Int) - 1)) (-52) = -1075 + (e : Int) := by omega
      rw [m1]
      have m2 : (-1074 + ((e : Int) - 1) - (-1075 + (e : Int))).toNat = 0 := by omega
      have m3 : (-52 - (-1075 + (e : Int))).toNat = d := by omega
      rw [m2, m3, ← hd, Nat.pow_zero, Nat.mul_one]
      exact near1 (sig r) d (by omega) hs _ (by omega)
    · rw [if_neg h2]
      have m1 : min (-1074 + ((e : Int) - 1)) (-52) = -52 := by omega
      rw [m1]
      have m3 : ((-52 : Int) - -52).toNat = 0 := by decide
      rw [m3, Nat.pow_zero, Nat.mul_one]
      by_cases h3 : e = 1023
      · rw [if_pos h3]
        subst h3
        have m2 : (-1074 + (((1023 : Nat) : Int) - 1) - -52).toNat = 0 := by decide
        rw [m2, Nat.pow_zero, Nat.mul_one]
        exact near2 (sig r) h1 hs
      · rw [if_neg h3]
        obtain ⟨d, hd⟩ : ∃ d, d + 1023 = e := ⟨e - 1023, by omega⟩
        have m2 : (-1074 + ((e : Int) - 1) - -52).toNat = d := by omega
        rw [m2]
        by_cases h4 : 1076 < e
        · rw [if_pos h4, near3 (sig r) d (by omega) h1 hs (by omega)]
          omega
        · rw [if_neg h4]
          rw [near4 (sig r) d (1077 - e) _ (by omega) (by omega) h1 hs rfl]
          have a1 : e - 1 = d + 1022 := by omega
          have a2 : e = d + 1023 := by omega
          rw [a1, a2]

theorem plusN_lt (r : Nat) (h : r < infB) : plusN r < infB := by
  have h1 := add_one r h
  have hs := sig_lt r
  unfold plusN at *
  dsimp only at *
  clear h1
  have b1 : ∀ n d, rne n d ≤ n + 1 := fun n d => Nat.le_trans (rne_le n d) (Nat.add_le_add_right (Nat.div_le_self _ _) 1)
  unfold infB at *
  generalize hE : (if r < 4503599627370496 then 1 else r / 4503599627370496) = e
  split
  · have := b1 (sig r) (2 ^ (1023 - e)); omega
  · split
    · have := b1 (sig r) 2; omega
    · split
      · exact h
      · split
        · rename_i h4
          have := rne_le (4 * sig r + 2 ^ (1077 - e)) 4
          omega
        · have := rne_le (4 * sig r + 2 ^ (1077 - e)) 8
          have hkl : 2 ^ (1077 - e) ≤ 2 ^ 53 := Nat.pow_le_pow_right (by decide) (by omega)
          omega

/-! ### order -/
def val (r : Nat) : Nat := sig r * 2 ^ plc r

theorem val_mono {a b : Nat} (h : a < b) : val a < val b := by
  unfold val
  have hsa := sig_lt a
  by_cases hq : b < 4503599627370496
  · have e1 : sig a = a := by unfold sig; rw [if_pos (by omega)]
    have e2 : sig b = b := by unfold sig; rw [if_pos hq]
    have e3 : plc a = 0 := by unfold plc; omega
    have e4 : plc b = 0 := by unfold plc; omega
    rw [e1, e2, e3, e4]; omega
  · have e2 : sig b = 4503599627370496 + b % 4503599627370496 := by unfold sig; rw [if_neg hq]
    by_cases hp : plc a = plc b
    · rw [hp]
      refine Nat.mul_lt_mul_of_pos_right ?_ (Nat.two_pow_pos _)
      by_cases hqa : a < 4503599627370496
      · have e1 : sig a = a := by unfold sig; rw [if_pos hqa]
        omega
      · have e1 : sig a = 4503599627370496 + a % 4503599627370496 := by unfold sig; rw [if_neg hqa]
        unfold plc at hp
        omega
    · have hpl : plc a + 1 ≤ plc b := by unfold plc at *; omega
      have h1 : sig a * 2 ^ plc a < 2 ^ 53 * 2 ^ plc a := Nat.mul_lt_mul_of_pos_right hsa (Nat.two_pow_pos _)
      have h2 : 2 ^ (plc a + 1) ≤ 2 ^ plc b := Nat.pow_le_pow_right (by decide) hpl
      have h3 : 4503599627370496 * 2 ^ plc b ≤ sig b * 2 ^ plc b := Nat.mul_le_mul_right _ (by omega)
      rw [Nat.pow_succ] at h2
      omega

theorem order_fin (a b : Nat) (ha : a < infB) (hb : b < infB) : Ieee.double.order a b = some (compare a b) := by
  have ra : Ieee.double.read a = .number false (sig a) (-1074 + (plc a : Int)) := read_fin false a ha
  have rb : Ieee.double.read b = .number false (sig b) (-1074 + (plc b : Int)) := read_fin false b hb
  unfold Format.order
  rw [ra, rb]
  simp only [Datum.order, signed, Bool.false_eq_true, if_false, Nat.shiftLeft_eq]
  congr 1
  obtain ⟨A, hA⟩ : ∃ A, A = (-1074 + (plc a : Int) - min (-1074 + (plc a : Int)) (-1074 + (plc b : Int))).toNat := ⟨_, rfl⟩
  obtain ⟨B, hB⟩ : ∃ B, B = (-1074 + (plc b : Int) - min (-1074 + (plc a : Int)) (-1074 + (plc b : Int))).toNat := ⟨_, rfl⟩
  rw [← hA, ← hB]
  obtain ⟨m, hm⟩ : ∃ m, m = min (plc a) (plc b) := ⟨_, rfl⟩
  have h1 : plc a = A + m := by omega
  have h2 : plc b = B + m := by omega
  have va : val a = sig a * 2 ^ A * 2 ^ m := by unfold val; rw [h1, Nat.pow_add, Nat.mul_assoc]
  have vb : val b = sig b * 2 ^ B * 2 ^ m := by unfold val; rw [h2, Nat.pow_add, Nat.mul_assoc]
  have hp : 0 < 2 ^ m := Nat.two_pow_pos m
  show compareOfLessAndEq _ _ = compareOfLessAndEq _ _
  unfold compareOfLessAndEq
  rcases Nat.lt_trichotomy a b with h | h | h
  · have hv := val_mono h
    rw [va, vb] at hv
    have := Nat.lt_of_mul_lt_mul_right hv
    rw [if_pos (by omega), if_pos h]
  · subst h
    have hAB : A = B := by omega
    rw [hAB]
    rw [if_neg (by omega), if_pos rfl, if_neg (by omega), if_pos rfl]
  · have hv := val_mono h
    rw [va, vb] at hv
    have := Nat.lt_of_mul_lt_mul_right hv
    rw [if_neg (by omega), if_neg (by omega), if_neg (by omega), if_neg (by omega)]

theorem read_inf (s : Bool) : Ieee.double.read (Ieee.double.word s infB) = .infinity s := by cases s <;> decide
theorem read_nan (s : Bool) (r : Nat) (h : infB < r) (h2 : r < 9223372036854775808) : Ieee.double.read (Ieee.double.word s r) = .nan s (r - infB) := by
  have e0 : Ieee.double.signWeight = 9223372036854775808 := by decide
  have e2 : Ieee.double.binade = 4503599627370496 := by decide
  have e3 : Ieee.double.infRung = infB := by decide
  unfold Format.read Format.word
  rw [e0, e2, e3]
  have a1 : (if s = true then 9223372036854775808 + r else r) / 9223372036854775808 % 2 = if s = true then 1 else 0 := by split <;> omega
  have a2 : (if s = true then 9223372036854775808 + r else r) % 9223372036854775808 = r := by split <;> omega
  dsimp only
  rw [a1, a2]
  have a3 : ((if s = true then 1 else 0 : Nat) == 1) = s := by cases s <;> rfl
  rw [a3]
  unfold infB at *
  rw [if_neg (by omega), if_neg (by omega), if_neg (by omega)]

theorem word_of (n : Nat) (h : n < 18446744073709551616) : n = Ieee.double.word (decide (9223372036854775808 ≤ n)) (n % 9223372036854775808) := by
  have e0 : Ieee.double.signWeight = 9223372036854775808 := by decide
  unfold Format.word
  rw [e0]
  by_cases hb : 9223372036854775808 ≤ n
  · rw [decide_eq_true hb]; simp; omega
  · rw [decide_eq_false hb]; simp; omega

theorem gt0 (n : Nat) (h : n < 18446744073709551616) : (Ieee.double.order n 0 == some Ordering.gt) = decide (0 < n ∧ n ≤ infB) := by
  have r0 : Ieee.double.read 0 = .number false 0 (-1074) := by decide
  by_cases hs : 9223372036854775808 ≤ n
  · have hd : decide (0 < n ∧ n ≤ infB) = false := decide_eq_false (by unfold infB; omega)
    rw [hd]
    obtain ⟨r, hr⟩ : ∃ r, r = n % 9223372036854775808 := ⟨_, rfl⟩
    have hw : n = Ieee.double.word true r := by have := word_of n h; rw [decide_eq_true hs, ← hr] at this; exact this
    rw [hw]
    unfold Format.order
    rw [r0]
    rcases Nat.lt_trichotomy r infB with h1 | h1 | h1
    · rw [read_fin true r h1]
      simp only [Datum.order, signed, if_true, Bool.false_eq_true, if_false, Nat.shiftLeft_eq, Nat.zero_mul]
      generalize sig r * 2 ^ (-1074 + (plc r : Int) - min (-1074 + (plc r : Int)) (-1074)).toNat = x
      show (some (compareOfLessAndEq (-(x : Int)) ((0 : Nat) : Int)) == some Ordering.gt) = false
      unfold compareOfLessAndEq
      by_cases hx : x = 0
      · subst hx; rfl
      · rw [if_pos (by omega)]; rfl
    · rw [h1, read_inf]; rfl
    · rw [read_nan true r h1 (by omega)]; rfl
  · rcases Nat.lt_trichotomy n infB with h1 | h1 | h1
    · rw [order_fin n 0 h1 (by decide)]
      show (some (compareOfLessAndEq n 0) == some Ordering.gt) = _
      unfold compareOfLessAndEq
      by_cases hx : n = 0
      · subst hx; rfl
      · rw [if_neg (by omega), if_neg hx, decide_eq_true (by omega)]; rfl
    · subst h1; decide
    · have hd : decide (0 < n ∧ n ≤ infB) = false := decide_eq_false (by omega)
      rw [hd]
      unfold Format.order
      have := read_nan false n h1 (by omega)
      rw [word_false] at this
      rw [this]; rfl

/-- the greatest finite one -/
theorem gtmax (n : Nat) (h : n < 9223372036854775808) : (Ieee.double.order n 9218868437227405311 == some Ordering.gt) = decide (n = infB) := by
  rcases Nat.lt_trichotomy n infB with h1 | h1 | h1
  · rw [order_fin n _ h1 (by decide)]
    show (some (compareOfLessAndEq n _) == some Ordering.gt) = _
    unfold compareOfLessAndEq
    rw [decide_eq_false (by omega)]
    unfold infB at h1
    by_cases hx : n < 9218868437227405311
    · rw [if_pos hx]; rfl
    · rw [if_neg hx, if_pos (by omega)]; rfl
  · subst h1; decide
  · rw [decide_eq_false (by omega)]
    unfold Format.order
    have := read_nan false n h1 h
    rw [word_false] at this
    rw [this]; rfl

/-- comparisons of fine ones -/
theorem geq_fine (a b : Nat) (ha : a < infB) (hb : b < infB) : (Ieee.double.order a b == some Ordering.gt || Ieee.double.order a b == some Ordering.eq) = decide (b ≤ a) := by
  rw [order_fin a b ha hb]
  show (some (compareOfLessAndEq a b) == some Ordering.gt || some (compareOfLessAndEq a b) == some Ordering.eq) = _
  unfold compareOfLessAndEq
  rcases Nat.lt_trichotomy a b with h | h | h
  · rw [if_pos h, decide_eq_false (by omega)]; rfl
  · rw [if_neg (by omega), if_pos h, decide_eq_true (by omega)]; rfl
  · rw [if_neg (by omega), if_neg (by omega), decide_eq_true (by omega)]; rfl
theorem leq_fine (a b : Nat) (ha : a < infB) (hb : b < infB) : (Ieee.double.order a b == some Ordering.lt || Ieee.double.order a b == some Ordering.eq) = decide (a ≤ b) := by
  rw [order_fin a b ha hb]
  show (some (compareOfLessAndEq a b) == some Ordering.lt || some (compareOfLessAndEq a b) == some Ordering.eq) = _
  unfold compareOfLessAndEq
  rcases Nat.lt_trichotomy a b with h | h | h
  · rw [if_pos h, decide_eq_true (by omega)]; rfl
  · rw [if_neg (by omega), if_pos h, decide_eq_true (by omega)]; rfl
  · rw [if_neg (by omega), if_neg (by omega), decide_eq_false (by omega)]; rfl
theorem gtr_fine (a b : Nat) (ha : a < infB) (hb : b < infB) : (Ieee.double.order a b == some Ordering.gt) = decide (b < a) := by
  rw [order_fin a b ha hb]
  show (some (compareOfLessAndEq a b) == some Ordering.gt) = _
  unfold compareOfLessAndEq
  rcases Nat.lt_trichotomy a b with h | h | h
  · rw [if_pos h, decide_eq_false (by omega)]; rfl
  · rw [if_neg (by omega), if_pos h, decide_eq_false (by omega)]; rfl
  · rw [if_neg (by omega), if_neg (by omega), decide_eq_true (by omega)]; rfl

/-- the halves of a score: as many as there are lives, as long as it is a finite one above 0 -/
def nl : Nat → Nat → Nat
  | 0, s => s
  | k + 1, s => if 0 < s ∧ s < infB then nl k (halfN s) else s

theorem halfN_le (r : Nat) (h : 0 < r) : halfN r < r := by unfold halfN rne; split <;> (try split) <;> omega

def leB (s l : Nat) : Bool := (Ieee.double.order s l == some Ordering.lt || Ieee.double.order s l == some Ordering.eq)
def gtB (s l : Nat) : Bool := (Ieee.double.order s l == some Ordering.gt)
theorem leB_fine (a b : Nat) (ha : a < infB) (hb : b < infB) : leB a b = decide (a ≤ b) := leq_fine a b ha hb
theorem gtB_fine (a b : Nat) (ha : a < infB) (hb : b < infB) : gtB a b = decide (b < a) := gtr_fine a b ha hb
def geB (s l : Nat) : Bool := (Ieee.double.order s l == some Ordering.gt || Ieee.double.order s l == some Ordering.eq)
theorem geB_fine (a b : Nat) (ha : a < infB) (hb : b < infB) : geB a b = decide (b ≤ a) := geq_fine a b ha hb
/-- what is below 0, or none, reaches no number above 0 -/
theorem geB_neg (n l : Nat) (h : n < 18446744073709551616) (h1 : 9223372036854775808 ≤ n) (hl : l < infB) (hl0 : 0 < l) : geB n l = false := by
  obtain ⟨r, hr⟩ : ∃ r, r = n % 9223372036854775808 := ⟨_, rfl⟩
  have hw : n = Ieee.double.word true r := by have := word_of n h; rw [decide_eq_true h1, ← hr] at this; exact this
  have rl : Ieee.double.read l = .number false (sig l) (-1074 + (plc l : Int)) := read_fin false l hl
  unfold geB
  rw [hw]
  unfold Format.order
  rw [rl]
  rcases Nat.lt_trichotomy r infB with h1 | h1 | h1
  · rw [read_fin true r h1]
    simp only [Datum.order, signed, if_true, Bool.false_eq_true, if_false, Nat.shiftLeft_eq]
    generalize sig r * 2 ^ (-1074 + (plc r : Int) - min (-1074 + (plc r : Int)) (-1074 + (plc l : Int))).toNat = x
    have hp := Nat.two_pow_pos (-1074 + (plc l : Int) - min (-1074 + (plc r : Int)) (-1074 + (plc l : Int))).toNat
    have hs : 0 < sig l := by unfold sig; split <;> omega
    have hy := Nat.mul_pos hs hp
    generalize sig l * 2 ^ (-1074 + (plc l : Int) - min (-1074 + (plc r : Int)) (-1074 + (plc l : Int))).toNat = y at *
    show (some (compareOfLessAndEq (-(x : Int)) (y : Int)) == some Ordering.gt || some (compareOfLessAndEq (-(x : Int)) (y : Int)) == some Ordering.eq) = false
    unfold compareOfLessAndEq
    rw [if_pos (by omega)]; rfl
  · rw [h1, read_inf]; rfl
  · rw [read_nan true r h1 (by omega)]; rfl
theorem geB_nan (n l : Nat) (h1 : infB < n) (h2 : n < 9223372036854775808) : geB n l = false := by
  have := read_nan false n h1 h2
  rw [word_false] at this
  unfold geB Format.order
  rw [this]; cases Ieee.double.read l <;> rfl
/-- may a limit be? -/
theorem limit_ok (n : Nat) (h : n < 18446744073709551616) : (geB n 4607182418800017408 && !decide (n % 9223372036854775808 = infB)) = decide (4607182418800017408 ≤ n ∧ n < infB) := by
  by_cases h1 : 9223372036854775808 ≤ n
  · have e : decide (4607182418800017408 ≤ n ∧ n < infB) = false := decide_eq_false (by unfold infB; omega)
    rw [geB_neg n _ h h1 (by decide) (by decide), e]; rfl
  · rw [Nat.mod_eq_of_lt (by omega)]
    rcases Nat.lt_trichotomy n infB with h2 | h2 | h2
    · rw [geB_fine n _ h2 (by decide), decide_eq_false (show ¬ n = infB by omega)]
      simp [h2]
    · rw [decide_eq_true h2, decide_eq_false (by omega)]; simp
    · have e : decide (4607182418800017408 ≤ n ∧ n < infB) = false := decide_eq_false (by omega)
      rw [geB_nan n _ h2 (by omega), e]; rfl
theorem halfN_zero : halfN 0 = 0 := by decide
/-- how many half-lives until a score is below a limit (above 0) -/
def lvs : Nat → Nat → Nat → Nat
  | 0, _, _ => 0
  | k + 1, s, l => if l ≤ s then lvs k (halfN s) l + 1 else 0
theorem lvs_enough (l : Nat) (hl : 0 < l) : ∀ (k j s : Nat), s < k → s < j → lvs k s l = lvs j s l := by
  intro k
  induction k with
  | zero => intro j s h; omega
  | succ k ih =>
    intro j s h1 h2
    obtain ⟨j, rfl⟩ : ∃ m, j = m + 1 := ⟨j - 1, by omega⟩
    simp only [lvs]
    by_cases hc : l ≤ s
    · rw [if_pos hc, if_pos hc]
      have := halfN_le s (by omega)
      rw [ih j (halfN s) (by omega) (by omega)]
    · rw [if_neg hc, if_neg hc]
def lv (s l : Nat) : Nat := lvs (s + 1) s l
theorem lv_stop (s l : Nat) (h : s < l) : lv s l = 0 := by unfold lv; simp only [lvs]; rw [if_neg (by omega)]
theorem lv_step (s l : Nat) (hl : 0 < l) (h : l ≤ s) : lv s l = lv (halfN s) l + 1 := by
  have := halfN_le s (by omega)
  unfold lv
  rw [show lvs (s + 1) s l = lvs s (halfN s) l + 1 by simp only [lvs]; rw [if_pos h]]
  rw [lvs_enough l hl s (halfN s + 1) (halfN s) (by omega) (by omega)]
theorem lvs_le (l : Nat) (hl : 0 < l) : ∀ (k s : Nat), lvs k s l ≤ s := by
  intro k
  induction k with
  | zero => intro s; simp [lvs]
  | succ k ih =>
    intro s
    simp only [lvs]
    split
    · have := halfN_le s (by omega); have := ih (halfN s); omega
    · omega
theorem lv_le (s l : Nat) (hl : 0 < l) : lv s l ≤ s := lvs_le l hl _ s
end Go.Proofs.Ytflkkkkbbgfbdaa.Flt
