/- The walks of package meter's functions: what each call tells, and that it changes nothing that was there. Conditions: the numbers are of their kinds; where a float is reckoned with, it is finite and not below 0. -/
import Derived.Test.YtflkkkkbbgfbdaaProg
import Derived.Test.YtflkkkkbbgfbdaaF
import Derived.WalkKit
import Derived.WalkSpells
import Derived.WalkLawsBesides
import Derived.Deep.QuietTactic
import Derived.BigQuiet
import Derived.Deep.LoopGhost
import Derived.Laws.BitsAllLaws
import Derived.Laws.FloatArith
import Derived.Lib.Hide
import Derived.Test.YtflkkkkbbgfbdaaWWords
namespace Go.Proofs.Ytflkkkkbbgfbdaa
open Go.RowKit Flt Go.Proofs.YtflkkkkbbgfbdaaW.PrintWords
theorem run27 (n : Nat) (w : World) : (callFunc 27 #[.float .f64 n]).run Try.prog w = .ok (.value (.int .u64 n)) w := by kernel_rfl
theorem run25 (n : Int) (w : World) : (callFunc 25 #[.int .u64 n]).run Try.prog w = .ok (.value (.float .f64 n.toNat)) w := by kernel_rfl
theorem abs_bits (n : Nat) (h : n < 18446744073709551616) : (bits BinOp.andNot IntKind.u64 (n : Int) 9223372036854775808).toNat = n % 9223372036854775808 := by
  have := u64_andNot_nat n 9223372036854775808 h (by decide)
  rw [show ((9223372036854775808 : Nat) : Int) = 9223372036854775808 by rfl] at this
  rw [this, Int.toNat_natCast]
  exact Nat.and_two_pow_sub_one_eq_mod n 63
theorem isinf_any (n : Nat) (w : World) (hn : n < 18446744073709551616) :
    Calls Try.prog 26 #[.float .f64 n, .int .i64 0] w fun e w' => e = .returned (.bool (decide (n % 9223372036854775808 = 9218868437227405312))) ∧ w = w' := by
  have q27 := run27
  have q25 := run25
  have q3 := abs_bits n hn
  have q4 := gtmax (n % 9223372036854775808) (by omega)
  go_enter Try.func26, Try.ntmps26
  go_wp2
  go_ret
  refine ⟨?_, rfl⟩
  show Ending.returned (Value.bool (Ieee.double.order (n % 9223372036854775808) 9218868437227405311 == some Ordering.gt)) = _
  rw [q4]; rfl

/-- the times' facts -/
theorem live1 (A t : Int) (h1 : A < t) (h2 : -9223372036854775808 ≤ A) (h3 : t ≤ 9223372036854775807) : IntKind.u64.wrap (IntKind.i64.wrap (t - A)) = t - A := by
  rw [IntKind.wrap_u64, IntKind.wrap_i64]; omega

theorem floatHalf (s : Nat) (h : s < infB) : floatBits .mul .f64 s 4602678819172646912 = some (halfN s) := by
  have q := mul_half false s h
  rw [word_false, word_false] at q
  unfold floatBits
  exact q
theorem mulhalf_run (s : Nat) (h : s < infB) (w : World) : (binOp .mul 50 (.float .f64 s) (.float .f64 4602678819172646912)).run Try.prog w = .ok (.float .f64 (halfN s)) w :=
  run_float_arith w .mul 50 .f64 s _ _ (floatHalf s h)
theorem nl_stop (k s : Nat) (h : ¬ (0 < s ∧ s < infB)) : nl k s = s := by cases k with | zero => rfl | succ k => simp only [nl, if_neg h]
theorem nl_step (k s : Nat) (h : 0 < s ∧ s < infB) (hk : 0 < k) : nl k s = nl (k - 1) (halfN s) := by
  obtain ⟨j, rfl⟩ : ∃ j, k = j + 1 := ⟨k - 1, by omega⟩
  simp only [nl, if_pos h]; rfl
theorem wrap64_eq (x : Int) (h1 : -9223372036854775808 ≤ x) (h2 : x ≤ 9223372036854775807) : wrap64 x = x := by unfold wrap64; omega
theorem wrap64_mod (A x : Int) : wrap64 (A + wrap64 x) = wrap64 (A + x) := by unfold wrap64; omega
set_option maxHeartbeats 1000000 in
theorem now_any (H L S A t : Int) (w : World) (h1 : A < t) (h2 : 1 ≤ H) (hA : -9223372036854775808 ≤ A) (ht : t ≤ 9223372036854775807) (hH : H ≤ 9223372036854775807) (hS : S < 18446744073709551616) :
    Calls Try.prog 29 #[.agg #[.int .i64 H, .int .u64 L], .agg #[.int .u64 S, .int .i64 A], .int .i64 t] w fun e w' => e = .returned (.tuple #[.float .f64 (nl ((t - A) / H).toNat S.toNat), .int .i64 (A + (t - A) / H * H)]) ∧ Below w.heap.size w w' := by
  obtain ⟨K, hK⟩ : ∃ K : Nat, (t - A) / H = K := ⟨((t - A) / H).toNat, by have : 0 ≤ (t - A) / H := Int.ediv_nonneg (by omega) (by omega); omega⟩
  have hKH : (K : Int) * H ≤ t - A := by rw [← hK]; exact Int.ediv_mul_le _ (by omega)
  have hKH0 : 0 ≤ (K : Int) * H := Int.mul_nonneg (by omega) (by omega)
  have hKl : (K : Int) ≤ t - A := by rw [← hK]; exact Int.ediv_le_self _ (by omega)
  have q27 := run27
  have q25 := run25
  have e1 : IntKind.u64.wrap (wrap64 (t - A)) = t - A := by rw [IntKind.wrap_u64]; unfold wrap64; omega
  have e2 : IntKind.u64.wrap ((t - A).tdiv H) = (K : Int) := by
    rw [Int.tdiv_eq_ediv_of_nonneg (by omega), hK, IntKind.wrap_u64]; omega
  have e3 : IntKind.u64.wrap ((K : Int) * H) = (K : Int) * H := by rw [IntKind.wrap_u64]; omega
  have e4 := Lib.hid (show wrap64 (A + wrap64 ((K : Int) * H)) = A + (K : Int) * H by rw [wrap64_mod]; exact wrap64_eq _ (by omega) (by omega))
  have hS2 : S.toNat < 18446744073709551616 := by omega
  rw [hK, Int.toNat_natCast]
  have HK := Lib.hid hK
  clear hK
  go_enter Try.func29, Try.ntmps29
  go_wp2
  go_quiet (fail)
  go_wp2
  go_loopg [8, 10] K (fun kq v8 v10 w' => ∃ (s k : Nat), v8 = .float .f64 s ∧ v10 = .int .u64 k ∧ s < 18446744073709551616 ∧ k ≤ K ∧ k = kq ∧ Hid (nl k s = nl K S.toNat) ∧ Below w.heap.size w w')
  case atStart =>
    exact ⟨S.toNat, K, rfl, rfl, hS2, Nat.le_refl _, rfl, Lib.hid rfl, by repeat (first | exact Below.refl _ _ | apply pw_below_drewN | apply below_alloc)⟩
  case round =>
    obtain ⟨s, k, rfl, rfl, hs, hk, hkq, hn, hb⟩ := hrel
    have hkq' := Lib.hid hkq
    clear hkq e1 e2 e3
    have hin := isinf_any s wr hs
    have hg := gt0 s hs
    have hmod : s ≤ infB → s % 9223372036854775808 = s := fun h => Nat.mod_eq_of_lt (by unfold infB at h; omega)
    by_cases h0 : k = 0
    · subst h0
      clear hin hg hmod
      have hn' := Lib.hid (show s = nl K S.toNat from hn.out)
      clear hn
      go_wp2_with fail
      go_ret2
      exact ⟨by rw [← hn'.out, ← e4.out]; rfl, hb⟩
    · have hk0 : 0 < (k : Int) := by omega
      clear h0
      by_cases h1 : 0 < s ∧ s ≤ infB
      · have g1 : (FloatKind.f64.format.order s 0 == some Ordering.gt) = true := by rw [decide_eq_true h1] at hg; exact hg
        have hm := hmod h1.2
        clear hg hmod
        by_cases h2 : s = infB
        · have g2 : decide (s % 9223372036854775808 = 9218868437227405312) = true := decide_eq_true (by rw [hm, h2]; rfl)
          have hn' := Lib.hid (show s = nl K S.toNat by rw [← hn.out, nl_stop k s (by omega)])
          clear hn hm h1 h2
          go_wp2_with (go_at_call 26; refine hin.mono ?_; rintro e w' ⟨rfl, rfl⟩)
          go_ret2
          exact ⟨by rw [← hn'.out, ← e4.out]; rfl, hb⟩
        · have g2 : decide (s % 9223372036854775808 = 9218868437227405312) = false := decide_eq_false (by rw [hm]; exact h2)
          have h3 : 0 < s ∧ s < infB := by omega
          have g3 := mulhalf_run s h3.2
          have g4 : IntKind.u64.wrap ((k : Int) - 1) = ((k - 1 : Nat) : Int) := by rw [IntKind.wrap_u64]; omega
          have g5 := Lib.hid (show halfN s < 18446744073709551616 from Nat.lt_trans (halfN_lt s h3.2) (by decide))
          have hn' := Lib.hid (show nl (k - 1) (halfN s) = nl K S.toNat by rw [← hn.out, nl_step k s h3 (by omega)])
          clear hn hm h1 h2 h3
          go_wp2_with (go_at_call 26; refine hin.mono ?_; rintro e w' ⟨rfl, rfl⟩)
          go_roundg (gk - 1)
          case measure => have := hkq'.out; omega
          case rel => exact ⟨halfN s, k - 1, rfl, rfl, g5.out, by omega, by have := hkq'.out; omega, hn', hb⟩
      · have g1 : (FloatKind.f64.format.order s 0 == some Ordering.gt) = false := by rw [decide_eq_false h1] at hg; exact hg
        have hn' := Lib.hid (show s = nl K S.toNat by rw [← hn.out, nl_stop k s (by omega)])
        clear hn hg hmod hin h1
        go_wp2_with fail
        go_ret2
        exact ⟨by rw [← hn'.out, ← e4.out]; rfl, hb⟩
theorem now_same (H L S A t : Int) (w : World) (h1 : t ≤ A ∨ H < 1) :
    Calls Try.prog 29 #[.agg #[.int .i64 H, .int .u64 L], .agg #[.int .u64 S, .int .i64 A], .int .i64 t] w fun e w' => e = .returned (.tuple #[.float .f64 S.toNat, .int .i64 A]) ∧ Below w.heap.size w w' := by
  have q27 := run27
  have q25 := run25
  by_cases h2 : t ≤ A
  · have d2 : decide (t ≤ A) = true := decide_eq_true h2
    clear h1
    go_enter Try.func29, Try.ntmps29
    go_wp2
    go_quiet (fail)
    go_wp2
    go_ret2
    exact ⟨rfl, by repeat (first | exact Below.refl _ _ | apply pw_below_drewN | apply below_alloc)⟩
  · have d2 : decide (t ≤ A) = false := decide_eq_false h2
    have h3 : H < 1 := by omega
    clear h1
    go_enter Try.func29, Try.ntmps29
    go_wp2
    go_quiet (fail)
    go_wp2
    go_ret2
    exact ⟨rfl, by repeat (first | exact Below.refl _ _ | apply pw_below_drewN | apply below_alloc)⟩

/-- what the meter's own 'now' tells: the score's bits, and where its half-life began -/
def nowP (H S A t : Int) : Nat × Int := if A < t ∧ 1 ≤ H then (nl ((t - A) / H).toNat S.toNat, A + (t - A) / H * H) else (S.toNat, A)
structure Fits (H S A t : Int) : Prop where
  a : -9223372036854775808 ≤ A
  t : t ≤ 9223372036854775807
  h : H ≤ 9223372036854775807
  s0 : 0 ≤ S
  s : S < 18446744073709551616
theorem now_all (H L S A t : Int) (w : World) (f : Fits H S A t) :
    Calls Try.prog 29 #[.agg #[.int .i64 H, .int .u64 L], .agg #[.int .u64 S, .int .i64 A], .int .i64 t] w fun e w' => e = .returned (.tuple #[.float .f64 (nowP H S A t).1, .int .i64 (nowP H S A t).2]) ∧ Below w.heap.size w w' := by
  unfold nowP
  by_cases h : A < t ∧ 1 ≤ H
  · rw [if_pos h]; exact now_any H L S A t w h.1 h.2 f.a f.t f.h f.s
  · rw [if_neg h]; exact now_same H L S A t w (by omega)
theorem bcell {W w1 : World} (hb : Below W.heap.size W w1) : (∀ b o, b < W.heap.size → w1.cell? ⟨b, o, none⟩ = W.cell? ⟨b, o, none⟩) ∧ (∀ b o, b < W.heap.size → w1.frozen? ⟨b, o, none⟩ = W.frozen? ⟨b, o, none⟩) :=
  ⟨fun b o h => hb.cell (p := ⟨b, o, none⟩) h, fun b o h => hb.frozen (p := ⟨b, o, none⟩) h⟩
theorem meter_any (n : Nat) (a : Int) (w : World) :
    Calls Try.prog 31 #[.float .f64 n, .int .i64 a] w fun e w' => e = .returned (.agg #[.int .u64 n, .int .i64 a]) ∧ Below w.heap.size w w' := by
  have q27 := run27
  go_enter Try.func31, Try.ntmps31
  go_wp2
  exact bodyPost_ret (v := .agg #[.int .u64 n, .int .i64 a]) (by simp [results, Try.results31, go_sem]) rfl ⟨rfl, ((Below.refl _ _).alloc (Nat.le_refl _) _)⟩
theorem floatPlus (s : Nat) (h : s < infB) : floatBits .add .f64 s 4607182418800017408 = some (plusN s) := by
  have q := add_one s h
  unfold floatBits
  exact q
theorem floatQuarter (s : Nat) (h : s < infB) : floatBits .mul .f64 s 4598175219545276416 = some (quarterN s) := by
  have q := mul_quarter false s h
  rw [word_false, word_false] at q
  unfold floatBits
  exact q
set_option maxHeartbeats 1000000 in
theorem fail_any (H L S A t : Int) (w : World) (f : Fits H S A t) (hf : (nowP H S A t).1 < infB) :
    Calls Try.prog 19 #[.agg #[.int .i64 H, .int .u64 L], .agg #[.int .u64 S, .int .i64 A], .int .i64 t] w fun e w' => e = .returned (.agg #[.int .u64 (plusN (nowP H S A t).1 : Nat), .int .i64 (nowP H S A t).2]) ∧ Below w.heap.size w w' := by
  have hn := fun w => now_all H L S A t w f
  have g := fun w => run_float_arith (P := Try.prog) w .add 50 .f64 _ _ _ (floatPlus _ hf)
  generalize (nowP H S A t).1 = s at *
  generalize (nowP H S A t).2 = at' at *
  clear f hf
  go_enter Try.func19, Try.ntmps19
  go_wp2_with (first | (go_at_call 29; refine (hn _).mono ?_; rintro e w1 ⟨rfl, hb⟩; obtain ⟨hc, hfz⟩ := bcell hb; have hz : w.heap.size + 2 < w1.heap.size := by have := hb.size; simp at this; omega) | (go_at_call 31; refine (meter_any _ _ _).mono ?_; rintro e w2 ⟨rfl, hb2⟩; obtain ⟨hc2, hfz2⟩ := bcell hb2))
  exact bodyPost_ret (v := .agg #[.int .u64 (plusN s : Nat), .int .i64 at']) (by simp [results, Try.results19, go_sem, hc2, hc, hz]) rfl ⟨rfl, by repeat (first | exact Below.refl _ _ | apply below_alloc | apply pw_below_drewN | apply below_drew1 | refine below_set ?_ (by omega) | refine below_step ?_ hb2 | refine below_step ?_ hb)⟩
set_option maxHeartbeats 1000000 in
theorem pass_any (H L S A t : Int) (w : World) (f : Fits H S A t) (hf : (nowP H S A t).1 < infB) :
    Calls Try.prog 21 #[.agg #[.int .i64 H, .int .u64 L], .agg #[.int .u64 S, .int .i64 A], .int .i64 t] w fun e w' => e = .returned (.agg #[.int .u64 (quarterN (nowP H S A t).1 : Nat), .int .i64 (nowP H S A t).2]) ∧ Below w.heap.size w w' := by
  have hn := fun w => now_all H L S A t w f
  have g := fun w => run_float_arith (P := Try.prog) w .mul 50 .f64 _ _ _ (floatQuarter _ hf)
  generalize (nowP H S A t).1 = s at *
  generalize (nowP H S A t).2 = at' at *
  clear f hf
  go_enter Try.func21, Try.ntmps21
  go_wp2_with (first | (go_at_call 29; refine (hn _).mono ?_; rintro e w1 ⟨rfl, hb⟩; obtain ⟨hc, hfz⟩ := bcell hb; have hz : w.heap.size + 2 < w1.heap.size := by have := hb.size; simp at this; omega) | (go_at_call 31; refine (meter_any _ _ _).mono ?_; rintro e w2 ⟨rfl, hb2⟩; obtain ⟨hc2, hfz2⟩ := bcell hb2))
  exact bodyPost_ret (v := .agg #[.int .u64 (quarterN s : Nat), .int .i64 at']) (by simp [results, Try.results21, go_sem, hc2, hc, hz]) rfl ⟨rfl, by repeat (first | exact Below.refl _ _ | apply below_alloc | apply pw_below_drewN | apply below_drew1 | refine below_set ?_ (by omega) | refine below_step ?_ hb2 | refine below_step ?_ hb)⟩
set_option maxHeartbeats 1000000 in
theorem mnow_any (H L S A t : Int) (w : World) (f : Fits H S A t) :
    Calls Try.prog 17 #[.agg #[.int .i64 H, .int .u64 L], .agg #[.int .u64 S, .int .i64 A], .int .i64 t] w fun e w' => e = .returned (.agg #[.int .u64 ((nowP H S A t).1 : Nat), .int .i64 (nowP H S A t).2]) ∧ Below w.heap.size w w' := by
  have hn := fun w => now_all H L S A t w f
  generalize (nowP H S A t).1 = s at *
  generalize (nowP H S A t).2 = at' at *
  clear f
  go_enter Try.func17, Try.ntmps17
  go_wp2_with (first | (go_at_call 29; refine (hn _).mono ?_; rintro e w1 ⟨rfl, hb⟩; obtain ⟨hc, hfz⟩ := bcell hb; have hz : w.heap.size + 2 < w1.heap.size := by have := hb.size; simp at this; omega) | (go_at_call 31; refine (meter_any _ _ _).mono ?_; rintro e w2 ⟨rfl, hb2⟩; obtain ⟨hc2, hfz2⟩ := bcell hb2))
  exact bodyPost_ret (v := .agg #[.int .u64 (s : Nat), .int .i64 at']) (by simp [results, Try.results17, go_sem, hc2, hc, hz]) rfl ⟨rfl, by repeat (first | exact Below.refl _ _ | apply below_alloc | apply pw_below_drewN | apply below_drew1 | refine below_set ?_ (by omega) | refine below_step ?_ hb2 | refine below_step ?_ hb)⟩
set_option maxHeartbeats 1000000 in
theorem locked_any (H L S A t : Int) (w : World) (f : Fits H S A t) :
    Calls Try.prog 14 #[.agg #[.int .i64 H, .int .u64 L], .agg #[.int .u64 S, .int .i64 A], .int .i64 t] w fun e w' => e = .returned (.bool (geB (nowP H S A t).1 L.toNat)) ∧ Below w.heap.size w w' := by
  have hn := fun w => now_all H L S A t w f
  generalize (nowP H S A t).1 = s at *
  generalize (nowP H S A t).2 = at' at *
  clear f
  have q25 := run25
  go_enter Try.func14, Try.ntmps14
  go_wp2_with (first | (go_at_call 29; refine (hn _).mono ?_; rintro e w1 ⟨rfl, hb⟩; obtain ⟨hc, hfz⟩ := bcell hb; have hz : w.heap.size + 1 < w1.heap.size := by have := hb.size; simp at this; omega))
  go_ret
  exact ⟨rfl, by repeat (first | exact Below.refl _ _ | apply below_alloc | apply pw_below_drewN | apply below_drew1 | refine below_step ?_ hb)⟩

set_option maxHeartbeats 1000000 in
theorem check_any (H L : Int) (w : World) (hL : 0 ≤ L) (hL2 : L < 18446744073709551616) :
    Calls Try.prog 9 #[.agg #[.int .i64 H, .int .u64 L]] w fun e w' => e = .returned (.int .i64 (if 1 ≤ H ∧ 4607182418800017408 ≤ L ∧ L < 9218868437227405312 then 0 else 80)) ∧ Below w.heap.size w w' := by
  have q25 := run25
  have hn : L.toNat < 18446744073709551616 := by omega
  have hin := fun w => isinf_any L.toNat w hn
  have hk := limit_ok L.toNat hn
  by_cases h1 : H < 1
  · have hd : decide (H < 1) = true := decide_eq_true h1
    rw [if_neg (by omega)]
    clear hin hk
    go_enter Try.func9, Try.ntmps9
    go_wp2
    go_ret
    exact ⟨rfl, by repeat (first | exact Below.refl _ _ | apply below_alloc | apply pw_below_drewN | apply below_drew1)⟩
  · have hd : decide (H < 1) = false := decide_eq_false h1
    by_cases h2 : geB L.toNat 4607182418800017408 = true
    · have hg : (FloatKind.f64.format.order L.toNat 4607182418800017408 == some Ordering.gt || FloatKind.f64.format.order L.toNat 4607182418800017408 == some Ordering.eq) = true := h2
      rw [h2] at hk
      by_cases h3 : L.toNat % 9223372036854775808 = 9218868437227405312
      · have hi : decide (L.toNat % 9223372036854775808 = 9218868437227405312) = true := decide_eq_true h3
        have hi' : decide (L.toNat % 9223372036854775808 = infB) = true := hi
        rw [hi'] at hk
        have hk' := of_decide_eq_false hk.symm
        rw [if_neg (by unfold infB at hk'; omega)]
        clear hk h2 h3 hi' hk'
        go_enter Try.func9, Try.ntmps9
        go_wp2_with (go_at_call 26; refine (hin _).mono ?_; rintro e w' ⟨rfl, rfl⟩)
        go_ret
        exact ⟨rfl, by repeat (first | exact Below.refl _ _ | apply below_alloc | apply pw_below_drewN | apply below_drew1)⟩
      · have hi : decide (L.toNat % 9223372036854775808 = 9218868437227405312) = false := decide_eq_false h3
        have hi' : decide (L.toNat % 9223372036854775808 = infB) = false := hi
        rw [hi'] at hk
        have hk' := of_decide_eq_true hk.symm
        rw [if_pos (by unfold infB at hk'; omega)]
        clear hk h2 h3 hi' hk'
        go_enter Try.func9, Try.ntmps9
        go_wp2_with (go_at_call 26; refine (hin _).mono ?_; rintro e w' ⟨rfl, rfl⟩)
        go_ret
        exact ⟨rfl, by repeat (first | exact Below.refl _ _ | apply below_alloc | apply pw_below_drewN | apply below_drew1)⟩
    · have h2' : geB L.toNat 4607182418800017408 = false := by simpa using h2
      have hg : (FloatKind.f64.format.order L.toNat 4607182418800017408 == some Ordering.gt || FloatKind.f64.format.order L.toNat 4607182418800017408 == some Ordering.eq) = false := h2'
      rw [h2'] at hk
      have hk' := of_decide_eq_false hk.symm
      rw [if_neg (by unfold infB at hk'; omega)]
      clear hin hk h2 h2' hk'
      go_enter Try.func9, Try.ntmps9
      go_wp2_with fail
      go_ret
      exact ⟨rfl, by repeat (first | exact Below.refl _ _ | apply below_alloc | apply pw_below_drewN | apply below_drew1)⟩
/-- what Wait tells, of what may be -/
def waitP (H L S A t : Int) : Int × Bool :=
  if (nowP H S A t).1 < L.toNat then (0, true)
  else if (9223372036854775807 - (nowP H S A t).2) / H < (lv (nowP H S A t).1 L.toNat : Nat) then (0, false)
  else if 9223372036854775807 < (nowP H S A t).2 + (lv (nowP H S A t).1 L.toNat : Nat) * H - t then (0, false)
  else ((nowP H S A t).2 + (lv (nowP H S A t).1 L.toNat : Nat) * H - t, true)

theorem ne0_fine (s : Nat) (h : s < infB) (h0 : 0 < s) : (FloatKind.f64.format.order s 0 != some Ordering.eq) = true := by
  have : Ieee.double.order s 0 = some (compare s 0) := order_fin s 0 h (by decide)
  show (Ieee.double.order s 0 != some Ordering.eq) = true
  rw [this]
  show (some (compareOfLessAndEq s 0) != some Ordering.eq) = true
  unfold compareOfLessAndEq
  rw [if_neg (by omega), if_neg (by omega)]; rfl
set_option maxHeartbeats 2000000 in
set_option maxRecDepth 100000 in
theorem wait_fine (H L S A t : Int) (w : World) (f : Fits H S A t) (hs : (nowP H S A t).1 < infB) (hH : 1 ≤ H) (hL0 : 0 ≤ L) (hL1 : 1 ≤ L) (hL2 : L < 9218868437227405312) (hat : -9223372036854775808 ≤ (nowP H S A t).2 ∧ (nowP H S A t).2 ≤ 9223372036854775807) (htl : -9223372036854775808 ≤ t) (hge : t < (nowP H S A t).2 + H) :
    Calls Try.prog 13 #[.agg #[.int .i64 H, .int .u64 L], .agg #[.int .u64 S, .int .i64 A], .int .i64 t] w fun e w' => e = .returned (.tuple #[.int .i64 (waitP H L S A t).1, .bool (waitP H L S A t).2]) ∧ Below w.heap.size w w' := by
  have hn := fun w => now_all H L S A t w f
  have hin := fun w => isinf_any (nowP H S A t).1 w (Nat.lt_trans hs (by decide))
  have ht := f.t
  have hHu := f.h
  unfold waitP
  generalize (nowP H S A t).1 = s at *
  generalize (nowP H S A t).2 = at' at *
  obtain ⟨l, rfl⟩ : ∃ l : Nat, L = l := ⟨L.toNat, by omega⟩
  have hl : l < infB := by unfold infB; omega
  rw [Int.toNat_natCast]
  have hgf := geB_fine s l hs hl
  clear f hL2 hL0
  have q25 := run25
  have hmod : decide (s % 9223372036854775808 = 9218868437227405312) = false := decide_eq_false (by have := Nat.mod_le s 9223372036854775808; unfold infB at hs; omega)
  have hd : decide (H < 1) = false := decide_eq_false (by omega)
  by_cases h1 : s < l
  · rw [if_pos h1]
    have hg : (FloatKind.f64.format.order s l == some Ordering.gt || FloatKind.f64.format.order s l == some Ordering.eq) = false := by
      rw [decide_eq_false (by omega)] at hgf; exact hgf
    clear hgf hin
    go_enter Try.func13, Try.ntmps13
    go_wp2_with (go_at_call 29; refine (hn _).mono ?_; rintro e w1 ⟨rfl, hb⟩; obtain ⟨hc, hfz⟩ := bcell hb; have hz : w.heap.size + 1 < w1.heap.size := by have := hb.size; simp at this; omega)
    go_ret2
    exact ⟨rfl, by repeat (first | exact Below.refl _ _ | apply below_alloc | apply pw_below_drewN | apply below_drew1 | refine below_step ?_ hb)⟩
  · rw [if_neg h1]
    obtain ⟨N, hN0⟩ : ∃ N, N = lv s l := ⟨_, rfl⟩
    rw [← hN0]
    obtain ⟨r, hr0⟩ : ∃ r : Int × Bool, r = (if (9223372036854775807 - at') / H < (N : Int) then (0, false) else if 9223372036854775807 < at' + (N : Int) * H - t then (0, false) else (at' + (N : Int) * H - t, true)) := ⟨_, rfl⟩
    rw [← hr0]
    have hr := Lib.hid hr0
    clear hr0
    have hNs : N ≤ s := by rw [hN0]; exact lv_le s l (by omega)
    have hN := Lib.hid hN0
    clear hN0
    have hNb : (N : Int) < 9218868437227405312 := by unfold infB at hs; omega
    have hg : (FloatKind.f64.format.order s l == some Ordering.gt || FloatKind.f64.format.order s l == some Ordering.eq) = true := by
      rw [decide_eq_true (by omega)] at hgf; exact hgf
    clear hgf
    go_enter Try.func13, Try.ntmps13
    go_wp2_with (first | (go_at_call 29; refine (hn _).mono ?_; rintro e w1 ⟨rfl, hb⟩; obtain ⟨hc, hfz⟩ := bcell hb; have hz : w.heap.size + 1 < w1.heap.size := by have := hb.size; simp at this; omega) | (go_at_call 26; refine (hin _).mono ?_; rintro e w' ⟨rfl, rfl⟩))
    go_loopg [8, 11] s (fun kq v8 v11 w' => ∃ (s' n : Nat), v8 = .float .f64 s' ∧ v11 = .int .u64 n ∧ s' = kq ∧ s' < infB ∧ Hid (n + lv s' l = N) ∧ w' = w1)
    case atStart => exact ⟨s, 0, rfl, rfl, rfl, hs, Lib.hid (by have := hN.out; omega), rfl⟩
    case round =>
      obtain ⟨s', n, rfl, rfl, hkq, hs', hlv, rfl⟩ := hrel
      have hgf := geB_fine s' l hs' hl
      by_cases h3 : s' < l
      · have hg2 : (FloatKind.f64.format.order s' l == some Ordering.gt || FloatKind.f64.format.order s' l == some Ordering.eq) = false := by
          rw [decide_eq_false (by omega)] at hgf; exact hgf
        obtain rfl : n = N := by have := hlv.out; rw [lv_stop s' l h3] at this; omega
        clear hgf hlv hin hg hmod hkq hNs
        have hmul : 0 ≤ (n : Int) * H := Int.mul_nonneg (by omega) (by omega)
        by_cases b1 : (9223372036854775807 - at') / H < (n : Int)
        · have hre := Lib.hid (show r = (0, false) by rw [hr.out, if_pos b1])
          have hb1 := Lib.hid b1
          clear hmul hr hN b1 hNb hs hs' hl h3 hge
          have hq : at' < 0 → 9223372036854775807 + -(at' + 1) + 1 = 9223372036854775807 - at' := fun _ => by omega
          by_cases ha : at' < 0
          · have hna : decide (at' < 0) = true := decide_eq_true ha
            replace hq := hq ha
            go_wp2_with fail
            all_goals first | (exfalso; have := hb1.out; omega) | (go_ret2; exact ⟨by rw [hre.out]; rfl, by repeat (first | exact Below.refl _ _ | apply below_alloc | apply pw_below_drewN | apply below_drew1 | refine below_step ?_ hb)⟩)
          · have hna : decide (at' < 0) = false := decide_eq_false ha
            clear hq
            go_wp2_with fail
            all_goals first | (exfalso; have := hb1.out; omega) | (go_ret2; exact ⟨by rw [hre.out]; rfl, by repeat (first | exact Below.refl _ _ | apply below_alloc | apply pw_below_drewN | apply below_drew1 | refine below_step ?_ hb)⟩)
        · have hle : (n : Int) * H ≤ 9223372036854775807 - at' := by
            have h5 : (n : Int) ≤ (9223372036854775807 - at') / H := by omega
            exact Int.le_trans (Int.mul_le_mul_of_nonneg_right h5 (by omega)) (Int.ediv_mul_le _ (by omega))
          have hn1 : H ≤ (n : Int) * H := by
            have h6 : (1 : Int) ≤ n := by have := hN.out; rw [lv_step s l (by omega) (by omega)] at this; omega
            have := Int.mul_le_mul_of_nonneg_right h6 (show 0 ≤ H by omega)
            omega
          have hE : IntKind.u64.wrap (IntKind.u64.wrap (wrap64 (at' + wrap64 (IntKind.u64.wrap ((n : Int) * H)))) - IntKind.u64.wrap t) = at' + (n : Int) * H - t := by
            rw [IntKind.wrap_u64, IntKind.wrap_u64, IntKind.wrap_u64, IntKind.wrap_u64]; unfold wrap64
            generalize (n : Int) * H = x at *
            omega
          have hb1 := Lib.hid b1
          have hlow := Lib.hid (show 0 ≤ at' + (n : Int) * H - t by omega)
          clear hmul hle hn1 hN b1
          by_cases b2 : 9223372036854775807 < at' + (n : Int) * H - t
          · have hre := Lib.hid (show r = (0, false) by rw [hr.out, if_neg hb1.out, if_pos b2])
            have hb2 := Lib.hid b2
            clear hr b2 hNb hs hs' hl h3 hge
            have hq : at' < 0 → 9223372036854775807 + -(at' + 1) + 1 = 9223372036854775807 - at' := fun _ => by omega
            by_cases ha : at' < 0
            · have hna : decide (at' < 0) = true := decide_eq_true ha
              replace hq := hq ha
              go_wp2_with fail
              all_goals first | (exfalso; have := hb1.out; have := hb2.out; omega) | (go_ret2; exact ⟨by rw [hre.out]; rfl, by repeat (first | exact Below.refl _ _ | apply below_alloc | apply pw_below_drewN | apply below_drew1 | refine below_step ?_ hb)⟩)
            · have hna : decide (at' < 0) = false := decide_eq_false ha
              clear hq
              go_wp2_with fail
              all_goals first | (exfalso; have := hb1.out; have := hb2.out; omega) | (go_ret2; exact ⟨by rw [hre.out]; rfl, by repeat (first | exact Below.refl _ _ | apply below_alloc | apply pw_below_drewN | apply below_drew1 | refine below_step ?_ hb)⟩)
          · have hre := Lib.hid (show r = (at' + (n : Int) * H - t, true) by rw [hr.out, if_neg hb1.out, if_neg b2])
            have hb2 := Lib.hid b2
            clear b2 hr hNb hs hs' hl h3 hge
            have hq : at' < 0 → 9223372036854775807 + -(at' + 1) + 1 = 9223372036854775807 - at' := fun _ => by omega
            by_cases ha : at' < 0
            · have hna : decide (at' < 0) = true := decide_eq_true ha
              replace hq := hq ha
              go_wp2_with fail
              all_goals first | (exfalso; have := hb1.out; have := hb2.out; omega) | (go_ret2; exact ⟨by rw [hre.out]; show Ending.returned (.tuple #[.int .i64 (wrap64 (at' + (n : Int) * H - t)), .bool true]) = _; rw [wrap64_eq _ (by have := hlow.out; omega) (by have := hb2.out; omega)], by repeat (first | exact Below.refl _ _ | apply below_alloc | apply pw_below_drewN | apply below_drew1 | refine below_step ?_ hb)⟩)
            · have hna : decide (at' < 0) = false := decide_eq_false ha
              clear hq
              go_wp2_with fail
              all_goals first | (exfalso; have := hb1.out; have := hb2.out; omega) | (go_ret2; exact ⟨by rw [hre.out]; show Ending.returned (.tuple #[.int .i64 (wrap64 (at' + (n : Int) * H - t)), .bool true]) = _; rw [wrap64_eq _ (by have := hlow.out; omega) (by have := hb2.out; omega)], by repeat (first | exact Below.refl _ _ | apply below_alloc | apply pw_below_drewN | apply below_drew1 | refine below_step ?_ hb)⟩)
      · have hg2 : (FloatKind.f64.format.order s' l == some Ordering.gt || FloatKind.f64.format.order s' l == some Ordering.eq) = true := by
          rw [decide_eq_true (by omega)] at hgf; exact hgf
        have h0 : 0 < s' := by omega
        have g1 := ne0_fine s' hs' h0
        have g3 := mulhalf_run s' hs'
        have hst := lv_step s' l (by omega) (by omega)
        have g4 : IntKind.u64.wrap ((n : Int) + 1) = ((n + 1 : Nat) : Int) := by
          rw [IntKind.wrap_u64]; have := hlv.out; omega
        have g5 := Lib.hid (show (n + 1) + lv (halfN s') l = N by have := hlv.out; omega)
        have g6 := Lib.hid (show halfN s' < gk by have := halfN_le s' h0; omega)
        have g7 := Lib.hid (halfN_lt s' hs')
        clear hgf hlv hin hg hmod hkq hN hNs hst h0 h3 hr
        go_wp2_with fail
        go_roundg (halfN s')
        case measure => exact g6.out
        case rel => exact ⟨halfN s', n + 1, rfl, rfl, rfl, g7.out, g5, rfl⟩
end Go.Proofs.Ytflkkkkbbgfbdaa
