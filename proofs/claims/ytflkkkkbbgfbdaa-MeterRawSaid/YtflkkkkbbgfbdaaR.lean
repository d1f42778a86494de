/- The law MeterRaw of the given program answers true: whatever configuration and meter there are, every call of package meter ends. No conditions. (The walks.) -/
import Derived.Test.YtflkkkkbbgfbdaaE
import Derived.Laws.NewFold
namespace Go.Proofs.Ytflkkkkbbgfbdaa
open Go.RowKit Flt Go.Proofs.YtflkkkkbbgfbdaaW.PrintWords
open Ieee in
section
/-- what reaches a limit is no NaN: a sign and a finite magnitude, or an infinity -/
theorem geB_form (n l : Nat) (h : n < 18446744073709551616) (hg : geB n l = true) : n % 9223372036854775808 ≤ infB := by
  by_cases hc : n % 9223372036854775808 ≤ infB
  · exact hc
  · have hw := word_of n h
    have := read_nan (decide (9223372036854775808 ≤ n)) (n % 9223372036854775808) (by omega) (by omega)
    rw [← hw] at this
    unfold geB Ieee.Format.order at hg
    rw [this] at hg
    cases hr : Ieee.double.read l <;> rw [hr] at hg <;> cases hg
/-- a zero of either sign is 0 -/
theorem eq0_zero (s : Bool) : (Ieee.double.order (Ieee.double.word s 0) 0 != some Ordering.eq) = false := by cases s <;> decide
theorem word_lt64 (s : Bool) (r : Nat) (h : r < infB) : Ieee.double.word s r < 18446744073709551616 := by
  have e0 : Ieee.double.signWeight = 9223372036854775808 := by decide
  unfold Ieee.Format.word
  rw [e0]
  unfold infB at h
  split <;> omega

end

/-- It returns, whatever it tells. -/
def SomeRet (e : Ending) : Prop := ∃ v, e = .returned v

/-- a float operation, whatever the numbers are: some float, in a world in which nothing that was there is another -/
theorem arith_run (op : BinOp) (s c : Nat) (hop : op = .add ∨ op = .mul) (w : World) : ∃ r w', (binOp op 50 (.float .f64 s) (.float .f64 c)).run Try.prog w = .ok (.float .f64 r) w' ∧ Below w.heap.size w w' := by
  cases hf : floatBits op .f64 s c with
  | some r => exact ⟨r, w, run_float_arith w op 50 .f64 s c r hf, Below.refl _ _⟩
  | none =>
    unfold floatBits at hf
    rcases hop with rfl | rfl
    all_goals
      simp only at hf
      refine ⟨_, _, by simp [binOp, Op.floatArith, hf]; rfl, ?_⟩
      exact below_drew (Below.refl _ _)
theorem arith_fn (op : BinOp) (s c : Nat) (hop : op = .add ∨ op = .mul) : ∃ (R : World → Nat) (V : World → World), (∀ w, (binOp op 50 (.float .f64 s) (.float .f64 c)).run Try.prog w = .ok (.float .f64 (R w)) (V w)) ∧ ∀ w, Below w.heap.size w (V w) :=
  ⟨fun w => Classical.choose (arith_run op s c hop w), fun w => Classical.choose (Classical.choose_spec (arith_run op s c hop w)),
    fun w => (Classical.choose_spec (Classical.choose_spec (arith_run op s c hop w))).1, fun w => (Classical.choose_spec (Classical.choose_spec (arith_run op s c hop w))).2⟩

set_option maxHeartbeats 1000000 in
theorem fail_raw (H L S A t : Int) (w : World) (f : Fits H S A t) :
    Calls Try.prog 19 #[.agg #[.int .i64 H, .int .u64 L], .agg #[.int .u64 S, .int .i64 A], .int .i64 t] w fun e w' => SomeRet e ∧ Below w.heap.size w w' := by
  have hn := fun w => now_all H L S A t w f
  generalize (nowP H S A t).1 = s at *
  generalize (nowP H S A t).2 = at' at *
  obtain ⟨R, V, g, hV⟩ := arith_fn .add s 4607182418800017408 (.inl rfl)
  clear f
  go_enter Try.func19, Try.ntmps19
  go_wp2_with (first | (go_at_call 29; refine (hn _).mono ?_; rintro e w1 ⟨rfl, hb⟩; obtain ⟨hc, hfz⟩ := bcell hb; have hz : w.heap.size + 2 < w1.heap.size := (by have := hb.size; simp at this; omega); have hz2 : w.heap.size + 2 < (V w1).heap.size := (by have := (hV w1).size; omega); have hv1 := hV w1; obtain ⟨hcv, hfv⟩ := bcell hv1) | (go_at_call 31; refine (meter_any _ _ _).mono ?_; rintro e w2 ⟨rfl, hb2⟩; obtain ⟨hc2, hfz2⟩ := bcell hb2))
  exact bodyPost_ret (v := .agg #[.int .u64 (R w1 : Nat), .int .i64 at']) (by simp [results, Try.results19, go_sem, hc2, hc, hz, hz2, hcv]) rfl ⟨⟨_, rfl⟩, by repeat (first | exact Below.refl _ _ | apply below_alloc | apply pw_below_drewN | apply below_drew1 | refine below_set ?_ (by omega) | refine below_step ?_ hb2 | refine below_step ?_ hv1 | refine below_step ?_ hb)⟩
set_option maxHeartbeats 1000000 in
theorem pass_raw (H L S A t : Int) (w : World) (f : Fits H S A t) :
    Calls Try.prog 21 #[.agg #[.int .i64 H, .int .u64 L], .agg #[.int .u64 S, .int .i64 A], .int .i64 t] w fun e w' => SomeRet e ∧ Below w.heap.size w w' := by
  have hn := fun w => now_all H L S A t w f
  generalize (nowP H S A t).1 = s at *
  generalize (nowP H S A t).2 = at' at *
  obtain ⟨R, V, g, hV⟩ := arith_fn .mul s 4598175219545276416 (.inr rfl)
  clear f
  go_enter Try.func21, Try.ntmps21
  go_wp2_with (first | (go_at_call 29; refine (hn _).mono ?_; rintro e w1 ⟨rfl, hb⟩; obtain ⟨hc, hfz⟩ := bcell hb; have hz : w.heap.size + 2 < w1.heap.size := (by have := hb.size; simp at this; omega); have hz2 : w.heap.size + 2 < (V w1).heap.size := (by have := (hV w1).size; omega); have hv1 := hV w1; obtain ⟨hcv, hfv⟩ := bcell hv1) | (go_at_call 31; refine (meter_any _ _ _).mono ?_; rintro e w2 ⟨rfl, hb2⟩; obtain ⟨hc2, hfz2⟩ := bcell hb2))
  exact bodyPost_ret (v := .agg #[.int .u64 (R w1 : Nat), .int .i64 at']) (by simp [results, Try.results21, go_sem, hc2, hc, hz, hz2, hcv]) rfl ⟨⟨_, rfl⟩, by repeat (first | exact Below.refl _ _ | apply below_alloc | apply pw_below_drewN | apply below_drew1 | refine below_set ?_ (by omega) | refine below_step ?_ hb2 | refine below_step ?_ hv1 | refine below_step ?_ hb)⟩

theorem mulhalf_sg (sg : Bool) (r : Nat) (h : r < infB) (w : World) : (binOp .mul 50 (.float .f64 (Ieee.double.word sg r)) (.float .f64 4602678819172646912)).run Try.prog w = .ok (.float .f64 (Ieee.double.word sg (halfN r))) w :=
  run_float_arith w .mul 50 .f64 _ _ _ (by unfold floatBits; exact mul_half sg r h)
set_option maxHeartbeats 2000000 in
set_option maxRecDepth 100000 in
theorem wait_raw (H L S A t : Int) (w : World) (f : Fits H S A t) (hs : (nowP H S A t).1 < 18446744073709551616) :
    Calls Try.prog 13 #[.agg #[.int .i64 H, .int .u64 L], .agg #[.int .u64 S, .int .i64 A], .int .i64 t] w fun e w' => SomeRet e ∧ Below w.heap.size w w' := by
  have hn := fun w => now_all H L S A t w f
  have hin := fun w => isinf_any (nowP H S A t).1 w hs
  have hHu := f.h
  generalize (nowP H S A t).1 = s at *
  generalize (nowP H S A t).2 = at' at *
  obtain ⟨l, hl⟩ : ∃ l : Nat, l = L.toNat := ⟨_, rfl⟩
  have hll := Lib.hid hl
  clear f hl
  have q25 : ∀ w, (callFunc 25 #[.int .u64 L]).run Try.prog w = .ok (.value (.float .f64 l)) w := fun w => by rw [hll.out]; exact run25 L w
  have hfm := geB_form s l hs
  by_cases h1 : geB s l = true
  · have hg : (FloatKind.f64.format.order s l == some Ordering.gt || FloatKind.f64.format.order s l == some Ordering.eq) = true := h1
    by_cases h2 : H < 1
    · have hd : decide (H < 1) = true := decide_eq_true h2
      clear hfm h1 hin
      go_enter Try.func13, Try.ntmps13
      go_wp2_with (go_at_call 29; refine (hn _).mono ?_; rintro e w1 ⟨rfl, hb⟩; obtain ⟨hc, hfz⟩ := bcell hb; have hz : w.heap.size + 1 < w1.heap.size := (by have := hb.size; simp at this; omega))
      go_ret2
      exact ⟨⟨_, rfl⟩, by repeat (first | exact Below.refl _ _ | apply below_alloc | apply pw_below_drewN | apply below_drew1 | refine below_step ?_ hb)⟩
    · have hd : decide (H < 1) = false := decide_eq_false h2
      by_cases h3 : s % 9223372036854775808 = 9218868437227405312
      · have hm : decide (s % 9223372036854775808 = 9218868437227405312) = true := decide_eq_true h3
        clear hfm h1 h3
        go_enter Try.func13, Try.ntmps13
        go_wp2_with (first | (go_at_call 29; refine (hn _).mono ?_; rintro e w1 ⟨rfl, hb⟩; obtain ⟨hc, hfz⟩ := bcell hb; have hz : w.heap.size + 1 < w1.heap.size := (by have := hb.size; simp at this; omega)) | (go_at_call 26; refine (hin _).mono ?_; rintro e w' ⟨rfl, rfl⟩))
        go_ret2
        exact ⟨⟨_, rfl⟩, by repeat (first | exact Below.refl _ _ | apply below_alloc | apply pw_below_drewN | apply below_drew1 | refine below_step ?_ hb)⟩
      · have hm : decide (s % 9223372036854775808 = 9218868437227405312) = false := decide_eq_false h3
        have hr0 := Lib.hid (show s % 9223372036854775808 < infB by have := hfm h1; unfold infB at *; omega)
        have hw0 := Lib.hid (word_of s hs)
        clear hfm h1 h3
        go_enter Try.func13, Try.ntmps13
        go_wp2_with (first | (go_at_call 29; refine (hn _).mono ?_; rintro e w1 ⟨rfl, hb⟩; obtain ⟨hc, hfz⟩ := bcell hb; have hz : w.heap.size + 1 < w1.heap.size := (by have := hb.size; simp at this; omega)) | (go_at_call 26; refine (hin _).mono ?_; rintro e w' ⟨rfl, rfl⟩))
        go_loopg [8, 11] (s % 9223372036854775808) (fun kq v8 v11 w' => ∃ (sg : Bool) (r : Nat) (n : Int), v8 = .float .f64 (Ieee.double.word sg r) ∧ v11 = .int .u64 n ∧ r = kq ∧ Hid (r < infB) ∧ w' = w1)
        case atStart => exact ⟨decide (9223372036854775808 ≤ s), s % 9223372036854775808, 0, by rw [← hw0.out], rfl, rfl, hr0, rfl⟩
        case round =>
          obtain ⟨sg, r, n, rfl, rfl, hkq, hr, rfl⟩ := hrel
          clear hg hm hr0 hw0 hin hs
          have hkq' := Lib.hid hkq
          clear hkq
          have hz0 := eq0_zero sg
          have g3 := mulhalf_sg sg r hr.out
          have hpos := Lib.hid (halfN_le r)
          have hlt := Lib.hid (halfN_lt r hr.out)
          by_cases hr1 : r = 0
          · subst hr1
            clear hr g3
            generalize Ieee.double.word sg 0 = x at *
            by_cases h4 : (FloatKind.f64.format.order x l == some Ordering.gt || FloatKind.f64.format.order x l == some Ordering.eq) = true
            · have hz1 : (FloatKind.f64.format.order x 0 != some Ordering.eq) = false := hz0
              clear hz0
              clear hpos hlt hkq'
              go_wp2_with fail
              all_goals (go_ret2; exact ⟨⟨_, rfl⟩, by repeat (first | exact Below.refl _ _ | apply below_alloc | apply pw_below_drewN | apply below_drew1 | refine below_step ?_ hb)⟩)
            · have h5 : (FloatKind.f64.format.order x l == some Ordering.gt || FloatKind.f64.format.order x l == some Ordering.eq) = false := by simpa using h4
              clear hz0 h4 hpos hlt hkq'
              go_wp2_with fail
              all_goals (go_ret2; exact ⟨⟨_, rfl⟩, by repeat (first | exact Below.refl _ _ | apply below_alloc | apply pw_below_drewN | apply below_drew1 | refine below_step ?_ hb)⟩)
          · have hrp := Lib.hid (show 0 < r by omega)
            clear hz0 hr1
            generalize hx : Ieee.double.word sg r = x at *
            have hx' := Lib.hid hx
            clear hx
            by_cases h4 : (FloatKind.f64.format.order x l == some Ordering.gt || FloatKind.f64.format.order x l == some Ordering.eq) = true
            · by_cases h6 : (FloatKind.f64.format.order x 0 != some Ordering.eq) = true
              · go_wp2_with fail
                go_roundg (halfN r)
                case measure => have := hpos.out hrp.out; have := hkq'.out; omega
                case rel => exact ⟨sg, halfN r, _, rfl, rfl, rfl, Lib.hid hlt.out, rfl⟩
              · have h7 : (FloatKind.f64.format.order x 0 != some Ordering.eq) = false := by simpa using h6
                clear h6 g3 hpos hlt hkq' hrp hx' hr
                go_wp2_with fail
                all_goals (go_ret2; exact ⟨⟨_, rfl⟩, by repeat (first | exact Below.refl _ _ | apply below_alloc | apply pw_below_drewN | apply below_drew1 | refine below_step ?_ hb)⟩)
            · have h5 : (FloatKind.f64.format.order x l == some Ordering.gt || FloatKind.f64.format.order x l == some Ordering.eq) = false := by simpa using h4
              clear h4 g3 hpos hlt hkq' hrp hx' hr
              go_wp2_with fail
              all_goals (go_ret2; exact ⟨⟨_, rfl⟩, by repeat (first | exact Below.refl _ _ | apply below_alloc | apply pw_below_drewN | apply below_drew1 | refine below_step ?_ hb)⟩)
  · have hg : (FloatKind.f64.format.order s l == some Ordering.gt || FloatKind.f64.format.order s l == some Ordering.eq) = false := by
      cases hb : geB s l with
      | true => exact absurd hb h1
      | false => exact hb
    clear hfm h1 hin
    go_enter Try.func13, Try.ntmps13
    go_wp2_with (go_at_call 29; refine (hn _).mono ?_; rintro e w1 ⟨rfl, hb⟩; obtain ⟨hc, hfz⟩ := bcell hb; have hz : w.heap.size + 1 < w1.heap.size := (by have := hb.size; simp at this; omega))
    go_ret2
    exact ⟨⟨_, rfl⟩, by repeat (first | exact Below.refl _ _ | apply below_alloc | apply pw_below_drewN | apply below_drew1 | refine below_step ?_ hb)⟩
end Go.Proofs.Ytflkkkkbbgfbdaa
