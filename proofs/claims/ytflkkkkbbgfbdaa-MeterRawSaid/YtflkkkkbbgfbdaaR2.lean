/- The law MeterRaw of the given program answers true: whatever configuration and meter there are, every call of package meter ends. No conditions. (The law's own walk.) -/
import Derived.Test.YtflkkkkbbgfbdaaR
import Derived.Test.YtflkkkkbbgfbdaaG
import Derived.Test.YtflkkkkbbgfbdaaRD
import Derived.Test.YtflkkkkbbgfbdaaPMeterRawx2
namespace Go.Proofs.Ytflkkkkbbgfbdaa.PMeterRaw
open Go.RowKit Flt Go.Proofs.YtflkkkkbbgfbdaaW.PrintWords Go.Proofs.YtflkkkkbbgfbdaaW.PrintLast Go.Proofs.YtflkkkkbbgfbdaaW.PrintMore
set_option linter.unusedVariables false

theorem blk_new (w : World) (o : Obj) : (w.alloc o).heap[w.heap.size]? = some o := by
  show (w.heap.push o)[w.heap.size]? = some o
  rw [Array.getElem?_push, if_pos rfl]
theorem wakes_true : posternlaw8_wakes.f = some true := by decide +kernel
theorem halfN_lt64 (k : Nat) : ∀ s, s < 18446744073709551616 → nl k s < 18446744073709551616 := by
  induction k with
  | zero => intro s h; exact h
  | succ k ih =>
    intro s h
    simp only [nl]
    split
    · rename_i hc; exact ih _ (Nat.lt_trans (halfN_lt s hc.2) (by decide))
    · exact h
theorem nowP_lt64 (H S A t : Int) (f : Fits H S A t) : (nowP H S A t).1 < 18446744073709551616 := by
  have h1 := f.s0; have h2 := f.s
  unfold nowP
  split
  · exact halfN_lt64 _ _ (by omega)
  · show S.toNat < _
    omega
theorem locked_raw (H L S A t : Int) (w : World) (f : Fits H S A t) :
    Calls Try.prog 14 #[.agg #[.int .i64 H, .int .u64 L], .agg #[.int .u64 S, .int .i64 A], .int .i64 t] w fun e w' => SomeRet e ∧ Below w.heap.size w w' :=
  (locked_any H L S A t w f).mono fun _ _ h => ⟨⟨_, h.1⟩, h.2⟩
theorem now_raw (H L S A t : Int) (w : World) (f : Fits H S A t) :
    Calls Try.prog 17 #[.agg #[.int .i64 H, .int .u64 L], .agg #[.int .u64 S, .int .i64 A], .int .i64 t] w fun e w' => SomeRet e ∧ Below w.heap.size w w' :=
  (mnow_any H L S A t w f).mono fun _ _ h => ⟨⟨_, h.1⟩, h.2⟩
theorem check_raw (H L : Int) (w : World) (hL : 0 ≤ L) (hL2 : L < 18446744073709551616) :
    Calls Try.prog 9 #[.agg #[.int .i64 H, .int .u64 L]] w fun e w' => SomeRet e ∧ Below w.heap.size w w' :=
  (check_any H L w hL hL2).mono fun _ _ h => ⟨⟨_, h.1⟩, h.2⟩

set_option maxHeartbeats 2000000 in
set_option maxRecDepth 100000 in
theorem law_walk (H L : Int) (l : List S46) (A : Option Addr) (c : Nat) (w : World) (hr : Kd.C k46 w A l.length l) (hc : l.length ≤ c) (hH : -9223372036854775808 ≤ H ∧ H ≤ 9223372036854775807) (hL : 0 ≤ L ∧ L < 18446744073709551616)
    (hl : l.length ≤ 140737488351232)
    (hw : ∀ x ∈ l, (-9223372036854775808 ≤ x.f1 ∧ x.f1 ≤ 9223372036854775807) ∧ (0 ≤ x.f2.f0 ∧ x.f2.f0 < 18446744073709551616) ∧ (-9223372036854775808 ≤ x.f2.f1 ∧ x.f2.f1 ≤ 9223372036854775807)) :
    Calls Try.prog 6 #[.agg #[.int .i64 H, .int .u64 L, .slice A l.length c]] w fun e w' => e = .returned (.bool true) ∧ Below w.heap.size w w' := by
  have hu43 := Try.underlying43
  have hu46 := Try.underlying46
  have hu28 := Try.underlying28
  have hu33 := Try.underlying33
  have hR := Aside0.mk hr
  have hW := Aside0.mk hw
  clear hr hw
  go_enter Try.func6, Try.ntmps6
  go_wp2
  go_loopg [3] l.length (fun kq v3 w' => ∃ k : Nat, v3 = .int .i64 k ∧ k ≤ l.length ∧ Hid (k + kq = l.length) ∧ Aside0 (w'.heap[w.heap.size]? = some (.cells #[.int .i64 H, .int .u64 L, .slice A l.length c] 43 (0, 0))) ∧ Aside0 (Below w.heap.size w w'))
  case atStart =>
    exact ⟨0, rfl, Nat.zero_le _, Lib.hid (by omega), ⟨blk_new w _⟩, ⟨by repeat (first | exact Below.refl _ _ | apply below_alloc)⟩⟩
  case round =>
    obtain ⟨k, rfl, hk, hkq, hB, hBel⟩ := hrel
    have b0 : wr.cell? ⟨w.heap.size, 0, none⟩ = some (.int .i64 H) := (blk_cell hB.out 0).trans rfl
    have b1 : wr.cell? ⟨w.heap.size, 1, none⟩ = some (.int .u64 L) := (blk_cell hB.out 1).trans rfl
    have b2 : wr.cell? ⟨w.heap.size, 2, none⟩ = some (.slice A l.length c) := (blk_cell hB.out 2).trans rfl
    have hlt0 : w.heap.size < wr.heap.size := blk_lt hB.out
    by_cases hc1 : k < l.length ∧ k < 200
    · obtain ⟨hc1, hc2⟩ := hc1
      have C' := Kd.C_below hR.out hBel.out
      obtain ⟨ad, rfl, x0, x1, x2, x3⟩ := at_T46 C' (k : Int) (by omega) (by omega)
      have xm : rd_T46 l (k : Int) ∈ l := by
        unfold rd_T46
        rw [List.getD_eq_getElem?_getD, List.getElem?_eq_getElem (show (k : Int).toNat < l.length by omega)]
        exact List.getElem_mem _
      obtain ⟨ht, hS, hAt⟩ := hW.out _ xm
      have hadl : (ad.add ((k : Int).toNat * 4)).block < wr.heap.size := World.block_lt_of_cell? wr _ x0
      have hkn : (k : Int).toNat = k := rfl
      rw [hkn] at x0 x1 x2 x3 hadl
      have f : Fits H (rd_T46 l (k : Int)).f2.f0 (rd_T46 l (k : Int)).f2.f1 (rd_T46 l (k : Int)).f1 := ⟨hAt.1, ht.2, hH.2, hS.1, hS.2⟩
      generalize rd_T46 l (k : Int) = o at *
      have c9 := fun w => check_raw H L w hL.1 hL.2
      have c17 := fun w => now_raw H L o.f2.f0 o.f2.f1 o.f1 w f
      have c19 := fun w => fail_raw H L o.f2.f0 o.f2.f1 o.f1 w f
      have c21 := fun w => pass_raw H L o.f2.f0 o.f2.f1 o.f1 w f
      have c14 := fun w => locked_raw H L o.f2.f0 o.f2.f1 o.f1 w f
      have c13 := fun w => wait_raw H L o.f2.f0 o.f2.f1 o.f1 w f (nowP_lt64 _ _ _ _ f)
      clear hH hL hl ht hS hAt f xm C' hR hW hc
      have p1 : (k : Int) < (l.length : Int) := by omega
      have p2 : (k : Int) < 200 := by omega
      go_wp2_with (first | (go_at_call 9; refine (c9 _).mono ?_; rintro e wa ⟨⟨v, rfl⟩, hb⟩; obtain ⟨hc_, hfz_⟩ := bcell hb; have hz_ : w.heap.size < wa.heap.size := (by first | (have := hb.size; omega) | (have := hb.size; simp at this; omega)); have hy_ : wr.heap.size < wa.heap.size := (by first | (have := hb.size; omega) | (have := hb.size; simp at this; omega))) | (go_at_call 17; refine (c17 _).mono ?_; rintro e wa ⟨⟨v, rfl⟩, hb⟩; obtain ⟨hc_, hfz_⟩ := bcell hb; have hz_ : w.heap.size < wa.heap.size := (by first | (have := hb.size; omega) | (have := hb.size; simp at this; omega)); have hy_ : wr.heap.size < wa.heap.size := (by first | (have := hb.size; omega) | (have := hb.size; simp at this; omega))) | (go_at_call 19; refine (c19 _).mono ?_; rintro e wa ⟨⟨v, rfl⟩, hb⟩; obtain ⟨hc_, hfz_⟩ := bcell hb; have hz_ : w.heap.size < wa.heap.size := (by first | (have := hb.size; omega) | (have := hb.size; simp at this; omega)); have hy_ : wr.heap.size < wa.heap.size := (by first | (have := hb.size; omega) | (have := hb.size; simp at this; omega))) | (go_at_call 21; refine (c21 _).mono ?_; rintro e wa ⟨⟨v, rfl⟩, hb⟩; obtain ⟨hc_, hfz_⟩ := bcell hb; have hz_ : w.heap.size < wa.heap.size := (by first | (have := hb.size; omega) | (have := hb.size; simp at this; omega)); have hy_ : wr.heap.size < wa.heap.size := (by first | (have := hb.size; omega) | (have := hb.size; simp at this; omega))) | (go_at_call 14; refine (c14 _).mono ?_; rintro e wa ⟨⟨v, rfl⟩, hb⟩; obtain ⟨hc_, hfz_⟩ := bcell hb; have hz_ : w.heap.size < wa.heap.size := (by first | (have := hb.size; omega) | (have := hb.size; simp at this; omega)); have hy_ : wr.heap.size < wa.heap.size := (by first | (have := hb.size; omega) | (have := hb.size; simp at this; omega))) | (go_at_call 13; refine (c13 _).mono ?_; rintro e wa ⟨⟨v, rfl⟩, hb⟩; obtain ⟨hc_, hfz_⟩ := bcell hb; have hz_ : w.heap.size < wa.heap.size := (by first | (have := hb.size; omega) | (have := hb.size; simp at this; omega)); have hy_ : wr.heap.size < wa.heap.size := (by first | (have := hb.size; omega) | (have := hb.size; simp at this; omega))))
      go_roundg (gk - 1)
      case measure => have := hkq.out; omega
      case rel =>
        exact ⟨k + 1, by go_num, by omega, Lib.hid (by have := hkq.out; omega), ⟨by repeat (first | exact hB.out | refine blk_below ?_ (by assumption) | refine blk_alloc ?_ _ | refine blk_far ?_ (Nat.ne_of_lt hlt0) _)⟩,
          ⟨by repeat (first | exact hBel.out | apply below_alloc | refine below_set ?_ (by omega) | refine below_step ?_ (by assumption))⟩⟩
    · have wk := fun w => posternlaw8_wakes.calls true w wakes_true
      clear hW hR hH hL hl hc
      by_cases hc2 : k < l.length
      · have p1 : decide ((k : Int) < (l.length : Int)) = true := decide_eq_true (by omega)
        have p1' : decide (k < l.length) = true := decide_eq_true hc2
        have p2 : decide ((k : Int) < 200) = false := decide_eq_false (by omega)
        clear hc1 hc2
        go_wp2_with (go_at_call 11; refine (wk _).mono ?_; rintro e wa ⟨rfl, hb⟩)
        go_ret
        exact ⟨rfl, by repeat (first | exact hBel.out | refine below_step ?_ hb)⟩
      · have p1 : decide ((k : Int) < (l.length : Int)) = false := decide_eq_false (by omega)
        have p1' : decide (k < l.length) = false := decide_eq_false hc2
        clear hc1 hc2
        go_wp2_with (go_at_call 11; refine (wk _).mono ?_; rintro e wa ⟨rfl, hb⟩)
        go_ret
        exact ⟨rfl, by repeat (first | exact hBel.out | refine below_step ?_ hb)⟩

/-- What the law tells: true, if all numbers are of their kinds. -/
def posternlaw8_MeterRaw.f (a0_0 a0_1 : Int) (l0_2 : List S46) : Option Bool :=
  if ((-9223372036854775808 ≤ a0_0 ∧ a0_0 ≤ 9223372036854775807) ∧ (0 ≤ a0_1 ∧ a0_1 < 18446744073709551616) ∧ l0_2.length ≤ 140737488351232) ∧
    ∀ x ∈ l0_2, (-9223372036854775808 ≤ x.f1 ∧ x.f1 ≤ 9223372036854775807) ∧ (0 ≤ x.f2.f0 ∧ x.f2.f0 < 18446744073709551616) ∧ (-9223372036854775808 ≤ x.f2.f1 ∧ x.f2.f1 ≤ 9223372036854775807) then some true else none
theorem posternlaw8_MeterRaw.calls (a0_0 a0_1 : Int) (A0_2 : Option Addr) (c0_2 : Nat) (l0_2 : List S46) (r : Bool) (w : World) (hr0_2 : Kd.C k46 w A0_2 l0_2.length l0_2) (hc0_2 : l0_2.length ≤ c0_2) (h : posternlaw8_MeterRaw.f a0_0 a0_1 l0_2 = some r) :
    Calls Try.prog 6 #[.agg #[.int .i64 a0_0, .int .u64 a0_1, .slice A0_2 l0_2.length c0_2]] w fun e w' => e = .returned (.bool r) ∧ Below w.heap.size w w' := by
  unfold posternlaw8_MeterRaw.f at h
  split at h
  · rename_i hc
    obtain rfl := Option.some.inj h
    exact law_walk a0_0 a0_1 l0_2 A0_2 c0_2 w hr0_2 hc0_2 hc.1.1 hc.1.2.1 hc.1.2.2 hc.2
  · cases h
end Go.Proofs.Ytflkkkkbbgfbdaa.PMeterRaw
