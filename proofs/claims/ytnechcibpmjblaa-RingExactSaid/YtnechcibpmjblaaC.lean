/- The walks of ring.Check: whether it is a ring. Conditions: the ring's keys are read. -/
import Derived.Test.YtnechcibpmjblaaK
import Derived.WalkKit
import Derived.WalkSpells
import Derived.WalkLawsBesides
import Derived.Deep.QuietTactic
import Derived.BigQuiet
import Derived.Deep.LoopGhost
import Derived.Lib.Hide
import Derived.Test.YtnechcibpmjblaaWWords
import Derived.Test.YtnechcibpmjblaaWMore
import Derived.Test.YtnechcibpmjblaaWLast
namespace Go.Proofs.Ytnechcibpmjblaa
open Go.RowKit Go.Proofs.YtnechcibpmjblaaW.PrintWords KB
set_option linter.unusedVariables false
set_option linter.unusedSimpArgs false

def badK (ks : List Key) (i : Nat) : Bool :=
  decide ((rdK ks i).kid < 1) || (decide (0 < i) && decide ((rdK ks i).kid ≤ (rdK ks ((i : Int) - 1)).kid)) || (decide (i + 1 = ks.length) && decide ((rdK ks i).til ≠ 0)) || (decide (i + 1 ≠ ks.length) && decide ((rdK ks i).til < 1))
def checkK (ks : List Key) (next : Int) : Bool :=
  decide (1 ≤ ks.length) && decide (ks.length ≤ 8) && decide (next ≤ 9223372036854775807) && decide ((rdK ks ((ks.length : Int) - 1)).kid < next) && (List.range ks.length).all fun i => !badK ks i
def errK (ks : List Key) (next : Int) : Int := if checkK ks next then 0 else 50

theorem errK_bad {ks : List Key} {next : Int} {i : Nat} (h : i < ks.length) (hb : badK ks i = true) : errK ks next = 50 := by
  unfold errK
  rw [if_neg]
  unfold checkK
  intro hc
  simp only [Bool.and_eq_true] at hc
  have := List.all_eq_true.1 hc.2 i (List.mem_range.2 h)
  rw [hb] at this
  cases this
theorem errK_good {ks : List Key} {next : Int} {m : Nat} (h1 : ks.length = m + 1) (h8 : ¬ 8 < ks.length) (hn : ¬ 9223372036854775807 < next) (hl : ¬ next ≤ (rdK ks (m : Int)).kid) (hg : ∀ i, i < ks.length → badK ks i = false) : errK ks next = 0 := by
  unfold errK
  rw [if_pos]
  unfold checkK
  simp only [Bool.and_eq_true, decide_eq_true_iff]
  refine ⟨⟨⟨⟨by omega, by omega⟩, by omega⟩, ?_⟩, ?_⟩
  · rw [show (ks.length : Int) - 1 = m by omega]; omega
  · exact List.all_eq_true.2 fun i hi => by rw [hg i (List.mem_range.1 hi)]; rfl
theorem blk_new (w : World) (o : Obj) : (w.alloc o).heap[w.heap.size]? = some o := by
  show (w.heap.push o)[w.heap.size]? = some o
  rw [Array.getElem?_push, if_pos rfl]

set_option maxHeartbeats 2000000 in
set_option maxRecDepth 100000 in
theorem check_any (ks : List Key) (A : Option Addr) (c : Nat) (next : Int) (w : World) (hr : kKey.C w A ks.length ks) (hc : ks.length ≤ c) :
    Calls Try.prog 31 #[.agg #[.slice A ks.length c, .int .u64 next]] w fun e w' => e = .returned (.int .i64 (errK ks next)) ∧ Below w.heap.size w w' := by
  have hu107 := Try.underlying107
  have hu69 := Try.underlying69
  have hu55 := Try.underlying55
  have hz107 := zero107
  have hR := Aside0.mk hr
  have hmax := Kd.C_max hr
  clear hr
  by_cases h1 : ks.length < 1
  · have e : errK ks next = 50 := by unfold errK checkK; rw [decide_eq_false (show ¬ 1 ≤ ks.length by omega)]; rfl
    rw [e]
    have d1 : decide ((ks.length : Int) < 1) = true := decide_eq_true (by omega)
    clear e
    go_enter Try.func31, Try.ntmps31
    go_wp2
    go_quiet (fail)
    go_wp2
    go_ret
    exact ⟨rfl, by repeat (first | exact Below.refl _ _ | apply below_alloc | apply pw_below_drewN | apply below_drew1)⟩
  by_cases h2 : 8 < ks.length
  · have e : errK ks next = 50 := by unfold errK checkK; rw [decide_eq_false (show ¬ ks.length ≤ 8 by omega)]; simp
    rw [e]
    have d1 : decide ((ks.length : Int) < 1) = false := decide_eq_false (by omega)
    have d2 : decide ((8 : Int) < (ks.length : Int)) = true := decide_eq_true (by omega)
    clear e
    go_enter Try.func31, Try.ntmps31
    go_wp2
    go_quiet (fail)
    go_wp2
    go_ret
    exact ⟨rfl, by repeat (first | exact Below.refl _ _ | apply below_alloc | apply pw_below_drewN | apply below_drew1)⟩
  by_cases h3 : 9223372036854775807 < next
  · have e : errK ks next = 50 := by unfold errK checkK; rw [decide_eq_false (show ¬ next ≤ 9223372036854775807 by omega)]; simp
    rw [e]
    have d1 : decide ((ks.length : Int) < 1) = false := decide_eq_false (by omega)
    have d2 : decide ((8 : Int) < (ks.length : Int)) = false := decide_eq_false (by omega)
    have d3 : decide ((9223372036854775807 : Int) < next) = true := decide_eq_true (by omega)
    clear e
    go_enter Try.func31, Try.ntmps31
    go_wp2
    go_quiet (fail)
    go_wp2
    go_ret
    exact ⟨rfl, by repeat (first | exact Below.refl _ _ | apply below_alloc | apply pw_below_drewN | apply below_drew1)⟩
  obtain ⟨m, hm⟩ : ∃ m : Nat, ks.length = m + 1 := ⟨ks.length - 1, by omega⟩
  have hm' : (ks.length : Int) - 1 = m := by omega
  obtain ⟨ad, rfl, xm, x0, _⟩ := at_Key hR.out (m : Int) (by omega) (by omega)
  have hadl : (ad.add ((m : Int).toNat * 34)).block < w.heap.size := World.block_lt_of_cell? w _ x0
  rw [show (m : Int).toNat = m from rfl] at x0 xm hadl
  have hw1 : wrap64 ((ks.length : Int) - 1) = (m : Int) := by unfold wrap64; omega
  have hw2 : IntKind.i64.wrap ((ks.length : Int) - 1) = (m : Int) := by rw [IntKind.wrap_i64]; omega
  have i1 : (m : Int) < (ks.length : Int) := by omega
  have i2 : m < ks.length := by omega
  have hmk := Lib.hid hm
  clear hm
  by_cases h4 : next ≤ (rdK ks (m : Int)).kid
  · have e : errK ks next = 50 := by unfold errK checkK; rw [hm', decide_eq_false (show ¬ (rdK ks (m : Int)).kid < next by omega)]; simp
    rw [e]
    have d1 : decide ((ks.length : Int) < 1) = false := decide_eq_false (by omega)
    have d2 : decide ((8 : Int) < (ks.length : Int)) = false := decide_eq_false (by omega)
    have d3 : decide ((9223372036854775807 : Int) < next) = false := decide_eq_false (by omega)
    have d4 : decide (next ≤ (rdK ks (m : Int)).kid) = true := decide_eq_true h4
    clear e hm'
    go_enter Try.func31, Try.ntmps31
    go_wp2
    go_quiet (fail)
    go_wp2
    go_ret
    exact ⟨rfl, by repeat (first | exact Below.refl _ _ | apply below_alloc | apply pw_below_drewN | apply below_drew1)⟩
  have d1 : decide ((ks.length : Int) < 1) = false := decide_eq_false (by omega)
  have d2 : decide ((8 : Int) < (ks.length : Int)) = false := decide_eq_false (by omega)
  have d3 : decide ((9223372036854775807 : Int) < next) = false := decide_eq_false (by omega)
  have d4 : decide (next ≤ (rdK ks (m : Int)).kid) = false := decide_eq_false h4
  have hfin := Lib.hid (fun hg => errK_good (next := next) hmk.out h2 h3 h4 hg)
  clear hm' h1 h2 h3 h4
  go_enter Try.func31, Try.ntmps31
  go_wp2
  go_quiet (fail)
  go_wp2
  have ha0 := Key.arr_0
  have ha33 := Key.arr_33
  go_loopg [36] ks.length (fun kq v36 w' => ∃ k : Nat, v36 = .int .i64 k ∧ k ≤ ks.length ∧ Hid (k + kq = ks.length) ∧ Aside0 (w'.heap[w.heap.size]? = some (.cells #[.slice (some ad) ks.length c, .int .u64 next] 69 (0, 0))) ∧ Aside0 (Below w.heap.size w w') ∧ Hid (∀ i, i < k → badK ks i = false))
  case atStart =>
    exact ⟨0, rfl, Nat.zero_le _, Lib.hid (by omega), ⟨blk_new w _⟩, ⟨by repeat (first | exact Below.refl _ _ | apply below_alloc | apply pw_below_drewN)⟩, Lib.hid (fun i hi => by omega)⟩
  case round =>
    obtain ⟨k, rfl, hk, hkq, hB, hBel, hgood⟩ := hrel
    have b0 : wr.cell? ⟨w.heap.size, 0, none⟩ = some (.slice (some ad) ks.length c) := (blk_cell hB.out 0).trans rfl
    have b1 : wr.cell? ⟨w.heap.size, 1, none⟩ = some (.int .u64 next) := (blk_cell hB.out 1).trans rfl
    have hlt0 : w.heap.size < wr.heap.size := blk_lt hB.out
    have C' := Kd.C_below hR.out hBel.out
    by_cases hc1 : k < ks.length
    · obtain ⟨ad', had, ym, y0, y33⟩ := at_Key C' (k : Int) (by omega) (by omega)
      obtain rfl := Option.some.inj had
      clear had
      rw [show (k : Int).toNat = k from rfl] at y0 y33 ym
      have hkl : (ad.add (k * 34)).block < wr.heap.size := World.block_lt_of_cell? wr _ y0
      have j1 : (k : Int) < (ks.length : Int) := by omega
      generalize hky : rdK ks (k : Int) = ky at *
      have hky' := Lib.hid hky
      have CC := Aside0.mk C'
      clear hky C' d1 d2 d3 d4 x0
      by_cases c1 : ky.kid < 1
      · have q1 : decide (ky.kid < 1) = true := decide_eq_true c1
        have e : errK ks next = 50 := errK_bad hc1 (by unfold badK; rw [hky'.out]; simp [c1])
        clear c1
        go_wp2_with (first | refine load_key rfl _ rfl _ rfl _ ym ?_ | refine new_key rfl _ _ rfl _ _ rfl rfl ?_)
        go_quiet (fail)
        go_wp2
        go_ret
        exact ⟨by rw [e]; rfl, by repeat (first | exact hBel.out | exact Below.refl _ _ | apply below_alloc | apply pw_below_drewN | apply below_drew1)⟩
      have q1 : decide (ky.kid < 1) = false := decide_eq_false c1
      by_cases c2 : k = 0
      · have q2 : decide (0 < (k : Int)) = false := decide_eq_false (by omega)
        have q2' : decide (0 < k) = false := decide_eq_false (by omega)
        have q2n : ¬ 0 < k := by omega
        by_cases c4 : k = m
        · have q4 : ((k : Int) == (m : Int)) = true := by simp [c4]
          have q4' : k + 1 = ks.length := by have := hmk.out; omega
          by_cases c5 : ky.til = 0
          · have q5 : decide (¬ ky.til = 0) = false := decide_eq_false (by omega)
            have q5' : (ky.til != 0) = false := by simp [c5]
            have hg' : Hid (∀ i, i < k + 1 → badK ks i = false) := Lib.hid (fun i hi => by
              rcases Nat.lt_or_ge i k with h | h
              · exact hgood.out i h
              · obtain rfl : i = k := by omega
                unfold badK
                rw [hky'.out]
                simp [c1, q2n, q4', c5])
            clear c1 c2 q2n c4 c5 q4'
            go_wp2_with (first | refine load_key rfl _ rfl _ rfl _ ym ?_ | refine new_key rfl _ _ rfl _ _ rfl rfl ?_)
            go_quiet (fail)
            go_wp2
            go_roundg (gk - 1)
            case measure => have := hkq.out; omega
            case rel => exact ⟨k + 1, by go_num, by omega, Lib.hid (by have := hkq.out; omega), ⟨by repeat (first | exact hB.out | refine blk_below ?_ (by assumption) | refine blk_alloc ?_ _ | refine blk_far ?_ (Nat.ne_of_lt hlt0) _)⟩, ⟨by repeat (first | exact hBel.out | exact Below.refl _ _ | apply below_alloc | apply pw_below_drewN | apply below_drew1)⟩, hg'⟩
          · have q5 : decide (¬ ky.til = 0) = true := decide_eq_true c5
            have q5' : (ky.til != 0) = true := by simp [c5]
            have e : errK ks next = 50 := errK_bad hc1 (by unfold badK; rw [hky'.out]; simp [c1, q2n, q4', c5])
            clear c1 c2 q2n c4 c5 q4'
            go_wp2_with (first | refine load_key rfl _ rfl _ rfl _ ym ?_ | refine new_key rfl _ _ rfl _ _ rfl rfl ?_)
            go_quiet (fail)
            go_wp2
            go_ret
            exact ⟨by rw [e]; rfl, by repeat (first | exact hBel.out | exact Below.refl _ _ | apply below_alloc | apply pw_below_drewN | apply below_drew1)⟩
        · have q4 : ((k : Int) == (m : Int)) = false := by simp; omega
          have q4' : ¬ k + 1 = ks.length := by have := hmk.out; omega
          by_cases c5 : ky.til < 1
          · have q5 : decide (ky.til < 1) = true := decide_eq_true c5
            have e : errK ks next = 50 := errK_bad hc1 (by unfold badK; rw [hky'.out]; simp [c1, q2n, q4', c5])
            clear c1 c2 q2n c4 c5 q4'
            go_wp2_with (first | refine load_key rfl _ rfl _ rfl _ ym ?_ | refine new_key rfl _ _ rfl _ _ rfl rfl ?_)
            go_quiet (fail)
            go_wp2
            go_ret
            exact ⟨by rw [e]; rfl, by repeat (first | exact hBel.out | exact Below.refl _ _ | apply below_alloc | apply pw_below_drewN | apply below_drew1)⟩
          · have q5 : decide (ky.til < 1) = false := decide_eq_false c5
            have hg' : Hid (∀ i, i < k + 1 → badK ks i = false) := Lib.hid (fun i hi => by
              rcases Nat.lt_or_ge i k with h | h
              · exact hgood.out i h
              · obtain rfl : i = k := by omega
                unfold badK
                rw [hky'.out]
                simp [c1, q2n, q4', c5])
            clear c1 c2 q2n c4 c5 q4'
            go_wp2_with (first | refine load_key rfl _ rfl _ rfl _ ym ?_ | refine new_key rfl _ _ rfl _ _ rfl rfl ?_)
            go_quiet (fail)
            go_wp2
            go_roundg (gk - 1)
            case measure => have := hkq.out; omega
            case rel => exact ⟨k + 1, by go_num, by omega, Lib.hid (by have := hkq.out; omega), ⟨by repeat (first | exact hB.out | refine blk_below ?_ (by assumption) | refine blk_alloc ?_ _ | refine blk_far ?_ (Nat.ne_of_lt hlt0) _)⟩, ⟨by repeat (first | exact hBel.out | exact Below.refl _ _ | apply below_alloc | apply pw_below_drewN | apply below_drew1)⟩, hg'⟩
      · have q2 : decide (0 < (k : Int)) = true := decide_eq_true (by omega)
        have q2' : decide (0 < k) = true := decide_eq_true (by omega)
        have q2n : 0 < k := by omega
        obtain ⟨p, hp⟩ : ∃ p : Nat, k = p + 1 := ⟨k - 1, by omega⟩
        have hp' : (k : Int) - 1 = p := by omega
        obtain ⟨ad', had, zm, z0, z33⟩ := at_Key CC.out (p : Int) (by omega) (by omega)
        obtain rfl := Option.some.inj had
        clear had
        rw [show (p : Int).toNat = p from rfl] at z0 z33 zm
        have hpl : (ad.add (p * 34)).block < wr.heap.size := World.block_lt_of_cell? wr _ z0
        have hw3 : wrap64 ((k : Int) - 1) = (p : Int) := by unfold wrap64; omega
        have hw4 : IntKind.i64.wrap ((k : Int) - 1) = (p : Int) := by rw [IntKind.wrap_i64]; omega
        have j2 : (p : Int) < (ks.length : Int) := by omega
        have j3 : p < ks.length := by omega
        have hp2 := Lib.hid hp'
        clear hp hp' c2
        by_cases c3 : ky.kid ≤ (rdK ks (p : Int)).kid
        · have q3 : decide (ky.kid ≤ (rdK ks (p : Int)).kid) = true := decide_eq_true c3
          have e : errK ks next = 50 := errK_bad hc1 (by unfold badK; rw [hky'.out]; simp [hp2.out, c1, q2n, c3])
          clear c1 q2n c3
          go_wp2_with (first | refine load_key rfl _ rfl _ rfl _ ym ?_ | refine new_key rfl _ _ rfl _ _ rfl rfl ?_)
          go_quiet (fail)
          go_wp2
          go_ret
          exact ⟨by rw [e]; rfl, by repeat (first | exact hBel.out | exact Below.refl _ _ | apply below_alloc | apply pw_below_drewN | apply below_drew1)⟩
        have q3 : decide (ky.kid ≤ (rdK ks (p : Int)).kid) = false := decide_eq_false c3
        by_cases c4 : k = m
        · have q4 : ((k : Int) == (m : Int)) = true := by simp [c4]
          have q4' : k + 1 = ks.length := by have := hmk.out; omega
          by_cases c5 : ky.til = 0
          · have q5 : decide (¬ ky.til = 0) = false := decide_eq_false (by omega)
            have q5' : (ky.til != 0) = false := by simp [c5]
            have hg' : Hid (∀ i, i < k + 1 → badK ks i = false) := Lib.hid (fun i hi => by
              rcases Nat.lt_or_ge i k with h | h
              · exact hgood.out i h
              · obtain rfl : i = k := by omega
                unfold badK
                rw [hky'.out]
                simp [hp2.out, c1, q2n, c3, q4', c5])
            clear c1 c3 q2n c4 c5 q4'
            go_wp2_with (first | refine load_key rfl _ rfl _ rfl _ ym ?_ | refine new_key rfl _ _ rfl _ _ rfl rfl ?_)
            go_quiet (fail)
            go_wp2
            go_roundg (gk - 1)
            case measure => have := hkq.out; omega
            case rel => exact ⟨k + 1, by go_num, by omega, Lib.hid (by have := hkq.out; omega), ⟨by repeat (first | exact hB.out | refine blk_below ?_ (by assumption) | refine blk_alloc ?_ _ | refine blk_far ?_ (Nat.ne_of_lt hlt0) _)⟩, ⟨by repeat (first | exact hBel.out | exact Below.refl _ _ | apply below_alloc | apply pw_below_drewN | apply below_drew1)⟩, hg'⟩
          · have q5 : decide (¬ ky.til = 0) = true := decide_eq_true c5
            have q5' : (ky.til != 0) = true := by simp [c5]
            have e : errK ks next = 50 := errK_bad hc1 (by unfold badK; rw [hky'.out]; simp [hp2.out, c1, q2n, c3, q4', c5])
            clear c1 c3 q2n c4 c5 q4'
            go_wp2_with (first | refine load_key rfl _ rfl _ rfl _ ym ?_ | refine new_key rfl _ _ rfl _ _ rfl rfl ?_)
            go_quiet (fail)
            go_wp2
            go_ret
            exact ⟨by rw [e]; rfl, by repeat (first | exact hBel.out | exact Below.refl _ _ | apply below_alloc | apply pw_below_drewN | apply below_drew1)⟩
        · have q4 : ((k : Int) == (m : Int)) = false := by simp; omega
          have q4' : ¬ k + 1 = ks.length := by have := hmk.out; omega
          by_cases c5 : ky.til < 1
          · have q5 : decide (ky.til < 1) = true := decide_eq_true c5
            have e : errK ks next = 50 := errK_bad hc1 (by unfold badK; rw [hky'.out]; simp [hp2.out, c1, q2n, c3, q4', c5])
            clear c1 c3 q2n c4 c5 q4'
            go_wp2_with (first | refine load_key rfl _ rfl _ rfl _ ym ?_ | refine new_key rfl _ _ rfl _ _ rfl rfl ?_)
            go_quiet (fail)
            go_wp2
            go_ret
            exact ⟨by rw [e]; rfl, by repeat (first | exact hBel.out | exact Below.refl _ _ | apply below_alloc | apply pw_below_drewN | apply below_drew1)⟩
          · have q5 : decide (ky.til < 1) = false := decide_eq_false c5
            have hg' : Hid (∀ i, i < k + 1 → badK ks i = false) := Lib.hid (fun i hi => by
              rcases Nat.lt_or_ge i k with h | h
              · exact hgood.out i h
              · obtain rfl : i = k := by omega
                unfold badK
                rw [hky'.out]
                simp [hp2.out, c1, q2n, c3, q4', c5])
            clear c1 c3 q2n c4 c5 q4'
            go_wp2_with (first | refine load_key rfl _ rfl _ rfl _ ym ?_ | refine new_key rfl _ _ rfl _ _ rfl rfl ?_)
            go_quiet (fail)
            go_wp2
            go_roundg (gk - 1)
            case measure => have := hkq.out; omega
            case rel => exact ⟨k + 1, by go_num, by omega, Lib.hid (by have := hkq.out; omega), ⟨by repeat (first | exact hB.out | refine blk_below ?_ (by assumption) | refine blk_alloc ?_ _ | refine blk_far ?_ (Nat.ne_of_lt hlt0) _)⟩, ⟨by repeat (first | exact hBel.out | exact Below.refl _ _ | apply below_alloc | apply pw_below_drewN | apply below_drew1)⟩, hg'⟩
    · have e : errK ks next = 0 := hfin.out (fun i hi => hgood.out i (by omega))
      have q : decide ((k : Int) < (ks.length : Int)) = false := decide_eq_false (by omega)
      have q' : decide (k < ks.length) = false := decide_eq_false hc1
      clear C'
      go_wp2
      go_ret
      exact ⟨by rw [e]; rfl, by repeat (first | exact hBel.out | exact Below.refl _ _ | apply below_alloc | apply pw_below_drewN | apply below_drew1)⟩
end Go.Proofs.Ytnechcibpmjblaa
