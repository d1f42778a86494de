/- The walks of posternref0.CopyKeys, CopyRing, EqKeys and EqRing. Conditions: the keys are read; at most a million to be copied. -/
import Derived.Test.YtnechcibpmjblaaH
namespace Go.Proofs.Ytnechcibpmjblaa
open Go.RowKit Go.Proofs.YtnechcibpmjblaaW.PrintWords KB
set_option linter.unusedVariables false
set_option linter.unusedSimpArgs false

set_option maxHeartbeats 2000000 in
set_option maxRecDepth 100000 in
theorem copyKeys_any (ks : List Key) (A : Option Addr) (c : Nat) (w : World) (hr : kKey.C w A ks.length ks) (hc : ks.length ≤ c) (hl : ks.length ≤ 1000000) :
    Calls Try.prog 40 #[.slice A ks.length c] w fun e w' => ∃ v, e = .returned v ∧ OwnKeys w' w.heap.size v ks ∧ Below w.heap.size w w' := by
  have hR := Aside0.mk hr
  clear hr
  go_enter Try.func40, Try.ntmps40
  go_wp2_with (at_builtin; refine Kd.R_append_rows kKey (w0 := w) w.heap.size rfl (.tmp 4) (.tmp 5) 55 107 _ 48 rfl Try.underlying55 info107z (by rw [show (Value.agg zKey.arr).cells = zKey.arr from rfl, Key.arr_size]; rfl) (by decide) (by decide) _ [] ks _ _ _ (fun _ => True) (fun _ => False) rfl rfl (Kd.R_nil kKey 107 w _ _) hR.out (fun _ _ h => h) (fun _ h => h.elim) (fun _ _ => trivial) (Below.refl _ _) (Nat.le_refl _) (by simp; omega) ?_; intro v1 w1 hv1 hb1 hg1 hat1)
  go_ret
  exact ⟨v1, rfl, hv1, hb1⟩
set_option maxHeartbeats 2000000 in
set_option maxRecDepth 100000 in
theorem eqKeys_any (ks ls : List Key) (A B : Option Addr) (c d : Nat) (w : World) (hr : kKey.C w A ks.length ks) (hq : kKey.C w B ls.length ls) (hc : ks.length ≤ c) (hd : ls.length ≤ d) :
    Calls Try.prog 41 #[.slice A ks.length c, .slice B ls.length d] w fun e w' => e = .returned (.bool (decide (ks = ls))) ∧ Below w.heap.size w w' := by
  have hu107 := Try.underlying107
  have hu55 := Try.underlying55
  have hmax := Kd.C_max hr
  have hmax2 := Kd.C_max hq
  have hR := Aside0.mk hr
  have hQ := Aside0.mk hq
  clear hr hq
  by_cases h1 : ks.length = ls.length
  · have hn1 : ((ks.length : Int) != (ls.length : Int)) = false := by simp [h1]
    have hl := Lib.hid h1
    go_enter Try.func41, Try.ntmps41
    clear h1
    go_wp2
    go_loopg [5] ks.length (fun kq v5 w' => ∃ k : Nat, v5 = .int .i64 k ∧ k ≤ ks.length ∧ Hid (k + kq = ks.length) ∧ Aside0 (Below w.heap.size w w') ∧ Hid (∀ i, i < k → rdK ks (i : Int) = rdK ls (i : Int)))
    case atStart => exact ⟨0, rfl, Nat.zero_le _, Lib.hid (by omega), ⟨Below.refl _ _⟩, Lib.hid (fun i hi => by omega)⟩
    case round =>
      obtain ⟨k, rfl, hk, hkq, hBel, hgood⟩ := hrel
      by_cases hc1 : k < ks.length
      · have hl2 : k < ls.length := by have := hl.out; omega
        obtain ⟨ad, rfl, ym, _, _⟩ := at_Key (Kd.C_below hR.out hBel.out) (k : Int) (by omega) (by omega)
        obtain ⟨bd, rfl, zm, _, _⟩ := at_Key (Kd.C_below hQ.out hBel.out) (k : Int) (by omega) (by omega)
        rw [show (k : Int).toNat = k from rfl] at ym zm
        have j1 : (k : Int) < (ks.length : Int) := by omega
        have j2 : (k : Int) < (ls.length : Int) := by omega
        have hg1 := fun h => Lib.hid (show ∀ i, i < k + 1 → rdK ks (i : Int) = rdK ls (i : Int) from fun i hi => by
          rcases Nat.lt_or_ge i k with h' | h'
          · exact hgood.out i h'
          · obtain rfl : i = k := by omega
            exact h)
        have hg2 := fun h : rdK ks (k : Int) ≠ rdK ls (k : Int) => show decide (ks = ls) = false from decide_eq_false (fun e => h (by rw [e]))
        have hg3 := Aside0.mk (And.intro hg1 hg2)
        clear hg1 hg2
        generalize rdK ks (k : Int) = ky at *
        generalize rdK ls (k : Int) = ly at *
        have hA := Aside0.mk (And.intro ym zm)
        clear ym zm
        go_wp2_with fail
        by_cases he : ky = ly
        · have hd2 : (!decide (ky = ly)) = false := by simp [he]
          have he' := Lib.hid he
          clear he
          refine wp_region_quiet_lit (by kernel_rfl) (by kernel_rfl) ?_
          repeat (first | refine quiet_exec (by rfl) (.agg ky.arr) (fun w' hw' => by obtain ⟨n, rfl⟩ := hw'; exact exec_load107 _ rfl _ rfl ky hA.out.1) ?_ | refine quiet_exec (by rfl) (.agg ly.arr) (fun w' hw' => by obtain ⟨n, rfl⟩ := hw'; exact exec_load107 _ rfl _ rfl ly hA.out.2) ?_ | refine quiet_exec (by rfl) (.bool false) (fun w' hw' => by rw [← hd2]; exact exec_neqKey _ _ _ rfl ky ly rfl rfl) ?_ | quiet_step (fail))
          refine wpQuiet_nil ?_
          intro _ hw'
          obtain ⟨nq, hw''⟩ := hw'
          subst hw''
          go_wp2
          go_roundg (gk - 1)
          case measure => have := hkq.out; omega
          case rel => exact ⟨k + 1, by go_num, by omega, Lib.hid (by have := hkq.out; omega), ⟨by repeat (first | exact hBel.out | apply pw_below_drewN)⟩, hg3.out.1 he'.out⟩
        · have e := hg3.out.2 he
          have hd2 : (!decide (ky = ly)) = true := by simp [he]
          refine wp_region_quiet_lit (by kernel_rfl) (by kernel_rfl) ?_
          repeat (first | refine quiet_exec (by rfl) (.agg ky.arr) (fun w' hw' => by obtain ⟨n, rfl⟩ := hw'; exact exec_load107 _ rfl _ rfl ky hA.out.1) ?_ | refine quiet_exec (by rfl) (.agg ly.arr) (fun w' hw' => by obtain ⟨n, rfl⟩ := hw'; exact exec_load107 _ rfl _ rfl ly hA.out.2) ?_ | refine quiet_exec (by rfl) (.bool true) (fun w' hw' => by rw [← hd2]; exact exec_neqKey _ _ _ rfl ky ly rfl rfl) ?_ | quiet_step (fail))
          refine wpQuiet_nil ?_
          intro _ hw'
          obtain ⟨nq, hw''⟩ := hw'
          subst hw''
          go_wp2
          go_ret
          exact ⟨by rw [e]; rfl, by repeat (first | exact hBel.out | apply pw_below_drewN)⟩
      · have e : decide (ks = ls) = true := decide_eq_true (by
          have := hl.out
          apply List.ext_getElem
          · exact this
          · intro i h1 h2
            have h := hgood.out i (by omega)
            rwa [rdK_eq h1, rdK_eq h2] at h)
        have q : decide ((k : Int) < (ks.length : Int)) = false := decide_eq_false (by omega)
        have q' : decide (k < ks.length) = false := decide_eq_false hc1
        go_wp2
        go_ret
        exact ⟨by rw [e]; rfl, hBel.out⟩
  · have hn1 : ((ks.length : Int) != (ls.length : Int)) = true := by simp; omega
    have e : decide (ks = ls) = false := decide_eq_false (fun e => h1 (by rw [e]))
    rw [e]
    clear e h1
    go_enter Try.func41, Try.ntmps41
    go_wp2
    go_ret
    exact ⟨rfl, Below.refl _ _⟩
end Go.Proofs.Ytnechcibpmjblaa
