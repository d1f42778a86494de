/- The walks of posternref0.CopyKeys, CopyRing, EqKeys and EqRing. Conditions: the keys are read; at most a million to be copied. -/
import Derived.Test.YtnechcibpmjblaaH
namespace Go.Proofs.Ytnechcibpmjblaa
open Go.RowKit Go.Proofs.YtnechcibpmjblaaW.PrintWords KB
set_option linter.unusedVariables false
set_option linter.unusedSimpArgs false

set_option maxHeartbeats 2000000 in
set_option maxRecDepth 100000 in
theorem copyKeys_any (ks : List Key) (A : Option Addr) (c : Nat) (w : World) (hr : kKey.C w A ks.length ks) (hc : ks.length ≤ c) (hl : ks.length ≤ 1000000) :
    Calls Try.prog 40 #[.slice A ks.length c] w fun e w' => ∃ v, e = .returned v ∧ OwnKeys w' w.heap.size v ks ∧ Below w.heap.size w w' := by
  have hR := Aside0.mk hr
  clear hr
  go_enter Try.func40, Try.ntmps40
  go_wp2_with (at_builtin; refine Kd.R_append_rows kKey (w0 := w) w.heap.size rfl (.tmp 4) (.tmp 5) 55 107 _ 48 rfl Try.underlying55 info107z (by rw [show (Value.agg zKey.arr).cells = zKey.arr from rfl, Key.arr_size]; rfl) (by decide) (by decide) _ [] ks _ _ _ (fun _ => True) (fun _ => False) rfl rfl (Kd.R_nil kKey 107 w _ _) hR.out (fun _ _ h => h) (fun _ h => h.elim) (fun _ _ => trivial) (Below.refl _ _) (Nat.le_refl _) (by simp; omega) ?_; intro v1 w1 hv1 hb1 hg1 hat1)
  go_ret
  exact ⟨v1, rfl, hv1, hb1⟩
set_option maxHeartbeats 2000000 in
set_option maxRecDepth 100000 in
theorem copyRing_any (r : Rg) (A : Option Addr) (c : Nat) (w : World) (hr : RK w A c r) (hl : r.keys.length ≤ 1000000) :
    Calls Try.prog 18 #[.agg #[.slice A r.keys.length c, .int .u64 r.next]] w fun e w' => Tells e w w' r := by
  obtain ⟨ks, next⟩ := r
  simp only at hl ⊢
  have hu69 := Try.underlying69
  have hBel3 : Aside0 (Below w.heap.size w (((w.alloc (.cells #[.slice A ks.length c, .int .u64 next] 69)).alloc (.cells #[.slice none 0 0, .int .u64 0] 69)).alloc (.cells #[.slice A ks.length c, .int .u64 next] 69))) := ⟨by repeat (first | exact Below.refl _ _ | apply below_alloc)⟩
  have hcall := copyKeys_any ks A c (((w.alloc (.cells #[.slice A ks.length c, .int .u64 next] 69)).alloc (.cells #[.slice none 0 0, .int .u64 0] 69)).alloc (.cells #[.slice A ks.length c, .int .u64 next] 69)) (hr.below hBel3.out).1 hr.2 hl
  have hs3 : Aside0 (w.heap.size + 1 + 1 < (((w.alloc (.cells #[.slice A ks.length c, .int .u64 next] 69)).alloc (.cells #[.slice none 0 0, .int .u64 0] 69)).alloc (.cells #[.slice A ks.length c, .int .u64 next] 69)).heap.size) := ⟨by simp⟩
  have hb1 : Aside0 ((((w.alloc (.cells #[.slice A ks.length c, .int .u64 next] 69)).alloc (.cells #[.slice none 0 0, .int .u64 0] 69)).alloc (.cells #[.slice A ks.length c, .int .u64 next] 69)).heap[w.heap.size + 1]? = some (.cells #[.slice none 0 0, .int .u64 0] 69 (0, 0))) := ⟨blk_alloc (by rw [← alloc_size]; exact blk_new _ _) _⟩
  have hb2 : Aside0 ((((w.alloc (.cells #[.slice A ks.length c, .int .u64 next] 69)).alloc (.cells #[.slice none 0 0, .int .u64 0] 69)).alloc (.cells #[.slice A ks.length c, .int .u64 next] 69)).heap[w.heap.size + 1 + 1]? = some (.cells #[.slice A ks.length c, .int .u64 next] 69 (0, 0))) := ⟨by rw [← alloc_size w (.cells #[.slice A ks.length c, .int .u64 next] 69), ← alloc_size]; exact blk_new _ _⟩
  clear hr
  go_enter Try.func18, Try.ntmps18
  go_wp2_with (go_at_call 40; refine hcall.mono ?_; rintro e w1 ⟨v1, rfl, hv1, hb⟩; obtain ⟨A1, c1, rfl⟩ := Kd.R_slice hv1; have hv1 := Aside0.mk hv1; obtain ⟨hbc, hbf⟩ := bcell hb; have hs4 := hs3.out; have hs5 : w.heap.size < w1.heap.size := (by have := hb.size; omega))
  have d1 := blk_below hb1.out hb
  have d2 := blk_below hb2.out hb
  have hz : w.heap.size ≤ w1.heap.size := by omega
  have hne : w.heap.size + 1 ≠ w.heap.size + 1 + 1 := by omega
  exact bodyPost_ret (results_ring Try.underlying69 (by kernel_rfl) rfl rfl (blk_put (blk_put (blk_far d1 hne _) 0 _ rfl) 1 _ rfl)) rfl
    ⟨A1, c1, rfl, by
      obtain ⟨A2, c2, hv, hC⟩ := RingV.tells (r := ⟨ks, next⟩) ⟨_, rfl, own_set (own_set (own_set hv1.out d2 (by decide) 0 (.slice A1 ks.length c1)) (blk_far d1 hne _) (by decide) 0 (.slice A1 ks.length c1)) (blk_put (blk_far d1 hne _) 0 _ rfl) (by decide) 1 (.int .u64 next)⟩
      simp only [Value.agg.injEq, Array.mk.injEq, List.cons.injEq, Value.slice.injEq, true_and, and_true] at hv
      obtain ⟨rfl, rfl⟩ := hv
      exact hC, below_set (below_set (below_set (below_step hBel3.out hb) (by omega)) (by omega)) (by omega)⟩
theorem yields_neqKey {ops : Array Oper} {op : Oper} {a : Act} {S : World → Prop} (hw : Region.wanted op (yielded ops a.tmps) = true) (x y : Operand) (z : TypeId) (ho : op.op = .binOp .neq 107 x y z) (k l : Key) (hx : a.eval x = .agg k.arr) (hy : a.eval y = .agg l.arr) :
    YieldsIf Try.prog ops S op (.bool (!decide (k = l))) a := .inl ⟨hw, fun w _ => exec_neqKey x y z ho k l hx hy⟩
set_option maxHeartbeats 2000000 in
set_option maxRecDepth 100000 in
theorem eqKeys_any (ks ls : List Key) (A B : Option Addr) (c d : Nat) (w : World) (hr : kKey.C w A ks.length ks) (hq : kKey.C w B ls.length ls) (hc : ks.length ≤ c) (hd : ls.length ≤ d) :
    Calls Try.prog 41 #[.slice A ks.length c, .slice B ls.length d] w fun e w' => e = .returned (.bool (decide (ks = ls))) ∧ Below w.heap.size w w' := by
  have hu107 := Try.underlying107
  have hu55 := Try.underlying55
  have hmax := Kd.C_max hr
  have hmax2 := Kd.C_max hq
  have hR := Aside0.mk hr
  have hQ := Aside0.mk hq
  clear hr hq
  by_cases h1 : ks.length = ls.length
  · have hn1 : ((ks.length : Int) != (ls.length : Int)) = false := by simp [h1]
    have hl := Lib.hid h1
    go_enter Try.func41, Try.ntmps41
    clear h1
    go_wp2
    go_loopg [5] ks.length (fun kq v5 w' => ∃ k : Nat, v5 = .int .i64 k ∧ k ≤ ks.length ∧ Hid (k + kq = ks.length) ∧ Aside0 (Below w.heap.size w w') ∧ Hid (∀ i, i < k → rdK ks (i : Int) = rdK ls (i : Int)))
    case atStart => exact ⟨0, rfl, Nat.zero_le _, Lib.hid (by omega), ⟨Below.refl _ _⟩, Lib.hid (fun i hi => by omega)⟩
    case round =>
      obtain ⟨k, rfl, hk, hkq, hBel, hgood⟩ := hrel
      by_cases hc1 : k < ks.length
      · have hl2 : k < ls.length := by have := hl.out; omega
        obtain ⟨ad, rfl, ym, _, _⟩ := at_Key (Kd.C_below hR.out hBel.out) (k : Int) (by omega) (by omega)
        obtain ⟨bd, rfl, zm, _, _⟩ := at_Key (Kd.C_below hQ.out hBel.out) (k : Int) (by omega) (by omega)
        rw [show (k : Int).toNat = k from rfl] at ym zm
        have j1 : (k : Int) < (ks.length : Int) := by omega
        have j2 : (k : Int) < (ls.length : Int) := by omega
        have hg1 := fun h => Lib.hid (show ∀ i, i < k + 1 → rdK ks (i : Int) = rdK ls (i : Int) from fun i hi => by
          rcases Nat.lt_or_ge i k with h' | h'
          · exact hgood.out i h'
          · obtain rfl : i = k := by omega
            exact h)
        have hg2 := fun h : rdK ks (k : Int) ≠ rdK ls (k : Int) => show decide (ks = ls) = false from decide_eq_false (fun e => h (by rw [e]))
        have hg3 := Aside0.mk (And.intro hg1 hg2)
        clear hg1 hg2
        generalize rdK ks (k : Int) = ky at *
        generalize rdK ls (k : Int) = ly at *
        have hA := Aside0.mk (And.intro ym zm)
        clear ym zm
        go_wp2_with fail
        by_cases he : ky = ly
        · have hd2 : (!decide (ky = ly)) = false := by simp [he]
          have he' := Lib.hid he
          clear he
          refine wp_region_quiet_lit (by kernel_rfl) (by kernel_rfl) ?_
          repeat (first | refine quiet_exec (by rfl) (.agg ky.arr) (fun w' hw' => by obtain ⟨n, rfl⟩ := hw'; exact exec_load107 _ rfl _ rfl ky hA.out.1) ?_ | refine quiet_exec (by rfl) (.agg ly.arr) (fun w' hw' => by obtain ⟨n, rfl⟩ := hw'; exact exec_load107 _ rfl _ rfl ly hA.out.2) ?_ | refine quiet_exec (by rfl) (.bool false) (fun w' hw' => by rw [← hd2]; exact exec_neqKey _ _ _ rfl ky ly rfl rfl) ?_ | quiet_step (fail))
          refine wpQuiet_nil ?_
          intro _ hw'
          obtain ⟨nq, hw''⟩ := hw'
          subst hw''
          go_wp2
          go_roundg (gk - 1)
          case measure => have := hkq.out; omega
          case rel => exact ⟨k + 1, by go_num, by omega, Lib.hid (by have := hkq.out; omega), ⟨by repeat (first | exact hBel.out | apply pw_below_drewN)⟩, hg3.out.1 he'.out⟩
        · have e := hg3.out.2 he
          have hd2 : (!decide (ky = ly)) = true := by simp [he]
          refine wp_region_quiet_lit (by kernel_rfl) (by kernel_rfl) ?_
          repeat (first | refine quiet_exec (by rfl) (.agg ky.arr) (fun w' hw' => by obtain ⟨n, rfl⟩ := hw'; exact exec_load107 _ rfl _ rfl ky hA.out.1) ?_ | refine quiet_exec (by rfl) (.agg ly.arr) (fun w' hw' => by obtain ⟨n, rfl⟩ := hw'; exact exec_load107 _ rfl _ rfl ly hA.out.2) ?_ | refine quiet_exec (by rfl) (.bool true) (fun w' hw' => by rw [← hd2]; exact exec_neqKey _ _ _ rfl ky ly rfl rfl) ?_ | quiet_step (fail))
          refine wpQuiet_nil ?_
          intro _ hw'
          obtain ⟨nq, hw''⟩ := hw'
          subst hw''
          go_wp2
          go_ret
          exact ⟨by rw [e]; rfl, by repeat (first | exact hBel.out | apply pw_below_drewN)⟩
      · have e : decide (ks = ls) = true := decide_eq_true (by
          have := hl.out
          apply List.ext_getElem
          · exact this
          · intro i h1 h2
            have h := hgood.out i (by omega)
            rwa [rdK_eq h1, rdK_eq h2] at h)
        have q : decide ((k : Int) < (ks.length : Int)) = false := decide_eq_false (by omega)
        have q' : decide (k < ks.length) = false := decide_eq_false hc1
        go_wp2
        go_ret
        exact ⟨by rw [e]; rfl, hBel.out⟩
  · have hn1 : ((ks.length : Int) != (ls.length : Int)) = true := by simp; omega
    have e : decide (ks = ls) = false := decide_eq_false (fun e => h1 (by rw [e]))
    rw [e]
    clear e h1
    go_enter Try.func41, Try.ntmps41
    go_wp2
    go_ret
    exact ⟨rfl, Below.refl _ _⟩
end Go.Proofs.Ytnechcibpmjblaa
