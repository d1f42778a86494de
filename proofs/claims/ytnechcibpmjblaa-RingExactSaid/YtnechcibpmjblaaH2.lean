/- posternlaw5.wakes answers true. No conditions. -/
import Derived.Test.YtnechcibpmjblaaH
namespace Go.Proofs.Ytnechcibpmjblaa
open Go.RowKit Go.Proofs.YtnechcibpmjblaaW.PrintWords KB
set_option linter.unusedVariables false
set_option linter.unusedSimpArgs false

set_option maxHeartbeats 4000000 in
set_option maxRecDepth 100000 in
theorem wakes_gen (s1 s2 : Bs 32) (k1 k2 : Key) (r0 r1 : Rg) (w : World) (hk2 : k2.sec = s2)
    (h1 : ∀ w, (Instr.build 70 #[(0, .int .u8 1)]).run Try.prog w = .ok (.agg s1.cs.toArray) w) (h2 : ∀ w, (Instr.build 70 #[(0, .int .u8 2)]).run Try.prog w = .ok (.agg s2.cs.toArray) w)
    (hk1a : k2.arr[0]? = some (.int .u64 2)) (hk1b : k1.arr[33]? = some (.int .i64 50))
    (c10 : ∀ w, Calls Try.prog 10 #[.agg s1.cs.toArray] w fun e w' => ∃ A c, e = .returned (.agg #[.slice A 1 c, .int .u64 2]) ∧ RK w' A c r0 ∧ Below w.heap.size w w')
    (c12 : ∀ w A c, RK w A c r0 → Calls Try.prog 12 #[.agg #[.slice A 1 c, .int .u64 2], .agg s2.cs.toArray, .int .i64 50] w fun e w' => ∃ A c, e = .returned (.tuple #[.agg #[.slice A 2 c, .int .u64 3], .int .i64 0]) ∧ RK w' A c r1 ∧ Below w.heap.size w w')
    (c29 : ∀ w A c, RK w A c r1 → Calls Try.prog 29 #[.agg #[.slice A 2 c, .int .u64 3]] w fun e w' => e = .returned (.tuple #[.agg k2.arr, .bool true]) ∧ Below w.heap.size w w')
    (c30 : ∀ w A c, RK w A c r1 → Calls Try.prog 30 #[.agg #[.slice A 2 c, .int .u64 3], .int .u64 1] w fun e w' => e = .returned (.tuple #[.agg k1.arr, .bool true]) ∧ Below w.heap.size w w')
    (c14a : ∀ w A c, RK w A c r1 → Calls Try.prog 14 #[.agg #[.slice A 2 c, .int .u64 3], .int .i64 50] w fun e w' => ∃ A c, e = .returned (.agg #[.slice A 1 c, .int .u64 3]) ∧ Below w.heap.size w w')
    (c14b : ∀ w A c, RK w A c r1 → Calls Try.prog 14 #[.agg #[.slice A 2 c, .int .u64 3], .int .i64 49] w fun e w' => ∃ A c, e = .returned (.agg #[.slice A 2 c, .int .u64 3]) ∧ Below w.heap.size w w') :
    Calls Try.prog 26 #[] w fun e w' => e = .returned (.bool true) ∧ Below w.heap.size w w' := by
  have hz107 := zero107
  have hu107 := Try.underlying107
  have hf := fld69_0
  have hdb : decide (s2 = s2) = true := decide_eq_true rfl
  have heq : ∀ w, (Op.equalIn 10000 70 (.agg s2.cs.toArray) (.agg s2.cs.toArray)).run Try.prog w = .ok true w := fun w => by
    rw [run_equalIn_bytes 9998 s2 s2 Try.underlying70 Try.underlying5 (by kernel_rfl) (by kernel_rfl), hdb]
  go_enter Try.func26, Try.ntmps26
  go_wp2_with (first | (go_at_call 10; refine (c10 _).mono ?_; rintro e w1 ⟨A1, c1, rfl, hr1, hb1⟩) | (go_at_call 12; refine (c12 _ _ _ hr1).mono ?_; rintro e w2 ⟨A2, c2, rfl, hr2, hb2⟩; have hr2' := hr2.below (below_alloc (Below.refl _ w2) (.cells #[.slice A2 2 c2, .int .u64 3] 69))) | (go_at_call 29; refine (c29 _ _ _ hr2').mono ?_; rintro e w3 ⟨rfl, hb3⟩; obtain ⟨hc3, hf3⟩ := bcell hb3; have hz3 : w2.heap.size < w3.heap.size := (by have := hb3.size; rw [alloc_size] at this; omega); have hr3 := (hr2'.below hb3).below (below_alloc (Below.refl _ w3) (.cells k2.arr 107))) | (go_at_call 30; refine (c30 _ _ _ hr3).mono ?_; rintro e w4 ⟨rfl, hb4⟩; obtain ⟨hc4, hf4⟩ := bcell hb4; have hz4 : w3.heap.size < w4.heap.size := (by have := hb4.size; rw [alloc_size] at this; omega); have hz4' : w2.heap.size < w4.heap.size := (by omega); have hsec : At (w4.alloc (.cells k1.arr 107)) ⟨w3.heap.size, 1, none⟩ s2.cs := (by have h := at_sec (at_var (blk_alloc (blk_below (blk_new w3 (.cells k2.arr 107)) hb4) (.cells k1.arr 107))); rw [hk2] at h; exact h); have hr4 := (hr3.below hb4).below (below_alloc (Below.refl _ w4) (.cells k1.arr 107))) | (go_at_call 22; refine (num_any _ _).mono ?_; rintro e wn ⟨rfl, rfl⟩) | (go_at_call 14; refine (c14b _ _ _ hr5).mono ?_; rintro e w6 ⟨A6, c6, rfl, hb6⟩) | (go_at_call 14; refine (c14a _ _ _ hr4).mono ?_; rintro e w5 ⟨A5, c5, rfl, hb5⟩; obtain ⟨hc5, hf5⟩ := bcell hb5; have hz5 : w2.heap.size < w5.heap.size := (by have := hb5.size; rw [alloc_size] at this; omega); have hr5 := hr4.below hb5) | ((with_reducible refine gate_ (.store 107 _ _) rfl ?_); have h0 := hr4; refine new_key rfl _ _ rfl zKey k1 rfl rfl ?_) | ((with_reducible refine gate_ (.store 107 _ _) rfl ?_); refine new_key rfl _ _ rfl zKey k2 rfl rfl ?_) | ((with_reducible refine gate_ (.build 70 #[(0, .const (.int .u8 1))]) rfl ?_); refine list_exec (by rfl) (.agg s1.cs.toArray) (exec_build1 70 0 _ rfl (.int .u8 1) _ rfl (h1 _)) ?_) | ((with_reducible refine gate_ (.build 70 #[(0, .const (.int .u8 2))]) rfl ?_); refine list_exec (by rfl) (.agg s2.cs.toArray) (exec_build1 70 0 _ rfl (.int .u8 2) _ rfl (h2 _)) ?_) | ((with_reducible refine gate_ (.load 70 _) rfl ?_); refine list_exec (by rfl) (.agg s2.cs.toArray) (exec_load70 _ rfl _ rfl s2 hsec) ?_) | ((with_reducible refine gate_ (.binOp .eql 70 _ _ _) rfl ?_); refine list_exec (by rfl) (.bool true) (by rw [← hdb]; exact exec_eqlBytes _ _ _ rfl s2 s2 rfl rfl) ?_))
  go_ret
  exact ⟨rfl, by repeat (first | exact Below.refl _ _ | apply below_alloc | refine below_step ?_ hb6 | refine below_step ?_ hb5 | refine below_step ?_ hb4 | refine below_step ?_ hb3 | refine below_step ?_ hb2 | refine below_step ?_ hb1)⟩
def wb1 : Bs 32 := b32 1 0
def wb2 : Bs 32 := b32 2 0
def wk1 : Key := ⟨1, wb1, 50⟩
def wk2 : Key := ⟨2, wb2, 0⟩
def wr1 : Rg := ⟨[wk1, wk2], 3⟩
theorem wakes_c12 : rotateF (firstF wb1) wb2 50 = (wr1, 0) := by decide +kernel
theorem wakes_c29 : curF wr1.keys wr1.next = wk2 := by decide +kernel
theorem wakes_c30 : findF 1 wr1.keys wr1.next = wk1 := by decide +kernel
theorem wakes_c14a : pruneF wr1 50 = ⟨[wk2], 3⟩ := by decide +kernel
theorem wakes_c14b : pruneF wr1 49 = wr1 := by decide +kernel
theorem wakes_d29 : decide (wk2 = zKey) = false := by decide +kernel
theorem wakes_d30 : decide (wk1 = zKey) = false := by decide +kernel
theorem wakes_any (w : World) : Calls Try.prog 26 #[] w fun e w' => e = .returned (.bool true) ∧ Below w.heap.size w w' := by
  refine wakes_gen wb1 wb2 wk1 wk2 (firstF wb1) wr1 w rfl (build70_1 1) (build70_1 2) wk2.arr_0 wk1.arr_33
    (fun w => (first_c wb1 w).mono fun _ _ ⟨A, c, h1, h2, h3⟩ => ⟨A, c, h1, h2.rk, h3⟩) ?_ ?_ ?_ ?_ ?_
  · intro w A c h
    have := rotate_c (firstF wb1) A c wb2 50 w h (by decide)
    rw [wakes_c12] at this
    exact this.mono fun _ _ ⟨A, c, h1, h2, h3⟩ => ⟨A, c, h1, h2.rk, h3⟩
  · intro w A c h
    have := cur_c wr1 A c w h
    rw [wakes_c29, wakes_d29] at this
    exact this
  · intro w A c h
    have := find_c wr1 A c 1 w h
    rw [wakes_c30, wakes_d30] at this
    exact this
  · intro w A c h
    have := prune_c wr1 A c 50 w h
    rw [wakes_c14a] at this
    exact this.mono fun _ _ ⟨A, c, h1, _, h2⟩ => ⟨A, c, h1, h2⟩
  · intro w A c h
    have := prune_c wr1 A c 49 w h
    rw [wakes_c14b] at this
    exact this.mono fun _ _ ⟨A, c, h1, _, h2⟩ => ⟨A, c, h1, h2⟩
end Go.Proofs.Ytnechcibpmjblaa
