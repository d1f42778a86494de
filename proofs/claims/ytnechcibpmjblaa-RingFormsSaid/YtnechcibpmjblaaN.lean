/- The walk of posternlaw5.grown: a life's ring is a ring. Conditions: the turns are read. -/
import Derived.Test.YtnechcibpmjblaaL
namespace Go.Proofs.Ytnechcibpmjblaa
open Go.RowKit Go.Proofs.YtnechcibpmjblaaW.PrintWords KB
set_option linter.unusedVariables false
set_option linter.unusedSimpArgs false

theorem ring_len (init : List Key) (last : Key) : (init ++ [last]).length = init.length + 1 := by simp
theorem rotate_cases {init : List Key} {last : Key} {next : Int} (h : IsRing init last next) (s : Bs 32) (u : Int) (hn : next < 9223372036854775807) :
    (∃ init' last', rotateF ⟨init ++ [last], next⟩ s u = (⟨init' ++ [last'], next + 1⟩, 0) ∧ IsRing init' last' (next + 1)) ∨ ∃ n, n ≠ 0 ∧ rotateF ⟨init ++ [last], next⟩ s u = (zRg, n) := by
  rw [h.rotate]
  by_cases h1 : u < 1
  · exact .inr ⟨52, by decide, by rw [if_pos h1]⟩
  rw [if_neg h1]
  by_cases h2 : init.length + 1 = 8 ∨ next = 9223372036854775807
  · exact .inr ⟨51, by decide, by rw [if_pos h2]⟩
  rw [if_neg h2]
  have := h.few
  exact .inl ⟨_, _, rfl, h.rotated s (by omega) (by omega) hn⟩
theorem distrust_cases {init : List Key} {last : Key} {next : Int} (h : IsRing init last next) (s : Bs 32) (kid : Int) (hn : next < 9223372036854775807) :
    (∃ init' last' next', distrustF ⟨init ++ [last], next⟩ kid s = (⟨init' ++ [last'], next'⟩, 0) ∧ IsRing init' last' next' ∧ next ≤ next' ∧ next' ≤ next + 1) ∨ ∃ n, n ≠ 0 ∧ distrustF ⟨init ++ [last], next⟩ kid s = (zRg, n) := by
  by_cases h1 : last.kid = kid
  · subst h1
    exact .inl ⟨init, ⟨next, s, 0⟩, next + 1, h.distrust_last s hn, h.replaced s hn, by omega, by omega⟩
  by_cases h2 : ∃ k ∈ init, k.kid = kid
  · obtain ⟨k, hk, rfl⟩ := h2
    exact .inl ⟨_, last, next, h.distrust_init hk s, h.sub List.filter_sublist, by omega, by omega⟩
  · refine .inr ⟨53, by decide, h.distrust_none s (fun k hk => ?_)⟩
    rcases List.mem_append.1 hk with hk | hk
    · exact fun e => h2 ⟨k, hk, e⟩
    · rw [List.mem_singleton.1 hk]; exact h1
theorem tells_ok {e : Ending} {w w' : World} {init : List Key} {last : Key} {next : Int} (h : Tells2 e w w' ⟨init ++ [last], next⟩ 0) : ∃ A c, e = .returned (.tuple #[.agg #[.slice A (init.length + 1) c, .int .u64 next], .int .i64 0]) ∧ RO w' A c ⟨init ++ [last], next⟩ ∧ Below w.heap.size w w' := by
  obtain ⟨A, c, he, hO, hb⟩ := h
  exact ⟨A, c, by rw [he]; simp only [ring_len], hO, hb⟩
theorem tells_no {e : Ending} {w w' : World} {n : Int} (h : Tells2 e w w' zRg n) : ∃ A c, e = .returned (.tuple #[.agg #[.slice A 0 c, .int .u64 0], .int .i64 n]) ∧ Below w.heap.size w w' := by
  obtain ⟨A, c, he, _, hb⟩ := h
  exact ⟨A, c, he, hb⟩
theorem RO.grown {w w1 : World} {A : Option Addr} {c : Nat} {r : Rg} {g t : Nat} {cells : Array Value} (h : RO w A c r) (hb : w.heap[g]? = some (.cells cells t (0, 0))) (ht : 107 ≠ t) (hg : w.grownBy w1 (some g)) : RO w1 A c r :=
  Kd.R_mono (Kd.R_grown (ok := fun k => True ∧ k ≠ g) (Kd.R_types h hb (fun q hq => by
    obtain rfl : q = 107 := by simpa [kKey, kBlk] using hq
    exact ht)) hg (fun k hk he => hk.2 (by injection he))) (fun _ _ => trivial)
theorem prune_r {init : List Key} {last : Key} {next : Int} (h : IsRing init last next) (A : Option Addr) (c : Nat) (now : Int) (w : World) (hO : RO w A c ⟨init ++ [last], next⟩) :
    Calls Try.prog 14 #[.agg #[.slice A (init.length + 1) c, .int .u64 next], .int .i64 now] w fun e w' => ∃ A' c' init', e = .returned (.agg #[.slice A' (List.length init' + 1) c', .int .u64 next]) ∧ RO w' A' c' ⟨init' ++ [last], next⟩ ∧ IsRing init' last next ∧ Below w.heap.size w w' := by
  have := prune_c ⟨init ++ [last], next⟩ A c now w hO.rk
  rw [h.prune] at this
  simp only [ring_len] at this
  refine this.mono fun _ _ ⟨A', c', he, hO', hb⟩ => ⟨A', c', _, ?_, hO', h.pruned now, hb⟩
  rw [he]
  simp only [ring_len]
set_option maxHeartbeats 8000000 in
set_option maxRecDepth 100000 in
theorem grown_any (s : Bs 32) (ts : List Turn) (A : Option Addr) (c : Nat) (w : World) (hr : kTurn.C w A ts.length ts) (hc : ts.length ≤ c) :
    Calls Try.prog 28 #[.agg (lifeArr s (.slice A ts.length c))] w fun e w' => ∃ A' c' init last next, e = .returned (.tuple #[.agg #[.slice A' (init.length + 1) c', .int .u64 next], .bool true]) ∧ RO w' A' c' ⟨init ++ [last], next⟩ ∧ IsRing init last next ∧ next ≤ 42 ∧ Below w.heap.size w w' := by
  have hu94 := Try.underlying94
  have hu99 := Try.underlying99
  have hu92 := Try.underlying92
  have hu69 := Try.underlying69
  have hz99 := zero99
  have hl32 := life_32 s (.slice A ts.length c)
  have hmax := Kd.C_max hr
  have hR := Aside0.mk hr
  clear hr
  have hBel2 : Aside0 (Below w.heap.size w ((w.alloc (.cells (lifeArr s (.slice A ts.length c)) 94)).alloc (.cells #[.slice none 0 0, .int .u64 0] 69))) := ⟨by repeat (first | exact Below.refl _ _ | apply below_alloc)⟩
  have hb0 : Aside0 (((w.alloc (.cells (lifeArr s (.slice A ts.length c)) 94)).alloc (.cells #[.slice none 0 0, .int .u64 0] 69)).heap[w.heap.size]? = some (.cells (lifeArr s (.slice A ts.length c)) 94 (0, 0))) := ⟨blk_alloc (blk_new _ _) _⟩
  have hb1 : Aside0 (((w.alloc (.cells (lifeArr s (.slice A ts.length c)) 94)).alloc (.cells #[.slice none 0 0, .int .u64 0] 69)).heap[w.heap.size + 1]? = some (.cells #[.slice none 0 0, .int .u64 0] 69 (0, 0))) := ⟨by rw [← alloc_size w (.cells (lifeArr s (.slice A ts.length c)) 94)]; exact blk_new _ _⟩
  have hsec : Aside0 (At ((w.alloc (.cells (lifeArr s (.slice A ts.length c)) 94)).alloc (.cells #[.slice none 0 0, .int .u64 0] 69)) ⟨w.heap.size, 0, none⟩ s.cs) := ⟨life_sec (at_block hb0.out)⟩
  have hcall := first_c s ((w.alloc (.cells (lifeArr s (.slice A ts.length c)) 94)).alloc (.cells #[.slice none 0 0, .int .u64 0] 69))
  have hs2 : Aside0 (w.heap.size + 1 < ((w.alloc (.cells (lifeArr s (.slice A ts.length c)) 94)).alloc (.cells #[.slice none 0 0, .int .u64 0] 69)).heap.size) := ⟨by simp⟩
  go_enter Try.func28, Try.ntmps28
  go_wp2_with (first | (go_at_call 10; refine hcall.mono ?_; rintro e w1 ⟨A1, c1, rfl, hO1, hb⟩) | ((with_reducible refine gate_ (.load 70 _) rfl ?_); refine list_exec (by rfl) (.agg s.cs.toArray) (exec_load70 _ rfl _ rfl s hsec.out) ?_))
  go_loopg [5] 40 (fun kq v5 w' => ∃ (k : Nat) (A' : Option Addr) (c' : Nat) (init : List Key) (last : Key) (next : Int), v5 = .int .i64 k ∧ k ≤ 40 ∧ Hid (k + kq = 40) ∧ Aside0 (IsRing init last next) ∧ Aside0 (0 ≤ next ∧ next ≤ k + 2) ∧ Aside0 (w'.heap[w1.heap.size]? = some (.cells #[.slice A' (init.length + 1) c', .int .u64 next] 69 (0, 0))) ∧ Aside0 (RO w' A' c' ⟨init ++ [last], next⟩) ∧ Aside0 (w'.heap[w.heap.size]? = some (.cells (lifeArr s (.slice A ts.length c)) 94 (0, 0))) ∧ Aside0 (w'.heap[w.heap.size + 1]? = some (.cells #[.slice none 0 0, .int .u64 0] 69 (0, 0))) ∧ Aside0 (Below w.heap.size w w') ∧ Aside0 (w.heap.size + 1 < w1.heap.size ∧ w1.heap.size < w'.heap.size))
  case atStart =>
    exact ⟨0, A1, c1, [], ⟨1, s, 0⟩, 2, rfl, by omega, Lib.hid rfl, ⟨first_ring s⟩, ⟨by omega, by omega⟩, ⟨blk_new _ _⟩, ⟨hO1.alloc _⟩, ⟨blk_alloc (blk_below hb0.out hb) _⟩, ⟨blk_alloc (blk_below hb1.out hb) _⟩, ⟨below_alloc (below_step hBel2.out hb) _⟩, ⟨by have := hs2.out; have := hb.size; omega, by rw [alloc_size]; omega⟩⟩
  case round =>
    obtain ⟨k, A', c', init, last, next, rfl, hk, hkq, hring, hnx, hB4, hO, hB0, hB1, hBel, hsz⟩ := hrel
    have b0 : wr.cell? ⟨w.heap.size, 32, none⟩ = some (.slice A ts.length c) := (blk_cell hB0.out 32).trans hl32
    have r0 : wr.cell? ⟨w1.heap.size, 0, none⟩ = some (.slice A' (init.length + 1) c') := (blk_cell hB4.out 0).trans rfl
    have r1 : wr.cell? ⟨w1.heap.size, 1, none⟩ = some (.int .u64 next) := (blk_cell hB4.out 1).trans rfl
    obtain ⟨hz1, hz2⟩ := hsz.out
    have hz3 : w.heap.size < wr.heap.size := by omega
    have f0 := blk_frozen hB4.out 0
    have f1 := blk_frozen hB4.out 1
    by_cases hc1 : k < ts.length ∧ k < 40
    · obtain ⟨hc1, hc2⟩ := hc1
      obtain ⟨ad, rfl, ym, _, _, _⟩ := at_Turn (Kd.C_below hR.out hBel.out) (k : Int) (by omega) (by omega)
      rw [show (k : Int).toNat = k from rfl] at ym
      have j1 : (k : Int) < (ts.length : Int) := by omega
      have j2 : (k : Int) < 40 := by omega
      generalize rdT ts (k : Int) = o at *
      have ho0 := o.arr_0
      have ho33 := o.arr_33
      have ho34 := o.arr_34
      have hym := Aside0.mk ym
      have hos : Aside0 (At (wr.alloc (.cells o.arr 99)) ⟨wr.heap.size, 1, none⟩ o.sec.cs) := ⟨turn_sec (p := ⟨wr.heap.size, 0, none⟩) (at_block (blk_new _ _))⟩
      have hOt : Aside0 (RO (wr.alloc (.cells o.arr 99)) A' c' ⟨init ++ [last], next⟩) := ⟨hO.out.alloc _⟩
      clear ym
      by_cases a1 : o.act = 1
      · have q1 : (o.act == 1) = true := by simp [a1]
        have hcp := prune_r hring.out A' c' o.at_ _ hOt.out
        clear a1
        go_wp2_with (first | ((with_reducible refine gate_ (.load 99 _) rfl ?_); refine list_exec (by rfl) (.agg o.arr) (exec_load99 _ rfl _ rfl o hym.out) ?_) | ((with_reducible refine gate_ (.store 99 _ _) rfl ?_); refine new_turn rfl _ _ rfl zTurn o rfl rfl ?_) | ((with_reducible refine gate_ (.load 70 _) rfl ?_); refine list_exec (by rfl) (.agg o.sec.cs.toArray) (exec_load70 _ rfl _ rfl o.sec hos.out) ?_) | (go_at_call 14; refine hcp.mono ?_; rintro e w2 ⟨A2, c2, init2, rfl, hO2, hR2, hb2⟩; obtain ⟨hbc, hbf⟩ := bcell hb2; have hz4 : w1.heap.size < w2.heap.size := (by have := hb2.size; rw [alloc_size] at this; omega)))
        go_roundg (gk - 1)
        case measure => have := hkq.out; omega
        case rel =>
          have d4 := blk_below (blk_alloc hB4.out (.cells o.arr 99)) hb2
          have d0 := blk_below (blk_alloc hB0.out (.cells o.arr 99)) hb2
          have d1 := blk_below (blk_alloc hB1.out (.cells o.arr 99)) hb2
          exact ⟨k + 1, A2, c2, init2, last, next, by go_num, by omega, Lib.hid (by have := hkq.out; omega), ⟨hR2⟩, ⟨hnx.out.1, by have := hnx.out.2; omega⟩, ⟨blk_put (blk_put d4 0 _ rfl) 1 _ rfl⟩, ⟨(hO2.set d4 (by decide) 0 _).set (blk_put d4 0 _ rfl) (by decide) 1 _⟩, ⟨blk_far (blk_far d0 (by show w.heap.size ≠ w1.heap.size; omega) _) (by show w.heap.size ≠ w1.heap.size; omega) _⟩, ⟨blk_far (blk_far d1 (by show w.heap.size + 1 ≠ w1.heap.size; omega) _) (by show w.heap.size + 1 ≠ w1.heap.size; omega) _⟩, ⟨below_set (below_set (below_step (below_alloc hBel.out _) hb2) (by omega)) (by omega)⟩, ⟨hz1, by simp [World.setCell]; omega⟩⟩
      · have q1 : (o.act == 1) = false := by simp [a1]
        have hnl : next < 9223372036854775807 := by have := hnx.out.2; omega
        clear a1
        by_cases a2 : o.act = 2
        · have q2 : (o.act == 2) = true := by simp [a2]
          clear a2
          have hcd := distrust_c ⟨init ++ [last], next⟩ A' c' o.kid o.sec _ hOt.out.rk hnx.out.1
          simp only [ring_len] at hcd
          rcases distrust_cases hring.out o.sec o.kid hnl with ⟨init2, last2, next2, hd, hR2, hn1, hn2⟩ | ⟨n, hn0, hd⟩
          · rw [hd] at hcd
            replace hcd := hcd.mono fun _ _ (h : Tells2 _ _ _ ⟨init2 ++ [last2], next2⟩ 0) => tells_ok h
            clear hd hn1
            go_wp2_with (first | ((with_reducible refine gate_ (.load 99 _) rfl ?_); refine list_exec (by rfl) (.agg o.arr) (exec_load99 _ rfl _ rfl o hym.out) ?_) | ((with_reducible refine gate_ (.store 99 _ _) rfl ?_); refine new_turn rfl _ _ rfl zTurn o rfl rfl ?_) | ((with_reducible refine gate_ (.load 70 _) rfl ?_); refine list_exec (by rfl) (.agg o.sec.cs.toArray) (exec_load70 _ rfl _ rfl o.sec hos.out) ?_) | (go_at_call 16; refine hcd.mono ?_; rintro e w2 ⟨A2, c2, rfl, hO2, hb2⟩; obtain ⟨hbc, hbf⟩ := bcell hb2; have hz4 : w1.heap.size < w2.heap.size := (by have := hb2.size; rw [alloc_size] at this; omega)) | (go_at_call 22; refine (num_any _ _).mono ?_; rintro e wn ⟨rfl, rfl⟩))
            go_roundg (gk - 1)
            case measure => have := hkq.out; omega
            case rel =>
              have d4 := blk_below (blk_alloc hB4.out (.cells o.arr 99)) hb2
              have d0 := blk_below (blk_alloc hB0.out (.cells o.arr 99)) hb2
              have d1 := blk_below (blk_alloc hB1.out (.cells o.arr 99)) hb2
              exact ⟨k + 1, A2, c2, init2, last2, next2, by go_num, by omega, Lib.hid (by have := hkq.out; omega), ⟨hR2⟩, ⟨by have := hR2.pos last2 (by simp); have := hR2.below; omega, by have := hnx.out.2; omega⟩, ⟨blk_alloc (blk_put (blk_put d4 0 _ rfl) 1 _ rfl) _⟩, ⟨((hO2.set d4 (by decide) 0 _).set (blk_put d4 0 _ rfl) (by decide) 1 _).alloc _⟩, ⟨blk_alloc (blk_far (blk_far d0 (by show w.heap.size ≠ w1.heap.size; omega) _) (by show w.heap.size ≠ w1.heap.size; omega) _) _⟩, ⟨blk_alloc (blk_far (blk_far d1 (by show w.heap.size + 1 ≠ w1.heap.size; omega) _) (by show w.heap.size + 1 ≠ w1.heap.size; omega) _) _⟩, ⟨below_alloc (below_set (below_set (below_step (below_alloc hBel.out _) hb2) (by omega)) (by omega)) _⟩, ⟨hz1, by rw [alloc_size]; simp [World.setCell]; omega⟩⟩
          · rw [hd] at hcd
            replace hcd := hcd.mono fun _ _ (h : Tells2 _ _ _ zRg n) => tells_no h
            have hnn : (n == 0) = false := by simp [hn0]
            clear hd hn0
            go_wp2_with (first | ((with_reducible refine gate_ (.load 99 _) rfl ?_); refine list_exec (by rfl) (.agg o.arr) (exec_load99 _ rfl _ rfl o hym.out) ?_) | ((with_reducible refine gate_ (.store 99 _ _) rfl ?_); refine new_turn rfl _ _ rfl zTurn o rfl rfl ?_) | ((with_reducible refine gate_ (.load 70 _) rfl ?_); refine list_exec (by rfl) (.agg o.sec.cs.toArray) (exec_load70 _ rfl _ rfl o.sec hos.out) ?_) | (go_at_call 16; refine hcd.mono ?_; rintro e w2 ⟨A2, c2, rfl, hb2⟩; obtain ⟨hbc, hbf⟩ := bcell hb2; have hz4 : w1.heap.size < w2.heap.size := (by have := hb2.size; rw [alloc_size] at this; omega)) | (go_at_call 22; refine (num_any _ _).mono ?_; rintro e wn ⟨rfl, rfl⟩))
            go_roundg (gk - 1)
            case measure => have := hkq.out; omega
            case rel =>
              have d4 := blk_below (blk_alloc hB4.out (.cells o.arr 99)) hb2
              have d0 := blk_below (blk_alloc hB0.out (.cells o.arr 99)) hb2
              have d1 := blk_below (blk_alloc hB1.out (.cells o.arr 99)) hb2
              exact ⟨k + 1, A', c', init, last, next, by go_num, by omega, Lib.hid (by have := hkq.out; omega), hring, ⟨hnx.out.1, by have := hnx.out.2; omega⟩, ⟨blk_alloc d4 _⟩, ⟨(hOt.out.below hb2).alloc _⟩, ⟨blk_alloc d0 _⟩, ⟨blk_alloc d1 _⟩, ⟨below_alloc (below_step (below_alloc hBel.out _) hb2) _⟩, ⟨hz1, by rw [alloc_size]; omega⟩⟩
        · have q2 : (o.act == 2) = false := by simp [a2]
          clear a2
          have hcd := rotate_c ⟨init ++ [last], next⟩ A' c' o.sec o.at_ _ hOt.out.rk hnx.out.1
          simp only [ring_len] at hcd
          rcases rotate_cases hring.out o.sec o.at_ hnl with ⟨init2, last2, hd, hR2⟩ | ⟨n, hn0, hd⟩
          · obtain ⟨next2, hn2⟩ : ∃ next2, next2 = next + 1 := ⟨_, rfl⟩
            rw [← hn2] at hd hR2
            rw [hd] at hcd
            replace hcd := hcd.mono fun _ _ (h : Tells2 _ _ _ ⟨init2 ++ [last2], next2⟩ 0) => tells_ok h
            replace hn2 : next2 ≤ next + 1 := by omega
            clear hd
            go_wp2_with (first | ((with_reducible refine gate_ (.load 99 _) rfl ?_); refine list_exec (by rfl) (.agg o.arr) (exec_load99 _ rfl _ rfl o hym.out) ?_) | ((with_reducible refine gate_ (.store 99 _ _) rfl ?_); refine new_turn rfl _ _ rfl zTurn o rfl rfl ?_) | ((with_reducible refine gate_ (.load 70 _) rfl ?_); refine list_exec (by rfl) (.agg o.sec.cs.toArray) (exec_load70 _ rfl _ rfl o.sec hos.out) ?_) | (go_at_call 12; refine hcd.mono ?_; rintro e w2 ⟨A2, c2, rfl, hO2, hb2⟩; obtain ⟨hbc, hbf⟩ := bcell hb2; have hz4 : w1.heap.size < w2.heap.size := (by have := hb2.size; rw [alloc_size] at this; omega)) | (go_at_call 22; refine (num_any _ _).mono ?_; rintro e wn ⟨rfl, rfl⟩))
            go_roundg (gk - 1)
            case measure => have := hkq.out; omega
            case rel =>
              have d4 := blk_below (blk_alloc hB4.out (.cells o.arr 99)) hb2
              have d0 := blk_below (blk_alloc hB0.out (.cells o.arr 99)) hb2
              have d1 := blk_below (blk_alloc hB1.out (.cells o.arr 99)) hb2
              exact ⟨k + 1, A2, c2, init2, last2, next2, by go_num, by omega, Lib.hid (by have := hkq.out; omega), ⟨hR2⟩, ⟨by have := hR2.pos last2 (by simp); have := hR2.below; omega, by have := hnx.out.2; omega⟩, ⟨blk_alloc (blk_put (blk_put d4 0 _ rfl) 1 _ rfl) _⟩, ⟨((hO2.set d4 (by decide) 0 _).set (blk_put d4 0 _ rfl) (by decide) 1 _).alloc _⟩, ⟨blk_alloc (blk_far (blk_far d0 (by show w.heap.size ≠ w1.heap.size; omega) _) (by show w.heap.size ≠ w1.heap.size; omega) _) _⟩, ⟨blk_alloc (blk_far (blk_far d1 (by show w.heap.size + 1 ≠ w1.heap.size; omega) _) (by show w.heap.size + 1 ≠ w1.heap.size; omega) _) _⟩, ⟨below_alloc (below_set (below_set (below_step (below_alloc hBel.out _) hb2) (by omega)) (by omega)) _⟩, ⟨hz1, by rw [alloc_size]; simp [World.setCell]; omega⟩⟩
          · rw [hd] at hcd
            replace hcd := hcd.mono fun _ _ (h : Tells2 _ _ _ zRg n) => tells_no h
            have hnn : (n == 0) = false := by simp [hn0]
            clear hd hn0
            go_wp2_with (first | ((with_reducible refine gate_ (.load 99 _) rfl ?_); refine list_exec (by rfl) (.agg o.arr) (exec_load99 _ rfl _ rfl o hym.out) ?_) | ((with_reducible refine gate_ (.store 99 _ _) rfl ?_); refine new_turn rfl _ _ rfl zTurn o rfl rfl ?_) | ((with_reducible refine gate_ (.load 70 _) rfl ?_); refine list_exec (by rfl) (.agg o.sec.cs.toArray) (exec_load70 _ rfl _ rfl o.sec hos.out) ?_) | (go_at_call 12; refine hcd.mono ?_; rintro e w2 ⟨A2, c2, rfl, hb2⟩; obtain ⟨hbc, hbf⟩ := bcell hb2; have hz4 : w1.heap.size < w2.heap.size := (by have := hb2.size; rw [alloc_size] at this; omega)) | (go_at_call 22; refine (num_any _ _).mono ?_; rintro e wn ⟨rfl, rfl⟩))
            go_roundg (gk - 1)
            case measure => have := hkq.out; omega
            case rel =>
              have d4 := blk_below (blk_alloc hB4.out (.cells o.arr 99)) hb2
              have d0 := blk_below (blk_alloc hB0.out (.cells o.arr 99)) hb2
              have d1 := blk_below (blk_alloc hB1.out (.cells o.arr 99)) hb2
              exact ⟨k + 1, A', c', init, last, next, by go_num, by omega, Lib.hid (by have := hkq.out; omega), hring, ⟨hnx.out.1, by have := hnx.out.2; omega⟩, ⟨blk_alloc d4 _⟩, ⟨(hOt.out.below hb2).alloc _⟩, ⟨blk_alloc d0 _⟩, ⟨blk_alloc d1 _⟩, ⟨below_alloc (below_step (below_alloc hBel.out _) hb2) _⟩, ⟨hz1, by rw [alloc_size]; omega⟩⟩
    · by_cases hc2 : k < ts.length
      · have p1 : decide ((k : Int) < (ts.length : Int)) = true := decide_eq_true (by omega)
        have p1' : decide (k < ts.length) = true := decide_eq_true hc2
        have p2 : decide ((k : Int) < 40) = false := decide_eq_false (by omega)
        clear hc1 hc2
        go_wp2
        have hck := check_c ⟨init ++ [last], next⟩ A' c' wr.drew (hO.out.rk.below (below_drew1 (Below.refl _ wr)))
        simp only [ring_len] at hck
        rw [show errK (init ++ [last]) next = 0 by unfold errK; rw [check_of_isRing hring.out]; rfl] at hck
        have d1 : decide ((0 : Int) < (init.length : Int) + 1) = true := decide_eq_true (by omega)
        refine wp_region_held_drew (S := fun w' => w'.cell? ⟨w1.heap.size, 0, none⟩ = some (.slice A' (init.length + 1) c') ∧ w'.cell? ⟨w1.heap.size, 1, none⟩ = some (.int .u64 next)) (by kernel_rfl) ⟨r0, r1⟩ (fun hHeld => ?_)
        refine wpAnyH_take (i := 0) (v := (.agg #[.slice A' (init.length + 1) c', .int .u64 next])) rfl (by kernel_rfl) (by kernel_rfl) (by kernel_rfl) (fun _ _ _ h => h) (Or.inl ⟨by rfl, fun w hS => by have h1 := hS.1; have h2 := hS.2; clear hS; go_simp⟩) hHeld ?_
        try simp only [Act.put, List.setIfInBounds_toArray, List.set_cons_zero, List.set_cons_succ, List.getElem_toArray, List.getElem_cons_succ, List.getElem_cons_zero]
        refine wpAnyH_take (i := 1) (v := (.agg #[.slice A' (init.length + 1) c', .int .u64 next])) rfl (by kernel_rfl) (by kernel_rfl) (by kernel_rfl) (fun _ _ _ h => h) (Or.inl ⟨by rfl, fun w hS => by have h1 := hS.1; have h2 := hS.2; clear hS; go_simp⟩) hHeld ?_
        try simp only [Act.put, List.setIfInBounds_toArray, List.set_cons_zero, List.set_cons_succ, List.getElem_toArray, List.getElem_cons_succ, List.getElem_cons_zero]
        refine wpAnyH_ready (rs := [2]) (by kernel_rfl) (by simp) ?_
        refine AllReadyH.cons rfl (fun K hK => ?_) AllReadyH.nil
        go_simp
        refine hck.mono ?_
        rintro e w5 ⟨rfl, hb5⟩
        refine hK.out _ _ ⟨(hb5.cell (p := ⟨w1.heap.size, 0, none⟩) hz2).trans hHeld.1, (hb5.cell (p := ⟨w1.heap.size, 1, none⟩) hz2).trans hHeld.2⟩ (fun hHeld5 => ?_)
        clear hK
        try simp only [Act.put, List.setIfInBounds_toArray, List.set_cons_zero, List.set_cons_succ, List.getElem_toArray, List.getElem_cons_succ, List.getElem_cons_zero]
        refine wpAnyH_ready (rs := [3]) (by kernel_rfl) (by simp) ?_
        refine AllReadyH.cons rfl (fun K hK => ?_) AllReadyH.nil
        go_simp
        refine (num_any _ _).mono ?_
        rintro e wn ⟨rfl, rfl⟩
        refine hK.out _ _ hHeld5 (fun hHeld6 => ?_)
        clear hK
        try simp only [Act.put, List.setIfInBounds_toArray, List.set_cons_zero, List.set_cons_succ, List.getElem_toArray, List.getElem_cons_succ, List.getElem_cons_zero]
        refine wpAnyH_take (i := 4) (v := (.bool true)) rfl (by kernel_rfl) (by kernel_rfl) (by kernel_rfl) (fun _ _ _ h => h) (Or.inl ⟨by rfl, fun w hS => by have h1 := hS.1; have h2 := hS.2; clear hS; go_simp⟩) hHeld6 ?_
        try simp only [Act.put, List.setIfInBounds_toArray, List.set_cons_zero, List.set_cons_succ, List.getElem_toArray, List.getElem_cons_succ, List.getElem_cons_zero]
        refine wpAnyH_take (i := 5) (v := (.bool true)) rfl (by kernel_rfl) (by kernel_rfl) (by kernel_rfl) (fun _ _ _ h => h) (Or.inl ⟨by rfl, fun w hS => by have h1 := hS.1; have h2 := hS.2; clear hS; go_simp⟩) hHeld6 ?_
        try simp only [Act.put, List.setIfInBounds_toArray, List.set_cons_zero, List.set_cons_succ, List.getElem_toArray, List.getElem_cons_succ, List.getElem_cons_zero]
        refine wpAnyH_take (i := 6) (v := (.pointer (some ⟨w1.heap.size, 0, none⟩))) rfl (by kernel_rfl) (by kernel_rfl) (by kernel_rfl) (fun _ _ _ h => h) (Or.inl ⟨by rfl, fun w hS => by have h1 := hS.1; have h2 := hS.2; clear hS; go_simp⟩) hHeld6 ?_
        try simp only [Act.put, List.setIfInBounds_toArray, List.set_cons_zero, List.set_cons_succ, List.getElem_toArray, List.getElem_cons_succ, List.getElem_cons_zero]
        refine wpAnyH_take (i := 7) (v := (.slice A' (init.length + 1) c')) rfl (by kernel_rfl) (by kernel_rfl) (by kernel_rfl) (fun _ _ _ h => h) (Or.inl ⟨by rfl, fun w hS => by have h1 := hS.1; have h2 := hS.2; clear hS; go_simp⟩) hHeld6 ?_
        try simp only [Act.put, List.setIfInBounds_toArray, List.set_cons_zero, List.set_cons_succ, List.getElem_toArray, List.getElem_cons_succ, List.getElem_cons_zero]
        refine wpAnyH_take (i := 8) (v := (.int .i64 ((init.length : Int) + 1))) rfl (by kernel_rfl) (by kernel_rfl) (by kernel_rfl) (fun _ _ _ h => h) (Or.inl ⟨by rfl, fun w hS => by have h1 := hS.1; have h2 := hS.2; clear hS; go_simp⟩) hHeld6 ?_
        try simp only [Act.put, List.setIfInBounds_toArray, List.set_cons_zero, List.set_cons_succ, List.getElem_toArray, List.getElem_cons_succ, List.getElem_cons_zero]
        refine wpAnyH_take (i := 9) (v := (.bool true)) rfl (by kernel_rfl) (by kernel_rfl) (by kernel_rfl) (fun _ _ _ h => h) (Or.inl ⟨by rfl, fun w hS => by have h1 := hS.1; have h2 := hS.2; clear hS; go_simp⟩) hHeld6 ?_
        try simp only [Act.put, List.setIfInBounds_toArray, List.set_cons_zero, List.set_cons_succ, List.getElem_toArray, List.getElem_cons_succ, List.getElem_cons_zero]
        refine wpAnyH_take (i := 10) (v := (.bool true)) rfl (by kernel_rfl) (by kernel_rfl) (by kernel_rfl) (fun _ _ _ h => h) (Or.inl ⟨by rfl, fun w hS => by have h1 := hS.1; have h2 := hS.2; clear hS; go_simp⟩) hHeld6 ?_
        try simp only [Act.put, List.setIfInBounds_toArray, List.set_cons_zero, List.set_cons_succ, List.getElem_toArray, List.getElem_cons_succ, List.getElem_cons_zero]
        have b15 := blk_below (w := wr.drew) hB1.out hb5
        refine wpAnyH_ready (rs := [11]) (by kernel_rfl) (by simp) ?_
        refine AllReadyH.cons rfl (fun K hK => ?_) AllReadyH.nil
        rw [if_pos (by rfl)]
        refine wp_put_row 69 _ _ rfl _ 69 _ #[.slice A' (init.length + 1) c', .int .u64 next] b15 rfl rfl (by kernel_rfl) rfl (two_one _ _ rfl rfl) (fun w6 hB6 hg6 hz6 => ?_)
        refine hK.out _ _ ⟨cell_grown hHeld6.1 hg6 (by simp; omega), cell_grown hHeld6.2 hg6 (by simp; omega)⟩ (fun hHeld7 => ?_)
        clear hK
        try simp only [Act.put, List.setIfInBounds_toArray, List.set_cons_zero, List.set_cons_succ, List.getElem_toArray, List.getElem_cons_succ, List.getElem_cons_zero]
        refine wpAnyH_take (i := 12) (v := .bool true) rfl (by kernel_rfl) (by kernel_rfl) (by kernel_rfl) (fun _ _ _ h => h) (Or.inl ⟨by rfl, fun w hS => by unfold execOp; rfl⟩) hHeld7 ?_
        try simp only [Act.put, List.setIfInBounds_toArray, List.set_cons_zero, List.set_cons_succ, List.getElem_toArray, List.getElem_cons_succ, List.getElem_cons_zero]
        refine wpAnyH_done (by kernel_rfl) ?_ _
        go_wp2
        have hbel : Below w.heap.size w w5 := below_step (below_drew1 hBel.out) hb5
        exact bodyPost_ret (results_ring2 Try.underlying69 (by kernel_rfl) rfl rfl hB6) rfl
          ⟨A', c', init, last, next, rfl, ((hO.out.below (below_drew1 (Below.refl _ wr))).below hb5).grown b15 (by decide) hg6, hring.out, by have := hnx.out.2; omega, pw_below_grown hbel _ hbel.size hg6 (fun k hk => by injection hk with hk; omega)⟩
      · have p1 : decide ((k : Int) < (ts.length : Int)) = false := decide_eq_false (by omega)
        have p1' : decide (k < ts.length) = false := decide_eq_false hc2
        clear hc1 hc2
        go_wp2
        have hck := check_c ⟨init ++ [last], next⟩ A' c' wr.drew (hO.out.rk.below (below_drew1 (Below.refl _ wr)))
        simp only [ring_len] at hck
        rw [show errK (init ++ [last]) next = 0 by unfold errK; rw [check_of_isRing hring.out]; rfl] at hck
        have d1 : decide ((0 : Int) < (init.length : Int) + 1) = true := decide_eq_true (by omega)
        refine wp_region_held_drew (S := fun w' => w'.cell? ⟨w1.heap.size, 0, none⟩ = some (.slice A' (init.length + 1) c') ∧ w'.cell? ⟨w1.heap.size, 1, none⟩ = some (.int .u64 next)) (by kernel_rfl) ⟨r0, r1⟩ (fun hHeld => ?_)
        refine wpAnyH_take (i := 0) (v := (.agg #[.slice A' (init.length + 1) c', .int .u64 next])) rfl (by kernel_rfl) (by kernel_rfl) (by kernel_rfl) (fun _ _ _ h => h) (Or.inl ⟨by rfl, fun w hS => by have h1 := hS.1; have h2 := hS.2; clear hS; go_simp⟩) hHeld ?_
        try simp only [Act.put, List.setIfInBounds_toArray, List.set_cons_zero, List.set_cons_succ, List.getElem_toArray, List.getElem_cons_succ, List.getElem_cons_zero]
        refine wpAnyH_take (i := 1) (v := (.agg #[.slice A' (init.length + 1) c', .int .u64 next])) rfl (by kernel_rfl) (by kernel_rfl) (by kernel_rfl) (fun _ _ _ h => h) (Or.inl ⟨by rfl, fun w hS => by have h1 := hS.1; have h2 := hS.2; clear hS; go_simp⟩) hHeld ?_
        try simp only [Act.put, List.setIfInBounds_toArray, List.set_cons_zero, List.set_cons_succ, List.getElem_toArray, List.getElem_cons_succ, List.getElem_cons_zero]
        refine wpAnyH_ready (rs := [2]) (by kernel_rfl) (by simp) ?_
        refine AllReadyH.cons rfl (fun K hK => ?_) AllReadyH.nil
        go_simp
        refine hck.mono ?_
        rintro e w5 ⟨rfl, hb5⟩
        refine hK.out _ _ ⟨(hb5.cell (p := ⟨w1.heap.size, 0, none⟩) hz2).trans hHeld.1, (hb5.cell (p := ⟨w1.heap.size, 1, none⟩) hz2).trans hHeld.2⟩ (fun hHeld5 => ?_)
        clear hK
        try simp only [Act.put, List.setIfInBounds_toArray, List.set_cons_zero, List.set_cons_succ, List.getElem_toArray, List.getElem_cons_succ, List.getElem_cons_zero]
        refine wpAnyH_ready (rs := [3]) (by kernel_rfl) (by simp) ?_
        refine AllReadyH.cons rfl (fun K hK => ?_) AllReadyH.nil
        go_simp
        refine (num_any _ _).mono ?_
        rintro e wn ⟨rfl, rfl⟩
        refine hK.out _ _ hHeld5 (fun hHeld6 => ?_)
        clear hK
        try simp only [Act.put, List.setIfInBounds_toArray, List.set_cons_zero, List.set_cons_succ, List.getElem_toArray, List.getElem_cons_succ, List.getElem_cons_zero]
        refine wpAnyH_take (i := 4) (v := (.bool true)) rfl (by kernel_rfl) (by kernel_rfl) (by kernel_rfl) (fun _ _ _ h => h) (Or.inl ⟨by rfl, fun w hS => by have h1 := hS.1; have h2 := hS.2; clear hS; go_simp⟩) hHeld6 ?_
        try simp only [Act.put, List.setIfInBounds_toArray, List.set_cons_zero, List.set_cons_succ, List.getElem_toArray, List.getElem_cons_succ, List.getElem_cons_zero]
        refine wpAnyH_take (i := 5) (v := (.bool true)) rfl (by kernel_rfl) (by kernel_rfl) (by kernel_rfl) (fun _ _ _ h => h) (Or.inl ⟨by rfl, fun w hS => by have h1 := hS.1; have h2 := hS.2; clear hS; go_simp⟩) hHeld6 ?_
        try simp only [Act.put, List.setIfInBounds_toArray, List.set_cons_zero, List.set_cons_succ, List.getElem_toArray, List.getElem_cons_succ, List.getElem_cons_zero]
        refine wpAnyH_take (i := 6) (v := (.pointer (some ⟨w1.heap.size, 0, none⟩))) rfl (by kernel_rfl) (by kernel_rfl) (by kernel_rfl) (fun _ _ _ h => h) (Or.inl ⟨by rfl, fun w hS => by have h1 := hS.1; have h2 := hS.2; clear hS; go_simp⟩) hHeld6 ?_
        try simp only [Act.put, List.setIfInBounds_toArray, List.set_cons_zero, List.set_cons_succ, List.getElem_toArray, List.getElem_cons_succ, List.getElem_cons_zero]
        refine wpAnyH_take (i := 7) (v := (.slice A' (init.length + 1) c')) rfl (by kernel_rfl) (by kernel_rfl) (by kernel_rfl) (fun _ _ _ h => h) (Or.inl ⟨by rfl, fun w hS => by have h1 := hS.1; have h2 := hS.2; clear hS; go_simp⟩) hHeld6 ?_
        try simp only [Act.put, List.setIfInBounds_toArray, List.set_cons_zero, List.set_cons_succ, List.getElem_toArray, List.getElem_cons_succ, List.getElem_cons_zero]
        refine wpAnyH_take (i := 8) (v := (.int .i64 ((init.length : Int) + 1))) rfl (by kernel_rfl) (by kernel_rfl) (by kernel_rfl) (fun _ _ _ h => h) (Or.inl ⟨by rfl, fun w hS => by have h1 := hS.1; have h2 := hS.2; clear hS; go_simp⟩) hHeld6 ?_
        try simp only [Act.put, List.setIfInBounds_toArray, List.set_cons_zero, List.set_cons_succ, List.getElem_toArray, List.getElem_cons_succ, List.getElem_cons_zero]
        refine wpAnyH_take (i := 9) (v := (.bool true)) rfl (by kernel_rfl) (by kernel_rfl) (by kernel_rfl) (fun _ _ _ h => h) (Or.inl ⟨by rfl, fun w hS => by have h1 := hS.1; have h2 := hS.2; clear hS; go_simp⟩) hHeld6 ?_
        try simp only [Act.put, List.setIfInBounds_toArray, List.set_cons_zero, List.set_cons_succ, List.getElem_toArray, List.getElem_cons_succ, List.getElem_cons_zero]
        refine wpAnyH_take (i := 10) (v := (.bool true)) rfl (by kernel_rfl) (by kernel_rfl) (by kernel_rfl) (fun _ _ _ h => h) (Or.inl ⟨by rfl, fun w hS => by have h1 := hS.1; have h2 := hS.2; clear hS; go_simp⟩) hHeld6 ?_
        try simp only [Act.put, List.setIfInBounds_toArray, List.set_cons_zero, List.set_cons_succ, List.getElem_toArray, List.getElem_cons_succ, List.getElem_cons_zero]
        have b15 := blk_below (w := wr.drew) hB1.out hb5
        refine wpAnyH_ready (rs := [11]) (by kernel_rfl) (by simp) ?_
        refine AllReadyH.cons rfl (fun K hK => ?_) AllReadyH.nil
        rw [if_pos (by rfl)]
        refine wp_put_row 69 _ _ rfl _ 69 _ #[.slice A' (init.length + 1) c', .int .u64 next] b15 rfl rfl (by kernel_rfl) rfl (two_one _ _ rfl rfl) (fun w6 hB6 hg6 hz6 => ?_)
        refine hK.out _ _ ⟨cell_grown hHeld6.1 hg6 (by simp; omega), cell_grown hHeld6.2 hg6 (by simp; omega)⟩ (fun hHeld7 => ?_)
        clear hK
        try simp only [Act.put, List.setIfInBounds_toArray, List.set_cons_zero, List.set_cons_succ, List.getElem_toArray, List.getElem_cons_succ, List.getElem_cons_zero]
        refine wpAnyH_take (i := 12) (v := .bool true) rfl (by kernel_rfl) (by kernel_rfl) (by kernel_rfl) (fun _ _ _ h => h) (Or.inl ⟨by rfl, fun w hS => by unfold execOp; rfl⟩) hHeld7 ?_
        try simp only [Act.put, List.setIfInBounds_toArray, List.set_cons_zero, List.set_cons_succ, List.getElem_toArray, List.getElem_cons_succ, List.getElem_cons_zero]
        refine wpAnyH_done (by kernel_rfl) ?_ _
        go_wp2
        have hbel : Below w.heap.size w w5 := below_step (below_drew1 hBel.out) hb5
        exact bodyPost_ret (results_ring2 Try.underlying69 (by kernel_rfl) rfl rfl hB6) rfl
          ⟨A', c', init, last, next, rfl, ((hO.out.below (below_drew1 (Below.refl _ wr))).below hb5).grown b15 (by decide) hg6, hring.out, by have := hnx.out.2; omega, pw_below_grown hbel _ hbel.size hg6 (fun k hk => by injection hk with hk; omega)⟩
end Go.Proofs.Ytnechcibpmjblaa
