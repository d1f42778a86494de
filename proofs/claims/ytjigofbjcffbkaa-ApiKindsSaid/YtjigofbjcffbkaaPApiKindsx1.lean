-- PRINTED BY print.sh 35421559b90ae4d0a3588c463048766b98c2df88dd9212a6774a882060cdf62d: not written by this session
import Derived.Test.YtjigofbjcffbkaaPApiKindsx0
namespace Go.Proofs.Ytjigofbjcffbkaa.PApiKinds
open Go.RowKit Go.Proofs.YtjigofbjcffbkaaW.PrintWords Go.Proofs.YtjigofbjcffbkaaW.PrintLast Go.Proofs.YtjigofbjcffbkaaW.PrintMore
attribute [local go_sem] max2_int min2_int max_two min_two max_three min_three max_four min_four   -- for this text's walks alone
set_option linter.unusedVariables false
set_option linter.unusedSimpArgs false

/-! ### posternlaw0_same: function 7 -/
def posternlaw0_same.l0 : Nat → List (S27) → Int → Option (Bool)
  | 0, _, _ => none
  | k + 1, x0, x3 => if x3 < (x0.length : Int) then (if 0 ≤ x3 then (if ((rd_T27 x0 x3).f0) = ((rd_T27 x0 x3).f1) then (posternlaw0_same.l0 k x0 (wrap64 (x3 + 1))) else (some false)) else (none)) else (some true)
def posternlaw0_same.f (k : Nat) (l0 : List (S27)) : Option (Bool) := posternlaw0_same.l0 k l0 0
theorem posternlaw0_same.mono_l : ∀ k, (∀ y0 y1, LeO (posternlaw0_same.l0 k y0 y1) (posternlaw0_same.l0 (k + 1) y0 y1))
  | 0 => fun _ _ r h => by simp [posternlaw0_same.l0] at h
  | k + 1 => by
    have ih0 := posternlaw0_same.mono_l k
    · intro y0 y1
      unfold posternlaw0_same.l0
      repeat' first
      | (with_reducible exact ih0 _ _)
      | (with_reducible exact LeO.refl _)
      | (with_reducible exact LeO.none _)
      | (with_reducible refine LeO.ite ?_ ?_)
      | (with_reducible refine LeO.bind ?_ (fun _ => ?_))
      | exact ih0 _ _
      | exact LeO.none _
      | refine LeO.ite ?_ ?_
      | refine LeO.bind ?_ (fun _ => ?_)
theorem posternlaw0_same.mono : ∀ a0 k, LeO (posternlaw0_same.f k a0) (posternlaw0_same.f (k + 1) a0) := by
  intro a0 k
  have ih0 := posternlaw0_same.mono_l k
  unfold posternlaw0_same.f
  repeat' first
      | (with_reducible exact ih0 _ _)
      | (with_reducible exact LeO.refl _)
      | (with_reducible exact LeO.none _)
      | (with_reducible refine LeO.ite ?_ ?_)
      | (with_reducible refine LeO.bind ?_ (fun _ => ?_))
      | exact ih0 _ _
      | exact LeO.none _
      | refine LeO.ite ?_ ?_
      | refine LeO.bind ?_ (fun _ => ?_)
set_option maxHeartbeats 8000000 in
set_option maxRecDepth 100000 in
theorem posternlaw0_same.calls (k : Nat) (A0 : Option Addr) (c0 : Nat) (l0 : List (S27)) (r : Bool) (w : World) (hr0 : Kd.C k27 w A0 l0.length l0) (hc0 : l0.length ≤ c0) (h : posternlaw0_same.f k l0 = some r) :
    Calls Try.prog 7 #[.slice A0 l0.length c0] w fun e w' => e = .returned (.bool r) ∧ Drawn0 w w' := by
  have HR0 := Aside0.mk hr0
  have HC0 := Aside0.mk hc0
  clear hr0 hc0
  have H : (posternlaw0_same.l0 k l0 0) = some r := h
  clear h
  have H' := Aside0.mk H
  clear H
  go_enter Try.func7, Try.ntmps7
  go_wp2
  repeat (go_quiet (fail); try go_wp2)
  go_loopg [3] k (fun kq v3 w' => ∃ (x3_1 : Int), v3 = .int .i64 x3_1 ∧ Aside0 (posternlaw0_same.l0 kq l0 x3_1 = some r) ∧ Aside0 (kq ≤ k) ∧ Drawn0 w w')
  case atStart => exact ⟨(0), (by first | rfl | (simp; done) | (simp [*]; done)), H', ⟨Nat.le_refl _⟩, by repeat (first | exact Drawn0.refl _ | apply Drawn0.step)⟩
  case round =>
    clear H'
    obtain ⟨x3_1, rfl, HA, HK1, ⟨m1, rfl⟩⟩ := hrel
    cases gk with
    | zero => exact absurd HA.out (by simp [posternlaw0_same.l0])
    | succ k1 =>
      have H := HA.out
      clear HA
      simp only [posternlaw0_same.l0] at H
      by_cases c2 : x3_1 < (l0.length : Int)
      · rw [if_pos c2] at H
        have c2b0 : decide (x3_1 < (l0.length : Int)) = true := decide_eq_true c2
        clear c2
        by_cases c3 : 0 ≤ x3_1
        · rw [if_pos c3] at H
          have c3b0 : decide (0 ≤ x3_1) = true := decide_eq_true c3
          clear c3
          by_cases c4 : ((rd_T27 l0 x3_1).f0) = ((rd_T27 l0 x3_1).f1)
          · rw [if_pos c4] at H
            have c4b0 : (((rd_T27 l0 x3_1).f0) == ((rd_T27 l0 x3_1).f1)) = true := beq_iff_eq.mpr c4
            have c4b1 : (((rd_T27 l0 x3_1).f0) != ((rd_T27 l0 x3_1).f1)) = false := bne_eq_false_iff_eq.mpr c4
            clear c4
            have H' := Aside0.mk H
            clear H
            have p101 : 0 ≤ (x3_1 : Int) := of_decide_eq_true (by first | (with_reducible assumption) | assumption)
            have q101 : x3_1 < (l0.length : Int) := of_decide_eq_true (by first | (with_reducible assumption) | assumption)
            obtain ⟨ad101, e101, hx101_0, hx101_1⟩ := at_T27 HR0.out x3_1 p101 q101
            cases e101
            replace p101 := eq_true p101
            replace q101 := eq_true q101
            have p102 : 0 ≤ (x3_1 : Int) := of_decide_eq_true (by first | (with_reducible assumption) | assumption)
            have q102 : x3_1 < (l0.length : Int) := of_decide_eq_true (by first | (with_reducible assumption) | assumption)
            obtain ⟨ad102, e102, hx102_0, hx102_1⟩ := at_T27 HR0.out x3_1 p102 q102
            obtain rfl : ad101 = ad102 := (by injection e102)
            replace p102 := eq_true p102
            replace q102 := eq_true q102
            go_wp2
            repeat (go_quiet (fail); try go_wp2)
            go_roundg k1
            case measure => have := HK1.out; omega
            case rel => exact ⟨(wrap64 (x3_1 + 1)), (by first | rfl | (simp; done) | (simp [*]; done)), H', ⟨by have := HK1.out; omega⟩, by repeat (first | exact Drawn0.refl _ | apply Drawn0.step)⟩
          · rw [if_neg c4] at H
            have c4b0 : (((rd_T27 l0 x3_1).f0) == ((rd_T27 l0 x3_1).f1)) = false := beq_eq_false_iff_ne.mpr c4
            have c4b1 : (((rd_T27 l0 x3_1).f0) != ((rd_T27 l0 x3_1).f1)) = true := bne_iff_ne.mpr c4
            obtain rfl := Option.some.inj H
            have p101 : 0 ≤ (x3_1 : Int) := of_decide_eq_true (by first | (with_reducible assumption) | assumption)
            have q101 : x3_1 < (l0.length : Int) := of_decide_eq_true (by first | (with_reducible assumption) | assumption)
            obtain ⟨ad101, e101, hx101_0, hx101_1⟩ := at_T27 HR0.out x3_1 p101 q101
            cases e101
            replace p101 := eq_true p101
            replace q101 := eq_true q101
            have p102 : 0 ≤ (x3_1 : Int) := of_decide_eq_true (by first | (with_reducible assumption) | assumption)
            have q102 : x3_1 < (l0.length : Int) := of_decide_eq_true (by first | (with_reducible assumption) | assumption)
            obtain ⟨ad102, e102, hx102_0, hx102_1⟩ := at_T27 HR0.out x3_1 p102 q102
            obtain rfl : ad101 = ad102 := (by injection e102)
            replace p102 := eq_true p102
            replace q102 := eq_true q102
            go_wp2
            repeat (go_quiet (fail); try go_wp2)
            go_ret
            exact ⟨by first | rfl | (simp; done) | (simp [*]; done), by repeat (first | exact Drawn0.refl _ | apply Drawn0.step)⟩
        · rw [if_neg c3] at H
          exact absurd H (by simp)
      · rw [if_neg c2] at H
        have c2b0 : decide (x3_1 < (l0.length : Int)) = false := decide_eq_false c2
        clear c2
        obtain rfl := Option.some.inj H
        go_wp2
        repeat (go_quiet (fail); try go_wp2)
        go_ret
        exact ⟨by first | rfl | (simp; done) | (simp [*]; done), by repeat (first | exact Drawn0.refl _ | apply Drawn0.step)⟩

/-! ### posternlaw0_ApiKinds: function 5 -/
def posternlaw0_ApiKinds.f (k : Nat)  : Option (Bool) := (posternlaw0_same.f k (([(⟨0, 0⟩ : S27), (⟨1, 1⟩ : S27), (⟨2, 2⟩ : S27), (⟨3, 3⟩ : S27), (⟨4, 4⟩ : S27), (⟨5, 5⟩ : S27), (⟨6, 6⟩ : S27), (⟨0, 0⟩ : S27), (⟨1, 1⟩ : S27), (⟨2, 2⟩ : S27)] : List (S27)))).bind fun t106 => (some t106)
theorem posternlaw0_ApiKinds.mono : ∀ k, LeO (posternlaw0_ApiKinds.f k ) (posternlaw0_ApiKinds.f (k + 1) ) := by
  intro  k
  unfold posternlaw0_ApiKinds.f
  repeat' first
      | (with_reducible exact posternlaw0_same.mono _ _)
      | (with_reducible exact LeO.refl _)
      | (with_reducible exact LeO.none _)
      | (with_reducible refine LeO.ite ?_ ?_)
      | (with_reducible refine LeO.bind ?_ (fun _ => ?_))
      | exact posternlaw0_same.mono _ _
      | exact LeO.none _
      | refine LeO.ite ?_ ?_
      | refine LeO.bind ?_ (fun _ => ?_)
set_option maxHeartbeats 8000000 in
set_option maxRecDepth 100000 in
theorem posternlaw0_ApiKinds.calls (k : Nat)  (r : Bool) (w : World) (h : posternlaw0_ApiKinds.f k  = some r) :
    Calls Try.prog 5 #[] w fun e w' => e = .returned (.bool r) ∧ Below w.heap.size w w' := by
  have hu27 := Try.underlying27
  have HB := Aside0.mk (Below.refl w.heap.size w)
  have H : ((posternlaw0_same.f k (([(⟨0, 0⟩ : S27), (⟨1, 1⟩ : S27), (⟨2, 2⟩ : S27), (⟨3, 3⟩ : S27), (⟨4, 4⟩ : S27), (⟨5, 5⟩ : S27), (⟨6, 6⟩ : S27), (⟨0, 0⟩ : S27), (⟨1, 1⟩ : S27), (⟨2, 2⟩ : S27)] : List (S27)))).bind fun t106 => (some t106)) = some r := h
  clear h
  obtain ⟨y103, hy103⟩ : ∃ y_ : List (S27), y_ = (([(⟨0, 0⟩ : S27), (⟨1, 1⟩ : S27), (⟨2, 2⟩ : S27), (⟨3, 3⟩ : S27), (⟨4, 4⟩ : S27), (⟨5, 5⟩ : S27), (⟨6, 6⟩ : S27), (⟨0, 0⟩ : S27), (⟨1, 1⟩ : S27), (⟨2, 2⟩ : S27)] : List (S27))) := ⟨_, rfl⟩
  replace H : ((posternlaw0_same.f k y103).bind fun t106 => (some t106)) = some r := by first | (rw [hy103]; with_reducible exact H) | (have H2_ := (Option.bind_some _ _).symm.trans H; rw [hy103]; with_reducible exact H2_) | (have H2_ := (Option.bind_some _ _).symm.trans H; with_reducible exact H2_) | with_reducible exact H | (rw [hy103]; exact H) | exact H
  have Ny103 := Aside0.mk hy103
  clear hy103
  replace H := Option.bind_eq_some_iff.mp H
  obtain ⟨t106, A10, H⟩ := H
  replace H : (some t106) = some r := H
  have A1 := Aside0.mk A10
  clear A10
  obtain rfl := Option.some.inj H
  go_enter Try.func5, Try.ntmps5
  go_wp2_with (first | ((with_reducible refine gate_dst (N := 11) rfl ?_); refine Kd.R_lit k27 _ 27 ?hg (N := 11) ?hd (xs := ([(⟨0, 0⟩ : S27), (⟨1, 1⟩ : S27), (⟨2, 2⟩ : S27), (⟨3, 3⟩ : S27), (⟨4, 4⟩ : S27), (⟨5, 5⟩ : S27), (⟨6, 6⟩ : S27), (⟨0, 0⟩ : S27), (⟨1, 1⟩ : S27), (⟨2, 2⟩ : S27)] : List (S27))) (inner := [.int .i64 0, .int .i64 0, .int .i64 1, .int .i64 1, .int .i64 2, .int .i64 2, .int .i64 3, .int .i64 3, .int .i64 4, .int .i64 4, .int .i64 5, .int .i64 5, .int .i64 6, .int .i64 6, .int .i64 0, .int .i64 0, .int .i64 1, .int .i64 1, .int .i64 2, .int .i64 2]) (ok := fun _ => True) (okp := fun _ => True) ?hr ?hp (fun _ hk => hk) trivial (Below.refl _ _) (Nat.le_refl _) (by simp) ?_; (case hd => rfl); (case hg => rfl); (case hr => first | (go_simp; done) | (go_simp; rfl)); (case hp => exact (Reps.c2 (show Kd.M k27 _ _ _ (⟨0, 0⟩ : S27) [.int .i64 0, .int .i64 0] from (k27_mkM _ _ _ (⟨0, 0⟩ : S27) )) (Reps.c2 (show Kd.M k27 _ _ _ (⟨1, 1⟩ : S27) [.int .i64 1, .int .i64 1] from (k27_mkM _ _ _ (⟨1, 1⟩ : S27) )) (Reps.c2 (show Kd.M k27 _ _ _ (⟨2, 2⟩ : S27) [.int .i64 2, .int .i64 2] from (k27_mkM _ _ _ (⟨2, 2⟩ : S27) )) (Reps.c2 (show Kd.M k27 _ _ _ (⟨3, 3⟩ : S27) [.int .i64 3, .int .i64 3] from (k27_mkM _ _ _ (⟨3, 3⟩ : S27) )) (Reps.c2 (show Kd.M k27 _ _ _ (⟨4, 4⟩ : S27) [.int .i64 4, .int .i64 4] from (k27_mkM _ _ _ (⟨4, 4⟩ : S27) )) (Reps.c2 (show Kd.M k27 _ _ _ (⟨5, 5⟩ : S27) [.int .i64 5, .int .i64 5] from (k27_mkM _ _ _ (⟨5, 5⟩ : S27) )) (Reps.c2 (show Kd.M k27 _ _ _ (⟨6, 6⟩ : S27) [.int .i64 6, .int .i64 6] from (k27_mkM _ _ _ (⟨6, 6⟩ : S27) )) (Reps.c2 (show Kd.M k27 _ _ _ (⟨0, 0⟩ : S27) [.int .i64 0, .int .i64 0] from (k27_mkM _ _ _ (⟨0, 0⟩ : S27) )) (Reps.c2 (show Kd.M k27 _ _ _ (⟨1, 1⟩ : S27) [.int .i64 1, .int .i64 1] from (k27_mkM _ _ _ (⟨1, 1⟩ : S27) )) (Reps.c2 (show Kd.M k27 _ _ _ (⟨2, 2⟩ : S27) [.int .i64 2, .int .i64 2] from (k27_mkM _ _ _ (⟨2, 2⟩ : S27) )) (Reps.none _ _)))))))))))); intro v104 w2 ho3 hb hg_ hnew_; clear hg_ hnew_; (first | rw [← Ny103.out] at ho3 | (simp only [Int.reduceToNat] at ho3; rw [← Ny103.out] at ho3)); have n0_ := Aside0.mk (Kd.R_lower ho3 (below_size (by repeat (first | (with_reducible first | exact HB.out | apply below_alloc | apply pw_below_drewN | apply below_drew1) | exact HB.out)))); have n1_ := Aside0.mk (below_step (by repeat (first | (with_reducible first | exact HB.out | apply below_alloc | apply pw_below_drewN | apply below_drew1) | exact HB.out)) hb); clear HB; have HO105 := n0_; have HB := n1_; clear n0_ n1_; clear hb ho3; obtain ⟨Ao4, co4, eo4⟩ := Kd.R_slice HO105.out; subst eo4) | ((with_reducible refine gate_callee (f := 7) rfl ?_); refine goesL_ (some 12) rfl rfl Try.func7 (by kernel_rfl) rfl #[.slice Ao4 y103.length co4] rfl (by (try simp only [List.map_toArray, List.map_cons, List.map_nil]); first | done | rfl | (simp only [List.length_drop, List.length_take]; rfl)) ?_; (with_reducible refine (posternlaw0_same.calls k _ _ y103 t106 _ ?side1 ?side2 A1.out).mono ?_); (case side1 => repeat (first | exact (Kd.R_reads' HO105.out).2.2 | (with_reducible refine Kd.C_alloc ?_ _) | (with_reducible refine Kd.C_drewN ?_ _) | (with_reducible refine Kd.C_drew ?_))); (case side2 => exact (Kd.R_reads' HO105.out).2.1); rintro e w' ⟨rfl, ⟨nd, rfl⟩⟩; refine ⟨_, rfl, ?_⟩))
  go_ret
  exact ⟨by first | rfl | (simp [errW_none, errW_some] <;> rfl) | (simp [*, errW_none, errW_some] <;> rfl), by repeat (first | (with_reducible first | exact HB.out | apply below_alloc | apply pw_below_drewN | apply below_drew1) | exact HB.out)⟩

/-- THE ONE PURE STATEMENT of posternlaw0_ApiKinds: yours. -/
def posternlaw0_ApiKinds.Pure : Prop := ∃ k, posternlaw0_ApiKinds.f k  = some true
theorem posternlaw0_ApiKinds.walk (P : posternlaw0_ApiKinds.Pure)  (w : World)  :
    Calls Try.prog 5 #[] w fun e w' => e = .returned (.bool true) ∧ Below w.heap.size w w' := by
  obtain ⟨k, h⟩ := P  
  refine (posternlaw0_ApiKinds.calls k  true w h).mono ?_
  rintro e w' ⟨rfl, hd⟩
  exact ⟨rfl, hd⟩

end Go.Proofs.Ytjigofbjcffbkaa.PApiKinds
