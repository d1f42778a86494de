/- The law RingSwift of the given program answers true: its walk. Conditions: the turns are read. -/
import Derived.Test.YtnechcibpmjblaaQ
import Derived.Test.YtnechcibpmjblaaWG
namespace Go.Proofs.Ytnechcibpmjblaa
open Go.RowKit Go.Proofs.YtnechcibpmjblaaW.PrintWords KB WG
set_option linter.unusedVariables false
set_option linter.unusedSimpArgs false

theorem z69 : ∀ w, (zeroValue 69).run Try.prog w = .ok (.agg #[.slice none 0 0, .int .u64 0]) w := fun _ => by kernel_rfl
theorem ro_some {w : World} {A : Option Addr} {c : Nat} {init : List Key} {last : Key} {next : Int} (h : RO w A c ⟨init ++ [last], next⟩) : ∃ ad, A = some ad := by
  obtain ⟨ad, e, _⟩ := at_Key h.rk.1 0 (by omega) (by simp only [ring_len]; omega)
  exact ⟨ad, e⟩
theorem ex_neqk {op : Oper} {ρ : Operand → Value} {w : World} (x y : Operand) (z : TypeId) (ho : op.op = .binOp .neq 107 x y z) (a b : Key) (hx : ρ x = .agg a.arr) (hy : ρ y = .agg b.arr) (r : Bool) (hr : (!decide (a = b)) = r) :
    (execOp ρ op).run Try.prog w = .ok (.value (.bool r)) w := by
  subst hr
  exact exec_neqKey x y z ho a b hx hy
theorem ex_eqlk {op : Oper} {ρ : Operand → Value} {w : World} (x y : Operand) (z : TypeId) (ho : op.op = .binOp .eql 107 x y z) (a b : Key) (hx : ρ x = .agg a.arr) (hy : ρ y = .agg b.arr) (r : Bool) (hr : decide (a = b) = r) :
    (execOp ρ op).run Try.prog w = .ok (.value (.bool r)) w := by
  subst hr
  have g : (eqGuard .eql 107 x y (.agg a.arr) (.agg b.arr)).run Try.prog w = .ok () w := by
    have e : Try.prog.eqGuardType Try.prog.depth 107 = false := by kernel_rfl
    unfold eqGuard
    simp [e]
  exact ex_eql _ _ _ _ ho _ _ hx hy _ g (eqlKey a b w)
theorem cur_r {init : List Key} {last : Key} {next : Int} (h : IsRing init last next) (A : Option Addr) (c : Nat) (w : World) (hO : RO w A c ⟨init ++ [last], next⟩) :
    Calls Try.prog 29 #[.agg #[.slice A (init.length + 1) c, .int .u64 next]] w fun e w' => e = .returned (.tuple #[.agg last.arr, .bool true]) ∧ Below w.heap.size w w' := by
  have := cur_c ⟨init ++ [last], next⟩ A c w hO.rk
  rw [h.curr, decide_eq_false (h.ne_zero (by simp))] at this
  simpa only [ring_len, Bool.not_false] using this
theorem copy_r {init : List Key} {last : Key} {next : Int} (h : IsRing init last next) (A : Option Addr) (c : Nat) (w : World) (hO : RO w A c ⟨init ++ [last], next⟩) :
    Calls Try.prog 18 #[.agg #[.slice A (init.length + 1) c, .int .u64 next]] w fun e w' => ∃ A' c', e = .returned (.agg #[.slice A' (init.length + 1) c', .int .u64 next]) ∧ RO w' A' c' ⟨init ++ [last], next⟩ ∧ Below w.heap.size w w' := by
  have := copyRing_any ⟨init ++ [last], next⟩ A c w hO.rk (by have := h.few; simp only [ring_len]; omega)
  simp only [ring_len] at this
  refine this.mono fun _ _ ⟨A', c', he, hO', hb⟩ => ⟨A', c', ?_, hO', hb⟩
  rw [he]
  simp only [ring_len]
theorem check_r {init : List Key} {last : Key} {next : Int} (h : IsRing init last next) (A : Option Addr) (c : Nat) (w : World) (hO : RO w A c ⟨init ++ [last], next⟩) :
    Calls Try.prog 31 #[.agg #[.slice A (init.length + 1) c, .int .u64 next]] w fun e w' => e = .returned (.int .i64 0) ∧ Below w.heap.size w w' := by
  have := check_c ⟨init ++ [last], next⟩ A c w hO.rk
  rw [show errK (init ++ [last]) next = 0 by unfold errK; rw [check_of_isRing h]; rfl] at this
  simpa only [ring_len] using this
theorem find_r {init : List Key} {last : Key} {next : Int} (A : Option Addr) (c : Nat) (w : World) (hO : RO w A c ⟨init ++ [last], next⟩) {kid : Int} {k : Key} (hk : findF kid (init ++ [last]) next = k) :
    Calls Try.prog 30 #[.agg #[.slice A (init.length + 1) c, .int .u64 next], .int .u64 kid] w fun e w' => e = .returned (.tuple #[.agg k.arr, .bool (!decide (k = zKey))]) ∧ Below w.heap.size w w' := by
  have := find_c ⟨init ++ [last], next⟩ A c kid w hO.rk
  rw [hk] at this
  simpa only [ring_len] using this
theorem find_n {init : List Key} {last : Key} {next : Int} (A : Option Addr) (c : Nat) (w : World) (hO : RO w A c ⟨init ++ [last], next⟩) {kid : Int} (hk : findF kid (init ++ [last]) next = zKey) :
    Calls Try.prog 30 #[.agg #[.slice A (init.length + 1) c, .int .u64 next], .int .u64 kid] w fun e w' => e = .returned (.tuple #[.agg zKey.arr, .bool false]) ∧ Below w.heap.size w w' := by
  have := find_r A c w hO hk
  rwa [decide_eq_true rfl] at this
theorem find_y {init : List Key} {last : Key} {next : Int} (A : Option Addr) (c : Nat) (w : World) (hO : RO w A c ⟨init ++ [last], next⟩) {kid : Int} {k : Key} (hk : findF kid (init ++ [last]) next = k) (hz : k ≠ zKey) :
    Calls Try.prog 30 #[.agg #[.slice A (init.length + 1) c, .int .u64 next], .int .u64 kid] w fun e w' => e = .returned (.tuple #[.agg k.arr, .bool true]) ∧ Below w.heap.size w w' := by
  have := find_r A c w hO hk
  rwa [decide_eq_false hz] at this
theorem idx_inj {l : List Key} (h : (l.map (·.kid)).Pairwise (· < ·)) {i j : Nat} (hi : i < l.length) (hj : j < l.length) (e : l[i] = l[j]) : i = j := by
  have hp := List.pairwise_iff_getElem.1 h
  rcases Nat.lt_trichotomy i j with h' | h' | h'
  · have := hp i j (by simpa) (by simpa) h'
    rw [List.getElem_map, List.getElem_map, e] at this
    omega
  · exact h'
  · have := hp j i (by simpa) (by simpa) h'
    rw [List.getElem_map, List.getElem_map, e] at this
    omega
theorem cl_row_94_33 : row? Try.prog 94 33 = true := by kernel_rfl
theorem cl_ent_28 : ent? Try.prog 28 = true := by kernel_rfl
theorem cl_row_69_2 : row? Try.prog 69 2 = true := by kernel_rfl
theorem cl_ent_29 : ent? Try.prog 29 = true := by kernel_rfl
theorem cl_fa_69_0_0 : fa? Try.prog 69 0 0 = true := by kernel_rfl
theorem cl_one_55 : one? Try.prog 55 = true := by kernel_rfl
theorem cl_sl_55_34 : sl? Try.prog 55 34 = true := by kernel_rfl
theorem cl_fa_107_0_0 : fa? Try.prog 107 0 0 = true := by kernel_rfl
theorem cl_one_67 : one? Try.prog 67 = true := by kernel_rfl
theorem cl_ent_18 : ent? Try.prog 18 = true := by kernel_rfl
theorem cl_cv_3_5_u8 : cv? Try.prog 3 5 .u8 = true := by kernel_rfl
theorem cl_ent_16 : ent? Try.prog 16 = true := by kernel_rfl
theorem cl_ent_30 : ent? Try.prog 30 = true := by kernel_rfl
theorem cl_ent_22 : ent? Try.prog 22 = true := by kernel_rfl
theorem cl_ent_31 : ent? Try.prog 31 = true := by kernel_rfl
theorem cl_follows_mixedOrders : Try.prog.follows .mixedOrders = true := by kernel_rfl
theorem cl_row_107_34 : row? Try.prog 107 34 = true := by kernel_rfl
theorem cl_fa_69_1_1 : fa? Try.prog 69 1 1 = true := by kernel_rfl
theorem cl_ent_26 : ent? Try.prog 26 = true := by kernel_rfl

set_option maxHeartbeats 4000000 in
set_option maxRecDepth 100000 in
theorem swift_any (s : Bs 32) (ts : List Turn) (A : Option Addr) (c : Nat) (w : World) (hr : kTurn.C w A ts.length ts) (hc : ts.length ≤ c) :
    Calls Try.prog 7 #[.agg (lifeArr s (.slice A ts.length c))] w fun e w' => e = .returned (.bool true) ∧ Below w.heap.size w w' := by
  refine calls_start Try.func7 rfl rfl rfl (fun a F => ?_)
  have M : Mm w w [] := Mm.nil w
  refine wp_seq ?_
  refine wp_region_lit ?_
  refine list_do (wn rfl) (fun K hK => ?_)
  refine ow_box F M rfl rfl 94 _ rfl _ (F.e rfl) (lifeArr s (.slice A ts.length c)) rfl (fun a1 g1 w1 F1 M1 hb hg => ?_)
  refine hK _ _ ?_
  clear hK K
  clear hb hg F M
  try clear a
  try clear w
  refine list_val F1 (wn rfl) rfl rfl (.bool false) (ex_assign _ rfl _ rfl) ?_
  clear F1; try clear a1
  intro a2 F2
  refine wpList_nil ?_
  have F3 : Fr 183 a2 [(0, .agg (lifeArr s (.slice A ts.length c))), (1, .pointer (some ⟨g1, 0, none⟩)), (2, .bool false)] := F2.keep ⟨rfl, rfl, rfl, trivial⟩
  clear F2
  refine then_n ?_
  refine wp_seq ?_
  refine wp_region_lit ?_
  refine list_val F3 (wn rfl) rfl rfl (.agg (lifeArr s (.slice A ts.length c))) (ex_load _ _ rfl _ (F3.e rfl) _ (lvr (cs := lifeCs s (.slice A ts.length c)) (by rw [life_len]; exact cl_row_94_33) (M1.at (i := 0) rfl))) ?_
  clear F3; try clear a2
  intro a3 F4
  refine list_do (wn rfl) (fun K hK => ?_)
  refine ow_call rfl rfl F4 28 #[.agg (lifeArr s (.slice A ts.length c))] (ex_call 28 _ _ rfl rfl cl_ent_28 _ (map1 (F4.e rfl))) (grown_any s ts A c _ (Kd.C_below hr M1.bel) hc) (fun e w2 hR => ?_)
  obtain ⟨A3, c3, init, last, next, he, O_r, hR, hn42, hb⟩ := hR
  obtain ⟨ad, rfl⟩ := ro_some O_r
  have hfew := hR.few
  have hpos := hR.below
  refine ⟨.tuple #[.agg #[.slice (some ad) (init.length + 1) c3, .int .u64 next], .bool true], he, fun a4 F5 => ?_⟩
  clear he F4
  refine hK _ _ ?_
  clear hK K
  have M2 := M1.below hb
  clear M1
  try clear hb
  try clear a3
  try clear w1
  refine list_val F5 (wn rfl) rfl rfl (.tuple #[.agg #[.slice (some ad) (init.length + 1) c3, .int .u64 next], .bool true]) (ex_move _ rfl _ (F5.e rfl)) ?_
  clear F5; try clear a4
  intro a5 F6
  refine list_val F6 (wn rfl) rfl rfl (.agg #[.slice (some ad) (init.length + 1) c3, .int .u64 next]) (ex_extract _ _ rfl _ (F6.e rfl) _ rfl) ?_
  clear F6; try clear a5
  intro a6 F7
  refine list_val F7 (wn rfl) rfl rfl (.bool true) (ex_extract _ _ rfl _ (F7.e rfl) _ rfl) ?_
  clear F7; try clear a6
  intro a7 F8
  refine list_do (wn rfl) (fun K hK => ?_)
  refine ow_alloc F8 M2 rfl rfl 69 rfl (.agg #[.slice none 0 0, .int .u64 0]) z69 #[.slice none 0 0, .int .u64 0] rfl (fun a8 g3 w3 F9 M3 hb hg => ?_)
  refine hK _ _ ?_
  clear hK K
  have K_O_r := O_r
  replace O_r := O_r.below hb
  have hz_g3 := hb
  have lo_g3 := hg
  clear hb hg F8 M2
  try clear a7
  try clear w2
  refine list_do (wn rfl) (fun K hK => ?_)
  refine ow_put F9 M3 rfl 69 _ _ rfl 0 _ #[.slice none 0 0, .int .u64 0] _ rfl (F9.e rfl) #[.slice (some ad) (init.length + 1) c3, .int .u64 next] (F9.e rfl) (sz_row (m := 2) cl_row_69_2) rfl (by simp [Value.oneCell']) (fun a9 w4 F10 M4 hgr => ?_)
  refine hK _ _ ?_
  clear hK K
  have hzz := S_grown hz_g3 hgr lo_g3
  replace O_r := K_O_r.below hzz
  clear hzz hz_g3 lo_g3 K_O_r
  clear F9 M3
  try clear hgr
  try clear a8
  try clear w3
  replace M4 : Mm w w4 [⟨g3, #[.slice (some ad) (init.length + 1) c3, .int .u64 next], 69⟩, ⟨g1, (lifeArr s (.slice A ts.length c)), 94⟩] := M4
  refine list_val F10 (wn rfl) rfl rfl (.bool true) (ex_assign _ rfl _ (F10.e rfl)) ?_
  clear F10; try clear a9
  intro a10 F11
  refine wpList_nil ?_
  have F12 : Fr 183 a10 [(0, .agg (lifeArr s (.slice A ts.length c))), (1, .pointer (some ⟨g1, 0, none⟩)), (2, .bool false), (3, .pointer (some ⟨g3, 0, none⟩)), (4, .bool true)] := F11.keep ⟨rfl, rfl, rfl, rfl, rfl, trivial⟩
  clear F11
  refine then_n ?_
  refine wp_seq ?_
  refine wp_seq ?_
  refine wp_region_lit ?_
  refine list_val F12 (wn rfl) rfl rfl (.bool true) (ex_move _ rfl _ (F12.e rfl)) ?_
  clear F12; try clear a10
  intro a11 F13
  refine list_val F13 (wn rfl) rfl rfl (.bool false) (ex_not _ _ rfl _ (F13.e rfl) _ rfl) ?_
  clear F13; try clear a11
  intro a12 F14
  refine wpList_nil ?_
  have F15 : Fr 183 a12 [(0, .agg (lifeArr s (.slice A ts.length c))), (1, .pointer (some ⟨g1, 0, none⟩)), (2, .bool false), (3, .pointer (some ⟨g3, 0, none⟩)), (4, .bool true), (26, .bool false)] := F14.keep ⟨rfl, rfl, rfl, rfl, rfl, rfl, trivial⟩
  clear F14
  refine then_n ?_
  refine wp_cond_false (F15.e rfl) ?_
  refine wp_skip ?_
  refine then_n ?_
  refine wp_seq ?_
  refine wp_region_lit ?_
  refine list_val F15 (wn rfl) rfl rfl (.agg #[.slice (some ad) (init.length + 1) c3, .int .u64 next]) (ex_load _ _ rfl _ (F15.e rfl) _ (lvr (cs := [.slice (some ad) (init.length + 1) c3, .int .u64 next]) cl_row_69_2 (M4.at (i := 0) rfl))) ?_
  clear F15; try clear a12
  intro a13 F16
  refine list_do (wn rfl) (fun K hK => ?_)
  refine ow_call rfl rfl F16 29 #[.agg #[.slice (some ad) (init.length + 1) c3, .int .u64 next]] (ex_call 29 _ _ rfl rfl cl_ent_29 _ (map1 (F16.e rfl))) (cur_r hR _ _ _ O_r) (fun e w5 hR => ?_)
  obtain ⟨he, hb⟩ := hR
  refine ⟨.tuple #[.agg last.arr, .bool true], he, fun a14 F17 => ?_⟩
  clear he F16
  refine hK _ _ ?_
  clear hK K
  replace O_r := O_r.below hb
  have M5 := M4.below hb
  clear M4
  try clear hb
  try clear a13
  try clear w4
  refine list_val F17 (wn rfl) rfl rfl (.tuple #[.agg last.arr, .bool true]) (ex_move _ rfl _ (F17.e rfl)) ?_
  clear F17; try clear a14
  intro a15 F18
  refine list_val F18 (wn rfl) rfl rfl (.agg last.arr) (ex_extract _ _ rfl _ (F18.e rfl) _ rfl) ?_
  clear F18; try clear a15
  intro a16 F19
  refine list_val F19 (wn rfl) rfl rfl (.bool true) (ex_extract _ _ rfl _ (F19.e rfl) _ rfl) ?_
  clear F19; try clear a16
  intro a17 F20
  refine list_do (wn rfl) (fun K hK => ?_)
  refine ow_alloc F20 M5 rfl rfl 107 rfl (.agg zKey.arr) zero107 zKey.arr rfl (fun a18 g5 w6 F21 M6 hb hg => ?_)
  refine hK _ _ ?_
  clear hK K
  have K_O_r := O_r
  replace O_r := O_r.below hb
  have hz_g5 := hb
  have lo_g5 := hg
  clear hb hg F20 M5
  try clear a17
  try clear w5
  refine list_do (wn rfl) (fun K hK => ?_)
  refine ow_put F21 M6 rfl 107 _ _ rfl 0 _ zKey.arr _ rfl (F21.e rfl) last.arr (F21.e rfl) (by rw [Key.arr_size]; exact info107) (by simp only [Key.arr_size]) (Key.arr_one _) (fun a19 w7 F22 M7 hgr => ?_)
  refine hK _ _ ?_
  clear hK K
  have hzz := S_grown hz_g5 hgr lo_g5
  replace O_r := K_O_r.below hzz
  clear hzz hz_g5 lo_g5 K_O_r
  clear F21 M6
  try clear hgr
  try clear a18
  try clear w6
  replace M7 : Mm w w7 [⟨g5, last.arr, 107⟩, ⟨g3, #[.slice (some ad) (init.length + 1) c3, .int .u64 next], 69⟩, ⟨g1, (lifeArr s (.slice A ts.length c)), 94⟩] := M7
  refine list_val F22 (wn rfl) rfl rfl (.bool true) (ex_assign _ rfl _ (F22.e rfl)) ?_
  clear F22; try clear a19
  intro a20 F23
  refine wpList_nil ?_
  have F24 : Fr 183 a20 [(0, .agg (lifeArr s (.slice A ts.length c))), (1, .pointer (some ⟨g1, 0, none⟩)), (2, .bool false), (3, .pointer (some ⟨g3, 0, none⟩)), (4, .bool true), (5, .pointer (some ⟨g5, 0, none⟩)), (26, .bool false)] := F23.keep ⟨rfl, rfl, rfl, rfl, rfl, rfl, rfl, trivial⟩
  clear F23
  refine then_n ?_
  refine wp_seq ?_
  refine wp_seq ?_
  refine wp_region_lit ?_
  refine list_val F24 (wn rfl) rfl rfl (.int .i64 0) (ex_assign _ rfl _ rfl) ?_
  clear F24; try clear a20
  intro a21 F25
  refine wpList_nil ?_
  have F26 : Fr 183 a21 [(0, .agg (lifeArr s (.slice A ts.length c))), (1, .pointer (some ⟨g1, 0, none⟩)), (2, .bool false), (3, .pointer (some ⟨g3, 0, none⟩)), (4, .bool true), (5, .pointer (some ⟨g5, 0, none⟩)), (7, .int .i64 0), (26, .bool false)] := F25.keep ⟨rfl, rfl, rfl, rfl, rfl, rfl, rfl, rfl, trivial⟩
  clear F25
  refine then_n ?_
  refine wp_block ?_
  refine wp_loop (fun ar wr => ∃ (i : Nat), Fr 183 ar [(0, .agg (lifeArr s (.slice A ts.length c))), (1, .pointer (some ⟨g1, 0, none⟩)), (2, .bool false), (3, .pointer (some ⟨g3, 0, none⟩)), (4, .bool true), (5, .pointer (some ⟨g5, 0, none⟩)), (7, .int .i64 i), (26, .bool false)] ∧ Mm w wr [⟨g5, last.arr, 107⟩, ⟨g3, #[.slice (some ad) (init.length + 1) c3, .int .u64 next], 69⟩] ∧ RO wr (some ad) c3 ⟨init ++ [last], next⟩ ∧ i ≤ init.length + 1) (fun ar _ => (init.length + 1) - (intOf (ar.eval (.tmp 7))).toNat) ?_ ?_
  · exact ⟨0, F26.keep ⟨rfl, rfl, rfl, rfl, rfl, rfl, rfl, rfl, trivial⟩, (M7.pick' [0, 1] [⟨g5, last.arr, 107⟩, ⟨g3, #[.slice (some ad) (init.length + 1) c3, .int .u64 next], 69⟩] ⟨rfl, rfl, trivial⟩ (by decide)), O_r, (Nat.zero_le _)⟩
  · clear F26 M7 O_r
    rintro a22 w8 ⟨i, F27, M8, O_r, hi⟩
    try clear a21
    try clear w7
    have Fh1 := F27
    by_cases hc1 : i < init.length + 1
    · obtain ⟨ad', had, zi, _, _⟩ := at_Key (O_r.rk.1) (i : Int) (by omega) (by simp only [ring_len]; omega)
      obtain rfl := Option.some.inj had
      clear had
      rw [show (i : Int).toNat = i from rfl] at zi
      have hil : i < (init ++ [last]).length := by simp only [ring_len]; exact hc1
      have hki : rdK (init ++ [last]) (i : Int) ∈ init ++ [last] := by rw [rdK_eq hil]; exact List.getElem_mem _
      obtain ⟨init2, last2, next2, hd, G⟩ := gone_of hR (show next < 9223372036854775807 by omega) hki (b32 170 i)
      have hnx0 : 0 ≤ next := by have := hR.pos last (by simp); omega
      have hdc : ∀ A c W, RO W A c ⟨init ++ [last], next⟩ → Calls Try.prog 16 #[.agg #[.slice A (init.length + 1) c, .int .u64 next], .int .u64 (rdK (init ++ [last]) (i : Int)).kid, .agg (b32 170 i).cs.toArray] W fun e W' => ∃ A' c', e = .returned (.tuple #[.agg #[.slice A' (init2.length + 1) c', .int .u64 next2], .int .i64 0]) ∧ RO W' A' c' ⟨init2 ++ [last2], next2⟩ ∧ Below W.heap.size W W' := fun A c W h => by
        have := distrust_c ⟨init ++ [last], next⟩ A c (rdK (init ++ [last]) (i : Int)).kid (b32 170 i) W h.rk hnx0
        rw [hd] at this
        simp only [ring_len] at this
        exact this.mono fun _ _ h => tells_ok h
      have hda : ∀ A c W, RO W A c ⟨init2 ++ [last2], next2⟩ → Calls Try.prog 16 #[.agg #[.slice A (init2.length + 1) c, .int .u64 next2], .int .u64 (rdK (init ++ [last]) (i : Int)).kid, .agg (b32 0 0).cs.toArray] W fun e W' => ∃ A' c', e = .returned (.tuple #[.agg #[.slice A' 0 c', .int .u64 0], .int .i64 53]) ∧ Below W.heap.size W W' := fun A c W h => by
        have := distrust_c ⟨init2 ++ [last2], next2⟩ A c (rdK (init ++ [last]) (i : Int)).kid (b32 0 0) W h.rk G.nonneg
        rw [G.again] at this
        simp only [ring_len] at this
        exact this.mono fun _ _ h => tells_no h
      have hwb : IntKind.u8.wrap (i : Int) = i := by rw [IntKind.wrap_u8]; omega
      have hix : ∀ j : Nat, j < init.length + 1 → rdK (init ++ [last]) (j : Int) = (rdK (init ++ [last]) (i : Int)) → j = i := fun j hj e => by
        have hjl : j < (init ++ [last]).length := by simp only [ring_len]; exact hj
        rw [rdK_eq hjl, rdK_eq hil] at e
        exact idx_inj hR.rise hjl hil e
      have hki0 := hki
      generalize hkd : (rdK (init ++ [last]) (i : Int)) = ki at zi hki0 G hdc hda hix
      refine wp_seq ?_
      refine wp_seq ?_
      refine wp_region_lit ?_
      refine list_val F27 (wn rfl) rfl rfl (.int .i64 i) (ex_move _ rfl _ (F27.e rfl)) ?_
      clear F27; try clear a22
      intro a23 F28
      refine list_val F28 (wn rfl) rfl rfl (.pointer (some ⟨g3, 0, none⟩)) (ex_fa _ _ _ rfl _ (F28.e rfl) 0 cl_fa_69_0_0 ⟨g3, 0, none⟩ rfl) ?_
      clear F28; try clear a23
      intro a24 F29
      refine list_val F29 (wn rfl) rfl rfl (.slice (some ad) (init.length + 1) c3) (ex_load _ _ rfl _ (F29.e rfl) _ (lv1 cl_one_55 (M8.cell (i := 1) rfl (j := 0) rfl))) ?_
      clear F29; try clear a24
      intro a25 F30
      refine list_val F30 (wn rfl) rfl rfl (.int .i64 (((init.length + 1) : Nat) : Int)) (ex_len _ _ rfl 34 cl_sl_55_34 _ _ _ (F30.e rfl)) ?_
      clear F30; try clear a25
      intro a26 F31
      refine list_val F31 (wn rfl) rfl rfl (.bool true) (ex_bin .lss _ _ _ _ rfl .i64 _ _ (F31.e rfl) (F31.e rfl) _ (b_lss (decide_eq_true (by omega)))) ?_
      clear F31; try clear a26
      intro a27 F32
      refine wpList_nil ?_
      have F33 : Fr 183 a27 [(0, .agg (lifeArr s (.slice A ts.length c))), (1, .pointer (some ⟨g1, 0, none⟩)), (2, .bool false), (3, .pointer (some ⟨g3, 0, none⟩)), (4, .bool true), (5, .pointer (some ⟨g5, 0, none⟩)), (7, .int .i64 i), (26, .bool false), (36, .bool true)] := F32.keep ⟨rfl, rfl, rfl, rfl, rfl, rfl, rfl, rfl, rfl, trivial⟩
      clear F32
      refine then_n ?_
      refine wp_cond_true (F33.e rfl) ?_
      refine wp_skip ?_
      refine then_n ?_
      refine wp_seq ?_
      refine wp_block ?_
      refine wp_seq ?_
      refine wp_region_lit ?_
      refine list_val F33 (wn rfl) rfl rfl (.pointer (some ⟨g3, 0, none⟩)) (ex_fa _ _ _ rfl _ (F33.e rfl) 0 cl_fa_69_0_0 ⟨g3, 0, none⟩ rfl) ?_
      clear F33; try clear a27
      intro a28 F34
      refine list_val F34 (wn rfl) rfl rfl (.slice (some ad) (init.length + 1) c3) (ex_load _ _ rfl _ (F34.e rfl) _ (lv1 cl_one_55 (M8.cell (i := 1) rfl (j := 0) rfl))) ?_
      clear F34; try clear a28
      intro a29 F35
      refine list_val F35 (wn rfl) rfl rfl (.int .i64 i) (ex_move _ rfl _ (F35.e rfl)) ?_
      clear F35; try clear a29
      intro a30 F36
      refine list_val F36 (wn rfl) rfl rfl (.pointer (some (ad.add (i * 34)))) (ex_ix _ _ _ rfl 34 cl_sl_55_34 ad _ _ (F36.e rfl) .i64 _ (F36.e rfl) i rfl (by omega) (ad.add (i * 34)) rfl) ?_
      clear F36; try clear a30
      intro a31 F37
      refine list_val F37 (wn rfl) rfl rfl (.pointer (some (ad.add (i * 34)))) (ex_fa _ _ _ rfl _ (F37.e rfl) 0 cl_fa_107_0_0 (ad.add (i * 34)) rfl) ?_
      clear F37; try clear a31
      intro a32 F38
      refine list_val F38 (wn rfl) rfl rfl (.int .u64 ki.kid) (ex_load _ _ rfl _ (F38.e rfl) _ (lv1 cl_one_67 (zi.cell 0 _ (Key.cs_0 _)))) ?_
      clear F38; try clear a32
      intro a33 F39
      refine list_val F39 (wn rfl) rfl rfl (.int .u64 ki.kid) (ex_assign _ rfl _ (F39.e rfl)) ?_
      clear F39; try clear a33
      intro a34 F40
      refine wpList_nil ?_
      have F41 : Fr 183 a34 [(0, .agg (lifeArr s (.slice A ts.length c))), (1, .pointer (some ⟨g1, 0, none⟩)), (2, .bool false), (3, .pointer (some ⟨g3, 0, none⟩)), (4, .bool true), (5, .pointer (some ⟨g5, 0, none⟩)), (7, .int .i64 i), (8, .int .u64 ki.kid), (26, .bool false), (36, .bool true)] := F40.keep ⟨rfl, rfl, rfl, rfl, rfl, rfl, rfl, rfl, rfl, rfl, trivial⟩
      clear F40
      refine then_n ?_
      refine wp_seq ?_
      clear zi
      refine wp_region_lit ?_
      refine list_val F41 (wn rfl) rfl rfl (.agg #[.slice (some ad) (init.length + 1) c3, .int .u64 next]) (ex_load _ _ rfl _ (F41.e rfl) _ (lvr (cs := [.slice (some ad) (init.length + 1) c3, .int .u64 next]) cl_row_69_2 (M8.at (i := 1) rfl))) ?_
      clear F41; try clear a34
      intro a35 F42
      refine list_do (wn rfl) (fun K hK => ?_)
      refine ow_call rfl rfl F42 18 #[.agg #[.slice (some ad) (init.length + 1) c3, .int .u64 next]] (ex_call 18 _ _ rfl rfl cl_ent_18 _ (map1 (F42.e rfl))) (copy_r hR _ _ _ O_r) (fun e w9 hR => ?_)
      obtain ⟨A4, c4, he, O_y, hb⟩ := hR
      refine ⟨.agg #[.slice A4 (init.length + 1) c4, .int .u64 next], he, fun a36 F43 => ?_⟩
      clear he F42
      refine hK _ _ ?_
      clear hK K
      replace O_r := O_r.below hb
      have M9 := M8.below hb
      clear M8
      try clear hb
      try clear a35
      try clear w8
      refine list_val F43 (wn rfl) rfl rfl (.int .u64 ki.kid) (ex_move _ rfl _ (F43.e rfl)) ?_
      clear F43; try clear a36
      intro a37 F44
      refine list_val F44 (wn rfl) rfl rfl (.int .i64 i) (ex_move _ rfl _ (F44.e rfl)) ?_
      clear F44; try clear a37
      intro a38 F45
      refine list_val F45 (wn rfl) rfl rfl (.int .u8 i) (ex_conv _ _ _ rfl _ .u8 cl_cv_3_5_u8 _ (F45.e rfl) _ hwb) ?_
      clear F45; try clear a38
      intro a39 F46
      refine list_val F46 (wn rfl) rfl rfl (.agg ((b32 170 i).cs.toArray)) (ex_build _ _ rfl _ (parts2 rfl (F46.e rfl)) _ (build70_2 170 i _)) ?_
      clear F46; try clear a39
      intro a40 F47
      refine list_do (wn rfl) (fun K hK => ?_)
      refine ow_call rfl rfl F47 16 #[.agg #[.slice A4 (init.length + 1) c4, .int .u64 next], .int .u64 ki.kid, .agg ((b32 170 i).cs.toArray)] (ex_call 16 _ _ rfl rfl cl_ent_16 _ (map3 (F47.e rfl) (F47.e rfl) (F47.e rfl))) (hdc _ _ _ O_y) (fun e w10 hR => ?_)
      obtain ⟨A5, c5, he, O_x, hb⟩ := hR
      refine ⟨.tuple #[.agg #[.slice A5 (init2.length + 1) c5, .int .u64 next2], .int .i64 0], he, fun a41 F48 => ?_⟩
      clear he F47
      refine hK _ _ ?_
      clear hK K
      replace O_r := O_r.below hb
      have M10 := M9.below hb
      clear M9
      try clear hb
      try clear a40
      try clear w9
      clear O_y
      refine list_val F48 (wn rfl) rfl rfl (.tuple #[.agg #[.slice A5 (init2.length + 1) c5, .int .u64 next2], .int .i64 0]) (ex_move _ rfl _ (F48.e rfl)) ?_
      clear F48; try clear a41
      intro a42 F49
      refine list_val F49 (wn rfl) rfl rfl (.agg #[.slice A5 (init2.length + 1) c5, .int .u64 next2]) (ex_extract _ _ rfl _ (F49.e rfl) _ rfl) ?_
      clear F49; try clear a42
      intro a43 F50
      refine list_val F50 (wn rfl) rfl rfl (.int .i64 0) (ex_extract _ _ rfl _ (F50.e rfl) _ rfl) ?_
      clear F50; try clear a43
      intro a44 F51
      refine list_do (wn rfl) (fun K hK => ?_)
      refine ow_alloc F51 M10 rfl rfl 69 rfl (.agg #[.slice none 0 0, .int .u64 0]) z69 #[.slice none 0 0, .int .u64 0] rfl (fun a45 g9 w11 F52 M11 hb hg => ?_)
      refine hK _ _ ?_
      clear hK K
      have K_O_r := O_r
      have K_O_x := O_x
      replace O_r := O_r.below hb
      replace O_x := O_x.below hb
      have hz_g9 := hb
      have lo_g9 := hg
      clear hb hg F51 M10
      try clear a44
      try clear w10
      refine list_do (wn rfl) (fun K hK => ?_)
      refine ow_put F52 M11 rfl 69 _ _ rfl 0 _ #[.slice none 0 0, .int .u64 0] _ rfl (F52.e rfl) #[.slice A5 (init2.length + 1) c5, .int .u64 next2] (F52.e rfl) (sz_row (m := 2) cl_row_69_2) rfl (by simp [Value.oneCell']) (fun a46 w12 F53 M12 hgr => ?_)
      refine hK _ _ ?_
      clear hK K
      have hzz := S_grown hz_g9 hgr lo_g9
      replace O_r := K_O_r.below hzz
      replace O_x := K_O_x.below hzz
      clear hzz hz_g9 lo_g9 K_O_r K_O_x
      clear F52 M11
      try clear hgr
      try clear a45
      try clear w11
      replace M12 : Mm w w12 [⟨g9, #[.slice A5 (init2.length + 1) c5, .int .u64 next2], 69⟩, ⟨g5, last.arr, 107⟩, ⟨g3, #[.slice (some ad) (init.length + 1) c3, .int .u64 next], 69⟩] := M12
      refine list_val F53 (wn rfl) rfl rfl (.int .i64 0) (ex_assign _ rfl _ (F53.e rfl)) ?_
      clear F53; try clear a46
      intro a47 F54
      refine wpList_nil ?_
      have F55 : Fr 183 a47 [(0, .agg (lifeArr s (.slice A ts.length c))), (1, .pointer (some ⟨g1, 0, none⟩)), (2, .bool false), (3, .pointer (some ⟨g3, 0, none⟩)), (4, .bool true), (5, .pointer (some ⟨g5, 0, none⟩)), (7, .int .i64 i), (8, .int .u64 ki.kid), (9, .pointer (some ⟨g9, 0, none⟩)), (10, .int .i64 0), (26, .bool false), (36, .bool true)] := F54.keep ⟨rfl, rfl, rfl, rfl, rfl, rfl, rfl, rfl, rfl, rfl, rfl, rfl, trivial⟩
      clear F54
      refine then_n ?_
      refine wp_seq ?_
      refine wp_region_lit ?_
      refine list_val F55 (wn rfl) rfl rfl (.agg #[.slice A5 (init2.length + 1) c5, .int .u64 next2]) (ex_load _ _ rfl _ (F55.e rfl) _ (lvr (cs := [.slice A5 (init2.length + 1) c5, .int .u64 next2]) cl_row_69_2 (M12.at (i := 0) rfl))) ?_
      clear F55; try clear a47
      intro a48 F56
      refine list_do (wn rfl) (fun K hK => ?_)
      refine ow_call rfl rfl F56 18 #[.agg #[.slice A5 (init2.length + 1) c5, .int .u64 next2]] (ex_call 18 _ _ rfl rfl cl_ent_18 _ (map1 (F56.e rfl))) (copy_r G.ring _ _ _ O_x) (fun e w13 hR => ?_)
      obtain ⟨A6, c6, he, O_z, hb⟩ := hR
      refine ⟨.agg #[.slice A6 (init2.length + 1) c6, .int .u64 next2], he, fun a49 F57 => ?_⟩
      clear he F56
      refine hK _ _ ?_
      clear hK K
      replace O_r := O_r.below hb
      replace O_x := O_x.below hb
      have M13 := M12.below hb
      clear M12
      try clear hb
      try clear a48
      try clear w12
      refine list_val F57 (wn rfl) rfl rfl (.int .u64 ki.kid) (ex_move _ rfl _ (F57.e rfl)) ?_
      clear F57; try clear a49
      intro a50 F58
      refine list_val F58 (wn rfl) rfl rfl (.agg ((b32 0 0).cs.toArray)) (ex_build _ _ rfl _ parts0 _ (build70_0 _)) ?_
      clear F58; try clear a50
      intro a51 F59
      refine list_do (wn rfl) (fun K hK => ?_)
      refine ow_call rfl rfl F59 16 #[.agg #[.slice A6 (init2.length + 1) c6, .int .u64 next2], .int .u64 ki.kid, .agg ((b32 0 0).cs.toArray)] (ex_call 16 _ _ rfl rfl cl_ent_16 _ (map3 (F59.e rfl) (F59.e rfl) (F59.e rfl))) (hda _ _ _ O_z) (fun e w14 hR => ?_)
      obtain ⟨A7, c7, he, hb⟩ := hR
      refine ⟨.tuple #[.agg #[.slice A7 0 c7, .int .u64 0], .int .i64 53], he, fun a52 F60 => ?_⟩
      clear he F59
      refine hK _ _ ?_
      clear hK K
      replace O_r := O_r.below hb
      replace O_x := O_x.below hb
      have M14 := M13.below hb
      clear M13
      try clear hb
      try clear a51
      try clear w13
      clear O_z
      refine list_val F60 (wn rfl) rfl rfl (.tuple #[.agg #[.slice A7 0 c7, .int .u64 0], .int .i64 53]) (ex_move _ rfl _ (F60.e rfl)) ?_
      clear F60; try clear a52
      intro a53 F61
      refine list_val F61 (wn rfl) rfl rfl (.agg #[.slice A7 0 c7, .int .u64 0]) (ex_extract _ _ rfl _ (F61.e rfl) _ rfl) ?_
      clear F61; try clear a53
      intro a54 F62
      refine list_val F62 (wn rfl) rfl rfl (.int .i64 53) (ex_extract _ _ rfl _ (F62.e rfl) _ rfl) ?_
      clear F62; try clear a54
      intro a55 F63
      refine list_do (wn rfl) (fun K hK => ?_)
      refine ow_alloc F63 M14 rfl rfl 69 rfl (.agg #[.slice none 0 0, .int .u64 0]) z69 #[.slice none 0 0, .int .u64 0] rfl (fun a56 g11 w15 F64 M15 hb hg => ?_)
      refine hK _ _ ?_
      clear hK K
      have K_O_r := O_r
      have K_O_x := O_x
      replace O_r := O_r.below hb
      replace O_x := O_x.below hb
      have hz_g11 := hb
      have lo_g11 := hg
      clear hb hg F63 M14
      try clear a55
      try clear w14
      refine list_do (wn rfl) (fun K hK => ?_)
      refine ow_put F64 M15 rfl 69 _ _ rfl 0 _ #[.slice none 0 0, .int .u64 0] _ rfl (F64.e rfl) #[.slice A7 0 c7, .int .u64 0] (F64.e rfl) (sz_row (m := 2) cl_row_69_2) rfl (by simp [Value.oneCell']) (fun a57 w16 F65 M16 hgr => ?_)
      refine hK _ _ ?_
      clear hK K
      have hzz := S_grown hz_g11 hgr lo_g11
      replace O_r := K_O_r.below hzz
      replace O_x := K_O_x.below hzz
      clear hzz hz_g11 lo_g11 K_O_r K_O_x
      clear F64 M15
      try clear hgr
      try clear a56
      try clear w15
      replace M16 : Mm w w16 [⟨g11, #[.slice A7 0 c7, .int .u64 0], 69⟩, ⟨g9, #[.slice A5 (init2.length + 1) c5, .int .u64 next2], 69⟩, ⟨g5, last.arr, 107⟩, ⟨g3, #[.slice (some ad) (init.length + 1) c3, .int .u64 next], 69⟩] := M16
      refine list_val F65 (wn rfl) rfl rfl (.int .i64 53) (ex_assign _ rfl _ (F65.e rfl)) ?_
      clear F65; try clear a57
      intro a58 F66
      refine wpList_nil ?_
      have F67 : Fr 183 a58 [(0, .agg (lifeArr s (.slice A ts.length c))), (1, .pointer (some ⟨g1, 0, none⟩)), (2, .bool false), (3, .pointer (some ⟨g3, 0, none⟩)), (4, .bool true), (5, .pointer (some ⟨g5, 0, none⟩)), (7, .int .i64 i), (8, .int .u64 ki.kid), (9, .pointer (some ⟨g9, 0, none⟩)), (10, .int .i64 0), (12, .int .i64 53), (26, .bool false), (36, .bool true)] := F66.keep ⟨rfl, rfl, rfl, rfl, rfl, rfl, rfl, rfl, rfl, rfl, rfl, rfl, rfl, trivial⟩
      clear F66
      refine then_n ?_
      refine wp_seq ?_
      refine wp_region_lit ?_
      refine list_val F67 (wn rfl) rfl rfl (.agg #[.slice A5 (init2.length + 1) c5, .int .u64 next2]) (ex_load _ _ rfl _ (F67.e rfl) _ (lvr (cs := [.slice A5 (init2.length + 1) c5, .int .u64 next2]) cl_row_69_2 (M16.at (i := 1) rfl))) ?_
      clear F67; try clear a58
      intro a59 F68
      refine list_val F68 (wn rfl) rfl rfl (.int .u64 ki.kid) (ex_move _ rfl _ (F68.e rfl)) ?_
      clear F68; try clear a59
      intro a60 F69
      refine list_do (wn rfl) (fun K hK => ?_)
      refine ow_call rfl rfl F69 30 #[.agg #[.slice A5 (init2.length + 1) c5, .int .u64 next2], .int .u64 ki.kid] (ex_call 30 _ _ rfl rfl cl_ent_30 _ (map2 (F69.e rfl) (F69.e rfl))) (find_n _ _ _ O_x G.find_none) (fun e w17 hR => ?_)
      obtain ⟨he, hb⟩ := hR
      refine ⟨.tuple #[.agg zKey.arr, .bool false], he, fun a61 F70 => ?_⟩
      clear he F69
      refine hK _ _ ?_
      clear hK K
      replace O_r := O_r.below hb
      replace O_x := O_x.below hb
      have M17 := M16.below hb
      clear M16
      try clear hb
      try clear a60
      try clear w16
      refine list_val F70 (wn rfl) rfl rfl (.tuple #[.agg zKey.arr, .bool false]) (ex_move _ rfl _ (F70.e rfl)) ?_
      clear F70; try clear a61
      intro a62 F71
      refine list_val F71 (wn rfl) rfl rfl (.agg zKey.arr) (ex_extract _ _ rfl _ (F71.e rfl) _ rfl) ?_
      clear F71; try clear a62
      intro a63 F72
      refine list_val F72 (wn rfl) rfl rfl (.bool false) (ex_extract _ _ rfl _ (F72.e rfl) _ rfl) ?_
      clear F72; try clear a63
      intro a64 F73
      refine list_do (wn rfl) (fun K hK => ?_)
      refine ow_alloc F73 M17 rfl rfl 107 rfl (.agg zKey.arr) zero107 zKey.arr rfl (fun a65 g13 w18 F74 M18 hb hg => ?_)
      refine hK _ _ ?_
      clear hK K
      have K_O_r := O_r
      have K_O_x := O_x
      replace O_r := O_r.below hb
      replace O_x := O_x.below hb
      have hz_g13 := hb
      have lo_g13 := hg
      clear hb hg F73 M17
      try clear a64
      try clear w17
      refine list_do (wn rfl) (fun K hK => ?_)
      refine ow_put F74 M18 rfl 107 _ _ rfl 0 _ zKey.arr _ rfl (F74.e rfl) zKey.arr (F74.e rfl) (by rw [Key.arr_size]; exact info107) (by simp only [Key.arr_size]) (Key.arr_one _) (fun a66 w19 F75 M19 hgr => ?_)
      refine hK _ _ ?_
      clear hK K
      have hzz := S_grown hz_g13 hgr lo_g13
      replace O_r := K_O_r.below hzz
      replace O_x := K_O_x.below hzz
      clear hzz hz_g13 lo_g13 K_O_r K_O_x
      clear F74 M18
      try clear hgr
      try clear a65
      try clear w18
      replace M19 : Mm w w19 [⟨g13, zKey.arr, 107⟩, ⟨g11, #[.slice A7 0 c7, .int .u64 0], 69⟩, ⟨g9, #[.slice A5 (init2.length + 1) c5, .int .u64 next2], 69⟩, ⟨g5, last.arr, 107⟩, ⟨g3, #[.slice (some ad) (init.length + 1) c3, .int .u64 next], 69⟩] := M19
      refine list_val F75 (wn rfl) rfl rfl (.bool false) (ex_assign _ rfl _ (F75.e rfl)) ?_
      clear F75; try clear a66
      intro a67 F76
      refine wpList_nil ?_
      have F77 : Fr 183 a67 [(0, .agg (lifeArr s (.slice A ts.length c))), (1, .pointer (some ⟨g1, 0, none⟩)), (2, .bool false), (3, .pointer (some ⟨g3, 0, none⟩)), (4, .bool true), (5, .pointer (some ⟨g5, 0, none⟩)), (7, .int .i64 i), (8, .int .u64 ki.kid), (9, .pointer (some ⟨g9, 0, none⟩)), (10, .int .i64 0), (12, .int .i64 53), (14, .bool false), (26, .bool false), (36, .bool true)] := F76.keep ⟨rfl, rfl, rfl, rfl, rfl, rfl, rfl, rfl, rfl, rfl, rfl, rfl, rfl, rfl, trivial⟩
      clear F76
      refine then_n ?_
      refine wp_seq ?_
      refine wp_seq ?_
      refine wp_region_lit ?_
      refine list_val F77 (wn rfl) rfl rfl (.int .i64 0) (ex_move _ rfl _ (F77.e rfl)) ?_
      clear F77; try clear a67
      intro a68 F78
      refine list_do (wn rfl) (fun K hK => ?_)
      refine ow_call rfl rfl F78 22 #[.int .i64 0] (ex_call 22 _ _ rfl rfl cl_ent_22 _ (map1 (F78.e rfl))) (num_any _ _) (fun e w20 hR => ?_)
      obtain ⟨he, hw⟩ := hR
      refine ⟨.int .i64 0, he, fun a69 F79 => ?_⟩
      clear he F78
      obtain rfl := hw
      refine hK _ _ ?_
      clear hK K
      try clear a68
      refine list_val F79 (wn rfl) rfl rfl (.bool false) (ex_bin .neq _ _ _ _ rfl .i64 _ _ (F79.e rfl) rfl _ (b_neq (by decide))) ?_
      clear F79; try clear a69
      intro a70 F80
      refine list_val F80 (wn rfl) rfl rfl (.bool false) (ex_move _ rfl _ (F80.e rfl)) ?_
      clear F80; try clear a70
      intro a71 F81
      refine list_val F81 (F81.wants 72 false rfl (by kernel_rfl) rfl true rfl) rfl rfl (.agg #[.slice A5 (init2.length + 1) c5, .int .u64 next2]) (ex_load _ _ rfl _ (F81.e rfl) _ (lvr (cs := [.slice A5 (init2.length + 1) c5, .int .u64 next2]) cl_row_69_2 (M19.at (i := 2) rfl))) ?_
      clear F81; try clear a71
      intro a72 F82
      refine list_do (F82.wants 72 false rfl (by kernel_rfl) rfl true rfl) (fun K hK => ?_)
      refine ow_call rfl rfl F82 31 #[.agg #[.slice A5 (init2.length + 1) c5, .int .u64 next2]] (ex_call 31 _ _ rfl rfl cl_ent_31 _ (map1 (F82.e rfl))) (check_r G.ring _ _ _ O_x) (fun e w21 hR => ?_)
      obtain ⟨he, hb⟩ := hR
      refine ⟨.int .i64 0, he, fun a73 F83 => ?_⟩
      clear he F82
      refine hK _ _ ?_
      clear hK K
      replace O_r := O_r.below hb
      replace O_x := O_x.below hb
      have M20 := M19.below hb
      clear M19
      try clear hb
      try clear a72
      try clear w19
      refine list_do (F83.wants 72 false rfl (by kernel_rfl) rfl true rfl) (fun K hK => ?_)
      refine ow_call rfl rfl F83 22 #[.int .i64 0] (ex_call 22 _ _ rfl rfl cl_ent_22 _ (map1 (F83.e rfl))) (num_any _ _) (fun e w22 hR => ?_)
      obtain ⟨he, hw⟩ := hR
      refine ⟨.int .i64 0, he, fun a74 F84 => ?_⟩
      clear he F83
      obtain rfl := hw
      refine hK _ _ ?_
      clear hK K
      try clear a73
      refine list_val F84 (F84.wants 72 false rfl (by kernel_rfl) rfl true rfl) rfl rfl (.bool false) (ex_bin .neq _ _ _ _ rfl .i64 _ _ (F84.e rfl) rfl _ (b_neq (by decide))) ?_
      clear F84; try clear a74
      intro a75 F85
      refine list_val F85 (wn rfl) rfl rfl (.bool false) (ex_pick_f _ _ _ rfl (F85.e rfl) _ (F85.e rfl)) ?_
      clear F85; try clear a75
      intro a76 F86
      refine list_val F86 (wn rfl) rfl rfl (.bool false) (ex_move _ rfl _ (F86.e rfl)) ?_
      clear F86; try clear a76
      intro a77 F87
      refine list_val F87 (F87.wants 78 false rfl (by kernel_rfl) rfl true rfl) rfl rfl (.bool false) (ex_move _ rfl _ (F87.e rfl)) ?_
      clear F87; try clear a77
      intro a78 F88
      refine list_val F88 (wn rfl) rfl rfl (.bool false) (ex_pick_f _ _ _ rfl (F88.e rfl) _ (F88.e rfl)) ?_
      clear F88; try clear a78
      intro a79 F89
      refine list_val F89 (wn rfl) rfl rfl (.bool false) (ex_move _ rfl _ (F89.e rfl)) ?_
      clear F89; try clear a79
      intro a80 F90
      refine list_val F90 (F90.wants 81 false rfl (by kernel_rfl) rfl true rfl) rfl rfl (.int .i64 53) (ex_move _ rfl _ (F90.e rfl)) ?_
      clear F90; try clear a80
      intro a81 F91
      refine list_do (F91.wants 81 false rfl (by kernel_rfl) rfl true rfl) (fun K hK => ?_)
      refine ow_call rfl rfl F91 22 #[.int .i64 53] (ex_call 22 _ _ rfl rfl cl_ent_22 _ (map1 (F91.e rfl))) (num_any _ _) (fun e w23 hR => ?_)
      obtain ⟨he, hw⟩ := hR
      refine ⟨.int .i64 53, he, fun a82 F92 => ?_⟩
      clear he F91
      obtain rfl := hw
      refine hK _ _ ?_
      clear hK K
      try clear a81
      refine list_val F92 (F92.wants 81 false rfl (by kernel_rfl) rfl true rfl) rfl rfl (.bool false) (ex_bin .neq _ _ _ _ rfl .i64 _ _ (F92.e rfl) rfl _ (b_neq (by decide))) ?_
      clear F92; try clear a82
      intro a83 F93
      refine list_val F93 (wn rfl) rfl rfl (.bool false) (ex_pick_f _ _ _ rfl (F93.e rfl) _ (F93.e rfl)) ?_
      clear F93; try clear a83
      intro a84 F94
      refine wpList_nil ?_
      have F95 : Fr 183 a84 [(0, .agg (lifeArr s (.slice A ts.length c))), (1, .pointer (some ⟨g1, 0, none⟩)), (2, .bool false), (3, .pointer (some ⟨g3, 0, none⟩)), (4, .bool true), (5, .pointer (some ⟨g5, 0, none⟩)), (7, .int .i64 i), (8, .int .u64 ki.kid), (9, .pointer (some ⟨g9, 0, none⟩)), (10, .int .i64 0), (12, .int .i64 53), (14, .bool false), (26, .bool false), (36, .bool true), (85, .bool false)] := F94.keep ⟨rfl, rfl, rfl, rfl, rfl, rfl, rfl, rfl, rfl, rfl, rfl, rfl, rfl, rfl, rfl, trivial⟩
      clear F94
      refine then_n ?_
      refine wp_cond_false (F95.e rfl) ?_
      refine wp_skip ?_
      refine then_n ?_
      refine wp_seq ?_
      refine wp_seq ?_
      refine wp_region_lit ?_
      refine list_val F95 (wn rfl) rfl rfl (.int .i64 0) (ex_assign _ rfl _ rfl) ?_
      clear F95; try clear a84
      intro a85 F96
      refine wpList_nil ?_
      have F97 : Fr 183 a85 [(0, .agg (lifeArr s (.slice A ts.length c))), (1, .pointer (some ⟨g1, 0, none⟩)), (2, .bool false), (3, .pointer (some ⟨g3, 0, none⟩)), (4, .bool true), (5, .pointer (some ⟨g5, 0, none⟩)), (7, .int .i64 i), (8, .int .u64 ki.kid), (9, .pointer (some ⟨g9, 0, none⟩)), (10, .int .i64 0), (12, .int .i64 53), (14, .bool false), (15, .int .i64 0), (26, .bool false), (36, .bool true), (85, .bool false)] := F96.keep ⟨rfl, rfl, rfl, rfl, rfl, rfl, rfl, rfl, rfl, rfl, rfl, rfl, rfl, rfl, rfl, rfl, trivial⟩
      clear F96
      refine then_n ?_
      refine wp_block ?_
      refine wp_loop (fun ar wr => ∃ (j : Nat), Fr 183 ar [(0, .agg (lifeArr s (.slice A ts.length c))), (1, .pointer (some ⟨g1, 0, none⟩)), (2, .bool false), (3, .pointer (some ⟨g3, 0, none⟩)), (4, .bool true), (5, .pointer (some ⟨g5, 0, none⟩)), (7, .int .i64 i), (8, .int .u64 ki.kid), (9, .pointer (some ⟨g9, 0, none⟩)), (10, .int .i64 0), (12, .int .i64 53), (14, .bool false), (15, .int .i64 j), (26, .bool false), (36, .bool true), (85, .bool false)] ∧ Mm w wr [⟨g9, #[.slice A5 (init2.length + 1) c5, .int .u64 next2], 69⟩, ⟨g5, last.arr, 107⟩, ⟨g3, #[.slice (some ad) (init.length + 1) c3, .int .u64 next], 69⟩] ∧ RO wr (some ad) c3 ⟨init ++ [last], next⟩ ∧ RO wr A5 c5 ⟨init2 ++ [last2], next2⟩ ∧ j ≤ init.length + 1) (fun ar _ => (init.length + 1) - (intOf (ar.eval (.tmp 15))).toNat) ?_ ?_
      · exact ⟨0, F97.keep ⟨rfl, rfl, rfl, rfl, rfl, rfl, rfl, rfl, rfl, rfl, rfl, rfl, rfl, rfl, rfl, rfl, trivial⟩, (M20.pick' [2, 3, 4] [⟨g9, #[.slice A5 (init2.length + 1) c5, .int .u64 next2], 69⟩, ⟨g5, last.arr, 107⟩, ⟨g3, #[.slice (some ad) (init.length + 1) c3, .int .u64 next], 69⟩] ⟨rfl, rfl, rfl, trivial⟩ (by decide)), O_r, O_x, (Nat.zero_le _)⟩
      · clear F97 M20 O_r O_x
        rintro a86 w24 ⟨j, F98, M21, O_r, O_x, hj⟩
        try clear a85
        try clear w21
        have Fh2 := F98
        by_cases hc2 : j < init.length + 1
        · obtain ⟨ad', had, zm, _, _⟩ := at_Key (O_r.rk.1) (j : Int) (by omega) (by simp only [ring_len]; omega)
          obtain rfl := Option.some.inj had
          clear had
          rw [show (j : Int).toNat = j from rfl] at zm
          have hjl : j < (init ++ [last]).length := by simp only [ring_len]; exact hc2
          have hkj : rdK (init ++ [last]) (j : Int) ∈ init ++ [last] := by rw [rdK_eq hjl]; exact List.getElem_mem _
          have hjx := hix j hc2
          have hjy : j = i → rdK (init ++ [last]) (j : Int) = ki := fun e => by rw [e]; exact hkd
          generalize hkjd : rdK (init ++ [last]) (j : Int) = kj at zm hkj hjx hjy
          by_cases hji : j = i
          · have hkk : kj.kid = ki.kid := by rw [hjy hji]
            refine wp_seq ?_
            refine wp_seq ?_
            refine wp_region_lit ?_
            refine list_val F98 (wn rfl) rfl rfl (.int .i64 j) (ex_move _ rfl _ (F98.e rfl)) ?_
            clear F98; try clear a86
            intro a87 F99
            refine list_val F99 (wn rfl) rfl rfl (.pointer (some ⟨g3, 0, none⟩)) (ex_fa _ _ _ rfl _ (F99.e rfl) 0 cl_fa_69_0_0 ⟨g3, 0, none⟩ rfl) ?_
            clear F99; try clear a87
            intro a88 F100
            refine list_val F100 (wn rfl) rfl rfl (.slice (some ad) (init.length + 1) c3) (ex_load _ _ rfl _ (F100.e rfl) _ (lv1 cl_one_55 (M21.cell (i := 2) rfl (j := 0) rfl))) ?_
            clear F100; try clear a88
            intro a89 F101
            refine list_val F101 (wn rfl) rfl rfl (.int .i64 (((init.length + 1) : Nat) : Int)) (ex_len _ _ rfl 34 cl_sl_55_34 _ _ _ (F101.e rfl)) ?_
            clear F101; try clear a89
            intro a90 F102
            refine list_val F102 (wn rfl) rfl rfl (.bool true) (ex_bin .lss _ _ _ _ rfl .i64 _ _ (F102.e rfl) (F102.e rfl) _ (b_lss (decide_eq_true (by omega)))) ?_
            clear F102; try clear a90
            intro a91 F103
            refine wpList_nil ?_
            have F104 : Fr 183 a91 [(0, .agg (lifeArr s (.slice A ts.length c))), (1, .pointer (some ⟨g1, 0, none⟩)), (2, .bool false), (3, .pointer (some ⟨g3, 0, none⟩)), (4, .bool true), (5, .pointer (some ⟨g5, 0, none⟩)), (7, .int .i64 i), (8, .int .u64 ki.kid), (9, .pointer (some ⟨g9, 0, none⟩)), (10, .int .i64 0), (12, .int .i64 53), (14, .bool false), (15, .int .i64 j), (26, .bool false), (36, .bool true), (85, .bool false), (90, .bool true)] := F103.keep ⟨rfl, rfl, rfl, rfl, rfl, rfl, rfl, rfl, rfl, rfl, rfl, rfl, rfl, rfl, rfl, rfl, rfl, trivial⟩
            clear F103
            refine then_n ?_
            refine wp_cond_true (F104.e rfl) ?_
            refine wp_skip ?_
            refine then_n ?_
            refine wp_seq ?_
            refine wp_block ?_
            refine wp_seq ?_
            refine wp_only (fun ar wr => ∃ (g16 : Nat), Fr 183 ar [(0, .agg (lifeArr s (.slice A ts.length c))), (1, .pointer (some ⟨g1, 0, none⟩)), (2, .bool false), (3, .pointer (some ⟨g3, 0, none⟩)), (4, .bool true), (5, .pointer (some ⟨g5, 0, none⟩)), (7, .int .i64 i), (8, .int .u64 ki.kid), (9, .pointer (some ⟨g9, 0, none⟩)), (10, .int .i64 0), (12, .int .i64 53), (14, .bool false), (15, .int .i64 j), (16, .pointer (some ⟨g16, 0, none⟩)), (17, .bool false), (26, .bool false), (36, .bool true), (85, .bool false), (90, .bool true)] ∧ Mm w wr [⟨g16, zKey.arr, 107⟩, ⟨g9, #[.slice A5 (init2.length + 1) c5, .int .u64 next2], 69⟩, ⟨g5, last.arr, 107⟩, ⟨g3, #[.slice (some ad) (init.length + 1) c3, .int .u64 next], 69⟩] ∧ RO wr (some ad) c3 ⟨init ++ [last], next⟩ ∧ RO wr A5 c5 ⟨init2 ++ [last2], next2⟩ ∧ At wr (ad.add (j * 34)) kj.cs) ?_ ?_
            · refine region_any cl_follows_mixedOrders M21 (fun w25 M22 hb => ?_)
              replace O_r := O_r.below hb
              replace O_x := O_x.below hb
              replace zm := zm.below hb
              clear M21 hb
              try clear w24
              have hS : Below w25.heap.size w25 w25 := Below.refl _ _
              have MD := M22
              have D_O_r := O_r
              have D_O_x := O_x
              have D_zm := zm
              refine any_take F104 0 rfl (by kernel_rfl) (by kernel_rfl) (by kernel_rfl) (wn rfl) rfl rfl (.agg #[.slice A5 (init2.length + 1) c5, .int .u64 next2]) (fun w' hS' => ex_load _ _ rfl _ (F104.e rfl) _ (lvr (cs := [.slice A5 (init2.length + 1) c5, .int .u64 next2]) cl_row_69_2 ((MD.below hS').at (i := 0) rfl))) hS ?_
              clear F104; try clear a91
              intro a92 F105
              refine any_take F105 1 rfl (by kernel_rfl) (by kernel_rfl) (by kernel_rfl) (wn rfl) rfl rfl (.pointer (some ⟨g3, 0, none⟩)) (fun w' hS' => ex_fa _ _ _ rfl _ (F105.e rfl) 0 cl_fa_69_0_0 ⟨g3, 0, none⟩ rfl) hS ?_
              clear F105; try clear a92
              intro a93 F106
              refine any_take F106 2 rfl (by kernel_rfl) (by kernel_rfl) (by kernel_rfl) (wn rfl) rfl rfl (.slice (some ad) (init.length + 1) c3) (fun w' hS' => ex_load _ _ rfl _ (F106.e rfl) _ (lv1 cl_one_55 ((MD.below hS').cell (i := 2) rfl (j := 0) rfl))) hS ?_
              clear F106; try clear a93
              intro a94 F107
              refine any_take F107 3 rfl (by kernel_rfl) (by kernel_rfl) (by kernel_rfl) (wn rfl) rfl rfl (.int .i64 j) (fun w' hS' => ex_move _ rfl _ (F107.e rfl)) hS ?_
              clear F107; try clear a94
              intro a95 F108
              refine any_take F108 4 rfl (by kernel_rfl) (by kernel_rfl) (by kernel_rfl) (wn rfl) rfl rfl (.pointer (some (ad.add (j * 34)))) (fun w' hS' => ex_ix _ _ _ rfl 34 cl_sl_55_34 ad _ _ (F108.e rfl) .i64 _ (F108.e rfl) j rfl (by omega) (ad.add (j * 34)) rfl) hS ?_
              clear F108; try clear a95
              intro a96 F109
              refine any_take F109 5 rfl (by kernel_rfl) (by kernel_rfl) (by kernel_rfl) (wn rfl) rfl rfl (.pointer (some (ad.add (j * 34)))) (fun w' hS' => ex_fa _ _ _ rfl _ (F109.e rfl) 0 cl_fa_107_0_0 (ad.add (j * 34)) rfl) hS ?_
              clear F109; try clear a96
              intro a97 F110
              refine any_take F110 6 rfl (by kernel_rfl) (by kernel_rfl) (by kernel_rfl) (wn rfl) rfl rfl (.int .u64 kj.kid) (fun w' hS' => ex_load _ _ rfl _ (F110.e rfl) _ (lv1 cl_one_67 ((D_zm.below hS').cell 0 _ (Key.cs_0 _)))) hS ?_
              clear F110; try clear a97
              intro a98 F111
              refine any_ready [7, 11] (by kernel_rfl) (by simp) ?_
              refine ready_do rfl (wn rfl) (fun K hK => ?_) ?_
              · refine ow_call rfl rfl F111 30 #[.agg #[.slice A5 (init2.length + 1) c5, .int .u64 next2], .int .u64 kj.kid] (ex_call 30 _ _ rfl rfl cl_ent_30 _ (map2 (F111.e rfl) (F111.e rfl))) (find_n _ _ _ O_x (by rw [hkk]; exact G.find_none)) (fun e w26 hR => ?_)
                obtain ⟨he, hb⟩ := hR
                refine ⟨.tuple #[.agg zKey.arr, .bool false], he, fun a99 F112 => ?_⟩
                clear he F111
                refine hK _ _ (S_below hS hb) ?_
                replace hS := S_below hS hb
                clear hK K
                replace O_r := O_r.below hb
                replace O_x := O_x.below hb
                replace zm := zm.below hb
                have M23 := M22.below hb
                clear M22
                try clear hb
                try clear a98
                try clear w25
                refine any_take F112 8 rfl (by kernel_rfl) (by kernel_rfl) (by kernel_rfl) (wn rfl) rfl rfl (.tuple #[.agg zKey.arr, .bool false]) (fun w' hS' => ex_move _ rfl _ (F112.e rfl)) hS ?_
                clear F112; try clear a99
                intro a100 F113
                refine any_take F113 9 rfl (by kernel_rfl) (by kernel_rfl) (by kernel_rfl) (wn rfl) rfl rfl (.agg zKey.arr) (fun w' hS' => ex_extract _ _ rfl _ (F113.e rfl) _ rfl) hS ?_
                clear F113; try clear a100
                intro a101 F114
                refine any_take F114 10 rfl (by kernel_rfl) (by kernel_rfl) (by kernel_rfl) (wn rfl) rfl rfl (.bool false) (fun w' hS' => ex_extract _ _ rfl _ (F114.e rfl) _ rfl) hS ?_
                clear F114; try clear a101
                intro a102 F115
                refine any_ready [11] (by kernel_rfl) (by simp) ?_
                refine ready_do rfl (wn rfl) (fun K hK => ?_) ?_
                · refine ow_alloc F115 M23 rfl rfl 107 rfl (.agg zKey.arr) zero107 zKey.arr rfl (fun a103 g16 w27 F116 M24 hb hg => ?_)
                  have los_g16 := Nat.le_trans hS.size hg
                  refine hK _ _ (S_below hS hb) ?_
                  replace hS := S_below hS hb
                  clear hK K
                  have K_O_r := O_r
                  have K_O_x := O_x
                  have K_zm := zm
                  replace O_r := O_r.below hb
                  replace O_x := O_x.below hb
                  replace zm := zm.below hb
                  have hz_g16 := hb
                  have lo_g16 := hg
                  clear hb hg F115 M23
                  try clear a102
                  try clear w26
                  refine any_ready [12] (by kernel_rfl) (by simp) ?_
                  refine ready_do rfl (wn rfl) (fun K hK => ?_) ?_
                  · refine ow_put F116 M24 rfl 107 _ _ rfl 0 _ zKey.arr _ rfl (F116.e rfl) zKey.arr (F116.e rfl) (by rw [Key.arr_size]; exact info107) (by simp only [Key.arr_size]) (Key.arr_one _) (fun a104 w28 F117 M25 hgr => ?_)
                    refine hK _ _ (S_grown hS hgr los_g16) ?_
                    replace hS := S_grown hS hgr los_g16
                    clear hK K
                    have hzz := S_grown hz_g16 hgr lo_g16
                    replace O_r := K_O_r.below hzz
                    replace O_x := K_O_x.below hzz
                    replace zm := K_zm.below hzz
                    clear hzz hz_g16 lo_g16 K_O_r K_O_x K_zm
                    clear F116 M24
                    try clear hgr
                    try clear a103
                    try clear w27
                    replace M25 : Mm w w28 [⟨g16, zKey.arr, 107⟩, ⟨g9, #[.slice A5 (init2.length + 1) c5, .int .u64 next2], 69⟩, ⟨g5, last.arr, 107⟩, ⟨g3, #[.slice (some ad) (init.length + 1) c3, .int .u64 next], 69⟩] := M25
                    refine any_take F117 13 rfl (by kernel_rfl) (by kernel_rfl) (by kernel_rfl) (wn rfl) rfl rfl (.bool false) (fun w' hS' => ex_assign _ rfl _ (F117.e rfl)) hS ?_
                    clear F117; try clear a104
                    intro a105 F118
                    refine any_done (by kernel_rfl) ?_
                    exact ⟨g16, F118.keep ⟨rfl, rfl, rfl, rfl, rfl, rfl, rfl, rfl, rfl, rfl, rfl, rfl, rfl, rfl, rfl, rfl, rfl, rfl, rfl, trivial⟩, M25.pick' [0, 1, 2, 3] [⟨g16, zKey.arr, 107⟩, ⟨g9, #[.slice A5 (init2.length + 1) c5, .int .u64 next2], 69⟩, ⟨g5, last.arr, 107⟩, ⟨g3, #[.slice (some ad) (init.length + 1) c3, .int .u64 next], 69⟩] ⟨rfl, rfl, rfl, rfl, trivial⟩ (by decide), O_r, O_x, zm⟩
                  exact AllReadyH.nil
                exact AllReadyH.nil
              refine ready_do rfl (wn rfl) (fun K hK => ?_) ?_
              · refine ow_alloc F111 M22 rfl rfl 107 rfl (.agg zKey.arr) zero107 zKey.arr rfl (fun a106 g16 w29 F119 M26 hb hg => ?_)
                have los_g16 := Nat.le_trans hS.size hg
                refine hK _ _ (S_below hS hb) ?_
                replace hS := S_below hS hb
                clear hK K
                have K_O_r := O_r
                have K_O_x := O_x
                have K_zm := zm
                replace O_r := O_r.below hb
                replace O_x := O_x.below hb
                replace zm := zm.below hb
                have hz_g16 := hb
                have lo_g16 := hg
                clear hb hg F111 M22
                try clear a98
                try clear w25
                refine any_ready [7] (by kernel_rfl) (by simp) ?_
                refine ready_do rfl (wn rfl) (fun K hK => ?_) ?_
                · refine ow_call rfl rfl F119 30 #[.agg #[.slice A5 (init2.length + 1) c5, .int .u64 next2], .int .u64 kj.kid] (ex_call 30 _ _ rfl rfl cl_ent_30 _ (map2 (F119.e rfl) (F119.e rfl))) (find_n _ _ _ O_x (by rw [hkk]; exact G.find_none)) (fun e w30 hR => ?_)
                  obtain ⟨he, hb⟩ := hR
                  refine ⟨.tuple #[.agg zKey.arr, .bool false], he, fun a107 F120 => ?_⟩
                  clear he F119
                  refine hK _ _ (S_below hS hb) ?_
                  replace hS := S_below hS hb
                  clear hK K
                  replace O_r := O_r.below hb
                  replace O_x := O_x.below hb
                  replace zm := zm.below hb
                  replace hz_g16 := S_below hz_g16 hb
                  have M27 := M26.below hb
                  clear M26
                  try clear hb
                  try clear a106
                  try clear w29
                  refine any_take F120 8 rfl (by kernel_rfl) (by kernel_rfl) (by kernel_rfl) (wn rfl) rfl rfl (.tuple #[.agg zKey.arr, .bool false]) (fun w' hS' => ex_move _ rfl _ (F120.e rfl)) hS ?_
                  clear F120; try clear a107
                  intro a108 F121
                  refine any_take F121 9 rfl (by kernel_rfl) (by kernel_rfl) (by kernel_rfl) (wn rfl) rfl rfl (.agg zKey.arr) (fun w' hS' => ex_extract _ _ rfl _ (F121.e rfl) _ rfl) hS ?_
                  clear F121; try clear a108
                  intro a109 F122
                  refine any_take F122 10 rfl (by kernel_rfl) (by kernel_rfl) (by kernel_rfl) (wn rfl) rfl rfl (.bool false) (fun w' hS' => ex_extract _ _ rfl _ (F122.e rfl) _ rfl) hS ?_
                  clear F122; try clear a109
                  intro a110 F123
                  refine any_ready [12] (by kernel_rfl) (by simp) ?_
                  refine ready_do rfl (wn rfl) (fun K hK => ?_) ?_
                  · refine ow_put F123 M27 rfl 107 _ _ rfl 0 _ zKey.arr _ rfl (F123.e rfl) zKey.arr (F123.e rfl) (by rw [Key.arr_size]; exact info107) (by simp only [Key.arr_size]) (Key.arr_one _) (fun a111 w31 F124 M28 hgr => ?_)
                    refine hK _ _ (S_grown hS hgr los_g16) ?_
                    replace hS := S_grown hS hgr los_g16
                    clear hK K
                    have hzz := S_grown hz_g16 hgr lo_g16
                    replace O_r := K_O_r.below hzz
                    replace O_x := K_O_x.below hzz
                    replace zm := K_zm.below hzz
                    clear hzz hz_g16 lo_g16 K_O_r K_O_x K_zm
                    clear F123 M27
                    try clear hgr
                    try clear a110
                    try clear w30
                    replace M28 : Mm w w31 [⟨g16, zKey.arr, 107⟩, ⟨g9, #[.slice A5 (init2.length + 1) c5, .int .u64 next2], 69⟩, ⟨g5, last.arr, 107⟩, ⟨g3, #[.slice (some ad) (init.length + 1) c3, .int .u64 next], 69⟩] := M28
                    refine any_take F124 13 rfl (by kernel_rfl) (by kernel_rfl) (by kernel_rfl) (wn rfl) rfl rfl (.bool false) (fun w' hS' => ex_assign _ rfl _ (F124.e rfl)) hS ?_
                    clear F124; try clear a111
                    intro a112 F125
                    refine any_done (by kernel_rfl) ?_
                    exact ⟨g16, F125.keep ⟨rfl, rfl, rfl, rfl, rfl, rfl, rfl, rfl, rfl, rfl, rfl, rfl, rfl, rfl, rfl, rfl, rfl, rfl, rfl, trivial⟩, M28.pick' [0, 1, 2, 3] [⟨g16, zKey.arr, 107⟩, ⟨g9, #[.slice A5 (init2.length + 1) c5, .int .u64 next2], 69⟩, ⟨g5, last.arr, 107⟩, ⟨g3, #[.slice (some ad) (init.length + 1) c3, .int .u64 next], 69⟩] ⟨rfl, rfl, rfl, rfl, trivial⟩ (by decide), O_r, O_x, zm⟩
                  exact AllReadyH.nil
                exact AllReadyH.nil
              exact AllReadyH.nil
            clear F104 M21 O_r O_x zm
            intro a113 w32 hR; obtain ⟨g16, F126, M29, O_r, O_x, zm⟩ := hR
            try clear a91
            try clear w24
            refine then_n ?_
            refine wp_seq ?_
            refine wp_only (fun ar wr => Fr 183 ar [(0, .agg (lifeArr s (.slice A ts.length c))), (1, .pointer (some ⟨g1, 0, none⟩)), (2, .bool false), (3, .pointer (some ⟨g3, 0, none⟩)), (4, .bool true), (5, .pointer (some ⟨g5, 0, none⟩)), (7, .int .i64 i), (8, .int .u64 ki.kid), (9, .pointer (some ⟨g9, 0, none⟩)), (10, .int .i64 0), (12, .int .i64 53), (14, .bool false), (15, .int .i64 j), (16, .pointer (some ⟨g16, 0, none⟩)), (17, .bool false), (26, .bool false), (36, .bool true), (85, .bool false), (90, .bool true), (119, .bool false)] ∧ Mm w wr [⟨g16, zKey.arr, 107⟩, ⟨g9, #[.slice A5 (init2.length + 1) c5, .int .u64 next2], 69⟩, ⟨g5, last.arr, 107⟩, ⟨g3, #[.slice (some ad) (init.length + 1) c3, .int .u64 next], 69⟩] ∧ RO wr (some ad) c3 ⟨init ++ [last], next⟩ ∧ RO wr A5 c5 ⟨init2 ++ [last2], next2⟩ ∧ At wr (ad.add (j * 34)) kj.cs) ?_ ?_
            · refine region_any cl_follows_mixedOrders M29 (fun w33 M30 hb => ?_)
              replace O_r := O_r.below hb
              replace O_x := O_x.below hb
              replace zm := zm.below hb
              clear M29 hb
              try clear w32
              have hS : Below w33.heap.size w33 w33 := Below.refl _ _
              have MD := M30
              have D_O_r := O_r
              have D_O_x := O_x
              have D_zm := zm
              refine any_take F126 0 rfl (by kernel_rfl) (by kernel_rfl) (by kernel_rfl) (wn rfl) rfl rfl (.int .i64 j) (fun w' hS' => ex_move _ rfl _ (F126.e rfl)) hS ?_
              clear F126; try clear a113
              intro a114 F127
              refine any_take F127 1 rfl (by kernel_rfl) (by kernel_rfl) (by kernel_rfl) (wn rfl) rfl rfl (.int .i64 i) (fun w' hS' => ex_move _ rfl _ (F127.e rfl)) hS ?_
              clear F127; try clear a114
              intro a115 F128
              refine any_take F128 2 rfl (by kernel_rfl) (by kernel_rfl) (by kernel_rfl) (wn rfl) rfl rfl (.bool false) (fun w' hS' => ex_bin .neq _ _ _ _ rfl .i64 _ _ (F128.e rfl) (F128.e rfl) _ (b_neq (by simp [hji]))) hS ?_
              clear F128; try clear a115
              intro a116 F129
              refine any_take F129 3 rfl (by kernel_rfl) (by kernel_rfl) (by kernel_rfl) (wn rfl) rfl rfl (.bool false) (fun w' hS' => ex_move _ rfl _ (F129.e rfl)) hS ?_
              clear F129; try clear a116
              intro a117 F130
              refine any_skip F130 4 rfl (by kernel_rfl) (by kernel_rfl) (by kernel_rfl) (F130.wants 107 false rfl (by kernel_rfl) rfl false rfl) rfl rfl hS ?_
              clear F130; try clear a117
              intro a118 F131
              refine any_skip F131 5 rfl (by kernel_rfl) (by kernel_rfl) (by kernel_rfl) (F131.wants 107 false rfl (by kernel_rfl) rfl false rfl) rfl rfl hS ?_
              clear F131; try clear a118
              intro a119 F132
              refine any_skip F132 6 rfl (by kernel_rfl) (by kernel_rfl) (by kernel_rfl) (F132.wants 107 false rfl (by kernel_rfl) rfl false rfl) rfl rfl hS ?_
              clear F132; try clear a119
              intro a120 F133
              refine any_skip F133 7 rfl (by kernel_rfl) (by kernel_rfl) (by kernel_rfl) (F133.wants0 110 rfl (by kernel_rfl) rfl) rfl rfl hS ?_
              clear F133; try clear a120
              intro a121 F134
              refine any_skip F134 8 rfl (by kernel_rfl) (by kernel_rfl) (by kernel_rfl) (F134.wants0 110 rfl (by kernel_rfl) rfl) rfl rfl hS ?_
              clear F134; try clear a121
              intro a122 F135
              refine any_skip F135 9 rfl (by kernel_rfl) (by kernel_rfl) (by kernel_rfl) (F135.wants0 110 rfl (by kernel_rfl) rfl) rfl rfl hS ?_
              clear F135; try clear a122
              intro a123 F136
              refine any_skip F136 10 rfl (by kernel_rfl) (by kernel_rfl) (by kernel_rfl) (F136.wants0 110 rfl (by kernel_rfl) rfl) rfl rfl hS ?_
              clear F136; try clear a123
              intro a124 F137
              refine any_skip F137 11 rfl (by kernel_rfl) (by kernel_rfl) (by kernel_rfl) (F137.wants0 110 rfl (by kernel_rfl) rfl) rfl rfl hS ?_
              clear F137; try clear a124
              intro a125 F138
              refine any_skip F138 12 rfl (by kernel_rfl) (by kernel_rfl) (by kernel_rfl) (F138.wants0 110 rfl (by kernel_rfl) rfl) rfl rfl hS ?_
              clear F138; try clear a125
              intro a126 F139
              refine any_skip F139 13 rfl (by kernel_rfl) (by kernel_rfl) (by kernel_rfl) (F139.wants0 110 rfl (by kernel_rfl) rfl) rfl rfl hS ?_
              clear F139; try clear a126
              intro a127 F140
              refine any_skip F140 14 rfl (by kernel_rfl) (by kernel_rfl) (by kernel_rfl) (F140.wants 107 false rfl (by kernel_rfl) rfl false rfl) rfl rfl hS ?_
              clear F140; try clear a127
              intro a128 F141
              refine any_take F141 15 rfl (by kernel_rfl) (by kernel_rfl) (by kernel_rfl) (wn rfl) rfl rfl (.bool false) (fun w' hS' => ex_pick_f _ _ _ rfl (F141.e rfl) _ rfl) hS ?_
              clear F141; try clear a128
              intro a129 F142
              refine any_done (by kernel_rfl) ?_
              exact ⟨F142.keep ⟨rfl, rfl, rfl, rfl, rfl, rfl, rfl, rfl, rfl, rfl, rfl, rfl, rfl, rfl, rfl, rfl, rfl, rfl, rfl, rfl, trivial⟩, M30.pick' [0, 1, 2, 3] [⟨g16, zKey.arr, 107⟩, ⟨g9, #[.slice A5 (init2.length + 1) c5, .int .u64 next2], 69⟩, ⟨g5, last.arr, 107⟩, ⟨g3, #[.slice (some ad) (init.length + 1) c3, .int .u64 next], 69⟩] ⟨rfl, rfl, rfl, rfl, trivial⟩ (by decide), O_r, O_x, zm⟩
            clear F126 M29 O_r O_x zm
            intro a130 w34 hR; obtain ⟨F143, M31, O_r, O_x, zm⟩ := hR
            try clear a113
            try clear w32
            refine then_n ?_
            refine wp_cond_false (F143.e rfl) ?_
            refine wp_skip ?_
            refine in_n ?_
            refine then_n ?_
            refine wp_region_lit ?_
            refine list_val F143 (wn rfl) rfl rfl (.int .i64 j) (ex_move _ rfl _ (F143.e rfl)) ?_
            clear F143; try clear a130
            intro a131 F144
            refine list_val F144 (wn rfl) rfl rfl (.int .i64 (j + 1)) (ex_bin .add _ _ _ _ rfl .i64 _ _ (F144.e rfl) rfl _ (b_add (w_i64 (by omega) (by omega)))) ?_
            clear F144; try clear a131
            intro a132 F145
            refine list_val F145 (wn rfl) rfl rfl (.int .i64 (j + 1)) (ex_assign _ rfl _ (F145.e rfl)) ?_
            clear F145; try clear a132
            intro a133 F146
            refine wpList_nil ?_
            have F147 : Fr 183 a133 [(0, .agg (lifeArr s (.slice A ts.length c))), (1, .pointer (some ⟨g1, 0, none⟩)), (2, .bool false), (3, .pointer (some ⟨g3, 0, none⟩)), (4, .bool true), (5, .pointer (some ⟨g5, 0, none⟩)), (7, .int .i64 i), (8, .int .u64 ki.kid), (9, .pointer (some ⟨g9, 0, none⟩)), (10, .int .i64 0), (12, .int .i64 53), (14, .bool false), (15, .int .i64 (j + 1)), (16, .pointer (some ⟨g16, 0, none⟩)), (17, .bool false), (26, .bool false), (36, .bool true), (85, .bool false), (90, .bool true), (119, .bool false)] := F146.keep ⟨rfl, rfl, rfl, rfl, rfl, rfl, rfl, rfl, rfl, rfl, rfl, rfl, rfl, rfl, rfl, rfl, rfl, rfl, rfl, rfl, trivial⟩
            clear F146
            refine then_n ?_
            refine ⟨⟨(j + 1), F147.keep ⟨rfl, rfl, rfl, rfl, rfl, rfl, rfl, rfl, rfl, rfl, rfl, rfl, rfl, rfl, rfl, rfl, trivial⟩, M31.pick' [1, 2, 3] [⟨g9, #[.slice A5 (init2.length + 1) c5, .int .u64 next2], 69⟩, ⟨g5, last.arr, 107⟩, ⟨g3, #[.slice (some ad) (init.length + 1) c3, .int .u64 next], 69⟩] ⟨rfl, rfl, rfl, trivial⟩ (by decide), O_r, O_x, (by omega)⟩, ?_⟩
            exact meas (F147.e rfl) (Fh2.e rfl) (Nat.lt_succ_self _) (by omega)
          · have hnk : kj ≠ ki := fun e => hji (hjx e)
            refine wp_seq ?_
            refine wp_seq ?_
            refine wp_region_lit ?_
            refine list_val F98 (wn rfl) rfl rfl (.int .i64 j) (ex_move _ rfl _ (F98.e rfl)) ?_
            clear F98; try clear a86
            intro a134 F148
            refine list_val F148 (wn rfl) rfl rfl (.pointer (some ⟨g3, 0, none⟩)) (ex_fa _ _ _ rfl _ (F148.e rfl) 0 cl_fa_69_0_0 ⟨g3, 0, none⟩ rfl) ?_
            clear F148; try clear a134
            intro a135 F149
            refine list_val F149 (wn rfl) rfl rfl (.slice (some ad) (init.length + 1) c3) (ex_load _ _ rfl _ (F149.e rfl) _ (lv1 cl_one_55 (M21.cell (i := 2) rfl (j := 0) rfl))) ?_
            clear F149; try clear a135
            intro a136 F150
            refine list_val F150 (wn rfl) rfl rfl (.int .i64 (((init.length + 1) : Nat) : Int)) (ex_len _ _ rfl 34 cl_sl_55_34 _ _ _ (F150.e rfl)) ?_
            clear F150; try clear a136
            intro a137 F151
            refine list_val F151 (wn rfl) rfl rfl (.bool true) (ex_bin .lss _ _ _ _ rfl .i64 _ _ (F151.e rfl) (F151.e rfl) _ (b_lss (decide_eq_true (by omega)))) ?_
            clear F151; try clear a137
            intro a138 F152
            refine wpList_nil ?_
            have F153 : Fr 183 a138 [(0, .agg (lifeArr s (.slice A ts.length c))), (1, .pointer (some ⟨g1, 0, none⟩)), (2, .bool false), (3, .pointer (some ⟨g3, 0, none⟩)), (4, .bool true), (5, .pointer (some ⟨g5, 0, none⟩)), (7, .int .i64 i), (8, .int .u64 ki.kid), (9, .pointer (some ⟨g9, 0, none⟩)), (10, .int .i64 0), (12, .int .i64 53), (14, .bool false), (15, .int .i64 j), (26, .bool false), (36, .bool true), (85, .bool false), (90, .bool true)] := F152.keep ⟨rfl, rfl, rfl, rfl, rfl, rfl, rfl, rfl, rfl, rfl, rfl, rfl, rfl, rfl, rfl, rfl, rfl, trivial⟩
            clear F152
            refine then_n ?_
            refine wp_cond_true (F153.e rfl) ?_
            refine wp_skip ?_
            refine then_n ?_
            refine wp_seq ?_
            refine wp_block ?_
            refine wp_seq ?_
            refine wp_only (fun ar wr => ∃ (g16 : Nat), Fr 183 ar [(0, .agg (lifeArr s (.slice A ts.length c))), (1, .pointer (some ⟨g1, 0, none⟩)), (2, .bool false), (3, .pointer (some ⟨g3, 0, none⟩)), (4, .bool true), (5, .pointer (some ⟨g5, 0, none⟩)), (7, .int .i64 i), (8, .int .u64 ki.kid), (9, .pointer (some ⟨g9, 0, none⟩)), (10, .int .i64 0), (12, .int .i64 53), (14, .bool false), (15, .int .i64 j), (16, .pointer (some ⟨g16, 0, none⟩)), (17, .bool true), (26, .bool false), (36, .bool true), (85, .bool false), (90, .bool true)] ∧ Mm w wr [⟨g16, kj.arr, 107⟩, ⟨g9, #[.slice A5 (init2.length + 1) c5, .int .u64 next2], 69⟩, ⟨g5, last.arr, 107⟩, ⟨g3, #[.slice (some ad) (init.length + 1) c3, .int .u64 next], 69⟩] ∧ RO wr (some ad) c3 ⟨init ++ [last], next⟩ ∧ RO wr A5 c5 ⟨init2 ++ [last2], next2⟩ ∧ At wr (ad.add (j * 34)) kj.cs) ?_ ?_
            · refine region_any cl_follows_mixedOrders M21 (fun w35 M32 hb => ?_)
              replace O_r := O_r.below hb
              replace O_x := O_x.below hb
              replace zm := zm.below hb
              clear M21 hb
              try clear w24
              have hS : Below w35.heap.size w35 w35 := Below.refl _ _
              have MD := M32
              have D_O_r := O_r
              have D_O_x := O_x
              have D_zm := zm
              refine any_take F153 0 rfl (by kernel_rfl) (by kernel_rfl) (by kernel_rfl) (wn rfl) rfl rfl (.agg #[.slice A5 (init2.length + 1) c5, .int .u64 next2]) (fun w' hS' => ex_load _ _ rfl _ (F153.e rfl) _ (lvr (cs := [.slice A5 (init2.length + 1) c5, .int .u64 next2]) cl_row_69_2 ((MD.below hS').at (i := 0) rfl))) hS ?_
              clear F153; try clear a138
              intro a139 F154
              refine any_take F154 1 rfl (by kernel_rfl) (by kernel_rfl) (by kernel_rfl) (wn rfl) rfl rfl (.pointer (some ⟨g3, 0, none⟩)) (fun w' hS' => ex_fa _ _ _ rfl _ (F154.e rfl) 0 cl_fa_69_0_0 ⟨g3, 0, none⟩ rfl) hS ?_
              clear F154; try clear a139
              intro a140 F155
              refine any_take F155 2 rfl (by kernel_rfl) (by kernel_rfl) (by kernel_rfl) (wn rfl) rfl rfl (.slice (some ad) (init.length + 1) c3) (fun w' hS' => ex_load _ _ rfl _ (F155.e rfl) _ (lv1 cl_one_55 ((MD.below hS').cell (i := 2) rfl (j := 0) rfl))) hS ?_
              clear F155; try clear a140
              intro a141 F156
              refine any_take F156 3 rfl (by kernel_rfl) (by kernel_rfl) (by kernel_rfl) (wn rfl) rfl rfl (.int .i64 j) (fun w' hS' => ex_move _ rfl _ (F156.e rfl)) hS ?_
              clear F156; try clear a141
              intro a142 F157
              refine any_take F157 4 rfl (by kernel_rfl) (by kernel_rfl) (by kernel_rfl) (wn rfl) rfl rfl (.pointer (some (ad.add (j * 34)))) (fun w' hS' => ex_ix _ _ _ rfl 34 cl_sl_55_34 ad _ _ (F157.e rfl) .i64 _ (F157.e rfl) j rfl (by omega) (ad.add (j * 34)) rfl) hS ?_
              clear F157; try clear a142
              intro a143 F158
              refine any_take F158 5 rfl (by kernel_rfl) (by kernel_rfl) (by kernel_rfl) (wn rfl) rfl rfl (.pointer (some (ad.add (j * 34)))) (fun w' hS' => ex_fa _ _ _ rfl _ (F158.e rfl) 0 cl_fa_107_0_0 (ad.add (j * 34)) rfl) hS ?_
              clear F158; try clear a143
              intro a144 F159
              refine any_take F159 6 rfl (by kernel_rfl) (by kernel_rfl) (by kernel_rfl) (wn rfl) rfl rfl (.int .u64 kj.kid) (fun w' hS' => ex_load _ _ rfl _ (F159.e rfl) _ (lv1 cl_one_67 ((D_zm.below hS').cell 0 _ (Key.cs_0 _)))) hS ?_
              clear F159; try clear a144
              intro a145 F160
              refine any_ready [7, 11] (by kernel_rfl) (by simp) ?_
              refine ready_do rfl (wn rfl) (fun K hK => ?_) ?_
              · refine ow_call rfl rfl F160 30 #[.agg #[.slice A5 (init2.length + 1) c5, .int .u64 next2], .int .u64 kj.kid] (ex_call 30 _ _ rfl rfl cl_ent_30 _ (map2 (F160.e rfl) (F160.e rfl))) (find_y _ _ _ O_x (G.find hkj hnk) (hR.ne_zero hkj)) (fun e w36 hR => ?_)
                obtain ⟨he, hb⟩ := hR
                refine ⟨.tuple #[.agg kj.arr, .bool true], he, fun a146 F161 => ?_⟩
                clear he F160
                refine hK _ _ (S_below hS hb) ?_
                replace hS := S_below hS hb
                clear hK K
                replace O_r := O_r.below hb
                replace O_x := O_x.below hb
                replace zm := zm.below hb
                have M33 := M32.below hb
                clear M32
                try clear hb
                try clear a145
                try clear w35
                refine any_take F161 8 rfl (by kernel_rfl) (by kernel_rfl) (by kernel_rfl) (wn rfl) rfl rfl (.tuple #[.agg kj.arr, .bool true]) (fun w' hS' => ex_move _ rfl _ (F161.e rfl)) hS ?_
                clear F161; try clear a146
                intro a147 F162
                refine any_take F162 9 rfl (by kernel_rfl) (by kernel_rfl) (by kernel_rfl) (wn rfl) rfl rfl (.agg kj.arr) (fun w' hS' => ex_extract _ _ rfl _ (F162.e rfl) _ rfl) hS ?_
                clear F162; try clear a147
                intro a148 F163
                refine any_take F163 10 rfl (by kernel_rfl) (by kernel_rfl) (by kernel_rfl) (wn rfl) rfl rfl (.bool true) (fun w' hS' => ex_extract _ _ rfl _ (F163.e rfl) _ rfl) hS ?_
                clear F163; try clear a148
                intro a149 F164
                refine any_ready [11] (by kernel_rfl) (by simp) ?_
                refine ready_do rfl (wn rfl) (fun K hK => ?_) ?_
                · refine ow_alloc F164 M33 rfl rfl 107 rfl (.agg zKey.arr) zero107 zKey.arr rfl (fun a150 g16 w37 F165 M34 hb hg => ?_)
                  have los_g16 := Nat.le_trans hS.size hg
                  refine hK _ _ (S_below hS hb) ?_
                  replace hS := S_below hS hb
                  clear hK K
                  have K_O_r := O_r
                  have K_O_x := O_x
                  have K_zm := zm
                  replace O_r := O_r.below hb
                  replace O_x := O_x.below hb
                  replace zm := zm.below hb
                  have hz_g16 := hb
                  have lo_g16 := hg
                  clear hb hg F164 M33
                  try clear a149
                  try clear w36
                  refine any_ready [12] (by kernel_rfl) (by simp) ?_
                  refine ready_do rfl (wn rfl) (fun K hK => ?_) ?_
                  · refine ow_put F165 M34 rfl 107 _ _ rfl 0 _ zKey.arr _ rfl (F165.e rfl) kj.arr (F165.e rfl) (by rw [Key.arr_size]; exact info107) (by simp only [Key.arr_size]) (Key.arr_one _) (fun a151 w38 F166 M35 hgr => ?_)
                    refine hK _ _ (S_grown hS hgr los_g16) ?_
                    replace hS := S_grown hS hgr los_g16
                    clear hK K
                    have hzz := S_grown hz_g16 hgr lo_g16
                    replace O_r := K_O_r.below hzz
                    replace O_x := K_O_x.below hzz
                    replace zm := K_zm.below hzz
                    clear hzz hz_g16 lo_g16 K_O_r K_O_x K_zm
                    clear F165 M34
                    try clear hgr
                    try clear a150
                    try clear w37
                    replace M35 : Mm w w38 [⟨g16, kj.arr, 107⟩, ⟨g9, #[.slice A5 (init2.length + 1) c5, .int .u64 next2], 69⟩, ⟨g5, last.arr, 107⟩, ⟨g3, #[.slice (some ad) (init.length + 1) c3, .int .u64 next], 69⟩] := M35
                    refine any_take F166 13 rfl (by kernel_rfl) (by kernel_rfl) (by kernel_rfl) (wn rfl) rfl rfl (.bool true) (fun w' hS' => ex_assign _ rfl _ (F166.e rfl)) hS ?_
                    clear F166; try clear a151
                    intro a152 F167
                    refine any_done (by kernel_rfl) ?_
                    exact ⟨g16, F167.keep ⟨rfl, rfl, rfl, rfl, rfl, rfl, rfl, rfl, rfl, rfl, rfl, rfl, rfl, rfl, rfl, rfl, rfl, rfl, rfl, trivial⟩, M35.pick' [0, 1, 2, 3] [⟨g16, kj.arr, 107⟩, ⟨g9, #[.slice A5 (init2.length + 1) c5, .int .u64 next2], 69⟩, ⟨g5, last.arr, 107⟩, ⟨g3, #[.slice (some ad) (init.length + 1) c3, .int .u64 next], 69⟩] ⟨rfl, rfl, rfl, rfl, trivial⟩ (by decide), O_r, O_x, zm⟩
                  exact AllReadyH.nil
                exact AllReadyH.nil
              refine ready_do rfl (wn rfl) (fun K hK => ?_) ?_
              · refine ow_alloc F160 M32 rfl rfl 107 rfl (.agg zKey.arr) zero107 zKey.arr rfl (fun a153 g16 w39 F168 M36 hb hg => ?_)
                have los_g16 := Nat.le_trans hS.size hg
                refine hK _ _ (S_below hS hb) ?_
                replace hS := S_below hS hb
                clear hK K
                have K_O_r := O_r
                have K_O_x := O_x
                have K_zm := zm
                replace O_r := O_r.below hb
                replace O_x := O_x.below hb
                replace zm := zm.below hb
                have hz_g16 := hb
                have lo_g16 := hg
                clear hb hg F160 M32
                try clear a145
                try clear w35
                refine any_ready [7] (by kernel_rfl) (by simp) ?_
                refine ready_do rfl (wn rfl) (fun K hK => ?_) ?_
                · refine ow_call rfl rfl F168 30 #[.agg #[.slice A5 (init2.length + 1) c5, .int .u64 next2], .int .u64 kj.kid] (ex_call 30 _ _ rfl rfl cl_ent_30 _ (map2 (F168.e rfl) (F168.e rfl))) (find_y _ _ _ O_x (G.find hkj hnk) (hR.ne_zero hkj)) (fun e w40 hR => ?_)
                  obtain ⟨he, hb⟩ := hR
                  refine ⟨.tuple #[.agg kj.arr, .bool true], he, fun a154 F169 => ?_⟩
                  clear he F168
                  refine hK _ _ (S_below hS hb) ?_
                  replace hS := S_below hS hb
                  clear hK K
                  replace O_r := O_r.below hb
                  replace O_x := O_x.below hb
                  replace zm := zm.below hb
                  replace hz_g16 := S_below hz_g16 hb
                  have M37 := M36.below hb
                  clear M36
                  try clear hb
                  try clear a153
                  try clear w39
                  refine any_take F169 8 rfl (by kernel_rfl) (by kernel_rfl) (by kernel_rfl) (wn rfl) rfl rfl (.tuple #[.agg kj.arr, .bool true]) (fun w' hS' => ex_move _ rfl _ (F169.e rfl)) hS ?_
                  clear F169; try clear a154
                  intro a155 F170
                  refine any_take F170 9 rfl (by kernel_rfl) (by kernel_rfl) (by kernel_rfl) (wn rfl) rfl rfl (.agg kj.arr) (fun w' hS' => ex_extract _ _ rfl _ (F170.e rfl) _ rfl) hS ?_
                  clear F170; try clear a155
                  intro a156 F171
                  refine any_take F171 10 rfl (by kernel_rfl) (by kernel_rfl) (by kernel_rfl) (wn rfl) rfl rfl (.bool true) (fun w' hS' => ex_extract _ _ rfl _ (F171.e rfl) _ rfl) hS ?_
                  clear F171; try clear a156
                  intro a157 F172
                  refine any_ready [12] (by kernel_rfl) (by simp) ?_
                  refine ready_do rfl (wn rfl) (fun K hK => ?_) ?_
                  · refine ow_put F172 M37 rfl 107 _ _ rfl 0 _ zKey.arr _ rfl (F172.e rfl) kj.arr (F172.e rfl) (by rw [Key.arr_size]; exact info107) (by simp only [Key.arr_size]) (Key.arr_one _) (fun a158 w41 F173 M38 hgr => ?_)
                    refine hK _ _ (S_grown hS hgr los_g16) ?_
                    replace hS := S_grown hS hgr los_g16
                    clear hK K
                    have hzz := S_grown hz_g16 hgr lo_g16
                    replace O_r := K_O_r.below hzz
                    replace O_x := K_O_x.below hzz
                    replace zm := K_zm.below hzz
                    clear hzz hz_g16 lo_g16 K_O_r K_O_x K_zm
                    clear F172 M37
                    try clear hgr
                    try clear a157
                    try clear w40
                    replace M38 : Mm w w41 [⟨g16, kj.arr, 107⟩, ⟨g9, #[.slice A5 (init2.length + 1) c5, .int .u64 next2], 69⟩, ⟨g5, last.arr, 107⟩, ⟨g3, #[.slice (some ad) (init.length + 1) c3, .int .u64 next], 69⟩] := M38
                    refine any_take F173 13 rfl (by kernel_rfl) (by kernel_rfl) (by kernel_rfl) (wn rfl) rfl rfl (.bool true) (fun w' hS' => ex_assign _ rfl _ (F173.e rfl)) hS ?_
                    clear F173; try clear a158
                    intro a159 F174
                    refine any_done (by kernel_rfl) ?_
                    exact ⟨g16, F174.keep ⟨rfl, rfl, rfl, rfl, rfl, rfl, rfl, rfl, rfl, rfl, rfl, rfl, rfl, rfl, rfl, rfl, rfl, rfl, rfl, trivial⟩, M38.pick' [0, 1, 2, 3] [⟨g16, kj.arr, 107⟩, ⟨g9, #[.slice A5 (init2.length + 1) c5, .int .u64 next2], 69⟩, ⟨g5, last.arr, 107⟩, ⟨g3, #[.slice (some ad) (init.length + 1) c3, .int .u64 next], 69⟩] ⟨rfl, rfl, rfl, rfl, trivial⟩ (by decide), O_r, O_x, zm⟩
                  exact AllReadyH.nil
                exact AllReadyH.nil
              exact AllReadyH.nil
            clear F153 M21 O_r O_x zm
            intro a160 w42 hR; obtain ⟨g16, F175, M39, O_r, O_x, zm⟩ := hR
            try clear a138
            try clear w24
            refine then_n ?_
            refine wp_seq ?_
            refine wp_only (fun ar wr => Fr 183 ar [(0, .agg (lifeArr s (.slice A ts.length c))), (1, .pointer (some ⟨g1, 0, none⟩)), (2, .bool false), (3, .pointer (some ⟨g3, 0, none⟩)), (4, .bool true), (5, .pointer (some ⟨g5, 0, none⟩)), (7, .int .i64 i), (8, .int .u64 ki.kid), (9, .pointer (some ⟨g9, 0, none⟩)), (10, .int .i64 0), (12, .int .i64 53), (14, .bool false), (15, .int .i64 j), (16, .pointer (some ⟨g16, 0, none⟩)), (17, .bool true), (26, .bool false), (36, .bool true), (85, .bool false), (90, .bool true), (119, .bool false)] ∧ Mm w wr [⟨g16, kj.arr, 107⟩, ⟨g9, #[.slice A5 (init2.length + 1) c5, .int .u64 next2], 69⟩, ⟨g5, last.arr, 107⟩, ⟨g3, #[.slice (some ad) (init.length + 1) c3, .int .u64 next], 69⟩] ∧ RO wr (some ad) c3 ⟨init ++ [last], next⟩ ∧ RO wr A5 c5 ⟨init2 ++ [last2], next2⟩ ∧ At wr (ad.add (j * 34)) kj.cs) ?_ ?_
            · refine region_any cl_follows_mixedOrders M39 (fun w43 M40 hb => ?_)
              replace O_r := O_r.below hb
              replace O_x := O_x.below hb
              replace zm := zm.below hb
              clear M39 hb
              try clear w42
              have hS : Below w43.heap.size w43 w43 := Below.refl _ _
              have MD := M40
              have D_O_r := O_r
              have D_O_x := O_x
              have D_zm := zm
              refine any_take F175 0 rfl (by kernel_rfl) (by kernel_rfl) (by kernel_rfl) (wn rfl) rfl rfl (.int .i64 j) (fun w' hS' => ex_move _ rfl _ (F175.e rfl)) hS ?_
              clear F175; try clear a160
              intro a161 F176
              refine any_take F176 1 rfl (by kernel_rfl) (by kernel_rfl) (by kernel_rfl) (wn rfl) rfl rfl (.int .i64 i) (fun w' hS' => ex_move _ rfl _ (F176.e rfl)) hS ?_
              clear F176; try clear a161
              intro a162 F177
              refine any_take F177 2 rfl (by kernel_rfl) (by kernel_rfl) (by kernel_rfl) (wn rfl) rfl rfl (.bool true) (fun w' hS' => ex_bin .neq _ _ _ _ rfl .i64 _ _ (F177.e rfl) (F177.e rfl) _ (b_neq (by simp; omega))) hS ?_
              clear F177; try clear a162
              intro a163 F178
              refine any_take F178 3 rfl (by kernel_rfl) (by kernel_rfl) (by kernel_rfl) (wn rfl) rfl rfl (.bool true) (fun w' hS' => ex_move _ rfl _ (F178.e rfl)) hS ?_
              clear F178; try clear a163
              intro a164 F179
              refine any_take F179 4 rfl (by kernel_rfl) (by kernel_rfl) (by kernel_rfl) (F179.wants 107 true rfl (by kernel_rfl) rfl true rfl) rfl rfl (.bool true) (fun w' hS' => ex_move _ rfl _ (F179.e rfl)) hS ?_
              clear F179; try clear a164
              intro a165 F180
              refine any_take F180 5 rfl (by kernel_rfl) (by kernel_rfl) (by kernel_rfl) (F180.wants 107 true rfl (by kernel_rfl) rfl true rfl) rfl rfl (.bool false) (fun w' hS' => ex_not _ _ rfl _ (F180.e rfl) _ rfl) hS ?_
              clear F180; try clear a165
              intro a166 F181
              refine any_take F181 6 rfl (by kernel_rfl) (by kernel_rfl) (by kernel_rfl) (F181.wants 107 true rfl (by kernel_rfl) rfl true rfl) rfl rfl (.bool false) (fun w' hS' => ex_move _ rfl _ (F181.e rfl)) hS ?_
              clear F181; try clear a166
              intro a167 F182
              refine any_take F182 7 rfl (by kernel_rfl) (by kernel_rfl) (by kernel_rfl) (F182.wants 110 false rfl (by kernel_rfl) rfl true rfl) rfl rfl (.agg kj.arr) (fun w' hS' => ex_load _ _ rfl _ (F182.e rfl) _ (lvr (cs := kj.cs) (by rw [Key.cs_len]; exact cl_row_107_34) ((MD.below hS').at (i := 0) rfl))) hS ?_
              clear F182; try clear a167
              intro a168 F183
              refine any_take F183 8 rfl (by kernel_rfl) (by kernel_rfl) (by kernel_rfl) (F183.wants 110 false rfl (by kernel_rfl) rfl true rfl) rfl rfl (.pointer (some ⟨g3, 0, none⟩)) (fun w' hS' => ex_fa _ _ _ rfl _ (F183.e rfl) 0 cl_fa_69_0_0 ⟨g3, 0, none⟩ rfl) hS ?_
              clear F183; try clear a168
              intro a169 F184
              refine any_take F184 9 rfl (by kernel_rfl) (by kernel_rfl) (by kernel_rfl) (F184.wants 110 false rfl (by kernel_rfl) rfl true rfl) rfl rfl (.slice (some ad) (init.length + 1) c3) (fun w' hS' => ex_load _ _ rfl _ (F184.e rfl) _ (lv1 cl_one_55 ((MD.below hS').cell (i := 3) rfl (j := 0) rfl))) hS ?_
              clear F184; try clear a169
              intro a170 F185
              refine any_take F185 10 rfl (by kernel_rfl) (by kernel_rfl) (by kernel_rfl) (F185.wants 110 false rfl (by kernel_rfl) rfl true rfl) rfl rfl (.int .i64 j) (fun w' hS' => ex_move _ rfl _ (F185.e rfl)) hS ?_
              clear F185; try clear a170
              intro a171 F186
              refine any_take F186 11 rfl (by kernel_rfl) (by kernel_rfl) (by kernel_rfl) (F186.wants 110 false rfl (by kernel_rfl) rfl true rfl) rfl rfl (.pointer (some (ad.add (j * 34)))) (fun w' hS' => ex_ix _ _ _ rfl 34 cl_sl_55_34 ad _ _ (F186.e rfl) .i64 _ (F186.e rfl) j rfl (by omega) (ad.add (j * 34)) rfl) hS ?_
              clear F186; try clear a171
              intro a172 F187
              refine any_take F187 12 rfl (by kernel_rfl) (by kernel_rfl) (by kernel_rfl) (F187.wants 110 false rfl (by kernel_rfl) rfl true rfl) rfl rfl (.agg kj.arr) (fun w' hS' => ex_load _ _ rfl _ (F187.e rfl) _ (lvr (cs := kj.cs) (by rw [Key.cs_len]; exact cl_row_107_34) ((D_zm.below hS')))) hS ?_
              clear F187; try clear a172
              intro a173 F188
              refine any_take F188 13 rfl (by kernel_rfl) (by kernel_rfl) (by kernel_rfl) (F188.wants 110 false rfl (by kernel_rfl) rfl true rfl) rfl rfl (.bool false) (fun w' hS' => ex_neqk _ _ _ rfl kj kj (F188.e rfl) (F188.e rfl) false (by simp)) hS ?_
              clear F188; try clear a173
              intro a174 F189
              refine any_take F189 14 rfl (by kernel_rfl) (by kernel_rfl) (by kernel_rfl) (F189.wants 107 true rfl (by kernel_rfl) rfl true rfl) rfl rfl (.bool false) (fun w' hS' => ex_pick_f _ _ _ rfl (F189.e rfl) _ (F189.e rfl)) hS ?_
              clear F189; try clear a174
              intro a175 F190
              refine any_take F190 15 rfl (by kernel_rfl) (by kernel_rfl) (by kernel_rfl) (wn rfl) rfl rfl (.bool false) (fun w' hS' => ex_pick_t _ _ _ rfl (F190.e rfl) _ (F190.e rfl)) hS ?_
              clear F190; try clear a175
              intro a176 F191
              refine any_done (by kernel_rfl) ?_
              exact ⟨F191.keep ⟨rfl, rfl, rfl, rfl, rfl, rfl, rfl, rfl, rfl, rfl, rfl, rfl, rfl, rfl, rfl, rfl, rfl, rfl, rfl, rfl, trivial⟩, M40.pick' [0, 1, 2, 3] [⟨g16, kj.arr, 107⟩, ⟨g9, #[.slice A5 (init2.length + 1) c5, .int .u64 next2], 69⟩, ⟨g5, last.arr, 107⟩, ⟨g3, #[.slice (some ad) (init.length + 1) c3, .int .u64 next], 69⟩] ⟨rfl, rfl, rfl, rfl, trivial⟩ (by decide), O_r, O_x, zm⟩
            clear F175 M39 O_r O_x zm
            intro a177 w44 hR; obtain ⟨F192, M41, O_r, O_x, zm⟩ := hR
            try clear a160
            try clear w42
            refine then_n ?_
            refine wp_cond_false (F192.e rfl) ?_
            refine wp_skip ?_
            refine in_n ?_
            refine then_n ?_
            refine wp_region_lit ?_
            refine list_val F192 (wn rfl) rfl rfl (.int .i64 j) (ex_move _ rfl _ (F192.e rfl)) ?_
            clear F192; try clear a177
            intro a178 F193
            refine list_val F193 (wn rfl) rfl rfl (.int .i64 (j + 1)) (ex_bin .add _ _ _ _ rfl .i64 _ _ (F193.e rfl) rfl _ (b_add (w_i64 (by omega) (by omega)))) ?_
            clear F193; try clear a178
            intro a179 F194
            refine list_val F194 (wn rfl) rfl rfl (.int .i64 (j + 1)) (ex_assign _ rfl _ (F194.e rfl)) ?_
            clear F194; try clear a179
            intro a180 F195
            refine wpList_nil ?_
            have F196 : Fr 183 a180 [(0, .agg (lifeArr s (.slice A ts.length c))), (1, .pointer (some ⟨g1, 0, none⟩)), (2, .bool false), (3, .pointer (some ⟨g3, 0, none⟩)), (4, .bool true), (5, .pointer (some ⟨g5, 0, none⟩)), (7, .int .i64 i), (8, .int .u64 ki.kid), (9, .pointer (some ⟨g9, 0, none⟩)), (10, .int .i64 0), (12, .int .i64 53), (14, .bool false), (15, .int .i64 (j + 1)), (16, .pointer (some ⟨g16, 0, none⟩)), (17, .bool true), (26, .bool false), (36, .bool true), (85, .bool false), (90, .bool true), (119, .bool false)] := F195.keep ⟨rfl, rfl, rfl, rfl, rfl, rfl, rfl, rfl, rfl, rfl, rfl, rfl, rfl, rfl, rfl, rfl, rfl, rfl, rfl, rfl, trivial⟩
            clear F195
            refine then_n ?_
            refine ⟨⟨(j + 1), F196.keep ⟨rfl, rfl, rfl, rfl, rfl, rfl, rfl, rfl, rfl, rfl, rfl, rfl, rfl, rfl, rfl, rfl, trivial⟩, M41.pick' [1, 2, 3] [⟨g9, #[.slice A5 (init2.length + 1) c5, .int .u64 next2], 69⟩, ⟨g5, last.arr, 107⟩, ⟨g3, #[.slice (some ad) (init.length + 1) c3, .int .u64 next], 69⟩] ⟨rfl, rfl, rfl, trivial⟩ (by decide), O_r, O_x, (by omega)⟩, ?_⟩
            exact meas (F196.e rfl) (Fh2.e rfl) (Nat.lt_succ_self _) (by omega)
        · by_cases hkl : ki.kid = last.kid
          · obtain ⟨e1, e2, e3⟩ := G.same hkl
            have hq : (ki.kid == last.kid) = true := by simp [hkl]
            have hq' : (ki.kid != last.kid) = false := by simp [hkl]
            refine wp_seq ?_
            refine wp_seq ?_
            refine wp_region_lit ?_
            refine list_val F98 (wn rfl) rfl rfl (.int .i64 j) (ex_move _ rfl _ (F98.e rfl)) ?_
            clear F98; try clear a86
            intro a181 F197
            refine list_val F197 (wn rfl) rfl rfl (.pointer (some ⟨g3, 0, none⟩)) (ex_fa _ _ _ rfl _ (F197.e rfl) 0 cl_fa_69_0_0 ⟨g3, 0, none⟩ rfl) ?_
            clear F197; try clear a181
            intro a182 F198
            refine list_val F198 (wn rfl) rfl rfl (.slice (some ad) (init.length + 1) c3) (ex_load _ _ rfl _ (F198.e rfl) _ (lv1 cl_one_55 (M21.cell (i := 2) rfl (j := 0) rfl))) ?_
            clear F198; try clear a182
            intro a183 F199
            refine list_val F199 (wn rfl) rfl rfl (.int .i64 (((init.length + 1) : Nat) : Int)) (ex_len _ _ rfl 34 cl_sl_55_34 _ _ _ (F199.e rfl)) ?_
            clear F199; try clear a183
            intro a184 F200
            refine list_val F200 (wn rfl) rfl rfl (.bool false) (ex_bin .lss _ _ _ _ rfl .i64 _ _ (F200.e rfl) (F200.e rfl) _ (b_lss (decide_eq_false (by omega)))) ?_
            clear F200; try clear a184
            intro a185 F201
            refine wpList_nil ?_
            have F202 : Fr 183 a185 [(0, .agg (lifeArr s (.slice A ts.length c))), (1, .pointer (some ⟨g1, 0, none⟩)), (2, .bool false), (3, .pointer (some ⟨g3, 0, none⟩)), (4, .bool true), (5, .pointer (some ⟨g5, 0, none⟩)), (7, .int .i64 i), (8, .int .u64 ki.kid), (9, .pointer (some ⟨g9, 0, none⟩)), (10, .int .i64 0), (12, .int .i64 53), (14, .bool false), (15, .int .i64 j), (26, .bool false), (36, .bool true), (85, .bool false), (90, .bool false)] := F201.keep ⟨rfl, rfl, rfl, rfl, rfl, rfl, rfl, rfl, rfl, rfl, rfl, rfl, rfl, rfl, rfl, rfl, rfl, trivial⟩
            clear F201
            refine then_n ?_
            refine wp_cond_false (F202.e rfl) ?_
            refine wp_exit ?_
            refine then_x ?_
            refine then_x ?_
            refine in_hit ?_
            refine then_n ?_
            refine wp_seq ?_
            refine wp_region_lit ?_
            refine list_val F202 (wn rfl) rfl rfl (.agg #[.slice A5 (init2.length + 1) c5, .int .u64 next2]) (ex_load _ _ rfl _ (F202.e rfl) _ (lvr (cs := [.slice A5 (init2.length + 1) c5, .int .u64 next2]) cl_row_69_2 (M21.at (i := 0) rfl))) ?_
            clear F202; try clear a185
            intro a186 F203
            refine list_do (wn rfl) (fun K hK => ?_)
            refine ow_call rfl rfl F203 29 #[.agg #[.slice A5 (init2.length + 1) c5, .int .u64 next2]] (ex_call 29 _ _ rfl rfl cl_ent_29 _ (map1 (F203.e rfl))) (cur_r G.ring _ _ _ O_x) (fun e w45 hR => ?_)
            obtain ⟨he, hb⟩ := hR
            refine ⟨.tuple #[.agg last2.arr, .bool true], he, fun a187 F204 => ?_⟩
            clear he F203
            refine hK _ _ ?_
            clear hK K
            replace O_r := O_r.below hb
            replace O_x := O_x.below hb
            have M42 := M21.below hb
            clear M21
            try clear hb
            try clear a186
            try clear w24
            refine list_val F204 (wn rfl) rfl rfl (.tuple #[.agg last2.arr, .bool true]) (ex_move _ rfl _ (F204.e rfl)) ?_
            clear F204; try clear a187
            intro a188 F205
            refine list_val F205 (wn rfl) rfl rfl (.agg last2.arr) (ex_extract _ _ rfl _ (F205.e rfl) _ rfl) ?_
            clear F205; try clear a188
            intro a189 F206
            refine list_val F206 (wn rfl) rfl rfl (.bool true) (ex_extract _ _ rfl _ (F206.e rfl) _ rfl) ?_
            clear F206; try clear a189
            intro a190 F207
            refine list_do (wn rfl) (fun K hK => ?_)
            refine ow_alloc F207 M42 rfl rfl 107 rfl (.agg zKey.arr) zero107 zKey.arr rfl (fun a191 g18 w46 F208 M43 hb hg => ?_)
            refine hK _ _ ?_
            clear hK K
            have K_O_r := O_r
            have K_O_x := O_x
            replace O_r := O_r.below hb
            replace O_x := O_x.below hb
            have hz_g18 := hb
            have lo_g18 := hg
            clear hb hg F207 M42
            try clear a190
            try clear w45
            refine list_do (wn rfl) (fun K hK => ?_)
            refine ow_put F208 M43 rfl 107 _ _ rfl 0 _ zKey.arr _ rfl (F208.e rfl) last2.arr (F208.e rfl) (by rw [Key.arr_size]; exact info107) (by simp only [Key.arr_size]) (Key.arr_one _) (fun a192 w47 F209 M44 hgr => ?_)
            refine hK _ _ ?_
            clear hK K
            have hzz := S_grown hz_g18 hgr lo_g18
            replace O_r := K_O_r.below hzz
            replace O_x := K_O_x.below hzz
            clear hzz hz_g18 lo_g18 K_O_r K_O_x
            clear F208 M43
            try clear hgr
            try clear a191
            try clear w46
            replace M44 : Mm w w47 [⟨g18, last2.arr, 107⟩, ⟨g9, #[.slice A5 (init2.length + 1) c5, .int .u64 next2], 69⟩, ⟨g5, last.arr, 107⟩, ⟨g3, #[.slice (some ad) (init.length + 1) c3, .int .u64 next], 69⟩] := M44
            refine list_val F209 (wn rfl) rfl rfl (.bool true) (ex_assign _ rfl _ (F209.e rfl)) ?_
            clear F209; try clear a192
            intro a193 F210
            refine wpList_nil ?_
            have F211 : Fr 183 a193 [(0, .agg (lifeArr s (.slice A ts.length c))), (1, .pointer (some ⟨g1, 0, none⟩)), (2, .bool false), (3, .pointer (some ⟨g3, 0, none⟩)), (4, .bool true), (5, .pointer (some ⟨g5, 0, none⟩)), (7, .int .i64 i), (8, .int .u64 ki.kid), (9, .pointer (some ⟨g9, 0, none⟩)), (10, .int .i64 0), (12, .int .i64 53), (14, .bool false), (15, .int .i64 j), (18, .pointer (some ⟨g18, 0, none⟩)), (26, .bool false), (36, .bool true), (85, .bool false), (90, .bool false)] := F210.keep ⟨rfl, rfl, rfl, rfl, rfl, rfl, rfl, rfl, rfl, rfl, rfl, rfl, rfl, rfl, rfl, rfl, rfl, rfl, trivial⟩
            clear F210
            refine then_n ?_
            refine wp_seq ?_
            refine wp_seq ?_
            refine wp_region_lit ?_
            refine list_val F211 (wn rfl) rfl rfl (.int .u64 ki.kid) (ex_move _ rfl _ (F211.e rfl)) ?_
            clear F211; try clear a193
            intro a194 F212
            refine list_val F212 (wn rfl) rfl rfl (.pointer (some ⟨g5, 0, none⟩)) (ex_fa _ _ _ rfl _ (F212.e rfl) 0 cl_fa_107_0_0 ⟨g5, 0, none⟩ rfl) ?_
            clear F212; try clear a194
            intro a195 F213
            refine list_val F213 (wn rfl) rfl rfl (.int .u64 last.kid) (ex_load _ _ rfl _ (F213.e rfl) _ (lv1 cl_one_67 (M44.cell (i := 2) rfl (j := 0) (Key.arr_0 _)))) ?_
            clear F213; try clear a195
            intro a196 F214
            refine list_val F214 (wn rfl) rfl rfl (.bool false) (ex_bin .neq _ _ _ _ rfl .u64 _ _ (F214.e rfl) (F214.e rfl) _ (b_neq hq')) ?_
            clear F214; try clear a196
            intro a197 F215
            refine list_val F215 (wn rfl) rfl rfl (.bool false) (ex_move _ rfl _ (F215.e rfl)) ?_
            clear F215; try clear a197
            intro a198 F216
            refine list_skip F216 (F216.wants 129 false rfl (by kernel_rfl) rfl false rfl) rfl rfl ?_
            clear F216; try clear a198
            intro a199 F217
            refine list_skip F217 (F217.wants 129 false rfl (by kernel_rfl) rfl false rfl) rfl rfl ?_
            clear F217; try clear a199
            intro a200 F218
            refine list_skip F218 (F218.wants 129 false rfl (by kernel_rfl) rfl false rfl) rfl rfl ?_
            clear F218; try clear a200
            intro a201 F219
            refine list_skip F219 (F219.wants 129 false rfl (by kernel_rfl) rfl false rfl) rfl rfl ?_
            clear F219; try clear a201
            intro a202 F220
            refine list_skip F220 (F220.wants0 133 rfl (by kernel_rfl) rfl) rfl rfl ?_
            clear F220; try clear a202
            intro a203 F221
            refine list_skip F221 (F221.wants0 133 rfl (by kernel_rfl) rfl) rfl rfl ?_
            clear F221; try clear a203
            intro a204 F222
            refine list_skip F222 (F222.wants0 133 rfl (by kernel_rfl) rfl) rfl rfl ?_
            clear F222; try clear a204
            intro a205 F223
            refine list_skip F223 (F223.wants0 133 rfl (by kernel_rfl) rfl) rfl rfl ?_
            clear F223; try clear a205
            intro a206 F224
            refine list_skip F224 (F224.wants0 133 rfl (by kernel_rfl) rfl) rfl rfl ?_
            clear F224; try clear a206
            intro a207 F225
            refine list_skip F225 (F225.wants 129 false rfl (by kernel_rfl) rfl false rfl) rfl rfl ?_
            clear F225; try clear a207
            intro a208 F226
            refine list_skip F226 (F226.wants 129 false rfl (by kernel_rfl) rfl false rfl) rfl rfl ?_
            clear F226; try clear a208
            intro a209 F227
            refine list_skip F227 (F227.wants0 140 rfl (by kernel_rfl) rfl) rfl rfl ?_
            clear F227; try clear a209
            intro a210 F228
            refine list_skip F228 (F228.wants0 140 rfl (by kernel_rfl) rfl) rfl rfl ?_
            clear F228; try clear a210
            intro a211 F229
            refine list_skip F229 (F229.wants0 140 rfl (by kernel_rfl) rfl) rfl rfl ?_
            clear F229; try clear a211
            intro a212 F230
            refine list_skip F230 (F230.wants0 140 rfl (by kernel_rfl) rfl) rfl rfl ?_
            clear F230; try clear a212
            intro a213 F231
            refine list_skip F231 (F231.wants0 140 rfl (by kernel_rfl) rfl) rfl rfl ?_
            clear F231; try clear a213
            intro a214 F232
            refine list_skip F232 (F232.wants0 140 rfl (by kernel_rfl) rfl) rfl rfl ?_
            clear F232; try clear a214
            intro a215 F233
            refine list_skip F233 (F233.wants0 140 rfl (by kernel_rfl) rfl) rfl rfl ?_
            clear F233; try clear a215
            intro a216 F234
            refine list_skip F234 (F234.wants0 140 rfl (by kernel_rfl) rfl) rfl rfl ?_
            clear F234; try clear a216
            intro a217 F235
            refine list_skip F235 (F235.wants 129 false rfl (by kernel_rfl) rfl false rfl) rfl rfl ?_
            clear F235; try clear a217
            intro a218 F236
            refine list_val F236 (wn rfl) rfl rfl (.bool false) (ex_pick_f _ _ _ rfl (F236.e rfl) _ rfl) ?_
            clear F236; try clear a218
            intro a219 F237
            refine wpList_nil ?_
            have F238 : Fr 183 a219 [(0, .agg (lifeArr s (.slice A ts.length c))), (1, .pointer (some ⟨g1, 0, none⟩)), (2, .bool false), (3, .pointer (some ⟨g3, 0, none⟩)), (4, .bool true), (5, .pointer (some ⟨g5, 0, none⟩)), (7, .int .i64 i), (8, .int .u64 ki.kid), (9, .pointer (some ⟨g9, 0, none⟩)), (10, .int .i64 0), (12, .int .i64 53), (14, .bool false), (15, .int .i64 j), (18, .pointer (some ⟨g18, 0, none⟩)), (26, .bool false), (36, .bool true), (85, .bool false), (90, .bool false), (150, .bool false)] := F237.keep ⟨rfl, rfl, rfl, rfl, rfl, rfl, rfl, rfl, rfl, rfl, rfl, rfl, rfl, rfl, rfl, rfl, rfl, rfl, rfl, trivial⟩
            clear F237
            refine then_n ?_
            refine wp_cond_false (F238.e rfl) ?_
            refine wp_skip ?_
            refine then_n ?_
            refine wp_seq ?_
            refine wp_region_lit ?_
            refine list_val F238 (wn rfl) rfl rfl (.int .u64 ki.kid) (ex_move _ rfl _ (F238.e rfl)) ?_
            clear F238; try clear a219
            intro a220 F239
            refine list_val F239 (wn rfl) rfl rfl (.pointer (some ⟨g5, 0, none⟩)) (ex_fa _ _ _ rfl _ (F239.e rfl) 0 cl_fa_107_0_0 ⟨g5, 0, none⟩ rfl) ?_
            clear F239; try clear a220
            intro a221 F240
            refine list_val F240 (wn rfl) rfl rfl (.int .u64 last.kid) (ex_load _ _ rfl _ (F240.e rfl) _ (lv1 cl_one_67 (M44.cell (i := 2) rfl (j := 0) (Key.arr_0 _)))) ?_
            clear F240; try clear a221
            intro a222 F241
            refine list_val F241 (wn rfl) rfl rfl (.bool true) (ex_bin .eql _ _ _ _ rfl .u64 _ _ (F241.e rfl) (F241.e rfl) _ (b_eql hq)) ?_
            clear F241; try clear a222
            intro a223 F242
            refine list_val F242 (wn rfl) rfl rfl (.bool true) (ex_move _ rfl _ (F242.e rfl)) ?_
            clear F242; try clear a223
            intro a224 F243
            refine list_val F243 (F243.wants 155 true rfl (by kernel_rfl) rfl true rfl) rfl rfl (.agg last2.arr) (ex_load _ _ rfl _ (F243.e rfl) _ (lvr (cs := last2.cs) (by rw [Key.cs_len]; exact cl_row_107_34) (M44.at (i := 0) rfl))) ?_
            clear F243; try clear a224
            intro a225 F244
            refine list_val F244 (F244.wants 155 true rfl (by kernel_rfl) rfl true rfl) rfl rfl (.pointer (some ⟨g3, 1, none⟩)) (ex_fa _ _ _ rfl _ (F244.e rfl) 1 cl_fa_69_1_1 ⟨g3, 1, none⟩ rfl) ?_
            clear F244; try clear a225
            intro a226 F245
            refine list_val F245 (F245.wants 155 true rfl (by kernel_rfl) rfl true rfl) rfl rfl (.int .u64 next) (ex_load _ _ rfl _ (F245.e rfl) _ (lv1 cl_one_67 (M44.cell (i := 3) rfl (j := 1) rfl))) ?_
            clear F245; try clear a226
            intro a227 F246
            refine list_val F246 (F246.wants 155 true rfl (by kernel_rfl) rfl true rfl) rfl rfl (.int .i64 i) (ex_move _ rfl _ (F246.e rfl)) ?_
            clear F246; try clear a227
            intro a228 F247
            refine list_val F247 (F247.wants 155 true rfl (by kernel_rfl) rfl true rfl) rfl rfl (.int .u8 i) (ex_conv _ _ _ rfl _ .u8 cl_cv_3_5_u8 _ (F247.e rfl) _ (w_u8 (by omega) (by omega))) ?_
            clear F247; try clear a228
            intro a229 F248
            refine list_val F248 (F248.wants 155 true rfl (by kernel_rfl) rfl true rfl) rfl rfl (.agg ((b32 170 i).cs.toArray)) (ex_build _ _ rfl _ (parts2 rfl (F248.e rfl)) _ (build70_2 170 i _)) ?_
            clear F248; try clear a229
            intro a230 F249
            refine list_val F249 (F249.wants 155 true rfl (by kernel_rfl) rfl true rfl) rfl rfl (.agg ((⟨next, (b32 170 i), 0⟩ : Key).arr)) (ex_build _ _ rfl _ (parts2 (F249.e rfl) (F249.e rfl)) _ (build107 next (b32 170 i) _)) ?_
            clear F249; try clear a230
            intro a231 F250
            refine list_val F250 (F250.wants 155 true rfl (by kernel_rfl) rfl true rfl) rfl rfl (.bool false) (ex_neqk _ _ _ rfl last2 (⟨next, (b32 170 i), 0⟩ : Key) (F250.e rfl) (F250.e rfl) false (by rw [e1]; simp)) ?_
            clear F250; try clear a231
            intro a232 F251
            refine list_val F251 (F251.wants 155 true rfl (by kernel_rfl) rfl true rfl) rfl rfl (.bool false) (ex_move _ rfl _ (F251.e rfl)) ?_
            clear F251; try clear a232
            intro a233 F252
            refine list_val F252 (F252.wants 164 false rfl (by kernel_rfl) rfl true rfl) rfl rfl (.pointer (some ⟨g9, 1, none⟩)) (ex_fa _ _ _ rfl _ (F252.e rfl) 1 cl_fa_69_1_1 ⟨g9, 1, none⟩ rfl) ?_
            clear F252; try clear a233
            intro a234 F253
            refine list_val F253 (F253.wants 164 false rfl (by kernel_rfl) rfl true rfl) rfl rfl (.int .u64 next2) (ex_load _ _ rfl _ (F253.e rfl) _ (lv1 cl_one_67 (M44.cell (i := 1) rfl (j := 1) rfl))) ?_
            clear F253; try clear a234
            intro a235 F254
            refine list_val F254 (F254.wants 164 false rfl (by kernel_rfl) rfl true rfl) rfl rfl (.pointer (some ⟨g3, 1, none⟩)) (ex_fa _ _ _ rfl _ (F254.e rfl) 1 cl_fa_69_1_1 ⟨g3, 1, none⟩ rfl) ?_
            clear F254; try clear a235
            intro a236 F255
            refine list_val F255 (F255.wants 164 false rfl (by kernel_rfl) rfl true rfl) rfl rfl (.int .u64 next) (ex_load _ _ rfl _ (F255.e rfl) _ (lv1 cl_one_67 (M44.cell (i := 3) rfl (j := 1) rfl))) ?_
            clear F255; try clear a236
            intro a237 F256
            refine list_val F256 (F256.wants 164 false rfl (by kernel_rfl) rfl true rfl) rfl rfl (.int .u64 (next + 1)) (ex_bin .add _ _ _ _ rfl .u64 _ _ (F256.e rfl) rfl _ (b_add (w_u64 (by omega) (by omega)))) ?_
            clear F256; try clear a237
            intro a238 F257
            refine list_val F257 (F257.wants 164 false rfl (by kernel_rfl) rfl true rfl) rfl rfl (.bool false) (ex_bin .neq _ _ _ _ rfl .u64 _ _ (F257.e rfl) (F257.e rfl) _ (b_neq (by rw [e2]; simp))) ?_
            clear F257; try clear a238
            intro a239 F258
            refine list_val F258 (F258.wants 155 true rfl (by kernel_rfl) rfl true rfl) rfl rfl (.bool false) (ex_pick_f _ _ _ rfl (F258.e rfl) _ (F258.e rfl)) ?_
            clear F258; try clear a239
            intro a240 F259
            refine list_val F259 (F259.wants 155 true rfl (by kernel_rfl) rfl true rfl) rfl rfl (.bool false) (ex_move _ rfl _ (F259.e rfl)) ?_
            clear F259; try clear a240
            intro a241 F260
            refine list_val F260 (F260.wants 172 false rfl (by kernel_rfl) rfl true rfl) rfl rfl (.pointer (some ⟨g9, 0, none⟩)) (ex_fa _ _ _ rfl _ (F260.e rfl) 0 cl_fa_69_0_0 ⟨g9, 0, none⟩ rfl) ?_
            clear F260; try clear a241
            intro a242 F261
            refine list_val F261 (F261.wants 172 false rfl (by kernel_rfl) rfl true rfl) rfl rfl (.slice A5 (init2.length + 1) c5) (ex_load _ _ rfl _ (F261.e rfl) _ (lv1 cl_one_55 (M44.cell (i := 1) rfl (j := 0) rfl))) ?_
            clear F261; try clear a242
            intro a243 F262
            refine list_val F262 (F262.wants 172 false rfl (by kernel_rfl) rfl true rfl) rfl rfl (.int .i64 (((init2.length + 1) : Nat) : Int)) (ex_len _ _ rfl 34 cl_sl_55_34 _ _ _ (F262.e rfl)) ?_
            clear F262; try clear a243
            intro a244 F263
            refine list_val F263 (F263.wants 172 false rfl (by kernel_rfl) rfl true rfl) rfl rfl (.pointer (some ⟨g3, 0, none⟩)) (ex_fa _ _ _ rfl _ (F263.e rfl) 0 cl_fa_69_0_0 ⟨g3, 0, none⟩ rfl) ?_
            clear F263; try clear a244
            intro a245 F264
            refine list_val F264 (F264.wants 172 false rfl (by kernel_rfl) rfl true rfl) rfl rfl (.slice (some ad) (init.length + 1) c3) (ex_load _ _ rfl _ (F264.e rfl) _ (lv1 cl_one_55 (M44.cell (i := 3) rfl (j := 0) rfl))) ?_
            clear F264; try clear a245
            intro a246 F265
            refine list_val F265 (F265.wants 172 false rfl (by kernel_rfl) rfl true rfl) rfl rfl (.int .i64 (((init.length + 1) : Nat) : Int)) (ex_len _ _ rfl 34 cl_sl_55_34 _ _ _ (F265.e rfl)) ?_
            clear F265; try clear a246
            intro a247 F266
            refine list_val F266 (F266.wants 172 false rfl (by kernel_rfl) rfl true rfl) rfl rfl (.bool false) (ex_bin .neq _ _ _ _ rfl .i64 _ _ (F266.e rfl) (F266.e rfl) _ (b_neq (by rw [e3]; simp))) ?_
            clear F266; try clear a247
            intro a248 F267
            refine list_val F267 (F267.wants 155 true rfl (by kernel_rfl) rfl true rfl) rfl rfl (.bool false) (ex_pick_f _ _ _ rfl (F267.e rfl) _ (F267.e rfl)) ?_
            clear F267; try clear a248
            intro a249 F268
            refine list_val F268 (wn rfl) rfl rfl (.bool false) (ex_pick_t _ _ _ rfl (F268.e rfl) _ (F268.e rfl)) ?_
            clear F268; try clear a249
            intro a250 F269
            refine wpList_nil ?_
            have F270 : Fr 183 a250 [(0, .agg (lifeArr s (.slice A ts.length c))), (1, .pointer (some ⟨g1, 0, none⟩)), (2, .bool false), (3, .pointer (some ⟨g3, 0, none⟩)), (4, .bool true), (5, .pointer (some ⟨g5, 0, none⟩)), (7, .int .i64 i), (8, .int .u64 ki.kid), (9, .pointer (some ⟨g9, 0, none⟩)), (10, .int .i64 0), (12, .int .i64 53), (14, .bool false), (15, .int .i64 j), (18, .pointer (some ⟨g18, 0, none⟩)), (26, .bool false), (36, .bool true), (85, .bool false), (90, .bool false), (150, .bool false), (181, .bool false)] := F269.keep ⟨rfl, rfl, rfl, rfl, rfl, rfl, rfl, rfl, rfl, rfl, rfl, rfl, rfl, rfl, rfl, rfl, rfl, rfl, rfl, rfl, trivial⟩
            clear F269
            refine then_n ?_
            refine wp_cond_false (F270.e rfl) ?_
            refine wp_skip ?_
            refine in_n ?_
            refine then_n ?_
            refine wp_region_lit ?_
            refine list_val F270 (wn rfl) rfl rfl (.int .i64 i) (ex_move _ rfl _ (F270.e rfl)) ?_
            clear F270; try clear a250
            intro a251 F271
            refine list_val F271 (wn rfl) rfl rfl (.int .i64 (i + 1)) (ex_bin .add _ _ _ _ rfl .i64 _ _ (F271.e rfl) rfl _ (b_add (w_i64 (by omega) (by omega)))) ?_
            clear F271; try clear a251
            intro a252 F272
            refine list_val F272 (wn rfl) rfl rfl (.int .i64 (i + 1)) (ex_assign _ rfl _ (F272.e rfl)) ?_
            clear F272; try clear a252
            intro a253 F273
            refine wpList_nil ?_
            have F274 : Fr 183 a253 [(0, .agg (lifeArr s (.slice A ts.length c))), (1, .pointer (some ⟨g1, 0, none⟩)), (2, .bool false), (3, .pointer (some ⟨g3, 0, none⟩)), (4, .bool true), (5, .pointer (some ⟨g5, 0, none⟩)), (7, .int .i64 (i + 1)), (8, .int .u64 ki.kid), (9, .pointer (some ⟨g9, 0, none⟩)), (10, .int .i64 0), (12, .int .i64 53), (14, .bool false), (15, .int .i64 j), (18, .pointer (some ⟨g18, 0, none⟩)), (26, .bool false), (36, .bool true), (85, .bool false), (90, .bool false), (150, .bool false), (181, .bool false)] := F273.keep ⟨rfl, rfl, rfl, rfl, rfl, rfl, rfl, rfl, rfl, rfl, rfl, rfl, rfl, rfl, rfl, rfl, rfl, rfl, rfl, rfl, trivial⟩
            clear F273
            refine then_n ?_
            refine ⟨⟨(i + 1), F274.keep ⟨rfl, rfl, rfl, rfl, rfl, rfl, rfl, rfl, trivial⟩, M44.pick' [2, 3] [⟨g5, last.arr, 107⟩, ⟨g3, #[.slice (some ad) (init.length + 1) c3, .int .u64 next], 69⟩] ⟨rfl, rfl, trivial⟩ (by decide), O_r, (by omega)⟩, ?_⟩
            exact meas (F274.e rfl) (Fh1.e rfl) (Nat.lt_succ_self _) (by omega)
          · obtain ⟨e1, e2, e3⟩ := G.other hkl
            have hq : (ki.kid == last.kid) = false := by simp [hkl]
            have hq' : (ki.kid != last.kid) = true := by simp [hkl]
            refine wp_seq ?_
            refine wp_seq ?_
            refine wp_region_lit ?_
            refine list_val F98 (wn rfl) rfl rfl (.int .i64 j) (ex_move _ rfl _ (F98.e rfl)) ?_
            clear F98; try clear a86
            intro a254 F275
            refine list_val F275 (wn rfl) rfl rfl (.pointer (some ⟨g3, 0, none⟩)) (ex_fa _ _ _ rfl _ (F275.e rfl) 0 cl_fa_69_0_0 ⟨g3, 0, none⟩ rfl) ?_
            clear F275; try clear a254
            intro a255 F276
            refine list_val F276 (wn rfl) rfl rfl (.slice (some ad) (init.length + 1) c3) (ex_load _ _ rfl _ (F276.e rfl) _ (lv1 cl_one_55 (M21.cell (i := 2) rfl (j := 0) rfl))) ?_
            clear F276; try clear a255
            intro a256 F277
            refine list_val F277 (wn rfl) rfl rfl (.int .i64 (((init.length + 1) : Nat) : Int)) (ex_len _ _ rfl 34 cl_sl_55_34 _ _ _ (F277.e rfl)) ?_
            clear F277; try clear a256
            intro a257 F278
            refine list_val F278 (wn rfl) rfl rfl (.bool false) (ex_bin .lss _ _ _ _ rfl .i64 _ _ (F278.e rfl) (F278.e rfl) _ (b_lss (decide_eq_false (by omega)))) ?_
            clear F278; try clear a257
            intro a258 F279
            refine wpList_nil ?_
            have F280 : Fr 183 a258 [(0, .agg (lifeArr s (.slice A ts.length c))), (1, .pointer (some ⟨g1, 0, none⟩)), (2, .bool false), (3, .pointer (some ⟨g3, 0, none⟩)), (4, .bool true), (5, .pointer (some ⟨g5, 0, none⟩)), (7, .int .i64 i), (8, .int .u64 ki.kid), (9, .pointer (some ⟨g9, 0, none⟩)), (10, .int .i64 0), (12, .int .i64 53), (14, .bool false), (15, .int .i64 j), (26, .bool false), (36, .bool true), (85, .bool false), (90, .bool false)] := F279.keep ⟨rfl, rfl, rfl, rfl, rfl, rfl, rfl, rfl, rfl, rfl, rfl, rfl, rfl, rfl, rfl, rfl, rfl, trivial⟩
            clear F279
            refine then_n ?_
            refine wp_cond_false (F280.e rfl) ?_
            refine wp_exit ?_
            refine then_x ?_
            refine then_x ?_
            refine in_hit ?_
            refine then_n ?_
            refine wp_seq ?_
            refine wp_region_lit ?_
            refine list_val F280 (wn rfl) rfl rfl (.agg #[.slice A5 (init2.length + 1) c5, .int .u64 next2]) (ex_load _ _ rfl _ (F280.e rfl) _ (lvr (cs := [.slice A5 (init2.length + 1) c5, .int .u64 next2]) cl_row_69_2 (M21.at (i := 0) rfl))) ?_
            clear F280; try clear a258
            intro a259 F281
            refine list_do (wn rfl) (fun K hK => ?_)
            refine ow_call rfl rfl F281 29 #[.agg #[.slice A5 (init2.length + 1) c5, .int .u64 next2]] (ex_call 29 _ _ rfl rfl cl_ent_29 _ (map1 (F281.e rfl))) (cur_r G.ring _ _ _ O_x) (fun e w48 hR => ?_)
            obtain ⟨he, hb⟩ := hR
            refine ⟨.tuple #[.agg last2.arr, .bool true], he, fun a260 F282 => ?_⟩
            clear he F281
            refine hK _ _ ?_
            clear hK K
            replace O_r := O_r.below hb
            replace O_x := O_x.below hb
            have M45 := M21.below hb
            clear M21
            try clear hb
            try clear a259
            try clear w24
            refine list_val F282 (wn rfl) rfl rfl (.tuple #[.agg last2.arr, .bool true]) (ex_move _ rfl _ (F282.e rfl)) ?_
            clear F282; try clear a260
            intro a261 F283
            refine list_val F283 (wn rfl) rfl rfl (.agg last2.arr) (ex_extract _ _ rfl _ (F283.e rfl) _ rfl) ?_
            clear F283; try clear a261
            intro a262 F284
            refine list_val F284 (wn rfl) rfl rfl (.bool true) (ex_extract _ _ rfl _ (F284.e rfl) _ rfl) ?_
            clear F284; try clear a262
            intro a263 F285
            refine list_do (wn rfl) (fun K hK => ?_)
            refine ow_alloc F285 M45 rfl rfl 107 rfl (.agg zKey.arr) zero107 zKey.arr rfl (fun a264 g18 w49 F286 M46 hb hg => ?_)
            refine hK _ _ ?_
            clear hK K
            have K_O_r := O_r
            have K_O_x := O_x
            replace O_r := O_r.below hb
            replace O_x := O_x.below hb
            have hz_g18 := hb
            have lo_g18 := hg
            clear hb hg F285 M45
            try clear a263
            try clear w48
            refine list_do (wn rfl) (fun K hK => ?_)
            refine ow_put F286 M46 rfl 107 _ _ rfl 0 _ zKey.arr _ rfl (F286.e rfl) last2.arr (F286.e rfl) (by rw [Key.arr_size]; exact info107) (by simp only [Key.arr_size]) (Key.arr_one _) (fun a265 w50 F287 M47 hgr => ?_)
            refine hK _ _ ?_
            clear hK K
            have hzz := S_grown hz_g18 hgr lo_g18
            replace O_r := K_O_r.below hzz
            replace O_x := K_O_x.below hzz
            clear hzz hz_g18 lo_g18 K_O_r K_O_x
            clear F286 M46
            try clear hgr
            try clear a264
            try clear w49
            replace M47 : Mm w w50 [⟨g18, last2.arr, 107⟩, ⟨g9, #[.slice A5 (init2.length + 1) c5, .int .u64 next2], 69⟩, ⟨g5, last.arr, 107⟩, ⟨g3, #[.slice (some ad) (init.length + 1) c3, .int .u64 next], 69⟩] := M47
            refine list_val F287 (wn rfl) rfl rfl (.bool true) (ex_assign _ rfl _ (F287.e rfl)) ?_
            clear F287; try clear a265
            intro a266 F288
            refine wpList_nil ?_
            have F289 : Fr 183 a266 [(0, .agg (lifeArr s (.slice A ts.length c))), (1, .pointer (some ⟨g1, 0, none⟩)), (2, .bool false), (3, .pointer (some ⟨g3, 0, none⟩)), (4, .bool true), (5, .pointer (some ⟨g5, 0, none⟩)), (7, .int .i64 i), (8, .int .u64 ki.kid), (9, .pointer (some ⟨g9, 0, none⟩)), (10, .int .i64 0), (12, .int .i64 53), (14, .bool false), (15, .int .i64 j), (18, .pointer (some ⟨g18, 0, none⟩)), (26, .bool false), (36, .bool true), (85, .bool false), (90, .bool false)] := F288.keep ⟨rfl, rfl, rfl, rfl, rfl, rfl, rfl, rfl, rfl, rfl, rfl, rfl, rfl, rfl, rfl, rfl, rfl, rfl, trivial⟩
            clear F288
            refine then_n ?_
            refine wp_seq ?_
            refine wp_seq ?_
            refine wp_region_lit ?_
            refine list_val F289 (wn rfl) rfl rfl (.int .u64 ki.kid) (ex_move _ rfl _ (F289.e rfl)) ?_
            clear F289; try clear a266
            intro a267 F290
            refine list_val F290 (wn rfl) rfl rfl (.pointer (some ⟨g5, 0, none⟩)) (ex_fa _ _ _ rfl _ (F290.e rfl) 0 cl_fa_107_0_0 ⟨g5, 0, none⟩ rfl) ?_
            clear F290; try clear a267
            intro a268 F291
            refine list_val F291 (wn rfl) rfl rfl (.int .u64 last.kid) (ex_load _ _ rfl _ (F291.e rfl) _ (lv1 cl_one_67 (M47.cell (i := 2) rfl (j := 0) (Key.arr_0 _)))) ?_
            clear F291; try clear a268
            intro a269 F292
            refine list_val F292 (wn rfl) rfl rfl (.bool true) (ex_bin .neq _ _ _ _ rfl .u64 _ _ (F292.e rfl) (F292.e rfl) _ (b_neq hq')) ?_
            clear F292; try clear a269
            intro a270 F293
            refine list_val F293 (wn rfl) rfl rfl (.bool true) (ex_move _ rfl _ (F293.e rfl)) ?_
            clear F293; try clear a270
            intro a271 F294
            refine list_val F294 (F294.wants 129 true rfl (by kernel_rfl) rfl true rfl) rfl rfl (.agg last2.arr) (ex_load _ _ rfl _ (F294.e rfl) _ (lvr (cs := last2.cs) (by rw [Key.cs_len]; exact cl_row_107_34) (M47.at (i := 0) rfl))) ?_
            clear F294; try clear a271
            intro a272 F295
            refine list_val F295 (F295.wants 129 true rfl (by kernel_rfl) rfl true rfl) rfl rfl (.agg last.arr) (ex_load _ _ rfl _ (F295.e rfl) _ (lvr (cs := last.cs) (by rw [Key.cs_len]; exact cl_row_107_34) (M47.at (i := 2) rfl))) ?_
            clear F295; try clear a272
            intro a273 F296
            refine list_val F296 (F296.wants 129 true rfl (by kernel_rfl) rfl true rfl) rfl rfl (.bool false) (ex_neqk _ _ _ rfl last2 last (F296.e rfl) (F296.e rfl) false (by rw [e1]; simp)) ?_
            clear F296; try clear a273
            intro a274 F297
            refine list_val F297 (F297.wants 129 true rfl (by kernel_rfl) rfl true rfl) rfl rfl (.bool false) (ex_move _ rfl _ (F297.e rfl)) ?_
            clear F297; try clear a274
            intro a275 F298
            refine list_val F298 (F298.wants 133 false rfl (by kernel_rfl) rfl true rfl) rfl rfl (.pointer (some ⟨g9, 1, none⟩)) (ex_fa _ _ _ rfl _ (F298.e rfl) 1 cl_fa_69_1_1 ⟨g9, 1, none⟩ rfl) ?_
            clear F298; try clear a275
            intro a276 F299
            refine list_val F299 (F299.wants 133 false rfl (by kernel_rfl) rfl true rfl) rfl rfl (.int .u64 next2) (ex_load _ _ rfl _ (F299.e rfl) _ (lv1 cl_one_67 (M47.cell (i := 1) rfl (j := 1) rfl))) ?_
            clear F299; try clear a276
            intro a277 F300
            refine list_val F300 (F300.wants 133 false rfl (by kernel_rfl) rfl true rfl) rfl rfl (.pointer (some ⟨g3, 1, none⟩)) (ex_fa _ _ _ rfl _ (F300.e rfl) 1 cl_fa_69_1_1 ⟨g3, 1, none⟩ rfl) ?_
            clear F300; try clear a277
            intro a278 F301
            refine list_val F301 (F301.wants 133 false rfl (by kernel_rfl) rfl true rfl) rfl rfl (.int .u64 next) (ex_load _ _ rfl _ (F301.e rfl) _ (lv1 cl_one_67 (M47.cell (i := 3) rfl (j := 1) rfl))) ?_
            clear F301; try clear a278
            intro a279 F302
            refine list_val F302 (F302.wants 133 false rfl (by kernel_rfl) rfl true rfl) rfl rfl (.bool false) (ex_bin .neq _ _ _ _ rfl .u64 _ _ (F302.e rfl) (F302.e rfl) _ (b_neq (by rw [e2]; simp))) ?_
            clear F302; try clear a279
            intro a280 F303
            refine list_val F303 (F303.wants 129 true rfl (by kernel_rfl) rfl true rfl) rfl rfl (.bool false) (ex_pick_f _ _ _ rfl (F303.e rfl) _ (F303.e rfl)) ?_
            clear F303; try clear a280
            intro a281 F304
            refine list_val F304 (F304.wants 129 true rfl (by kernel_rfl) rfl true rfl) rfl rfl (.bool false) (ex_move _ rfl _ (F304.e rfl)) ?_
            clear F304; try clear a281
            intro a282 F305
            refine list_val F305 (F305.wants 140 false rfl (by kernel_rfl) rfl true rfl) rfl rfl (.pointer (some ⟨g9, 0, none⟩)) (ex_fa _ _ _ rfl _ (F305.e rfl) 0 cl_fa_69_0_0 ⟨g9, 0, none⟩ rfl) ?_
            clear F305; try clear a282
            intro a283 F306
            refine list_val F306 (F306.wants 140 false rfl (by kernel_rfl) rfl true rfl) rfl rfl (.slice A5 (init2.length + 1) c5) (ex_load _ _ rfl _ (F306.e rfl) _ (lv1 cl_one_55 (M47.cell (i := 1) rfl (j := 0) rfl))) ?_
            clear F306; try clear a283
            intro a284 F307
            refine list_val F307 (F307.wants 140 false rfl (by kernel_rfl) rfl true rfl) rfl rfl (.int .i64 (((init2.length + 1) : Nat) : Int)) (ex_len _ _ rfl 34 cl_sl_55_34 _ _ _ (F307.e rfl)) ?_
            clear F307; try clear a284
            intro a285 F308
            refine list_val F308 (F308.wants 140 false rfl (by kernel_rfl) rfl true rfl) rfl rfl (.pointer (some ⟨g3, 0, none⟩)) (ex_fa _ _ _ rfl _ (F308.e rfl) 0 cl_fa_69_0_0 ⟨g3, 0, none⟩ rfl) ?_
            clear F308; try clear a285
            intro a286 F309
            refine list_val F309 (F309.wants 140 false rfl (by kernel_rfl) rfl true rfl) rfl rfl (.slice (some ad) (init.length + 1) c3) (ex_load _ _ rfl _ (F309.e rfl) _ (lv1 cl_one_55 (M47.cell (i := 3) rfl (j := 0) rfl))) ?_
            clear F309; try clear a286
            intro a287 F310
            refine list_val F310 (F310.wants 140 false rfl (by kernel_rfl) rfl true rfl) rfl rfl (.int .i64 (((init.length + 1) : Nat) : Int)) (ex_len _ _ rfl 34 cl_sl_55_34 _ _ _ (F310.e rfl)) ?_
            clear F310; try clear a287
            intro a288 F311
            refine list_val F311 (F311.wants 140 false rfl (by kernel_rfl) rfl true rfl) rfl rfl (.int .i64 (init.length : Int)) (ex_bin .sub _ _ _ _ rfl .i64 _ _ (F311.e rfl) rfl _ (b_sub (by rw [w_i64 (by omega) (by omega)]; omega))) ?_
            clear F311; try clear a288
            intro a289 F312
            refine list_val F312 (F312.wants 140 false rfl (by kernel_rfl) rfl true rfl) rfl rfl (.bool false) (ex_bin .neq _ _ _ _ rfl .i64 _ _ (F312.e rfl) (F312.e rfl) _ (b_neq (by rw [bne_eq_false_iff_eq]; omega))) ?_
            clear F312; try clear a289
            intro a290 F313
            refine list_val F313 (F313.wants 129 true rfl (by kernel_rfl) rfl true rfl) rfl rfl (.bool false) (ex_pick_f _ _ _ rfl (F313.e rfl) _ (F313.e rfl)) ?_
            clear F313; try clear a290
            intro a291 F314
            refine list_val F314 (wn rfl) rfl rfl (.bool false) (ex_pick_t _ _ _ rfl (F314.e rfl) _ (F314.e rfl)) ?_
            clear F314; try clear a291
            intro a292 F315
            refine wpList_nil ?_
            have F316 : Fr 183 a292 [(0, .agg (lifeArr s (.slice A ts.length c))), (1, .pointer (some ⟨g1, 0, none⟩)), (2, .bool false), (3, .pointer (some ⟨g3, 0, none⟩)), (4, .bool true), (5, .pointer (some ⟨g5, 0, none⟩)), (7, .int .i64 i), (8, .int .u64 ki.kid), (9, .pointer (some ⟨g9, 0, none⟩)), (10, .int .i64 0), (12, .int .i64 53), (14, .bool false), (15, .int .i64 j), (18, .pointer (some ⟨g18, 0, none⟩)), (26, .bool false), (36, .bool true), (85, .bool false), (90, .bool false), (150, .bool false)] := F315.keep ⟨rfl, rfl, rfl, rfl, rfl, rfl, rfl, rfl, rfl, rfl, rfl, rfl, rfl, rfl, rfl, rfl, rfl, rfl, rfl, trivial⟩
            clear F315
            refine then_n ?_
            refine wp_cond_false (F316.e rfl) ?_
            refine wp_skip ?_
            refine then_n ?_
            refine wp_seq ?_
            refine wp_region_lit ?_
            refine list_val F316 (wn rfl) rfl rfl (.int .u64 ki.kid) (ex_move _ rfl _ (F316.e rfl)) ?_
            clear F316; try clear a292
            intro a293 F317
            refine list_val F317 (wn rfl) rfl rfl (.pointer (some ⟨g5, 0, none⟩)) (ex_fa _ _ _ rfl _ (F317.e rfl) 0 cl_fa_107_0_0 ⟨g5, 0, none⟩ rfl) ?_
            clear F317; try clear a293
            intro a294 F318
            refine list_val F318 (wn rfl) rfl rfl (.int .u64 last.kid) (ex_load _ _ rfl _ (F318.e rfl) _ (lv1 cl_one_67 (M47.cell (i := 2) rfl (j := 0) (Key.arr_0 _)))) ?_
            clear F318; try clear a294
            intro a295 F319
            refine list_val F319 (wn rfl) rfl rfl (.bool false) (ex_bin .eql _ _ _ _ rfl .u64 _ _ (F319.e rfl) (F319.e rfl) _ (b_eql hq)) ?_
            clear F319; try clear a295
            intro a296 F320
            refine list_val F320 (wn rfl) rfl rfl (.bool false) (ex_move _ rfl _ (F320.e rfl)) ?_
            clear F320; try clear a296
            intro a297 F321
            refine list_skip F321 (F321.wants 155 false rfl (by kernel_rfl) rfl false rfl) rfl rfl ?_
            clear F321; try clear a297
            intro a298 F322
            refine list_skip F322 (F322.wants 155 false rfl (by kernel_rfl) rfl false rfl) rfl rfl ?_
            clear F322; try clear a298
            intro a299 F323
            refine list_skip F323 (F323.wants 155 false rfl (by kernel_rfl) rfl false rfl) rfl rfl ?_
            clear F323; try clear a299
            intro a300 F324
            refine list_skip F324 (F324.wants 155 false rfl (by kernel_rfl) rfl false rfl) rfl rfl ?_
            clear F324; try clear a300
            intro a301 F325
            refine list_skip F325 (F325.wants 155 false rfl (by kernel_rfl) rfl false rfl) rfl rfl ?_
            clear F325; try clear a301
            intro a302 F326
            refine list_skip F326 (F326.wants 155 false rfl (by kernel_rfl) rfl false rfl) rfl rfl ?_
            clear F326; try clear a302
            intro a303 F327
            refine list_skip F327 (F327.wants 155 false rfl (by kernel_rfl) rfl false rfl) rfl rfl ?_
            clear F327; try clear a303
            intro a304 F328
            refine list_skip F328 (F328.wants 155 false rfl (by kernel_rfl) rfl false rfl) rfl rfl ?_
            clear F328; try clear a304
            intro a305 F329
            refine list_skip F329 (F329.wants 155 false rfl (by kernel_rfl) rfl false rfl) rfl rfl ?_
            clear F329; try clear a305
            intro a306 F330
            refine list_skip F330 (F330.wants0 164 rfl (by kernel_rfl) rfl) rfl rfl ?_
            clear F330; try clear a306
            intro a307 F331
            refine list_skip F331 (F331.wants0 164 rfl (by kernel_rfl) rfl) rfl rfl ?_
            clear F331; try clear a307
            intro a308 F332
            refine list_skip F332 (F332.wants0 164 rfl (by kernel_rfl) rfl) rfl rfl ?_
            clear F332; try clear a308
            intro a309 F333
            refine list_skip F333 (F333.wants0 164 rfl (by kernel_rfl) rfl) rfl rfl ?_
            clear F333; try clear a309
            intro a310 F334
            refine list_skip F334 (F334.wants0 164 rfl (by kernel_rfl) rfl) rfl rfl ?_
            clear F334; try clear a310
            intro a311 F335
            refine list_skip F335 (F335.wants0 164 rfl (by kernel_rfl) rfl) rfl rfl ?_
            clear F335; try clear a311
            intro a312 F336
            refine list_skip F336 (F336.wants 155 false rfl (by kernel_rfl) rfl false rfl) rfl rfl ?_
            clear F336; try clear a312
            intro a313 F337
            refine list_skip F337 (F337.wants 155 false rfl (by kernel_rfl) rfl false rfl) rfl rfl ?_
            clear F337; try clear a313
            intro a314 F338
            refine list_skip F338 (F338.wants0 172 rfl (by kernel_rfl) rfl) rfl rfl ?_
            clear F338; try clear a314
            intro a315 F339
            refine list_skip F339 (F339.wants0 172 rfl (by kernel_rfl) rfl) rfl rfl ?_
            clear F339; try clear a315
            intro a316 F340
            refine list_skip F340 (F340.wants0 172 rfl (by kernel_rfl) rfl) rfl rfl ?_
            clear F340; try clear a316
            intro a317 F341
            refine list_skip F341 (F341.wants0 172 rfl (by kernel_rfl) rfl) rfl rfl ?_
            clear F341; try clear a317
            intro a318 F342
            refine list_skip F342 (F342.wants0 172 rfl (by kernel_rfl) rfl) rfl rfl ?_
            clear F342; try clear a318
            intro a319 F343
            refine list_skip F343 (F343.wants0 172 rfl (by kernel_rfl) rfl) rfl rfl ?_
            clear F343; try clear a319
            intro a320 F344
            refine list_skip F344 (F344.wants0 172 rfl (by kernel_rfl) rfl) rfl rfl ?_
            clear F344; try clear a320
            intro a321 F345
            refine list_skip F345 (F345.wants 155 false rfl (by kernel_rfl) rfl false rfl) rfl rfl ?_
            clear F345; try clear a321
            intro a322 F346
            refine list_val F346 (wn rfl) rfl rfl (.bool false) (ex_pick_f _ _ _ rfl (F346.e rfl) _ rfl) ?_
            clear F346; try clear a322
            intro a323 F347
            refine wpList_nil ?_
            have F348 : Fr 183 a323 [(0, .agg (lifeArr s (.slice A ts.length c))), (1, .pointer (some ⟨g1, 0, none⟩)), (2, .bool false), (3, .pointer (some ⟨g3, 0, none⟩)), (4, .bool true), (5, .pointer (some ⟨g5, 0, none⟩)), (7, .int .i64 i), (8, .int .u64 ki.kid), (9, .pointer (some ⟨g9, 0, none⟩)), (10, .int .i64 0), (12, .int .i64 53), (14, .bool false), (15, .int .i64 j), (18, .pointer (some ⟨g18, 0, none⟩)), (26, .bool false), (36, .bool true), (85, .bool false), (90, .bool false), (150, .bool false), (181, .bool false)] := F347.keep ⟨rfl, rfl, rfl, rfl, rfl, rfl, rfl, rfl, rfl, rfl, rfl, rfl, rfl, rfl, rfl, rfl, rfl, rfl, rfl, rfl, trivial⟩
            clear F347
            refine then_n ?_
            refine wp_cond_false (F348.e rfl) ?_
            refine wp_skip ?_
            refine in_n ?_
            refine then_n ?_
            refine wp_region_lit ?_
            refine list_val F348 (wn rfl) rfl rfl (.int .i64 i) (ex_move _ rfl _ (F348.e rfl)) ?_
            clear F348; try clear a323
            intro a324 F349
            refine list_val F349 (wn rfl) rfl rfl (.int .i64 (i + 1)) (ex_bin .add _ _ _ _ rfl .i64 _ _ (F349.e rfl) rfl _ (b_add (w_i64 (by omega) (by omega)))) ?_
            clear F349; try clear a324
            intro a325 F350
            refine list_val F350 (wn rfl) rfl rfl (.int .i64 (i + 1)) (ex_assign _ rfl _ (F350.e rfl)) ?_
            clear F350; try clear a325
            intro a326 F351
            refine wpList_nil ?_
            have F352 : Fr 183 a326 [(0, .agg (lifeArr s (.slice A ts.length c))), (1, .pointer (some ⟨g1, 0, none⟩)), (2, .bool false), (3, .pointer (some ⟨g3, 0, none⟩)), (4, .bool true), (5, .pointer (some ⟨g5, 0, none⟩)), (7, .int .i64 (i + 1)), (8, .int .u64 ki.kid), (9, .pointer (some ⟨g9, 0, none⟩)), (10, .int .i64 0), (12, .int .i64 53), (14, .bool false), (15, .int .i64 j), (18, .pointer (some ⟨g18, 0, none⟩)), (26, .bool false), (36, .bool true), (85, .bool false), (90, .bool false), (150, .bool false), (181, .bool false)] := F351.keep ⟨rfl, rfl, rfl, rfl, rfl, rfl, rfl, rfl, rfl, rfl, rfl, rfl, rfl, rfl, rfl, rfl, rfl, rfl, rfl, rfl, trivial⟩
            clear F351
            refine then_n ?_
            refine ⟨⟨(i + 1), F352.keep ⟨rfl, rfl, rfl, rfl, rfl, rfl, rfl, rfl, trivial⟩, M47.pick' [2, 3] [⟨g5, last.arr, 107⟩, ⟨g3, #[.slice (some ad) (init.length + 1) c3, .int .u64 next], 69⟩] ⟨rfl, rfl, trivial⟩ (by decide), O_r, (by omega)⟩, ?_⟩
            exact meas (F352.e rfl) (Fh1.e rfl) (Nat.lt_succ_self _) (by omega)
    · refine wp_seq ?_
      refine wp_seq ?_
      refine wp_region_lit ?_
      refine list_val F27 (wn rfl) rfl rfl (.int .i64 i) (ex_move _ rfl _ (F27.e rfl)) ?_
      clear F27; try clear a22
      intro a327 F353
      refine list_val F353 (wn rfl) rfl rfl (.pointer (some ⟨g3, 0, none⟩)) (ex_fa _ _ _ rfl _ (F353.e rfl) 0 cl_fa_69_0_0 ⟨g3, 0, none⟩ rfl) ?_
      clear F353; try clear a327
      intro a328 F354
      refine list_val F354 (wn rfl) rfl rfl (.slice (some ad) (init.length + 1) c3) (ex_load _ _ rfl _ (F354.e rfl) _ (lv1 cl_one_55 (M8.cell (i := 1) rfl (j := 0) rfl))) ?_
      clear F354; try clear a328
      intro a329 F355
      refine list_val F355 (wn rfl) rfl rfl (.int .i64 (((init.length + 1) : Nat) : Int)) (ex_len _ _ rfl 34 cl_sl_55_34 _ _ _ (F355.e rfl)) ?_
      clear F355; try clear a329
      intro a330 F356
      refine list_val F356 (wn rfl) rfl rfl (.bool false) (ex_bin .lss _ _ _ _ rfl .i64 _ _ (F356.e rfl) (F356.e rfl) _ (b_lss (decide_eq_false (by omega)))) ?_
      clear F356; try clear a330
      intro a331 F357
      refine wpList_nil ?_
      have F358 : Fr 183 a331 [(0, .agg (lifeArr s (.slice A ts.length c))), (1, .pointer (some ⟨g1, 0, none⟩)), (2, .bool false), (3, .pointer (some ⟨g3, 0, none⟩)), (4, .bool true), (5, .pointer (some ⟨g5, 0, none⟩)), (7, .int .i64 i), (26, .bool false), (36, .bool false)] := F357.keep ⟨rfl, rfl, rfl, rfl, rfl, rfl, rfl, rfl, rfl, trivial⟩
      clear F357
      refine then_n ?_
      refine wp_cond_false (F358.e rfl) ?_
      refine wp_exit ?_
      refine then_x ?_
      refine then_x ?_
      refine in_hit ?_
      refine then_n ?_
      refine wp_seq ?_
      refine wp_region_lit ?_
      refine list_do (wn rfl) (fun K hK => ?_)
      refine ow_call rfl rfl F358 26 #[] (ex_call 26 _ _ rfl rfl cl_ent_26 _ (map0)) (wakes_any _) (fun e w51 hR => ?_)
      obtain ⟨he, hb⟩ := hR
      refine ⟨.bool true, he, fun a332 F359 => ?_⟩
      clear he F358
      refine hK _ _ ?_
      clear hK K
      replace O_r := O_r.below hb
      have M48 := M8.below hb
      clear M8
      try clear hb
      try clear a331
      try clear w8
      refine list_val F359 (wn rfl) rfl rfl (.bool true) (ex_assign _ rfl _ (F359.e rfl)) ?_
      clear F359; try clear a332
      intro a333 F360
      refine wpList_nil ?_
      have F361 : Fr 183 a333 [(0, .agg (lifeArr s (.slice A ts.length c))), (1, .pointer (some ⟨g1, 0, none⟩)), (2, .bool true), (3, .pointer (some ⟨g3, 0, none⟩)), (4, .bool true), (5, .pointer (some ⟨g5, 0, none⟩)), (7, .int .i64 i), (26, .bool false), (36, .bool false)] := F360.keep ⟨rfl, rfl, rfl, rfl, rfl, rfl, rfl, rfl, rfl, trivial⟩
      clear F360
      refine then_n ?_
      refine wp_ret ?_
      exact ret_tmp F361 rfl rfl ⟨rfl, M48.bel⟩
end Go.Proofs.Ytnechcibpmjblaa
