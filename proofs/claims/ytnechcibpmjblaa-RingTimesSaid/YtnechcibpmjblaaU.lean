/- The law RingTimes of the given program answers true: its walk; '==' of rings. Conditions: the turns are read. -/
import Derived.Test.YtnechcibpmjblaaT
import Derived.Test.YtnechcibpmjblaaRL
namespace Go.Proofs.Ytnechcibpmjblaa
open Go.RowKit Go.Proofs.YtnechcibpmjblaaW.PrintWords KB WG
set_option linter.unusedVariables false
set_option linter.unusedSimpArgs false

/-- What a Prune at a time leaves of the keys but the last. -/
def flt (now : Int) (l : List Key) : List Key := l.filter fun k => !(decide (0 < k.til) && decide (k.til ≤ now))
theorem prune_x {init : List Key} {last : Key} {next : Int} (h : IsRing init last next) (A : Option Addr) (c : Nat) (now : Int) (w : World) (hO : RO w A c ⟨init ++ [last], next⟩) :
    Calls Try.prog 14 #[.agg #[.slice A (init.length + 1) c, .int .u64 next], .int .i64 now] w fun e w' => ∃ A' c', e = .returned (.agg #[.slice A' ((flt now init).length + 1) c', .int .u64 next]) ∧ RO w' A' c' ⟨flt now init ++ [last], next⟩ ∧ Below w.heap.size w w' := by
  have := prune_c ⟨init ++ [last], next⟩ A c now w hO.rk
  rw [h.prune] at this
  simp only [ring_len] at this
  refine this.mono fun _ _ ⟨A', c', he, hO', hb⟩ => ⟨A', c', ?_, hO', hb⟩
  rw [he]
  simp only [ring_len]
  rfl
theorem ring_flt {init : List Key} {last : Key} {next : Int} (h : IsRing init last next) (now : Int) : IsRing (flt now init) last next := h.pruned now
theorem flt_flt (a b : Int) (l : List Key) : flt a (flt b l) = flt (if a < b then b else a) l := by
  unfold flt
  rw [List.filter_filter]
  congr 1
  funext k
  rw [Bool.eq_iff_iff]
  simp only [Bool.and_eq_true, Bool.not_eq_true', Bool.and_eq_false_iff, decide_eq_false_iff_not]
  split <;> omega
theorem flt_none {init : List Key} {last : Key} {next : Int} (h : IsRing init last next) : flt 0 init = init := by
  unfold flt
  refine List.filter_eq_self.2 fun k hk => ?_
  have := h.ends k hk
  simp; omega
/-- Does a key stay behind a Prune at a time? -/
def stay (late : Int) (k : Key) : Bool := (k.til == 0) || decide (late < k.til)
theorem flt_all {init : List Key} {last : Key} {next : Int} (h : IsRing init last next) (late : Int) : flt late init ++ [last] = (init ++ [last]).filter (stay late) := by
  rw [List.filter_append]
  congr 1
  · unfold flt
    refine List.filter_congr fun k hk => ?_
    have := h.ends k hk
    rw [Bool.eq_iff_iff]
    simp only [stay, Bool.not_eq_true', Bool.and_eq_false_iff, Bool.or_eq_true, decide_eq_false_iff_not, decide_eq_true_iff, beq_iff_eq]
    omega
  · have : stay late last = true := by simp [stay, h.cur]
    simp [this]
/-- So many of the first i keys stay. -/
def cnt (late : Int) (l : List Key) (i : Nat) : Nat := ((l.take i).filter (stay late)).length
theorem cnt_zero (late : Int) (l : List Key) : cnt late l 0 = 0 := by simp [cnt]
theorem cnt_all (late : Int) (l : List Key) (i : Nat) (h : l.length ≤ i) : cnt late l i = (l.filter (stay late)).length := by unfold cnt; rw [List.take_of_length_le h]
theorem cnt_succ (late : Int) (l : List Key) (i : Nat) (h : i < l.length) : cnt late l (i + 1) = cnt late l i + (if stay late l[i] then 1 else 0) := by
  unfold cnt
  rw [List.take_succ_eq_append_getElem h, List.filter_append, List.length_append]
  congr 1
  by_cases hs : stay late l[i] <;> simp [hs]
theorem cnt_get (late : Int) (l : List Key) (i : Nat) (h : i < l.length) (hs : stay late l[i] = true) : (l.filter (stay late))[cnt late l i]? = some l[i] := by
  have e : l.filter (stay late) = (l.take i).filter (stay late) ++ l[i] :: (l.drop (i + 1)).filter (stay late) := by
    conv => lhs; rw [← List.take_append_drop i l]
    rw [List.filter_append, List.drop_eq_getElem_cons h, List.filter_cons_of_pos hs]
  rw [e, List.getElem?_append_right (by unfold cnt; omega)]
  simp [cnt]
theorem cnt_lt (late : Int) (l : List Key) (i : Nat) (h : i < l.length) (hs : stay late l[i] = true) : cnt late l i < (l.filter (stay late)).length := (List.getElem?_eq_some_iff.1 (cnt_get late l i h hs)).1
theorem cnt_le (late : Int) (l : List Key) (i : Nat) : cnt late l i ≤ l.length := by
  unfold cnt
  exact Nat.le_trans (List.length_filter_le _ _) (by rw [List.length_take]; omega)
/-- A Times value's cells. -/
def timesArr (s : Bs 32) (sl : Value) (a b : Int) : Array Value := (timesCs s sl a b).toArray
theorem times_len (s : Bs 32) (sl : Value) (a b : Int) : (timesCs s sl a b).length = 35 := by simp [timesCs, life_len]
theorem times_33 (s : Bs 32) (sl : Value) (a b : Int) : (timesArr s sl a b)[33]? = some (.int .i64 a) := by
  have h : (lifeCs s sl).length = 33 := life_len _ _
  unfold timesArr timesCs
  rw [List.getElem?_toArray, List.getElem?_append_right (by omega), h]
  rfl
theorem times_34 (s : Bs 32) (sl : Value) (a b : Int) : (timesArr s sl a b)[34]? = some (.int .i64 b) := by
  have h : (lifeCs s sl).length = 33 := life_len _ _
  unfold timesArr timesCs
  rw [List.getElem?_toArray, List.getElem?_append_right (by omega), h]
  rfl
theorem times_life {w : World} {p : Addr} {s : Bs 32} {sl : Value} {a b : Int} (h : At w p (timesCs s sl a b)) : At w p (lifeCs s sl) := fun j u hu => h j u (by
  unfold timesCs
  rw [List.getElem?_append_left (List.getElem?_eq_some_iff.1 hu).1]
  exact hu)
theorem ring_eq (r q : Rg) (h : r.next = q.next) : decide (r.keys = q.keys) = decide (r = q) := by
  obtain ⟨a, b⟩ := r
  obtain ⟨c, d⟩ := q
  simp only at h
  subst h
  simp
theorem cu_fa_69_1_1 : fa? Try.prog 69 1 1 = true := by kernel_rfl
theorem cu_one_67 : one? Try.prog 67 = true := by kernel_rfl
theorem cu_fa_69_0_0 : fa? Try.prog 69 0 0 = true := by kernel_rfl
theorem cu_one_55 : one? Try.prog 55 = true := by kernel_rfl
theorem cu_ent_41 : ent? Try.prog 41 = true := by kernel_rfl
set_option maxHeartbeats 4000000 in
set_option maxRecDepth 100000 in
theorem eqRing_any (r q : Rg) (A B : Option Addr) (c d : Nat) (w : World) (hr : RK w A c r) (hq : RK w B d q) :
    Calls Try.prog 21 #[.agg #[.slice A r.keys.length c, .int .u64 r.next], .agg #[.slice B q.keys.length d, .int .u64 q.next]] w fun e w' => e = .returned (.bool (decide (r = q))) ∧ Below w.heap.size w w' := by
  refine calls_start Try.func21 rfl rfl rfl (fun a F => ?_)
  have M : Mm w w [] := Mm.nil w
  refine wp_seq ?_
  refine wp_region_lit ?_
  refine list_do (wn rfl) (fun K hK => ?_)
  refine ow_box F M rfl rfl 69 _ rfl _ (F.e rfl) #[.slice A r.keys.length c, .int .u64 r.next] rfl (fun a1 g2 w1 F1 M1 hb hg => ?_)
  refine hK _ _ ?_
  clear hK K
  clear hb hg F M
  try clear a
  try clear w
  refine list_do (wn rfl) (fun K hK => ?_)
  refine ow_box F1 M1 rfl rfl 69 _ rfl _ (F1.e rfl) #[.slice B q.keys.length d, .int .u64 q.next] rfl (fun a2 g3 w2 F2 M2 hb hg => ?_)
  refine hK _ _ ?_
  clear hK K
  clear hb hg F1 M1
  try clear a1
  try clear w1
  refine list_val F2 (wn rfl) rfl rfl (.bool false) (ex_assign _ rfl _ rfl) ?_
  clear F2; try clear a2
  intro a3 F3
  refine wpList_nil ?_
  have F4 : Fr 17 a3 [(0, .agg #[.slice A r.keys.length c, .int .u64 r.next]), (1, .agg #[.slice B q.keys.length d, .int .u64 q.next]), (2, .pointer (some ⟨g2, 0, none⟩)), (3, .pointer (some ⟨g3, 0, none⟩)), (4, .bool false)] := F3.keep ⟨rfl, rfl, rfl, rfl, rfl, trivial⟩
  clear F3
  refine then_n ?_
  refine wp_seq ?_
  by_cases hn : r.next = q.next
  · refine wp_region_lit ?_
    refine list_val F4 (wn rfl) rfl rfl (.pointer (some ⟨g2, 1, none⟩)) (ex_fa _ _ _ rfl _ (F4.e rfl) 1 cu_fa_69_1_1 ⟨g2, 1, none⟩ rfl) ?_
    clear F4; try clear a3
    intro a4 F5
    refine list_val F5 (wn rfl) rfl rfl (.int .u64 r.next) (ex_load _ _ rfl _ (F5.e rfl) _ (lv1 cu_one_67 (M2.cell (i := 1) rfl (j := 1) rfl))) ?_
    clear F5; try clear a4
    intro a5 F6
    refine list_val F6 (wn rfl) rfl rfl (.pointer (some ⟨g3, 1, none⟩)) (ex_fa _ _ _ rfl _ (F6.e rfl) 1 cu_fa_69_1_1 ⟨g3, 1, none⟩ rfl) ?_
    clear F6; try clear a5
    intro a6 F7
    refine list_val F7 (wn rfl) rfl rfl (.int .u64 q.next) (ex_load _ _ rfl _ (F7.e rfl) _ (lv1 cu_one_67 (M2.cell (i := 0) rfl (j := 1) rfl))) ?_
    clear F7; try clear a6
    intro a7 F8
    refine list_val F8 (wn rfl) rfl rfl (.bool true) (ex_bin .eql _ _ _ _ rfl .u64 _ _ (F8.e rfl) (F8.e rfl) _ (b_eql (by simp [hn]))) ?_
    clear F8; try clear a7
    intro a8 F9
    refine list_val F9 (wn rfl) rfl rfl (.bool true) (ex_move _ rfl _ (F9.e rfl)) ?_
    clear F9; try clear a8
    intro a9 F10
    refine list_val F10 (F10.wants 10 true rfl (by kernel_rfl) rfl true rfl) rfl rfl (.pointer (some ⟨g2, 0, none⟩)) (ex_fa _ _ _ rfl _ (F10.e rfl) 0 cu_fa_69_0_0 ⟨g2, 0, none⟩ rfl) ?_
    clear F10; try clear a9
    intro a10 F11
    refine list_val F11 (F11.wants 10 true rfl (by kernel_rfl) rfl true rfl) rfl rfl (.slice A r.keys.length c) (ex_load _ _ rfl _ (F11.e rfl) _ (lv1 cu_one_55 (M2.cell (i := 1) rfl (j := 0) rfl))) ?_
    clear F11; try clear a10
    intro a11 F12
    refine list_val F12 (F12.wants 10 true rfl (by kernel_rfl) rfl true rfl) rfl rfl (.pointer (some ⟨g3, 0, none⟩)) (ex_fa _ _ _ rfl _ (F12.e rfl) 0 cu_fa_69_0_0 ⟨g3, 0, none⟩ rfl) ?_
    clear F12; try clear a11
    intro a12 F13
    refine list_val F13 (F13.wants 10 true rfl (by kernel_rfl) rfl true rfl) rfl rfl (.slice B q.keys.length d) (ex_load _ _ rfl _ (F13.e rfl) _ (lv1 cu_one_55 (M2.cell (i := 0) rfl (j := 0) rfl))) ?_
    clear F13; try clear a12
    intro a13 F14
    refine list_do (F14.wants 10 true rfl (by kernel_rfl) rfl true rfl) (fun K hK => ?_)
    refine ow_call rfl rfl F14 41 #[.slice A r.keys.length c, .slice B q.keys.length d] (ex_call 41 _ _ rfl rfl cu_ent_41 _ (map2 (F14.e rfl) (F14.e rfl))) (eqKeys_any r.keys q.keys A B c d _ (Kd.C_below hr.1 M2.bel) (Kd.C_below hq.1 M2.bel) hr.2 hq.2) (fun e w3 hR => ?_)
    obtain ⟨he, hb⟩ := hR
    refine ⟨.bool (decide (r.keys = q.keys)), he, fun a14 F15 => ?_⟩
    clear he F14
    refine hK _ _ ?_
    clear hK K
    have M3 := M2.below hb
    clear M2
    try clear hb
    try clear a13
    try clear w2
    refine list_val F15 (wn rfl) rfl rfl (.bool (decide (r.keys = q.keys))) (ex_pick_t _ _ _ rfl (F15.e rfl) _ (F15.e rfl)) ?_
    clear F15; try clear a14
    intro a15 F16
    refine list_val F16 (wn rfl) rfl rfl (.bool (decide (r.keys = q.keys))) (ex_assign _ rfl _ (F16.e rfl)) ?_
    clear F16; try clear a15
    intro a16 F17
    refine wpList_nil ?_
    have F18 : Fr 17 a16 [(0, .agg #[.slice A r.keys.length c, .int .u64 r.next]), (1, .agg #[.slice B q.keys.length d, .int .u64 q.next]), (2, .pointer (some ⟨g2, 0, none⟩)), (3, .pointer (some ⟨g3, 0, none⟩)), (4, .bool (decide (r.keys = q.keys)))] := F17.keep ⟨rfl, rfl, rfl, rfl, rfl, trivial⟩
    clear F17
    refine then_n ?_
    refine wp_ret ?_
    exact ret_tmp F18 rfl rfl ⟨(by rw [ring_eq r q hn]), M3.bel⟩
  · refine wp_region_lit ?_
    refine list_val F4 (wn rfl) rfl rfl (.pointer (some ⟨g2, 1, none⟩)) (ex_fa _ _ _ rfl _ (F4.e rfl) 1 cu_fa_69_1_1 ⟨g2, 1, none⟩ rfl) ?_
    clear F4; try clear a3
    intro a17 F19
    refine list_val F19 (wn rfl) rfl rfl (.int .u64 r.next) (ex_load _ _ rfl _ (F19.e rfl) _ (lv1 cu_one_67 (M2.cell (i := 1) rfl (j := 1) rfl))) ?_
    clear F19; try clear a17
    intro a18 F20
    refine list_val F20 (wn rfl) rfl rfl (.pointer (some ⟨g3, 1, none⟩)) (ex_fa _ _ _ rfl _ (F20.e rfl) 1 cu_fa_69_1_1 ⟨g3, 1, none⟩ rfl) ?_
    clear F20; try clear a18
    intro a19 F21
    refine list_val F21 (wn rfl) rfl rfl (.int .u64 q.next) (ex_load _ _ rfl _ (F21.e rfl) _ (lv1 cu_one_67 (M2.cell (i := 0) rfl (j := 1) rfl))) ?_
    clear F21; try clear a19
    intro a20 F22
    refine list_val F22 (wn rfl) rfl rfl (.bool false) (ex_bin .eql _ _ _ _ rfl .u64 _ _ (F22.e rfl) (F22.e rfl) _ (b_eql (by simp [hn]))) ?_
    clear F22; try clear a20
    intro a21 F23
    refine list_val F23 (wn rfl) rfl rfl (.bool false) (ex_move _ rfl _ (F23.e rfl)) ?_
    clear F23; try clear a21
    intro a22 F24
    refine list_skip F24 (F24.wants 10 false rfl (by kernel_rfl) rfl false rfl) rfl rfl ?_
    clear F24; try clear a22
    intro a23 F25
    refine list_skip F25 (F25.wants 10 false rfl (by kernel_rfl) rfl false rfl) rfl rfl ?_
    clear F25; try clear a23
    intro a24 F26
    refine list_skip F26 (F26.wants 10 false rfl (by kernel_rfl) rfl false rfl) rfl rfl ?_
    clear F26; try clear a24
    intro a25 F27
    refine list_skip F27 (F27.wants 10 false rfl (by kernel_rfl) rfl false rfl) rfl rfl ?_
    clear F27; try clear a25
    intro a26 F28
    refine list_skip F28 (F28.wants 10 false rfl (by kernel_rfl) rfl false rfl) rfl rfl ?_
    clear F28; try clear a26
    intro a27 F29
    refine list_val F29 (wn rfl) rfl rfl (.bool false) (ex_pick_f _ _ _ rfl (F29.e rfl) _ rfl) ?_
    clear F29; try clear a27
    intro a28 F30
    refine list_val F30 (wn rfl) rfl rfl (.bool false) (ex_assign _ rfl _ (F30.e rfl)) ?_
    clear F30; try clear a28
    intro a29 F31
    refine wpList_nil ?_
    have F32 : Fr 17 a29 [(0, .agg #[.slice A r.keys.length c, .int .u64 r.next]), (1, .agg #[.slice B q.keys.length d, .int .u64 q.next]), (2, .pointer (some ⟨g2, 0, none⟩)), (3, .pointer (some ⟨g3, 0, none⟩)), (4, .bool false)] := F31.keep ⟨rfl, rfl, rfl, rfl, rfl, trivial⟩
    clear F31
    refine then_n ?_
    refine wp_ret ?_
    exact ret_tmp F32 rfl rfl ⟨(by rw [decide_eq_false (fun e => hn (congrArg Rg.next e))]), M2.bel⟩
theorem eqRing_r {i j : List Key} {l m : Key} {x y : Int} (e : (⟨i ++ [l], x⟩ : Rg) = ⟨j ++ [m], y⟩) (A B : Option Addr) (c d : Nat) (w : World) (hr : RO w A c ⟨i ++ [l], x⟩) (hq : RO w B d ⟨j ++ [m], y⟩) :
    Calls Try.prog 21 #[.agg #[.slice A (i.length + 1) c, .int .u64 x], .agg #[.slice B (j.length + 1) d, .int .u64 y]] w fun e w' => e = .returned (.bool true) ∧ Below w.heap.size w w' := by
  have := eqRing_any _ _ A B c d w hr.rk hq.rk
  rw [decide_eq_true e] at this
  simpa only [ring_len] using this
theorem cu_fa_103_0_0 : fa? Try.prog 103 0 0 = true := by kernel_rfl
theorem cu_row_94_33 : row? Try.prog 94 33 = true := by kernel_rfl
theorem cu_ent_28 : ent? Try.prog 28 = true := by kernel_rfl
theorem cu_row_69_2 : row? Try.prog 69 2 = true := by kernel_rfl
theorem cu_fa_103_1_33 : fa? Try.prog 103 1 33 = true := by kernel_rfl
theorem cu_one_2 : one? Try.prog 2 = true := by kernel_rfl
theorem cu_fa_103_2_34 : fa? Try.prog 103 2 34 = true := by kernel_rfl
theorem cu_follows_mixedOrders : Try.prog.follows .mixedOrders = true := by kernel_rfl
theorem cu_ent_18 : ent? Try.prog 18 = true := by kernel_rfl
theorem cu_ent_14 : ent? Try.prog 14 = true := by kernel_rfl
theorem cu_ent_21 : ent? Try.prog 21 = true := by kernel_rfl
theorem cu_sl_55_34 : sl? Try.prog 55 34 = true := by kernel_rfl
theorem cu_fa_107_2_33 : fa? Try.prog 107 2 33 = true := by kernel_rfl
theorem cu_row_107_34 : row? Try.prog 107 34 = true := by kernel_rfl
theorem cu_ent_26 : ent? Try.prog 26 = true := by kernel_rfl
set_option maxHeartbeats 4000000 in
set_option maxRecDepth 100000 in
theorem times_any (s : Bs 32) (ts : List Turn) (ta tb : Int) (A : Option Addr) (c : Nat) (w : World) (hr : kTurn.C w A ts.length ts) (hc : ts.length ≤ c) :
    Calls Try.prog 6 #[.agg (timesArr s (.slice A ts.length c) ta tb)] w fun e w' => e = .returned (.bool true) ∧ Below w.heap.size w w' := by
  refine calls_start Try.func6 rfl rfl rfl (fun a F => ?_)
  have M : Mm w w [] := Mm.nil w
  refine wp_seq ?_
  refine wp_region_lit ?_
  refine list_do (wn rfl) (fun K hK => ?_)
  refine ow_box F M rfl rfl 103 _ rfl _ (F.e rfl) (timesArr s (.slice A ts.length c) ta tb) rfl (fun a1 g1 w1 F1 M1 hb hg => ?_)
  refine hK _ _ ?_
  clear hK K
  clear hb hg F M
  try clear a
  try clear w
  refine list_val F1 (wn rfl) rfl rfl (.bool false) (ex_assign _ rfl _ rfl) ?_
  clear F1; try clear a1
  intro a2 F2
  refine wpList_nil ?_
  have F3 : Fr 124 a2 [(0, .agg (timesArr s (.slice A ts.length c) ta tb)), (1, .pointer (some ⟨g1, 0, none⟩)), (2, .bool false)] := F2.keep ⟨rfl, rfl, rfl, trivial⟩
  clear F2
  refine then_n ?_
  refine wp_seq ?_
  refine wp_region_lit ?_
  refine list_val F3 (wn rfl) rfl rfl (.pointer (some ⟨g1, 0, none⟩)) (ex_fa _ _ _ rfl _ (F3.e rfl) 0 cu_fa_103_0_0 ⟨g1, 0, none⟩ rfl) ?_
  clear F3; try clear a2
  intro a3 F4
  refine list_val F4 (wn rfl) rfl rfl (.agg (lifeArr s (.slice A ts.length c))) (ex_load _ _ rfl _ (F4.e rfl) _ (lvr (cs := lifeCs s (.slice A ts.length c)) (by rw [life_len]; exact cu_row_94_33) (times_life (M1.at (i := 0) rfl)))) ?_
  clear F4; try clear a3
  intro a4 F5
  refine list_do (wn rfl) (fun K hK => ?_)
  refine ow_call rfl rfl F5 28 #[.agg (lifeArr s (.slice A ts.length c))] (ex_call 28 _ _ rfl rfl cu_ent_28 _ (map1 (F5.e rfl))) (grown_any s ts A c _ (Kd.C_below hr M1.bel) hc) (fun e w2 hR => ?_)
  obtain ⟨A3, c3, init, last, next, he, O_r, hR, hn42, hb⟩ := hR
  obtain ⟨adr, rfl⟩ := ro_some O_r
  have hfew := hR.few
  refine ⟨.tuple #[.agg #[.slice (some adr) (init.length + 1) c3, .int .u64 next], .bool true], he, fun a5 F6 => ?_⟩
  clear he F5
  refine hK _ _ ?_
  clear hK K
  have M2 := M1.below hb
  clear M1
  try clear hb
  try clear a4
  try clear w1
  refine list_val F6 (wn rfl) rfl rfl (.tuple #[.agg #[.slice (some adr) (init.length + 1) c3, .int .u64 next], .bool true]) (ex_move _ rfl _ (F6.e rfl)) ?_
  clear F6; try clear a5
  intro a6 F7
  refine list_val F7 (wn rfl) rfl rfl (.agg #[.slice (some adr) (init.length + 1) c3, .int .u64 next]) (ex_extract _ _ rfl _ (F7.e rfl) _ rfl) ?_
  clear F7; try clear a6
  intro a7 F8
  refine list_val F8 (wn rfl) rfl rfl (.bool true) (ex_extract _ _ rfl _ (F8.e rfl) _ rfl) ?_
  clear F8; try clear a7
  intro a8 F9
  refine list_do (wn rfl) (fun K hK => ?_)
  refine ow_alloc F9 M2 rfl rfl 69 rfl (.agg #[.slice none 0 0, .int .u64 0]) z69 #[.slice none 0 0, .int .u64 0] rfl (fun a9 g3 w3 F10 M3 hb hg => ?_)
  refine hK _ _ ?_
  clear hK K
  have K_O_r := O_r
  replace O_r := O_r.below hb
  have hz_g3 := hb
  have lo_g3 := hg
  clear hb hg F9 M2
  try clear a8
  try clear w2
  refine list_do (wn rfl) (fun K hK => ?_)
  refine ow_put F10 M3 rfl 69 _ _ rfl 0 _ #[.slice none 0 0, .int .u64 0] _ rfl (F10.e rfl) #[.slice (some adr) (init.length + 1) c3, .int .u64 next] (F10.e rfl) (sz_row (m := 2) cu_row_69_2) rfl (by simp [Value.oneCell']) (fun a10 w4 F11 M4 hgr => ?_)
  refine hK _ _ ?_
  clear hK K
  have hzz := S_grown hz_g3 hgr lo_g3
  replace O_r := K_O_r.below hzz
  clear hzz hz_g3 lo_g3 K_O_r
  clear F10 M3
  try clear hgr
  try clear a9
  try clear w3
  replace M4 : Mm w w4 [⟨g3, #[.slice (some adr) (init.length + 1) c3, .int .u64 next], 69⟩, ⟨g1, (timesArr s (.slice A ts.length c) ta tb), 103⟩] := M4
  refine list_val F11 (wn rfl) rfl rfl (.bool true) (ex_assign _ rfl _ (F11.e rfl)) ?_
  clear F11; try clear a10
  intro a11 F12
  refine wpList_nil ?_
  have F13 : Fr 124 a11 [(0, .agg (timesArr s (.slice A ts.length c) ta tb)), (1, .pointer (some ⟨g1, 0, none⟩)), (2, .bool false), (3, .pointer (some ⟨g3, 0, none⟩)), (4, .bool true)] := F12.keep ⟨rfl, rfl, rfl, rfl, rfl, trivial⟩
  clear F12
  refine then_n ?_
  refine wp_seq ?_
  refine wp_seq ?_
  refine wp_region_lit ?_
  refine list_val F13 (wn rfl) rfl rfl (.bool true) (ex_move _ rfl _ (F13.e rfl)) ?_
  clear F13; try clear a11
  intro a12 F14
  refine list_val F14 (wn rfl) rfl rfl (.bool false) (ex_not _ _ rfl _ (F14.e rfl) _ rfl) ?_
  clear F14; try clear a12
  intro a13 F15
  refine wpList_nil ?_
  have F16 : Fr 124 a13 [(0, .agg (timesArr s (.slice A ts.length c) ta tb)), (1, .pointer (some ⟨g1, 0, none⟩)), (2, .bool false), (3, .pointer (some ⟨g3, 0, none⟩)), (4, .bool true), (18, .bool false)] := F15.keep ⟨rfl, rfl, rfl, rfl, rfl, rfl, trivial⟩
  clear F15
  refine then_n ?_
  refine wp_cond_false (F16.e rfl) ?_
  refine wp_skip ?_
  refine then_n ?_
  refine wp_seq ?_
  refine wp_region_lit ?_
  refine list_val F16 (wn rfl) rfl rfl (.pointer (some ⟨g1, 33, none⟩)) (ex_fa _ _ _ rfl _ (F16.e rfl) 33 cu_fa_103_1_33 ⟨g1, 33, none⟩ rfl) ?_
  clear F16; try clear a13
  intro a14 F17
  refine list_val F17 (wn rfl) rfl rfl (.int .i64 ta) (ex_load _ _ rfl _ (F17.e rfl) _ (lv1 cu_one_2 (M4.cell (i := 1) rfl (j := 33) (times_33 _ _ _ _)))) ?_
  clear F17; try clear a14
  intro a15 F18
  refine list_val F18 (wn rfl) rfl rfl (.int .i64 ta) (ex_assign _ rfl _ (F18.e rfl)) ?_
  clear F18; try clear a15
  intro a16 F19
  refine wpList_nil ?_
  have F20 : Fr 124 a16 [(0, .agg (timesArr s (.slice A ts.length c) ta tb)), (1, .pointer (some ⟨g1, 0, none⟩)), (2, .bool false), (3, .pointer (some ⟨g3, 0, none⟩)), (4, .bool true), (5, .int .i64 ta), (18, .bool false)] := F19.keep ⟨rfl, rfl, rfl, rfl, rfl, rfl, rfl, trivial⟩
  clear F19
  refine then_n ?_
  refine wp_seq ?_
  refine wp_only (fun ar wr => ∃ (late : Int), Fr 124 ar [(0, .agg (timesArr s (.slice A ts.length c) ta tb)), (1, .pointer (some ⟨g1, 0, none⟩)), (2, .bool false), (3, .pointer (some ⟨g3, 0, none⟩)), (4, .bool true), (5, .int .i64 late), (18, .bool false)] ∧ Mm w wr [⟨g3, #[.slice (some adr) (init.length + 1) c3, .int .u64 next], 69⟩, ⟨g1, (timesArr s (.slice A ts.length c) ta tb), 103⟩] ∧ RO wr (some adr) c3 ⟨init ++ [last], next⟩ ∧ late = if ta < tb then tb else ta) ?_ ?_
  · refine wp_seq ?_
    by_cases hab : ta < tb
    · refine wp_region_lit ?_
      refine list_val F20 (wn rfl) rfl rfl (.pointer (some ⟨g1, 34, none⟩)) (ex_fa _ _ _ rfl _ (F20.e rfl) 34 cu_fa_103_2_34 ⟨g1, 34, none⟩ rfl) ?_
      clear F20; try clear a16
      intro a17 F21
      refine list_val F21 (wn rfl) rfl rfl (.int .i64 tb) (ex_load _ _ rfl _ (F21.e rfl) _ (lv1 cu_one_2 (M4.cell (i := 1) rfl (j := 34) (times_34 _ _ _ _)))) ?_
      clear F21; try clear a17
      intro a18 F22
      refine list_val F22 (wn rfl) rfl rfl (.int .i64 ta) (ex_move _ rfl _ (F22.e rfl)) ?_
      clear F22; try clear a18
      intro a19 F23
      refine list_val F23 (wn rfl) rfl rfl (.bool true) (ex_bin .gtr _ _ _ _ rfl .i64 _ _ (F23.e rfl) (F23.e rfl) _ (b_gtr (decide_eq_true hab))) ?_
      clear F23; try clear a19
      intro a20 F24
      refine wpList_nil ?_
      have F25 : Fr 124 a20 [(0, .agg (timesArr s (.slice A ts.length c) ta tb)), (1, .pointer (some ⟨g1, 0, none⟩)), (2, .bool false), (3, .pointer (some ⟨g3, 0, none⟩)), (4, .bool true), (5, .int .i64 ta), (18, .bool false), (24, .bool true)] := F24.keep ⟨rfl, rfl, rfl, rfl, rfl, rfl, rfl, rfl, trivial⟩
      clear F24
      refine then_n ?_
      refine wp_cond_true (F25.e rfl) ?_
      refine wp_region_lit ?_
      refine list_val F25 (wn rfl) rfl rfl (.pointer (some ⟨g1, 34, none⟩)) (ex_fa _ _ _ rfl _ (F25.e rfl) 34 cu_fa_103_2_34 ⟨g1, 34, none⟩ rfl) ?_
      clear F25; try clear a20
      intro a21 F26
      refine list_val F26 (wn rfl) rfl rfl (.int .i64 tb) (ex_load _ _ rfl _ (F26.e rfl) _ (lv1 cu_one_2 (M4.cell (i := 1) rfl (j := 34) (times_34 _ _ _ _)))) ?_
      clear F26; try clear a21
      intro a22 F27
      refine list_val F27 (wn rfl) rfl rfl (.int .i64 tb) (ex_assign _ rfl _ (F27.e rfl)) ?_
      clear F27; try clear a22
      intro a23 F28
      refine wpList_nil ?_
      have F29 : Fr 124 a23 [(0, .agg (timesArr s (.slice A ts.length c) ta tb)), (1, .pointer (some ⟨g1, 0, none⟩)), (2, .bool false), (3, .pointer (some ⟨g3, 0, none⟩)), (4, .bool true), (5, .int .i64 tb), (18, .bool false), (24, .bool true)] := F28.keep ⟨rfl, rfl, rfl, rfl, rfl, rfl, rfl, rfl, trivial⟩
      clear F28
      refine only_n ?_
      exact ⟨tb, F29.keep ⟨rfl, rfl, rfl, rfl, rfl, rfl, rfl, trivial⟩, M4.pick' [0, 1] _ ⟨rfl, rfl, trivial⟩ (by decide), O_r, (by rw [if_pos hab])⟩
    · refine wp_region_lit ?_
      refine list_val F20 (wn rfl) rfl rfl (.pointer (some ⟨g1, 34, none⟩)) (ex_fa _ _ _ rfl _ (F20.e rfl) 34 cu_fa_103_2_34 ⟨g1, 34, none⟩ rfl) ?_
      clear F20; try clear a16
      intro a24 F30
      refine list_val F30 (wn rfl) rfl rfl (.int .i64 tb) (ex_load _ _ rfl _ (F30.e rfl) _ (lv1 cu_one_2 (M4.cell (i := 1) rfl (j := 34) (times_34 _ _ _ _)))) ?_
      clear F30; try clear a24
      intro a25 F31
      refine list_val F31 (wn rfl) rfl rfl (.int .i64 ta) (ex_move _ rfl _ (F31.e rfl)) ?_
      clear F31; try clear a25
      intro a26 F32
      refine list_val F32 (wn rfl) rfl rfl (.bool false) (ex_bin .gtr _ _ _ _ rfl .i64 _ _ (F32.e rfl) (F32.e rfl) _ (b_gtr (decide_eq_false hab))) ?_
      clear F32; try clear a26
      intro a27 F33
      refine wpList_nil ?_
      have F34 : Fr 124 a27 [(0, .agg (timesArr s (.slice A ts.length c) ta tb)), (1, .pointer (some ⟨g1, 0, none⟩)), (2, .bool false), (3, .pointer (some ⟨g3, 0, none⟩)), (4, .bool true), (5, .int .i64 ta), (18, .bool false), (24, .bool false)] := F33.keep ⟨rfl, rfl, rfl, rfl, rfl, rfl, rfl, rfl, trivial⟩
      clear F33
      refine then_n ?_
      refine wp_cond_false (F34.e rfl) ?_
      refine wp_skip ?_
      refine only_n ?_
      exact ⟨ta, F34.keep ⟨rfl, rfl, rfl, rfl, rfl, rfl, rfl, trivial⟩, M4.pick' [0, 1] _ ⟨rfl, rfl, trivial⟩ (by decide), O_r, (by rw [if_neg hab])⟩
  clear F20 M4 O_r
  intro a28 w5 hR; obtain ⟨late, F35, M5, O_r, hlate⟩ := hR
  try clear a16
  try clear w4
  have exy : (⟨flt tb (flt ta init) ++ [last], next⟩ : Rg) = ⟨flt ta (flt tb init) ++ [last], next⟩ := by
    rw [flt_flt, flt_flt, show (if tb < ta then ta else tb) = (if ta < tb then tb else ta) by split <;> split <;> omega]
  have exw : (⟨flt tb (flt ta init) ++ [last], next⟩ : Rg) = ⟨flt late init ++ [last], next⟩ := by
    rw [flt_flt, hlate, show (if tb < ta then ta else tb) = (if ta < tb then tb else ta) by split <;> split <;> omega]
  have exz : (⟨flt 0 init ++ [last], next⟩ : Rg) = ⟨init ++ [last], next⟩ := by rw [flt_none hR]
  refine then_n ?_
  refine wp_seq ?_
  refine wp_only (fun ar wr => ∃ (A_28 : Option Addr), ∃ (c_28 : Nat), ∃ (A_31 : Option Addr), ∃ (c_31 : Nat), ∃ (A_34 : Option Addr), ∃ (c_34 : Nat), ∃ (g6 : Nat), Fr 124 ar [(0, .agg (timesArr s (.slice A ts.length c) ta tb)), (1, .pointer (some ⟨g1, 0, none⟩)), (2, .bool false), (3, .pointer (some ⟨g3, 0, none⟩)), (4, .bool true), (5, .int .i64 late), (6, .pointer (some ⟨g6, 0, none⟩)), (18, .bool false)] ∧ Mm w wr [⟨g6, #[.slice A_34 ((flt tb (flt ta init)).length + 1) c_34, .int .u64 next], 69⟩, ⟨g3, #[.slice (some adr) (init.length + 1) c3, .int .u64 next], 69⟩, ⟨g1, (timesArr s (.slice A ts.length c) ta tb), 103⟩] ∧ RO wr (some adr) c3 ⟨init ++ [last], next⟩ ∧ RO wr A_34 c_34 ⟨(flt tb (flt ta init)) ++ [last], next⟩) ?_ ?_
  · refine region_any cu_follows_mixedOrders M5 (fun w6 M6 hb => ?_)
    replace O_r := O_r.below hb
    clear M5 hb
    try clear w5
    have hS : Below w6.heap.size w6 w6 := Below.refl _ _
    have MD := M6
    have D_O_r := O_r
    refine any_take F35 0 rfl (by kernel_rfl) (by kernel_rfl) (by kernel_rfl) (wn rfl) rfl rfl (.agg #[.slice (some adr) (init.length + 1) c3, .int .u64 next]) (fun w' hS' => ex_load _ _ rfl _ (F35.e rfl) _ (lvr (cs := [.slice (some adr) (init.length + 1) c3, .int .u64 next]) cu_row_69_2 ((MD.below hS').at (i := 0) rfl))) hS ?_
    clear F35; try clear a28
    intro a29 F36
    refine any_take F36 2 rfl (by kernel_rfl) (by kernel_rfl) (by kernel_rfl) (wn rfl) rfl rfl (.pointer (some ⟨g1, 33, none⟩)) (fun w' hS' => ex_fa _ _ _ rfl _ (F36.e rfl) 33 cu_fa_103_1_33 ⟨g1, 33, none⟩ rfl) hS ?_
    clear F36; try clear a29
    intro a30 F37
    refine any_take F37 3 rfl (by kernel_rfl) (by kernel_rfl) (by kernel_rfl) (wn rfl) rfl rfl (.int .i64 ta) (fun w' hS' => ex_load _ _ rfl _ (F37.e rfl) _ (lv1 cu_one_2 ((MD.below hS').cell (i := 1) rfl (j := 33) (times_33 _ _ _ _)))) hS ?_
    clear F37; try clear a30
    intro a31 F38
    refine any_take F38 5 rfl (by kernel_rfl) (by kernel_rfl) (by kernel_rfl) (wn rfl) rfl rfl (.pointer (some ⟨g1, 34, none⟩)) (fun w' hS' => ex_fa _ _ _ rfl _ (F38.e rfl) 34 cu_fa_103_2_34 ⟨g1, 34, none⟩ rfl) hS ?_
    clear F38; try clear a31
    intro a32 F39
    refine any_take F39 6 rfl (by kernel_rfl) (by kernel_rfl) (by kernel_rfl) (wn rfl) rfl rfl (.int .i64 tb) (fun w' hS' => ex_load _ _ rfl _ (F39.e rfl) _ (lv1 cu_one_2 ((MD.below hS').cell (i := 1) rfl (j := 34) (times_34 _ _ _ _)))) hS ?_
    clear F39; try clear a32
    intro a33 F40
    refine any_ready [1, 8] (by kernel_rfl) (by simp) ?_
    refine ready_do rfl (wn rfl) (fun K hK => ?_) ?_
    · refine ow_call rfl rfl F40 18 #[.agg #[.slice (some adr) (init.length + 1) c3, .int .u64 next]] (ex_call 18 _ _ rfl rfl cu_ent_18 _ (map1 (F40.e rfl))) (copy_r hR _ _ _ O_r) (fun e w7 hR => ?_)
      obtain ⟨A_28, c_28, he, O_28, hb⟩ := hR
      refine ⟨.agg #[.slice A_28 (init.length + 1) c_28, .int .u64 next], he, fun a34 F41 => ?_⟩
      clear he F40
      refine hK _ _ (S_below hS hb) ?_
      replace hS := S_below hS hb
      clear hK K
      replace O_r := O_r.below hb
      have M7 := M6.below hb
      clear M6
      try clear hb
      try clear a33
      try clear w6
      refine any_ready [4, 8] (by kernel_rfl) (by simp) ?_
      refine ready_do rfl (wn rfl) (fun K hK => ?_) ?_
      · refine ow_call rfl rfl F41 14 #[.agg #[.slice A_28 (init.length + 1) c_28, .int .u64 next], .int .i64 ta] (ex_call 14 _ _ rfl rfl cu_ent_14 _ (map2 (F41.e rfl) (F41.e rfl))) (prune_x hR _ _ _ _ O_28) (fun e w8 hR => ?_)
        obtain ⟨A_31, c_31, he, O_31, hb⟩ := hR
        refine ⟨.agg #[.slice A_31 ((flt ta init).length + 1) c_31, .int .u64 next], he, fun a35 F42 => ?_⟩
        clear he F41
        refine hK _ _ (S_below hS hb) ?_
        replace hS := S_below hS hb
        clear hK K
        replace O_r := O_r.below hb
        replace O_28 := O_28.below hb
        have M8 := M7.below hb
        clear M7
        try clear hb
        try clear a34
        try clear w7
        clear O_28
        refine any_ready [7, 8] (by kernel_rfl) (by simp) ?_
        refine ready_do rfl (wn rfl) (fun K hK => ?_) ?_
        · refine ow_call rfl rfl F42 14 #[.agg #[.slice A_31 ((flt ta init).length + 1) c_31, .int .u64 next], .int .i64 tb] (ex_call 14 _ _ rfl rfl cu_ent_14 _ (map2 (F42.e rfl) (F42.e rfl))) (prune_x (ring_flt hR ta) _ _ _ _ O_31) (fun e w9 hR => ?_)
          obtain ⟨A_34, c_34, he, O_34, hb⟩ := hR
          refine ⟨.agg #[.slice A_34 ((flt tb (flt ta init)).length + 1) c_34, .int .u64 next], he, fun a36 F43 => ?_⟩
          clear he F42
          refine hK _ _ (S_below hS hb) ?_
          replace hS := S_below hS hb
          clear hK K
          replace O_r := O_r.below hb
          replace O_31 := O_31.below hb
          have M9 := M8.below hb
          clear M8
          try clear hb
          try clear a35
          try clear w8
          clear O_31
          refine any_ready [8] (by kernel_rfl) (by simp) ?_
          refine ready_do rfl (wn rfl) (fun K hK => ?_) ?_
          · refine ow_alloc F43 M9 rfl rfl 69 rfl (.agg #[.slice none 0 0, .int .u64 0]) z69 #[.slice none 0 0, .int .u64 0] rfl (fun a37 g6 w10 F44 M10 hb hg => ?_)
            have los_g6 := Nat.le_trans hS.size hg
            refine hK _ _ (S_below hS hb) ?_
            replace hS := S_below hS hb
            clear hK K
            have K_O_r := O_r
            have K_O_34 := O_34
            replace O_r := O_r.below hb
            replace O_34 := O_34.below hb
            have hz_g6 := hb
            have lo_g6 := hg
            clear hb hg F43 M9
            try clear a36
            try clear w9
            refine any_ready [9] (by kernel_rfl) (by simp) ?_
            refine ready_do rfl (wn rfl) (fun K hK => ?_) ?_
            · refine ow_put F44 M10 rfl 69 _ _ rfl 0 _ #[.slice none 0 0, .int .u64 0] _ rfl (F44.e rfl) #[.slice A_34 ((flt tb (flt ta init)).length + 1) c_34, .int .u64 next] (F44.e rfl) (sz_row (m := 2) cu_row_69_2) rfl (by simp [Value.oneCell']) (fun a38 w11 F45 M11 hgr => ?_)
              refine hK _ _ (S_grown hS hgr los_g6) ?_
              replace hS := S_grown hS hgr los_g6
              clear hK K
              have hzz := S_grown hz_g6 hgr lo_g6
              replace O_r := K_O_r.below hzz
              replace O_34 := K_O_34.below hzz
              clear hzz hz_g6 lo_g6 K_O_r K_O_34
              clear F44 M10
              try clear hgr
              try clear a37
              try clear w10
              replace M11 : Mm w w11 [⟨g6, #[.slice A_34 ((flt tb (flt ta init)).length + 1) c_34, .int .u64 next], 69⟩, ⟨g3, #[.slice (some adr) (init.length + 1) c3, .int .u64 next], 69⟩, ⟨g1, (timesArr s (.slice A ts.length c) ta tb), 103⟩] := M11
              refine any_done (by kernel_rfl) ?_
              exact ⟨A_28, c_28, A_31, c_31, A_34, c_34, g6, F45.keep ⟨rfl, rfl, rfl, rfl, rfl, rfl, rfl, rfl, trivial⟩, M11.pick' [0, 1, 2] [⟨g6, #[.slice A_34 ((flt tb (flt ta init)).length + 1) c_34, .int .u64 next], 69⟩, ⟨g3, #[.slice (some adr) (init.length + 1) c3, .int .u64 next], 69⟩, ⟨g1, (timesArr s (.slice A ts.length c) ta tb), 103⟩] ⟨rfl, rfl, rfl, trivial⟩ (by decide), O_r, O_34⟩
            exact AllReadyH.nil
          exact AllReadyH.nil
        refine ready_do rfl (wn rfl) (fun K hK => ?_) ?_
        · refine ow_alloc F42 M8 rfl rfl 69 rfl (.agg #[.slice none 0 0, .int .u64 0]) z69 #[.slice none 0 0, .int .u64 0] rfl (fun a39 g6 w12 F46 M12 hb hg => ?_)
          have los_g6 := Nat.le_trans hS.size hg
          refine hK _ _ (S_below hS hb) ?_
          replace hS := S_below hS hb
          clear hK K
          have K_O_r := O_r
          have K_O_31 := O_31
          replace O_r := O_r.below hb
          replace O_31 := O_31.below hb
          have hz_g6 := hb
          have lo_g6 := hg
          clear hb hg F42 M8
          try clear a35
          try clear w8
          refine any_ready [7] (by kernel_rfl) (by simp) ?_
          refine ready_do rfl (wn rfl) (fun K hK => ?_) ?_
          · refine ow_call rfl rfl F46 14 #[.agg #[.slice A_31 ((flt ta init).length + 1) c_31, .int .u64 next], .int .i64 tb] (ex_call 14 _ _ rfl rfl cu_ent_14 _ (map2 (F46.e rfl) (F46.e rfl))) (prune_x (ring_flt hR ta) _ _ _ _ O_31) (fun e w13 hR => ?_)
            obtain ⟨A_34, c_34, he, O_34, hb⟩ := hR
            refine ⟨.agg #[.slice A_34 ((flt tb (flt ta init)).length + 1) c_34, .int .u64 next], he, fun a40 F47 => ?_⟩
            clear he F46
            refine hK _ _ (S_below hS hb) ?_
            replace hS := S_below hS hb
            clear hK K
            replace O_r := O_r.below hb
            replace O_31 := O_31.below hb
            replace hz_g6 := S_below hz_g6 hb
            have M13 := M12.below hb
            clear M12
            try clear hb
            try clear a39
            try clear w12
            clear O_31
            refine any_ready [9] (by kernel_rfl) (by simp) ?_
            refine ready_do rfl (wn rfl) (fun K hK => ?_) ?_
            · refine ow_put F47 M13 rfl 69 _ _ rfl 0 _ #[.slice none 0 0, .int .u64 0] _ rfl (F47.e rfl) #[.slice A_34 ((flt tb (flt ta init)).length + 1) c_34, .int .u64 next] (F47.e rfl) (sz_row (m := 2) cu_row_69_2) rfl (by simp [Value.oneCell']) (fun a41 w14 F48 M14 hgr => ?_)
              refine hK _ _ (S_grown hS hgr los_g6) ?_
              replace hS := S_grown hS hgr los_g6
              clear hK K
              have hzz := S_grown hz_g6 hgr lo_g6
              replace O_r := K_O_r.below hzz
              replace O_34 := O_34.grown (M13.blk 0 _ rfl) (by show 107 ≠ 69; decide) hgr
              clear hzz hz_g6 lo_g6 K_O_r K_O_31
              clear F47 M13
              try clear hgr
              try clear a40
              try clear w13
              replace M14 : Mm w w14 [⟨g6, #[.slice A_34 ((flt tb (flt ta init)).length + 1) c_34, .int .u64 next], 69⟩, ⟨g3, #[.slice (some adr) (init.length + 1) c3, .int .u64 next], 69⟩, ⟨g1, (timesArr s (.slice A ts.length c) ta tb), 103⟩] := M14
              refine any_done (by kernel_rfl) ?_
              exact ⟨A_28, c_28, A_31, c_31, A_34, c_34, g6, F48.keep ⟨rfl, rfl, rfl, rfl, rfl, rfl, rfl, rfl, trivial⟩, M14.pick' [0, 1, 2] [⟨g6, #[.slice A_34 ((flt tb (flt ta init)).length + 1) c_34, .int .u64 next], 69⟩, ⟨g3, #[.slice (some adr) (init.length + 1) c3, .int .u64 next], 69⟩, ⟨g1, (timesArr s (.slice A ts.length c) ta tb), 103⟩] ⟨rfl, rfl, rfl, trivial⟩ (by decide), O_r, O_34⟩
            exact AllReadyH.nil
          exact AllReadyH.nil
        exact AllReadyH.nil
      refine ready_do rfl (wn rfl) (fun K hK => ?_) ?_
      · refine ow_alloc F41 M7 rfl rfl 69 rfl (.agg #[.slice none 0 0, .int .u64 0]) z69 #[.slice none 0 0, .int .u64 0] rfl (fun a42 g6 w15 F49 M15 hb hg => ?_)
        have los_g6 := Nat.le_trans hS.size hg
        refine hK _ _ (S_below hS hb) ?_
        replace hS := S_below hS hb
        clear hK K
        have K_O_r := O_r
        have K_O_28 := O_28
        replace O_r := O_r.below hb
        replace O_28 := O_28.below hb
        have hz_g6 := hb
        have lo_g6 := hg
        clear hb hg F41 M7
        try clear a34
        try clear w7
        refine any_ready [4] (by kernel_rfl) (by simp) ?_
        refine ready_do rfl (wn rfl) (fun K hK => ?_) ?_
        · refine ow_call rfl rfl F49 14 #[.agg #[.slice A_28 (init.length + 1) c_28, .int .u64 next], .int .i64 ta] (ex_call 14 _ _ rfl rfl cu_ent_14 _ (map2 (F49.e rfl) (F49.e rfl))) (prune_x hR _ _ _ _ O_28) (fun e w16 hR => ?_)
          obtain ⟨A_31, c_31, he, O_31, hb⟩ := hR
          refine ⟨.agg #[.slice A_31 ((flt ta init).length + 1) c_31, .int .u64 next], he, fun a43 F50 => ?_⟩
          clear he F49
          refine hK _ _ (S_below hS hb) ?_
          replace hS := S_below hS hb
          clear hK K
          replace O_r := O_r.below hb
          replace O_28 := O_28.below hb
          replace hz_g6 := S_below hz_g6 hb
          have M16 := M15.below hb
          clear M15
          try clear hb
          try clear a42
          try clear w15
          clear O_28
          refine any_ready [7] (by kernel_rfl) (by simp) ?_
          refine ready_do rfl (wn rfl) (fun K hK => ?_) ?_
          · refine ow_call rfl rfl F50 14 #[.agg #[.slice A_31 ((flt ta init).length + 1) c_31, .int .u64 next], .int .i64 tb] (ex_call 14 _ _ rfl rfl cu_ent_14 _ (map2 (F50.e rfl) (F50.e rfl))) (prune_x (ring_flt hR ta) _ _ _ _ O_31) (fun e w17 hR => ?_)
            obtain ⟨A_34, c_34, he, O_34, hb⟩ := hR
            refine ⟨.agg #[.slice A_34 ((flt tb (flt ta init)).length + 1) c_34, .int .u64 next], he, fun a44 F51 => ?_⟩
            clear he F50
            refine hK _ _ (S_below hS hb) ?_
            replace hS := S_below hS hb
            clear hK K
            replace O_r := O_r.below hb
            replace O_31 := O_31.below hb
            replace hz_g6 := S_below hz_g6 hb
            have M17 := M16.below hb
            clear M16
            try clear hb
            try clear a43
            try clear w16
            clear O_31
            refine any_ready [9] (by kernel_rfl) (by simp) ?_
            refine ready_do rfl (wn rfl) (fun K hK => ?_) ?_
            · refine ow_put F51 M17 rfl 69 _ _ rfl 0 _ #[.slice none 0 0, .int .u64 0] _ rfl (F51.e rfl) #[.slice A_34 ((flt tb (flt ta init)).length + 1) c_34, .int .u64 next] (F51.e rfl) (sz_row (m := 2) cu_row_69_2) rfl (by simp [Value.oneCell']) (fun a45 w18 F52 M18 hgr => ?_)
              refine hK _ _ (S_grown hS hgr los_g6) ?_
              replace hS := S_grown hS hgr los_g6
              clear hK K
              have hzz := S_grown hz_g6 hgr lo_g6
              replace O_r := K_O_r.below hzz
              replace O_34 := O_34.grown (M17.blk 0 _ rfl) (by show 107 ≠ 69; decide) hgr
              clear hzz hz_g6 lo_g6 K_O_r K_O_28
              clear F51 M17
              try clear hgr
              try clear a44
              try clear w17
              replace M18 : Mm w w18 [⟨g6, #[.slice A_34 ((flt tb (flt ta init)).length + 1) c_34, .int .u64 next], 69⟩, ⟨g3, #[.slice (some adr) (init.length + 1) c3, .int .u64 next], 69⟩, ⟨g1, (timesArr s (.slice A ts.length c) ta tb), 103⟩] := M18
              refine any_done (by kernel_rfl) ?_
              exact ⟨A_28, c_28, A_31, c_31, A_34, c_34, g6, F52.keep ⟨rfl, rfl, rfl, rfl, rfl, rfl, rfl, rfl, trivial⟩, M18.pick' [0, 1, 2] [⟨g6, #[.slice A_34 ((flt tb (flt ta init)).length + 1) c_34, .int .u64 next], 69⟩, ⟨g3, #[.slice (some adr) (init.length + 1) c3, .int .u64 next], 69⟩, ⟨g1, (timesArr s (.slice A ts.length c) ta tb), 103⟩] ⟨rfl, rfl, rfl, trivial⟩ (by decide), O_r, O_34⟩
            exact AllReadyH.nil
          exact AllReadyH.nil
        exact AllReadyH.nil
      exact AllReadyH.nil
    refine ready_do rfl (wn rfl) (fun K hK => ?_) ?_
    · refine ow_alloc F40 M6 rfl rfl 69 rfl (.agg #[.slice none 0 0, .int .u64 0]) z69 #[.slice none 0 0, .int .u64 0] rfl (fun a46 g6 w19 F53 M19 hb hg => ?_)
      have los_g6 := Nat.le_trans hS.size hg
      refine hK _ _ (S_below hS hb) ?_
      replace hS := S_below hS hb
      clear hK K
      have K_O_r := O_r
      replace O_r := O_r.below hb
      have hz_g6 := hb
      have lo_g6 := hg
      clear hb hg F40 M6
      try clear a33
      try clear w6
      refine any_ready [1] (by kernel_rfl) (by simp) ?_
      refine ready_do rfl (wn rfl) (fun K hK => ?_) ?_
      · refine ow_call rfl rfl F53 18 #[.agg #[.slice (some adr) (init.length + 1) c3, .int .u64 next]] (ex_call 18 _ _ rfl rfl cu_ent_18 _ (map1 (F53.e rfl))) (copy_r hR _ _ _ O_r) (fun e w20 hR => ?_)
        obtain ⟨A_28, c_28, he, O_28, hb⟩ := hR
        refine ⟨.agg #[.slice A_28 (init.length + 1) c_28, .int .u64 next], he, fun a47 F54 => ?_⟩
        clear he F53
        refine hK _ _ (S_below hS hb) ?_
        replace hS := S_below hS hb
        clear hK K
        replace O_r := O_r.below hb
        replace hz_g6 := S_below hz_g6 hb
        have M20 := M19.below hb
        clear M19
        try clear hb
        try clear a46
        try clear w19
        refine any_ready [4] (by kernel_rfl) (by simp) ?_
        refine ready_do rfl (wn rfl) (fun K hK => ?_) ?_
        · refine ow_call rfl rfl F54 14 #[.agg #[.slice A_28 (init.length + 1) c_28, .int .u64 next], .int .i64 ta] (ex_call 14 _ _ rfl rfl cu_ent_14 _ (map2 (F54.e rfl) (F54.e rfl))) (prune_x hR _ _ _ _ O_28) (fun e w21 hR => ?_)
          obtain ⟨A_31, c_31, he, O_31, hb⟩ := hR
          refine ⟨.agg #[.slice A_31 ((flt ta init).length + 1) c_31, .int .u64 next], he, fun a48 F55 => ?_⟩
          clear he F54
          refine hK _ _ (S_below hS hb) ?_
          replace hS := S_below hS hb
          clear hK K
          replace O_r := O_r.below hb
          replace O_28 := O_28.below hb
          replace hz_g6 := S_below hz_g6 hb
          have M21 := M20.below hb
          clear M20
          try clear hb
          try clear a47
          try clear w20
          clear O_28
          refine any_ready [7] (by kernel_rfl) (by simp) ?_
          refine ready_do rfl (wn rfl) (fun K hK => ?_) ?_
          · refine ow_call rfl rfl F55 14 #[.agg #[.slice A_31 ((flt ta init).length + 1) c_31, .int .u64 next], .int .i64 tb] (ex_call 14 _ _ rfl rfl cu_ent_14 _ (map2 (F55.e rfl) (F55.e rfl))) (prune_x (ring_flt hR ta) _ _ _ _ O_31) (fun e w22 hR => ?_)
            obtain ⟨A_34, c_34, he, O_34, hb⟩ := hR
            refine ⟨.agg #[.slice A_34 ((flt tb (flt ta init)).length + 1) c_34, .int .u64 next], he, fun a49 F56 => ?_⟩
            clear he F55
            refine hK _ _ (S_below hS hb) ?_
            replace hS := S_below hS hb
            clear hK K
            replace O_r := O_r.below hb
            replace O_31 := O_31.below hb
            replace hz_g6 := S_below hz_g6 hb
            have M22 := M21.below hb
            clear M21
            try clear hb
            try clear a48
            try clear w21
            clear O_31
            refine any_ready [9] (by kernel_rfl) (by simp) ?_
            refine ready_do rfl (wn rfl) (fun K hK => ?_) ?_
            · refine ow_put F56 M22 rfl 69 _ _ rfl 0 _ #[.slice none 0 0, .int .u64 0] _ rfl (F56.e rfl) #[.slice A_34 ((flt tb (flt ta init)).length + 1) c_34, .int .u64 next] (F56.e rfl) (sz_row (m := 2) cu_row_69_2) rfl (by simp [Value.oneCell']) (fun a50 w23 F57 M23 hgr => ?_)
              refine hK _ _ (S_grown hS hgr los_g6) ?_
              replace hS := S_grown hS hgr los_g6
              clear hK K
              have hzz := S_grown hz_g6 hgr lo_g6
              replace O_r := K_O_r.below hzz
              replace O_34 := O_34.grown (M22.blk 0 _ rfl) (by show 107 ≠ 69; decide) hgr
              clear hzz hz_g6 lo_g6 K_O_r
              clear F56 M22
              try clear hgr
              try clear a49
              try clear w22
              replace M23 : Mm w w23 [⟨g6, #[.slice A_34 ((flt tb (flt ta init)).length + 1) c_34, .int .u64 next], 69⟩, ⟨g3, #[.slice (some adr) (init.length + 1) c3, .int .u64 next], 69⟩, ⟨g1, (timesArr s (.slice A ts.length c) ta tb), 103⟩] := M23
              refine any_done (by kernel_rfl) ?_
              exact ⟨A_28, c_28, A_31, c_31, A_34, c_34, g6, F57.keep ⟨rfl, rfl, rfl, rfl, rfl, rfl, rfl, rfl, trivial⟩, M23.pick' [0, 1, 2] [⟨g6, #[.slice A_34 ((flt tb (flt ta init)).length + 1) c_34, .int .u64 next], 69⟩, ⟨g3, #[.slice (some adr) (init.length + 1) c3, .int .u64 next], 69⟩, ⟨g1, (timesArr s (.slice A ts.length c) ta tb), 103⟩] ⟨rfl, rfl, rfl, trivial⟩ (by decide), O_r, O_34⟩
            exact AllReadyH.nil
          exact AllReadyH.nil
        exact AllReadyH.nil
      exact AllReadyH.nil
    exact AllReadyH.nil
  clear F35 M5 O_r
  intro a51 w24 hR; obtain ⟨A_28, c_28, A_31, c_31, A_34, c_34, g6, F58, M24, O_r, O_34⟩ := hR
  try clear a28
  try clear w5
  refine then_n ?_
  refine wp_seq ?_
  refine wp_only (fun ar wr => ∃ (A_36 : Option Addr), ∃ (c_36 : Nat), ∃ (A_39 : Option Addr), ∃ (c_39 : Nat), ∃ (A_42 : Option Addr), ∃ (c_42 : Nat), ∃ (g7 : Nat), Fr 124 ar [(0, .agg (timesArr s (.slice A ts.length c) ta tb)), (1, .pointer (some ⟨g1, 0, none⟩)), (2, .bool false), (3, .pointer (some ⟨g3, 0, none⟩)), (4, .bool true), (5, .int .i64 late), (6, .pointer (some ⟨g6, 0, none⟩)), (7, .pointer (some ⟨g7, 0, none⟩)), (18, .bool false)] ∧ Mm w wr [⟨g7, #[.slice A_42 ((flt ta (flt tb init)).length + 1) c_42, .int .u64 next], 69⟩, ⟨g6, #[.slice A_34 ((flt tb (flt ta init)).length + 1) c_34, .int .u64 next], 69⟩, ⟨g3, #[.slice (some adr) (init.length + 1) c3, .int .u64 next], 69⟩, ⟨g1, (timesArr s (.slice A ts.length c) ta tb), 103⟩] ∧ RO wr (some adr) c3 ⟨init ++ [last], next⟩ ∧ RO wr A_34 c_34 ⟨(flt tb (flt ta init)) ++ [last], next⟩ ∧ RO wr A_42 c_42 ⟨(flt ta (flt tb init)) ++ [last], next⟩) ?_ ?_
  · refine region_any cu_follows_mixedOrders M24 (fun w25 M25 hb => ?_)
    replace O_r := O_r.below hb
    replace O_34 := O_34.below hb
    clear M24 hb
    try clear w24
    have hS : Below w25.heap.size w25 w25 := Below.refl _ _
    have MD := M25
    have D_O_r := O_r
    have D_O_34 := O_34
    refine any_take F58 0 rfl (by kernel_rfl) (by kernel_rfl) (by kernel_rfl) (wn rfl) rfl rfl (.agg #[.slice (some adr) (init.length + 1) c3, .int .u64 next]) (fun w' hS' => ex_load _ _ rfl _ (F58.e rfl) _ (lvr (cs := [.slice (some adr) (init.length + 1) c3, .int .u64 next]) cu_row_69_2 ((MD.below hS').at (i := 1) rfl))) hS ?_
    clear F58; try clear a51
    intro a52 F59
    refine any_take F59 2 rfl (by kernel_rfl) (by kernel_rfl) (by kernel_rfl) (wn rfl) rfl rfl (.pointer (some ⟨g1, 34, none⟩)) (fun w' hS' => ex_fa _ _ _ rfl _ (F59.e rfl) 34 cu_fa_103_2_34 ⟨g1, 34, none⟩ rfl) hS ?_
    clear F59; try clear a52
    intro a53 F60
    refine any_take F60 3 rfl (by kernel_rfl) (by kernel_rfl) (by kernel_rfl) (wn rfl) rfl rfl (.int .i64 tb) (fun w' hS' => ex_load _ _ rfl _ (F60.e rfl) _ (lv1 cu_one_2 ((MD.below hS').cell (i := 2) rfl (j := 34) (times_34 _ _ _ _)))) hS ?_
    clear F60; try clear a53
    intro a54 F61
    refine any_take F61 5 rfl (by kernel_rfl) (by kernel_rfl) (by kernel_rfl) (wn rfl) rfl rfl (.pointer (some ⟨g1, 33, none⟩)) (fun w' hS' => ex_fa _ _ _ rfl _ (F61.e rfl) 33 cu_fa_103_1_33 ⟨g1, 33, none⟩ rfl) hS ?_
    clear F61; try clear a54
    intro a55 F62
    refine any_take F62 6 rfl (by kernel_rfl) (by kernel_rfl) (by kernel_rfl) (wn rfl) rfl rfl (.int .i64 ta) (fun w' hS' => ex_load _ _ rfl _ (F62.e rfl) _ (lv1 cu_one_2 ((MD.below hS').cell (i := 2) rfl (j := 33) (times_33 _ _ _ _)))) hS ?_
    clear F62; try clear a55
    intro a56 F63
    refine any_ready [1, 8] (by kernel_rfl) (by simp) ?_
    refine ready_do rfl (wn rfl) (fun K hK => ?_) ?_
    · refine ow_call rfl rfl F63 18 #[.agg #[.slice (some adr) (init.length + 1) c3, .int .u64 next]] (ex_call 18 _ _ rfl rfl cu_ent_18 _ (map1 (F63.e rfl))) (copy_r hR _ _ _ O_r) (fun e w26 hR => ?_)
      obtain ⟨A_36, c_36, he, O_36, hb⟩ := hR
      refine ⟨.agg #[.slice A_36 (init.length + 1) c_36, .int .u64 next], he, fun a57 F64 => ?_⟩
      clear he F63
      refine hK _ _ (S_below hS hb) ?_
      replace hS := S_below hS hb
      clear hK K
      replace O_r := O_r.below hb
      replace O_34 := O_34.below hb
      have M26 := M25.below hb
      clear M25
      try clear hb
      try clear a56
      try clear w25
      refine any_ready [4, 8] (by kernel_rfl) (by simp) ?_
      refine ready_do rfl (wn rfl) (fun K hK => ?_) ?_
      · refine ow_call rfl rfl F64 14 #[.agg #[.slice A_36 (init.length + 1) c_36, .int .u64 next], .int .i64 tb] (ex_call 14 _ _ rfl rfl cu_ent_14 _ (map2 (F64.e rfl) (F64.e rfl))) (prune_x hR _ _ _ _ O_36) (fun e w27 hR => ?_)
        obtain ⟨A_39, c_39, he, O_39, hb⟩ := hR
        refine ⟨.agg #[.slice A_39 ((flt tb init).length + 1) c_39, .int .u64 next], he, fun a58 F65 => ?_⟩
        clear he F64
        refine hK _ _ (S_below hS hb) ?_
        replace hS := S_below hS hb
        clear hK K
        replace O_r := O_r.below hb
        replace O_34 := O_34.below hb
        replace O_36 := O_36.below hb
        have M27 := M26.below hb
        clear M26
        try clear hb
        try clear a57
        try clear w26
        clear O_36
        refine any_ready [7, 8] (by kernel_rfl) (by simp) ?_
        refine ready_do rfl (wn rfl) (fun K hK => ?_) ?_
        · refine ow_call rfl rfl F65 14 #[.agg #[.slice A_39 ((flt tb init).length + 1) c_39, .int .u64 next], .int .i64 ta] (ex_call 14 _ _ rfl rfl cu_ent_14 _ (map2 (F65.e rfl) (F65.e rfl))) (prune_x (ring_flt hR tb) _ _ _ _ O_39) (fun e w28 hR => ?_)
          obtain ⟨A_42, c_42, he, O_42, hb⟩ := hR
          refine ⟨.agg #[.slice A_42 ((flt ta (flt tb init)).length + 1) c_42, .int .u64 next], he, fun a59 F66 => ?_⟩
          clear he F65
          refine hK _ _ (S_below hS hb) ?_
          replace hS := S_below hS hb
          clear hK K
          replace O_r := O_r.below hb
          replace O_34 := O_34.below hb
          replace O_39 := O_39.below hb
          have M28 := M27.below hb
          clear M27
          try clear hb
          try clear a58
          try clear w27
          clear O_39
          refine any_ready [8] (by kernel_rfl) (by simp) ?_
          refine ready_do rfl (wn rfl) (fun K hK => ?_) ?_
          · refine ow_alloc F66 M28 rfl rfl 69 rfl (.agg #[.slice none 0 0, .int .u64 0]) z69 #[.slice none 0 0, .int .u64 0] rfl (fun a60 g7 w29 F67 M29 hb hg => ?_)
            have los_g7 := Nat.le_trans hS.size hg
            refine hK _ _ (S_below hS hb) ?_
            replace hS := S_below hS hb
            clear hK K
            have K_O_r := O_r
            have K_O_34 := O_34
            have K_O_42 := O_42
            replace O_r := O_r.below hb
            replace O_34 := O_34.below hb
            replace O_42 := O_42.below hb
            have hz_g7 := hb
            have lo_g7 := hg
            clear hb hg F66 M28
            try clear a59
            try clear w28
            refine any_ready [9] (by kernel_rfl) (by simp) ?_
            refine ready_do rfl (wn rfl) (fun K hK => ?_) ?_
            · refine ow_put F67 M29 rfl 69 _ _ rfl 0 _ #[.slice none 0 0, .int .u64 0] _ rfl (F67.e rfl) #[.slice A_42 ((flt ta (flt tb init)).length + 1) c_42, .int .u64 next] (F67.e rfl) (sz_row (m := 2) cu_row_69_2) rfl (by simp [Value.oneCell']) (fun a61 w30 F68 M30 hgr => ?_)
              refine hK _ _ (S_grown hS hgr los_g7) ?_
              replace hS := S_grown hS hgr los_g7
              clear hK K
              have hzz := S_grown hz_g7 hgr lo_g7
              replace O_r := K_O_r.below hzz
              replace O_34 := K_O_34.below hzz
              replace O_42 := K_O_42.below hzz
              clear hzz hz_g7 lo_g7 K_O_r K_O_34 K_O_42
              clear F67 M29
              try clear hgr
              try clear a60
              try clear w29
              replace M30 : Mm w w30 [⟨g7, #[.slice A_42 ((flt ta (flt tb init)).length + 1) c_42, .int .u64 next], 69⟩, ⟨g6, #[.slice A_34 ((flt tb (flt ta init)).length + 1) c_34, .int .u64 next], 69⟩, ⟨g3, #[.slice (some adr) (init.length + 1) c3, .int .u64 next], 69⟩, ⟨g1, (timesArr s (.slice A ts.length c) ta tb), 103⟩] := M30
              refine any_done (by kernel_rfl) ?_
              exact ⟨A_36, c_36, A_39, c_39, A_42, c_42, g7, F68.keep ⟨rfl, rfl, rfl, rfl, rfl, rfl, rfl, rfl, rfl, trivial⟩, M30.pick' [0, 1, 2, 3] [⟨g7, #[.slice A_42 ((flt ta (flt tb init)).length + 1) c_42, .int .u64 next], 69⟩, ⟨g6, #[.slice A_34 ((flt tb (flt ta init)).length + 1) c_34, .int .u64 next], 69⟩, ⟨g3, #[.slice (some adr) (init.length + 1) c3, .int .u64 next], 69⟩, ⟨g1, (timesArr s (.slice A ts.length c) ta tb), 103⟩] ⟨rfl, rfl, rfl, rfl, trivial⟩ (by decide), O_r, O_34, O_42⟩
            exact AllReadyH.nil
          exact AllReadyH.nil
        refine ready_do rfl (wn rfl) (fun K hK => ?_) ?_
        · refine ow_alloc F65 M27 rfl rfl 69 rfl (.agg #[.slice none 0 0, .int .u64 0]) z69 #[.slice none 0 0, .int .u64 0] rfl (fun a62 g7 w31 F69 M31 hb hg => ?_)
          have los_g7 := Nat.le_trans hS.size hg
          refine hK _ _ (S_below hS hb) ?_
          replace hS := S_below hS hb
          clear hK K
          have K_O_r := O_r
          have K_O_34 := O_34
          have K_O_39 := O_39
          replace O_r := O_r.below hb
          replace O_34 := O_34.below hb
          replace O_39 := O_39.below hb
          have hz_g7 := hb
          have lo_g7 := hg
          clear hb hg F65 M27
          try clear a58
          try clear w27
          refine any_ready [7] (by kernel_rfl) (by simp) ?_
          refine ready_do rfl (wn rfl) (fun K hK => ?_) ?_
          · refine ow_call rfl rfl F69 14 #[.agg #[.slice A_39 ((flt tb init).length + 1) c_39, .int .u64 next], .int .i64 ta] (ex_call 14 _ _ rfl rfl cu_ent_14 _ (map2 (F69.e rfl) (F69.e rfl))) (prune_x (ring_flt hR tb) _ _ _ _ O_39) (fun e w32 hR => ?_)
            obtain ⟨A_42, c_42, he, O_42, hb⟩ := hR
            refine ⟨.agg #[.slice A_42 ((flt ta (flt tb init)).length + 1) c_42, .int .u64 next], he, fun a63 F70 => ?_⟩
            clear he F69
            refine hK _ _ (S_below hS hb) ?_
            replace hS := S_below hS hb
            clear hK K
            replace O_r := O_r.below hb
            replace O_34 := O_34.below hb
            replace O_39 := O_39.below hb
            replace hz_g7 := S_below hz_g7 hb
            have M32 := M31.below hb
            clear M31
            try clear hb
            try clear a62
            try clear w31
            clear O_39
            refine any_ready [9] (by kernel_rfl) (by simp) ?_
            refine ready_do rfl (wn rfl) (fun K hK => ?_) ?_
            · refine ow_put F70 M32 rfl 69 _ _ rfl 0 _ #[.slice none 0 0, .int .u64 0] _ rfl (F70.e rfl) #[.slice A_42 ((flt ta (flt tb init)).length + 1) c_42, .int .u64 next] (F70.e rfl) (sz_row (m := 2) cu_row_69_2) rfl (by simp [Value.oneCell']) (fun a64 w33 F71 M33 hgr => ?_)
              refine hK _ _ (S_grown hS hgr los_g7) ?_
              replace hS := S_grown hS hgr los_g7
              clear hK K
              have hzz := S_grown hz_g7 hgr lo_g7
              replace O_r := K_O_r.below hzz
              replace O_34 := K_O_34.below hzz
              replace O_42 := O_42.grown (M32.blk 0 _ rfl) (by show 107 ≠ 69; decide) hgr
              clear hzz hz_g7 lo_g7 K_O_r K_O_34 K_O_39
              clear F70 M32
              try clear hgr
              try clear a63
              try clear w32
              replace M33 : Mm w w33 [⟨g7, #[.slice A_42 ((flt ta (flt tb init)).length + 1) c_42, .int .u64 next], 69⟩, ⟨g6, #[.slice A_34 ((flt tb (flt ta init)).length + 1) c_34, .int .u64 next], 69⟩, ⟨g3, #[.slice (some adr) (init.length + 1) c3, .int .u64 next], 69⟩, ⟨g1, (timesArr s (.slice A ts.length c) ta tb), 103⟩] := M33
              refine any_done (by kernel_rfl) ?_
              exact ⟨A_36, c_36, A_39, c_39, A_42, c_42, g7, F71.keep ⟨rfl, rfl, rfl, rfl, rfl, rfl, rfl, rfl, rfl, trivial⟩, M33.pick' [0, 1, 2, 3] [⟨g7, #[.slice A_42 ((flt ta (flt tb init)).length + 1) c_42, .int .u64 next], 69⟩, ⟨g6, #[.slice A_34 ((flt tb (flt ta init)).length + 1) c_34, .int .u64 next], 69⟩, ⟨g3, #[.slice (some adr) (init.length + 1) c3, .int .u64 next], 69⟩, ⟨g1, (timesArr s (.slice A ts.length c) ta tb), 103⟩] ⟨rfl, rfl, rfl, rfl, trivial⟩ (by decide), O_r, O_34, O_42⟩
            exact AllReadyH.nil
          exact AllReadyH.nil
        exact AllReadyH.nil
      refine ready_do rfl (wn rfl) (fun K hK => ?_) ?_
      · refine ow_alloc F64 M26 rfl rfl 69 rfl (.agg #[.slice none 0 0, .int .u64 0]) z69 #[.slice none 0 0, .int .u64 0] rfl (fun a65 g7 w34 F72 M34 hb hg => ?_)
        have los_g7 := Nat.le_trans hS.size hg
        refine hK _ _ (S_below hS hb) ?_
        replace hS := S_below hS hb
        clear hK K
        have K_O_r := O_r
        have K_O_34 := O_34
        have K_O_36 := O_36
        replace O_r := O_r.below hb
        replace O_34 := O_34.below hb
        replace O_36 := O_36.below hb
        have hz_g7 := hb
        have lo_g7 := hg
        clear hb hg F64 M26
        try clear a57
        try clear w26
        refine any_ready [4] (by kernel_rfl) (by simp) ?_
        refine ready_do rfl (wn rfl) (fun K hK => ?_) ?_
        · refine ow_call rfl rfl F72 14 #[.agg #[.slice A_36 (init.length + 1) c_36, .int .u64 next], .int .i64 tb] (ex_call 14 _ _ rfl rfl cu_ent_14 _ (map2 (F72.e rfl) (F72.e rfl))) (prune_x hR _ _ _ _ O_36) (fun e w35 hR => ?_)
          obtain ⟨A_39, c_39, he, O_39, hb⟩ := hR
          refine ⟨.agg #[.slice A_39 ((flt tb init).length + 1) c_39, .int .u64 next], he, fun a66 F73 => ?_⟩
          clear he F72
          refine hK _ _ (S_below hS hb) ?_
          replace hS := S_below hS hb
          clear hK K
          replace O_r := O_r.below hb
          replace O_34 := O_34.below hb
          replace O_36 := O_36.below hb
          replace hz_g7 := S_below hz_g7 hb
          have M35 := M34.below hb
          clear M34
          try clear hb
          try clear a65
          try clear w34
          clear O_36
          refine any_ready [7] (by kernel_rfl) (by simp) ?_
          refine ready_do rfl (wn rfl) (fun K hK => ?_) ?_
          · refine ow_call rfl rfl F73 14 #[.agg #[.slice A_39 ((flt tb init).length + 1) c_39, .int .u64 next], .int .i64 ta] (ex_call 14 _ _ rfl rfl cu_ent_14 _ (map2 (F73.e rfl) (F73.e rfl))) (prune_x (ring_flt hR tb) _ _ _ _ O_39) (fun e w36 hR => ?_)
            obtain ⟨A_42, c_42, he, O_42, hb⟩ := hR
            refine ⟨.agg #[.slice A_42 ((flt ta (flt tb init)).length + 1) c_42, .int .u64 next], he, fun a67 F74 => ?_⟩
            clear he F73
            refine hK _ _ (S_below hS hb) ?_
            replace hS := S_below hS hb
            clear hK K
            replace O_r := O_r.below hb
            replace O_34 := O_34.below hb
            replace O_39 := O_39.below hb
            replace hz_g7 := S_below hz_g7 hb
            have M36 := M35.below hb
            clear M35
            try clear hb
            try clear a66
            try clear w35
            clear O_39
            refine any_ready [9] (by kernel_rfl) (by simp) ?_
            refine ready_do rfl (wn rfl) (fun K hK => ?_) ?_
            · refine ow_put F74 M36 rfl 69 _ _ rfl 0 _ #[.slice none 0 0, .int .u64 0] _ rfl (F74.e rfl) #[.slice A_42 ((flt ta (flt tb init)).length + 1) c_42, .int .u64 next] (F74.e rfl) (sz_row (m := 2) cu_row_69_2) rfl (by simp [Value.oneCell']) (fun a68 w37 F75 M37 hgr => ?_)
              refine hK _ _ (S_grown hS hgr los_g7) ?_
              replace hS := S_grown hS hgr los_g7
              clear hK K
              have hzz := S_grown hz_g7 hgr lo_g7
              replace O_r := K_O_r.below hzz
              replace O_34 := K_O_34.below hzz
              replace O_42 := O_42.grown (M36.blk 0 _ rfl) (by show 107 ≠ 69; decide) hgr
              clear hzz hz_g7 lo_g7 K_O_r K_O_34 K_O_36
              clear F74 M36
              try clear hgr
              try clear a67
              try clear w36
              replace M37 : Mm w w37 [⟨g7, #[.slice A_42 ((flt ta (flt tb init)).length + 1) c_42, .int .u64 next], 69⟩, ⟨g6, #[.slice A_34 ((flt tb (flt ta init)).length + 1) c_34, .int .u64 next], 69⟩, ⟨g3, #[.slice (some adr) (init.length + 1) c3, .int .u64 next], 69⟩, ⟨g1, (timesArr s (.slice A ts.length c) ta tb), 103⟩] := M37
              refine any_done (by kernel_rfl) ?_
              exact ⟨A_36, c_36, A_39, c_39, A_42, c_42, g7, F75.keep ⟨rfl, rfl, rfl, rfl, rfl, rfl, rfl, rfl, rfl, trivial⟩, M37.pick' [0, 1, 2, 3] [⟨g7, #[.slice A_42 ((flt ta (flt tb init)).length + 1) c_42, .int .u64 next], 69⟩, ⟨g6, #[.slice A_34 ((flt tb (flt ta init)).length + 1) c_34, .int .u64 next], 69⟩, ⟨g3, #[.slice (some adr) (init.length + 1) c3, .int .u64 next], 69⟩, ⟨g1, (timesArr s (.slice A ts.length c) ta tb), 103⟩] ⟨rfl, rfl, rfl, rfl, trivial⟩ (by decide), O_r, O_34, O_42⟩
            exact AllReadyH.nil
          exact AllReadyH.nil
        exact AllReadyH.nil
      exact AllReadyH.nil
    refine ready_do rfl (wn rfl) (fun K hK => ?_) ?_
    · refine ow_alloc F63 M25 rfl rfl 69 rfl (.agg #[.slice none 0 0, .int .u64 0]) z69 #[.slice none 0 0, .int .u64 0] rfl (fun a69 g7 w38 F76 M38 hb hg => ?_)
      have los_g7 := Nat.le_trans hS.size hg
      refine hK _ _ (S_below hS hb) ?_
      replace hS := S_below hS hb
      clear hK K
      have K_O_r := O_r
      have K_O_34 := O_34
      replace O_r := O_r.below hb
      replace O_34 := O_34.below hb
      have hz_g7 := hb
      have lo_g7 := hg
      clear hb hg F63 M25
      try clear a56
      try clear w25
      refine any_ready [1] (by kernel_rfl) (by simp) ?_
      refine ready_do rfl (wn rfl) (fun K hK => ?_) ?_
      · refine ow_call rfl rfl F76 18 #[.agg #[.slice (some adr) (init.length + 1) c3, .int .u64 next]] (ex_call 18 _ _ rfl rfl cu_ent_18 _ (map1 (F76.e rfl))) (copy_r hR _ _ _ O_r) (fun e w39 hR => ?_)
        obtain ⟨A_36, c_36, he, O_36, hb⟩ := hR
        refine ⟨.agg #[.slice A_36 (init.length + 1) c_36, .int .u64 next], he, fun a70 F77 => ?_⟩
        clear he F76
        refine hK _ _ (S_below hS hb) ?_
        replace hS := S_below hS hb
        clear hK K
        replace O_r := O_r.below hb
        replace O_34 := O_34.below hb
        replace hz_g7 := S_below hz_g7 hb
        have M39 := M38.below hb
        clear M38
        try clear hb
        try clear a69
        try clear w38
        refine any_ready [4] (by kernel_rfl) (by simp) ?_
        refine ready_do rfl (wn rfl) (fun K hK => ?_) ?_
        · refine ow_call rfl rfl F77 14 #[.agg #[.slice A_36 (init.length + 1) c_36, .int .u64 next], .int .i64 tb] (ex_call 14 _ _ rfl rfl cu_ent_14 _ (map2 (F77.e rfl) (F77.e rfl))) (prune_x hR _ _ _ _ O_36) (fun e w40 hR => ?_)
          obtain ⟨A_39, c_39, he, O_39, hb⟩ := hR
          refine ⟨.agg #[.slice A_39 ((flt tb init).length + 1) c_39, .int .u64 next], he, fun a71 F78 => ?_⟩
          clear he F77
          refine hK _ _ (S_below hS hb) ?_
          replace hS := S_below hS hb
          clear hK K
          replace O_r := O_r.below hb
          replace O_34 := O_34.below hb
          replace O_36 := O_36.below hb
          replace hz_g7 := S_below hz_g7 hb
          have M40 := M39.below hb
          clear M39
          try clear hb
          try clear a70
          try clear w39
          clear O_36
          refine any_ready [7] (by kernel_rfl) (by simp) ?_
          refine ready_do rfl (wn rfl) (fun K hK => ?_) ?_
          · refine ow_call rfl rfl F78 14 #[.agg #[.slice A_39 ((flt tb init).length + 1) c_39, .int .u64 next], .int .i64 ta] (ex_call 14 _ _ rfl rfl cu_ent_14 _ (map2 (F78.e rfl) (F78.e rfl))) (prune_x (ring_flt hR tb) _ _ _ _ O_39) (fun e w41 hR => ?_)
            obtain ⟨A_42, c_42, he, O_42, hb⟩ := hR
            refine ⟨.agg #[.slice A_42 ((flt ta (flt tb init)).length + 1) c_42, .int .u64 next], he, fun a72 F79 => ?_⟩
            clear he F78
            refine hK _ _ (S_below hS hb) ?_
            replace hS := S_below hS hb
            clear hK K
            replace O_r := O_r.below hb
            replace O_34 := O_34.below hb
            replace O_39 := O_39.below hb
            replace hz_g7 := S_below hz_g7 hb
            have M41 := M40.below hb
            clear M40
            try clear hb
            try clear a71
            try clear w40
            clear O_39
            refine any_ready [9] (by kernel_rfl) (by simp) ?_
            refine ready_do rfl (wn rfl) (fun K hK => ?_) ?_
            · refine ow_put F79 M41 rfl 69 _ _ rfl 0 _ #[.slice none 0 0, .int .u64 0] _ rfl (F79.e rfl) #[.slice A_42 ((flt ta (flt tb init)).length + 1) c_42, .int .u64 next] (F79.e rfl) (sz_row (m := 2) cu_row_69_2) rfl (by simp [Value.oneCell']) (fun a73 w42 F80 M42 hgr => ?_)
              refine hK _ _ (S_grown hS hgr los_g7) ?_
              replace hS := S_grown hS hgr los_g7
              clear hK K
              have hzz := S_grown hz_g7 hgr lo_g7
              replace O_r := K_O_r.below hzz
              replace O_34 := K_O_34.below hzz
              replace O_42 := O_42.grown (M41.blk 0 _ rfl) (by show 107 ≠ 69; decide) hgr
              clear hzz hz_g7 lo_g7 K_O_r K_O_34
              clear F79 M41
              try clear hgr
              try clear a72
              try clear w41
              replace M42 : Mm w w42 [⟨g7, #[.slice A_42 ((flt ta (flt tb init)).length + 1) c_42, .int .u64 next], 69⟩, ⟨g6, #[.slice A_34 ((flt tb (flt ta init)).length + 1) c_34, .int .u64 next], 69⟩, ⟨g3, #[.slice (some adr) (init.length + 1) c3, .int .u64 next], 69⟩, ⟨g1, (timesArr s (.slice A ts.length c) ta tb), 103⟩] := M42
              refine any_done (by kernel_rfl) ?_
              exact ⟨A_36, c_36, A_39, c_39, A_42, c_42, g7, F80.keep ⟨rfl, rfl, rfl, rfl, rfl, rfl, rfl, rfl, rfl, trivial⟩, M42.pick' [0, 1, 2, 3] [⟨g7, #[.slice A_42 ((flt ta (flt tb init)).length + 1) c_42, .int .u64 next], 69⟩, ⟨g6, #[.slice A_34 ((flt tb (flt ta init)).length + 1) c_34, .int .u64 next], 69⟩, ⟨g3, #[.slice (some adr) (init.length + 1) c3, .int .u64 next], 69⟩, ⟨g1, (timesArr s (.slice A ts.length c) ta tb), 103⟩] ⟨rfl, rfl, rfl, rfl, trivial⟩ (by decide), O_r, O_34, O_42⟩
            exact AllReadyH.nil
          exact AllReadyH.nil
        exact AllReadyH.nil
      exact AllReadyH.nil
    exact AllReadyH.nil
  clear F58 M24 O_r O_34
  intro a74 w43 hR; obtain ⟨A_36, c_36, A_39, c_39, A_42, c_42, g7, F81, M43, O_r, O_34, O_42⟩ := hR
  try clear a51
  try clear w24
  refine then_n ?_
  refine wp_seq ?_
  refine wp_region_lit ?_
  refine list_val F81 (wn rfl) rfl rfl (.agg #[.slice (some adr) (init.length + 1) c3, .int .u64 next]) (ex_load _ _ rfl _ (F81.e rfl) _ (lvr (cs := [.slice (some adr) (init.length + 1) c3, .int .u64 next]) cu_row_69_2 (M43.at (i := 2) rfl))) ?_
  clear F81; try clear a74
  intro a75 F82
  refine list_do (wn rfl) (fun K hK => ?_)
  refine ow_call rfl rfl F82 18 #[.agg #[.slice (some adr) (init.length + 1) c3, .int .u64 next]] (ex_call 18 _ _ rfl rfl cu_ent_18 _ (map1 (F82.e rfl))) (copy_r hR _ _ _ O_r) (fun e w44 hR => ?_)
  obtain ⟨A_44, c_44, he, O_44, hb⟩ := hR
  refine ⟨.agg #[.slice A_44 (init.length + 1) c_44, .int .u64 next], he, fun a76 F83 => ?_⟩
  clear he F82
  refine hK _ _ ?_
  clear hK K
  replace O_r := O_r.below hb
  replace O_34 := O_34.below hb
  replace O_42 := O_42.below hb
  have M44 := M43.below hb
  clear M43
  try clear hb
  try clear a75
  try clear w43
  refine list_val F83 (wn rfl) rfl rfl (.int .i64 late) (ex_move _ rfl _ (F83.e rfl)) ?_
  clear F83; try clear a76
  intro a77 F84
  refine list_do (wn rfl) (fun K hK => ?_)
  refine ow_call rfl rfl F84 14 #[.agg #[.slice A_44 (init.length + 1) c_44, .int .u64 next], .int .i64 late] (ex_call 14 _ _ rfl rfl cu_ent_14 _ (map2 (F84.e rfl) (F84.e rfl))) (prune_x hR _ _ _ _ O_44) (fun e w45 hR => ?_)
  obtain ⟨A_46, c_46, he, O_46, hb⟩ := hR
  obtain ⟨adw, rfl⟩ := ro_some O_46
  refine ⟨.agg #[.slice (some adw) ((flt late init).length + 1) c_46, .int .u64 next], he, fun a78 F85 => ?_⟩
  clear he F84
  refine hK _ _ ?_
  clear hK K
  replace O_r := O_r.below hb
  replace O_34 := O_34.below hb
  replace O_42 := O_42.below hb
  replace O_44 := O_44.below hb
  have M45 := M44.below hb
  clear M44
  try clear hb
  try clear a77
  try clear w44
  clear O_44
  refine list_do (wn rfl) (fun K hK => ?_)
  refine ow_alloc F85 M45 rfl rfl 69 rfl (.agg #[.slice none 0 0, .int .u64 0]) z69 #[.slice none 0 0, .int .u64 0] rfl (fun a79 g8 w46 F86 M46 hb hg => ?_)
  refine hK _ _ ?_
  clear hK K
  have K_O_r := O_r
  have K_O_34 := O_34
  have K_O_42 := O_42
  have K_O_46 := O_46
  replace O_r := O_r.below hb
  replace O_34 := O_34.below hb
  replace O_42 := O_42.below hb
  replace O_46 := O_46.below hb
  have hz_g8 := hb
  have lo_g8 := hg
  clear hb hg F85 M45
  try clear a78
  try clear w45
  refine list_do (wn rfl) (fun K hK => ?_)
  refine ow_put F86 M46 rfl 69 _ _ rfl 0 _ #[.slice none 0 0, .int .u64 0] _ rfl (F86.e rfl) #[.slice (some adw) ((flt late init).length + 1) c_46, .int .u64 next] (F86.e rfl) (sz_row (m := 2) cu_row_69_2) rfl (by simp [Value.oneCell']) (fun a80 w47 F87 M47 hgr => ?_)
  refine hK _ _ ?_
  clear hK K
  have hzz := S_grown hz_g8 hgr lo_g8
  replace O_r := K_O_r.below hzz
  replace O_34 := K_O_34.below hzz
  replace O_42 := K_O_42.below hzz
  replace O_46 := K_O_46.below hzz
  clear hzz hz_g8 lo_g8 K_O_r K_O_34 K_O_42 K_O_46
  clear F86 M46
  try clear hgr
  try clear a79
  try clear w46
  replace M47 : Mm w w47 [⟨g8, #[.slice (some adw) ((flt late init).length + 1) c_46, .int .u64 next], 69⟩, ⟨g7, #[.slice A_42 ((flt ta (flt tb init)).length + 1) c_42, .int .u64 next], 69⟩, ⟨g6, #[.slice A_34 ((flt tb (flt ta init)).length + 1) c_34, .int .u64 next], 69⟩, ⟨g3, #[.slice (some adr) (init.length + 1) c3, .int .u64 next], 69⟩, ⟨g1, (timesArr s (.slice A ts.length c) ta tb), 103⟩] := M47
  refine wpList_nil ?_
  have F88 : Fr 124 a80 [(0, .agg (timesArr s (.slice A ts.length c) ta tb)), (1, .pointer (some ⟨g1, 0, none⟩)), (2, .bool false), (3, .pointer (some ⟨g3, 0, none⟩)), (4, .bool true), (5, .int .i64 late), (6, .pointer (some ⟨g6, 0, none⟩)), (7, .pointer (some ⟨g7, 0, none⟩)), (8, .pointer (some ⟨g8, 0, none⟩)), (18, .bool false)] := F87.keep ⟨rfl, rfl, rfl, rfl, rfl, rfl, rfl, rfl, rfl, rfl, trivial⟩
  clear F87
  refine then_n ?_
  refine wp_seq ?_
  refine wp_seq ?_
  refine wp_only (fun ar wr => ∃ (A_59 : Option Addr), ∃ (c_59 : Nat), ∃ (A_60 : Option Addr), ∃ (c_60 : Nat), Fr 124 ar [(0, .agg (timesArr s (.slice A ts.length c) ta tb)), (1, .pointer (some ⟨g1, 0, none⟩)), (2, .bool false), (3, .pointer (some ⟨g3, 0, none⟩)), (4, .bool true), (5, .int .i64 late), (6, .pointer (some ⟨g6, 0, none⟩)), (7, .pointer (some ⟨g7, 0, none⟩)), (8, .pointer (some ⟨g8, 0, none⟩)), (18, .bool false), (64, .bool false)] ∧ Mm w wr [⟨g8, #[.slice (some adw) ((flt late init).length + 1) c_46, .int .u64 next], 69⟩, ⟨g7, #[.slice A_42 ((flt ta (flt tb init)).length + 1) c_42, .int .u64 next], 69⟩, ⟨g6, #[.slice A_34 ((flt tb (flt ta init)).length + 1) c_34, .int .u64 next], 69⟩, ⟨g3, #[.slice (some adr) (init.length + 1) c3, .int .u64 next], 69⟩, ⟨g1, (timesArr s (.slice A ts.length c) ta tb), 103⟩] ∧ RO wr (some adr) c3 ⟨init ++ [last], next⟩ ∧ RO wr A_34 c_34 ⟨(flt tb (flt ta init)) ++ [last], next⟩ ∧ RO wr A_42 c_42 ⟨(flt ta (flt tb init)) ++ [last], next⟩ ∧ RO wr (some adw) c_46 ⟨flt late init ++ [last], next⟩ ∧ RO wr A_60 c_60 ⟨(flt 0 init) ++ [last], next⟩) ?_ ?_
  · refine region_any cu_follows_mixedOrders M47 (fun w48 M48 hb => ?_)
    replace O_r := O_r.below hb
    replace O_34 := O_34.below hb
    replace O_42 := O_42.below hb
    replace O_46 := O_46.below hb
    clear M47 hb
    try clear w47
    have hS : Below w48.heap.size w48 w48 := Below.refl _ _
    have MD := M48
    have D_O_r := O_r
    have D_O_34 := O_34
    have D_O_42 := O_42
    have D_O_46 := O_46
    refine any_take F88 0 rfl (by kernel_rfl) (by kernel_rfl) (by kernel_rfl) (wn rfl) rfl rfl (.agg #[.slice A_34 ((flt tb (flt ta init)).length + 1) c_34, .int .u64 next]) (fun w' hS' => ex_load _ _ rfl _ (F88.e rfl) _ (lvr (cs := [.slice A_34 ((flt tb (flt ta init)).length + 1) c_34, .int .u64 next]) cu_row_69_2 ((MD.below hS').at (i := 2) rfl))) hS ?_
    clear F88; try clear a80
    intro a81 F89
    refine any_take F89 1 rfl (by kernel_rfl) (by kernel_rfl) (by kernel_rfl) (wn rfl) rfl rfl (.agg #[.slice A_42 ((flt ta (flt tb init)).length + 1) c_42, .int .u64 next]) (fun w' hS' => ex_load _ _ rfl _ (F89.e rfl) _ (lvr (cs := [.slice A_42 ((flt ta (flt tb init)).length + 1) c_42, .int .u64 next]) cu_row_69_2 ((MD.below hS').at (i := 1) rfl))) hS ?_
    clear F89; try clear a81
    intro a82 F90
    refine any_ready [2] (by kernel_rfl) (by simp) ?_
    refine ready_do rfl (wn rfl) (fun K hK => ?_) ?_
    · refine ow_call rfl rfl F90 21 #[.agg #[.slice A_34 ((flt tb (flt ta init)).length + 1) c_34, .int .u64 next], .agg #[.slice A_42 ((flt ta (flt tb init)).length + 1) c_42, .int .u64 next]] (ex_call 21 _ _ rfl rfl cu_ent_21 _ (map2 (F90.e rfl) (F90.e rfl))) (eqRing_r exy _ _ _ _ _ O_34 O_42) (fun e w49 hR => ?_)
      obtain ⟨he, hb⟩ := hR
      refine ⟨.bool true, he, fun a83 F91 => ?_⟩
      clear he F90
      refine hK _ _ (S_below hS hb) ?_
      replace hS := S_below hS hb
      clear hK K
      replace O_r := O_r.below hb
      replace O_34 := O_34.below hb
      replace O_42 := O_42.below hb
      replace O_46 := O_46.below hb
      have M49 := M48.below hb
      clear M48
      try clear hb
      try clear a82
      try clear w48
      refine any_take F91 3 rfl (by kernel_rfl) (by kernel_rfl) (by kernel_rfl) (wn rfl) rfl rfl (.bool false) (fun w' hS' => ex_not _ _ rfl _ (F91.e rfl) _ rfl) hS ?_
      clear F91; try clear a83
      intro a84 F92
      refine any_take F92 4 rfl (by kernel_rfl) (by kernel_rfl) (by kernel_rfl) (wn rfl) rfl rfl (.bool false) (fun w' hS' => ex_move _ rfl _ (F92.e rfl)) hS ?_
      clear F92; try clear a84
      intro a85 F93
      refine any_take F93 5 rfl (by kernel_rfl) (by kernel_rfl) (by kernel_rfl) (F93.wants 51 false rfl (by kernel_rfl) rfl true rfl) rfl rfl (.agg #[.slice A_34 ((flt tb (flt ta init)).length + 1) c_34, .int .u64 next]) (fun w' hS' => ex_load _ _ rfl _ (F93.e rfl) _ (lvr (cs := [.slice A_34 ((flt tb (flt ta init)).length + 1) c_34, .int .u64 next]) cu_row_69_2 ((MD.below hS').at (i := 2) rfl))) hS ?_
      clear F93; try clear a85
      intro a86 F94
      refine any_take F94 6 rfl (by kernel_rfl) (by kernel_rfl) (by kernel_rfl) (F94.wants 51 false rfl (by kernel_rfl) rfl true rfl) rfl rfl (.agg #[.slice (some adw) ((flt late init).length + 1) c_46, .int .u64 next]) (fun w' hS' => ex_load _ _ rfl _ (F94.e rfl) _ (lvr (cs := [.slice (some adw) ((flt late init).length + 1) c_46, .int .u64 next]) cu_row_69_2 ((MD.below hS').at (i := 0) rfl))) hS ?_
      clear F94; try clear a86
      intro a87 F95
      refine any_ready [7] (by kernel_rfl) (by simp) ?_
      refine ready_do rfl (F95.wants 51 false rfl (by kernel_rfl) rfl true rfl) (fun K hK => ?_) ?_
      · refine ow_call rfl rfl F95 21 #[.agg #[.slice A_34 ((flt tb (flt ta init)).length + 1) c_34, .int .u64 next], .agg #[.slice (some adw) ((flt late init).length + 1) c_46, .int .u64 next]] (ex_call 21 _ _ rfl rfl cu_ent_21 _ (map2 (F95.e rfl) (F95.e rfl))) (eqRing_r exw _ _ _ _ _ O_34 O_46) (fun e w50 hR => ?_)
        obtain ⟨he, hb⟩ := hR
        refine ⟨.bool true, he, fun a88 F96 => ?_⟩
        clear he F95
        refine hK _ _ (S_below hS hb) ?_
        replace hS := S_below hS hb
        clear hK K
        replace O_r := O_r.below hb
        replace O_34 := O_34.below hb
        replace O_42 := O_42.below hb
        replace O_46 := O_46.below hb
        have M50 := M49.below hb
        clear M49
        try clear hb
        try clear a87
        try clear w49
        refine any_take F96 8 rfl (by kernel_rfl) (by kernel_rfl) (by kernel_rfl) (F96.wants 51 false rfl (by kernel_rfl) rfl true rfl) rfl rfl (.bool false) (fun w' hS' => ex_not _ _ rfl _ (F96.e rfl) _ rfl) hS ?_
        clear F96; try clear a88
        intro a89 F97
        refine any_take F97 9 rfl (by kernel_rfl) (by kernel_rfl) (by kernel_rfl) (wn rfl) rfl rfl (.bool false) (fun w' hS' => ex_pick_f _ _ _ rfl (F97.e rfl) _ (F97.e rfl)) hS ?_
        clear F97; try clear a89
        intro a90 F98
        refine any_take F98 10 rfl (by kernel_rfl) (by kernel_rfl) (by kernel_rfl) (wn rfl) rfl rfl (.bool false) (fun w' hS' => ex_move _ rfl _ (F98.e rfl)) hS ?_
        clear F98; try clear a90
        intro a91 F99
        refine any_take F99 11 rfl (by kernel_rfl) (by kernel_rfl) (by kernel_rfl) (F99.wants 57 false rfl (by kernel_rfl) rfl true rfl) rfl rfl (.agg #[.slice (some adr) (init.length + 1) c3, .int .u64 next]) (fun w' hS' => ex_load _ _ rfl _ (F99.e rfl) _ (lvr (cs := [.slice (some adr) (init.length + 1) c3, .int .u64 next]) cu_row_69_2 ((MD.below hS').at (i := 3) rfl))) hS ?_
        clear F99; try clear a91
        intro a92 F100
        refine any_take F100 14 rfl (by kernel_rfl) (by kernel_rfl) (by kernel_rfl) (F100.wants 57 false rfl (by kernel_rfl) rfl true rfl) rfl rfl (.agg #[.slice (some adr) (init.length + 1) c3, .int .u64 next]) (fun w' hS' => ex_load _ _ rfl _ (F100.e rfl) _ (lvr (cs := [.slice (some adr) (init.length + 1) c3, .int .u64 next]) cu_row_69_2 ((MD.below hS').at (i := 3) rfl))) hS ?_
        clear F100; try clear a92
        intro a93 F101
        refine any_ready [12] (by kernel_rfl) (by simp) ?_
        refine ready_do rfl (F101.wants 57 false rfl (by kernel_rfl) rfl true rfl) (fun K hK => ?_) ?_
        · refine ow_call rfl rfl F101 18 #[.agg #[.slice (some adr) (init.length + 1) c3, .int .u64 next]] (ex_call 18 _ _ rfl rfl cu_ent_18 _ (map1 (F101.e rfl))) (copy_r hR _ _ _ O_r) (fun e w51 hR => ?_)
          obtain ⟨A_59, c_59, he, O_59, hb⟩ := hR
          refine ⟨.agg #[.slice A_59 (init.length + 1) c_59, .int .u64 next], he, fun a94 F102 => ?_⟩
          clear he F101
          refine hK _ _ (S_below hS hb) ?_
          replace hS := S_below hS hb
          clear hK K
          replace O_r := O_r.below hb
          replace O_34 := O_34.below hb
          replace O_42 := O_42.below hb
          replace O_46 := O_46.below hb
          have M51 := M50.below hb
          clear M50
          try clear hb
          try clear a93
          try clear w50
          refine any_ready [13] (by kernel_rfl) (by simp) ?_
          refine ready_do rfl (F102.wants 57 false rfl (by kernel_rfl) rfl true rfl) (fun K hK => ?_) ?_
          · refine ow_call rfl rfl F102 14 #[.agg #[.slice A_59 (init.length + 1) c_59, .int .u64 next], .int .i64 0] (ex_call 14 _ _ rfl rfl cu_ent_14 _ (map2 (F102.e rfl) rfl)) (prune_x hR _ _ _ _ O_59) (fun e w52 hR => ?_)
            obtain ⟨A_60, c_60, he, O_60, hb⟩ := hR
            refine ⟨.agg #[.slice A_60 ((flt 0 init).length + 1) c_60, .int .u64 next], he, fun a95 F103 => ?_⟩
            clear he F102
            refine hK _ _ (S_below hS hb) ?_
            replace hS := S_below hS hb
            clear hK K
            replace O_r := O_r.below hb
            replace O_34 := O_34.below hb
            replace O_42 := O_42.below hb
            replace O_46 := O_46.below hb
            replace O_59 := O_59.below hb
            have M52 := M51.below hb
            clear M51
            try clear hb
            try clear a94
            try clear w51
            clear O_59
            refine any_ready [15] (by kernel_rfl) (by simp) ?_
            refine ready_do rfl (F103.wants 57 false rfl (by kernel_rfl) rfl true rfl) (fun K hK => ?_) ?_
            · refine ow_call rfl rfl F103 21 #[.agg #[.slice A_60 ((flt 0 init).length + 1) c_60, .int .u64 next], .agg #[.slice (some adr) (init.length + 1) c3, .int .u64 next]] (ex_call 21 _ _ rfl rfl cu_ent_21 _ (map2 (F103.e rfl) (F103.e rfl))) (eqRing_r exz _ _ _ _ _ O_60 O_r) (fun e w53 hR => ?_)
              obtain ⟨he, hb⟩ := hR
              refine ⟨.bool true, he, fun a96 F104 => ?_⟩
              clear he F103
              refine hK _ _ (S_below hS hb) ?_
              replace hS := S_below hS hb
              clear hK K
              replace O_r := O_r.below hb
              replace O_34 := O_34.below hb
              replace O_42 := O_42.below hb
              replace O_46 := O_46.below hb
              replace O_60 := O_60.below hb
              have M53 := M52.below hb
              clear M52
              try clear hb
              try clear a95
              try clear w52
              refine any_take F104 16 rfl (by kernel_rfl) (by kernel_rfl) (by kernel_rfl) (F104.wants 57 false rfl (by kernel_rfl) rfl true rfl) rfl rfl (.bool false) (fun w' hS' => ex_not _ _ rfl _ (F104.e rfl) _ rfl) hS ?_
              clear F104; try clear a96
              intro a97 F105
              refine any_take F105 17 rfl (by kernel_rfl) (by kernel_rfl) (by kernel_rfl) (wn rfl) rfl rfl (.bool false) (fun w' hS' => ex_pick_f _ _ _ rfl (F105.e rfl) _ (F105.e rfl)) hS ?_
              clear F105; try clear a97
              intro a98 F106
              refine any_done (by kernel_rfl) ?_
              exact ⟨A_59, c_59, A_60, c_60, F106.keep ⟨rfl, rfl, rfl, rfl, rfl, rfl, rfl, rfl, rfl, rfl, rfl, trivial⟩, M53.pick' [0, 1, 2, 3, 4] [⟨g8, #[.slice (some adw) ((flt late init).length + 1) c_46, .int .u64 next], 69⟩, ⟨g7, #[.slice A_42 ((flt ta (flt tb init)).length + 1) c_42, .int .u64 next], 69⟩, ⟨g6, #[.slice A_34 ((flt tb (flt ta init)).length + 1) c_34, .int .u64 next], 69⟩, ⟨g3, #[.slice (some adr) (init.length + 1) c3, .int .u64 next], 69⟩, ⟨g1, (timesArr s (.slice A ts.length c) ta tb), 103⟩] ⟨rfl, rfl, rfl, rfl, rfl, trivial⟩ (by decide), O_r, O_34, O_42, O_46, O_60⟩
            exact AllReadyH.nil
          exact AllReadyH.nil
        exact AllReadyH.nil
      exact AllReadyH.nil
    exact AllReadyH.nil
  clear F88 M47 O_r O_34 O_42 O_46
  intro a99 w54 hR; obtain ⟨A_59, c_59, A_60, c_60, F107, M54, O_r, O_34, O_42, O_46, O_60⟩ := hR
  try clear a80
  try clear w47
  refine then_n ?_
  refine wp_cond_false (F107.e rfl) ?_
  refine wp_skip ?_
  refine then_n ?_
  refine wp_seq ?_
  clear O_34
  clear O_42
  clear O_60
  refine wp_region_lit ?_
  refine list_val F107 (wn rfl) rfl rfl (.int .i64 0) (ex_assign _ rfl _ rfl) ?_
  clear F107; try clear a99
  intro a100 F108
  refine wpList_nil ?_
  have F109 : Fr 124 a100 [(0, .agg (timesArr s (.slice A ts.length c) ta tb)), (1, .pointer (some ⟨g1, 0, none⟩)), (2, .bool false), (3, .pointer (some ⟨g3, 0, none⟩)), (4, .bool true), (5, .int .i64 late), (6, .pointer (some ⟨g6, 0, none⟩)), (7, .pointer (some ⟨g7, 0, none⟩)), (8, .pointer (some ⟨g8, 0, none⟩)), (9, .int .i64 0), (18, .bool false), (64, .bool false)] := F108.keep ⟨rfl, rfl, rfl, rfl, rfl, rfl, rfl, rfl, rfl, rfl, rfl, rfl, trivial⟩
  clear F108
  refine then_n ?_
  refine wp_seq ?_
  refine wp_seq ?_
  refine wp_region_lit ?_
  refine list_val F109 (wn rfl) rfl rfl (.int .i64 0) (ex_assign _ rfl _ rfl) ?_
  clear F109; try clear a100
  intro a101 F110
  refine wpList_nil ?_
  have F111 : Fr 124 a101 [(0, .agg (timesArr s (.slice A ts.length c) ta tb)), (1, .pointer (some ⟨g1, 0, none⟩)), (2, .bool false), (3, .pointer (some ⟨g3, 0, none⟩)), (4, .bool true), (5, .int .i64 late), (6, .pointer (some ⟨g6, 0, none⟩)), (7, .pointer (some ⟨g7, 0, none⟩)), (8, .pointer (some ⟨g8, 0, none⟩)), (9, .int .i64 0), (10, .int .i64 0), (18, .bool false), (64, .bool false)] := F110.keep ⟨rfl, rfl, rfl, rfl, rfl, rfl, rfl, rfl, rfl, rfl, rfl, rfl, rfl, trivial⟩
  clear F110
  refine then_n ?_
  refine wp_block ?_
  refine wp_loop (fun ar wr => ∃ (i : Nat), ∃ (kk : Nat), Fr 124 ar [(0, .agg (timesArr s (.slice A ts.length c) ta tb)), (1, .pointer (some ⟨g1, 0, none⟩)), (2, .bool false), (3, .pointer (some ⟨g3, 0, none⟩)), (4, .bool true), (5, .int .i64 late), (6, .pointer (some ⟨g6, 0, none⟩)), (7, .pointer (some ⟨g7, 0, none⟩)), (8, .pointer (some ⟨g8, 0, none⟩)), (9, .int .i64 kk), (10, .int .i64 i), (18, .bool false), (64, .bool false)] ∧ Mm w wr [⟨g8, #[.slice (some adw) ((flt late init).length + 1) c_46, .int .u64 next], 69⟩, ⟨g3, #[.slice (some adr) (init.length + 1) c3, .int .u64 next], 69⟩] ∧ RO wr (some adr) c3 ⟨init ++ [last], next⟩ ∧ RO wr (some adw) c_46 ⟨flt late init ++ [last], next⟩ ∧ i ≤ init.length + 1 ∧ kk = cnt late (init ++ [last]) i) (fun ar _ => (init.length + 1) - (intOf (ar.eval (.tmp 10))).toNat) ?_ ?_
  · exact ⟨0, 0, F111.keep ⟨rfl, rfl, rfl, rfl, rfl, rfl, rfl, rfl, rfl, rfl, rfl, rfl, rfl, trivial⟩, (M54.pick' [0, 3] [⟨g8, #[.slice (some adw) ((flt late init).length + 1) c_46, .int .u64 next], 69⟩, ⟨g3, #[.slice (some adr) (init.length + 1) c3, .int .u64 next], 69⟩] ⟨rfl, rfl, trivial⟩ (by decide)), O_r, O_46, (Nat.zero_le _), (cnt_zero _ _).symm⟩
  · clear F111 M54 O_r O_46
    rintro a102 w55 ⟨i, kk, F112, M55, O_r, O_46, hi, hkk⟩
    try clear a101
    try clear w54
    have Fh1 := F112
    by_cases hc1 : i < init.length + 1
    · obtain ⟨ad', had, zi, _, _⟩ := at_Key (O_r.rk.1) (i : Int) (by omega) (by simp only [ring_len]; omega)
      obtain rfl := Option.some.inj had
      clear had
      have hil : i < (init ++ [last]).length := by simp only [ring_len]; exact hc1
      rw [show (i : Int).toNat = i from rfl, show rdK (⟨init ++ [last], next⟩ : Rg).keys (i : Int) = (init ++ [last])[i] from rdK_eq hil] at zi
      generalize hkg : (init ++ [last])[i] = ki at zi
      refine wp_seq ?_
      refine wp_seq ?_
      refine wp_region_lit ?_
      refine list_val F112 (wn rfl) rfl rfl (.int .i64 i) (ex_move _ rfl _ (F112.e rfl)) ?_
      clear F112; try clear a102
      intro a103 F113
      refine list_val F113 (wn rfl) rfl rfl (.pointer (some ⟨g3, 0, none⟩)) (ex_fa _ _ _ rfl _ (F113.e rfl) 0 cu_fa_69_0_0 ⟨g3, 0, none⟩ rfl) ?_
      clear F113; try clear a103
      intro a104 F114
      refine list_val F114 (wn rfl) rfl rfl (.slice (some adr) (init.length + 1) c3) (ex_load _ _ rfl _ (F114.e rfl) _ (lv1 cu_one_55 (M55.cell (i := 1) rfl (j := 0) rfl))) ?_
      clear F114; try clear a104
      intro a105 F115
      refine list_val F115 (wn rfl) rfl rfl (.int .i64 (((init.length + 1) : Nat) : Int)) (ex_len _ _ rfl 34 cu_sl_55_34 _ _ _ (F115.e rfl)) ?_
      clear F115; try clear a105
      intro a106 F116
      refine list_val F116 (wn rfl) rfl rfl (.bool true) (ex_bin .lss _ _ _ _ rfl .i64 _ _ (F116.e rfl) (F116.e rfl) _ (b_lss (decide_eq_true (by omega)))) ?_
      clear F116; try clear a106
      intro a107 F117
      refine wpList_nil ?_
      have F118 : Fr 124 a107 [(0, .agg (timesArr s (.slice A ts.length c) ta tb)), (1, .pointer (some ⟨g1, 0, none⟩)), (2, .bool false), (3, .pointer (some ⟨g3, 0, none⟩)), (4, .bool true), (5, .int .i64 late), (6, .pointer (some ⟨g6, 0, none⟩)), (7, .pointer (some ⟨g7, 0, none⟩)), (8, .pointer (some ⟨g8, 0, none⟩)), (9, .int .i64 kk), (10, .int .i64 i), (18, .bool false), (64, .bool false), (69, .bool true)] := F117.keep ⟨rfl, rfl, rfl, rfl, rfl, rfl, rfl, rfl, rfl, rfl, rfl, rfl, rfl, rfl, trivial⟩
      clear F117
      refine then_n ?_
      refine wp_cond_true (F118.e rfl) ?_
      refine wp_skip ?_
      refine then_n ?_
      refine wp_seq ?_
      refine wp_block ?_
      refine wp_only (fun ar wr => ∃ (kn : Nat), Fr 124 ar [(0, .agg (timesArr s (.slice A ts.length c) ta tb)), (1, .pointer (some ⟨g1, 0, none⟩)), (2, .bool false), (3, .pointer (some ⟨g3, 0, none⟩)), (4, .bool true), (5, .int .i64 late), (6, .pointer (some ⟨g6, 0, none⟩)), (7, .pointer (some ⟨g7, 0, none⟩)), (8, .pointer (some ⟨g8, 0, none⟩)), (9, .int .i64 kn), (10, .int .i64 i), (18, .bool false), (64, .bool false), (69, .bool true)] ∧ Mm w wr [⟨g8, #[.slice (some adw) ((flt late init).length + 1) c_46, .int .u64 next], 69⟩, ⟨g3, #[.slice (some adr) (init.length + 1) c3, .int .u64 next], 69⟩] ∧ RO wr (some adr) c3 ⟨init ++ [last], next⟩ ∧ RO wr (some adw) c_46 ⟨flt late init ++ [last], next⟩ ∧ At wr (adr.add (i * 34)) ki.cs ∧ kn = cnt late (init ++ [last]) (i + 1)) ?_ ?_
      · refine wp_seq ?_
        by_cases ht0 : ki.til = 0
        · have hst' : stay late (init ++ [last])[i] = true := by rw [hkg]; simp [stay, ht0]
          have hlt := cnt_lt late _ i hil hst'
          have hget := cnt_get late _ i hil hst'
          rw [← flt_all hR, ← hkk] at hlt hget
          rw [ring_len] at hlt
          obtain ⟨ad', had, zw, _, _⟩ := at_Key (O_46.rk.1) (kk : Int) (by omega) (by simp only [ring_len]; omega)
          obtain rfl := Option.some.inj had
          clear had
          rw [show (kk : Int).toNat = kk from rfl, show rdK (⟨flt late init ++ [last], next⟩ : Rg).keys (kk : Int) = ki by
            rw [rdK_eq (show kk < (flt late init ++ [last]).length by rw [ring_len]; exact hlt)]
            exact ((List.getElem?_eq_some_iff.1 hget).2).trans hkg] at zw
          clear hget
          refine wp_region_lit ?_
          refine list_val F118 (wn rfl) rfl rfl (.pointer (some ⟨g3, 0, none⟩)) (ex_fa _ _ _ rfl _ (F118.e rfl) 0 cu_fa_69_0_0 ⟨g3, 0, none⟩ rfl) ?_
          clear F118; try clear a107
          intro a108 F119
          refine list_val F119 (wn rfl) rfl rfl (.slice (some adr) (init.length + 1) c3) (ex_load _ _ rfl _ (F119.e rfl) _ (lv1 cu_one_55 (M55.cell (i := 1) rfl (j := 0) rfl))) ?_
          clear F119; try clear a108
          intro a109 F120
          refine list_val F120 (wn rfl) rfl rfl (.int .i64 i) (ex_move _ rfl _ (F120.e rfl)) ?_
          clear F120; try clear a109
          intro a110 F121
          refine list_val F121 (wn rfl) rfl rfl (.pointer (some (adr.add (i * 34)))) (ex_ix _ _ _ rfl 34 cu_sl_55_34 adr _ _ (F121.e rfl) .i64 _ (F121.e rfl) i rfl (by omega) (adr.add (i * 34)) rfl) ?_
          clear F121; try clear a110
          intro a111 F122
          refine list_val F122 (wn rfl) rfl rfl (.pointer (some ((adr.add (i * 34)).add 33))) (ex_fa _ _ _ rfl _ (F122.e rfl) 33 cu_fa_107_2_33 ((adr.add (i * 34)).add 33) rfl) ?_
          clear F122; try clear a111
          intro a112 F123
          refine list_val F123 (wn rfl) rfl rfl (.int .i64 ki.til) (ex_load _ _ rfl _ (F123.e rfl) _ (lv1 cu_one_2 (zi.cell 33 _ (Key.cs_33 _)))) ?_
          clear F123; try clear a112
          intro a113 F124
          refine list_val F124 (wn rfl) rfl rfl (.bool true) (ex_bin .eql _ _ _ _ rfl .i64 _ _ (F124.e rfl) rfl _ (b_eql (by simp [ht0]))) ?_
          clear F124; try clear a113
          intro a114 F125
          refine list_val F125 (wn rfl) rfl rfl (.bool true) (ex_move _ rfl _ (F125.e rfl)) ?_
          clear F125; try clear a114
          intro a115 F126
          refine list_skip F126 (F126.wants 79 true rfl (by kernel_rfl) rfl false rfl) rfl rfl ?_
          clear F126; try clear a115
          intro a116 F127
          refine list_skip F127 (F127.wants 79 true rfl (by kernel_rfl) rfl false rfl) rfl rfl ?_
          clear F127; try clear a116
          intro a117 F128
          refine list_skip F128 (F128.wants 79 true rfl (by kernel_rfl) rfl false rfl) rfl rfl ?_
          clear F128; try clear a117
          intro a118 F129
          refine list_skip F129 (F129.wants 79 true rfl (by kernel_rfl) rfl false rfl) rfl rfl ?_
          clear F129; try clear a118
          intro a119 F130
          refine list_skip F130 (F130.wants 79 true rfl (by kernel_rfl) rfl false rfl) rfl rfl ?_
          clear F130; try clear a119
          intro a120 F131
          refine list_skip F131 (F131.wants 79 true rfl (by kernel_rfl) rfl false rfl) rfl rfl ?_
          clear F131; try clear a120
          intro a121 F132
          refine list_skip F132 (F132.wants 79 true rfl (by kernel_rfl) rfl false rfl) rfl rfl ?_
          clear F132; try clear a121
          intro a122 F133
          refine list_skip F133 (F133.wants 79 true rfl (by kernel_rfl) rfl false rfl) rfl rfl ?_
          clear F133; try clear a122
          intro a123 F134
          refine list_val F134 (wn rfl) rfl rfl (.bool true) (ex_pick_t _ _ _ rfl (F134.e rfl) _ rfl) ?_
          clear F134; try clear a123
          intro a124 F135
          refine wpList_nil ?_
          have F136 : Fr 124 a124 [(0, .agg (timesArr s (.slice A ts.length c) ta tb)), (1, .pointer (some ⟨g1, 0, none⟩)), (2, .bool false), (3, .pointer (some ⟨g3, 0, none⟩)), (4, .bool true), (5, .int .i64 late), (6, .pointer (some ⟨g6, 0, none⟩)), (7, .pointer (some ⟨g7, 0, none⟩)), (8, .pointer (some ⟨g8, 0, none⟩)), (9, .int .i64 kk), (10, .int .i64 i), (18, .bool false), (64, .bool false), (69, .bool true), (88, .bool true)] := F135.keep ⟨rfl, rfl, rfl, rfl, rfl, rfl, rfl, rfl, rfl, rfl, rfl, rfl, rfl, rfl, rfl, trivial⟩
          clear F135
          refine then_n ?_
          refine wp_cond_true (F136.e rfl) ?_
          refine wp_seq ?_
          refine wp_seq ?_
          refine wp_only (fun ar wr => Fr 124 ar [(0, .agg (timesArr s (.slice A ts.length c) ta tb)), (1, .pointer (some ⟨g1, 0, none⟩)), (2, .bool false), (3, .pointer (some ⟨g3, 0, none⟩)), (4, .bool true), (5, .int .i64 late), (6, .pointer (some ⟨g6, 0, none⟩)), (7, .pointer (some ⟨g7, 0, none⟩)), (8, .pointer (some ⟨g8, 0, none⟩)), (9, .int .i64 kk), (10, .int .i64 i), (18, .bool false), (64, .bool false), (69, .bool true), (88, .bool true), (106, .bool false)] ∧ Mm w wr [⟨g8, #[.slice (some adw) ((flt late init).length + 1) c_46, .int .u64 next], 69⟩, ⟨g3, #[.slice (some adr) (init.length + 1) c3, .int .u64 next], 69⟩] ∧ RO wr (some adr) c3 ⟨init ++ [last], next⟩ ∧ RO wr (some adw) c_46 ⟨flt late init ++ [last], next⟩ ∧ At wr (adr.add (i * 34)) ki.cs ∧ At wr (adw.add (kk * 34)) ki.cs) ?_ ?_
          · refine region_any cu_follows_mixedOrders M55 (fun w56 M56 hb => ?_)
            replace O_r := O_r.below hb
            replace O_46 := O_46.below hb
            replace zi := zi.below hb
            replace zw := zw.below hb
            clear M55 hb
            try clear w55
            have hS : Below w56.heap.size w56 w56 := Below.refl _ _
            have MD := M56
            have D_O_r := O_r
            have D_O_46 := O_46
            have D_zi := zi
            have D_zw := zw
            refine any_take F136 0 rfl (by kernel_rfl) (by kernel_rfl) (by kernel_rfl) (wn rfl) rfl rfl (.int .i64 kk) (fun w' hS' => ex_move _ rfl _ (F136.e rfl)) hS ?_
            clear F136; try clear a124
            intro a125 F137
            refine any_take F137 1 rfl (by kernel_rfl) (by kernel_rfl) (by kernel_rfl) (wn rfl) rfl rfl (.pointer (some ⟨g8, 0, none⟩)) (fun w' hS' => ex_fa _ _ _ rfl _ (F137.e rfl) 0 cu_fa_69_0_0 ⟨g8, 0, none⟩ rfl) hS ?_
            clear F137; try clear a125
            intro a126 F138
            refine any_take F138 2 rfl (by kernel_rfl) (by kernel_rfl) (by kernel_rfl) (wn rfl) rfl rfl (.slice (some adw) ((flt late init).length + 1) c_46) (fun w' hS' => ex_load _ _ rfl _ (F138.e rfl) _ (lv1 cu_one_55 ((MD.below hS').cell (i := 0) rfl (j := 0) rfl))) hS ?_
            clear F138; try clear a126
            intro a127 F139
            refine any_take F139 3 rfl (by kernel_rfl) (by kernel_rfl) (by kernel_rfl) (wn rfl) rfl rfl (.int .i64 ((((flt late init).length + 1) : Nat) : Int)) (fun w' hS' => ex_len _ _ rfl 34 cu_sl_55_34 _ _ _ (F139.e rfl)) hS ?_
            clear F139; try clear a127
            intro a128 F140
            refine any_take F140 4 rfl (by kernel_rfl) (by kernel_rfl) (by kernel_rfl) (wn rfl) rfl rfl (.bool false) (fun w' hS' => ex_bin .geq _ _ _ _ rfl .i64 _ _ (F140.e rfl) (F140.e rfl) _ (b_geq (decide_eq_false (by omega)))) hS ?_
            clear F140; try clear a128
            intro a129 F141
            refine any_take F141 5 rfl (by kernel_rfl) (by kernel_rfl) (by kernel_rfl) (wn rfl) rfl rfl (.bool false) (fun w' hS' => ex_move _ rfl _ (F141.e rfl)) hS ?_
            clear F141; try clear a129
            intro a130 F142
            refine any_take F142 6 rfl (by kernel_rfl) (by kernel_rfl) (by kernel_rfl) (F142.wants 94 false rfl (by kernel_rfl) rfl true rfl) rfl rfl (.pointer (some ⟨g8, 0, none⟩)) (fun w' hS' => ex_fa _ _ _ rfl _ (F142.e rfl) 0 cu_fa_69_0_0 ⟨g8, 0, none⟩ rfl) hS ?_
            clear F142; try clear a130
            intro a131 F143
            refine any_take F143 7 rfl (by kernel_rfl) (by kernel_rfl) (by kernel_rfl) (F143.wants 94 false rfl (by kernel_rfl) rfl true rfl) rfl rfl (.slice (some adw) ((flt late init).length + 1) c_46) (fun w' hS' => ex_load _ _ rfl _ (F143.e rfl) _ (lv1 cu_one_55 ((MD.below hS').cell (i := 0) rfl (j := 0) rfl))) hS ?_
            clear F143; try clear a131
            intro a132 F144
            refine any_take F144 8 rfl (by kernel_rfl) (by kernel_rfl) (by kernel_rfl) (F144.wants 94 false rfl (by kernel_rfl) rfl true rfl) rfl rfl (.int .i64 kk) (fun w' hS' => ex_move _ rfl _ (F144.e rfl)) hS ?_
            clear F144; try clear a132
            intro a133 F145
            refine any_take F145 9 rfl (by kernel_rfl) (by kernel_rfl) (by kernel_rfl) (F145.wants 94 false rfl (by kernel_rfl) rfl true rfl) rfl rfl (.pointer (some (adw.add (kk * 34)))) (fun w' hS' => ex_ix _ _ _ rfl 34 cu_sl_55_34 adw _ _ (F145.e rfl) .i64 _ (F145.e rfl) kk rfl (by omega) (adw.add (kk * 34)) rfl) hS ?_
            clear F145; try clear a133
            intro a134 F146
            refine any_take F146 10 rfl (by kernel_rfl) (by kernel_rfl) (by kernel_rfl) (F146.wants 94 false rfl (by kernel_rfl) rfl true rfl) rfl rfl (.agg ki.arr) (fun w' hS' => ex_load _ _ rfl _ (F146.e rfl) _ (lvr (cs := ki.cs) (by rw [Key.cs_len]; exact cu_row_107_34) ((D_zw.below hS')))) hS ?_
            clear F146; try clear a134
            intro a135 F147
            refine any_take F147 11 rfl (by kernel_rfl) (by kernel_rfl) (by kernel_rfl) (F147.wants 94 false rfl (by kernel_rfl) rfl true rfl) rfl rfl (.pointer (some ⟨g3, 0, none⟩)) (fun w' hS' => ex_fa _ _ _ rfl _ (F147.e rfl) 0 cu_fa_69_0_0 ⟨g3, 0, none⟩ rfl) hS ?_
            clear F147; try clear a135
            intro a136 F148
            refine any_take F148 12 rfl (by kernel_rfl) (by kernel_rfl) (by kernel_rfl) (F148.wants 94 false rfl (by kernel_rfl) rfl true rfl) rfl rfl (.slice (some adr) (init.length + 1) c3) (fun w' hS' => ex_load _ _ rfl _ (F148.e rfl) _ (lv1 cu_one_55 ((MD.below hS').cell (i := 1) rfl (j := 0) rfl))) hS ?_
            clear F148; try clear a136
            intro a137 F149
            refine any_take F149 13 rfl (by kernel_rfl) (by kernel_rfl) (by kernel_rfl) (F149.wants 94 false rfl (by kernel_rfl) rfl true rfl) rfl rfl (.int .i64 i) (fun w' hS' => ex_move _ rfl _ (F149.e rfl)) hS ?_
            clear F149; try clear a137
            intro a138 F150
            refine any_take F150 14 rfl (by kernel_rfl) (by kernel_rfl) (by kernel_rfl) (F150.wants 94 false rfl (by kernel_rfl) rfl true rfl) rfl rfl (.pointer (some (adr.add (i * 34)))) (fun w' hS' => ex_ix _ _ _ rfl 34 cu_sl_55_34 adr _ _ (F150.e rfl) .i64 _ (F150.e rfl) i rfl (by omega) (adr.add (i * 34)) rfl) hS ?_
            clear F150; try clear a138
            intro a139 F151
            refine any_take F151 15 rfl (by kernel_rfl) (by kernel_rfl) (by kernel_rfl) (F151.wants 94 false rfl (by kernel_rfl) rfl true rfl) rfl rfl (.agg ki.arr) (fun w' hS' => ex_load _ _ rfl _ (F151.e rfl) _ (lvr (cs := ki.cs) (by rw [Key.cs_len]; exact cu_row_107_34) ((D_zi.below hS')))) hS ?_
            clear F151; try clear a139
            intro a140 F152
            refine any_take F152 16 rfl (by kernel_rfl) (by kernel_rfl) (by kernel_rfl) (F152.wants 94 false rfl (by kernel_rfl) rfl true rfl) rfl rfl (.bool false) (fun w' hS' => ex_neqk _ _ _ rfl ki ki (F152.e rfl) (F152.e rfl) false (by simp)) hS ?_
            clear F152; try clear a140
            intro a141 F153
            refine any_take F153 17 rfl (by kernel_rfl) (by kernel_rfl) (by kernel_rfl) (wn rfl) rfl rfl (.bool false) (fun w' hS' => ex_pick_f _ _ _ rfl (F153.e rfl) _ (F153.e rfl)) hS ?_
            clear F153; try clear a141
            intro a142 F154
            refine any_done (by kernel_rfl) ?_
            exact ⟨F154.keep ⟨rfl, rfl, rfl, rfl, rfl, rfl, rfl, rfl, rfl, rfl, rfl, rfl, rfl, rfl, rfl, rfl, trivial⟩, M56.pick' [0, 1] [⟨g8, #[.slice (some adw) ((flt late init).length + 1) c_46, .int .u64 next], 69⟩, ⟨g3, #[.slice (some adr) (init.length + 1) c3, .int .u64 next], 69⟩] ⟨rfl, rfl, trivial⟩ (by decide), O_r, O_46, zi, zw⟩
          clear F136 M55 O_r O_46 zi zw
          intro a143 w57 hR; obtain ⟨F155, M57, O_r, O_46, zi, zw⟩ := hR
          try clear a124
          try clear w55
          refine then_n ?_
          refine wp_cond_false (F155.e rfl) ?_
          refine wp_skip ?_
          refine then_n ?_
          refine wp_region_lit ?_
          refine list_val F155 (wn rfl) rfl rfl (.int .i64 kk) (ex_move _ rfl _ (F155.e rfl)) ?_
          clear F155; try clear a143
          intro a144 F156
          refine list_val F156 (wn rfl) rfl rfl (.int .i64 (kk + 1)) (ex_bin .add _ _ _ _ rfl .i64 _ _ (F156.e rfl) rfl _ (b_add (w_i64 (by omega) (by have := cnt_le late (init ++ [last]) i; rw [ring_len] at this; omega)))) ?_
          clear F156; try clear a144
          intro a145 F157
          refine list_val F157 (wn rfl) rfl rfl (.int .i64 (kk + 1)) (ex_assign _ rfl _ (F157.e rfl)) ?_
          clear F157; try clear a145
          intro a146 F158
          refine wpList_nil ?_
          have F159 : Fr 124 a146 [(0, .agg (timesArr s (.slice A ts.length c) ta tb)), (1, .pointer (some ⟨g1, 0, none⟩)), (2, .bool false), (3, .pointer (some ⟨g3, 0, none⟩)), (4, .bool true), (5, .int .i64 late), (6, .pointer (some ⟨g6, 0, none⟩)), (7, .pointer (some ⟨g7, 0, none⟩)), (8, .pointer (some ⟨g8, 0, none⟩)), (9, .int .i64 (kk + 1)), (10, .int .i64 i), (18, .bool false), (64, .bool false), (69, .bool true), (88, .bool true), (106, .bool false)] := F158.keep ⟨rfl, rfl, rfl, rfl, rfl, rfl, rfl, rfl, rfl, rfl, rfl, rfl, rfl, rfl, rfl, rfl, trivial⟩
          clear F158
          refine only_n ?_
          exact ⟨(kk + 1), F159.keep ⟨rfl, rfl, rfl, rfl, rfl, rfl, rfl, rfl, rfl, rfl, rfl, rfl, rfl, rfl, trivial⟩, M57.pick' [0, 1] _ ⟨rfl, rfl, trivial⟩ (by decide), O_r, O_46, zi, (by rw [cnt_succ _ _ _ hil, if_pos hst', hkk])⟩
        · by_cases hl : late < ki.til
          · have hst' : stay late (init ++ [last])[i] = true := by rw [hkg]; simp [stay, hl]
            have hlt := cnt_lt late _ i hil hst'
            have hget := cnt_get late _ i hil hst'
            rw [← flt_all hR, ← hkk] at hlt hget
            rw [ring_len] at hlt
            obtain ⟨ad', had, zw, _, _⟩ := at_Key (O_46.rk.1) (kk : Int) (by omega) (by simp only [ring_len]; omega)
            obtain rfl := Option.some.inj had
            clear had
            rw [show (kk : Int).toNat = kk from rfl, show rdK (⟨flt late init ++ [last], next⟩ : Rg).keys (kk : Int) = ki by
              rw [rdK_eq (show kk < (flt late init ++ [last]).length by rw [ring_len]; exact hlt)]
              exact ((List.getElem?_eq_some_iff.1 hget).2).trans hkg] at zw
            clear hget
            refine wp_region_lit ?_
            refine list_val F118 (wn rfl) rfl rfl (.pointer (some ⟨g3, 0, none⟩)) (ex_fa _ _ _ rfl _ (F118.e rfl) 0 cu_fa_69_0_0 ⟨g3, 0, none⟩ rfl) ?_
            clear F118; try clear a107
            intro a147 F160
            refine list_val F160 (wn rfl) rfl rfl (.slice (some adr) (init.length + 1) c3) (ex_load _ _ rfl _ (F160.e rfl) _ (lv1 cu_one_55 (M55.cell (i := 1) rfl (j := 0) rfl))) ?_
            clear F160; try clear a147
            intro a148 F161
            refine list_val F161 (wn rfl) rfl rfl (.int .i64 i) (ex_move _ rfl _ (F161.e rfl)) ?_
            clear F161; try clear a148
            intro a149 F162
            refine list_val F162 (wn rfl) rfl rfl (.pointer (some (adr.add (i * 34)))) (ex_ix _ _ _ rfl 34 cu_sl_55_34 adr _ _ (F162.e rfl) .i64 _ (F162.e rfl) i rfl (by omega) (adr.add (i * 34)) rfl) ?_
            clear F162; try clear a149
            intro a150 F163
            refine list_val F163 (wn rfl) rfl rfl (.pointer (some ((adr.add (i * 34)).add 33))) (ex_fa _ _ _ rfl _ (F163.e rfl) 33 cu_fa_107_2_33 ((adr.add (i * 34)).add 33) rfl) ?_
            clear F163; try clear a150
            intro a151 F164
            refine list_val F164 (wn rfl) rfl rfl (.int .i64 ki.til) (ex_load _ _ rfl _ (F164.e rfl) _ (lv1 cu_one_2 (zi.cell 33 _ (Key.cs_33 _)))) ?_
            clear F164; try clear a151
            intro a152 F165
            refine list_val F165 (wn rfl) rfl rfl (.bool false) (ex_bin .eql _ _ _ _ rfl .i64 _ _ (F165.e rfl) rfl _ (b_eql (by simp [ht0]))) ?_
            clear F165; try clear a152
            intro a153 F166
            refine list_val F166 (wn rfl) rfl rfl (.bool false) (ex_move _ rfl _ (F166.e rfl)) ?_
            clear F166; try clear a153
            intro a154 F167
            refine list_val F167 (F167.wants 79 false rfl (by kernel_rfl) rfl true rfl) rfl rfl (.pointer (some ⟨g3, 0, none⟩)) (ex_fa _ _ _ rfl _ (F167.e rfl) 0 cu_fa_69_0_0 ⟨g3, 0, none⟩ rfl) ?_
            clear F167; try clear a154
            intro a155 F168
            refine list_val F168 (F168.wants 79 false rfl (by kernel_rfl) rfl true rfl) rfl rfl (.slice (some adr) (init.length + 1) c3) (ex_load _ _ rfl _ (F168.e rfl) _ (lv1 cu_one_55 (M55.cell (i := 1) rfl (j := 0) rfl))) ?_
            clear F168; try clear a155
            intro a156 F169
            refine list_val F169 (F169.wants 79 false rfl (by kernel_rfl) rfl true rfl) rfl rfl (.int .i64 i) (ex_move _ rfl _ (F169.e rfl)) ?_
            clear F169; try clear a156
            intro a157 F170
            refine list_val F170 (F170.wants 79 false rfl (by kernel_rfl) rfl true rfl) rfl rfl (.pointer (some (adr.add (i * 34)))) (ex_ix _ _ _ rfl 34 cu_sl_55_34 adr _ _ (F170.e rfl) .i64 _ (F170.e rfl) i rfl (by omega) (adr.add (i * 34)) rfl) ?_
            clear F170; try clear a157
            intro a158 F171
            refine list_val F171 (F171.wants 79 false rfl (by kernel_rfl) rfl true rfl) rfl rfl (.pointer (some ((adr.add (i * 34)).add 33))) (ex_fa _ _ _ rfl _ (F171.e rfl) 33 cu_fa_107_2_33 ((adr.add (i * 34)).add 33) rfl) ?_
            clear F171; try clear a158
            intro a159 F172
            refine list_val F172 (F172.wants 79 false rfl (by kernel_rfl) rfl true rfl) rfl rfl (.int .i64 ki.til) (ex_load _ _ rfl _ (F172.e rfl) _ (lv1 cu_one_2 (zi.cell 33 _ (Key.cs_33 _)))) ?_
            clear F172; try clear a159
            intro a160 F173
            refine list_val F173 (F173.wants 79 false rfl (by kernel_rfl) rfl true rfl) rfl rfl (.int .i64 late) (ex_move _ rfl _ (F173.e rfl)) ?_
            clear F173; try clear a160
            intro a161 F174
            refine list_val F174 (F174.wants 79 false rfl (by kernel_rfl) rfl true rfl) rfl rfl (.bool true) (ex_bin .gtr _ _ _ _ rfl .i64 _ _ (F174.e rfl) (F174.e rfl) _ (b_gtr (decide_eq_true hl))) ?_
            clear F174; try clear a161
            intro a162 F175
            refine list_val F175 (wn rfl) rfl rfl (.bool true) (ex_pick_f _ _ _ rfl (F175.e rfl) _ (F175.e rfl)) ?_
            clear F175; try clear a162
            intro a163 F176
            refine wpList_nil ?_
            have F177 : Fr 124 a163 [(0, .agg (timesArr s (.slice A ts.length c) ta tb)), (1, .pointer (some ⟨g1, 0, none⟩)), (2, .bool false), (3, .pointer (some ⟨g3, 0, none⟩)), (4, .bool true), (5, .int .i64 late), (6, .pointer (some ⟨g6, 0, none⟩)), (7, .pointer (some ⟨g7, 0, none⟩)), (8, .pointer (some ⟨g8, 0, none⟩)), (9, .int .i64 kk), (10, .int .i64 i), (18, .bool false), (64, .bool false), (69, .bool true), (88, .bool true)] := F176.keep ⟨rfl, rfl, rfl, rfl, rfl, rfl, rfl, rfl, rfl, rfl, rfl, rfl, rfl, rfl, rfl, trivial⟩
            clear F176
            refine then_n ?_
            refine wp_cond_true (F177.e rfl) ?_
            refine wp_seq ?_
            refine wp_seq ?_
            refine wp_only (fun ar wr => Fr 124 ar [(0, .agg (timesArr s (.slice A ts.length c) ta tb)), (1, .pointer (some ⟨g1, 0, none⟩)), (2, .bool false), (3, .pointer (some ⟨g3, 0, none⟩)), (4, .bool true), (5, .int .i64 late), (6, .pointer (some ⟨g6, 0, none⟩)), (7, .pointer (some ⟨g7, 0, none⟩)), (8, .pointer (some ⟨g8, 0, none⟩)), (9, .int .i64 kk), (10, .int .i64 i), (18, .bool false), (64, .bool false), (69, .bool true), (88, .bool true), (106, .bool false)] ∧ Mm w wr [⟨g8, #[.slice (some adw) ((flt late init).length + 1) c_46, .int .u64 next], 69⟩, ⟨g3, #[.slice (some adr) (init.length + 1) c3, .int .u64 next], 69⟩] ∧ RO wr (some adr) c3 ⟨init ++ [last], next⟩ ∧ RO wr (some adw) c_46 ⟨flt late init ++ [last], next⟩ ∧ At wr (adr.add (i * 34)) ki.cs ∧ At wr (adw.add (kk * 34)) ki.cs) ?_ ?_
            · refine region_any cu_follows_mixedOrders M55 (fun w58 M58 hb => ?_)
              replace O_r := O_r.below hb
              replace O_46 := O_46.below hb
              replace zi := zi.below hb
              replace zw := zw.below hb
              clear M55 hb
              try clear w55
              have hS : Below w58.heap.size w58 w58 := Below.refl _ _
              have MD := M58
              have D_O_r := O_r
              have D_O_46 := O_46
              have D_zi := zi
              have D_zw := zw
              refine any_take F177 0 rfl (by kernel_rfl) (by kernel_rfl) (by kernel_rfl) (wn rfl) rfl rfl (.int .i64 kk) (fun w' hS' => ex_move _ rfl _ (F177.e rfl)) hS ?_
              clear F177; try clear a163
              intro a164 F178
              refine any_take F178 1 rfl (by kernel_rfl) (by kernel_rfl) (by kernel_rfl) (wn rfl) rfl rfl (.pointer (some ⟨g8, 0, none⟩)) (fun w' hS' => ex_fa _ _ _ rfl _ (F178.e rfl) 0 cu_fa_69_0_0 ⟨g8, 0, none⟩ rfl) hS ?_
              clear F178; try clear a164
              intro a165 F179
              refine any_take F179 2 rfl (by kernel_rfl) (by kernel_rfl) (by kernel_rfl) (wn rfl) rfl rfl (.slice (some adw) ((flt late init).length + 1) c_46) (fun w' hS' => ex_load _ _ rfl _ (F179.e rfl) _ (lv1 cu_one_55 ((MD.below hS').cell (i := 0) rfl (j := 0) rfl))) hS ?_
              clear F179; try clear a165
              intro a166 F180
              refine any_take F180 3 rfl (by kernel_rfl) (by kernel_rfl) (by kernel_rfl) (wn rfl) rfl rfl (.int .i64 ((((flt late init).length + 1) : Nat) : Int)) (fun w' hS' => ex_len _ _ rfl 34 cu_sl_55_34 _ _ _ (F180.e rfl)) hS ?_
              clear F180; try clear a166
              intro a167 F181
              refine any_take F181 4 rfl (by kernel_rfl) (by kernel_rfl) (by kernel_rfl) (wn rfl) rfl rfl (.bool false) (fun w' hS' => ex_bin .geq _ _ _ _ rfl .i64 _ _ (F181.e rfl) (F181.e rfl) _ (b_geq (decide_eq_false (by omega)))) hS ?_
              clear F181; try clear a167
              intro a168 F182
              refine any_take F182 5 rfl (by kernel_rfl) (by kernel_rfl) (by kernel_rfl) (wn rfl) rfl rfl (.bool false) (fun w' hS' => ex_move _ rfl _ (F182.e rfl)) hS ?_
              clear F182; try clear a168
              intro a169 F183
              refine any_take F183 6 rfl (by kernel_rfl) (by kernel_rfl) (by kernel_rfl) (F183.wants 94 false rfl (by kernel_rfl) rfl true rfl) rfl rfl (.pointer (some ⟨g8, 0, none⟩)) (fun w' hS' => ex_fa _ _ _ rfl _ (F183.e rfl) 0 cu_fa_69_0_0 ⟨g8, 0, none⟩ rfl) hS ?_
              clear F183; try clear a169
              intro a170 F184
              refine any_take F184 7 rfl (by kernel_rfl) (by kernel_rfl) (by kernel_rfl) (F184.wants 94 false rfl (by kernel_rfl) rfl true rfl) rfl rfl (.slice (some adw) ((flt late init).length + 1) c_46) (fun w' hS' => ex_load _ _ rfl _ (F184.e rfl) _ (lv1 cu_one_55 ((MD.below hS').cell (i := 0) rfl (j := 0) rfl))) hS ?_
              clear F184; try clear a170
              intro a171 F185
              refine any_take F185 8 rfl (by kernel_rfl) (by kernel_rfl) (by kernel_rfl) (F185.wants 94 false rfl (by kernel_rfl) rfl true rfl) rfl rfl (.int .i64 kk) (fun w' hS' => ex_move _ rfl _ (F185.e rfl)) hS ?_
              clear F185; try clear a171
              intro a172 F186
              refine any_take F186 9 rfl (by kernel_rfl) (by kernel_rfl) (by kernel_rfl) (F186.wants 94 false rfl (by kernel_rfl) rfl true rfl) rfl rfl (.pointer (some (adw.add (kk * 34)))) (fun w' hS' => ex_ix _ _ _ rfl 34 cu_sl_55_34 adw _ _ (F186.e rfl) .i64 _ (F186.e rfl) kk rfl (by omega) (adw.add (kk * 34)) rfl) hS ?_
              clear F186; try clear a172
              intro a173 F187
              refine any_take F187 10 rfl (by kernel_rfl) (by kernel_rfl) (by kernel_rfl) (F187.wants 94 false rfl (by kernel_rfl) rfl true rfl) rfl rfl (.agg ki.arr) (fun w' hS' => ex_load _ _ rfl _ (F187.e rfl) _ (lvr (cs := ki.cs) (by rw [Key.cs_len]; exact cu_row_107_34) ((D_zw.below hS')))) hS ?_
              clear F187; try clear a173
              intro a174 F188
              refine any_take F188 11 rfl (by kernel_rfl) (by kernel_rfl) (by kernel_rfl) (F188.wants 94 false rfl (by kernel_rfl) rfl true rfl) rfl rfl (.pointer (some ⟨g3, 0, none⟩)) (fun w' hS' => ex_fa _ _ _ rfl _ (F188.e rfl) 0 cu_fa_69_0_0 ⟨g3, 0, none⟩ rfl) hS ?_
              clear F188; try clear a174
              intro a175 F189
              refine any_take F189 12 rfl (by kernel_rfl) (by kernel_rfl) (by kernel_rfl) (F189.wants 94 false rfl (by kernel_rfl) rfl true rfl) rfl rfl (.slice (some adr) (init.length + 1) c3) (fun w' hS' => ex_load _ _ rfl _ (F189.e rfl) _ (lv1 cu_one_55 ((MD.below hS').cell (i := 1) rfl (j := 0) rfl))) hS ?_
              clear F189; try clear a175
              intro a176 F190
              refine any_take F190 13 rfl (by kernel_rfl) (by kernel_rfl) (by kernel_rfl) (F190.wants 94 false rfl (by kernel_rfl) rfl true rfl) rfl rfl (.int .i64 i) (fun w' hS' => ex_move _ rfl _ (F190.e rfl)) hS ?_
              clear F190; try clear a176
              intro a177 F191
              refine any_take F191 14 rfl (by kernel_rfl) (by kernel_rfl) (by kernel_rfl) (F191.wants 94 false rfl (by kernel_rfl) rfl true rfl) rfl rfl (.pointer (some (adr.add (i * 34)))) (fun w' hS' => ex_ix _ _ _ rfl 34 cu_sl_55_34 adr _ _ (F191.e rfl) .i64 _ (F191.e rfl) i rfl (by omega) (adr.add (i * 34)) rfl) hS ?_
              clear F191; try clear a177
              intro a178 F192
              refine any_take F192 15 rfl (by kernel_rfl) (by kernel_rfl) (by kernel_rfl) (F192.wants 94 false rfl (by kernel_rfl) rfl true rfl) rfl rfl (.agg ki.arr) (fun w' hS' => ex_load _ _ rfl _ (F192.e rfl) _ (lvr (cs := ki.cs) (by rw [Key.cs_len]; exact cu_row_107_34) ((D_zi.below hS')))) hS ?_
              clear F192; try clear a178
              intro a179 F193
              refine any_take F193 16 rfl (by kernel_rfl) (by kernel_rfl) (by kernel_rfl) (F193.wants 94 false rfl (by kernel_rfl) rfl true rfl) rfl rfl (.bool false) (fun w' hS' => ex_neqk _ _ _ rfl ki ki (F193.e rfl) (F193.e rfl) false (by simp)) hS ?_
              clear F193; try clear a179
              intro a180 F194
              refine any_take F194 17 rfl (by kernel_rfl) (by kernel_rfl) (by kernel_rfl) (wn rfl) rfl rfl (.bool false) (fun w' hS' => ex_pick_f _ _ _ rfl (F194.e rfl) _ (F194.e rfl)) hS ?_
              clear F194; try clear a180
              intro a181 F195
              refine any_done (by kernel_rfl) ?_
              exact ⟨F195.keep ⟨rfl, rfl, rfl, rfl, rfl, rfl, rfl, rfl, rfl, rfl, rfl, rfl, rfl, rfl, rfl, rfl, trivial⟩, M58.pick' [0, 1] [⟨g8, #[.slice (some adw) ((flt late init).length + 1) c_46, .int .u64 next], 69⟩, ⟨g3, #[.slice (some adr) (init.length + 1) c3, .int .u64 next], 69⟩] ⟨rfl, rfl, trivial⟩ (by decide), O_r, O_46, zi, zw⟩
            clear F177 M55 O_r O_46 zi zw
            intro a182 w59 hR; obtain ⟨F196, M59, O_r, O_46, zi, zw⟩ := hR
            try clear a163
            try clear w55
            refine then_n ?_
            refine wp_cond_false (F196.e rfl) ?_
            refine wp_skip ?_
            refine then_n ?_
            refine wp_region_lit ?_
            refine list_val F196 (wn rfl) rfl rfl (.int .i64 kk) (ex_move _ rfl _ (F196.e rfl)) ?_
            clear F196; try clear a182
            intro a183 F197
            refine list_val F197 (wn rfl) rfl rfl (.int .i64 (kk + 1)) (ex_bin .add _ _ _ _ rfl .i64 _ _ (F197.e rfl) rfl _ (b_add (w_i64 (by omega) (by have := cnt_le late (init ++ [last]) i; rw [ring_len] at this; omega)))) ?_
            clear F197; try clear a183
            intro a184 F198
            refine list_val F198 (wn rfl) rfl rfl (.int .i64 (kk + 1)) (ex_assign _ rfl _ (F198.e rfl)) ?_
            clear F198; try clear a184
            intro a185 F199
            refine wpList_nil ?_
            have F200 : Fr 124 a185 [(0, .agg (timesArr s (.slice A ts.length c) ta tb)), (1, .pointer (some ⟨g1, 0, none⟩)), (2, .bool false), (3, .pointer (some ⟨g3, 0, none⟩)), (4, .bool true), (5, .int .i64 late), (6, .pointer (some ⟨g6, 0, none⟩)), (7, .pointer (some ⟨g7, 0, none⟩)), (8, .pointer (some ⟨g8, 0, none⟩)), (9, .int .i64 (kk + 1)), (10, .int .i64 i), (18, .bool false), (64, .bool false), (69, .bool true), (88, .bool true), (106, .bool false)] := F199.keep ⟨rfl, rfl, rfl, rfl, rfl, rfl, rfl, rfl, rfl, rfl, rfl, rfl, rfl, rfl, rfl, rfl, trivial⟩
            clear F199
            refine only_n ?_
            exact ⟨(kk + 1), F200.keep ⟨rfl, rfl, rfl, rfl, rfl, rfl, rfl, rfl, rfl, rfl, rfl, rfl, rfl, rfl, trivial⟩, M59.pick' [0, 1] _ ⟨rfl, rfl, trivial⟩ (by decide), O_r, O_46, zi, (by rw [cnt_succ _ _ _ hil, if_pos hst', hkk])⟩
          · have hst' : stay late (init ++ [last])[i] = false := by rw [hkg]; simp [stay, ht0]; omega
            refine wp_region_lit ?_
            refine list_val F118 (wn rfl) rfl rfl (.pointer (some ⟨g3, 0, none⟩)) (ex_fa _ _ _ rfl _ (F118.e rfl) 0 cu_fa_69_0_0 ⟨g3, 0, none⟩ rfl) ?_
            clear F118; try clear a107
            intro a186 F201
            refine list_val F201 (wn rfl) rfl rfl (.slice (some adr) (init.length + 1) c3) (ex_load _ _ rfl _ (F201.e rfl) _ (lv1 cu_one_55 (M55.cell (i := 1) rfl (j := 0) rfl))) ?_
            clear F201; try clear a186
            intro a187 F202
            refine list_val F202 (wn rfl) rfl rfl (.int .i64 i) (ex_move _ rfl _ (F202.e rfl)) ?_
            clear F202; try clear a187
            intro a188 F203
            refine list_val F203 (wn rfl) rfl rfl (.pointer (some (adr.add (i * 34)))) (ex_ix _ _ _ rfl 34 cu_sl_55_34 adr _ _ (F203.e rfl) .i64 _ (F203.e rfl) i rfl (by omega) (adr.add (i * 34)) rfl) ?_
            clear F203; try clear a188
            intro a189 F204
            refine list_val F204 (wn rfl) rfl rfl (.pointer (some ((adr.add (i * 34)).add 33))) (ex_fa _ _ _ rfl _ (F204.e rfl) 33 cu_fa_107_2_33 ((adr.add (i * 34)).add 33) rfl) ?_
            clear F204; try clear a189
            intro a190 F205
            refine list_val F205 (wn rfl) rfl rfl (.int .i64 ki.til) (ex_load _ _ rfl _ (F205.e rfl) _ (lv1 cu_one_2 (zi.cell 33 _ (Key.cs_33 _)))) ?_
            clear F205; try clear a190
            intro a191 F206
            refine list_val F206 (wn rfl) rfl rfl (.bool false) (ex_bin .eql _ _ _ _ rfl .i64 _ _ (F206.e rfl) rfl _ (b_eql (by simp [ht0]))) ?_
            clear F206; try clear a191
            intro a192 F207
            refine list_val F207 (wn rfl) rfl rfl (.bool false) (ex_move _ rfl _ (F207.e rfl)) ?_
            clear F207; try clear a192
            intro a193 F208
            refine list_val F208 (F208.wants 79 false rfl (by kernel_rfl) rfl true rfl) rfl rfl (.pointer (some ⟨g3, 0, none⟩)) (ex_fa _ _ _ rfl _ (F208.e rfl) 0 cu_fa_69_0_0 ⟨g3, 0, none⟩ rfl) ?_
            clear F208; try clear a193
            intro a194 F209
            refine list_val F209 (F209.wants 79 false rfl (by kernel_rfl) rfl true rfl) rfl rfl (.slice (some adr) (init.length + 1) c3) (ex_load _ _ rfl _ (F209.e rfl) _ (lv1 cu_one_55 (M55.cell (i := 1) rfl (j := 0) rfl))) ?_
            clear F209; try clear a194
            intro a195 F210
            refine list_val F210 (F210.wants 79 false rfl (by kernel_rfl) rfl true rfl) rfl rfl (.int .i64 i) (ex_move _ rfl _ (F210.e rfl)) ?_
            clear F210; try clear a195
            intro a196 F211
            refine list_val F211 (F211.wants 79 false rfl (by kernel_rfl) rfl true rfl) rfl rfl (.pointer (some (adr.add (i * 34)))) (ex_ix _ _ _ rfl 34 cu_sl_55_34 adr _ _ (F211.e rfl) .i64 _ (F211.e rfl) i rfl (by omega) (adr.add (i * 34)) rfl) ?_
            clear F211; try clear a196
            intro a197 F212
            refine list_val F212 (F212.wants 79 false rfl (by kernel_rfl) rfl true rfl) rfl rfl (.pointer (some ((adr.add (i * 34)).add 33))) (ex_fa _ _ _ rfl _ (F212.e rfl) 33 cu_fa_107_2_33 ((adr.add (i * 34)).add 33) rfl) ?_
            clear F212; try clear a197
            intro a198 F213
            refine list_val F213 (F213.wants 79 false rfl (by kernel_rfl) rfl true rfl) rfl rfl (.int .i64 ki.til) (ex_load _ _ rfl _ (F213.e rfl) _ (lv1 cu_one_2 (zi.cell 33 _ (Key.cs_33 _)))) ?_
            clear F213; try clear a198
            intro a199 F214
            refine list_val F214 (F214.wants 79 false rfl (by kernel_rfl) rfl true rfl) rfl rfl (.int .i64 late) (ex_move _ rfl _ (F214.e rfl)) ?_
            clear F214; try clear a199
            intro a200 F215
            refine list_val F215 (F215.wants 79 false rfl (by kernel_rfl) rfl true rfl) rfl rfl (.bool false) (ex_bin .gtr _ _ _ _ rfl .i64 _ _ (F215.e rfl) (F215.e rfl) _ (b_gtr (decide_eq_false hl))) ?_
            clear F215; try clear a200
            intro a201 F216
            refine list_val F216 (wn rfl) rfl rfl (.bool false) (ex_pick_f _ _ _ rfl (F216.e rfl) _ (F216.e rfl)) ?_
            clear F216; try clear a201
            intro a202 F217
            refine wpList_nil ?_
            have F218 : Fr 124 a202 [(0, .agg (timesArr s (.slice A ts.length c) ta tb)), (1, .pointer (some ⟨g1, 0, none⟩)), (2, .bool false), (3, .pointer (some ⟨g3, 0, none⟩)), (4, .bool true), (5, .int .i64 late), (6, .pointer (some ⟨g6, 0, none⟩)), (7, .pointer (some ⟨g7, 0, none⟩)), (8, .pointer (some ⟨g8, 0, none⟩)), (9, .int .i64 kk), (10, .int .i64 i), (18, .bool false), (64, .bool false), (69, .bool true), (88, .bool false)] := F217.keep ⟨rfl, rfl, rfl, rfl, rfl, rfl, rfl, rfl, rfl, rfl, rfl, rfl, rfl, rfl, rfl, trivial⟩
            clear F217
            refine then_n ?_
            refine wp_cond_false (F218.e rfl) ?_
            refine wp_skip ?_
            refine only_n ?_
            exact ⟨kk, F218.keep ⟨rfl, rfl, rfl, rfl, rfl, rfl, rfl, rfl, rfl, rfl, rfl, rfl, rfl, rfl, trivial⟩, M55.pick' [0, 1] _ ⟨rfl, rfl, trivial⟩ (by decide), O_r, O_46, zi, (by rw [cnt_succ _ _ _ hil, if_neg (by rw [hst']; simp), Nat.add_zero]; exact hkk)⟩
      clear F118 M55 O_r O_46 zi
      intro a203 w60 hR; obtain ⟨kn, F219, M60, O_r, O_46, zi, hkn⟩ := hR
      try clear a107
      try clear w55
      refine in_n ?_
      refine then_n ?_
      refine wp_region_lit ?_
      refine list_val F219 (wn rfl) rfl rfl (.int .i64 i) (ex_move _ rfl _ (F219.e rfl)) ?_
      clear F219; try clear a203
      intro a204 F220
      refine list_val F220 (wn rfl) rfl rfl (.int .i64 (i + 1)) (ex_bin .add _ _ _ _ rfl .i64 _ _ (F220.e rfl) rfl _ (b_add (w_i64 (by omega) (by omega)))) ?_
      clear F220; try clear a204
      intro a205 F221
      refine list_val F221 (wn rfl) rfl rfl (.int .i64 (i + 1)) (ex_assign _ rfl _ (F221.e rfl)) ?_
      clear F221; try clear a205
      intro a206 F222
      refine wpList_nil ?_
      have F223 : Fr 124 a206 [(0, .agg (timesArr s (.slice A ts.length c) ta tb)), (1, .pointer (some ⟨g1, 0, none⟩)), (2, .bool false), (3, .pointer (some ⟨g3, 0, none⟩)), (4, .bool true), (5, .int .i64 late), (6, .pointer (some ⟨g6, 0, none⟩)), (7, .pointer (some ⟨g7, 0, none⟩)), (8, .pointer (some ⟨g8, 0, none⟩)), (9, .int .i64 kn), (10, .int .i64 (i + 1)), (18, .bool false), (64, .bool false), (69, .bool true)] := F222.keep ⟨rfl, rfl, rfl, rfl, rfl, rfl, rfl, rfl, rfl, rfl, rfl, rfl, rfl, rfl, trivial⟩
      clear F222
      refine then_n ?_
      refine ⟨⟨(i + 1), kn, F223.keep ⟨rfl, rfl, rfl, rfl, rfl, rfl, rfl, rfl, rfl, rfl, rfl, rfl, rfl, trivial⟩, M60.pick' [0, 1] [⟨g8, #[.slice (some adw) ((flt late init).length + 1) c_46, .int .u64 next], 69⟩, ⟨g3, #[.slice (some adr) (init.length + 1) c3, .int .u64 next], 69⟩] ⟨rfl, rfl, trivial⟩ (by decide), O_r, O_46, (by omega), hkn⟩, ?_⟩
      exact meas (F223.e (t := 10) rfl) (Fh1.e (t := 10) rfl) (Nat.lt_succ_self _) (by omega)
    · have hke : kk = (flt late init).length + 1 := by
        rw [hkk, cnt_all _ _ _ (by rw [ring_len]; omega), ← flt_all hR, ring_len]
      refine wp_seq ?_
      refine wp_seq ?_
      refine wp_region_lit ?_
      refine list_val F112 (wn rfl) rfl rfl (.int .i64 i) (ex_move _ rfl _ (F112.e rfl)) ?_
      clear F112; try clear a102
      intro a207 F224
      refine list_val F224 (wn rfl) rfl rfl (.pointer (some ⟨g3, 0, none⟩)) (ex_fa _ _ _ rfl _ (F224.e rfl) 0 cu_fa_69_0_0 ⟨g3, 0, none⟩ rfl) ?_
      clear F224; try clear a207
      intro a208 F225
      refine list_val F225 (wn rfl) rfl rfl (.slice (some adr) (init.length + 1) c3) (ex_load _ _ rfl _ (F225.e rfl) _ (lv1 cu_one_55 (M55.cell (i := 1) rfl (j := 0) rfl))) ?_
      clear F225; try clear a208
      intro a209 F226
      refine list_val F226 (wn rfl) rfl rfl (.int .i64 (((init.length + 1) : Nat) : Int)) (ex_len _ _ rfl 34 cu_sl_55_34 _ _ _ (F226.e rfl)) ?_
      clear F226; try clear a209
      intro a210 F227
      refine list_val F227 (wn rfl) rfl rfl (.bool false) (ex_bin .lss _ _ _ _ rfl .i64 _ _ (F227.e rfl) (F227.e rfl) _ (b_lss (decide_eq_false (by omega)))) ?_
      clear F227; try clear a210
      intro a211 F228
      refine wpList_nil ?_
      have F229 : Fr 124 a211 [(0, .agg (timesArr s (.slice A ts.length c) ta tb)), (1, .pointer (some ⟨g1, 0, none⟩)), (2, .bool false), (3, .pointer (some ⟨g3, 0, none⟩)), (4, .bool true), (5, .int .i64 late), (6, .pointer (some ⟨g6, 0, none⟩)), (7, .pointer (some ⟨g7, 0, none⟩)), (8, .pointer (some ⟨g8, 0, none⟩)), (9, .int .i64 kk), (10, .int .i64 i), (18, .bool false), (64, .bool false), (69, .bool false)] := F228.keep ⟨rfl, rfl, rfl, rfl, rfl, rfl, rfl, rfl, rfl, rfl, rfl, rfl, rfl, rfl, trivial⟩
      clear F228
      refine then_n ?_
      refine wp_cond_false (F229.e rfl) ?_
      refine wp_exit ?_
      refine then_x ?_
      refine then_x ?_
      refine in_hit ?_
      refine then_n ?_
      refine wp_seq ?_
      refine wp_region_lit ?_
      refine list_val F229 (wn rfl) rfl rfl (.int .i64 kk) (ex_move _ rfl _ (F229.e rfl)) ?_
      clear F229; try clear a211
      intro a212 F230
      refine list_val F230 (wn rfl) rfl rfl (.pointer (some ⟨g8, 0, none⟩)) (ex_fa _ _ _ rfl _ (F230.e rfl) 0 cu_fa_69_0_0 ⟨g8, 0, none⟩ rfl) ?_
      clear F230; try clear a212
      intro a213 F231
      refine list_val F231 (wn rfl) rfl rfl (.slice (some adw) ((flt late init).length + 1) c_46) (ex_load _ _ rfl _ (F231.e rfl) _ (lv1 cu_one_55 (M55.cell (i := 0) rfl (j := 0) rfl))) ?_
      clear F231; try clear a213
      intro a214 F232
      refine list_val F232 (wn rfl) rfl rfl (.int .i64 ((((flt late init).length + 1) : Nat) : Int)) (ex_len _ _ rfl 34 cu_sl_55_34 _ _ _ (F232.e rfl)) ?_
      clear F232; try clear a214
      intro a215 F233
      refine list_val F233 (wn rfl) rfl rfl (.bool true) (ex_bin .eql _ _ _ _ rfl .i64 _ _ (F233.e rfl) (F233.e rfl) _ (b_eql (by rw [hke]; simp))) ?_
      clear F233; try clear a215
      intro a216 F234
      refine list_val F234 (wn rfl) rfl rfl (.bool true) (ex_move _ rfl _ (F234.e rfl)) ?_
      clear F234; try clear a216
      intro a217 F235
      refine list_val F235 (F235.wants 114 true rfl (by kernel_rfl) rfl true rfl) rfl rfl (.pointer (some ⟨g8, 1, none⟩)) (ex_fa _ _ _ rfl _ (F235.e rfl) 1 cu_fa_69_1_1 ⟨g8, 1, none⟩ rfl) ?_
      clear F235; try clear a217
      intro a218 F236
      refine list_val F236 (F236.wants 114 true rfl (by kernel_rfl) rfl true rfl) rfl rfl (.int .u64 next) (ex_load _ _ rfl _ (F236.e rfl) _ (lv1 cu_one_67 (M55.cell (i := 0) rfl (j := 1) rfl))) ?_
      clear F236; try clear a218
      intro a219 F237
      refine list_val F237 (F237.wants 114 true rfl (by kernel_rfl) rfl true rfl) rfl rfl (.pointer (some ⟨g3, 1, none⟩)) (ex_fa _ _ _ rfl _ (F237.e rfl) 1 cu_fa_69_1_1 ⟨g3, 1, none⟩ rfl) ?_
      clear F237; try clear a219
      intro a220 F238
      refine list_val F238 (F238.wants 114 true rfl (by kernel_rfl) rfl true rfl) rfl rfl (.int .u64 next) (ex_load _ _ rfl _ (F238.e rfl) _ (lv1 cu_one_67 (M55.cell (i := 1) rfl (j := 1) rfl))) ?_
      clear F238; try clear a220
      intro a221 F239
      refine list_val F239 (F239.wants 114 true rfl (by kernel_rfl) rfl true rfl) rfl rfl (.bool true) (ex_bin .eql _ _ _ _ rfl .u64 _ _ (F239.e rfl) (F239.e rfl) _ (b_eql (by simp))) ?_
      clear F239; try clear a221
      intro a222 F240
      refine list_val F240 (wn rfl) rfl rfl (.bool true) (ex_pick_t _ _ _ rfl (F240.e rfl) _ (F240.e rfl)) ?_
      clear F240; try clear a222
      intro a223 F241
      refine list_val F241 (wn rfl) rfl rfl (.bool true) (ex_move _ rfl _ (F241.e rfl)) ?_
      clear F241; try clear a223
      intro a224 F242
      refine list_do (F242.wants 121 true rfl (by kernel_rfl) rfl true rfl) (fun K hK => ?_)
      refine ow_call rfl rfl F242 26 #[] (ex_call 26 _ _ rfl rfl cu_ent_26 _ (map0)) (wakes_any _) (fun e w61 hR => ?_)
      obtain ⟨he, hb⟩ := hR
      refine ⟨.bool true, he, fun a225 F243 => ?_⟩
      clear he F242
      refine hK _ _ ?_
      clear hK K
      replace O_r := O_r.below hb
      replace O_46 := O_46.below hb
      have M61 := M55.below hb
      clear M55
      try clear hb
      try clear a224
      try clear w55
      refine list_val F243 (wn rfl) rfl rfl (.bool true) (ex_pick_t _ _ _ rfl (F243.e rfl) _ (F243.e rfl)) ?_
      clear F243; try clear a225
      intro a226 F244
      refine list_val F244 (wn rfl) rfl rfl (.bool true) (ex_assign _ rfl _ (F244.e rfl)) ?_
      clear F244; try clear a226
      intro a227 F245
      refine wpList_nil ?_
      have F246 : Fr 124 a227 [(0, .agg (timesArr s (.slice A ts.length c) ta tb)), (1, .pointer (some ⟨g1, 0, none⟩)), (2, .bool true), (3, .pointer (some ⟨g3, 0, none⟩)), (4, .bool true), (5, .int .i64 late), (6, .pointer (some ⟨g6, 0, none⟩)), (7, .pointer (some ⟨g7, 0, none⟩)), (8, .pointer (some ⟨g8, 0, none⟩)), (9, .int .i64 kk), (10, .int .i64 i), (18, .bool false), (64, .bool false), (69, .bool false)] := F245.keep ⟨rfl, rfl, rfl, rfl, rfl, rfl, rfl, rfl, rfl, rfl, rfl, rfl, rfl, rfl, trivial⟩
      clear F245
      refine then_n ?_
      refine wp_ret ?_
      exact ret_tmp F246 rfl rfl ⟨rfl, M61.bel⟩
end Go.Proofs.Ytnechcibpmjblaa
