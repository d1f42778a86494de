/- The law RingTimes of the given program answers true: its walk; '==' of rings. Conditions: the turns are read. -/
import Derived.Test.YtnechcibpmjblaaT
import Derived.Test.YtnechcibpmjblaaRL
namespace Go.Proofs.Ytnechcibpmjblaa
open Go.RowKit Go.Proofs.YtnechcibpmjblaaW.PrintWords KB WG
set_option linter.unusedVariables false
set_option linter.unusedSimpArgs false

/-- What a Prune at a time leaves of the keys but the last. -/
def flt (now : Int) (l : List Key) : List Key := l.filter fun k => !(decide (0 < k.til) && decide (k.til ≤ now))
theorem prune_x {init : List Key} {last : Key} {next : Int} (h : IsRing init last next) (A : Option Addr) (c : Nat) (now : Int) (w : World) (hO : RO w A c ⟨init ++ [last], next⟩) :
    Calls Try.prog 14 #[.agg #[.slice A (init.length + 1) c, .int .u64 next], .int .i64 now] w fun e w' => ∃ A' c', e = .returned (.agg #[.slice A' ((flt now init).length + 1) c', .int .u64 next]) ∧ RO w' A' c' ⟨flt now init ++ [last], next⟩ ∧ Below w.heap.size w w' := by
  have := prune_c ⟨init ++ [last], next⟩ A c now w hO.rk
  rw [h.prune] at this
  simp only [ring_len] at this
  refine this.mono fun _ _ ⟨A', c', he, hO', hb⟩ => ⟨A', c', ?_, hO', hb⟩
  rw [he]
  simp only [ring_len]
  rfl
theorem ring_flt {init : List Key} {last : Key} {next : Int} (h : IsRing init last next) (now : Int) : IsRing (flt now init) last next := h.pruned now
theorem flt_flt (a b : Int) (l : List Key) : flt a (flt b l) = flt (if a < b then b else a) l := by
  unfold flt
  rw [List.filter_filter]
  congr 1
  funext k
  rw [Bool.eq_iff_iff]
  simp only [Bool.and_eq_true, Bool.not_eq_true', Bool.and_eq_false_iff, decide_eq_false_iff_not]
  split <;> omega
theorem flt_none {init : List Key} {last : Key} {next : Int} (h : IsRing init last next) : flt 0 init = init := by
  unfold flt
  refine List.filter_eq_self.2 fun k hk => ?_
  have := h.ends k hk
  simp; omega
/-- Does a key stay behind a Prune at a time? -/
def stay (late : Int) (k : Key) : Bool := (k.til == 0) || decide (late < k.til)
theorem flt_all {init : List Key} {last : Key} {next : Int} (h : IsRing init last next) (late : Int) : flt late init ++ [last] = (init ++ [last]).filter (stay late) := by
  rw [List.filter_append]
  congr 1
  · unfold flt
    refine List.filter_congr fun k hk => ?_
    have := h.ends k hk
    rw [Bool.eq_iff_iff]
    simp only [stay, Bool.not_eq_true', Bool.and_eq_false_iff, Bool.or_eq_true, decide_eq_false_iff_not, decide_eq_true_iff, beq_iff_eq]
    omega
  · have : stay late last = true := by simp [stay, h.cur]
    simp [this]
/-- So many of the first i keys stay. -/
def cnt (late : Int) (l : List Key) (i : Nat) : Nat := ((l.take i).filter (stay late)).length
theorem cnt_zero (late : Int) (l : List Key) : cnt late l 0 = 0 := by simp [cnt]
theorem cnt_all (late : Int) (l : List Key) (i : Nat) (h : l.length ≤ i) : cnt late l i = (l.filter (stay late)).length := by unfold cnt; rw [List.take_of_length_le h]
theorem cnt_succ (late : Int) (l : List Key) (i : Nat) (h : i < l.length) : cnt late l (i + 1) = cnt late l i + (if stay late l[i] then 1 else 0) := by
  unfold cnt
  rw [List.take_succ_eq_append_getElem h, List.filter_append, List.length_append]
  congr 1
  by_cases hs : stay late l[i] <;> simp [hs]
theorem cnt_get (late : Int) (l : List Key) (i : Nat) (h : i < l.length) (hs : stay late l[i] = true) : (l.filter (stay late))[cnt late l i]? = some l[i] := by
  have e : l.filter (stay late) = (l.take i).filter (stay late) ++ l[i] :: (l.drop (i + 1)).filter (stay late) := by
    conv => lhs; rw [← List.take_append_drop i l]
    rw [List.filter_append, List.drop_eq_getElem_cons h, List.filter_cons_of_pos hs]
  rw [e, List.getElem?_append_right (by unfold cnt; omega)]
  simp [cnt]
theorem cnt_lt (late : Int) (l : List Key) (i : Nat) (h : i < l.length) (hs : stay late l[i] = true) : cnt late l i < (l.filter (stay late)).length := (List.getElem?_eq_some_iff.1 (cnt_get late l i h hs)).1
theorem cnt_le (late : Int) (l : List Key) (i : Nat) : cnt late l i ≤ l.length := by
  unfold cnt
  exact Nat.le_trans (List.length_filter_le _ _) (by rw [List.length_take]; omega)
/-- A Times value's cells. -/
def timesArr (s : Bs 32) (sl : Value) (a b : Int) : Array Value := (timesCs s sl a b).toArray
theorem times_len (s : Bs 32) (sl : Value) (a b : Int) : (timesCs s sl a b).length = 35 := by simp [timesCs, life_len]
theorem times_33 (s : Bs 32) (sl : Value) (a b : Int) : (timesArr s sl a b)[33]? = some (.int .i64 a) := by
  have h : (lifeCs s sl).length = 33 := life_len _ _
  unfold timesArr timesCs
  rw [List.getElem?_toArray, List.getElem?_append_right (by omega), h]
  rfl
theorem times_34 (s : Bs 32) (sl : Value) (a b : Int) : (timesArr s sl a b)[34]? = some (.int .i64 b) := by
  have h : (lifeCs s sl).length = 33 := life_len _ _
  unfold timesArr timesCs
  rw [List.getElem?_toArray, List.getElem?_append_right (by omega), h]
  rfl
theorem times_life {w : World} {p : Addr} {s : Bs 32} {sl : Value} {a b : Int} (h : At w p (timesCs s sl a b)) : At w p (lifeCs s sl) := fun j u hu => h j u (by
  unfold timesCs
  rw [List.getElem?_append_left (List.getElem?_eq_some_iff.1 hu).1]
  exact hu)
theorem ring_eq (r q : Rg) (h : r.next = q.next) : decide (r.keys = q.keys) = decide (r = q) := by
  obtain ⟨a, b⟩ := r
  obtain ⟨c, d⟩ := q
  simp only at h
  subst h
  simp
theorem cu_fa_69_1_1 : fa? Try.prog 69 1 1 = true := by kernel_rfl
theorem cu_one_67 : one? Try.prog 67 = true := by kernel_rfl
theorem cu_fa_69_0_0 : fa? Try.prog 69 0 0 = true := by kernel_rfl
theorem cu_one_55 : one? Try.prog 55 = true := by kernel_rfl
theorem cu_ent_41 : ent? Try.prog 41 = true := by kernel_rfl
set_option maxHeartbeats 4000000 in
set_option maxRecDepth 100000 in
theorem eqRing_any (r q : Rg) (A B : Option Addr) (c d : Nat) (w : World) (hr : RK w A c r) (hq : RK w B d q) :
    Calls Try.prog 21 #[.agg #[.slice A r.keys.length c, .int .u64 r.next], .agg #[.slice B q.keys.length d, .int .u64 q.next]] w fun e w' => e = .returned (.bool (decide (r = q))) ∧ Below w.heap.size w w' := by
 refine calls_start Try.func21 rfl rfl rfl (fun a F => ?_)
 have M : Mm w w [] := Mm.nil w
 refine wp_seq ?_
 refine wp_region_lit ?_
 refine list_do (wn rfl) (fun K hK => ?_)
 refine ow_box F M rfl rfl 69 _ rfl _ (F.e rfl) #[.slice A r.keys.length c, .int .u64 r.next] rfl ?_
 clear F M a; intro a g2 v F M hb hg
 refine hK _ _ ?_
 clear hK K
 clear hb hg; try clear w
 refine list_do (wn rfl) (fun K hK => ?_)
 refine ow_box F M rfl rfl 69 _ rfl _ (F.e rfl) #[.slice B q.keys.length d, .int .u64 q.next] rfl ?_
 clear F M a; intro a g3 u F M hb hg
 refine hK _ _ ?_
 clear hK K
 clear hb hg; try clear v
 refine list_val F (wn rfl) rfl rfl (.bool false) (ex_assign _ rfl _ rfl) ?_; clear F a; intro a F
 refine wpList_nil ?_
 replace F : Fr 17 a [(0, .agg #[.slice A r.keys.length c, .int .u64 r.next]), (1, .agg #[.slice B q.keys.length d, .int .u64 q.next]), (2, .pointer (some ⟨g2, 0, none⟩)), (3, .pointer (some ⟨g3, 0, none⟩)), (4, .bool false)] := F.keep ⟨rfl, rfl, rfl, rfl, rfl, trivial⟩
 refine then_n ?_
 refine wp_seq ?_
 by_cases hn : r.next = q.next
 ·
  refine wp_region_lit ?_
  refine list_val F (wn rfl) rfl rfl (.pointer (some ⟨g2, 1, none⟩)) (ex_fa _ _ _ rfl _ (F.e rfl) 1 cu_fa_69_1_1 ⟨g2, 1, none⟩ rfl) ?_; clear F a; intro a F
  refine list_val F (wn rfl) rfl rfl (.int .u64 r.next) (ex_load _ _ rfl _ (F.e rfl) _ (lv1 cu_one_67 (M.cell (i := 1) rfl (j := 1) rfl))) ?_; clear F a; intro a F
  refine list_val F (wn rfl) rfl rfl (.pointer (some ⟨g3, 1, none⟩)) (ex_fa _ _ _ rfl _ (F.e rfl) 1 cu_fa_69_1_1 ⟨g3, 1, none⟩ rfl) ?_; clear F a; intro a F
  refine list_val F (wn rfl) rfl rfl (.int .u64 q.next) (ex_load _ _ rfl _ (F.e rfl) _ (lv1 cu_one_67 (M.cell (i := 0) rfl (j := 1) rfl))) ?_; clear F a; intro a F
  refine list_val F (wn rfl) rfl rfl (.bool true) (ex_bin .eql _ _ _ _ rfl .u64 _ _ (F.e rfl) (F.e rfl) _ (b_eql (by simp [hn]))) ?_; clear F a; intro a F
  refine list_val F (wn rfl) rfl rfl (.bool true) (ex_move _ rfl _ (F.e rfl)) ?_; clear F a; intro a F
  refine list_val F (F.wants 10 true rfl (by kernel_rfl) rfl true rfl) rfl rfl (.pointer (some ⟨g2, 0, none⟩)) (ex_fa _ _ _ rfl _ (F.e rfl) 0 cu_fa_69_0_0 ⟨g2, 0, none⟩ rfl) ?_; clear F a; intro a F
  refine list_val F (F.wants 10 true rfl (by kernel_rfl) rfl true rfl) rfl rfl (.slice A r.keys.length c) (ex_load _ _ rfl _ (F.e rfl) _ (lv1 cu_one_55 (M.cell (i := 1) rfl (j := 0) rfl))) ?_; clear F a; intro a F
  refine list_val F (F.wants 10 true rfl (by kernel_rfl) rfl true rfl) rfl rfl (.pointer (some ⟨g3, 0, none⟩)) (ex_fa _ _ _ rfl _ (F.e rfl) 0 cu_fa_69_0_0 ⟨g3, 0, none⟩ rfl) ?_; clear F a; intro a F
  refine list_val F (F.wants 10 true rfl (by kernel_rfl) rfl true rfl) rfl rfl (.slice B q.keys.length d) (ex_load _ _ rfl _ (F.e rfl) _ (lv1 cu_one_55 (M.cell (i := 0) rfl (j := 0) rfl))) ?_; clear F a; intro a F
  refine list_do (F.wants 10 true rfl (by kernel_rfl) rfl true rfl) (fun K hK => ?_)
  refine ow_call rfl rfl F 41 #[.slice A r.keys.length c, .slice B q.keys.length d] (ex_call 41 _ _ rfl rfl cu_ent_41 _ (map2 (F.e rfl) (F.e rfl))) (eqKeys_any r.keys q.keys A B c d _ (Kd.C_below hr.1 M.bel) (Kd.C_below hq.1 M.bel) hr.2 hq.2) (fun e v hR => ?_)
  obtain ⟨he, hb⟩ := hR
  refine ⟨.bool (decide (r.keys = q.keys)), he, ?_⟩; clear he F a; intro a F
  refine hK _ _ ?_
  clear hK K
  replace M := M.below hb; clear hb; try clear u
  refine list_val F (wn rfl) rfl rfl (.bool (decide (r.keys = q.keys))) (ex_pick_t _ _ _ rfl (F.e rfl) _ (F.e rfl)) ?_; clear F a; intro a F
  refine list_val F (wn rfl) rfl rfl (.bool (decide (r.keys = q.keys))) (ex_assign _ rfl _ (F.e rfl)) ?_; clear F a; intro a F
  refine wpList_nil ?_
  replace F : Fr 17 a [(0, .agg #[.slice A r.keys.length c, .int .u64 r.next]), (1, .agg #[.slice B q.keys.length d, .int .u64 q.next]), (2, .pointer (some ⟨g2, 0, none⟩)), (3, .pointer (some ⟨g3, 0, none⟩)), (4, .bool (decide (r.keys = q.keys)))] := F.keep ⟨rfl, rfl, rfl, rfl, rfl, trivial⟩
  refine then_n ?_
  refine wp_ret ?_
  exact ret_tmp F rfl rfl ⟨(by rw [ring_eq r q hn]), M.bel⟩
 refine wp_region_lit ?_
 refine list_val F (wn rfl) rfl rfl (.pointer (some ⟨g2, 1, none⟩)) (ex_fa _ _ _ rfl _ (F.e rfl) 1 cu_fa_69_1_1 ⟨g2, 1, none⟩ rfl) ?_; clear F a; intro a F
 refine list_val F (wn rfl) rfl rfl (.int .u64 r.next) (ex_load _ _ rfl _ (F.e rfl) _ (lv1 cu_one_67 (M.cell (i := 1) rfl (j := 1) rfl))) ?_; clear F a; intro a F
 refine list_val F (wn rfl) rfl rfl (.pointer (some ⟨g3, 1, none⟩)) (ex_fa _ _ _ rfl _ (F.e rfl) 1 cu_fa_69_1_1 ⟨g3, 1, none⟩ rfl) ?_; clear F a; intro a F
 refine list_val F (wn rfl) rfl rfl (.int .u64 q.next) (ex_load _ _ rfl _ (F.e rfl) _ (lv1 cu_one_67 (M.cell (i := 0) rfl (j := 1) rfl))) ?_; clear F a; intro a F
 refine list_val F (wn rfl) rfl rfl (.bool false) (ex_bin .eql _ _ _ _ rfl .u64 _ _ (F.e rfl) (F.e rfl) _ (b_eql (by simp [hn]))) ?_; clear F a; intro a F
 refine list_val F (wn rfl) rfl rfl (.bool false) (ex_move _ rfl _ (F.e rfl)) ?_; clear F a; intro a F
 refine list_skip F (F.wants 10 false rfl (by kernel_rfl) rfl false rfl) rfl rfl ?_; clear F a; intro a F
 refine list_skip F (F.wants 10 false rfl (by kernel_rfl) rfl false rfl) rfl rfl ?_; clear F a; intro a F
 refine list_skip F (F.wants 10 false rfl (by kernel_rfl) rfl false rfl) rfl rfl ?_; clear F a; intro a F
 refine list_skip F (F.wants 10 false rfl (by kernel_rfl) rfl false rfl) rfl rfl ?_; clear F a; intro a F
 refine list_skip F (F.wants 10 false rfl (by kernel_rfl) rfl false rfl) rfl rfl ?_; clear F a; intro a F
 refine list_val F (wn rfl) rfl rfl (.bool false) (ex_pick_f _ _ _ rfl (F.e rfl) _ rfl) ?_; clear F a; intro a F
 refine list_val F (wn rfl) rfl rfl (.bool false) (ex_assign _ rfl _ (F.e rfl)) ?_; clear F a; intro a F
 refine wpList_nil ?_
 replace F : Fr 17 a [(0, .agg #[.slice A r.keys.length c, .int .u64 r.next]), (1, .agg #[.slice B q.keys.length d, .int .u64 q.next]), (2, .pointer (some ⟨g2, 0, none⟩)), (3, .pointer (some ⟨g3, 0, none⟩)), (4, .bool false)] := F.keep ⟨rfl, rfl, rfl, rfl, rfl, trivial⟩
 refine then_n ?_
 refine wp_ret ?_
 exact ret_tmp F rfl rfl ⟨(by rw [decide_eq_false (fun e => hn (congrArg Rg.next e))]), M.bel⟩
theorem eqRing_r {i j : List Key} {l m : Key} {x y : Int} (e : (⟨i ++ [l], x⟩ : Rg) = ⟨j ++ [m], y⟩) (A B : Option Addr) (c d : Nat) (w : World) (hr : RO w A c ⟨i ++ [l], x⟩) (hq : RO w B d ⟨j ++ [m], y⟩) :
    Calls Try.prog 21 #[.agg #[.slice A (i.length + 1) c, .int .u64 x], .agg #[.slice B (j.length + 1) d, .int .u64 y]] w fun e w' => e = .returned (.bool true) ∧ Below w.heap.size w w' := by
  have := eqRing_any _ _ A B c d w hr.rk hq.rk
  rw [decide_eq_true e] at this
  simpa only [ring_len] using this
theorem cu_fa_103_0_0 : fa? Try.prog 103 0 0 = true := by kernel_rfl
theorem cu_row_94_33 : row? Try.prog 94 33 = true := by kernel_rfl
theorem cu_ent_28 : ent? Try.prog 28 = true := by kernel_rfl
theorem cu_row_69_2 : row? Try.prog 69 2 = true := by kernel_rfl
theorem cu_fa_103_1_33 : fa? Try.prog 103 1 33 = true := by kernel_rfl
theorem cu_one_2 : one? Try.prog 2 = true := by kernel_rfl
theorem cu_fa_103_2_34 : fa? Try.prog 103 2 34 = true := by kernel_rfl
theorem cu_follows_mixedOrders : Try.prog.follows .mixedOrders = true := by kernel_rfl
theorem cu_ent_18 : ent? Try.prog 18 = true := by kernel_rfl
theorem cu_ent_14 : ent? Try.prog 14 = true := by kernel_rfl
theorem cu_ent_21 : ent? Try.prog 21 = true := by kernel_rfl
theorem cu_sl_55_34 : sl? Try.prog 55 34 = true := by kernel_rfl
theorem cu_fa_107_2_33 : fa? Try.prog 107 2 33 = true := by kernel_rfl
theorem cu_row_107_34 : row? Try.prog 107 34 = true := by kernel_rfl
theorem cu_ent_26 : ent? Try.prog 26 = true := by kernel_rfl
set_option maxHeartbeats 4000000 in
set_option maxRecDepth 100000 in
theorem times_any (s : Bs 32) (ts : List Turn) (ta tb : Int) (A : Option Addr) (c : Nat) (w : World) (hr : kTurn.C w A ts.length ts) (hc : ts.length ≤ c) :
    Calls Try.prog 6 #[.agg (timesArr s (.slice A ts.length c) ta tb)] w fun e w' => e = .returned (.bool true) ∧ Below w.heap.size w w' := by
 refine calls_start Try.func6 rfl rfl rfl (fun a F => ?_)
 have M : Mm w w [] := Mm.nil w
 refine wp_seq ?_
 refine wp_region_lit ?_
 refine list_do (wn rfl) (fun K hK => ?_)
 refine ow_box F M rfl rfl 103 _ rfl _ (F.e rfl) (timesArr s (.slice A ts.length c) ta tb) rfl ?_
 clear F M a; intro a g1 v F M hb hg
 refine hK _ _ ?_
 clear hK K
 clear hb hg; try clear w
 refine list_val F (wn rfl) rfl rfl (.bool false) (ex_assign _ rfl _ rfl) ?_; clear F a; intro a F
 refine wpList_nil ?_
 replace F : Fr 124 a [(0, .agg (timesArr s (.slice A ts.length c) ta tb)), (1, .pointer (some ⟨g1, 0, none⟩)), (2, .bool false)] := F.keep ⟨rfl, rfl, rfl, trivial⟩
 refine then_n ?_
 refine wp_seq ?_
 refine wp_region_lit ?_
 refine list_val F (wn rfl) rfl rfl (.pointer (some ⟨g1, 0, none⟩)) (ex_fa _ _ _ rfl _ (F.e rfl) 0 cu_fa_103_0_0 ⟨g1, 0, none⟩ rfl) ?_; clear F a; intro a F
 refine list_val F (wn rfl) rfl rfl (.agg (lifeArr s (.slice A ts.length c))) (ex_load _ _ rfl _ (F.e rfl) _ (lvr (cs := lifeCs s (.slice A ts.length c)) (by rw [life_len]; exact cu_row_94_33) (times_life (M.at (i := 0) rfl)))) ?_; clear F a; intro a F
 refine list_do (wn rfl) (fun K hK => ?_)
 refine ow_call rfl rfl F 28 #[.agg (lifeArr s (.slice A ts.length c))] (ex_call 28 _ _ rfl rfl cu_ent_28 _ (map1 (F.e rfl))) (grown_any s ts A c _ (Kd.C_below hr M.bel) hc) (fun e u hR => ?_)
 obtain ⟨A3, c3, init, last, next, he, O_r, hR, hn42, hb⟩ := hR
 obtain ⟨adr, rfl⟩ := ro_some O_r
 have hfew := hR.few
 refine ⟨.tuple #[.agg #[.slice (some adr) (init.length + 1) c3, .int .u64 next], .bool true], he, ?_⟩; clear he F a; intro a F
 refine hK _ _ ?_
 clear hK K
 replace M := M.below hb; clear hb; try clear v
 refine list_val F (wn rfl) rfl rfl (.tuple #[.agg #[.slice (some adr) (init.length + 1) c3, .int .u64 next], .bool true]) (ex_move _ rfl _ (F.e rfl)) ?_; clear F a; intro a F
 refine list_val F (wn rfl) rfl rfl (.agg #[.slice (some adr) (init.length + 1) c3, .int .u64 next]) (ex_extract _ _ rfl _ (F.e rfl) _ rfl) ?_; clear F a; intro a F
 refine list_val F (wn rfl) rfl rfl (.bool true) (ex_extract _ _ rfl _ (F.e rfl) _ rfl) ?_; clear F a; intro a F
 refine list_do (wn rfl) (fun K hK => ?_)
 refine ow_alloc F M rfl rfl 69 rfl (.agg #[.slice none 0 0, .int .u64 0]) z69 #[.slice none 0 0, .int .u64 0] rfl ?_
 clear F M a; intro a g3 v F M hb hg
 refine hK _ _ ?_
 clear hK K
 have K_O_r := O_r
 replace O_r := O_r.below hb
 have hz_g3 := hb; have lo_g3 := hg
 clear hb hg; try clear u
 refine list_do (wn rfl) (fun K hK => ?_)
 refine ow_put F M rfl 69 _ _ rfl 0 _ #[.slice none 0 0, .int .u64 0] _ rfl (F.e rfl) #[.slice (some adr) (init.length + 1) c3, .int .u64 next] (F.e rfl) (sz_row (m := 2) cu_row_69_2) rfl (by simp [Value.oneCell']) ?_
 clear F a; have Mo := M; clear M; intro a u F M hgr
 refine hK _ _ ?_
 clear hK K
 have hzz := S_grown hz_g3 hgr lo_g3
 replace O_r := K_O_r.below hzz
 clear hzz hz_g3 lo_g3 K_O_r
 clear Mo hgr; try clear v
 replace M : Mm w u [⟨g3, #[.slice (some adr) (init.length + 1) c3, .int .u64 next], 69⟩, ⟨g1, (timesArr s (.slice A ts.length c) ta tb), 103⟩] := M
 refine list_val F (wn rfl) rfl rfl (.bool true) (ex_assign _ rfl _ (F.e rfl)) ?_; clear F a; intro a F
 refine wpList_nil ?_
 replace F : Fr 124 a [(0, .agg (timesArr s (.slice A ts.length c) ta tb)), (1, .pointer (some ⟨g1, 0, none⟩)), (2, .bool false), (3, .pointer (some ⟨g3, 0, none⟩)), (4, .bool true)] := F.keep ⟨rfl, rfl, rfl, rfl, rfl, trivial⟩
 refine then_n ?_
 refine wp_seq ?_
 refine wp_seq ?_
 refine wp_region_lit ?_
 refine list_val F (wn rfl) rfl rfl (.bool true) (ex_move _ rfl _ (F.e rfl)) ?_; clear F a; intro a F
 refine list_val F (wn rfl) rfl rfl (.bool false) (ex_not _ _ rfl _ (F.e rfl) _ rfl) ?_; clear F a; intro a F
 refine wpList_nil ?_
 replace F : Fr 124 a [(0, .agg (timesArr s (.slice A ts.length c) ta tb)), (1, .pointer (some ⟨g1, 0, none⟩)), (2, .bool false), (3, .pointer (some ⟨g3, 0, none⟩)), (4, .bool true), (18, .bool false)] := F.keep ⟨rfl, rfl, rfl, rfl, rfl, rfl, trivial⟩
 refine then_n ?_
 refine wp_cond_false (F.e rfl) ?_
 refine wp_skip ?_
 refine then_n ?_
 refine wp_seq ?_
 refine wp_region_lit ?_
 refine list_val F (wn rfl) rfl rfl (.pointer (some ⟨g1, 33, none⟩)) (ex_fa _ _ _ rfl _ (F.e rfl) 33 cu_fa_103_1_33 ⟨g1, 33, none⟩ rfl) ?_; clear F a; intro a F
 refine list_val F (wn rfl) rfl rfl (.int .i64 ta) (ex_load _ _ rfl _ (F.e rfl) _ (lv1 cu_one_2 (M.cell (i := 1) rfl (j := 33) (times_33 _ _ _ _)))) ?_; clear F a; intro a F
 refine list_val F (wn rfl) rfl rfl (.int .i64 ta) (ex_assign _ rfl _ (F.e rfl)) ?_; clear F a; intro a F
 refine wpList_nil ?_
 replace F : Fr 124 a [(0, .agg (timesArr s (.slice A ts.length c) ta tb)), (1, .pointer (some ⟨g1, 0, none⟩)), (2, .bool false), (3, .pointer (some ⟨g3, 0, none⟩)), (4, .bool true), (5, .int .i64 ta), (18, .bool false)] := F.keep ⟨rfl, rfl, rfl, rfl, rfl, rfl, rfl, trivial⟩
 refine then_n ?_
 refine wp_seq ?_
 refine wp_only (fun ar wr => ∃ (late : Int), Fr 124 ar [(0, .agg (timesArr s (.slice A ts.length c) ta tb)), (1, .pointer (some ⟨g1, 0, none⟩)), (2, .bool false), (3, .pointer (some ⟨g3, 0, none⟩)), (4, .bool true), (5, .int .i64 late), (18, .bool false)] ∧ Mm w wr [⟨g3, #[.slice (some adr) (init.length + 1) c3, .int .u64 next], 69⟩, ⟨g1, (timesArr s (.slice A ts.length c) ta tb), 103⟩] ∧ RO wr (some adr) c3 ⟨init ++ [last], next⟩ ∧ late = if ta < tb then tb else ta) ?_ ?_
 ·
  refine wp_seq ?_
  by_cases hab : ta < tb
  ·
   refine wp_region_lit ?_
   refine list_val F (wn rfl) rfl rfl (.pointer (some ⟨g1, 34, none⟩)) (ex_fa _ _ _ rfl _ (F.e rfl) 34 cu_fa_103_2_34 ⟨g1, 34, none⟩ rfl) ?_; clear F a; intro a F
   refine list_val F (wn rfl) rfl rfl (.int .i64 tb) (ex_load _ _ rfl _ (F.e rfl) _ (lv1 cu_one_2 (M.cell (i := 1) rfl (j := 34) (times_34 _ _ _ _)))) ?_; clear F a; intro a F
   refine list_val F (wn rfl) rfl rfl (.int .i64 ta) (ex_move _ rfl _ (F.e rfl)) ?_; clear F a; intro a F
   refine list_val F (wn rfl) rfl rfl (.bool true) (ex_bin .gtr _ _ _ _ rfl .i64 _ _ (F.e rfl) (F.e rfl) _ (b_gtr (decide_eq_true hab))) ?_; clear F a; intro a F
   refine wpList_nil ?_
   replace F : Fr 124 a [(0, .agg (timesArr s (.slice A ts.length c) ta tb)), (1, .pointer (some ⟨g1, 0, none⟩)), (2, .bool false), (3, .pointer (some ⟨g3, 0, none⟩)), (4, .bool true), (5, .int .i64 ta), (18, .bool false), (24, .bool true)] := F.keep ⟨rfl, rfl, rfl, rfl, rfl, rfl, rfl, rfl, trivial⟩
   refine then_n ?_
   refine wp_cond_true (F.e rfl) ?_
   refine wp_region_lit ?_
   refine list_val F (wn rfl) rfl rfl (.pointer (some ⟨g1, 34, none⟩)) (ex_fa _ _ _ rfl _ (F.e rfl) 34 cu_fa_103_2_34 ⟨g1, 34, none⟩ rfl) ?_; clear F a; intro a F
   refine list_val F (wn rfl) rfl rfl (.int .i64 tb) (ex_load _ _ rfl _ (F.e rfl) _ (lv1 cu_one_2 (M.cell (i := 1) rfl (j := 34) (times_34 _ _ _ _)))) ?_; clear F a; intro a F
   refine list_val F (wn rfl) rfl rfl (.int .i64 tb) (ex_assign _ rfl _ (F.e rfl)) ?_; clear F a; intro a F
   refine wpList_nil ?_
   replace F : Fr 124 a [(0, .agg (timesArr s (.slice A ts.length c) ta tb)), (1, .pointer (some ⟨g1, 0, none⟩)), (2, .bool false), (3, .pointer (some ⟨g3, 0, none⟩)), (4, .bool true), (5, .int .i64 tb), (18, .bool false), (24, .bool true)] := F.keep ⟨rfl, rfl, rfl, rfl, rfl, rfl, rfl, rfl, trivial⟩
   refine only_n ?_
   exact ⟨tb, F.keep ⟨rfl, rfl, rfl, rfl, rfl, rfl, rfl, trivial⟩, (by refine M.pick' [0, 1] _ ?_ (by decide); exact ⟨rfl, rfl, trivial⟩), O_r, (by rw [if_pos hab])⟩
  refine wp_region_lit ?_
  refine list_val F (wn rfl) rfl rfl (.pointer (some ⟨g1, 34, none⟩)) (ex_fa _ _ _ rfl _ (F.e rfl) 34 cu_fa_103_2_34 ⟨g1, 34, none⟩ rfl) ?_; clear F a; intro a F
  refine list_val F (wn rfl) rfl rfl (.int .i64 tb) (ex_load _ _ rfl _ (F.e rfl) _ (lv1 cu_one_2 (M.cell (i := 1) rfl (j := 34) (times_34 _ _ _ _)))) ?_; clear F a; intro a F
  refine list_val F (wn rfl) rfl rfl (.int .i64 ta) (ex_move _ rfl _ (F.e rfl)) ?_; clear F a; intro a F
  refine list_val F (wn rfl) rfl rfl (.bool false) (ex_bin .gtr _ _ _ _ rfl .i64 _ _ (F.e rfl) (F.e rfl) _ (b_gtr (decide_eq_false hab))) ?_; clear F a; intro a F
  refine wpList_nil ?_
  replace F : Fr 124 a [(0, .agg (timesArr s (.slice A ts.length c) ta tb)), (1, .pointer (some ⟨g1, 0, none⟩)), (2, .bool false), (3, .pointer (some ⟨g3, 0, none⟩)), (4, .bool true), (5, .int .i64 ta), (18, .bool false), (24, .bool false)] := F.keep ⟨rfl, rfl, rfl, rfl, rfl, rfl, rfl, rfl, trivial⟩
  refine then_n ?_
  refine wp_cond_false (F.e rfl) ?_
  refine wp_skip ?_
  refine only_n ?_
  exact ⟨ta, F.keep ⟨rfl, rfl, rfl, rfl, rfl, rfl, rfl, trivial⟩, (by refine M.pick' [0, 1] _ ?_ (by decide); exact ⟨rfl, rfl, trivial⟩), O_r, (by rw [if_neg hab])⟩
 clear F M a O_r
 intro a v hR; obtain ⟨late, F, M, O_r, hlate⟩ := hR; try clear u
 have exy : (⟨flt tb (flt ta init) ++ [last], next⟩ : Rg) = ⟨flt ta (flt tb init) ++ [last], next⟩ := by
   rw [flt_flt, flt_flt, show (if tb < ta then ta else tb) = (if ta < tb then tb else ta) by split <;> split <;> omega]
 have exw : (⟨flt tb (flt ta init) ++ [last], next⟩ : Rg) = ⟨flt late init ++ [last], next⟩ := by
   rw [flt_flt, hlate, show (if tb < ta then ta else tb) = (if ta < tb then tb else ta) by split <;> split <;> omega]
 have exz : (⟨flt 0 init ++ [last], next⟩ : Rg) = ⟨init ++ [last], next⟩ := by rw [flt_none hR]
 refine then_n ?_
 refine wp_seq ?_
 refine wp_only (fun ar wr => ∃ (A_28 : Option Addr), ∃ (c_28 : Nat), ∃ (A_31 : Option Addr), ∃ (c_31 : Nat), ∃ (A_34 : Option Addr), ∃ (c_34 : Nat), ∃ (g6 : Nat), Fr 124 ar [(0, .agg (timesArr s (.slice A ts.length c) ta tb)), (1, .pointer (some ⟨g1, 0, none⟩)), (2, .bool false), (3, .pointer (some ⟨g3, 0, none⟩)), (4, .bool true), (5, .int .i64 late), (6, .pointer (some ⟨g6, 0, none⟩)), (18, .bool false)] ∧ Mm w wr [⟨g6, #[.slice A_34 ((flt tb (flt ta init)).length + 1) c_34, .int .u64 next], 69⟩, ⟨g3, #[.slice (some adr) (init.length + 1) c3, .int .u64 next], 69⟩, ⟨g1, (timesArr s (.slice A ts.length c) ta tb), 103⟩] ∧ RO wr (some adr) c3 ⟨init ++ [last], next⟩ ∧ RO wr A_34 c_34 ⟨(flt tb (flt ta init)) ++ [last], next⟩) ?_ ?_
 ·
  refine region_any cu_follows_mixedOrders M ?_; clear M; intro wD M hb
  replace O_r := O_r.below hb
  clear hb; try clear v
  have hS : Below wD.heap.size wD wD := Below.refl _ _; have MD := M
  have D_O_r := O_r
  refine any_val F 0 rfl (by kernel_rfl) (wn rfl) rfl rfl (.agg #[.slice (some adr) (init.length + 1) c3, .int .u64 next]) (fun w' hS' => ex_load _ _ rfl _ (F.e rfl) _ (lvr (cs := [.slice (some adr) (init.length + 1) c3, .int .u64 next]) cu_row_69_2 ((MD.below hS').at (i := 0) rfl))) hS ?_; clear F a; intro a F
  refine any_val F 2 rfl (by kernel_rfl) (wn rfl) rfl rfl (.pointer (some ⟨g1, 33, none⟩)) (fun w' hS' => ex_fa _ _ _ rfl _ (F.e rfl) 33 cu_fa_103_1_33 ⟨g1, 33, none⟩ rfl) hS ?_; clear F a; intro a F
  refine any_val F 3 rfl (by kernel_rfl) (wn rfl) rfl rfl (.int .i64 ta) (fun w' hS' => ex_load _ _ rfl _ (F.e rfl) _ (lv1 cu_one_2 ((MD.below hS').cell (i := 1) rfl (j := 33) (times_33 _ _ _ _)))) hS ?_; clear F a; intro a F
  refine any_val F 5 rfl (by kernel_rfl) (wn rfl) rfl rfl (.pointer (some ⟨g1, 34, none⟩)) (fun w' hS' => ex_fa _ _ _ rfl _ (F.e rfl) 34 cu_fa_103_2_34 ⟨g1, 34, none⟩ rfl) hS ?_; clear F a; intro a F
  refine any_val F 6 rfl (by kernel_rfl) (wn rfl) rfl rfl (.int .i64 tb) (fun w' hS' => ex_load _ _ rfl _ (F.e rfl) _ (lv1 cu_one_2 ((MD.below hS').cell (i := 1) rfl (j := 34) (times_34 _ _ _ _)))) hS ?_; clear F a; intro a F
  refine any_ready [1, 8] (by kernel_rfl) (by simp) ?_
  refine ready_do rfl (wn rfl) (fun K hK => ?_) ?_
  ·
   refine ow_call rfl rfl F 18 #[.agg #[.slice (some adr) (init.length + 1) c3, .int .u64 next]] (ex_call 18 _ _ rfl rfl cu_ent_18 _ (map1 (F.e rfl))) (copy_r hR _ _ _ O_r) (fun e v hR => ?_)
   obtain ⟨A_28, c_28, he, O_28, hb⟩ := hR
   refine ⟨.agg #[.slice A_28 (init.length + 1) c_28, .int .u64 next], he, ?_⟩; clear he F a; intro a F
   refine hK _ _ (S_below hS hb) ?_
   replace hS := S_below hS hb
   clear hK K
   replace O_r := O_r.below hb
   replace M := M.below hb; clear hb; try clear wD
   refine any_ready [4, 8] (by kernel_rfl) (by simp) ?_
   refine ready_do rfl (wn rfl) (fun K hK => ?_) ?_
   ·
    refine ow_call rfl rfl F 14 #[.agg #[.slice A_28 (init.length + 1) c_28, .int .u64 next], .int .i64 ta] (ex_call 14 _ _ rfl rfl cu_ent_14 _ (map2 (F.e rfl) (F.e rfl))) (prune_x hR _ _ _ _ O_28) (fun e u hR => ?_)
    obtain ⟨A_31, c_31, he, O_31, hb⟩ := hR
    refine ⟨.agg #[.slice A_31 ((flt ta init).length + 1) c_31, .int .u64 next], he, ?_⟩; clear he F a; intro a F
    refine hK _ _ (S_below hS hb) ?_
    replace hS := S_below hS hb
    clear hK K
    replace O_r := O_r.below hb
    replace O_28 := O_28.below hb
    replace M := M.below hb; clear hb; try clear v
    clear O_28
    refine any_ready [7, 8] (by kernel_rfl) (by simp) ?_
    refine ready_do rfl (wn rfl) (fun K hK => ?_) ?_
    ·
     refine ow_call rfl rfl F 14 #[.agg #[.slice A_31 ((flt ta init).length + 1) c_31, .int .u64 next], .int .i64 tb] (ex_call 14 _ _ rfl rfl cu_ent_14 _ (map2 (F.e rfl) (F.e rfl))) (prune_x (ring_flt hR ta) _ _ _ _ O_31) (fun e v hR => ?_)
     obtain ⟨A_34, c_34, he, O_34, hb⟩ := hR
     refine ⟨.agg #[.slice A_34 ((flt tb (flt ta init)).length + 1) c_34, .int .u64 next], he, ?_⟩; clear he F a; intro a F
     refine hK _ _ (S_below hS hb) ?_
     replace hS := S_below hS hb
     clear hK K
     replace O_r := O_r.below hb
     replace O_31 := O_31.below hb
     replace M := M.below hb; clear hb; try clear u
     clear O_31
     refine any_ready [8] (by kernel_rfl) (by simp) ?_
     refine ready_do rfl (wn rfl) (fun K hK => ?_) AllReadyH.nil
     refine ow_alloc F M rfl rfl 69 rfl (.agg #[.slice none 0 0, .int .u64 0]) z69 #[.slice none 0 0, .int .u64 0] rfl ?_
     clear F M a; intro a g6 u F M hb hg
     have los_g6 := Nat.le_trans hS.size hg
     refine hK _ _ (S_below hS hb) ?_
     replace hS := S_below hS hb
     clear hK K
     have K_O_r := O_r
     have K_O_34 := O_34
     replace O_r := O_r.below hb
     replace O_34 := O_34.below hb
     have hz_g6 := hb; have lo_g6 := hg
     clear hb hg; try clear v
     refine any_ready [9] (by kernel_rfl) (by simp) ?_
     refine ready_do rfl (wn rfl) (fun K hK => ?_) AllReadyH.nil
     refine ow_put F M rfl 69 _ _ rfl 0 _ #[.slice none 0 0, .int .u64 0] _ rfl (F.e rfl) #[.slice A_34 ((flt tb (flt ta init)).length + 1) c_34, .int .u64 next] (F.e rfl) (sz_row (m := 2) cu_row_69_2) rfl (by simp [Value.oneCell']) ?_
     clear F a; have Mo := M; clear M; intro a v F M hgr
     refine hK _ _ (S_grown hS hgr los_g6) ?_
     replace hS := S_grown hS hgr los_g6
     clear hK K
     have hzz := S_grown hz_g6 hgr lo_g6
     replace O_r := K_O_r.below hzz
     replace O_34 := K_O_34.below hzz
     clear hzz hz_g6 lo_g6 K_O_r K_O_34
     clear Mo hgr; try clear u
     replace M : Mm w v [⟨g6, #[.slice A_34 ((flt tb (flt ta init)).length + 1) c_34, .int .u64 next], 69⟩, ⟨g3, #[.slice (some adr) (init.length + 1) c3, .int .u64 next], 69⟩, ⟨g1, (timesArr s (.slice A ts.length c) ta tb), 103⟩] := M
     refine any_done (by kernel_rfl) ?_
     exact ⟨A_28, c_28, A_31, c_31, A_34, c_34, g6, F.keep ⟨rfl, rfl, rfl, rfl, rfl, rfl, rfl, rfl, trivial⟩, (by refine M.pick' [0, 1, 2] _ ?_ (by decide); exact ⟨rfl, rfl, rfl, trivial⟩), O_r, O_34⟩
    refine ready_do rfl (wn rfl) (fun K hK => ?_) AllReadyH.nil
    refine ow_alloc F M rfl rfl 69 rfl (.agg #[.slice none 0 0, .int .u64 0]) z69 #[.slice none 0 0, .int .u64 0] rfl ?_
    clear F M a; intro a g6 v F M hb hg
    have los_g6 := Nat.le_trans hS.size hg
    refine hK _ _ (S_below hS hb) ?_
    replace hS := S_below hS hb
    clear hK K
    have K_O_r := O_r
    have K_O_31 := O_31
    replace O_r := O_r.below hb
    replace O_31 := O_31.below hb
    have hz_g6 := hb; have lo_g6 := hg
    clear hb hg; try clear u
    refine any_ready [7] (by kernel_rfl) (by simp) ?_
    refine ready_do rfl (wn rfl) (fun K hK => ?_) AllReadyH.nil
    refine ow_call rfl rfl F 14 #[.agg #[.slice A_31 ((flt ta init).length + 1) c_31, .int .u64 next], .int .i64 tb] (ex_call 14 _ _ rfl rfl cu_ent_14 _ (map2 (F.e rfl) (F.e rfl))) (prune_x (ring_flt hR ta) _ _ _ _ O_31) (fun e u hR => ?_)
    obtain ⟨A_34, c_34, he, O_34, hb⟩ := hR
    refine ⟨.agg #[.slice A_34 ((flt tb (flt ta init)).length + 1) c_34, .int .u64 next], he, ?_⟩; clear he F a; intro a F
    refine hK _ _ (S_below hS hb) ?_
    replace hS := S_below hS hb
    clear hK K
    replace O_r := O_r.below hb
    replace O_31 := O_31.below hb
    replace hz_g6 := S_below hz_g6 hb
    replace M := M.below hb; clear hb; try clear v
    clear O_31
    refine any_ready [9] (by kernel_rfl) (by simp) ?_
    refine ready_do rfl (wn rfl) (fun K hK => ?_) AllReadyH.nil
    refine ow_put F M rfl 69 _ _ rfl 0 _ #[.slice none 0 0, .int .u64 0] _ rfl (F.e rfl) #[.slice A_34 ((flt tb (flt ta init)).length + 1) c_34, .int .u64 next] (F.e rfl) (sz_row (m := 2) cu_row_69_2) rfl (by simp [Value.oneCell']) ?_
    clear F a; have Mo := M; clear M; intro a v F M hgr
    refine hK _ _ (S_grown hS hgr los_g6) ?_
    replace hS := S_grown hS hgr los_g6
    clear hK K
    have hzz := S_grown hz_g6 hgr lo_g6
    replace O_r := K_O_r.below hzz
    replace O_34 := O_34.grown (Mo.blk 0 _ rfl) (by show 107 ≠ 69; decide) hgr
    clear hzz hz_g6 lo_g6 K_O_r K_O_31
    clear Mo hgr; try clear u
    replace M : Mm w v [⟨g6, #[.slice A_34 ((flt tb (flt ta init)).length + 1) c_34, .int .u64 next], 69⟩, ⟨g3, #[.slice (some adr) (init.length + 1) c3, .int .u64 next], 69⟩, ⟨g1, (timesArr s (.slice A ts.length c) ta tb), 103⟩] := M
    refine any_done (by kernel_rfl) ?_
    exact ⟨A_28, c_28, A_31, c_31, A_34, c_34, g6, F.keep ⟨rfl, rfl, rfl, rfl, rfl, rfl, rfl, rfl, trivial⟩, (by refine M.pick' [0, 1, 2] _ ?_ (by decide); exact ⟨rfl, rfl, rfl, trivial⟩), O_r, O_34⟩
   refine ready_do rfl (wn rfl) (fun K hK => ?_) AllReadyH.nil
   refine ow_alloc F M rfl rfl 69 rfl (.agg #[.slice none 0 0, .int .u64 0]) z69 #[.slice none 0 0, .int .u64 0] rfl ?_
   clear F M a; intro a g6 u F M hb hg
   have los_g6 := Nat.le_trans hS.size hg
   refine hK _ _ (S_below hS hb) ?_
   replace hS := S_below hS hb
   clear hK K
   have K_O_r := O_r
   have K_O_28 := O_28
   replace O_r := O_r.below hb
   replace O_28 := O_28.below hb
   have hz_g6 := hb; have lo_g6 := hg
   clear hb hg; try clear v
   refine any_ready [4] (by kernel_rfl) (by simp) ?_
   refine ready_do rfl (wn rfl) (fun K hK => ?_) AllReadyH.nil
   refine ow_call rfl rfl F 14 #[.agg #[.slice A_28 (init.length + 1) c_28, .int .u64 next], .int .i64 ta] (ex_call 14 _ _ rfl rfl cu_ent_14 _ (map2 (F.e rfl) (F.e rfl))) (prune_x hR _ _ _ _ O_28) (fun e v hR => ?_)
   obtain ⟨A_31, c_31, he, O_31, hb⟩ := hR
   refine ⟨.agg #[.slice A_31 ((flt ta init).length + 1) c_31, .int .u64 next], he, ?_⟩; clear he F a; intro a F
   refine hK _ _ (S_below hS hb) ?_
   replace hS := S_below hS hb
   clear hK K
   replace O_r := O_r.below hb
   replace O_28 := O_28.below hb
   replace hz_g6 := S_below hz_g6 hb
   replace M := M.below hb; clear hb; try clear u
   clear O_28
   refine any_ready [7] (by kernel_rfl) (by simp) ?_
   refine ready_do rfl (wn rfl) (fun K hK => ?_) AllReadyH.nil
   refine ow_call rfl rfl F 14 #[.agg #[.slice A_31 ((flt ta init).length + 1) c_31, .int .u64 next], .int .i64 tb] (ex_call 14 _ _ rfl rfl cu_ent_14 _ (map2 (F.e rfl) (F.e rfl))) (prune_x (ring_flt hR ta) _ _ _ _ O_31) (fun e u hR => ?_)
   obtain ⟨A_34, c_34, he, O_34, hb⟩ := hR
   refine ⟨.agg #[.slice A_34 ((flt tb (flt ta init)).length + 1) c_34, .int .u64 next], he, ?_⟩; clear he F a; intro a F
   refine hK _ _ (S_below hS hb) ?_
   replace hS := S_below hS hb
   clear hK K
   replace O_r := O_r.below hb
   replace O_31 := O_31.below hb
   replace hz_g6 := S_below hz_g6 hb
   replace M := M.below hb; clear hb; try clear v
   clear O_31
   refine any_ready [9] (by kernel_rfl) (by simp) ?_
   refine ready_do rfl (wn rfl) (fun K hK => ?_) AllReadyH.nil
   refine ow_put F M rfl 69 _ _ rfl 0 _ #[.slice none 0 0, .int .u64 0] _ rfl (F.e rfl) #[.slice A_34 ((flt tb (flt ta init)).length + 1) c_34, .int .u64 next] (F.e rfl) (sz_row (m := 2) cu_row_69_2) rfl (by simp [Value.oneCell']) ?_
   clear F a; have Mo := M; clear M; intro a v F M hgr
   refine hK _ _ (S_grown hS hgr los_g6) ?_
   replace hS := S_grown hS hgr los_g6
   clear hK K
   have hzz := S_grown hz_g6 hgr lo_g6
   replace O_r := K_O_r.below hzz
   replace O_34 := O_34.grown (Mo.blk 0 _ rfl) (by show 107 ≠ 69; decide) hgr
   clear hzz hz_g6 lo_g6 K_O_r K_O_28
   clear Mo hgr; try clear u
   replace M : Mm w v [⟨g6, #[.slice A_34 ((flt tb (flt ta init)).length + 1) c_34, .int .u64 next], 69⟩, ⟨g3, #[.slice (some adr) (init.length + 1) c3, .int .u64 next], 69⟩, ⟨g1, (timesArr s (.slice A ts.length c) ta tb), 103⟩] := M
   refine any_done (by kernel_rfl) ?_
   exact ⟨A_28, c_28, A_31, c_31, A_34, c_34, g6, F.keep ⟨rfl, rfl, rfl, rfl, rfl, rfl, rfl, rfl, trivial⟩, (by refine M.pick' [0, 1, 2] _ ?_ (by decide); exact ⟨rfl, rfl, rfl, trivial⟩), O_r, O_34⟩
  refine ready_do rfl (wn rfl) (fun K hK => ?_) AllReadyH.nil
  refine ow_alloc F M rfl rfl 69 rfl (.agg #[.slice none 0 0, .int .u64 0]) z69 #[.slice none 0 0, .int .u64 0] rfl ?_
  clear F M a; intro a g6 v F M hb hg
  have los_g6 := Nat.le_trans hS.size hg
  refine hK _ _ (S_below hS hb) ?_
  replace hS := S_below hS hb
  clear hK K
  have K_O_r := O_r
  replace O_r := O_r.below hb
  have hz_g6 := hb; have lo_g6 := hg
  clear hb hg; try clear wD
  refine any_ready [1] (by kernel_rfl) (by simp) ?_
  refine ready_do rfl (wn rfl) (fun K hK => ?_) AllReadyH.nil
  refine ow_call rfl rfl F 18 #[.agg #[.slice (some adr) (init.length + 1) c3, .int .u64 next]] (ex_call 18 _ _ rfl rfl cu_ent_18 _ (map1 (F.e rfl))) (copy_r hR _ _ _ O_r) (fun e u hR => ?_)
  obtain ⟨A_28, c_28, he, O_28, hb⟩ := hR
  refine ⟨.agg #[.slice A_28 (init.length + 1) c_28, .int .u64 next], he, ?_⟩; clear he F a; intro a F
  refine hK _ _ (S_below hS hb) ?_
  replace hS := S_below hS hb
  clear hK K
  replace O_r := O_r.below hb
  replace hz_g6 := S_below hz_g6 hb
  replace M := M.below hb; clear hb; try clear v
  refine any_ready [4] (by kernel_rfl) (by simp) ?_
  refine ready_do rfl (wn rfl) (fun K hK => ?_) AllReadyH.nil
  refine ow_call rfl rfl F 14 #[.agg #[.slice A_28 (init.length + 1) c_28, .int .u64 next], .int .i64 ta] (ex_call 14 _ _ rfl rfl cu_ent_14 _ (map2 (F.e rfl) (F.e rfl))) (prune_x hR _ _ _ _ O_28) (fun e v hR => ?_)
  obtain ⟨A_31, c_31, he, O_31, hb⟩ := hR
  refine ⟨.agg #[.slice A_31 ((flt ta init).length + 1) c_31, .int .u64 next], he, ?_⟩; clear he F a; intro a F
  refine hK _ _ (S_below hS hb) ?_
  replace hS := S_below hS hb
  clear hK K
  replace O_r := O_r.below hb
  replace O_28 := O_28.below hb
  replace hz_g6 := S_below hz_g6 hb
  replace M := M.below hb; clear hb; try clear u
  clear O_28
  refine any_ready [7] (by kernel_rfl) (by simp) ?_
  refine ready_do rfl (wn rfl) (fun K hK => ?_) AllReadyH.nil
  refine ow_call rfl rfl F 14 #[.agg #[.slice A_31 ((flt ta init).length + 1) c_31, .int .u64 next], .int .i64 tb] (ex_call 14 _ _ rfl rfl cu_ent_14 _ (map2 (F.e rfl) (F.e rfl))) (prune_x (ring_flt hR ta) _ _ _ _ O_31) (fun e u hR => ?_)
  obtain ⟨A_34, c_34, he, O_34, hb⟩ := hR
  refine ⟨.agg #[.slice A_34 ((flt tb (flt ta init)).length + 1) c_34, .int .u64 next], he, ?_⟩; clear he F a; intro a F
  refine hK _ _ (S_below hS hb) ?_
  replace hS := S_below hS hb
  clear hK K
  replace O_r := O_r.below hb
  replace O_31 := O_31.below hb
  replace hz_g6 := S_below hz_g6 hb
  replace M := M.below hb; clear hb; try clear v
  clear O_31
  refine any_ready [9] (by kernel_rfl) (by simp) ?_
  refine ready_do rfl (wn rfl) (fun K hK => ?_) AllReadyH.nil
  refine ow_put F M rfl 69 _ _ rfl 0 _ #[.slice none 0 0, .int .u64 0] _ rfl (F.e rfl) #[.slice A_34 ((flt tb (flt ta init)).length + 1) c_34, .int .u64 next] (F.e rfl) (sz_row (m := 2) cu_row_69_2) rfl (by simp [Value.oneCell']) ?_
  clear F a; have Mo := M; clear M; intro a v F M hgr
  refine hK _ _ (S_grown hS hgr los_g6) ?_
  replace hS := S_grown hS hgr los_g6
  clear hK K
  have hzz := S_grown hz_g6 hgr lo_g6
  replace O_r := K_O_r.below hzz
  replace O_34 := O_34.grown (Mo.blk 0 _ rfl) (by show 107 ≠ 69; decide) hgr
  clear hzz hz_g6 lo_g6 K_O_r
  clear Mo hgr; try clear u
  replace M : Mm w v [⟨g6, #[.slice A_34 ((flt tb (flt ta init)).length + 1) c_34, .int .u64 next], 69⟩, ⟨g3, #[.slice (some adr) (init.length + 1) c3, .int .u64 next], 69⟩, ⟨g1, (timesArr s (.slice A ts.length c) ta tb), 103⟩] := M
  refine any_done (by kernel_rfl) ?_
  exact ⟨A_28, c_28, A_31, c_31, A_34, c_34, g6, F.keep ⟨rfl, rfl, rfl, rfl, rfl, rfl, rfl, rfl, trivial⟩, (by refine M.pick' [0, 1, 2] _ ?_ (by decide); exact ⟨rfl, rfl, rfl, trivial⟩), O_r, O_34⟩
 clear F M a O_r
 intro a u hR; obtain ⟨A_28, c_28, A_31, c_31, A_34, c_34, g6, F, M, O_r, O_34⟩ := hR; try clear v
 refine then_n ?_
 refine wp_seq ?_
 refine wp_only (fun ar wr => ∃ (A_36 : Option Addr), ∃ (c_36 : Nat), ∃ (A_39 : Option Addr), ∃ (c_39 : Nat), ∃ (A_42 : Option Addr), ∃ (c_42 : Nat), ∃ (g7 : Nat), Fr 124 ar [(0, .agg (timesArr s (.slice A ts.length c) ta tb)), (1, .pointer (some ⟨g1, 0, none⟩)), (2, .bool false), (3, .pointer (some ⟨g3, 0, none⟩)), (4, .bool true), (5, .int .i64 late), (6, .pointer (some ⟨g6, 0, none⟩)), (7, .pointer (some ⟨g7, 0, none⟩)), (18, .bool false)] ∧ Mm w wr [⟨g7, #[.slice A_42 ((flt ta (flt tb init)).length + 1) c_42, .int .u64 next], 69⟩, ⟨g6, #[.slice A_34 ((flt tb (flt ta init)).length + 1) c_34, .int .u64 next], 69⟩, ⟨g3, #[.slice (some adr) (init.length + 1) c3, .int .u64 next], 69⟩, ⟨g1, (timesArr s (.slice A ts.length c) ta tb), 103⟩] ∧ RO wr (some adr) c3 ⟨init ++ [last], next⟩ ∧ RO wr A_34 c_34 ⟨(flt tb (flt ta init)) ++ [last], next⟩ ∧ RO wr A_42 c_42 ⟨(flt ta (flt tb init)) ++ [last], next⟩) ?_ ?_
 ·
  refine region_any cu_follows_mixedOrders M ?_; clear M; intro wD M hb
  replace O_r := O_r.below hb
  replace O_34 := O_34.below hb
  clear hb; try clear u
  have hS : Below wD.heap.size wD wD := Below.refl _ _; have MD := M
  have D_O_r := O_r
  have D_O_34 := O_34
  refine any_val F 0 rfl (by kernel_rfl) (wn rfl) rfl rfl (.agg #[.slice (some adr) (init.length + 1) c3, .int .u64 next]) (fun w' hS' => ex_load _ _ rfl _ (F.e rfl) _ (lvr (cs := [.slice (some adr) (init.length + 1) c3, .int .u64 next]) cu_row_69_2 ((MD.below hS').at (i := 1) rfl))) hS ?_; clear F a; intro a F
  refine any_val F 2 rfl (by kernel_rfl) (wn rfl) rfl rfl (.pointer (some ⟨g1, 34, none⟩)) (fun w' hS' => ex_fa _ _ _ rfl _ (F.e rfl) 34 cu_fa_103_2_34 ⟨g1, 34, none⟩ rfl) hS ?_; clear F a; intro a F
  refine any_val F 3 rfl (by kernel_rfl) (wn rfl) rfl rfl (.int .i64 tb) (fun w' hS' => ex_load _ _ rfl _ (F.e rfl) _ (lv1 cu_one_2 ((MD.below hS').cell (i := 2) rfl (j := 34) (times_34 _ _ _ _)))) hS ?_; clear F a; intro a F
  refine any_val F 5 rfl (by kernel_rfl) (wn rfl) rfl rfl (.pointer (some ⟨g1, 33, none⟩)) (fun w' hS' => ex_fa _ _ _ rfl _ (F.e rfl) 33 cu_fa_103_1_33 ⟨g1, 33, none⟩ rfl) hS ?_; clear F a; intro a F
  refine any_val F 6 rfl (by kernel_rfl) (wn rfl) rfl rfl (.int .i64 ta) (fun w' hS' => ex_load _ _ rfl _ (F.e rfl) _ (lv1 cu_one_2 ((MD.below hS').cell (i := 2) rfl (j := 33) (times_33 _ _ _ _)))) hS ?_; clear F a; intro a F
  refine any_ready [1, 8] (by kernel_rfl) (by simp) ?_
  refine ready_do rfl (wn rfl) (fun K hK => ?_) ?_
  ·
   refine ow_call rfl rfl F 18 #[.agg #[.slice (some adr) (init.length + 1) c3, .int .u64 next]] (ex_call 18 _ _ rfl rfl cu_ent_18 _ (map1 (F.e rfl))) (copy_r hR _ _ _ O_r) (fun e v hR => ?_)
   obtain ⟨A_36, c_36, he, O_36, hb⟩ := hR
   refine ⟨.agg #[.slice A_36 (init.length + 1) c_36, .int .u64 next], he, ?_⟩; clear he F a; intro a F
   refine hK _ _ (S_below hS hb) ?_
   replace hS := S_below hS hb
   clear hK K
   replace O_r := O_r.below hb
   replace O_34 := O_34.below hb
   replace M := M.below hb; clear hb; try clear wD
   refine any_ready [4, 8] (by kernel_rfl) (by simp) ?_
   refine ready_do rfl (wn rfl) (fun K hK => ?_) ?_
   ·
    refine ow_call rfl rfl F 14 #[.agg #[.slice A_36 (init.length + 1) c_36, .int .u64 next], .int .i64 tb] (ex_call 14 _ _ rfl rfl cu_ent_14 _ (map2 (F.e rfl) (F.e rfl))) (prune_x hR _ _ _ _ O_36) (fun e u hR => ?_)
    obtain ⟨A_39, c_39, he, O_39, hb⟩ := hR
    refine ⟨.agg #[.slice A_39 ((flt tb init).length + 1) c_39, .int .u64 next], he, ?_⟩; clear he F a; intro a F
    refine hK _ _ (S_below hS hb) ?_
    replace hS := S_below hS hb
    clear hK K
    replace O_r := O_r.below hb
    replace O_34 := O_34.below hb
    replace O_36 := O_36.below hb
    replace M := M.below hb; clear hb; try clear v
    clear O_36
    refine any_ready [7, 8] (by kernel_rfl) (by simp) ?_
    refine ready_do rfl (wn rfl) (fun K hK => ?_) ?_
    ·
     refine ow_call rfl rfl F 14 #[.agg #[.slice A_39 ((flt tb init).length + 1) c_39, .int .u64 next], .int .i64 ta] (ex_call 14 _ _ rfl rfl cu_ent_14 _ (map2 (F.e rfl) (F.e rfl))) (prune_x (ring_flt hR tb) _ _ _ _ O_39) (fun e v hR => ?_)
     obtain ⟨A_42, c_42, he, O_42, hb⟩ := hR
     refine ⟨.agg #[.slice A_42 ((flt ta (flt tb init)).length + 1) c_42, .int .u64 next], he, ?_⟩; clear he F a; intro a F
     refine hK _ _ (S_below hS hb) ?_
     replace hS := S_below hS hb
     clear hK K
     replace O_r := O_r.below hb
     replace O_34 := O_34.below hb
     replace O_39 := O_39.below hb
     replace M := M.below hb; clear hb; try clear u
     clear O_39
     refine any_ready [8] (by kernel_rfl) (by simp) ?_
     refine ready_do rfl (wn rfl) (fun K hK => ?_) AllReadyH.nil
     refine ow_alloc F M rfl rfl 69 rfl (.agg #[.slice none 0 0, .int .u64 0]) z69 #[.slice none 0 0, .int .u64 0] rfl ?_
     clear F M a; intro a g7 u F M hb hg
     have los_g7 := Nat.le_trans hS.size hg
     refine hK _ _ (S_below hS hb) ?_
     replace hS := S_below hS hb
     clear hK K
     have K_O_r := O_r
     have K_O_34 := O_34
     have K_O_42 := O_42
     replace O_r := O_r.below hb
     replace O_34 := O_34.below hb
     replace O_42 := O_42.below hb
     have hz_g7 := hb; have lo_g7 := hg
     clear hb hg; try clear v
     refine any_ready [9] (by kernel_rfl) (by simp) ?_
     refine ready_do rfl (wn rfl) (fun K hK => ?_) AllReadyH.nil
     refine ow_put F M rfl 69 _ _ rfl 0 _ #[.slice none 0 0, .int .u64 0] _ rfl (F.e rfl) #[.slice A_42 ((flt ta (flt tb init)).length + 1) c_42, .int .u64 next] (F.e rfl) (sz_row (m := 2) cu_row_69_2) rfl (by simp [Value.oneCell']) ?_
     clear F a; have Mo := M; clear M; intro a v F M hgr
     refine hK _ _ (S_grown hS hgr los_g7) ?_
     replace hS := S_grown hS hgr los_g7
     clear hK K
     have hzz := S_grown hz_g7 hgr lo_g7
     replace O_r := K_O_r.below hzz
     replace O_34 := K_O_34.below hzz
     replace O_42 := K_O_42.below hzz
     clear hzz hz_g7 lo_g7 K_O_r K_O_34 K_O_42
     clear Mo hgr; try clear u
     replace M : Mm w v [⟨g7, #[.slice A_42 ((flt ta (flt tb init)).length + 1) c_42, .int .u64 next], 69⟩, ⟨g6, #[.slice A_34 ((flt tb (flt ta init)).length + 1) c_34, .int .u64 next], 69⟩, ⟨g3, #[.slice (some adr) (init.length + 1) c3, .int .u64 next], 69⟩, ⟨g1, (timesArr s (.slice A ts.length c) ta tb), 103⟩] := M
     refine any_done (by kernel_rfl) ?_
     exact ⟨A_36, c_36, A_39, c_39, A_42, c_42, g7, F.keep ⟨rfl, rfl, rfl, rfl, rfl, rfl, rfl, rfl, rfl, trivial⟩, (by refine M.pick' [0, 1, 2, 3] _ ?_ (by decide); exact ⟨rfl, rfl, rfl, rfl, trivial⟩), O_r, O_34, O_42⟩
    refine ready_do rfl (wn rfl) (fun K hK => ?_) AllReadyH.nil
    refine ow_alloc F M rfl rfl 69 rfl (.agg #[.slice none 0 0, .int .u64 0]) z69 #[.slice none 0 0, .int .u64 0] rfl ?_
    clear F M a; intro a g7 v F M hb hg
    have los_g7 := Nat.le_trans hS.size hg
    refine hK _ _ (S_below hS hb) ?_
    replace hS := S_below hS hb
    clear hK K
    have K_O_r := O_r
    have K_O_34 := O_34
    have K_O_39 := O_39
    replace O_r := O_r.below hb
    replace O_34 := O_34.below hb
    replace O_39 := O_39.below hb
    have hz_g7 := hb; have lo_g7 := hg
    clear hb hg; try clear u
    refine any_ready [7] (by kernel_rfl) (by simp) ?_
    refine ready_do rfl (wn rfl) (fun K hK => ?_) AllReadyH.nil
    refine ow_call rfl rfl F 14 #[.agg #[.slice A_39 ((flt tb init).length + 1) c_39, .int .u64 next], .int .i64 ta] (ex_call 14 _ _ rfl rfl cu_ent_14 _ (map2 (F.e rfl) (F.e rfl))) (prune_x (ring_flt hR tb) _ _ _ _ O_39) (fun e u hR => ?_)
    obtain ⟨A_42, c_42, he, O_42, hb⟩ := hR
    refine ⟨.agg #[.slice A_42 ((flt ta (flt tb init)).length + 1) c_42, .int .u64 next], he, ?_⟩; clear he F a; intro a F
    refine hK _ _ (S_below hS hb) ?_
    replace hS := S_below hS hb
    clear hK K
    replace O_r := O_r.below hb
    replace O_34 := O_34.below hb
    replace O_39 := O_39.below hb
    replace hz_g7 := S_below hz_g7 hb
    replace M := M.below hb; clear hb; try clear v
    clear O_39
    refine any_ready [9] (by kernel_rfl) (by simp) ?_
    refine ready_do rfl (wn rfl) (fun K hK => ?_) AllReadyH.nil
    refine ow_put F M rfl 69 _ _ rfl 0 _ #[.slice none 0 0, .int .u64 0] _ rfl (F.e rfl) #[.slice A_42 ((flt ta (flt tb init)).length + 1) c_42, .int .u64 next] (F.e rfl) (sz_row (m := 2) cu_row_69_2) rfl (by simp [Value.oneCell']) ?_
    clear F a; have Mo := M; clear M; intro a v F M hgr
    refine hK _ _ (S_grown hS hgr los_g7) ?_
    replace hS := S_grown hS hgr los_g7
    clear hK K
    have hzz := S_grown hz_g7 hgr lo_g7
    replace O_r := K_O_r.below hzz
    replace O_34 := K_O_34.below hzz
    replace O_42 := O_42.grown (Mo.blk 0 _ rfl) (by show 107 ≠ 69; decide) hgr
    clear hzz hz_g7 lo_g7 K_O_r K_O_34 K_O_39
    clear Mo hgr; try clear u
    replace M : Mm w v [⟨g7, #[.slice A_42 ((flt ta (flt tb init)).length + 1) c_42, .int .u64 next], 69⟩, ⟨g6, #[.slice A_34 ((flt tb (flt ta init)).length + 1) c_34, .int .u64 next], 69⟩, ⟨g3, #[.slice (some adr) (init.length + 1) c3, .int .u64 next], 69⟩, ⟨g1, (timesArr s (.slice A ts.length c) ta tb), 103⟩] := M
    refine any_done (by kernel_rfl) ?_
    exact ⟨A_36, c_36, A_39, c_39, A_42, c_42, g7, F.keep ⟨rfl, rfl, rfl, rfl, rfl, rfl, rfl, rfl, rfl, trivial⟩, (by refine M.pick' [0, 1, 2, 3] _ ?_ (by decide); exact ⟨rfl, rfl, rfl, rfl, trivial⟩), O_r, O_34, O_42⟩
   refine ready_do rfl (wn rfl) (fun K hK => ?_) AllReadyH.nil
   refine ow_alloc F M rfl rfl 69 rfl (.agg #[.slice none 0 0, .int .u64 0]) z69 #[.slice none 0 0, .int .u64 0] rfl ?_
   clear F M a; intro a g7 u F M hb hg
   have los_g7 := Nat.le_trans hS.size hg
   refine hK _ _ (S_below hS hb) ?_
   replace hS := S_below hS hb
   clear hK K
   have K_O_r := O_r
   have K_O_34 := O_34
   have K_O_36 := O_36
   replace O_r := O_r.below hb
   replace O_34 := O_34.below hb
   replace O_36 := O_36.below hb
   have hz_g7 := hb; have lo_g7 := hg
   clear hb hg; try clear v
   refine any_ready [4] (by kernel_rfl) (by simp) ?_
   refine ready_do rfl (wn rfl) (fun K hK => ?_) AllReadyH.nil
   refine ow_call rfl rfl F 14 #[.agg #[.slice A_36 (init.length + 1) c_36, .int .u64 next], .int .i64 tb] (ex_call 14 _ _ rfl rfl cu_ent_14 _ (map2 (F.e rfl) (F.e rfl))) (prune_x hR _ _ _ _ O_36) (fun e v hR => ?_)
   obtain ⟨A_39, c_39, he, O_39, hb⟩ := hR
   refine ⟨.agg #[.slice A_39 ((flt tb init).length + 1) c_39, .int .u64 next], he, ?_⟩; clear he F a; intro a F
   refine hK _ _ (S_below hS hb) ?_
   replace hS := S_below hS hb
   clear hK K
   replace O_r := O_r.below hb
   replace O_34 := O_34.below hb
   replace O_36 := O_36.below hb
   replace hz_g7 := S_below hz_g7 hb
   replace M := M.below hb; clear hb; try clear u
   clear O_36
   refine any_ready [7] (by kernel_rfl) (by simp) ?_
   refine ready_do rfl (wn rfl) (fun K hK => ?_) AllReadyH.nil
   refine ow_call rfl rfl F 14 #[.agg #[.slice A_39 ((flt tb init).length + 1) c_39, .int .u64 next], .int .i64 ta] (ex_call 14 _ _ rfl rfl cu_ent_14 _ (map2 (F.e rfl) (F.e rfl))) (prune_x (ring_flt hR tb) _ _ _ _ O_39) (fun e u hR => ?_)
   obtain ⟨A_42, c_42, he, O_42, hb⟩ := hR
   refine ⟨.agg #[.slice A_42 ((flt ta (flt tb init)).length + 1) c_42, .int .u64 next], he, ?_⟩; clear he F a; intro a F
   refine hK _ _ (S_below hS hb) ?_
   replace hS := S_below hS hb
   clear hK K
   replace O_r := O_r.below hb
   replace O_34 := O_34.below hb
   replace O_39 := O_39.below hb
   replace hz_g7 := S_below hz_g7 hb
   replace M := M.below hb; clear hb; try clear v
   clear O_39
   refine any_ready [9] (by kernel_rfl) (by simp) ?_
   refine ready_do rfl (wn rfl) (fun K hK => ?_) AllReadyH.nil
   refine ow_put F M rfl 69 _ _ rfl 0 _ #[.slice none 0 0, .int .u64 0] _ rfl (F.e rfl) #[.slice A_42 ((flt ta (flt tb init)).length + 1) c_42, .int .u64 next] (F.e rfl) (sz_row (m := 2) cu_row_69_2) rfl (by simp [Value.oneCell']) ?_
   clear F a; have Mo := M; clear M; intro a v F M hgr
   refine hK _ _ (S_grown hS hgr los_g7) ?_
   replace hS := S_grown hS hgr los_g7
   clear hK K
   have hzz := S_grown hz_g7 hgr lo_g7
   replace O_r := K_O_r.below hzz
   replace O_34 := K_O_34.below hzz
   replace O_42 := O_42.grown (Mo.blk 0 _ rfl) (by show 107 ≠ 69; decide) hgr
   clear hzz hz_g7 lo_g7 K_O_r K_O_34 K_O_36
   clear Mo hgr; try clear u
   replace M : Mm w v [⟨g7, #[.slice A_42 ((flt ta (flt tb init)).length + 1) c_42, .int .u64 next], 69⟩, ⟨g6, #[.slice A_34 ((flt tb (flt ta init)).length + 1) c_34, .int .u64 next], 69⟩, ⟨g3, #[.slice (some adr) (init.length + 1) c3, .int .u64 next], 69⟩, ⟨g1, (timesArr s (.slice A ts.length c) ta tb), 103⟩] := M
   refine any_done (by kernel_rfl) ?_
   exact ⟨A_36, c_36, A_39, c_39, A_42, c_42, g7, F.keep ⟨rfl, rfl, rfl, rfl, rfl, rfl, rfl, rfl, rfl, trivial⟩, (by refine M.pick' [0, 1, 2, 3] _ ?_ (by decide); exact ⟨rfl, rfl, rfl, rfl, trivial⟩), O_r, O_34, O_42⟩
  refine ready_do rfl (wn rfl) (fun K hK => ?_) AllReadyH.nil
  refine ow_alloc F M rfl rfl 69 rfl (.agg #[.slice none 0 0, .int .u64 0]) z69 #[.slice none 0 0, .int .u64 0] rfl ?_
  clear F M a; intro a g7 v F M hb hg
  have los_g7 := Nat.le_trans hS.size hg
  refine hK _ _ (S_below hS hb) ?_
  replace hS := S_below hS hb
  clear hK K
  have K_O_r := O_r
  have K_O_34 := O_34
  replace O_r := O_r.below hb
  replace O_34 := O_34.below hb
  have hz_g7 := hb; have lo_g7 := hg
  clear hb hg; try clear wD
  refine any_ready [1] (by kernel_rfl) (by simp) ?_
  refine ready_do rfl (wn rfl) (fun K hK => ?_) AllReadyH.nil
  refine ow_call rfl rfl F 18 #[.agg #[.slice (some adr) (init.length + 1) c3, .int .u64 next]] (ex_call 18 _ _ rfl rfl cu_ent_18 _ (map1 (F.e rfl))) (copy_r hR _ _ _ O_r) (fun e u hR => ?_)
  obtain ⟨A_36, c_36, he, O_36, hb⟩ := hR
  refine ⟨.agg #[.slice A_36 (init.length + 1) c_36, .int .u64 next], he, ?_⟩; clear he F a; intro a F
  refine hK _ _ (S_below hS hb) ?_
  replace hS := S_below hS hb
  clear hK K
  replace O_r := O_r.below hb
  replace O_34 := O_34.below hb
  replace hz_g7 := S_below hz_g7 hb
  replace M := M.below hb; clear hb; try clear v
  refine any_ready [4] (by kernel_rfl) (by simp) ?_
  refine ready_do rfl (wn rfl) (fun K hK => ?_) AllReadyH.nil
  refine ow_call rfl rfl F 14 #[.agg #[.slice A_36 (init.length + 1) c_36, .int .u64 next], .int .i64 tb] (ex_call 14 _ _ rfl rfl cu_ent_14 _ (map2 (F.e rfl) (F.e rfl))) (prune_x hR _ _ _ _ O_36) (fun e v hR => ?_)
  obtain ⟨A_39, c_39, he, O_39, hb⟩ := hR
  refine ⟨.agg #[.slice A_39 ((flt tb init).length + 1) c_39, .int .u64 next], he, ?_⟩; clear he F a; intro a F
  refine hK _ _ (S_below hS hb) ?_
  replace hS := S_below hS hb
  clear hK K
  replace O_r := O_r.below hb
  replace O_34 := O_34.below hb
  replace O_36 := O_36.below hb
  replace hz_g7 := S_below hz_g7 hb
  replace M := M.below hb; clear hb; try clear u
  clear O_36
  refine any_ready [7] (by kernel_rfl) (by simp) ?_
  refine ready_do rfl (wn rfl) (fun K hK => ?_) AllReadyH.nil
  refine ow_call rfl rfl F 14 #[.agg #[.slice A_39 ((flt tb init).length + 1) c_39, .int .u64 next], .int .i64 ta] (ex_call 14 _ _ rfl rfl cu_ent_14 _ (map2 (F.e rfl) (F.e rfl))) (prune_x (ring_flt hR tb) _ _ _ _ O_39) (fun e u hR => ?_)
  obtain ⟨A_42, c_42, he, O_42, hb⟩ := hR
  refine ⟨.agg #[.slice A_42 ((flt ta (flt tb init)).length + 1) c_42, .int .u64 next], he, ?_⟩; clear he F a; intro a F
  refine hK _ _ (S_below hS hb) ?_
  replace hS := S_below hS hb
  clear hK K
  replace O_r := O_r.below hb
  replace O_34 := O_34.below hb
  replace O_39 := O_39.below hb
  replace hz_g7 := S_below hz_g7 hb
  replace M := M.below hb; clear hb; try clear v
  clear O_39
  refine any_ready [9] (by kernel_rfl) (by simp) ?_
  refine ready_do rfl (wn rfl) (fun K hK => ?_) AllReadyH.nil
  refine ow_put F M rfl 69 _ _ rfl 0 _ #[.slice none 0 0, .int .u64 0] _ rfl (F.e rfl) #[.slice A_42 ((flt ta (flt tb init)).length + 1) c_42, .int .u64 next] (F.e rfl) (sz_row (m := 2) cu_row_69_2) rfl (by simp [Value.oneCell']) ?_
  clear F a; have Mo := M; clear M; intro a v F M hgr
  refine hK _ _ (S_grown hS hgr los_g7) ?_
  replace hS := S_grown hS hgr los_g7
  clear hK K
  have hzz := S_grown hz_g7 hgr lo_g7
  replace O_r := K_O_r.below hzz
  replace O_34 := K_O_34.below hzz
  replace O_42 := O_42.grown (Mo.blk 0 _ rfl) (by show 107 ≠ 69; decide) hgr
  clear hzz hz_g7 lo_g7 K_O_r K_O_34
  clear Mo hgr; try clear u
  replace M : Mm w v [⟨g7, #[.slice A_42 ((flt ta (flt tb init)).length + 1) c_42, .int .u64 next], 69⟩, ⟨g6, #[.slice A_34 ((flt tb (flt ta init)).length + 1) c_34, .int .u64 next], 69⟩, ⟨g3, #[.slice (some adr) (init.length + 1) c3, .int .u64 next], 69⟩, ⟨g1, (timesArr s (.slice A ts.length c) ta tb), 103⟩] := M
  refine any_done (by kernel_rfl) ?_
  exact ⟨A_36, c_36, A_39, c_39, A_42, c_42, g7, F.keep ⟨rfl, rfl, rfl, rfl, rfl, rfl, rfl, rfl, rfl, trivial⟩, (by refine M.pick' [0, 1, 2, 3] _ ?_ (by decide); exact ⟨rfl, rfl, rfl, rfl, trivial⟩), O_r, O_34, O_42⟩
 clear F M a O_r O_34
 intro a v hR; obtain ⟨A_36, c_36, A_39, c_39, A_42, c_42, g7, F, M, O_r, O_34, O_42⟩ := hR; try clear u
 refine then_n ?_
 refine wp_seq ?_
 refine wp_region_lit ?_
 refine list_val F (wn rfl) rfl rfl (.agg #[.slice (some adr) (init.length + 1) c3, .int .u64 next]) (ex_load _ _ rfl _ (F.e rfl) _ (lvr (cs := [.slice (some adr) (init.length + 1) c3, .int .u64 next]) cu_row_69_2 (M.at (i := 2) rfl))) ?_; clear F a; intro a F
 refine list_do (wn rfl) (fun K hK => ?_)
 refine ow_call rfl rfl F 18 #[.agg #[.slice (some adr) (init.length + 1) c3, .int .u64 next]] (ex_call 18 _ _ rfl rfl cu_ent_18 _ (map1 (F.e rfl))) (copy_r hR _ _ _ O_r) (fun e u hR => ?_)
 obtain ⟨A_44, c_44, he, O_44, hb⟩ := hR
 refine ⟨.agg #[.slice A_44 (init.length + 1) c_44, .int .u64 next], he, ?_⟩; clear he F a; intro a F
 refine hK _ _ ?_
 clear hK K
 replace O_r := O_r.below hb
 replace O_34 := O_34.below hb
 replace O_42 := O_42.below hb
 replace M := M.below hb; clear hb; try clear v
 refine list_val F (wn rfl) rfl rfl (.int .i64 late) (ex_move _ rfl _ (F.e rfl)) ?_; clear F a; intro a F
 refine list_do (wn rfl) (fun K hK => ?_)
 refine ow_call rfl rfl F 14 #[.agg #[.slice A_44 (init.length + 1) c_44, .int .u64 next], .int .i64 late] (ex_call 14 _ _ rfl rfl cu_ent_14 _ (map2 (F.e rfl) (F.e rfl))) (prune_x hR _ _ _ _ O_44) (fun e v hR => ?_)
 obtain ⟨A_46, c_46, he, O_46, hb⟩ := hR
 obtain ⟨adw, rfl⟩ := ro_some O_46
 refine ⟨.agg #[.slice (some adw) ((flt late init).length + 1) c_46, .int .u64 next], he, ?_⟩; clear he F a; intro a F
 refine hK _ _ ?_
 clear hK K
 replace O_r := O_r.below hb
 replace O_34 := O_34.below hb
 replace O_42 := O_42.below hb
 replace O_44 := O_44.below hb
 replace M := M.below hb; clear hb; try clear u
 clear O_44
 refine list_do (wn rfl) (fun K hK => ?_)
 refine ow_alloc F M rfl rfl 69 rfl (.agg #[.slice none 0 0, .int .u64 0]) z69 #[.slice none 0 0, .int .u64 0] rfl ?_
 clear F M a; intro a g8 u F M hb hg
 refine hK _ _ ?_
 clear hK K
 have K_O_r := O_r
 have K_O_34 := O_34
 have K_O_42 := O_42
 have K_O_46 := O_46
 replace O_r := O_r.below hb
 replace O_34 := O_34.below hb
 replace O_42 := O_42.below hb
 replace O_46 := O_46.below hb
 have hz_g8 := hb; have lo_g8 := hg
 clear hb hg; try clear v
 refine list_do (wn rfl) (fun K hK => ?_)
 refine ow_put F M rfl 69 _ _ rfl 0 _ #[.slice none 0 0, .int .u64 0] _ rfl (F.e rfl) #[.slice (some adw) ((flt late init).length + 1) c_46, .int .u64 next] (F.e rfl) (sz_row (m := 2) cu_row_69_2) rfl (by simp [Value.oneCell']) ?_
 clear F a; have Mo := M; clear M; intro a v F M hgr
 refine hK _ _ ?_
 clear hK K
 have hzz := S_grown hz_g8 hgr lo_g8
 replace O_r := K_O_r.below hzz
 replace O_34 := K_O_34.below hzz
 replace O_42 := K_O_42.below hzz
 replace O_46 := K_O_46.below hzz
 clear hzz hz_g8 lo_g8 K_O_r K_O_34 K_O_42 K_O_46
 clear Mo hgr; try clear u
 replace M : Mm w v [⟨g8, #[.slice (some adw) ((flt late init).length + 1) c_46, .int .u64 next], 69⟩, ⟨g7, #[.slice A_42 ((flt ta (flt tb init)).length + 1) c_42, .int .u64 next], 69⟩, ⟨g6, #[.slice A_34 ((flt tb (flt ta init)).length + 1) c_34, .int .u64 next], 69⟩, ⟨g3, #[.slice (some adr) (init.length + 1) c3, .int .u64 next], 69⟩, ⟨g1, (timesArr s (.slice A ts.length c) ta tb), 103⟩] := M
 refine wpList_nil ?_
 replace F : Fr 124 a [(0, .agg (timesArr s (.slice A ts.length c) ta tb)), (1, .pointer (some ⟨g1, 0, none⟩)), (2, .bool false), (3, .pointer (some ⟨g3, 0, none⟩)), (4, .bool true), (5, .int .i64 late), (6, .pointer (some ⟨g6, 0, none⟩)), (7, .pointer (some ⟨g7, 0, none⟩)), (8, .pointer (some ⟨g8, 0, none⟩)), (18, .bool false)] := F.keep ⟨rfl, rfl, rfl, rfl, rfl, rfl, rfl, rfl, rfl, rfl, trivial⟩
 refine then_n ?_
 refine wp_seq ?_
 refine wp_seq ?_
 refine wp_only (fun ar wr => ∃ (A_59 : Option Addr), ∃ (c_59 : Nat), ∃ (A_60 : Option Addr), ∃ (c_60 : Nat), Fr 124 ar [(0, .agg (timesArr s (.slice A ts.length c) ta tb)), (1, .pointer (some ⟨g1, 0, none⟩)), (2, .bool false), (3, .pointer (some ⟨g3, 0, none⟩)), (4, .bool true), (5, .int .i64 late), (6, .pointer (some ⟨g6, 0, none⟩)), (7, .pointer (some ⟨g7, 0, none⟩)), (8, .pointer (some ⟨g8, 0, none⟩)), (18, .bool false), (64, .bool false)] ∧ Mm w wr [⟨g8, #[.slice (some adw) ((flt late init).length + 1) c_46, .int .u64 next], 69⟩, ⟨g7, #[.slice A_42 ((flt ta (flt tb init)).length + 1) c_42, .int .u64 next], 69⟩, ⟨g6, #[.slice A_34 ((flt tb (flt ta init)).length + 1) c_34, .int .u64 next], 69⟩, ⟨g3, #[.slice (some adr) (init.length + 1) c3, .int .u64 next], 69⟩, ⟨g1, (timesArr s (.slice A ts.length c) ta tb), 103⟩] ∧ RO wr (some adr) c3 ⟨init ++ [last], next⟩ ∧ RO wr A_34 c_34 ⟨(flt tb (flt ta init)) ++ [last], next⟩ ∧ RO wr A_42 c_42 ⟨(flt ta (flt tb init)) ++ [last], next⟩ ∧ RO wr (some adw) c_46 ⟨flt late init ++ [last], next⟩ ∧ RO wr A_60 c_60 ⟨(flt 0 init) ++ [last], next⟩) ?_ ?_
 ·
  refine region_any cu_follows_mixedOrders M ?_; clear M; intro wD M hb
  replace O_r := O_r.below hb
  replace O_34 := O_34.below hb
  replace O_42 := O_42.below hb
  replace O_46 := O_46.below hb
  clear hb; try clear v
  have hS : Below wD.heap.size wD wD := Below.refl _ _; have MD := M
  have D_O_r := O_r
  have D_O_34 := O_34
  have D_O_42 := O_42
  have D_O_46 := O_46
  refine any_val F 0 rfl (by kernel_rfl) (wn rfl) rfl rfl (.agg #[.slice A_34 ((flt tb (flt ta init)).length + 1) c_34, .int .u64 next]) (fun w' hS' => ex_load _ _ rfl _ (F.e rfl) _ (lvr (cs := [.slice A_34 ((flt tb (flt ta init)).length + 1) c_34, .int .u64 next]) cu_row_69_2 ((MD.below hS').at (i := 2) rfl))) hS ?_; clear F a; intro a F
  refine any_val F 1 rfl (by kernel_rfl) (wn rfl) rfl rfl (.agg #[.slice A_42 ((flt ta (flt tb init)).length + 1) c_42, .int .u64 next]) (fun w' hS' => ex_load _ _ rfl _ (F.e rfl) _ (lvr (cs := [.slice A_42 ((flt ta (flt tb init)).length + 1) c_42, .int .u64 next]) cu_row_69_2 ((MD.below hS').at (i := 1) rfl))) hS ?_; clear F a; intro a F
  refine any_ready [2] (by kernel_rfl) (by simp) ?_
  refine ready_do rfl (wn rfl) (fun K hK => ?_) AllReadyH.nil
  refine ow_call rfl rfl F 21 #[.agg #[.slice A_34 ((flt tb (flt ta init)).length + 1) c_34, .int .u64 next], .agg #[.slice A_42 ((flt ta (flt tb init)).length + 1) c_42, .int .u64 next]] (ex_call 21 _ _ rfl rfl cu_ent_21 _ (map2 (F.e rfl) (F.e rfl))) (eqRing_r exy _ _ _ _ _ O_34 O_42) (fun e v hR => ?_)
  obtain ⟨he, hb⟩ := hR
  refine ⟨.bool true, he, ?_⟩; clear he F a; intro a F
  refine hK _ _ (S_below hS hb) ?_
  replace hS := S_below hS hb
  clear hK K
  replace O_r := O_r.below hb
  replace O_34 := O_34.below hb
  replace O_42 := O_42.below hb
  replace O_46 := O_46.below hb
  replace M := M.below hb; clear hb; try clear wD
  refine any_val F 3 rfl (by kernel_rfl) (wn rfl) rfl rfl (.bool false) (fun w' hS' => ex_not _ _ rfl _ (F.e rfl) _ rfl) hS ?_; clear F a; intro a F
  refine any_val F 4 rfl (by kernel_rfl) (wn rfl) rfl rfl (.bool false) (fun w' hS' => ex_move _ rfl _ (F.e rfl)) hS ?_; clear F a; intro a F
  refine any_val F 5 rfl (by kernel_rfl) (F.wants 51 false rfl (by kernel_rfl) rfl true rfl) rfl rfl (.agg #[.slice A_34 ((flt tb (flt ta init)).length + 1) c_34, .int .u64 next]) (fun w' hS' => ex_load _ _ rfl _ (F.e rfl) _ (lvr (cs := [.slice A_34 ((flt tb (flt ta init)).length + 1) c_34, .int .u64 next]) cu_row_69_2 ((MD.below hS').at (i := 2) rfl))) hS ?_; clear F a; intro a F
  refine any_val F 6 rfl (by kernel_rfl) (F.wants 51 false rfl (by kernel_rfl) rfl true rfl) rfl rfl (.agg #[.slice (some adw) ((flt late init).length + 1) c_46, .int .u64 next]) (fun w' hS' => ex_load _ _ rfl _ (F.e rfl) _ (lvr (cs := [.slice (some adw) ((flt late init).length + 1) c_46, .int .u64 next]) cu_row_69_2 ((MD.below hS').at (i := 0) rfl))) hS ?_; clear F a; intro a F
  refine any_ready [7] (by kernel_rfl) (by simp) ?_
  refine ready_do rfl (F.wants 51 false rfl (by kernel_rfl) rfl true rfl) (fun K hK => ?_) AllReadyH.nil
  refine ow_call rfl rfl F 21 #[.agg #[.slice A_34 ((flt tb (flt ta init)).length + 1) c_34, .int .u64 next], .agg #[.slice (some adw) ((flt late init).length + 1) c_46, .int .u64 next]] (ex_call 21 _ _ rfl rfl cu_ent_21 _ (map2 (F.e rfl) (F.e rfl))) (eqRing_r exw _ _ _ _ _ O_34 O_46) (fun e u hR => ?_)
  obtain ⟨he, hb⟩ := hR
  refine ⟨.bool true, he, ?_⟩; clear he F a; intro a F
  refine hK _ _ (S_below hS hb) ?_
  replace hS := S_below hS hb
  clear hK K
  replace O_r := O_r.below hb
  replace O_34 := O_34.below hb
  replace O_42 := O_42.below hb
  replace O_46 := O_46.below hb
  replace M := M.below hb; clear hb; try clear v
  refine any_val F 8 rfl (by kernel_rfl) (F.wants 51 false rfl (by kernel_rfl) rfl true rfl) rfl rfl (.bool false) (fun w' hS' => ex_not _ _ rfl _ (F.e rfl) _ rfl) hS ?_; clear F a; intro a F
  refine any_val F 9 rfl (by kernel_rfl) (wn rfl) rfl rfl (.bool false) (fun w' hS' => ex_pick_f _ _ _ rfl (F.e rfl) _ (F.e rfl)) hS ?_; clear F a; intro a F
  refine any_val F 10 rfl (by kernel_rfl) (wn rfl) rfl rfl (.bool false) (fun w' hS' => ex_move _ rfl _ (F.e rfl)) hS ?_; clear F a; intro a F
  refine any_val F 11 rfl (by kernel_rfl) (F.wants 57 false rfl (by kernel_rfl) rfl true rfl) rfl rfl (.agg #[.slice (some adr) (init.length + 1) c3, .int .u64 next]) (fun w' hS' => ex_load _ _ rfl _ (F.e rfl) _ (lvr (cs := [.slice (some adr) (init.length + 1) c3, .int .u64 next]) cu_row_69_2 ((MD.below hS').at (i := 3) rfl))) hS ?_; clear F a; intro a F
  refine any_val F 14 rfl (by kernel_rfl) (F.wants 57 false rfl (by kernel_rfl) rfl true rfl) rfl rfl (.agg #[.slice (some adr) (init.length + 1) c3, .int .u64 next]) (fun w' hS' => ex_load _ _ rfl _ (F.e rfl) _ (lvr (cs := [.slice (some adr) (init.length + 1) c3, .int .u64 next]) cu_row_69_2 ((MD.below hS').at (i := 3) rfl))) hS ?_; clear F a; intro a F
  refine any_ready [12] (by kernel_rfl) (by simp) ?_
  refine ready_do rfl (F.wants 57 false rfl (by kernel_rfl) rfl true rfl) (fun K hK => ?_) AllReadyH.nil
  refine ow_call rfl rfl F 18 #[.agg #[.slice (some adr) (init.length + 1) c3, .int .u64 next]] (ex_call 18 _ _ rfl rfl cu_ent_18 _ (map1 (F.e rfl))) (copy_r hR _ _ _ O_r) (fun e v hR => ?_)
  obtain ⟨A_59, c_59, he, O_59, hb⟩ := hR
  refine ⟨.agg #[.slice A_59 (init.length + 1) c_59, .int .u64 next], he, ?_⟩; clear he F a; intro a F
  refine hK _ _ (S_below hS hb) ?_
  replace hS := S_below hS hb
  clear hK K
  replace O_r := O_r.below hb
  replace O_34 := O_34.below hb
  replace O_42 := O_42.below hb
  replace O_46 := O_46.below hb
  replace M := M.below hb; clear hb; try clear u
  refine any_ready [13] (by kernel_rfl) (by simp) ?_
  refine ready_do rfl (F.wants 57 false rfl (by kernel_rfl) rfl true rfl) (fun K hK => ?_) AllReadyH.nil
  refine ow_call rfl rfl F 14 #[.agg #[.slice A_59 (init.length + 1) c_59, .int .u64 next], .int .i64 0] (ex_call 14 _ _ rfl rfl cu_ent_14 _ (map2 (F.e rfl) rfl)) (prune_x hR _ _ _ _ O_59) (fun e u hR => ?_)
  obtain ⟨A_60, c_60, he, O_60, hb⟩ := hR
  refine ⟨.agg #[.slice A_60 ((flt 0 init).length + 1) c_60, .int .u64 next], he, ?_⟩; clear he F a; intro a F
  refine hK _ _ (S_below hS hb) ?_
  replace hS := S_below hS hb
  clear hK K
  replace O_r := O_r.below hb
  replace O_34 := O_34.below hb
  replace O_42 := O_42.below hb
  replace O_46 := O_46.below hb
  replace O_59 := O_59.below hb
  replace M := M.below hb; clear hb; try clear v
  clear O_59
  refine any_ready [15] (by kernel_rfl) (by simp) ?_
  refine ready_do rfl (F.wants 57 false rfl (by kernel_rfl) rfl true rfl) (fun K hK => ?_) AllReadyH.nil
  refine ow_call rfl rfl F 21 #[.agg #[.slice A_60 ((flt 0 init).length + 1) c_60, .int .u64 next], .agg #[.slice (some adr) (init.length + 1) c3, .int .u64 next]] (ex_call 21 _ _ rfl rfl cu_ent_21 _ (map2 (F.e rfl) (F.e rfl))) (eqRing_r exz _ _ _ _ _ O_60 O_r) (fun e v hR => ?_)
  obtain ⟨he, hb⟩ := hR
  refine ⟨.bool true, he, ?_⟩; clear he F a; intro a F
  refine hK _ _ (S_below hS hb) ?_
  replace hS := S_below hS hb
  clear hK K
  replace O_r := O_r.below hb
  replace O_34 := O_34.below hb
  replace O_42 := O_42.below hb
  replace O_46 := O_46.below hb
  replace O_60 := O_60.below hb
  replace M := M.below hb; clear hb; try clear u
  refine any_val F 16 rfl (by kernel_rfl) (F.wants 57 false rfl (by kernel_rfl) rfl true rfl) rfl rfl (.bool false) (fun w' hS' => ex_not _ _ rfl _ (F.e rfl) _ rfl) hS ?_; clear F a; intro a F
  refine any_val F 17 rfl (by kernel_rfl) (wn rfl) rfl rfl (.bool false) (fun w' hS' => ex_pick_f _ _ _ rfl (F.e rfl) _ (F.e rfl)) hS ?_; clear F a; intro a F
  refine any_done (by kernel_rfl) ?_
  exact ⟨A_59, c_59, A_60, c_60, F.keep ⟨rfl, rfl, rfl, rfl, rfl, rfl, rfl, rfl, rfl, rfl, rfl, trivial⟩, (by refine M.pick' [0, 1, 2, 3, 4] _ ?_ (by decide); exact ⟨rfl, rfl, rfl, rfl, rfl, trivial⟩), O_r, O_34, O_42, O_46, O_60⟩
 clear F M a O_r O_34 O_42 O_46
 intro a u hR; obtain ⟨A_59, c_59, A_60, c_60, F, M, O_r, O_34, O_42, O_46, O_60⟩ := hR; try clear v
 refine then_n ?_
 refine wp_cond_false (F.e rfl) ?_
 refine wp_skip ?_
 refine then_n ?_
 refine wp_seq ?_
 clear O_34
 clear O_42
 clear O_60
 refine wp_region_lit ?_
 refine list_val F (wn rfl) rfl rfl (.int .i64 0) (ex_assign _ rfl _ rfl) ?_; clear F a; intro a F
 refine wpList_nil ?_
 replace F : Fr 124 a [(0, .agg (timesArr s (.slice A ts.length c) ta tb)), (1, .pointer (some ⟨g1, 0, none⟩)), (2, .bool false), (3, .pointer (some ⟨g3, 0, none⟩)), (4, .bool true), (5, .int .i64 late), (6, .pointer (some ⟨g6, 0, none⟩)), (7, .pointer (some ⟨g7, 0, none⟩)), (8, .pointer (some ⟨g8, 0, none⟩)), (9, .int .i64 0), (18, .bool false), (64, .bool false)] := F.keep ⟨rfl, rfl, rfl, rfl, rfl, rfl, rfl, rfl, rfl, rfl, rfl, rfl, trivial⟩
 refine then_n ?_
 refine wp_seq ?_
 refine wp_seq ?_
 refine wp_region_lit ?_
 refine list_val F (wn rfl) rfl rfl (.int .i64 0) (ex_assign _ rfl _ rfl) ?_; clear F a; intro a F
 refine wpList_nil ?_
 replace F : Fr 124 a [(0, .agg (timesArr s (.slice A ts.length c) ta tb)), (1, .pointer (some ⟨g1, 0, none⟩)), (2, .bool false), (3, .pointer (some ⟨g3, 0, none⟩)), (4, .bool true), (5, .int .i64 late), (6, .pointer (some ⟨g6, 0, none⟩)), (7, .pointer (some ⟨g7, 0, none⟩)), (8, .pointer (some ⟨g8, 0, none⟩)), (9, .int .i64 0), (10, .int .i64 0), (18, .bool false), (64, .bool false)] := F.keep ⟨rfl, rfl, rfl, rfl, rfl, rfl, rfl, rfl, rfl, rfl, rfl, rfl, rfl, trivial⟩
 refine then_n ?_
 refine wp_block ?_
 refine wp_loopN (fun mq ar wr => ∃ (i : Nat), ∃ (kk : Nat), Fr 124 ar [(0, .agg (timesArr s (.slice A ts.length c) ta tb)), (1, .pointer (some ⟨g1, 0, none⟩)), (2, .bool false), (3, .pointer (some ⟨g3, 0, none⟩)), (4, .bool true), (5, .int .i64 late), (6, .pointer (some ⟨g6, 0, none⟩)), (7, .pointer (some ⟨g7, 0, none⟩)), (8, .pointer (some ⟨g8, 0, none⟩)), (9, .int .i64 kk), (10, .int .i64 i), (18, .bool false), (64, .bool false)] ∧ Mm w wr [⟨g8, #[.slice (some adw) ((flt late init).length + 1) c_46, .int .u64 next], 69⟩, ⟨g3, #[.slice (some adr) (init.length + 1) c3, .int .u64 next], 69⟩] ∧ RO wr (some adr) c3 ⟨init ++ [last], next⟩ ∧ RO wr (some adw) c_46 ⟨flt late init ++ [last], next⟩ ∧ i ≤ init.length + 1 ∧ kk = cnt late (init ++ [last]) i ∧ mq + i = (init.length + 1)) (init.length + 1) ?_ ?_
 ·
  exact ⟨0, 0, F.keep ⟨rfl, rfl, rfl, rfl, rfl, rfl, rfl, rfl, rfl, rfl, rfl, rfl, rfl, trivial⟩, (by refine M.pick' [0, 3] _ ?_ (by decide); exact ⟨rfl, rfl, trivial⟩), O_r, O_46, (Nat.zero_le _), (cnt_zero _ _).symm, (by omega)⟩
 clear F M a O_r O_46
 rintro mq a v ⟨i, kk, F, M, O_r, O_46, hi, hkk, hq⟩; try clear u
 by_cases hc1 : i < init.length + 1
 ·
  obtain ⟨ad', had, zi, _, _⟩ := at_Key (O_r.rk.1) (i : Int) (by omega) (by simp only [ring_len]; omega)
  obtain rfl := Option.some.inj had
  clear had
  have hil : i < (init ++ [last]).length := by simp only [ring_len]; exact hc1
  rw [show (i : Int).toNat = i from rfl, show rdK (⟨init ++ [last], next⟩ : Rg).keys (i : Int) = (init ++ [last])[i] from rdK_eq hil] at zi
  generalize hkg : (init ++ [last])[i] = ki at zi
  refine wp_seq ?_
  refine wp_seq ?_
  refine wp_region_lit ?_
  refine list_val F (wn rfl) rfl rfl (.int .i64 i) (ex_move _ rfl _ (F.e rfl)) ?_; clear F a; intro a F
  refine list_val F (wn rfl) rfl rfl (.pointer (some ⟨g3, 0, none⟩)) (ex_fa _ _ _ rfl _ (F.e rfl) 0 cu_fa_69_0_0 ⟨g3, 0, none⟩ rfl) ?_; clear F a; intro a F
  refine list_val F (wn rfl) rfl rfl (.slice (some adr) (init.length + 1) c3) (ex_load _ _ rfl _ (F.e rfl) _ (lv1 cu_one_55 (M.cell (i := 1) rfl (j := 0) rfl))) ?_; clear F a; intro a F
  refine list_val F (wn rfl) rfl rfl (.int .i64 (((init.length + 1) : Nat) : Int)) (ex_len _ _ rfl 34 cu_sl_55_34 _ _ _ (F.e rfl)) ?_; clear F a; intro a F
  refine list_val F (wn rfl) rfl rfl (.bool true) (ex_bin .lss _ _ _ _ rfl .i64 _ _ (F.e rfl) (F.e rfl) _ (b_lss (decide_eq_true (by omega)))) ?_; clear F a; intro a F
  refine wpList_nil ?_
  replace F : Fr 124 a [(0, .agg (timesArr s (.slice A ts.length c) ta tb)), (1, .pointer (some ⟨g1, 0, none⟩)), (2, .bool false), (3, .pointer (some ⟨g3, 0, none⟩)), (4, .bool true), (5, .int .i64 late), (6, .pointer (some ⟨g6, 0, none⟩)), (7, .pointer (some ⟨g7, 0, none⟩)), (8, .pointer (some ⟨g8, 0, none⟩)), (9, .int .i64 kk), (10, .int .i64 i), (18, .bool false), (64, .bool false), (69, .bool true)] := F.keep ⟨rfl, rfl, rfl, rfl, rfl, rfl, rfl, rfl, rfl, rfl, rfl, rfl, rfl, rfl, trivial⟩
  refine then_n ?_
  refine wp_cond_true (F.e rfl) ?_
  refine wp_skip ?_
  refine then_n ?_
  refine wp_seq ?_
  refine wp_block ?_
  refine wp_only (fun ar wr => ∃ (kn : Nat), Fr 124 ar [(0, .agg (timesArr s (.slice A ts.length c) ta tb)), (1, .pointer (some ⟨g1, 0, none⟩)), (2, .bool false), (3, .pointer (some ⟨g3, 0, none⟩)), (4, .bool true), (5, .int .i64 late), (6, .pointer (some ⟨g6, 0, none⟩)), (7, .pointer (some ⟨g7, 0, none⟩)), (8, .pointer (some ⟨g8, 0, none⟩)), (9, .int .i64 kn), (10, .int .i64 i), (18, .bool false), (64, .bool false), (69, .bool true)] ∧ Mm w wr [⟨g8, #[.slice (some adw) ((flt late init).length + 1) c_46, .int .u64 next], 69⟩, ⟨g3, #[.slice (some adr) (init.length + 1) c3, .int .u64 next], 69⟩] ∧ RO wr (some adr) c3 ⟨init ++ [last], next⟩ ∧ RO wr (some adw) c_46 ⟨flt late init ++ [last], next⟩ ∧ At wr (adr.add (i * 34)) ki.cs ∧ kn = cnt late (init ++ [last]) (i + 1)) ?_ ?_
  ·
   refine wp_seq ?_
   by_cases ht0 : ki.til = 0
   ·
    have hst' : stay late (init ++ [last])[i] = true := by rw [hkg]; simp [stay, ht0]
    have hlt := cnt_lt late _ i hil hst'
    have hget := cnt_get late _ i hil hst'
    rw [← flt_all hR, ← hkk] at hlt hget
    rw [ring_len] at hlt
    obtain ⟨ad', had, zw, _, _⟩ := at_Key (O_46.rk.1) (kk : Int) (by omega) (by simp only [ring_len]; omega)
    obtain rfl := Option.some.inj had
    clear had
    rw [show (kk : Int).toNat = kk from rfl, show rdK (⟨flt late init ++ [last], next⟩ : Rg).keys (kk : Int) = ki by
      rw [rdK_eq (show kk < (flt late init ++ [last]).length by rw [ring_len]; exact hlt)]
      exact ((List.getElem?_eq_some_iff.1 hget).2).trans hkg] at zw
    clear hget
    refine wp_region_lit ?_
    refine list_val F (wn rfl) rfl rfl (.pointer (some ⟨g3, 0, none⟩)) (ex_fa _ _ _ rfl _ (F.e rfl) 0 cu_fa_69_0_0 ⟨g3, 0, none⟩ rfl) ?_; clear F a; intro a F
    refine list_val F (wn rfl) rfl rfl (.slice (some adr) (init.length + 1) c3) (ex_load _ _ rfl _ (F.e rfl) _ (lv1 cu_one_55 (M.cell (i := 1) rfl (j := 0) rfl))) ?_; clear F a; intro a F
    refine list_val F (wn rfl) rfl rfl (.int .i64 i) (ex_move _ rfl _ (F.e rfl)) ?_; clear F a; intro a F
    refine list_val F (wn rfl) rfl rfl (.pointer (some (adr.add (i * 34)))) (ex_ix _ _ _ rfl 34 cu_sl_55_34 adr _ _ (F.e rfl) .i64 _ (F.e rfl) i rfl (by omega) (adr.add (i * 34)) rfl) ?_; clear F a; intro a F
    refine list_val F (wn rfl) rfl rfl (.pointer (some ((adr.add (i * 34)).add 33))) (ex_fa _ _ _ rfl _ (F.e rfl) 33 cu_fa_107_2_33 ((adr.add (i * 34)).add 33) rfl) ?_; clear F a; intro a F
    refine list_val F (wn rfl) rfl rfl (.int .i64 ki.til) (ex_load _ _ rfl _ (F.e rfl) _ (lv1 cu_one_2 (zi.cell 33 _ (Key.cs_33 _)))) ?_; clear F a; intro a F
    refine list_val F (wn rfl) rfl rfl (.bool true) (ex_bin .eql _ _ _ _ rfl .i64 _ _ (F.e rfl) rfl _ (b_eql (by simp [ht0]))) ?_; clear F a; intro a F
    refine list_val F (wn rfl) rfl rfl (.bool true) (ex_move _ rfl _ (F.e rfl)) ?_; clear F a; intro a F
    refine list_skip F (F.wants 79 true rfl (by kernel_rfl) rfl false rfl) rfl rfl ?_; clear F a; intro a F
    refine list_skip F (F.wants 79 true rfl (by kernel_rfl) rfl false rfl) rfl rfl ?_; clear F a; intro a F
    refine list_skip F (F.wants 79 true rfl (by kernel_rfl) rfl false rfl) rfl rfl ?_; clear F a; intro a F
    refine list_skip F (F.wants 79 true rfl (by kernel_rfl) rfl false rfl) rfl rfl ?_; clear F a; intro a F
    refine list_skip F (F.wants 79 true rfl (by kernel_rfl) rfl false rfl) rfl rfl ?_; clear F a; intro a F
    refine list_skip F (F.wants 79 true rfl (by kernel_rfl) rfl false rfl) rfl rfl ?_; clear F a; intro a F
    refine list_skip F (F.wants 79 true rfl (by kernel_rfl) rfl false rfl) rfl rfl ?_; clear F a; intro a F
    refine list_skip F (F.wants 79 true rfl (by kernel_rfl) rfl false rfl) rfl rfl ?_; clear F a; intro a F
    refine list_val F (wn rfl) rfl rfl (.bool true) (ex_pick_t _ _ _ rfl (F.e rfl) _ rfl) ?_; clear F a; intro a F
    refine wpList_nil ?_
    replace F : Fr 124 a [(0, .agg (timesArr s (.slice A ts.length c) ta tb)), (1, .pointer (some ⟨g1, 0, none⟩)), (2, .bool false), (3, .pointer (some ⟨g3, 0, none⟩)), (4, .bool true), (5, .int .i64 late), (6, .pointer (some ⟨g6, 0, none⟩)), (7, .pointer (some ⟨g7, 0, none⟩)), (8, .pointer (some ⟨g8, 0, none⟩)), (9, .int .i64 kk), (10, .int .i64 i), (18, .bool false), (64, .bool false), (69, .bool true), (88, .bool true)] := F.keep ⟨rfl, rfl, rfl, rfl, rfl, rfl, rfl, rfl, rfl, rfl, rfl, rfl, rfl, rfl, rfl, trivial⟩
    refine then_n ?_
    refine wp_cond_true (F.e rfl) ?_
    refine wp_seq ?_
    refine wp_seq ?_
    refine region_tail 17 cu_follows_mixedOrders (by kernel_rfl) M ?_; clear M; intro u M hb
    replace O_r := O_r.below hb
    replace O_46 := O_46.below hb
    replace zi := zi.below hb
    replace zw := zw.below hb
    clear hb; try clear v
    refine still_val F (wn rfl) rfl rfl (.int .i64 kk) (ex_move _ rfl _ (F.e rfl)) ?_; clear F a; intro a F
    refine still_val F (wn rfl) rfl rfl (.pointer (some ⟨g8, 0, none⟩)) (ex_fa _ _ _ rfl _ (F.e rfl) 0 cu_fa_69_0_0 ⟨g8, 0, none⟩ rfl) ?_; clear F a; intro a F
    refine still_val F (wn rfl) rfl rfl (.slice (some adw) ((flt late init).length + 1) c_46) (ex_load _ _ rfl _ (F.e rfl) _ (lv1 cu_one_55 (M.cell (i := 0) rfl (j := 0) rfl))) ?_; clear F a; intro a F
    refine still_val F (wn rfl) rfl rfl (.int .i64 ((((flt late init).length + 1) : Nat) : Int)) (ex_len _ _ rfl 34 cu_sl_55_34 _ _ _ (F.e rfl)) ?_; clear F a; intro a F
    refine still_val F (wn rfl) rfl rfl (.bool false) (ex_bin .geq _ _ _ _ rfl .i64 _ _ (F.e rfl) (F.e rfl) _ (b_geq (decide_eq_false (by omega)))) ?_; clear F a; intro a F
    refine still_val F (wn rfl) rfl rfl (.bool false) (ex_move _ rfl _ (F.e rfl)) ?_; clear F a; intro a F
    refine still_val F (F.wants 94 false rfl (by kernel_rfl) rfl true rfl) rfl rfl (.pointer (some ⟨g8, 0, none⟩)) (ex_fa _ _ _ rfl _ (F.e rfl) 0 cu_fa_69_0_0 ⟨g8, 0, none⟩ rfl) ?_; clear F a; intro a F
    refine still_val F (F.wants 94 false rfl (by kernel_rfl) rfl true rfl) rfl rfl (.slice (some adw) ((flt late init).length + 1) c_46) (ex_load _ _ rfl _ (F.e rfl) _ (lv1 cu_one_55 (M.cell (i := 0) rfl (j := 0) rfl))) ?_; clear F a; intro a F
    refine still_val F (F.wants 94 false rfl (by kernel_rfl) rfl true rfl) rfl rfl (.int .i64 kk) (ex_move _ rfl _ (F.e rfl)) ?_; clear F a; intro a F
    refine still_val F (F.wants 94 false rfl (by kernel_rfl) rfl true rfl) rfl rfl (.pointer (some (adw.add (kk * 34)))) (ex_ix _ _ _ rfl 34 cu_sl_55_34 adw _ _ (F.e rfl) .i64 _ (F.e rfl) kk rfl (by omega) (adw.add (kk * 34)) rfl) ?_; clear F a; intro a F
    refine still_val F (F.wants 94 false rfl (by kernel_rfl) rfl true rfl) rfl rfl (.agg ki.arr) (ex_load _ _ rfl _ (F.e rfl) _ (lvr (cs := ki.cs) (by rw [Key.cs_len]; exact cu_row_107_34) (zw))) ?_; clear F a; intro a F
    refine still_val F (F.wants 94 false rfl (by kernel_rfl) rfl true rfl) rfl rfl (.pointer (some ⟨g3, 0, none⟩)) (ex_fa _ _ _ rfl _ (F.e rfl) 0 cu_fa_69_0_0 ⟨g3, 0, none⟩ rfl) ?_; clear F a; intro a F
    refine still_val F (F.wants 94 false rfl (by kernel_rfl) rfl true rfl) rfl rfl (.slice (some adr) (init.length + 1) c3) (ex_load _ _ rfl _ (F.e rfl) _ (lv1 cu_one_55 (M.cell (i := 1) rfl (j := 0) rfl))) ?_; clear F a; intro a F
    refine still_val F (F.wants 94 false rfl (by kernel_rfl) rfl true rfl) rfl rfl (.int .i64 i) (ex_move _ rfl _ (F.e rfl)) ?_; clear F a; intro a F
    refine still_val F (F.wants 94 false rfl (by kernel_rfl) rfl true rfl) rfl rfl (.pointer (some (adr.add (i * 34)))) (ex_ix _ _ _ rfl 34 cu_sl_55_34 adr _ _ (F.e rfl) .i64 _ (F.e rfl) i rfl (by omega) (adr.add (i * 34)) rfl) ?_; clear F a; intro a F
    refine still_val F (F.wants 94 false rfl (by kernel_rfl) rfl true rfl) rfl rfl (.agg ki.arr) (ex_load _ _ rfl _ (F.e rfl) _ (lvr (cs := ki.cs) (by rw [Key.cs_len]; exact cu_row_107_34) (zi))) ?_; clear F a; intro a F
    refine still_val F (F.wants 94 false rfl (by kernel_rfl) rfl true rfl) rfl rfl (.bool false) (ex_neqk _ _ _ rfl ki ki (F.e rfl) (F.e rfl) false (by simp)) ?_; clear F a; intro a F
    refine still_end ?_
    refine list_val F (wn rfl) rfl rfl (.bool false) (ex_pick_f _ _ _ rfl (F.e rfl) _ (F.e rfl)) ?_; clear F a; intro a F
    refine wpList_nil ?_
    replace F : Fr 124 a [(0, .agg (timesArr s (.slice A ts.length c) ta tb)), (1, .pointer (some ⟨g1, 0, none⟩)), (2, .bool false), (3, .pointer (some ⟨g3, 0, none⟩)), (4, .bool true), (5, .int .i64 late), (6, .pointer (some ⟨g6, 0, none⟩)), (7, .pointer (some ⟨g7, 0, none⟩)), (8, .pointer (some ⟨g8, 0, none⟩)), (9, .int .i64 kk), (10, .int .i64 i), (18, .bool false), (64, .bool false), (69, .bool true), (88, .bool true), (106, .bool false)] := F.keep ⟨rfl, rfl, rfl, rfl, rfl, rfl, rfl, rfl, rfl, rfl, rfl, rfl, rfl, rfl, rfl, rfl, trivial⟩
    refine then_n ?_
    refine wp_cond_false (F.e rfl) ?_
    refine wp_skip ?_
    refine then_n ?_
    refine wp_region_lit ?_
    refine list_val F (wn rfl) rfl rfl (.int .i64 kk) (ex_move _ rfl _ (F.e rfl)) ?_; clear F a; intro a F
    refine list_val F (wn rfl) rfl rfl (.int .i64 (kk + 1)) (ex_bin .add _ _ _ _ rfl .i64 _ _ (F.e rfl) rfl _ (b_add (w_i64 (by omega) (by have := cnt_le late (init ++ [last]) i; rw [ring_len] at this; omega)))) ?_; clear F a; intro a F
    refine list_val F (wn rfl) rfl rfl (.int .i64 (kk + 1)) (ex_assign _ rfl _ (F.e rfl)) ?_; clear F a; intro a F
    refine wpList_nil ?_
    replace F : Fr 124 a [(0, .agg (timesArr s (.slice A ts.length c) ta tb)), (1, .pointer (some ⟨g1, 0, none⟩)), (2, .bool false), (3, .pointer (some ⟨g3, 0, none⟩)), (4, .bool true), (5, .int .i64 late), (6, .pointer (some ⟨g6, 0, none⟩)), (7, .pointer (some ⟨g7, 0, none⟩)), (8, .pointer (some ⟨g8, 0, none⟩)), (9, .int .i64 (kk + 1)), (10, .int .i64 i), (18, .bool false), (64, .bool false), (69, .bool true), (88, .bool true), (106, .bool false)] := F.keep ⟨rfl, rfl, rfl, rfl, rfl, rfl, rfl, rfl, rfl, rfl, rfl, rfl, rfl, rfl, rfl, rfl, trivial⟩
    refine only_n ?_
    exact ⟨(kk + 1), F.keep ⟨rfl, rfl, rfl, rfl, rfl, rfl, rfl, rfl, rfl, rfl, rfl, rfl, rfl, rfl, trivial⟩, (by refine M.pick' [0, 1] _ ?_ (by decide); exact ⟨rfl, rfl, trivial⟩), O_r, O_46, zi, (by rw [cnt_succ _ _ _ hil, if_pos hst', hkk])⟩
   by_cases hl : late < ki.til
   ·
    have hst' : stay late (init ++ [last])[i] = true := by rw [hkg]; simp [stay, hl]
    have hlt := cnt_lt late _ i hil hst'
    have hget := cnt_get late _ i hil hst'
    rw [← flt_all hR, ← hkk] at hlt hget
    rw [ring_len] at hlt
    obtain ⟨ad', had, zw, _, _⟩ := at_Key (O_46.rk.1) (kk : Int) (by omega) (by simp only [ring_len]; omega)
    obtain rfl := Option.some.inj had
    clear had
    rw [show (kk : Int).toNat = kk from rfl, show rdK (⟨flt late init ++ [last], next⟩ : Rg).keys (kk : Int) = ki by
      rw [rdK_eq (show kk < (flt late init ++ [last]).length by rw [ring_len]; exact hlt)]
      exact ((List.getElem?_eq_some_iff.1 hget).2).trans hkg] at zw
    clear hget
    refine wp_region_lit ?_
    refine list_val F (wn rfl) rfl rfl (.pointer (some ⟨g3, 0, none⟩)) (ex_fa _ _ _ rfl _ (F.e rfl) 0 cu_fa_69_0_0 ⟨g3, 0, none⟩ rfl) ?_; clear F a; intro a F
    refine list_val F (wn rfl) rfl rfl (.slice (some adr) (init.length + 1) c3) (ex_load _ _ rfl _ (F.e rfl) _ (lv1 cu_one_55 (M.cell (i := 1) rfl (j := 0) rfl))) ?_; clear F a; intro a F
    refine list_val F (wn rfl) rfl rfl (.int .i64 i) (ex_move _ rfl _ (F.e rfl)) ?_; clear F a; intro a F
    refine list_val F (wn rfl) rfl rfl (.pointer (some (adr.add (i * 34)))) (ex_ix _ _ _ rfl 34 cu_sl_55_34 adr _ _ (F.e rfl) .i64 _ (F.e rfl) i rfl (by omega) (adr.add (i * 34)) rfl) ?_; clear F a; intro a F
    refine list_val F (wn rfl) rfl rfl (.pointer (some ((adr.add (i * 34)).add 33))) (ex_fa _ _ _ rfl _ (F.e rfl) 33 cu_fa_107_2_33 ((adr.add (i * 34)).add 33) rfl) ?_; clear F a; intro a F
    refine list_val F (wn rfl) rfl rfl (.int .i64 ki.til) (ex_load _ _ rfl _ (F.e rfl) _ (lv1 cu_one_2 (zi.cell 33 _ (Key.cs_33 _)))) ?_; clear F a; intro a F
    refine list_val F (wn rfl) rfl rfl (.bool false) (ex_bin .eql _ _ _ _ rfl .i64 _ _ (F.e rfl) rfl _ (b_eql (by simp [ht0]))) ?_; clear F a; intro a F
    refine list_val F (wn rfl) rfl rfl (.bool false) (ex_move _ rfl _ (F.e rfl)) ?_; clear F a; intro a F
    refine list_val F (F.wants 79 false rfl (by kernel_rfl) rfl true rfl) rfl rfl (.pointer (some ⟨g3, 0, none⟩)) (ex_fa _ _ _ rfl _ (F.e rfl) 0 cu_fa_69_0_0 ⟨g3, 0, none⟩ rfl) ?_; clear F a; intro a F
    refine list_val F (F.wants 79 false rfl (by kernel_rfl) rfl true rfl) rfl rfl (.slice (some adr) (init.length + 1) c3) (ex_load _ _ rfl _ (F.e rfl) _ (lv1 cu_one_55 (M.cell (i := 1) rfl (j := 0) rfl))) ?_; clear F a; intro a F
    refine list_val F (F.wants 79 false rfl (by kernel_rfl) rfl true rfl) rfl rfl (.int .i64 i) (ex_move _ rfl _ (F.e rfl)) ?_; clear F a; intro a F
    refine list_val F (F.wants 79 false rfl (by kernel_rfl) rfl true rfl) rfl rfl (.pointer (some (adr.add (i * 34)))) (ex_ix _ _ _ rfl 34 cu_sl_55_34 adr _ _ (F.e rfl) .i64 _ (F.e rfl) i rfl (by omega) (adr.add (i * 34)) rfl) ?_; clear F a; intro a F
    refine list_val F (F.wants 79 false rfl (by kernel_rfl) rfl true rfl) rfl rfl (.pointer (some ((adr.add (i * 34)).add 33))) (ex_fa _ _ _ rfl _ (F.e rfl) 33 cu_fa_107_2_33 ((adr.add (i * 34)).add 33) rfl) ?_; clear F a; intro a F
    refine list_val F (F.wants 79 false rfl (by kernel_rfl) rfl true rfl) rfl rfl (.int .i64 ki.til) (ex_load _ _ rfl _ (F.e rfl) _ (lv1 cu_one_2 (zi.cell 33 _ (Key.cs_33 _)))) ?_; clear F a; intro a F
    refine list_val F (F.wants 79 false rfl (by kernel_rfl) rfl true rfl) rfl rfl (.int .i64 late) (ex_move _ rfl _ (F.e rfl)) ?_; clear F a; intro a F
    refine list_val F (F.wants 79 false rfl (by kernel_rfl) rfl true rfl) rfl rfl (.bool true) (ex_bin .gtr _ _ _ _ rfl .i64 _ _ (F.e rfl) (F.e rfl) _ (b_gtr (decide_eq_true hl))) ?_; clear F a; intro a F
    refine list_val F (wn rfl) rfl rfl (.bool true) (ex_pick_f _ _ _ rfl (F.e rfl) _ (F.e rfl)) ?_; clear F a; intro a F
    refine wpList_nil ?_
    replace F : Fr 124 a [(0, .agg (timesArr s (.slice A ts.length c) ta tb)), (1, .pointer (some ⟨g1, 0, none⟩)), (2, .bool false), (3, .pointer (some ⟨g3, 0, none⟩)), (4, .bool true), (5, .int .i64 late), (6, .pointer (some ⟨g6, 0, none⟩)), (7, .pointer (some ⟨g7, 0, none⟩)), (8, .pointer (some ⟨g8, 0, none⟩)), (9, .int .i64 kk), (10, .int .i64 i), (18, .bool false), (64, .bool false), (69, .bool true), (88, .bool true)] := F.keep ⟨rfl, rfl, rfl, rfl, rfl, rfl, rfl, rfl, rfl, rfl, rfl, rfl, rfl, rfl, rfl, trivial⟩
    refine then_n ?_
    refine wp_cond_true (F.e rfl) ?_
    refine wp_seq ?_
    refine wp_seq ?_
    refine region_tail 17 cu_follows_mixedOrders (by kernel_rfl) M ?_; clear M; intro u M hb
    replace O_r := O_r.below hb
    replace O_46 := O_46.below hb
    replace zi := zi.below hb
    replace zw := zw.below hb
    clear hb; try clear v
    refine still_val F (wn rfl) rfl rfl (.int .i64 kk) (ex_move _ rfl _ (F.e rfl)) ?_; clear F a; intro a F
    refine still_val F (wn rfl) rfl rfl (.pointer (some ⟨g8, 0, none⟩)) (ex_fa _ _ _ rfl _ (F.e rfl) 0 cu_fa_69_0_0 ⟨g8, 0, none⟩ rfl) ?_; clear F a; intro a F
    refine still_val F (wn rfl) rfl rfl (.slice (some adw) ((flt late init).length + 1) c_46) (ex_load _ _ rfl _ (F.e rfl) _ (lv1 cu_one_55 (M.cell (i := 0) rfl (j := 0) rfl))) ?_; clear F a; intro a F
    refine still_val F (wn rfl) rfl rfl (.int .i64 ((((flt late init).length + 1) : Nat) : Int)) (ex_len _ _ rfl 34 cu_sl_55_34 _ _ _ (F.e rfl)) ?_; clear F a; intro a F
    refine still_val F (wn rfl) rfl rfl (.bool false) (ex_bin .geq _ _ _ _ rfl .i64 _ _ (F.e rfl) (F.e rfl) _ (b_geq (decide_eq_false (by omega)))) ?_; clear F a; intro a F
    refine still_val F (wn rfl) rfl rfl (.bool false) (ex_move _ rfl _ (F.e rfl)) ?_; clear F a; intro a F
    refine still_val F (F.wants 94 false rfl (by kernel_rfl) rfl true rfl) rfl rfl (.pointer (some ⟨g8, 0, none⟩)) (ex_fa _ _ _ rfl _ (F.e rfl) 0 cu_fa_69_0_0 ⟨g8, 0, none⟩ rfl) ?_; clear F a; intro a F
    refine still_val F (F.wants 94 false rfl (by kernel_rfl) rfl true rfl) rfl rfl (.slice (some adw) ((flt late init).length + 1) c_46) (ex_load _ _ rfl _ (F.e rfl) _ (lv1 cu_one_55 (M.cell (i := 0) rfl (j := 0) rfl))) ?_; clear F a; intro a F
    refine still_val F (F.wants 94 false rfl (by kernel_rfl) rfl true rfl) rfl rfl (.int .i64 kk) (ex_move _ rfl _ (F.e rfl)) ?_; clear F a; intro a F
    refine still_val F (F.wants 94 false rfl (by kernel_rfl) rfl true rfl) rfl rfl (.pointer (some (adw.add (kk * 34)))) (ex_ix _ _ _ rfl 34 cu_sl_55_34 adw _ _ (F.e rfl) .i64 _ (F.e rfl) kk rfl (by omega) (adw.add (kk * 34)) rfl) ?_; clear F a; intro a F
    refine still_val F (F.wants 94 false rfl (by kernel_rfl) rfl true rfl) rfl rfl (.agg ki.arr) (ex_load _ _ rfl _ (F.e rfl) _ (lvr (cs := ki.cs) (by rw [Key.cs_len]; exact cu_row_107_34) (zw))) ?_; clear F a; intro a F
    refine still_val F (F.wants 94 false rfl (by kernel_rfl) rfl true rfl) rfl rfl (.pointer (some ⟨g3, 0, none⟩)) (ex_fa _ _ _ rfl _ (F.e rfl) 0 cu_fa_69_0_0 ⟨g3, 0, none⟩ rfl) ?_; clear F a; intro a F
    refine still_val F (F.wants 94 false rfl (by kernel_rfl) rfl true rfl) rfl rfl (.slice (some adr) (init.length + 1) c3) (ex_load _ _ rfl _ (F.e rfl) _ (lv1 cu_one_55 (M.cell (i := 1) rfl (j := 0) rfl))) ?_; clear F a; intro a F
    refine still_val F (F.wants 94 false rfl (by kernel_rfl) rfl true rfl) rfl rfl (.int .i64 i) (ex_move _ rfl _ (F.e rfl)) ?_; clear F a; intro a F
    refine still_val F (F.wants 94 false rfl (by kernel_rfl) rfl true rfl) rfl rfl (.pointer (some (adr.add (i * 34)))) (ex_ix _ _ _ rfl 34 cu_sl_55_34 adr _ _ (F.e rfl) .i64 _ (F.e rfl) i rfl (by omega) (adr.add (i * 34)) rfl) ?_; clear F a; intro a F
    refine still_val F (F.wants 94 false rfl (by kernel_rfl) rfl true rfl) rfl rfl (.agg ki.arr) (ex_load _ _ rfl _ (F.e rfl) _ (lvr (cs := ki.cs) (by rw [Key.cs_len]; exact cu_row_107_34) (zi))) ?_; clear F a; intro a F
    refine still_val F (F.wants 94 false rfl (by kernel_rfl) rfl true rfl) rfl rfl (.bool false) (ex_neqk _ _ _ rfl ki ki (F.e rfl) (F.e rfl) false (by simp)) ?_; clear F a; intro a F
    refine still_end ?_
    refine list_val F (wn rfl) rfl rfl (.bool false) (ex_pick_f _ _ _ rfl (F.e rfl) _ (F.e rfl)) ?_; clear F a; intro a F
    refine wpList_nil ?_
    replace F : Fr 124 a [(0, .agg (timesArr s (.slice A ts.length c) ta tb)), (1, .pointer (some ⟨g1, 0, none⟩)), (2, .bool false), (3, .pointer (some ⟨g3, 0, none⟩)), (4, .bool true), (5, .int .i64 late), (6, .pointer (some ⟨g6, 0, none⟩)), (7, .pointer (some ⟨g7, 0, none⟩)), (8, .pointer (some ⟨g8, 0, none⟩)), (9, .int .i64 kk), (10, .int .i64 i), (18, .bool false), (64, .bool false), (69, .bool true), (88, .bool true), (106, .bool false)] := F.keep ⟨rfl, rfl, rfl, rfl, rfl, rfl, rfl, rfl, rfl, rfl, rfl, rfl, rfl, rfl, rfl, rfl, trivial⟩
    refine then_n ?_
    refine wp_cond_false (F.e rfl) ?_
    refine wp_skip ?_
    refine then_n ?_
    refine wp_region_lit ?_
    refine list_val F (wn rfl) rfl rfl (.int .i64 kk) (ex_move _ rfl _ (F.e rfl)) ?_; clear F a; intro a F
    refine list_val F (wn rfl) rfl rfl (.int .i64 (kk + 1)) (ex_bin .add _ _ _ _ rfl .i64 _ _ (F.e rfl) rfl _ (b_add (w_i64 (by omega) (by have := cnt_le late (init ++ [last]) i; rw [ring_len] at this; omega)))) ?_; clear F a; intro a F
    refine list_val F (wn rfl) rfl rfl (.int .i64 (kk + 1)) (ex_assign _ rfl _ (F.e rfl)) ?_; clear F a; intro a F
    refine wpList_nil ?_
    replace F : Fr 124 a [(0, .agg (timesArr s (.slice A ts.length c) ta tb)), (1, .pointer (some ⟨g1, 0, none⟩)), (2, .bool false), (3, .pointer (some ⟨g3, 0, none⟩)), (4, .bool true), (5, .int .i64 late), (6, .pointer (some ⟨g6, 0, none⟩)), (7, .pointer (some ⟨g7, 0, none⟩)), (8, .pointer (some ⟨g8, 0, none⟩)), (9, .int .i64 (kk + 1)), (10, .int .i64 i), (18, .bool false), (64, .bool false), (69, .bool true), (88, .bool true), (106, .bool false)] := F.keep ⟨rfl, rfl, rfl, rfl, rfl, rfl, rfl, rfl, rfl, rfl, rfl, rfl, rfl, rfl, rfl, rfl, trivial⟩
    refine only_n ?_
    exact ⟨(kk + 1), F.keep ⟨rfl, rfl, rfl, rfl, rfl, rfl, rfl, rfl, rfl, rfl, rfl, rfl, rfl, rfl, trivial⟩, (by refine M.pick' [0, 1] _ ?_ (by decide); exact ⟨rfl, rfl, trivial⟩), O_r, O_46, zi, (by rw [cnt_succ _ _ _ hil, if_pos hst', hkk])⟩
   have hst' : stay late (init ++ [last])[i] = false := by rw [hkg]; simp [stay, ht0]; omega
   refine wp_region_lit ?_
   refine list_val F (wn rfl) rfl rfl (.pointer (some ⟨g3, 0, none⟩)) (ex_fa _ _ _ rfl _ (F.e rfl) 0 cu_fa_69_0_0 ⟨g3, 0, none⟩ rfl) ?_; clear F a; intro a F
   refine list_val F (wn rfl) rfl rfl (.slice (some adr) (init.length + 1) c3) (ex_load _ _ rfl _ (F.e rfl) _ (lv1 cu_one_55 (M.cell (i := 1) rfl (j := 0) rfl))) ?_; clear F a; intro a F
   refine list_val F (wn rfl) rfl rfl (.int .i64 i) (ex_move _ rfl _ (F.e rfl)) ?_; clear F a; intro a F
   refine list_val F (wn rfl) rfl rfl (.pointer (some (adr.add (i * 34)))) (ex_ix _ _ _ rfl 34 cu_sl_55_34 adr _ _ (F.e rfl) .i64 _ (F.e rfl) i rfl (by omega) (adr.add (i * 34)) rfl) ?_; clear F a; intro a F
   refine list_val F (wn rfl) rfl rfl (.pointer (some ((adr.add (i * 34)).add 33))) (ex_fa _ _ _ rfl _ (F.e rfl) 33 cu_fa_107_2_33 ((adr.add (i * 34)).add 33) rfl) ?_; clear F a; intro a F
   refine list_val F (wn rfl) rfl rfl (.int .i64 ki.til) (ex_load _ _ rfl _ (F.e rfl) _ (lv1 cu_one_2 (zi.cell 33 _ (Key.cs_33 _)))) ?_; clear F a; intro a F
   refine list_val F (wn rfl) rfl rfl (.bool false) (ex_bin .eql _ _ _ _ rfl .i64 _ _ (F.e rfl) rfl _ (b_eql (by simp [ht0]))) ?_; clear F a; intro a F
   refine list_val F (wn rfl) rfl rfl (.bool false) (ex_move _ rfl _ (F.e rfl)) ?_; clear F a; intro a F
   refine list_val F (F.wants 79 false rfl (by kernel_rfl) rfl true rfl) rfl rfl (.pointer (some ⟨g3, 0, none⟩)) (ex_fa _ _ _ rfl _ (F.e rfl) 0 cu_fa_69_0_0 ⟨g3, 0, none⟩ rfl) ?_; clear F a; intro a F
   refine list_val F (F.wants 79 false rfl (by kernel_rfl) rfl true rfl) rfl rfl (.slice (some adr) (init.length + 1) c3) (ex_load _ _ rfl _ (F.e rfl) _ (lv1 cu_one_55 (M.cell (i := 1) rfl (j := 0) rfl))) ?_; clear F a; intro a F
   refine list_val F (F.wants 79 false rfl (by kernel_rfl) rfl true rfl) rfl rfl (.int .i64 i) (ex_move _ rfl _ (F.e rfl)) ?_; clear F a; intro a F
   refine list_val F (F.wants 79 false rfl (by kernel_rfl) rfl true rfl) rfl rfl (.pointer (some (adr.add (i * 34)))) (ex_ix _ _ _ rfl 34 cu_sl_55_34 adr _ _ (F.e rfl) .i64 _ (F.e rfl) i rfl (by omega) (adr.add (i * 34)) rfl) ?_; clear F a; intro a F
   refine list_val F (F.wants 79 false rfl (by kernel_rfl) rfl true rfl) rfl rfl (.pointer (some ((adr.add (i * 34)).add 33))) (ex_fa _ _ _ rfl _ (F.e rfl) 33 cu_fa_107_2_33 ((adr.add (i * 34)).add 33) rfl) ?_; clear F a; intro a F
   refine list_val F (F.wants 79 false rfl (by kernel_rfl) rfl true rfl) rfl rfl (.int .i64 ki.til) (ex_load _ _ rfl _ (F.e rfl) _ (lv1 cu_one_2 (zi.cell 33 _ (Key.cs_33 _)))) ?_; clear F a; intro a F
   refine list_val F (F.wants 79 false rfl (by kernel_rfl) rfl true rfl) rfl rfl (.int .i64 late) (ex_move _ rfl _ (F.e rfl)) ?_; clear F a; intro a F
   refine list_val F (F.wants 79 false rfl (by kernel_rfl) rfl true rfl) rfl rfl (.bool false) (ex_bin .gtr _ _ _ _ rfl .i64 _ _ (F.e rfl) (F.e rfl) _ (b_gtr (decide_eq_false hl))) ?_; clear F a; intro a F
   refine list_val F (wn rfl) rfl rfl (.bool false) (ex_pick_f _ _ _ rfl (F.e rfl) _ (F.e rfl)) ?_; clear F a; intro a F
   refine wpList_nil ?_
   replace F : Fr 124 a [(0, .agg (timesArr s (.slice A ts.length c) ta tb)), (1, .pointer (some ⟨g1, 0, none⟩)), (2, .bool false), (3, .pointer (some ⟨g3, 0, none⟩)), (4, .bool true), (5, .int .i64 late), (6, .pointer (some ⟨g6, 0, none⟩)), (7, .pointer (some ⟨g7, 0, none⟩)), (8, .pointer (some ⟨g8, 0, none⟩)), (9, .int .i64 kk), (10, .int .i64 i), (18, .bool false), (64, .bool false), (69, .bool true), (88, .bool false)] := F.keep ⟨rfl, rfl, rfl, rfl, rfl, rfl, rfl, rfl, rfl, rfl, rfl, rfl, rfl, rfl, rfl, trivial⟩
   refine then_n ?_
   refine wp_cond_false (F.e rfl) ?_
   refine wp_skip ?_
   refine only_n ?_
   exact ⟨kk, F.keep ⟨rfl, rfl, rfl, rfl, rfl, rfl, rfl, rfl, rfl, rfl, rfl, rfl, rfl, rfl, trivial⟩, (by refine M.pick' [0, 1] _ ?_ (by decide); exact ⟨rfl, rfl, trivial⟩), O_r, O_46, zi, (by rw [cnt_succ _ _ _ hil, if_neg (by rw [hst']; simp), Nat.add_zero]; exact hkk)⟩
  clear F M a O_r O_46 zi
  intro a u hR; obtain ⟨kn, F, M, O_r, O_46, zi, hkn⟩ := hR; try clear v
  refine in_n ?_
  refine then_n ?_
  refine wp_region_lit ?_
  refine list_val F (wn rfl) rfl rfl (.int .i64 i) (ex_move _ rfl _ (F.e rfl)) ?_; clear F a; intro a F
  refine list_val F (wn rfl) rfl rfl (.int .i64 (i + 1)) (ex_bin .add _ _ _ _ rfl .i64 _ _ (F.e rfl) rfl _ (b_add (w_i64 (by omega) (by omega)))) ?_; clear F a; intro a F
  refine list_val F (wn rfl) rfl rfl (.int .i64 (i + 1)) (ex_assign _ rfl _ (F.e rfl)) ?_; clear F a; intro a F
  refine wpList_nil ?_
  replace F : Fr 124 a [(0, .agg (timesArr s (.slice A ts.length c) ta tb)), (1, .pointer (some ⟨g1, 0, none⟩)), (2, .bool false), (3, .pointer (some ⟨g3, 0, none⟩)), (4, .bool true), (5, .int .i64 late), (6, .pointer (some ⟨g6, 0, none⟩)), (7, .pointer (some ⟨g7, 0, none⟩)), (8, .pointer (some ⟨g8, 0, none⟩)), (9, .int .i64 kn), (10, .int .i64 (i + 1)), (18, .bool false), (64, .bool false), (69, .bool true)] := F.keep ⟨rfl, rfl, rfl, rfl, rfl, rfl, rfl, rfl, rfl, rfl, rfl, rfl, rfl, rfl, trivial⟩
  refine then_n ?_
  exact ⟨(init.length + 1) - (i + 1), by omega, (i + 1), kn, F.keep ⟨rfl, rfl, rfl, rfl, rfl, rfl, rfl, rfl, rfl, rfl, rfl, rfl, rfl, trivial⟩, (by refine M.pick' [0, 1] _ ?_ (by decide); exact ⟨rfl, rfl, trivial⟩), O_r, O_46, (by omega), hkn, (by omega)⟩
 have hke : kk = (flt late init).length + 1 := by
   rw [hkk, cnt_all _ _ _ (by rw [ring_len]; omega), ← flt_all hR, ring_len]
 refine wp_seq ?_
 refine wp_seq ?_
 refine wp_region_lit ?_
 refine list_val F (wn rfl) rfl rfl (.int .i64 i) (ex_move _ rfl _ (F.e rfl)) ?_; clear F a; intro a F
 refine list_val F (wn rfl) rfl rfl (.pointer (some ⟨g3, 0, none⟩)) (ex_fa _ _ _ rfl _ (F.e rfl) 0 cu_fa_69_0_0 ⟨g3, 0, none⟩ rfl) ?_; clear F a; intro a F
 refine list_val F (wn rfl) rfl rfl (.slice (some adr) (init.length + 1) c3) (ex_load _ _ rfl _ (F.e rfl) _ (lv1 cu_one_55 (M.cell (i := 1) rfl (j := 0) rfl))) ?_; clear F a; intro a F
 refine list_val F (wn rfl) rfl rfl (.int .i64 (((init.length + 1) : Nat) : Int)) (ex_len _ _ rfl 34 cu_sl_55_34 _ _ _ (F.e rfl)) ?_; clear F a; intro a F
 refine list_val F (wn rfl) rfl rfl (.bool false) (ex_bin .lss _ _ _ _ rfl .i64 _ _ (F.e rfl) (F.e rfl) _ (b_lss (decide_eq_false (by omega)))) ?_; clear F a; intro a F
 refine wpList_nil ?_
 replace F : Fr 124 a [(0, .agg (timesArr s (.slice A ts.length c) ta tb)), (1, .pointer (some ⟨g1, 0, none⟩)), (2, .bool false), (3, .pointer (some ⟨g3, 0, none⟩)), (4, .bool true), (5, .int .i64 late), (6, .pointer (some ⟨g6, 0, none⟩)), (7, .pointer (some ⟨g7, 0, none⟩)), (8, .pointer (some ⟨g8, 0, none⟩)), (9, .int .i64 kk), (10, .int .i64 i), (18, .bool false), (64, .bool false), (69, .bool false)] := F.keep ⟨rfl, rfl, rfl, rfl, rfl, rfl, rfl, rfl, rfl, rfl, rfl, rfl, rfl, rfl, trivial⟩
 refine then_n ?_
 refine wp_cond_false (F.e rfl) ?_
 refine wp_exit ?_
 refine then_x ?_
 refine then_x ?_
 refine in_hit ?_
 refine then_n ?_
 refine wp_seq ?_
 refine wp_region_lit ?_
 refine list_val F (wn rfl) rfl rfl (.int .i64 kk) (ex_move _ rfl _ (F.e rfl)) ?_; clear F a; intro a F
 refine list_val F (wn rfl) rfl rfl (.pointer (some ⟨g8, 0, none⟩)) (ex_fa _ _ _ rfl _ (F.e rfl) 0 cu_fa_69_0_0 ⟨g8, 0, none⟩ rfl) ?_; clear F a; intro a F
 refine list_val F (wn rfl) rfl rfl (.slice (some adw) ((flt late init).length + 1) c_46) (ex_load _ _ rfl _ (F.e rfl) _ (lv1 cu_one_55 (M.cell (i := 0) rfl (j := 0) rfl))) ?_; clear F a; intro a F
 refine list_val F (wn rfl) rfl rfl (.int .i64 ((((flt late init).length + 1) : Nat) : Int)) (ex_len _ _ rfl 34 cu_sl_55_34 _ _ _ (F.e rfl)) ?_; clear F a; intro a F
 refine list_val F (wn rfl) rfl rfl (.bool true) (ex_bin .eql _ _ _ _ rfl .i64 _ _ (F.e rfl) (F.e rfl) _ (b_eql (by rw [hke]; simp))) ?_; clear F a; intro a F
 refine list_val F (wn rfl) rfl rfl (.bool true) (ex_move _ rfl _ (F.e rfl)) ?_; clear F a; intro a F
 refine list_val F (F.wants 114 true rfl (by kernel_rfl) rfl true rfl) rfl rfl (.pointer (some ⟨g8, 1, none⟩)) (ex_fa _ _ _ rfl _ (F.e rfl) 1 cu_fa_69_1_1 ⟨g8, 1, none⟩ rfl) ?_; clear F a; intro a F
 refine list_val F (F.wants 114 true rfl (by kernel_rfl) rfl true rfl) rfl rfl (.int .u64 next) (ex_load _ _ rfl _ (F.e rfl) _ (lv1 cu_one_67 (M.cell (i := 0) rfl (j := 1) rfl))) ?_; clear F a; intro a F
 refine list_val F (F.wants 114 true rfl (by kernel_rfl) rfl true rfl) rfl rfl (.pointer (some ⟨g3, 1, none⟩)) (ex_fa _ _ _ rfl _ (F.e rfl) 1 cu_fa_69_1_1 ⟨g3, 1, none⟩ rfl) ?_; clear F a; intro a F
 refine list_val F (F.wants 114 true rfl (by kernel_rfl) rfl true rfl) rfl rfl (.int .u64 next) (ex_load _ _ rfl _ (F.e rfl) _ (lv1 cu_one_67 (M.cell (i := 1) rfl (j := 1) rfl))) ?_; clear F a; intro a F
 refine list_val F (F.wants 114 true rfl (by kernel_rfl) rfl true rfl) rfl rfl (.bool true) (ex_bin .eql _ _ _ _ rfl .u64 _ _ (F.e rfl) (F.e rfl) _ (b_eql (by simp))) ?_; clear F a; intro a F
 refine list_val F (wn rfl) rfl rfl (.bool true) (ex_pick_t _ _ _ rfl (F.e rfl) _ (F.e rfl)) ?_; clear F a; intro a F
 refine list_val F (wn rfl) rfl rfl (.bool true) (ex_move _ rfl _ (F.e rfl)) ?_; clear F a; intro a F
 refine list_do (F.wants 121 true rfl (by kernel_rfl) rfl true rfl) (fun K hK => ?_)
 refine ow_call rfl rfl F 26 #[] (ex_call 26 _ _ rfl rfl cu_ent_26 _ (map0)) (wakes_any _) (fun e u hR => ?_)
 obtain ⟨he, hb⟩ := hR
 refine ⟨.bool true, he, ?_⟩; clear he F a; intro a F
 refine hK _ _ ?_
 clear hK K
 replace O_r := O_r.below hb
 replace O_46 := O_46.below hb
 replace M := M.below hb; clear hb; try clear v
 refine list_val F (wn rfl) rfl rfl (.bool true) (ex_pick_t _ _ _ rfl (F.e rfl) _ (F.e rfl)) ?_; clear F a; intro a F
 refine list_val F (wn rfl) rfl rfl (.bool true) (ex_assign _ rfl _ (F.e rfl)) ?_; clear F a; intro a F
 refine wpList_nil ?_
 replace F : Fr 124 a [(0, .agg (timesArr s (.slice A ts.length c) ta tb)), (1, .pointer (some ⟨g1, 0, none⟩)), (2, .bool true), (3, .pointer (some ⟨g3, 0, none⟩)), (4, .bool true), (5, .int .i64 late), (6, .pointer (some ⟨g6, 0, none⟩)), (7, .pointer (some ⟨g7, 0, none⟩)), (8, .pointer (some ⟨g8, 0, none⟩)), (9, .int .i64 kk), (10, .int .i64 i), (18, .bool false), (64, .bool false), (69, .bool false)] := F.keep ⟨rfl, rfl, rfl, rfl, rfl, rfl, rfl, rfl, rfl, rfl, rfl, rfl, rfl, rfl, trivial⟩
 refine then_n ?_
 refine wp_ret ?_
 exact ret_tmp F rfl rfl ⟨rfl, M.bel⟩
end Go.Proofs.Ytnechcibpmjblaa
