/- The document's own answers on a ring (posternref5): Check, Current, Find: their walks. Conditions: the ring's keys are read. -/
import Derived.Test.YtnechcibpmjblaaU
namespace Go.Proofs.Ytnechcibpmjblaa
open Go.RowKit Go.Proofs.YtnechcibpmjblaaW.PrintWords KB WG
set_option linter.unusedVariables false
set_option linter.unusedSimpArgs false

def belowK (ks : List Key) : Nat → Int
  | 0 => 0
  | i + 1 => (rdK ks (i : Int)).kid
theorem bad_ref {ks : List Key} {i : Nat} (hi : i < ks.length) (hg : ∀ j, j < i → badK ks j = false) : badK ks i = (decide ((rdK ks (i : Int)).kid ≤ belowK ks i) || (decide ((i : Int) < (ks.length : Int) - 1) != decide (0 < (rdK ks (i : Int)).til)) || decide ((rdK ks (i : Int)).til < 0)) := by
  have h0 : 0 < i → 1 ≤ belowK ks i ∧ belowK ks i = (rdK ks ((i : Int) - 1)).kid := by
    cases i with
    | zero => intro h; omega
    | succ i => intro _; exact ⟨(bad_false (hg i (by omega))).1, by rw [show ((i + 1 : Nat) : Int) - 1 = (i : Int) by omega]; rfl⟩
  have h1 : i = 0 → belowK ks i = 0 := by rintro rfl; rfl
  unfold badK
  rw [Bool.eq_iff_iff]
  simp only [Bool.or_eq_true, Bool.and_eq_true, decide_eq_true_iff, bne_iff_ne, ne_eq, decide_eq_decide]
  by_cases c1 : (i : Int) < (ks.length : Int) - 1 <;> by_cases c2 : 0 < (rdK ks (i : Int)).til <;> simp only [c1, c2, iff_true, iff_false, not_true, not_false_iff, or_true, or_false, true_or] <;> omega
theorem errK_len {ks : List Key} {next : Int} (h : ks.length < 1 ∨ 8 < ks.length ∨ 9223372036854775807 < next) : errK ks next = 50 := by
  unfold errK
  rw [if_neg]
  intro hc
  have := check_iff.1 hc
  omega
theorem below_last {ks : List Key} (h : 1 ≤ ks.length) : belowK ks ks.length = (rdK ks ((ks.length : Int) - 1)).kid := by
  obtain ⟨m, hm⟩ : ∃ m, ks.length = m + 1 := ⟨ks.length - 1, by omega⟩
  rw [hm, show ((m + 1 : Nat) : Int) - 1 = (m : Int) by omega]
  rfl
theorem errK_next {ks : List Key} {next : Int} (h1 : 1 ≤ ks.length) (h : next ≤ belowK ks ks.length) : errK ks next = 50 := by
  unfold errK
  rw [if_neg]
  intro hc
  have := (check_iff.1 hc).2.2.2.1
  rw [below_last h1] at h
  omega
theorem errK_ok {ks : List Key} {next : Int} (h1 : 1 ≤ ks.length) (h8 : ¬ 8 < ks.length) (hn : ¬ 9223372036854775807 < next) (h : ¬ next ≤ belowK ks ks.length) (hg : ∀ i, i < ks.length → badK ks i = false) : errK ks next = 0 := by
  unfold errK
  rw [if_pos]
  rw [below_last h1] at h
  exact check_iff.2 ⟨h1, by omega, by omega, by omega, hg⟩
theorem errK_no {ks : List Key} {next : Int} (h : checkK ks next = false) : errK ks next = 50 := by unfold errK; rw [h]; rfl
theorem errK_yes {ks : List Key} {next : Int} (h : checkK ks next = true) : errK ks next = 0 := by unfold errK; rw [h]; rfl
theorem one_no {p : Key → Bool} {ks : List Key} {next : Int} (h : checkK ks next = false) : oneF p ks next = zKey := by unfold oneF; rw [h]; rfl
theorem cur_last {ks : List Key} {next : Int} (h : checkK ks next = true) : curF ks next = rdK ks ((ks.length : Int) - 1) ∧ decide (rdK ks ((ks.length : Int) - 1) = zKey) = false := by
  obtain ⟨init, last, rfl, hR⟩ := isRing_of_check h
  have e : rdK (init ++ [last]) (((init ++ [last]).length : Int) - 1) = last := by
    rw [show ((init ++ [last]).length : Int) - 1 = ((init.length : Nat) : Int) by simp only [List.length_append, List.length_cons, List.length_nil]; omega, rdK_eq (by simp)]
    simp
  rw [e]
  exact ⟨hR.curr, decide_eq_false (hR.ne_zero (by simp))⟩
theorem rdK_mem {ks : List Key} {i : Nat} (h : i < ks.length) : rdK ks (i : Int) ∈ ks := by rw [rdK_eq h]; exact List.getElem_mem h
theorem find_at {ks : List Key} {next kid : Int} (h : checkK ks next = true) {i : Nat} (hi : i < ks.length) (hk : (rdK ks (i : Int)).kid = kid) : findF kid ks next = rdK ks (i : Int) ∧ decide (rdK ks (i : Int) = zKey) = false := by
  have hm := rdK_mem hi
  generalize rdK ks (i : Int) = k at hk hm
  subst hk
  obtain ⟨init, last, rfl, hR⟩ := isRing_of_check h
  exact ⟨hR.find hm, decide_eq_false (hR.ne_zero hm)⟩
theorem find_not {ks : List Key} {next kid : Int} (hg : ∀ i, i < ks.length → (rdK ks (i : Int)).kid ≠ kid) : findF kid ks next = zKey := by
  refine one_none fun x hx => ?_
  obtain ⟨i, hi, rfl⟩ := List.getElem_of_mem hx
  have := hg i hi
  rw [rdK_eq hi] at this
  simpa using this
section
variable {P : Program} {a : Act} {w : World}
theorem ret_c1 {n : Nat} {L : List (Nat × Value)} {fn : Func} {R : Ending → World → Prop} (F : Fr n a L) {t : Nat} {T : TypeId} {p : Addr} {v : Value} (hr : fn.results = #[.cell t T]) (hv : lk L t = some (.pointer (some p)))
    (hl : (loadVar T p).run P w = .ok v w) (h : R (.returned v) w) : bodyPost P fn R .ret a w :=
  bodyPost_ret (by
    have e1 : a.tmps[t]?.getD undef = .pointer (some p) := by rw [← Array.getD_eq_getD_getElem?]; exact F.ev t _ hv
    simp [results, hr, e1, asAddr, hl, Sem.run_bind]) F.defers h
theorem ret_c2 {n : Nat} {L : List (Nat × Value)} {fn : Func} {R : Ending → World → Prop} (F : Fr n a L) {t s : Nat} {T : TypeId} {p : Addr} {v u : Value} (hr : fn.results = #[.cell t T, .tmp s]) (hv : lk L t = some (.pointer (some p)))
    (hu : lk L s = some u) (hl : (loadVar T p).run P w = .ok v w) (h : R (.returned (.tuple #[v, u])) w) : bodyPost P fn R .ret a w :=
  bodyPost_ret (by
    have e1 : a.tmps[t]?.getD undef = .pointer (some p) := by rw [← Array.getD_eq_getD_getElem?]; exact F.ev t _ hv
    have e2 : a.tmps[s]?.getD undef = u := by rw [← Array.getD_eq_getD_getElem?]; exact F.ev s _ hu
    simp [results, hr, e1, e2, asAddr, hl, Sem.run_bind]) F.defers h
end
theorem kz : (!decide (zKey = zKey)) = false := by simp
theorem ra_fa_69_0_0 : fa? Try.prog 69 0 0 = true := by kernel_rfl
theorem ra_one_55 : one? Try.prog 55 = true := by kernel_rfl
theorem ra_sl_55_34 : sl? Try.prog 55 34 = true := by kernel_rfl
theorem ra_fa_69_1_1 : fa? Try.prog 69 1 1 = true := by kernel_rfl
theorem ra_one_67 : one? Try.prog 67 = true := by kernel_rfl
theorem ra_fa_107_0_0 : fa? Try.prog 107 0 0 = true := by kernel_rfl
theorem ra_fa_107_2_33 : fa? Try.prog 107 2 33 = true := by kernel_rfl
theorem ra_one_2 : one? Try.prog 2 = true := by kernel_rfl
theorem ra_bool_4 : bool? Try.prog 4 = true := by kernel_rfl
set_option maxHeartbeats 4000000 in
set_option maxRecDepth 100000 in
theorem refCheck_any (ks : List Key) (A : Option Addr) (c : Nat) (next : Int) (w : World) (hr : kKey.C w A ks.length ks) (hc : ks.length ≤ c) :
    Calls Try.prog 33 #[.agg #[.slice A ks.length c, .int .u64 next]] w fun e w' => e = .returned (.int .i64 (errK ks next)) ∧ Below w.heap.size w w' := by
 refine calls_start Try.func33 rfl rfl rfl (fun a F => ?_)
 have M : Mm w w [] := Mm.nil w
 refine wp_seq ?_
 refine wp_region_lit ?_
 refine list_do (wn rfl) (fun K hK => ?_)
 refine ow_box F M rfl rfl 69 _ rfl _ (F.e rfl) #[.slice A ks.length c, .int .u64 next] rfl ?_
 clear F M a; intro a g1 v F M hb hg
 refine hK _ _ ?_
 clear hK K
 clear hb hg; try clear w
 refine list_val F (wn rfl) rfl rfl (.int .i64 0) (ex_assign _ rfl _ rfl) ?_; clear F a; intro a F
 refine wpList_nil ?_
 replace F : Fr 66 a [(0, .agg #[.slice A ks.length c, .int .u64 next]), (1, .pointer (some ⟨g1, 0, none⟩)), (2, .int .i64 0)] := F.keep ⟨rfl, rfl, rfl, trivial⟩
 refine then_n ?_
 refine wp_seq ?_
 refine wp_region_lit ?_
 refine list_val F (wn rfl) rfl rfl (.pointer (some ⟨g1, 0, none⟩)) (ex_fa _ _ _ rfl _ (F.e rfl) 0 ra_fa_69_0_0 ⟨g1, 0, none⟩ rfl) ?_; clear F a; intro a F
 refine list_val F (wn rfl) rfl rfl (.slice A ks.length c) (ex_load _ _ rfl _ (F.e rfl) _ (lv1 ra_one_55 (M.cell (i := 0) rfl (j := 0) rfl))) ?_; clear F a; intro a F
 refine list_val F (wn rfl) rfl rfl (.int .i64 ((ks.length : Nat) : Int)) (ex_len _ _ rfl 34 ra_sl_55_34 _ _ _ (F.e rfl)) ?_; clear F a; intro a F
 refine list_val F (wn rfl) rfl rfl (.int .i64 ((ks.length : Nat) : Int)) (ex_assign _ rfl _ (F.e rfl)) ?_; clear F a; intro a F
 refine wpList_nil ?_
 replace F : Fr 66 a [(0, .agg #[.slice A ks.length c, .int .u64 next]), (1, .pointer (some ⟨g1, 0, none⟩)), (2, .int .i64 0), (3, .int .i64 ((ks.length : Nat) : Int))] := F.keep ⟨rfl, rfl, rfl, rfl, trivial⟩
 refine then_n ?_
 refine wp_seq ?_
 refine wp_seq ?_
 by_cases h1 : ks.length < 1
 ·
  refine wp_region_lit ?_
  refine list_val F (wn rfl) rfl rfl (.int .i64 ((ks.length : Nat) : Int)) (ex_move _ rfl _ (F.e rfl)) ?_; clear F a; intro a F
  refine list_val F (wn rfl) rfl rfl (.bool true) (ex_bin .lss _ _ _ _ rfl .i64 _ _ (F.e rfl) rfl _ (b_lss (decide_eq_true (by omega)))) ?_; clear F a; intro a F
  refine list_val F (wn rfl) rfl rfl (.bool true) (ex_move _ rfl _ (F.e rfl)) ?_; clear F a; intro a F
  refine list_skip F (F.wants 11 true rfl (by kernel_rfl) rfl false rfl) rfl rfl ?_; clear F a; intro a F
  refine list_skip F (F.wants 11 true rfl (by kernel_rfl) rfl false rfl) rfl rfl ?_; clear F a; intro a F
  refine list_val F (wn rfl) rfl rfl (.bool true) (ex_pick_t _ _ _ rfl (F.e rfl) _ rfl) ?_; clear F a; intro a F
  refine list_val F (wn rfl) rfl rfl (.bool true) (ex_move _ rfl _ (F.e rfl)) ?_; clear F a; intro a F
  refine list_skip F (F.wants 15 true rfl (by kernel_rfl) rfl false rfl) rfl rfl ?_; clear F a; intro a F
  refine list_skip F (F.wants 15 true rfl (by kernel_rfl) rfl false rfl) rfl rfl ?_; clear F a; intro a F
  refine list_skip F (F.wants 15 true rfl (by kernel_rfl) rfl false rfl) rfl rfl ?_; clear F a; intro a F
  refine list_val F (wn rfl) rfl rfl (.bool true) (ex_pick_t _ _ _ rfl (F.e rfl) _ rfl) ?_; clear F a; intro a F
  refine wpList_nil ?_
  replace F : Fr 66 a [(0, .agg #[.slice A ks.length c, .int .u64 next]), (1, .pointer (some ⟨g1, 0, none⟩)), (2, .int .i64 0), (3, .int .i64 ((ks.length : Nat) : Int)), (19, .bool true)] := F.keep ⟨rfl, rfl, rfl, rfl, rfl, trivial⟩
  refine then_n ?_
  refine wp_cond_true (F.e rfl) ?_
  refine wp_seq ?_
  refine wp_region_lit ?_
  refine list_val F (wn rfl) rfl rfl (.int .i64 50) (ex_assign _ rfl _ rfl) ?_; clear F a; intro a F
  refine wpList_nil ?_
  replace F : Fr 66 a [(0, .agg #[.slice A ks.length c, .int .u64 next]), (1, .pointer (some ⟨g1, 0, none⟩)), (2, .int .i64 50), (3, .int .i64 ((ks.length : Nat) : Int)), (19, .bool true)] := F.keep ⟨rfl, rfl, rfl, rfl, rfl, trivial⟩
  refine then_n ?_
  refine wp_ret ?_
  refine then_r ?_
  exact ret_tmp F rfl rfl ⟨by rw [(errK_len (by omega))], M.bel⟩
 obtain ⟨adr, rfl, _⟩ := at_Key hr 0 (by omega) (by omega)
 by_cases h8 : 8 < ks.length
 ·
  refine wp_region_lit ?_
  refine list_val F (wn rfl) rfl rfl (.int .i64 ((ks.length : Nat) : Int)) (ex_move _ rfl _ (F.e rfl)) ?_; clear F a; intro a F
  refine list_val F (wn rfl) rfl rfl (.bool false) (ex_bin .lss _ _ _ _ rfl .i64 _ _ (F.e rfl) rfl _ (b_lss (decide_eq_false (by omega)))) ?_; clear F a; intro a F
  refine list_val F (wn rfl) rfl rfl (.bool false) (ex_move _ rfl _ (F.e rfl)) ?_; clear F a; intro a F
  refine list_val F (F.wants 11 false rfl (by kernel_rfl) rfl true rfl) rfl rfl (.int .i64 ((ks.length : Nat) : Int)) (ex_move _ rfl _ (F.e rfl)) ?_; clear F a; intro a F
  refine list_val F (F.wants 11 false rfl (by kernel_rfl) rfl true rfl) rfl rfl (.bool true) (ex_bin .gtr _ _ _ _ rfl .i64 _ _ (F.e rfl) rfl _ (b_gtr (decide_eq_true (by omega)))) ?_; clear F a; intro a F
  refine list_val F (wn rfl) rfl rfl (.bool true) (ex_pick_f _ _ _ rfl (F.e rfl) _ (F.e rfl)) ?_; clear F a; intro a F
  refine list_val F (wn rfl) rfl rfl (.bool true) (ex_move _ rfl _ (F.e rfl)) ?_; clear F a; intro a F
  refine list_skip F (F.wants 15 true rfl (by kernel_rfl) rfl false rfl) rfl rfl ?_; clear F a; intro a F
  refine list_skip F (F.wants 15 true rfl (by kernel_rfl) rfl false rfl) rfl rfl ?_; clear F a; intro a F
  refine list_skip F (F.wants 15 true rfl (by kernel_rfl) rfl false rfl) rfl rfl ?_; clear F a; intro a F
  refine list_val F (wn rfl) rfl rfl (.bool true) (ex_pick_t _ _ _ rfl (F.e rfl) _ rfl) ?_; clear F a; intro a F
  refine wpList_nil ?_
  replace F : Fr 66 a [(0, .agg #[.slice (some adr) ks.length c, .int .u64 next]), (1, .pointer (some ⟨g1, 0, none⟩)), (2, .int .i64 0), (3, .int .i64 ((ks.length : Nat) : Int)), (19, .bool true)] := F.keep ⟨rfl, rfl, rfl, rfl, rfl, trivial⟩
  refine then_n ?_
  refine wp_cond_true (F.e rfl) ?_
  refine wp_seq ?_
  refine wp_region_lit ?_
  refine list_val F (wn rfl) rfl rfl (.int .i64 50) (ex_assign _ rfl _ rfl) ?_; clear F a; intro a F
  refine wpList_nil ?_
  replace F : Fr 66 a [(0, .agg #[.slice (some adr) ks.length c, .int .u64 next]), (1, .pointer (some ⟨g1, 0, none⟩)), (2, .int .i64 50), (3, .int .i64 ((ks.length : Nat) : Int)), (19, .bool true)] := F.keep ⟨rfl, rfl, rfl, rfl, rfl, trivial⟩
  refine then_n ?_
  refine wp_ret ?_
  refine then_r ?_
  exact ret_tmp F rfl rfl ⟨by rw [(errK_len (by omega))], M.bel⟩
 by_cases hm : 9223372036854775807 < next
 ·
  refine wp_region_lit ?_
  refine list_val F (wn rfl) rfl rfl (.int .i64 ((ks.length : Nat) : Int)) (ex_move _ rfl _ (F.e rfl)) ?_; clear F a; intro a F
  refine list_val F (wn rfl) rfl rfl (.bool false) (ex_bin .lss _ _ _ _ rfl .i64 _ _ (F.e rfl) rfl _ (b_lss (decide_eq_false (by omega)))) ?_; clear F a; intro a F
  refine list_val F (wn rfl) rfl rfl (.bool false) (ex_move _ rfl _ (F.e rfl)) ?_; clear F a; intro a F
  refine list_val F (F.wants 11 false rfl (by kernel_rfl) rfl true rfl) rfl rfl (.int .i64 ((ks.length : Nat) : Int)) (ex_move _ rfl _ (F.e rfl)) ?_; clear F a; intro a F
  refine list_val F (F.wants 11 false rfl (by kernel_rfl) rfl true rfl) rfl rfl (.bool false) (ex_bin .gtr _ _ _ _ rfl .i64 _ _ (F.e rfl) rfl _ (b_gtr (decide_eq_false (by omega)))) ?_; clear F a; intro a F
  refine list_val F (wn rfl) rfl rfl (.bool false) (ex_pick_f _ _ _ rfl (F.e rfl) _ (F.e rfl)) ?_; clear F a; intro a F
  refine list_val F (wn rfl) rfl rfl (.bool false) (ex_move _ rfl _ (F.e rfl)) ?_; clear F a; intro a F
  refine list_val F (F.wants 15 false rfl (by kernel_rfl) rfl true rfl) rfl rfl (.pointer (some ⟨g1, 1, none⟩)) (ex_fa _ _ _ rfl _ (F.e rfl) 1 ra_fa_69_1_1 ⟨g1, 1, none⟩ rfl) ?_; clear F a; intro a F
  refine list_val F (F.wants 15 false rfl (by kernel_rfl) rfl true rfl) rfl rfl (.int .u64 next) (ex_load _ _ rfl _ (F.e rfl) _ (lv1 ra_one_67 (M.cell (i := 0) rfl (j := 1) rfl))) ?_; clear F a; intro a F
  refine list_val F (F.wants 15 false rfl (by kernel_rfl) rfl true rfl) rfl rfl (.bool true) (ex_bin .gtr _ _ _ _ rfl .u64 _ _ (F.e rfl) rfl _ (b_gtr (decide_eq_true (by omega)))) ?_; clear F a; intro a F
  refine list_val F (wn rfl) rfl rfl (.bool true) (ex_pick_f _ _ _ rfl (F.e rfl) _ (F.e rfl)) ?_; clear F a; intro a F
  refine wpList_nil ?_
  replace F : Fr 66 a [(0, .agg #[.slice (some adr) ks.length c, .int .u64 next]), (1, .pointer (some ⟨g1, 0, none⟩)), (2, .int .i64 0), (3, .int .i64 ((ks.length : Nat) : Int)), (19, .bool true)] := F.keep ⟨rfl, rfl, rfl, rfl, rfl, trivial⟩
  refine then_n ?_
  refine wp_cond_true (F.e rfl) ?_
  refine wp_seq ?_
  refine wp_region_lit ?_
  refine list_val F (wn rfl) rfl rfl (.int .i64 50) (ex_assign _ rfl _ rfl) ?_; clear F a; intro a F
  refine wpList_nil ?_
  replace F : Fr 66 a [(0, .agg #[.slice (some adr) ks.length c, .int .u64 next]), (1, .pointer (some ⟨g1, 0, none⟩)), (2, .int .i64 50), (3, .int .i64 ((ks.length : Nat) : Int)), (19, .bool true)] := F.keep ⟨rfl, rfl, rfl, rfl, rfl, trivial⟩
  refine then_n ?_
  refine wp_ret ?_
  refine then_r ?_
  exact ret_tmp F rfl rfl ⟨by rw [(errK_len (by omega))], M.bel⟩
 refine wp_region_lit ?_
 refine list_val F (wn rfl) rfl rfl (.int .i64 ((ks.length : Nat) : Int)) (ex_move _ rfl _ (F.e rfl)) ?_; clear F a; intro a F
 refine list_val F (wn rfl) rfl rfl (.bool false) (ex_bin .lss _ _ _ _ rfl .i64 _ _ (F.e rfl) rfl _ (b_lss (decide_eq_false (by omega)))) ?_; clear F a; intro a F
 refine list_val F (wn rfl) rfl rfl (.bool false) (ex_move _ rfl _ (F.e rfl)) ?_; clear F a; intro a F
 refine list_val F (F.wants 11 false rfl (by kernel_rfl) rfl true rfl) rfl rfl (.int .i64 ((ks.length : Nat) : Int)) (ex_move _ rfl _ (F.e rfl)) ?_; clear F a; intro a F
 refine list_val F (F.wants 11 false rfl (by kernel_rfl) rfl true rfl) rfl rfl (.bool false) (ex_bin .gtr _ _ _ _ rfl .i64 _ _ (F.e rfl) rfl _ (b_gtr (decide_eq_false (by omega)))) ?_; clear F a; intro a F
 refine list_val F (wn rfl) rfl rfl (.bool false) (ex_pick_f _ _ _ rfl (F.e rfl) _ (F.e rfl)) ?_; clear F a; intro a F
 refine list_val F (wn rfl) rfl rfl (.bool false) (ex_move _ rfl _ (F.e rfl)) ?_; clear F a; intro a F
 refine list_val F (F.wants 15 false rfl (by kernel_rfl) rfl true rfl) rfl rfl (.pointer (some ⟨g1, 1, none⟩)) (ex_fa _ _ _ rfl _ (F.e rfl) 1 ra_fa_69_1_1 ⟨g1, 1, none⟩ rfl) ?_; clear F a; intro a F
 refine list_val F (F.wants 15 false rfl (by kernel_rfl) rfl true rfl) rfl rfl (.int .u64 next) (ex_load _ _ rfl _ (F.e rfl) _ (lv1 ra_one_67 (M.cell (i := 0) rfl (j := 1) rfl))) ?_; clear F a; intro a F
 refine list_val F (F.wants 15 false rfl (by kernel_rfl) rfl true rfl) rfl rfl (.bool false) (ex_bin .gtr _ _ _ _ rfl .u64 _ _ (F.e rfl) rfl _ (b_gtr (decide_eq_false (by omega)))) ?_; clear F a; intro a F
 refine list_val F (wn rfl) rfl rfl (.bool false) (ex_pick_f _ _ _ rfl (F.e rfl) _ (F.e rfl)) ?_; clear F a; intro a F
 refine wpList_nil ?_
 replace F : Fr 66 a [(0, .agg #[.slice (some adr) ks.length c, .int .u64 next]), (1, .pointer (some ⟨g1, 0, none⟩)), (2, .int .i64 0), (3, .int .i64 ((ks.length : Nat) : Int)), (19, .bool false)] := F.keep ⟨rfl, rfl, rfl, rfl, rfl, trivial⟩
 refine then_n ?_
 refine wp_cond_false (F.e rfl) ?_
 refine wp_skip ?_
 refine then_n ?_
 refine wp_seq ?_
 refine wp_region_lit ?_
 refine list_val F (wn rfl) rfl rfl (.int .u64 0) (ex_assign _ rfl _ rfl) ?_; clear F a; intro a F
 refine wpList_nil ?_
 replace F : Fr 66 a [(0, .agg #[.slice (some adr) ks.length c, .int .u64 next]), (1, .pointer (some ⟨g1, 0, none⟩)), (2, .int .i64 0), (3, .int .i64 ((ks.length : Nat) : Int)), (4, .int .u64 0), (19, .bool false)] := F.keep ⟨rfl, rfl, rfl, rfl, rfl, rfl, trivial⟩
 refine then_n ?_
 refine wp_seq ?_
 refine wp_seq ?_
 refine wp_region_lit ?_
 refine list_val F (wn rfl) rfl rfl (.int .i64 0) (ex_assign _ rfl _ rfl) ?_; clear F a; intro a F
 refine wpList_nil ?_
 replace F : Fr 66 a [(0, .agg #[.slice (some adr) ks.length c, .int .u64 next]), (1, .pointer (some ⟨g1, 0, none⟩)), (2, .int .i64 0), (3, .int .i64 ((ks.length : Nat) : Int)), (4, .int .u64 0), (5, .int .i64 0), (19, .bool false)] := F.keep ⟨rfl, rfl, rfl, rfl, rfl, rfl, rfl, trivial⟩
 refine then_n ?_
 refine wp_block ?_
 refine wp_loopN (fun mq ar wr => ∃ (i : Nat), ∃ (bl : Int), Fr 66 ar [(0, .agg #[.slice (some adr) ks.length c, .int .u64 next]), (1, .pointer (some ⟨g1, 0, none⟩)), (2, .int .i64 0), (3, .int .i64 ((ks.length : Nat) : Int)), (4, .int .u64 bl), (5, .int .i64 i), (19, .bool false)] ∧ Mm w wr [⟨g1, #[.slice (some adr) ks.length c, .int .u64 next], 69⟩] ∧ i ≤ ks.length ∧ bl = belowK ks i ∧ (∀ j, j < i → badK ks j = false) ∧ mq + i = ks.length) ks.length ?_ ?_
 ·
  exact ⟨0, 0, F.keep ⟨rfl, rfl, rfl, rfl, rfl, rfl, rfl, trivial⟩, (by refine M.pick' [0] _ ?_ (by decide); exact ⟨rfl, trivial⟩), (Nat.zero_le _), rfl, (fun j hj => absurd hj (Nat.not_lt_zero j)), (by omega)⟩
 clear F M a
 rintro mq a u ⟨i, bl, F, M, hi, hbl, hg, hq⟩; try clear v
 by_cases hin : i < ks.length
 ·
  obtain ⟨_, had, zi, _, _⟩ := at_Key hr (i : Int) (by omega) (by omega)
  obtain rfl := Option.some.inj had
  clear had
  rw [show (i : Int).toNat = i from rfl] at zi
  have hb := bad_ref hin hg
  generalize hk : rdK ks (i : Int) = k at zi hb
  rw [← hbl] at hb
  by_cases c1 : k.kid ≤ bl
  ·
   refine wp_seq ?_
   refine wp_seq ?_
   refine wp_region_lit ?_
   refine list_val F (wn rfl) rfl rfl (.int .i64 i) (ex_move _ rfl _ (F.e rfl)) ?_; clear F a; intro a F
   refine list_val F (wn rfl) rfl rfl (.int .i64 ((ks.length : Nat) : Int)) (ex_move _ rfl _ (F.e rfl)) ?_; clear F a; intro a F
   refine list_val F (wn rfl) rfl rfl (.bool true) (ex_bin .lss _ _ _ _ rfl .i64 _ _ (F.e rfl) (F.e rfl) _ (b_lss (decide_eq_true (by omega)))) ?_; clear F a; intro a F
   refine wpList_nil ?_
   replace F : Fr 66 a [(0, .agg #[.slice (some adr) ks.length c, .int .u64 next]), (1, .pointer (some ⟨g1, 0, none⟩)), (2, .int .i64 0), (3, .int .i64 ((ks.length : Nat) : Int)), (4, .int .u64 bl), (5, .int .i64 i), (19, .bool false), (22, .bool true)] := F.keep ⟨rfl, rfl, rfl, rfl, rfl, rfl, rfl, rfl, trivial⟩
   refine then_n ?_
   refine wp_cond_true (F.e rfl) ?_
   refine wp_skip ?_
   refine then_n ?_
   refine wp_seq ?_
   refine wp_block ?_
   refine wp_seq ?_
   refine wp_seq ?_
   refine wp_region_lit ?_
   refine list_val F (wn rfl) rfl rfl (.pointer (some ⟨g1, 0, none⟩)) (ex_fa _ _ _ rfl _ (F.e rfl) 0 ra_fa_69_0_0 ⟨g1, 0, none⟩ rfl) ?_; clear F a; intro a F
   refine list_val F (wn rfl) rfl rfl (.slice (some adr) ks.length c) (ex_load _ _ rfl _ (F.e rfl) _ (lv1 ra_one_55 (M.cell (i := 0) rfl (j := 0) rfl))) ?_; clear F a; intro a F
   refine list_val F (wn rfl) rfl rfl (.int .i64 i) (ex_move _ rfl _ (F.e rfl)) ?_; clear F a; intro a F
   refine list_val F (wn rfl) rfl rfl (.pointer (some (adr.add (i * 34)))) (ex_ix _ _ _ rfl 34 ra_sl_55_34 adr _ _ (F.e rfl) .i64 _ (F.e rfl) i rfl (by omega) (adr.add (i * 34)) rfl) ?_; clear F a; intro a F
   refine list_val F (wn rfl) rfl rfl (.pointer (some (adr.add (i * 34)))) (ex_fa _ _ _ rfl _ (F.e rfl) 0 ra_fa_107_0_0 (adr.add (i * 34)) rfl) ?_; clear F a; intro a F
   refine list_val F (wn rfl) rfl rfl (.int .u64 k.kid) (ex_load _ _ rfl _ (F.e rfl) _ (lv1 ra_one_67 ((zi.below M.bel).cell 0 _ (Key.cs_0 _)))) ?_; clear F a; intro a F
   refine list_val F (wn rfl) rfl rfl (.int .u64 bl) (ex_move _ rfl _ (F.e rfl)) ?_; clear F a; intro a F
   refine list_val F (wn rfl) rfl rfl (.bool true) (ex_bin .leq _ _ _ _ rfl .u64 _ _ (F.e rfl) (F.e rfl) _ (b_leq (decide_eq_true c1))) ?_; clear F a; intro a F
   refine list_val F (wn rfl) rfl rfl (.bool true) (ex_move _ rfl _ (F.e rfl)) ?_; clear F a; intro a F
   refine list_skip F (F.wants 33 true rfl (by kernel_rfl) rfl false rfl) rfl rfl ?_; clear F a; intro a F
   refine list_skip F (F.wants 33 true rfl (by kernel_rfl) rfl false rfl) rfl rfl ?_; clear F a; intro a F
   refine list_skip F (F.wants 33 true rfl (by kernel_rfl) rfl false rfl) rfl rfl ?_; clear F a; intro a F
   refine list_skip F (F.wants 33 true rfl (by kernel_rfl) rfl false rfl) rfl rfl ?_; clear F a; intro a F
   refine list_skip F (F.wants 33 true rfl (by kernel_rfl) rfl false rfl) rfl rfl ?_; clear F a; intro a F
   refine list_skip F (F.wants 33 true rfl (by kernel_rfl) rfl false rfl) rfl rfl ?_; clear F a; intro a F
   refine list_skip F (F.wants 33 true rfl (by kernel_rfl) rfl false rfl) rfl rfl ?_; clear F a; intro a F
   refine list_skip F (F.wants 33 true rfl (by kernel_rfl) rfl false rfl) rfl rfl ?_; clear F a; intro a F
   refine list_skip F (F.wants 33 true rfl (by kernel_rfl) rfl false rfl) rfl rfl ?_; clear F a; intro a F
   refine list_skip F (F.wants 33 true rfl (by kernel_rfl) rfl false rfl) rfl rfl ?_; clear F a; intro a F
   refine list_skip F (F.wants 33 true rfl (by kernel_rfl) rfl false rfl) rfl rfl ?_; clear F a; intro a F
   refine list_skip F (F.wants 33 true rfl (by kernel_rfl) rfl false rfl) rfl rfl ?_; clear F a; intro a F
   refine list_val F (wn rfl) rfl rfl (.bool true) (ex_pick_t _ _ _ rfl (F.e rfl) _ rfl) ?_; clear F a; intro a F
   refine list_val F (wn rfl) rfl rfl (.bool true) (ex_move _ rfl _ (F.e rfl)) ?_; clear F a; intro a F
   refine list_skip F (F.wants 47 true rfl (by kernel_rfl) rfl false rfl) rfl rfl ?_; clear F a; intro a F
   refine list_skip F (F.wants 47 true rfl (by kernel_rfl) rfl false rfl) rfl rfl ?_; clear F a; intro a F
   refine list_skip F (F.wants 47 true rfl (by kernel_rfl) rfl false rfl) rfl rfl ?_; clear F a; intro a F
   refine list_skip F (F.wants 47 true rfl (by kernel_rfl) rfl false rfl) rfl rfl ?_; clear F a; intro a F
   refine list_skip F (F.wants 47 true rfl (by kernel_rfl) rfl false rfl) rfl rfl ?_; clear F a; intro a F
   refine list_skip F (F.wants 47 true rfl (by kernel_rfl) rfl false rfl) rfl rfl ?_; clear F a; intro a F
   refine list_skip F (F.wants 47 true rfl (by kernel_rfl) rfl false rfl) rfl rfl ?_; clear F a; intro a F
   refine list_val F (wn rfl) rfl rfl (.bool true) (ex_pick_t _ _ _ rfl (F.e rfl) _ rfl) ?_; clear F a; intro a F
   refine wpList_nil ?_
   replace F : Fr 66 a [(0, .agg #[.slice (some adr) ks.length c, .int .u64 next]), (1, .pointer (some ⟨g1, 0, none⟩)), (2, .int .i64 0), (3, .int .i64 ((ks.length : Nat) : Int)), (4, .int .u64 bl), (5, .int .i64 i), (19, .bool false), (22, .bool true), (55, .bool true)] := F.keep ⟨rfl, rfl, rfl, rfl, rfl, rfl, rfl, rfl, rfl, trivial⟩
   refine then_n ?_
   refine wp_cond_true (F.e rfl) ?_
   refine wp_seq ?_
   refine wp_region_lit ?_
   refine list_val F (wn rfl) rfl rfl (.int .i64 50) (ex_assign _ rfl _ rfl) ?_; clear F a; intro a F
   refine wpList_nil ?_
   replace F : Fr 66 a [(0, .agg #[.slice (some adr) ks.length c, .int .u64 next]), (1, .pointer (some ⟨g1, 0, none⟩)), (2, .int .i64 50), (3, .int .i64 ((ks.length : Nat) : Int)), (4, .int .u64 bl), (5, .int .i64 i), (19, .bool false), (22, .bool true), (55, .bool true)] := F.keep ⟨rfl, rfl, rfl, rfl, rfl, rfl, rfl, rfl, rfl, trivial⟩
   refine then_n ?_
   refine wp_ret ?_
   refine then_r ?_
   refine in_r ?_
   refine then_r ?_
   refine then_r ?_
   refine in_r ?_
   refine then_r ?_
   exact ret_tmp F rfl rfl ⟨by rw [(errK_bad hin (by rw [hb]; simp [c1]))], M.bel⟩
  by_cases c2 : (decide ((i : Int) < (ks.length : Int) - 1) != decide (0 < k.til)) = true
  ·
   refine wp_seq ?_
   refine wp_seq ?_
   refine wp_region_lit ?_
   refine list_val F (wn rfl) rfl rfl (.int .i64 i) (ex_move _ rfl _ (F.e rfl)) ?_; clear F a; intro a F
   refine list_val F (wn rfl) rfl rfl (.int .i64 ((ks.length : Nat) : Int)) (ex_move _ rfl _ (F.e rfl)) ?_; clear F a; intro a F
   refine list_val F (wn rfl) rfl rfl (.bool true) (ex_bin .lss _ _ _ _ rfl .i64 _ _ (F.e rfl) (F.e rfl) _ (b_lss (decide_eq_true (by omega)))) ?_; clear F a; intro a F
   refine wpList_nil ?_
   replace F : Fr 66 a [(0, .agg #[.slice (some adr) ks.length c, .int .u64 next]), (1, .pointer (some ⟨g1, 0, none⟩)), (2, .int .i64 0), (3, .int .i64 ((ks.length : Nat) : Int)), (4, .int .u64 bl), (5, .int .i64 i), (19, .bool false), (22, .bool true)] := F.keep ⟨rfl, rfl, rfl, rfl, rfl, rfl, rfl, rfl, trivial⟩
   refine then_n ?_
   refine wp_cond_true (F.e rfl) ?_
   refine wp_skip ?_
   refine then_n ?_
   refine wp_seq ?_
   refine wp_block ?_
   refine wp_seq ?_
   refine wp_seq ?_
   refine wp_region_lit ?_
   refine list_val F (wn rfl) rfl rfl (.pointer (some ⟨g1, 0, none⟩)) (ex_fa _ _ _ rfl _ (F.e rfl) 0 ra_fa_69_0_0 ⟨g1, 0, none⟩ rfl) ?_; clear F a; intro a F
   refine list_val F (wn rfl) rfl rfl (.slice (some adr) ks.length c) (ex_load _ _ rfl _ (F.e rfl) _ (lv1 ra_one_55 (M.cell (i := 0) rfl (j := 0) rfl))) ?_; clear F a; intro a F
   refine list_val F (wn rfl) rfl rfl (.int .i64 i) (ex_move _ rfl _ (F.e rfl)) ?_; clear F a; intro a F
   refine list_val F (wn rfl) rfl rfl (.pointer (some (adr.add (i * 34)))) (ex_ix _ _ _ rfl 34 ra_sl_55_34 adr _ _ (F.e rfl) .i64 _ (F.e rfl) i rfl (by omega) (adr.add (i * 34)) rfl) ?_; clear F a; intro a F
   refine list_val F (wn rfl) rfl rfl (.pointer (some (adr.add (i * 34)))) (ex_fa _ _ _ rfl _ (F.e rfl) 0 ra_fa_107_0_0 (adr.add (i * 34)) rfl) ?_; clear F a; intro a F
   refine list_val F (wn rfl) rfl rfl (.int .u64 k.kid) (ex_load _ _ rfl _ (F.e rfl) _ (lv1 ra_one_67 ((zi.below M.bel).cell 0 _ (Key.cs_0 _)))) ?_; clear F a; intro a F
   refine list_val F (wn rfl) rfl rfl (.int .u64 bl) (ex_move _ rfl _ (F.e rfl)) ?_; clear F a; intro a F
   refine list_val F (wn rfl) rfl rfl (.bool false) (ex_bin .leq _ _ _ _ rfl .u64 _ _ (F.e rfl) (F.e rfl) _ (b_leq (decide_eq_false c1))) ?_; clear F a; intro a F
   refine list_val F (wn rfl) rfl rfl (.bool false) (ex_move _ rfl _ (F.e rfl)) ?_; clear F a; intro a F
   refine list_val F (F.wants 33 false rfl (by kernel_rfl) rfl true rfl) rfl rfl (.int .i64 i) (ex_move _ rfl _ (F.e rfl)) ?_; clear F a; intro a F
   refine list_val F (F.wants 33 false rfl (by kernel_rfl) rfl true rfl) rfl rfl (.int .i64 ((ks.length : Nat) : Int)) (ex_move _ rfl _ (F.e rfl)) ?_; clear F a; intro a F
   refine list_val F (F.wants 33 false rfl (by kernel_rfl) rfl true rfl) rfl rfl (.int .i64 (((ks.length : Nat) : Int) - 1)) (ex_bin .sub _ _ _ _ rfl .i64 _ _ (F.e rfl) rfl _ (b_sub (w_i64 (by omega) (by omega)))) ?_; clear F a; intro a F
   refine list_val F (F.wants 33 false rfl (by kernel_rfl) rfl true rfl) rfl rfl (.bool (decide (i < (((ks.length : Nat) : Int) - 1)))) (ex_bin .lss _ _ _ _ rfl .i64 _ _ (F.e rfl) (F.e rfl) _ (b_lss rfl)) ?_; clear F a; intro a F
   refine list_val F (F.wants 33 false rfl (by kernel_rfl) rfl true rfl) rfl rfl (.pointer (some ⟨g1, 0, none⟩)) (ex_fa _ _ _ rfl _ (F.e rfl) 0 ra_fa_69_0_0 ⟨g1, 0, none⟩ rfl) ?_; clear F a; intro a F
   refine list_val F (F.wants 33 false rfl (by kernel_rfl) rfl true rfl) rfl rfl (.slice (some adr) ks.length c) (ex_load _ _ rfl _ (F.e rfl) _ (lv1 ra_one_55 (M.cell (i := 0) rfl (j := 0) rfl))) ?_; clear F a; intro a F
   refine list_val F (F.wants 33 false rfl (by kernel_rfl) rfl true rfl) rfl rfl (.int .i64 i) (ex_move _ rfl _ (F.e rfl)) ?_; clear F a; intro a F
   refine list_val F (F.wants 33 false rfl (by kernel_rfl) rfl true rfl) rfl rfl (.pointer (some (adr.add (i * 34)))) (ex_ix _ _ _ rfl 34 ra_sl_55_34 adr _ _ (F.e rfl) .i64 _ (F.e rfl) i rfl (by omega) (adr.add (i * 34)) rfl) ?_; clear F a; intro a F
   refine list_val F (F.wants 33 false rfl (by kernel_rfl) rfl true rfl) rfl rfl (.pointer (some ((adr.add (i * 34)).add 33))) (ex_fa _ _ _ rfl _ (F.e rfl) 33 ra_fa_107_2_33 ((adr.add (i * 34)).add 33) rfl) ?_; clear F a; intro a F
   refine list_val F (F.wants 33 false rfl (by kernel_rfl) rfl true rfl) rfl rfl (.int .i64 k.til) (ex_load _ _ rfl _ (F.e rfl) _ (lv1 ra_one_2 ((zi.below M.bel).cell 33 _ (Key.cs_33 _)))) ?_; clear F a; intro a F
   refine list_val F (F.wants 33 false rfl (by kernel_rfl) rfl true rfl) rfl rfl (.bool (decide (0 < k.til))) (ex_bin .gtr _ _ _ _ rfl .i64 _ _ (F.e rfl) rfl _ (b_gtr rfl)) ?_; clear F a; intro a F
   refine list_val F (F.wants 33 false rfl (by kernel_rfl) rfl true rfl) rfl rfl (.bool true) (ex_neqb _ _ _ _ rfl ra_bool_4 (decide (i < (((ks.length : Nat) : Int) - 1))) (decide (0 < k.til)) (F.e rfl) (F.e rfl) true c2) ?_; clear F a; intro a F
   refine list_val F (wn rfl) rfl rfl (.bool true) (ex_pick_f _ _ _ rfl (F.e rfl) _ (F.e rfl)) ?_; clear F a; intro a F
   refine list_val F (wn rfl) rfl rfl (.bool true) (ex_move _ rfl _ (F.e rfl)) ?_; clear F a; intro a F
   refine list_skip F (F.wants 47 true rfl (by kernel_rfl) rfl false rfl) rfl rfl ?_; clear F a; intro a F
   refine list_skip F (F.wants 47 true rfl (by kernel_rfl) rfl false rfl) rfl rfl ?_; clear F a; intro a F
   refine list_skip F (F.wants 47 true rfl (by kernel_rfl) rfl false rfl) rfl rfl ?_; clear F a; intro a F
   refine list_skip F (F.wants 47 true rfl (by kernel_rfl) rfl false rfl) rfl rfl ?_; clear F a; intro a F
   refine list_skip F (F.wants 47 true rfl (by kernel_rfl) rfl false rfl) rfl rfl ?_; clear F a; intro a F
   refine list_skip F (F.wants 47 true rfl (by kernel_rfl) rfl false rfl) rfl rfl ?_; clear F a; intro a F
   refine list_skip F (F.wants 47 true rfl (by kernel_rfl) rfl false rfl) rfl rfl ?_; clear F a; intro a F
   refine list_val F (wn rfl) rfl rfl (.bool true) (ex_pick_t _ _ _ rfl (F.e rfl) _ rfl) ?_; clear F a; intro a F
   refine wpList_nil ?_
   replace F : Fr 66 a [(0, .agg #[.slice (some adr) ks.length c, .int .u64 next]), (1, .pointer (some ⟨g1, 0, none⟩)), (2, .int .i64 0), (3, .int .i64 ((ks.length : Nat) : Int)), (4, .int .u64 bl), (5, .int .i64 i), (19, .bool false), (22, .bool true), (55, .bool true)] := F.keep ⟨rfl, rfl, rfl, rfl, rfl, rfl, rfl, rfl, rfl, trivial⟩
   refine then_n ?_
   refine wp_cond_true (F.e rfl) ?_
   refine wp_seq ?_
   refine wp_region_lit ?_
   refine list_val F (wn rfl) rfl rfl (.int .i64 50) (ex_assign _ rfl _ rfl) ?_; clear F a; intro a F
   refine wpList_nil ?_
   replace F : Fr 66 a [(0, .agg #[.slice (some adr) ks.length c, .int .u64 next]), (1, .pointer (some ⟨g1, 0, none⟩)), (2, .int .i64 50), (3, .int .i64 ((ks.length : Nat) : Int)), (4, .int .u64 bl), (5, .int .i64 i), (19, .bool false), (22, .bool true), (55, .bool true)] := F.keep ⟨rfl, rfl, rfl, rfl, rfl, rfl, rfl, rfl, rfl, trivial⟩
   refine then_n ?_
   refine wp_ret ?_
   refine then_r ?_
   refine in_r ?_
   refine then_r ?_
   refine then_r ?_
   refine in_r ?_
   refine then_r ?_
   exact ret_tmp F rfl rfl ⟨by rw [(errK_bad hin (by rw [hb, c2]; simp))], M.bel⟩
  by_cases c3 : k.til < 0
  ·
   refine wp_seq ?_
   refine wp_seq ?_
   refine wp_region_lit ?_
   refine list_val F (wn rfl) rfl rfl (.int .i64 i) (ex_move _ rfl _ (F.e rfl)) ?_; clear F a; intro a F
   refine list_val F (wn rfl) rfl rfl (.int .i64 ((ks.length : Nat) : Int)) (ex_move _ rfl _ (F.e rfl)) ?_; clear F a; intro a F
   refine list_val F (wn rfl) rfl rfl (.bool true) (ex_bin .lss _ _ _ _ rfl .i64 _ _ (F.e rfl) (F.e rfl) _ (b_lss (decide_eq_true (by omega)))) ?_; clear F a; intro a F
   refine wpList_nil ?_
   replace F : Fr 66 a [(0, .agg #[.slice (some adr) ks.length c, .int .u64 next]), (1, .pointer (some ⟨g1, 0, none⟩)), (2, .int .i64 0), (3, .int .i64 ((ks.length : Nat) : Int)), (4, .int .u64 bl), (5, .int .i64 i), (19, .bool false), (22, .bool true)] := F.keep ⟨rfl, rfl, rfl, rfl, rfl, rfl, rfl, rfl, trivial⟩
   refine then_n ?_
   refine wp_cond_true (F.e rfl) ?_
   refine wp_skip ?_
   refine then_n ?_
   refine wp_seq ?_
   refine wp_block ?_
   refine wp_seq ?_
   refine wp_seq ?_
   refine wp_region_lit ?_
   refine list_val F (wn rfl) rfl rfl (.pointer (some ⟨g1, 0, none⟩)) (ex_fa _ _ _ rfl _ (F.e rfl) 0 ra_fa_69_0_0 ⟨g1, 0, none⟩ rfl) ?_; clear F a; intro a F
   refine list_val F (wn rfl) rfl rfl (.slice (some adr) ks.length c) (ex_load _ _ rfl _ (F.e rfl) _ (lv1 ra_one_55 (M.cell (i := 0) rfl (j := 0) rfl))) ?_; clear F a; intro a F
   refine list_val F (wn rfl) rfl rfl (.int .i64 i) (ex_move _ rfl _ (F.e rfl)) ?_; clear F a; intro a F
   refine list_val F (wn rfl) rfl rfl (.pointer (some (adr.add (i * 34)))) (ex_ix _ _ _ rfl 34 ra_sl_55_34 adr _ _ (F.e rfl) .i64 _ (F.e rfl) i rfl (by omega) (adr.add (i * 34)) rfl) ?_; clear F a; intro a F
   refine list_val F (wn rfl) rfl rfl (.pointer (some (adr.add (i * 34)))) (ex_fa _ _ _ rfl _ (F.e rfl) 0 ra_fa_107_0_0 (adr.add (i * 34)) rfl) ?_; clear F a; intro a F
   refine list_val F (wn rfl) rfl rfl (.int .u64 k.kid) (ex_load _ _ rfl _ (F.e rfl) _ (lv1 ra_one_67 ((zi.below M.bel).cell 0 _ (Key.cs_0 _)))) ?_; clear F a; intro a F
   refine list_val F (wn rfl) rfl rfl (.int .u64 bl) (ex_move _ rfl _ (F.e rfl)) ?_; clear F a; intro a F
   refine list_val F (wn rfl) rfl rfl (.bool false) (ex_bin .leq _ _ _ _ rfl .u64 _ _ (F.e rfl) (F.e rfl) _ (b_leq (decide_eq_false c1))) ?_; clear F a; intro a F
   refine list_val F (wn rfl) rfl rfl (.bool false) (ex_move _ rfl _ (F.e rfl)) ?_; clear F a; intro a F
   refine list_val F (F.wants 33 false rfl (by kernel_rfl) rfl true rfl) rfl rfl (.int .i64 i) (ex_move _ rfl _ (F.e rfl)) ?_; clear F a; intro a F
   refine list_val F (F.wants 33 false rfl (by kernel_rfl) rfl true rfl) rfl rfl (.int .i64 ((ks.length : Nat) : Int)) (ex_move _ rfl _ (F.e rfl)) ?_; clear F a; intro a F
   refine list_val F (F.wants 33 false rfl (by kernel_rfl) rfl true rfl) rfl rfl (.int .i64 (((ks.length : Nat) : Int) - 1)) (ex_bin .sub _ _ _ _ rfl .i64 _ _ (F.e rfl) rfl _ (b_sub (w_i64 (by omega) (by omega)))) ?_; clear F a; intro a F
   refine list_val F (F.wants 33 false rfl (by kernel_rfl) rfl true rfl) rfl rfl (.bool (decide (i < (((ks.length : Nat) : Int) - 1)))) (ex_bin .lss _ _ _ _ rfl .i64 _ _ (F.e rfl) (F.e rfl) _ (b_lss rfl)) ?_; clear F a; intro a F
   refine list_val F (F.wants 33 false rfl (by kernel_rfl) rfl true rfl) rfl rfl (.pointer (some ⟨g1, 0, none⟩)) (ex_fa _ _ _ rfl _ (F.e rfl) 0 ra_fa_69_0_0 ⟨g1, 0, none⟩ rfl) ?_; clear F a; intro a F
   refine list_val F (F.wants 33 false rfl (by kernel_rfl) rfl true rfl) rfl rfl (.slice (some adr) ks.length c) (ex_load _ _ rfl _ (F.e rfl) _ (lv1 ra_one_55 (M.cell (i := 0) rfl (j := 0) rfl))) ?_; clear F a; intro a F
   refine list_val F (F.wants 33 false rfl (by kernel_rfl) rfl true rfl) rfl rfl (.int .i64 i) (ex_move _ rfl _ (F.e rfl)) ?_; clear F a; intro a F
   refine list_val F (F.wants 33 false rfl (by kernel_rfl) rfl true rfl) rfl rfl (.pointer (some (adr.add (i * 34)))) (ex_ix _ _ _ rfl 34 ra_sl_55_34 adr _ _ (F.e rfl) .i64 _ (F.e rfl) i rfl (by omega) (adr.add (i * 34)) rfl) ?_; clear F a; intro a F
   refine list_val F (F.wants 33 false rfl (by kernel_rfl) rfl true rfl) rfl rfl (.pointer (some ((adr.add (i * 34)).add 33))) (ex_fa _ _ _ rfl _ (F.e rfl) 33 ra_fa_107_2_33 ((adr.add (i * 34)).add 33) rfl) ?_; clear F a; intro a F
   refine list_val F (F.wants 33 false rfl (by kernel_rfl) rfl true rfl) rfl rfl (.int .i64 k.til) (ex_load _ _ rfl _ (F.e rfl) _ (lv1 ra_one_2 ((zi.below M.bel).cell 33 _ (Key.cs_33 _)))) ?_; clear F a; intro a F
   refine list_val F (F.wants 33 false rfl (by kernel_rfl) rfl true rfl) rfl rfl (.bool (decide (0 < k.til))) (ex_bin .gtr _ _ _ _ rfl .i64 _ _ (F.e rfl) rfl _ (b_gtr rfl)) ?_; clear F a; intro a F
   refine list_val F (F.wants 33 false rfl (by kernel_rfl) rfl true rfl) rfl rfl (.bool false) (ex_neqb _ _ _ _ rfl ra_bool_4 (decide (i < (((ks.length : Nat) : Int) - 1))) (decide (0 < k.til)) (F.e rfl) (F.e rfl) false (Bool.eq_false_iff.2 c2)) ?_; clear F a; intro a F
   refine list_val F (wn rfl) rfl rfl (.bool false) (ex_pick_f _ _ _ rfl (F.e rfl) _ (F.e rfl)) ?_; clear F a; intro a F
   refine list_val F (wn rfl) rfl rfl (.bool false) (ex_move _ rfl _ (F.e rfl)) ?_; clear F a; intro a F
   refine list_val F (F.wants 47 false rfl (by kernel_rfl) rfl true rfl) rfl rfl (.pointer (some ⟨g1, 0, none⟩)) (ex_fa _ _ _ rfl _ (F.e rfl) 0 ra_fa_69_0_0 ⟨g1, 0, none⟩ rfl) ?_; clear F a; intro a F
   refine list_val F (F.wants 47 false rfl (by kernel_rfl) rfl true rfl) rfl rfl (.slice (some adr) ks.length c) (ex_load _ _ rfl _ (F.e rfl) _ (lv1 ra_one_55 (M.cell (i := 0) rfl (j := 0) rfl))) ?_; clear F a; intro a F
   refine list_val F (F.wants 47 false rfl (by kernel_rfl) rfl true rfl) rfl rfl (.int .i64 i) (ex_move _ rfl _ (F.e rfl)) ?_; clear F a; intro a F
   refine list_val F (F.wants 47 false rfl (by kernel_rfl) rfl true rfl) rfl rfl (.pointer (some (adr.add (i * 34)))) (ex_ix _ _ _ rfl 34 ra_sl_55_34 adr _ _ (F.e rfl) .i64 _ (F.e rfl) i rfl (by omega) (adr.add (i * 34)) rfl) ?_; clear F a; intro a F
   refine list_val F (F.wants 47 false rfl (by kernel_rfl) rfl true rfl) rfl rfl (.pointer (some ((adr.add (i * 34)).add 33))) (ex_fa _ _ _ rfl _ (F.e rfl) 33 ra_fa_107_2_33 ((adr.add (i * 34)).add 33) rfl) ?_; clear F a; intro a F
   refine list_val F (F.wants 47 false rfl (by kernel_rfl) rfl true rfl) rfl rfl (.int .i64 k.til) (ex_load _ _ rfl _ (F.e rfl) _ (lv1 ra_one_2 ((zi.below M.bel).cell 33 _ (Key.cs_33 _)))) ?_; clear F a; intro a F
   refine list_val F (F.wants 47 false rfl (by kernel_rfl) rfl true rfl) rfl rfl (.bool true) (ex_bin .lss _ _ _ _ rfl .i64 _ _ (F.e rfl) rfl _ (b_lss (decide_eq_true c3))) ?_; clear F a; intro a F
   refine list_val F (wn rfl) rfl rfl (.bool true) (ex_pick_f _ _ _ rfl (F.e rfl) _ (F.e rfl)) ?_; clear F a; intro a F
   refine wpList_nil ?_
   replace F : Fr 66 a [(0, .agg #[.slice (some adr) ks.length c, .int .u64 next]), (1, .pointer (some ⟨g1, 0, none⟩)), (2, .int .i64 0), (3, .int .i64 ((ks.length : Nat) : Int)), (4, .int .u64 bl), (5, .int .i64 i), (19, .bool false), (22, .bool true), (55, .bool true)] := F.keep ⟨rfl, rfl, rfl, rfl, rfl, rfl, rfl, rfl, rfl, trivial⟩
   refine then_n ?_
   refine wp_cond_true (F.e rfl) ?_
   refine wp_seq ?_
   refine wp_region_lit ?_
   refine list_val F (wn rfl) rfl rfl (.int .i64 50) (ex_assign _ rfl _ rfl) ?_; clear F a; intro a F
   refine wpList_nil ?_
   replace F : Fr 66 a [(0, .agg #[.slice (some adr) ks.length c, .int .u64 next]), (1, .pointer (some ⟨g1, 0, none⟩)), (2, .int .i64 50), (3, .int .i64 ((ks.length : Nat) : Int)), (4, .int .u64 bl), (5, .int .i64 i), (19, .bool false), (22, .bool true), (55, .bool true)] := F.keep ⟨rfl, rfl, rfl, rfl, rfl, rfl, rfl, rfl, rfl, trivial⟩
   refine then_n ?_
   refine wp_ret ?_
   refine then_r ?_
   refine in_r ?_
   refine then_r ?_
   refine then_r ?_
   refine in_r ?_
   refine then_r ?_
   exact ret_tmp F rfl rfl ⟨by rw [(errK_bad hin (by rw [hb]; simp [c3]))], M.bel⟩
  rw [decide_eq_false c1, Bool.eq_false_iff.2 c2, decide_eq_false c3] at hb
  refine wp_seq ?_
  refine wp_seq ?_
  refine wp_region_lit ?_
  refine list_val F (wn rfl) rfl rfl (.int .i64 i) (ex_move _ rfl _ (F.e rfl)) ?_; clear F a; intro a F
  refine list_val F (wn rfl) rfl rfl (.int .i64 ((ks.length : Nat) : Int)) (ex_move _ rfl _ (F.e rfl)) ?_; clear F a; intro a F
  refine list_val F (wn rfl) rfl rfl (.bool true) (ex_bin .lss _ _ _ _ rfl .i64 _ _ (F.e rfl) (F.e rfl) _ (b_lss (decide_eq_true (by omega)))) ?_; clear F a; intro a F
  refine wpList_nil ?_
  replace F : Fr 66 a [(0, .agg #[.slice (some adr) ks.length c, .int .u64 next]), (1, .pointer (some ⟨g1, 0, none⟩)), (2, .int .i64 0), (3, .int .i64 ((ks.length : Nat) : Int)), (4, .int .u64 bl), (5, .int .i64 i), (19, .bool false), (22, .bool true)] := F.keep ⟨rfl, rfl, rfl, rfl, rfl, rfl, rfl, rfl, trivial⟩
  refine then_n ?_
  refine wp_cond_true (F.e rfl) ?_
  refine wp_skip ?_
  refine then_n ?_
  refine wp_seq ?_
  refine wp_block ?_
  refine wp_seq ?_
  refine wp_seq ?_
  refine wp_region_lit ?_
  refine list_val F (wn rfl) rfl rfl (.pointer (some ⟨g1, 0, none⟩)) (ex_fa _ _ _ rfl _ (F.e rfl) 0 ra_fa_69_0_0 ⟨g1, 0, none⟩ rfl) ?_; clear F a; intro a F
  refine list_val F (wn rfl) rfl rfl (.slice (some adr) ks.length c) (ex_load _ _ rfl _ (F.e rfl) _ (lv1 ra_one_55 (M.cell (i := 0) rfl (j := 0) rfl))) ?_; clear F a; intro a F
  refine list_val F (wn rfl) rfl rfl (.int .i64 i) (ex_move _ rfl _ (F.e rfl)) ?_; clear F a; intro a F
  refine list_val F (wn rfl) rfl rfl (.pointer (some (adr.add (i * 34)))) (ex_ix _ _ _ rfl 34 ra_sl_55_34 adr _ _ (F.e rfl) .i64 _ (F.e rfl) i rfl (by omega) (adr.add (i * 34)) rfl) ?_; clear F a; intro a F
  refine list_val F (wn rfl) rfl rfl (.pointer (some (adr.add (i * 34)))) (ex_fa _ _ _ rfl _ (F.e rfl) 0 ra_fa_107_0_0 (adr.add (i * 34)) rfl) ?_; clear F a; intro a F
  refine list_val F (wn rfl) rfl rfl (.int .u64 k.kid) (ex_load _ _ rfl _ (F.e rfl) _ (lv1 ra_one_67 ((zi.below M.bel).cell 0 _ (Key.cs_0 _)))) ?_; clear F a; intro a F
  refine list_val F (wn rfl) rfl rfl (.int .u64 bl) (ex_move _ rfl _ (F.e rfl)) ?_; clear F a; intro a F
  refine list_val F (wn rfl) rfl rfl (.bool false) (ex_bin .leq _ _ _ _ rfl .u64 _ _ (F.e rfl) (F.e rfl) _ (b_leq (decide_eq_false c1))) ?_; clear F a; intro a F
  refine list_val F (wn rfl) rfl rfl (.bool false) (ex_move _ rfl _ (F.e rfl)) ?_; clear F a; intro a F
  refine list_val F (F.wants 33 false rfl (by kernel_rfl) rfl true rfl) rfl rfl (.int .i64 i) (ex_move _ rfl _ (F.e rfl)) ?_; clear F a; intro a F
  refine list_val F (F.wants 33 false rfl (by kernel_rfl) rfl true rfl) rfl rfl (.int .i64 ((ks.length : Nat) : Int)) (ex_move _ rfl _ (F.e rfl)) ?_; clear F a; intro a F
  refine list_val F (F.wants 33 false rfl (by kernel_rfl) rfl true rfl) rfl rfl (.int .i64 (((ks.length : Nat) : Int) - 1)) (ex_bin .sub _ _ _ _ rfl .i64 _ _ (F.e rfl) rfl _ (b_sub (w_i64 (by omega) (by omega)))) ?_; clear F a; intro a F
  refine list_val F (F.wants 33 false rfl (by kernel_rfl) rfl true rfl) rfl rfl (.bool (decide (i < (((ks.length : Nat) : Int) - 1)))) (ex_bin .lss _ _ _ _ rfl .i64 _ _ (F.e rfl) (F.e rfl) _ (b_lss rfl)) ?_; clear F a; intro a F
  refine list_val F (F.wants 33 false rfl (by kernel_rfl) rfl true rfl) rfl rfl (.pointer (some ⟨g1, 0, none⟩)) (ex_fa _ _ _ rfl _ (F.e rfl) 0 ra_fa_69_0_0 ⟨g1, 0, none⟩ rfl) ?_; clear F a; intro a F
  refine list_val F (F.wants 33 false rfl (by kernel_rfl) rfl true rfl) rfl rfl (.slice (some adr) ks.length c) (ex_load _ _ rfl _ (F.e rfl) _ (lv1 ra_one_55 (M.cell (i := 0) rfl (j := 0) rfl))) ?_; clear F a; intro a F
  refine list_val F (F.wants 33 false rfl (by kernel_rfl) rfl true rfl) rfl rfl (.int .i64 i) (ex_move _ rfl _ (F.e rfl)) ?_; clear F a; intro a F
  refine list_val F (F.wants 33 false rfl (by kernel_rfl) rfl true rfl) rfl rfl (.pointer (some (adr.add (i * 34)))) (ex_ix _ _ _ rfl 34 ra_sl_55_34 adr _ _ (F.e rfl) .i64 _ (F.e rfl) i rfl (by omega) (adr.add (i * 34)) rfl) ?_; clear F a; intro a F
  refine list_val F (F.wants 33 false rfl (by kernel_rfl) rfl true rfl) rfl rfl (.pointer (some ((adr.add (i * 34)).add 33))) (ex_fa _ _ _ rfl _ (F.e rfl) 33 ra_fa_107_2_33 ((adr.add (i * 34)).add 33) rfl) ?_; clear F a; intro a F
  refine list_val F (F.wants 33 false rfl (by kernel_rfl) rfl true rfl) rfl rfl (.int .i64 k.til) (ex_load _ _ rfl _ (F.e rfl) _ (lv1 ra_one_2 ((zi.below M.bel).cell 33 _ (Key.cs_33 _)))) ?_; clear F a; intro a F
  refine list_val F (F.wants 33 false rfl (by kernel_rfl) rfl true rfl) rfl rfl (.bool (decide (0 < k.til))) (ex_bin .gtr _ _ _ _ rfl .i64 _ _ (F.e rfl) rfl _ (b_gtr rfl)) ?_; clear F a; intro a F
  refine list_val F (F.wants 33 false rfl (by kernel_rfl) rfl true rfl) rfl rfl (.bool false) (ex_neqb _ _ _ _ rfl ra_bool_4 (decide (i < (((ks.length : Nat) : Int) - 1))) (decide (0 < k.til)) (F.e rfl) (F.e rfl) false (Bool.eq_false_iff.2 c2)) ?_; clear F a; intro a F
  refine list_val F (wn rfl) rfl rfl (.bool false) (ex_pick_f _ _ _ rfl (F.e rfl) _ (F.e rfl)) ?_; clear F a; intro a F
  refine list_val F (wn rfl) rfl rfl (.bool false) (ex_move _ rfl _ (F.e rfl)) ?_; clear F a; intro a F
  refine list_val F (F.wants 47 false rfl (by kernel_rfl) rfl true rfl) rfl rfl (.pointer (some ⟨g1, 0, none⟩)) (ex_fa _ _ _ rfl _ (F.e rfl) 0 ra_fa_69_0_0 ⟨g1, 0, none⟩ rfl) ?_; clear F a; intro a F
  refine list_val F (F.wants 47 false rfl (by kernel_rfl) rfl true rfl) rfl rfl (.slice (some adr) ks.length c) (ex_load _ _ rfl _ (F.e rfl) _ (lv1 ra_one_55 (M.cell (i := 0) rfl (j := 0) rfl))) ?_; clear F a; intro a F
  refine list_val F (F.wants 47 false rfl (by kernel_rfl) rfl true rfl) rfl rfl (.int .i64 i) (ex_move _ rfl _ (F.e rfl)) ?_; clear F a; intro a F
  refine list_val F (F.wants 47 false rfl (by kernel_rfl) rfl true rfl) rfl rfl (.pointer (some (adr.add (i * 34)))) (ex_ix _ _ _ rfl 34 ra_sl_55_34 adr _ _ (F.e rfl) .i64 _ (F.e rfl) i rfl (by omega) (adr.add (i * 34)) rfl) ?_; clear F a; intro a F
  refine list_val F (F.wants 47 false rfl (by kernel_rfl) rfl true rfl) rfl rfl (.pointer (some ((adr.add (i * 34)).add 33))) (ex_fa _ _ _ rfl _ (F.e rfl) 33 ra_fa_107_2_33 ((adr.add (i * 34)).add 33) rfl) ?_; clear F a; intro a F
  refine list_val F (F.wants 47 false rfl (by kernel_rfl) rfl true rfl) rfl rfl (.int .i64 k.til) (ex_load _ _ rfl _ (F.e rfl) _ (lv1 ra_one_2 ((zi.below M.bel).cell 33 _ (Key.cs_33 _)))) ?_; clear F a; intro a F
  refine list_val F (F.wants 47 false rfl (by kernel_rfl) rfl true rfl) rfl rfl (.bool false) (ex_bin .lss _ _ _ _ rfl .i64 _ _ (F.e rfl) rfl _ (b_lss (decide_eq_false c3))) ?_; clear F a; intro a F
  refine list_val F (wn rfl) rfl rfl (.bool false) (ex_pick_f _ _ _ rfl (F.e rfl) _ (F.e rfl)) ?_; clear F a; intro a F
  refine wpList_nil ?_
  replace F : Fr 66 a [(0, .agg #[.slice (some adr) ks.length c, .int .u64 next]), (1, .pointer (some ⟨g1, 0, none⟩)), (2, .int .i64 0), (3, .int .i64 ((ks.length : Nat) : Int)), (4, .int .u64 bl), (5, .int .i64 i), (19, .bool false), (22, .bool true), (55, .bool false)] := F.keep ⟨rfl, rfl, rfl, rfl, rfl, rfl, rfl, rfl, rfl, trivial⟩
  refine then_n ?_
  refine wp_cond_false (F.e rfl) ?_
  refine wp_skip ?_
  refine then_n ?_
  refine wp_region_lit ?_
  refine list_val F (wn rfl) rfl rfl (.pointer (some ⟨g1, 0, none⟩)) (ex_fa _ _ _ rfl _ (F.e rfl) 0 ra_fa_69_0_0 ⟨g1, 0, none⟩ rfl) ?_; clear F a; intro a F
  refine list_val F (wn rfl) rfl rfl (.slice (some adr) ks.length c) (ex_load _ _ rfl _ (F.e rfl) _ (lv1 ra_one_55 (M.cell (i := 0) rfl (j := 0) rfl))) ?_; clear F a; intro a F
  refine list_val F (wn rfl) rfl rfl (.int .i64 i) (ex_move _ rfl _ (F.e rfl)) ?_; clear F a; intro a F
  refine list_val F (wn rfl) rfl rfl (.pointer (some (adr.add (i * 34)))) (ex_ix _ _ _ rfl 34 ra_sl_55_34 adr _ _ (F.e rfl) .i64 _ (F.e rfl) i rfl (by omega) (adr.add (i * 34)) rfl) ?_; clear F a; intro a F
  refine list_val F (wn rfl) rfl rfl (.pointer (some (adr.add (i * 34)))) (ex_fa _ _ _ rfl _ (F.e rfl) 0 ra_fa_107_0_0 (adr.add (i * 34)) rfl) ?_; clear F a; intro a F
  refine list_val F (wn rfl) rfl rfl (.int .u64 k.kid) (ex_load _ _ rfl _ (F.e rfl) _ (lv1 ra_one_67 ((zi.below M.bel).cell 0 _ (Key.cs_0 _)))) ?_; clear F a; intro a F
  refine list_val F (wn rfl) rfl rfl (.int .u64 k.kid) (ex_assign _ rfl _ (F.e rfl)) ?_; clear F a; intro a F
  refine wpList_nil ?_
  replace F : Fr 66 a [(0, .agg #[.slice (some adr) ks.length c, .int .u64 next]), (1, .pointer (some ⟨g1, 0, none⟩)), (2, .int .i64 0), (3, .int .i64 ((ks.length : Nat) : Int)), (4, .int .u64 k.kid), (5, .int .i64 i), (19, .bool false), (22, .bool true), (55, .bool false)] := F.keep ⟨rfl, rfl, rfl, rfl, rfl, rfl, rfl, rfl, rfl, trivial⟩
  refine in_n ?_
  refine then_n ?_
  refine wp_region_lit ?_
  refine list_val F (wn rfl) rfl rfl (.int .i64 i) (ex_move _ rfl _ (F.e rfl)) ?_; clear F a; intro a F
  refine list_val F (wn rfl) rfl rfl (.int .i64 (i + 1)) (ex_bin .add _ _ _ _ rfl .i64 _ _ (F.e rfl) rfl _ (b_add (w_i64 (by omega) (by omega)))) ?_; clear F a; intro a F
  refine list_val F (wn rfl) rfl rfl (.int .i64 (i + 1)) (ex_assign _ rfl _ (F.e rfl)) ?_; clear F a; intro a F
  refine wpList_nil ?_
  replace F : Fr 66 a [(0, .agg #[.slice (some adr) ks.length c, .int .u64 next]), (1, .pointer (some ⟨g1, 0, none⟩)), (2, .int .i64 0), (3, .int .i64 ((ks.length : Nat) : Int)), (4, .int .u64 k.kid), (5, .int .i64 (i + 1)), (19, .bool false), (22, .bool true), (55, .bool false)] := F.keep ⟨rfl, rfl, rfl, rfl, rfl, rfl, rfl, rfl, rfl, trivial⟩
  refine then_n ?_
  exact ⟨ks.length - (i + 1), by omega, (i + 1), k.kid, F.keep ⟨rfl, rfl, rfl, rfl, rfl, rfl, rfl, trivial⟩, (by refine M.pick' [0] _ ?_ (by decide); exact ⟨rfl, trivial⟩), (by omega), (by rw [belowK, hk]), (fun j hj => by rcases Nat.lt_or_eq_of_le (Nat.le_of_lt_succ hj) with h | rfl; exact hg j h; exact hb), (by omega)⟩
 obtain rfl : i = ks.length := by omega
 refine wp_seq ?_
 refine wp_seq ?_
 refine wp_region_lit ?_
 refine list_val F (wn rfl) rfl rfl (.int .i64 ks.length) (ex_move _ rfl _ (F.e rfl)) ?_; clear F a; intro a F
 refine list_val F (wn rfl) rfl rfl (.int .i64 ((ks.length : Nat) : Int)) (ex_move _ rfl _ (F.e rfl)) ?_; clear F a; intro a F
 refine list_val F (wn rfl) rfl rfl (.bool false) (ex_bin .lss _ _ _ _ rfl .i64 _ _ (F.e rfl) (F.e rfl) _ (b_lss (decide_eq_false (by omega)))) ?_; clear F a; intro a F
 refine wpList_nil ?_
 replace F : Fr 66 a [(0, .agg #[.slice (some adr) ks.length c, .int .u64 next]), (1, .pointer (some ⟨g1, 0, none⟩)), (2, .int .i64 0), (3, .int .i64 ((ks.length : Nat) : Int)), (4, .int .u64 bl), (5, .int .i64 ks.length), (19, .bool false), (22, .bool false)] := F.keep ⟨rfl, rfl, rfl, rfl, rfl, rfl, rfl, rfl, trivial⟩
 refine then_n ?_
 refine wp_cond_false (F.e rfl) ?_
 refine wp_exit ?_
 refine then_x ?_
 refine then_x ?_
 refine in_hit ?_
 refine then_n ?_
 refine wp_seq ?_
 refine wp_seq ?_
 by_cases c4 : next ≤ bl
 ·
  refine wp_region_lit ?_
  refine list_val F (wn rfl) rfl rfl (.pointer (some ⟨g1, 1, none⟩)) (ex_fa _ _ _ rfl _ (F.e rfl) 1 ra_fa_69_1_1 ⟨g1, 1, none⟩ rfl) ?_; clear F a; intro a F
  refine list_val F (wn rfl) rfl rfl (.int .u64 next) (ex_load _ _ rfl _ (F.e rfl) _ (lv1 ra_one_67 (M.cell (i := 0) rfl (j := 1) rfl))) ?_; clear F a; intro a F
  refine list_val F (wn rfl) rfl rfl (.int .u64 bl) (ex_move _ rfl _ (F.e rfl)) ?_; clear F a; intro a F
  refine list_val F (wn rfl) rfl rfl (.bool true) (ex_bin .leq _ _ _ _ rfl .u64 _ _ (F.e rfl) (F.e rfl) _ (b_leq (decide_eq_true c4))) ?_; clear F a; intro a F
  refine wpList_nil ?_
  replace F : Fr 66 a [(0, .agg #[.slice (some adr) ks.length c, .int .u64 next]), (1, .pointer (some ⟨g1, 0, none⟩)), (2, .int .i64 0), (3, .int .i64 ((ks.length : Nat) : Int)), (4, .int .u64 bl), (5, .int .i64 ks.length), (19, .bool false), (22, .bool false), (65, .bool true)] := F.keep ⟨rfl, rfl, rfl, rfl, rfl, rfl, rfl, rfl, rfl, trivial⟩
  refine then_n ?_
  refine wp_cond_true (F.e rfl) ?_
  refine wp_seq ?_
  refine wp_region_lit ?_
  refine list_val F (wn rfl) rfl rfl (.int .i64 50) (ex_assign _ rfl _ rfl) ?_; clear F a; intro a F
  refine wpList_nil ?_
  replace F : Fr 66 a [(0, .agg #[.slice (some adr) ks.length c, .int .u64 next]), (1, .pointer (some ⟨g1, 0, none⟩)), (2, .int .i64 50), (3, .int .i64 ((ks.length : Nat) : Int)), (4, .int .u64 bl), (5, .int .i64 ks.length), (19, .bool false), (22, .bool false), (65, .bool true)] := F.keep ⟨rfl, rfl, rfl, rfl, rfl, rfl, rfl, rfl, rfl, trivial⟩
  refine then_n ?_
  refine wp_ret ?_
  refine then_r ?_
  exact ret_tmp F rfl rfl ⟨by rw [(errK_next (by omega) (hbl ▸ c4))], M.bel⟩
 refine wp_region_lit ?_
 refine list_val F (wn rfl) rfl rfl (.pointer (some ⟨g1, 1, none⟩)) (ex_fa _ _ _ rfl _ (F.e rfl) 1 ra_fa_69_1_1 ⟨g1, 1, none⟩ rfl) ?_; clear F a; intro a F
 refine list_val F (wn rfl) rfl rfl (.int .u64 next) (ex_load _ _ rfl _ (F.e rfl) _ (lv1 ra_one_67 (M.cell (i := 0) rfl (j := 1) rfl))) ?_; clear F a; intro a F
 refine list_val F (wn rfl) rfl rfl (.int .u64 bl) (ex_move _ rfl _ (F.e rfl)) ?_; clear F a; intro a F
 refine list_val F (wn rfl) rfl rfl (.bool false) (ex_bin .leq _ _ _ _ rfl .u64 _ _ (F.e rfl) (F.e rfl) _ (b_leq (decide_eq_false c4))) ?_; clear F a; intro a F
 refine wpList_nil ?_
 replace F : Fr 66 a [(0, .agg #[.slice (some adr) ks.length c, .int .u64 next]), (1, .pointer (some ⟨g1, 0, none⟩)), (2, .int .i64 0), (3, .int .i64 ((ks.length : Nat) : Int)), (4, .int .u64 bl), (5, .int .i64 ks.length), (19, .bool false), (22, .bool false), (65, .bool false)] := F.keep ⟨rfl, rfl, rfl, rfl, rfl, rfl, rfl, rfl, rfl, trivial⟩
 refine then_n ?_
 refine wp_cond_false (F.e rfl) ?_
 refine wp_skip ?_
 refine then_n ?_
 refine wp_seq ?_
 refine wp_region_lit ?_
 refine list_val F (wn rfl) rfl rfl (.int .i64 0) (ex_assign _ rfl _ rfl) ?_; clear F a; intro a F
 refine wpList_nil ?_
 replace F : Fr 66 a [(0, .agg #[.slice (some adr) ks.length c, .int .u64 next]), (1, .pointer (some ⟨g1, 0, none⟩)), (2, .int .i64 0), (3, .int .i64 ((ks.length : Nat) : Int)), (4, .int .u64 bl), (5, .int .i64 ks.length), (19, .bool false), (22, .bool false), (65, .bool false)] := F.keep ⟨rfl, rfl, rfl, rfl, rfl, rfl, rfl, rfl, rfl, trivial⟩
 refine then_n ?_
 refine wp_ret ?_
 exact ret_tmp F rfl rfl ⟨by rw [(errK_ok (by omega) h8 hm (hbl ▸ c4) hg)], M.bel⟩
theorem ra_row_69_2 : row? Try.prog 69 2 = true := by kernel_rfl
theorem ra_ent_33 : ent? Try.prog 33 = true := by kernel_rfl
theorem ra_row_107_34 : row? Try.prog 107 34 = true := by kernel_rfl
set_option maxHeartbeats 4000000 in
set_option maxRecDepth 100000 in
theorem refCur_any (ks : List Key) (A : Option Addr) (c : Nat) (next : Int) (w : World) (hr : kKey.C w A ks.length ks) (hc : ks.length ≤ c) :
    Calls Try.prog 39 #[.agg #[.slice A ks.length c, .int .u64 next]] w fun e w' => e = .returned (.tuple #[.agg (curF ks next).arr, .bool (!decide (curF ks next = zKey))]) ∧ Below w.heap.size w w' := by
 refine calls_start Try.func39 rfl rfl rfl (fun a F => ?_)
 have M : Mm w w [] := Mm.nil w
 refine wp_seq ?_
 refine wp_region_lit ?_
 refine list_do (wn rfl) (fun K hK => ?_)
 refine ow_box F M rfl rfl 69 _ rfl _ (F.e rfl) #[.slice A ks.length c, .int .u64 next] rfl ?_
 clear F M a; intro a g1 v F M hb hg
 refine hK _ _ ?_
 clear hK K
 clear hb hg; try clear w
 refine list_do (wn rfl) (fun K hK => ?_)
 refine ow_alloc F M rfl rfl 107 rfl (.agg zKey.arr) zero107 zKey.arr rfl ?_
 clear F M a; intro a g2 u F M hb hg
 refine hK _ _ ?_
 clear hK K
 clear hb hg; try clear v
 refine list_val F (wn rfl) rfl rfl (.bool false) (ex_assign _ rfl _ rfl) ?_; clear F a; intro a F
 refine wpList_nil ?_
 replace F : Fr 16 a [(0, .agg #[.slice A ks.length c, .int .u64 next]), (1, .pointer (some ⟨g1, 0, none⟩)), (2, .pointer (some ⟨g2, 0, none⟩)), (3, .bool false)] := F.keep ⟨rfl, rfl, rfl, rfl, trivial⟩
 refine then_n ?_
 refine wp_seq ?_
 refine wp_seq ?_
 by_cases hk : checkK ks next = true
 ·
  obtain ⟨h1, h8, hmx⟩ := check_len hk
  obtain ⟨adr, rfl, _⟩ := at_Key hr 0 (by omega) (by omega)
  obtain ⟨m, hm⟩ : ∃ m, ks.length = m + 1 := ⟨ks.length - 1, by omega⟩
  have hcu := cur_last hk
  rw [show (ks.length : Int) - 1 = (m : Int) by omega] at hcu
  obtain ⟨_, had, zi, _, _⟩ := at_Key hr (m : Int) (by omega) (by omega)
  obtain rfl := Option.some.inj had
  clear had
  rw [show (m : Int).toNat = m from rfl] at zi
  refine wp_region_lit ?_
  refine list_val F (wn rfl) rfl rfl (.agg #[.slice (some adr) ks.length c, .int .u64 next]) (ex_load _ _ rfl _ (F.e rfl) _ (lvr (cs := [.slice (some adr) ks.length c, .int .u64 next]) ra_row_69_2 (M.at (i := 1) rfl))) ?_; clear F a; intro a F
  refine list_do (wn rfl) (fun K hK => ?_)
  have hcl := Kd.C_below hr M.bel
  refine ow_call rfl rfl F 33 #[.agg #[.slice (some adr) ks.length c, .int .u64 next]] (ex_call 33 _ _ rfl rfl ra_ent_33 _ (map1 (F.e rfl))) (refCheck_any ks _ c next _ hcl hc) (fun e v hR => ?_)
  obtain ⟨he, hb⟩ := hR
  refine ⟨.int .i64 (errK ks next), he, ?_⟩; clear he F a; intro a F
  refine hK _ _ ?_
  clear hK K
  replace M := M.below hb; clear hb; try clear u
  clear hcl
  refine list_val F (wn rfl) rfl rfl (.bool false) (ex_bin .neq _ _ _ _ rfl .i64 _ _ (F.e rfl) rfl _ (b_neq (by rw [errK_yes hk]; decide))) ?_; clear F a; intro a F
  refine wpList_nil ?_
  replace F : Fr 16 a [(0, .agg #[.slice (some adr) ks.length c, .int .u64 next]), (1, .pointer (some ⟨g1, 0, none⟩)), (2, .pointer (some ⟨g2, 0, none⟩)), (3, .bool false), (6, .bool false)] := F.keep ⟨rfl, rfl, rfl, rfl, rfl, trivial⟩
  refine then_n ?_
  refine wp_cond_false (F.e rfl) ?_
  refine wp_skip ?_
  refine then_n ?_
  refine wp_seq ?_
  refine wp_region_lit ?_
  refine list_val F (wn rfl) rfl rfl (.pointer (some ⟨g1, 0, none⟩)) (ex_fa _ _ _ rfl _ (F.e rfl) 0 ra_fa_69_0_0 ⟨g1, 0, none⟩ rfl) ?_; clear F a; intro a F
  refine list_val F (wn rfl) rfl rfl (.slice (some adr) ks.length c) (ex_load _ _ rfl _ (F.e rfl) _ (lv1 ra_one_55 (M.cell (i := 1) rfl (j := 0) rfl))) ?_; clear F a; intro a F
  refine list_val F (wn rfl) rfl rfl (.pointer (some ⟨g1, 0, none⟩)) (ex_fa _ _ _ rfl _ (F.e rfl) 0 ra_fa_69_0_0 ⟨g1, 0, none⟩ rfl) ?_; clear F a; intro a F
  refine list_val F (wn rfl) rfl rfl (.slice (some adr) ks.length c) (ex_load _ _ rfl _ (F.e rfl) _ (lv1 ra_one_55 (M.cell (i := 1) rfl (j := 0) rfl))) ?_; clear F a; intro a F
  refine list_val F (wn rfl) rfl rfl (.int .i64 ((ks.length : Nat) : Int)) (ex_len _ _ rfl 34 ra_sl_55_34 _ _ _ (F.e rfl)) ?_; clear F a; intro a F
  refine list_val F (wn rfl) rfl rfl (.int .i64 m) (ex_bin .sub _ _ _ _ rfl .i64 _ _ (F.e rfl) rfl _ (b_sub ((w_i64 (by omega) (by omega)).trans (by omega)))) ?_; clear F a; intro a F
  refine list_val F (wn rfl) rfl rfl (.pointer (some (adr.add (m * 34)))) (ex_ix _ _ _ rfl 34 ra_sl_55_34 adr _ _ (F.e rfl) .i64 _ (F.e rfl) m rfl (by omega) (adr.add (m * 34)) rfl) ?_; clear F a; intro a F
  refine list_val F (wn rfl) rfl rfl (.agg ((rdK ks (m : Int)).arr)) (ex_load _ _ rfl _ (F.e rfl) _ (lvr (cs := (rdK ks (m : Int)).cs) (by rw [Key.cs_len]; exact ra_row_107_34) ((zi.below M.bel)))) ?_; clear F a; intro a F
  refine list_do (wn rfl) (fun K hK => ?_)
  refine ow_put F M rfl 107 _ _ rfl 0 _ zKey.arr _ rfl (F.e rfl) ((rdK ks (m : Int)).arr) (F.e rfl) (by rw [Key.arr_size]; exact info107) (by simp only [Key.arr_size]) (Key.arr_one _) ?_
  clear F a; have Mo := M; clear M; intro a u F M hgr
  refine hK _ _ ?_
  clear hK K
  clear Mo hgr; try clear v
  replace M : Mm w u [⟨g2, (rdK ks (m : Int)).arr, 107⟩, ⟨g1, #[.slice (some adr) ks.length c, .int .u64 next], 69⟩] := M
  refine list_val F (wn rfl) rfl rfl (.bool true) (ex_assign _ rfl _ rfl) ?_; clear F a; intro a F
  refine wpList_nil ?_
  replace F : Fr 16 a [(0, .agg #[.slice (some adr) ks.length c, .int .u64 next]), (1, .pointer (some ⟨g1, 0, none⟩)), (2, .pointer (some ⟨g2, 0, none⟩)), (3, .bool true), (6, .bool false)] := F.keep ⟨rfl, rfl, rfl, rfl, rfl, trivial⟩
  refine then_n ?_
  refine wp_ret ?_
  exact ret_c2 (v := .agg ((rdK ks (m : Int)).arr)) F rfl rfl rfl (lvr (cs := (rdK ks (m : Int)).cs) (by rw [Key.cs_len]; exact ra_row_107_34) (M.at (i := 0) rfl)) ⟨(by rw [hcu.1, hcu.2, Bool.not_false]), M.bel⟩
 rw [Bool.not_eq_true] at hk
 refine wp_region_lit ?_
 refine list_val F (wn rfl) rfl rfl (.agg #[.slice A ks.length c, .int .u64 next]) (ex_load _ _ rfl _ (F.e rfl) _ (lvr (cs := [.slice A ks.length c, .int .u64 next]) ra_row_69_2 (M.at (i := 1) rfl))) ?_; clear F a; intro a F
 refine list_do (wn rfl) (fun K hK => ?_)
 have hcl := Kd.C_below hr M.bel
 refine ow_call rfl rfl F 33 #[.agg #[.slice A ks.length c, .int .u64 next]] (ex_call 33 _ _ rfl rfl ra_ent_33 _ (map1 (F.e rfl))) (refCheck_any ks _ c next _ hcl hc) (fun e v hR => ?_)
 obtain ⟨he, hb⟩ := hR
 refine ⟨.int .i64 (errK ks next), he, ?_⟩; clear he F a; intro a F
 refine hK _ _ ?_
 clear hK K
 replace M := M.below hb; clear hb; try clear u
 clear hcl
 refine list_val F (wn rfl) rfl rfl (.bool true) (ex_bin .neq _ _ _ _ rfl .i64 _ _ (F.e rfl) rfl _ (b_neq (by rw [errK_no hk]; decide))) ?_; clear F a; intro a F
 refine wpList_nil ?_
 replace F : Fr 16 a [(0, .agg #[.slice A ks.length c, .int .u64 next]), (1, .pointer (some ⟨g1, 0, none⟩)), (2, .pointer (some ⟨g2, 0, none⟩)), (3, .bool false), (6, .bool true)] := F.keep ⟨rfl, rfl, rfl, rfl, rfl, trivial⟩
 refine then_n ?_
 refine wp_cond_true (F.e rfl) ?_
 refine wp_seq ?_
 refine wp_region_lit ?_
 refine list_val F (wn rfl) rfl rfl (.agg zKey.arr) (ex_build 107 _ rfl #[] parts0 (.agg zKey.arr) (build107_0 _)) ?_; clear F a; intro a F
 refine list_do (wn rfl) (fun K hK => ?_)
 refine ow_put F M rfl 107 _ _ rfl 0 _ zKey.arr _ rfl (F.e rfl) zKey.arr (F.e rfl) (by rw [Key.arr_size]; exact info107) (by simp only [Key.arr_size]) (Key.arr_one _) ?_
 clear F a; have Mo := M; clear M; intro a u F M hgr
 refine hK _ _ ?_
 clear hK K
 clear Mo hgr; try clear v
 replace M : Mm w u [⟨g2, zKey.arr, 107⟩, ⟨g1, #[.slice A ks.length c, .int .u64 next], 69⟩] := M
 refine list_val F (wn rfl) rfl rfl (.bool false) (ex_assign _ rfl _ rfl) ?_; clear F a; intro a F
 refine wpList_nil ?_
 replace F : Fr 16 a [(0, .agg #[.slice A ks.length c, .int .u64 next]), (1, .pointer (some ⟨g1, 0, none⟩)), (2, .pointer (some ⟨g2, 0, none⟩)), (3, .bool false), (6, .bool true)] := F.keep ⟨rfl, rfl, rfl, rfl, rfl, trivial⟩
 refine then_n ?_
 refine wp_ret ?_
 refine then_r ?_
 exact ret_c2 (v := .agg zKey.arr) F rfl rfl rfl (lvr (cs := zKey.cs) (by rw [Key.cs_len]; exact ra_row_107_34) (M.at (i := 0) rfl)) ⟨(by rw [show curF ks next = zKey from one_no hk, kz]), M.bel⟩
set_option maxHeartbeats 4000000 in
set_option maxRecDepth 100000 in
theorem refFind_any (kid : Int) (ks : List Key) (A : Option Addr) (c : Nat) (next : Int) (w : World) (hr : kKey.C w A ks.length ks) (hc : ks.length ≤ c) :
    Calls Try.prog 37 #[.agg #[.slice A ks.length c, .int .u64 next], .int .u64 kid] w fun e w' => e = .returned (.tuple #[.agg (findF kid ks next).arr, .bool (!decide (findF kid ks next = zKey))]) ∧ Below w.heap.size w w' := by
 refine calls_start Try.func37 rfl rfl rfl (fun a F => ?_)
 have M : Mm w w [] := Mm.nil w
 refine wp_seq ?_
 refine wp_region_lit ?_
 refine list_do (wn rfl) (fun K hK => ?_)
 refine ow_box F M rfl rfl 69 _ rfl _ (F.e rfl) #[.slice A ks.length c, .int .u64 next] rfl ?_
 clear F M a; intro a g2 v F M hb hg
 refine hK _ _ ?_
 clear hK K
 clear hb hg; try clear w
 refine list_do (wn rfl) (fun K hK => ?_)
 refine ow_alloc F M rfl rfl 107 rfl (.agg zKey.arr) zero107 zKey.arr rfl ?_
 clear F M a; intro a g4 u F M hb hg
 refine hK _ _ ?_
 clear hK K
 clear hb hg; try clear v
 refine list_val F (wn rfl) rfl rfl (.bool false) (ex_assign _ rfl _ rfl) ?_; clear F a; intro a F
 refine wpList_nil ?_
 replace F : Fr 31 a [(0, .agg #[.slice A ks.length c, .int .u64 next]), (1, .int .u64 kid), (2, .pointer (some ⟨g2, 0, none⟩)), (4, .pointer (some ⟨g4, 0, none⟩)), (5, .bool false)] := F.keep ⟨rfl, rfl, rfl, rfl, rfl, trivial⟩
 refine then_n ?_
 refine wp_seq ?_
 refine wp_seq ?_
 by_cases hk : checkK ks next = true
 ·
  obtain ⟨h1, h8, hmx⟩ := check_len hk
  obtain ⟨adr, rfl, _⟩ := at_Key hr 0 (by omega) (by omega)
  refine wp_region_lit ?_
  refine list_val F (wn rfl) rfl rfl (.agg #[.slice (some adr) ks.length c, .int .u64 next]) (ex_load _ _ rfl _ (F.e rfl) _ (lvr (cs := [.slice (some adr) ks.length c, .int .u64 next]) ra_row_69_2 (M.at (i := 1) rfl))) ?_; clear F a; intro a F
  refine list_do (wn rfl) (fun K hK => ?_)
  have hcl := Kd.C_below hr M.bel
  refine ow_call rfl rfl F 33 #[.agg #[.slice (some adr) ks.length c, .int .u64 next]] (ex_call 33 _ _ rfl rfl ra_ent_33 _ (map1 (F.e rfl))) (refCheck_any ks _ c next _ hcl hc) (fun e v hR => ?_)
  obtain ⟨he, hb⟩ := hR
  refine ⟨.int .i64 (errK ks next), he, ?_⟩; clear he F a; intro a F
  refine hK _ _ ?_
  clear hK K
  replace M := M.below hb; clear hb; try clear u
  clear hcl
  refine list_val F (wn rfl) rfl rfl (.bool true) (ex_bin .eql _ _ _ _ rfl .i64 _ _ (F.e rfl) rfl _ (b_eql (by rw [errK_yes hk]; decide))) ?_; clear F a; intro a F
  refine wpList_nil ?_
  replace F : Fr 31 a [(0, .agg #[.slice (some adr) ks.length c, .int .u64 next]), (1, .int .u64 kid), (2, .pointer (some ⟨g2, 0, none⟩)), (4, .pointer (some ⟨g4, 0, none⟩)), (5, .bool false), (9, .bool true)] := F.keep ⟨rfl, rfl, rfl, rfl, rfl, rfl, trivial⟩
  refine then_n ?_
  refine wp_cond_true (F.e rfl) ?_
  refine wp_seq ?_
  refine wp_region_lit ?_
  refine list_val F (wn rfl) rfl rfl (.int .i64 0) (ex_assign _ rfl _ rfl) ?_; clear F a; intro a F
  refine wpList_nil ?_
  replace F : Fr 31 a [(0, .agg #[.slice (some adr) ks.length c, .int .u64 next]), (1, .int .u64 kid), (2, .pointer (some ⟨g2, 0, none⟩)), (4, .pointer (some ⟨g4, 0, none⟩)), (5, .bool false), (6, .int .i64 0), (9, .bool true)] := F.keep ⟨rfl, rfl, rfl, rfl, rfl, rfl, rfl, trivial⟩
  refine then_n ?_
  refine wp_block ?_
  refine wp_loopN (fun mq ar wr => ∃ (i : Nat), Fr 31 ar [(0, .agg #[.slice (some adr) ks.length c, .int .u64 next]), (1, .int .u64 kid), (2, .pointer (some ⟨g2, 0, none⟩)), (4, .pointer (some ⟨g4, 0, none⟩)), (5, .bool false), (6, .int .i64 i), (9, .bool true)] ∧ Mm w wr [⟨g4, zKey.arr, 107⟩, ⟨g2, #[.slice (some adr) ks.length c, .int .u64 next], 69⟩] ∧ i ≤ ks.length ∧ (∀ j : Nat, j < i → (rdK ks (j : Int)).kid ≠ kid) ∧ mq + i = ks.length) ks.length ?_ ?_
  ·
   exact ⟨0, F.keep ⟨rfl, rfl, rfl, rfl, rfl, rfl, rfl, trivial⟩, (by refine M.pick' [0, 1] _ ?_ (by decide); exact ⟨rfl, rfl, trivial⟩), (Nat.zero_le _), (fun j hj => absurd hj (Nat.not_lt_zero j)), (by omega)⟩
  clear F M a
  rintro mq a u ⟨i, F, M, hi, hg, hq⟩; try clear v
  by_cases hin : i < ks.length
  ·
   obtain ⟨_, had, zi, _, _⟩ := at_Key hr (i : Int) (by omega) (by omega)
   obtain rfl := Option.some.inj had
   clear had
   rw [show (i : Int).toNat = i from rfl] at zi
   by_cases c1 : (rdK ks (i : Int)).kid = kid
   ·
    refine wp_seq ?_
    refine wp_seq ?_
    refine wp_region_lit ?_
    refine list_val F (wn rfl) rfl rfl (.int .i64 i) (ex_move _ rfl _ (F.e rfl)) ?_; clear F a; intro a F
    refine list_val F (wn rfl) rfl rfl (.pointer (some ⟨g2, 0, none⟩)) (ex_fa _ _ _ rfl _ (F.e rfl) 0 ra_fa_69_0_0 ⟨g2, 0, none⟩ rfl) ?_; clear F a; intro a F
    refine list_val F (wn rfl) rfl rfl (.slice (some adr) ks.length c) (ex_load _ _ rfl _ (F.e rfl) _ (lv1 ra_one_55 (M.cell (i := 1) rfl (j := 0) rfl))) ?_; clear F a; intro a F
    refine list_val F (wn rfl) rfl rfl (.int .i64 ((ks.length : Nat) : Int)) (ex_len _ _ rfl 34 ra_sl_55_34 _ _ _ (F.e rfl)) ?_; clear F a; intro a F
    refine list_val F (wn rfl) rfl rfl (.bool true) (ex_bin .lss _ _ _ _ rfl .i64 _ _ (F.e rfl) (F.e rfl) _ (b_lss (decide_eq_true (by omega)))) ?_; clear F a; intro a F
    refine wpList_nil ?_
    replace F : Fr 31 a [(0, .agg #[.slice (some adr) ks.length c, .int .u64 next]), (1, .int .u64 kid), (2, .pointer (some ⟨g2, 0, none⟩)), (4, .pointer (some ⟨g4, 0, none⟩)), (5, .bool false), (6, .int .i64 i), (9, .bool true), (14, .bool true)] := F.keep ⟨rfl, rfl, rfl, rfl, rfl, rfl, rfl, rfl, trivial⟩
    refine then_n ?_
    refine wp_cond_true (F.e rfl) ?_
    refine wp_skip ?_
    refine then_n ?_
    refine wp_seq ?_
    refine wp_block ?_
    refine wp_seq ?_
    refine wp_region_lit ?_
    refine list_val F (wn rfl) rfl rfl (.pointer (some ⟨g2, 0, none⟩)) (ex_fa _ _ _ rfl _ (F.e rfl) 0 ra_fa_69_0_0 ⟨g2, 0, none⟩ rfl) ?_; clear F a; intro a F
    refine list_val F (wn rfl) rfl rfl (.slice (some adr) ks.length c) (ex_load _ _ rfl _ (F.e rfl) _ (lv1 ra_one_55 (M.cell (i := 1) rfl (j := 0) rfl))) ?_; clear F a; intro a F
    refine list_val F (wn rfl) rfl rfl (.int .i64 i) (ex_move _ rfl _ (F.e rfl)) ?_; clear F a; intro a F
    refine list_val F (wn rfl) rfl rfl (.pointer (some (adr.add (i * 34)))) (ex_ix _ _ _ rfl 34 ra_sl_55_34 adr _ _ (F.e rfl) .i64 _ (F.e rfl) i rfl (by omega) (adr.add (i * 34)) rfl) ?_; clear F a; intro a F
    refine list_val F (wn rfl) rfl rfl (.pointer (some (adr.add (i * 34)))) (ex_fa _ _ _ rfl _ (F.e rfl) 0 ra_fa_107_0_0 (adr.add (i * 34)) rfl) ?_; clear F a; intro a F
    refine list_val F (wn rfl) rfl rfl (.int .u64 ((rdK ks (i : Int)).kid)) (ex_load _ _ rfl _ (F.e rfl) _ (lv1 ra_one_67 ((zi.below M.bel).cell 0 _ (Key.cs_0 _)))) ?_; clear F a; intro a F
    refine list_val F (wn rfl) rfl rfl (.int .u64 kid) (ex_move _ rfl _ (F.e rfl)) ?_; clear F a; intro a F
    refine list_val F (wn rfl) rfl rfl (.bool true) (ex_bin .eql _ _ _ _ rfl .u64 _ _ (F.e rfl) (F.e rfl) _ (b_eql (by simp [c1]))) ?_; clear F a; intro a F
    refine wpList_nil ?_
    replace F : Fr 31 a [(0, .agg #[.slice (some adr) ks.length c, .int .u64 next]), (1, .int .u64 kid), (2, .pointer (some ⟨g2, 0, none⟩)), (4, .pointer (some ⟨g4, 0, none⟩)), (5, .bool false), (6, .int .i64 i), (9, .bool true), (14, .bool true), (24, .bool true)] := F.keep ⟨rfl, rfl, rfl, rfl, rfl, rfl, rfl, rfl, rfl, trivial⟩
    refine then_n ?_
    refine wp_cond_true (F.e rfl) ?_
    refine wp_seq ?_
    refine wp_region_lit ?_
    refine list_val F (wn rfl) rfl rfl (.pointer (some ⟨g2, 0, none⟩)) (ex_fa _ _ _ rfl _ (F.e rfl) 0 ra_fa_69_0_0 ⟨g2, 0, none⟩ rfl) ?_; clear F a; intro a F
    refine list_val F (wn rfl) rfl rfl (.slice (some adr) ks.length c) (ex_load _ _ rfl _ (F.e rfl) _ (lv1 ra_one_55 (M.cell (i := 1) rfl (j := 0) rfl))) ?_; clear F a; intro a F
    refine list_val F (wn rfl) rfl rfl (.int .i64 i) (ex_move _ rfl _ (F.e rfl)) ?_; clear F a; intro a F
    refine list_val F (wn rfl) rfl rfl (.pointer (some (adr.add (i * 34)))) (ex_ix _ _ _ rfl 34 ra_sl_55_34 adr _ _ (F.e rfl) .i64 _ (F.e rfl) i rfl (by omega) (adr.add (i * 34)) rfl) ?_; clear F a; intro a F
    refine list_val F (wn rfl) rfl rfl (.agg ((rdK ks (i : Int)).arr)) (ex_load _ _ rfl _ (F.e rfl) _ (lvr (cs := (rdK ks (i : Int)).cs) (by rw [Key.cs_len]; exact ra_row_107_34) ((zi.below M.bel)))) ?_; clear F a; intro a F
    refine list_do (wn rfl) (fun K hK => ?_)
    refine ow_put F M rfl 107 _ _ rfl 0 _ zKey.arr _ rfl (F.e rfl) ((rdK ks (i : Int)).arr) (F.e rfl) (by rw [Key.arr_size]; exact info107) (by simp only [Key.arr_size]) (Key.arr_one _) ?_
    clear F a; have Mo := M; clear M; intro a v F M hgr
    refine hK _ _ ?_
    clear hK K
    clear Mo hgr; try clear u
    replace M : Mm w v [⟨g4, (rdK ks (i : Int)).arr, 107⟩, ⟨g2, #[.slice (some adr) ks.length c, .int .u64 next], 69⟩] := M
    refine list_val F (wn rfl) rfl rfl (.bool true) (ex_assign _ rfl _ rfl) ?_; clear F a; intro a F
    refine wpList_nil ?_
    replace F : Fr 31 a [(0, .agg #[.slice (some adr) ks.length c, .int .u64 next]), (1, .int .u64 kid), (2, .pointer (some ⟨g2, 0, none⟩)), (4, .pointer (some ⟨g4, 0, none⟩)), (5, .bool true), (6, .int .i64 i), (9, .bool true), (14, .bool true), (24, .bool true)] := F.keep ⟨rfl, rfl, rfl, rfl, rfl, rfl, rfl, rfl, rfl, trivial⟩
    refine then_n ?_
    refine wp_ret ?_
    refine in_r ?_
    refine then_r ?_
    refine then_r ?_
    refine in_r ?_
    refine then_r ?_
    exact ret_c2 (v := .agg ((rdK ks (i : Int)).arr)) F rfl rfl rfl (lvr (cs := (rdK ks (i : Int)).cs) (by rw [Key.cs_len]; exact ra_row_107_34) (M.at (i := 0) rfl)) ⟨(by rw [(find_at hk hin c1).1, (find_at hk hin c1).2, Bool.not_false]), M.bel⟩
   refine wp_seq ?_
   refine wp_seq ?_
   refine wp_region_lit ?_
   refine list_val F (wn rfl) rfl rfl (.int .i64 i) (ex_move _ rfl _ (F.e rfl)) ?_; clear F a; intro a F
   refine list_val F (wn rfl) rfl rfl (.pointer (some ⟨g2, 0, none⟩)) (ex_fa _ _ _ rfl _ (F.e rfl) 0 ra_fa_69_0_0 ⟨g2, 0, none⟩ rfl) ?_; clear F a; intro a F
   refine list_val F (wn rfl) rfl rfl (.slice (some adr) ks.length c) (ex_load _ _ rfl _ (F.e rfl) _ (lv1 ra_one_55 (M.cell (i := 1) rfl (j := 0) rfl))) ?_; clear F a; intro a F
   refine list_val F (wn rfl) rfl rfl (.int .i64 ((ks.length : Nat) : Int)) (ex_len _ _ rfl 34 ra_sl_55_34 _ _ _ (F.e rfl)) ?_; clear F a; intro a F
   refine list_val F (wn rfl) rfl rfl (.bool true) (ex_bin .lss _ _ _ _ rfl .i64 _ _ (F.e rfl) (F.e rfl) _ (b_lss (decide_eq_true (by omega)))) ?_; clear F a; intro a F
   refine wpList_nil ?_
   replace F : Fr 31 a [(0, .agg #[.slice (some adr) ks.length c, .int .u64 next]), (1, .int .u64 kid), (2, .pointer (some ⟨g2, 0, none⟩)), (4, .pointer (some ⟨g4, 0, none⟩)), (5, .bool false), (6, .int .i64 i), (9, .bool true), (14, .bool true)] := F.keep ⟨rfl, rfl, rfl, rfl, rfl, rfl, rfl, rfl, trivial⟩
   refine then_n ?_
   refine wp_cond_true (F.e rfl) ?_
   refine wp_skip ?_
   refine then_n ?_
   refine wp_seq ?_
   refine wp_block ?_
   refine wp_seq ?_
   refine wp_region_lit ?_
   refine list_val F (wn rfl) rfl rfl (.pointer (some ⟨g2, 0, none⟩)) (ex_fa _ _ _ rfl _ (F.e rfl) 0 ra_fa_69_0_0 ⟨g2, 0, none⟩ rfl) ?_; clear F a; intro a F
   refine list_val F (wn rfl) rfl rfl (.slice (some adr) ks.length c) (ex_load _ _ rfl _ (F.e rfl) _ (lv1 ra_one_55 (M.cell (i := 1) rfl (j := 0) rfl))) ?_; clear F a; intro a F
   refine list_val F (wn rfl) rfl rfl (.int .i64 i) (ex_move _ rfl _ (F.e rfl)) ?_; clear F a; intro a F
   refine list_val F (wn rfl) rfl rfl (.pointer (some (adr.add (i * 34)))) (ex_ix _ _ _ rfl 34 ra_sl_55_34 adr _ _ (F.e rfl) .i64 _ (F.e rfl) i rfl (by omega) (adr.add (i * 34)) rfl) ?_; clear F a; intro a F
   refine list_val F (wn rfl) rfl rfl (.pointer (some (adr.add (i * 34)))) (ex_fa _ _ _ rfl _ (F.e rfl) 0 ra_fa_107_0_0 (adr.add (i * 34)) rfl) ?_; clear F a; intro a F
   refine list_val F (wn rfl) rfl rfl (.int .u64 ((rdK ks (i : Int)).kid)) (ex_load _ _ rfl _ (F.e rfl) _ (lv1 ra_one_67 ((zi.below M.bel).cell 0 _ (Key.cs_0 _)))) ?_; clear F a; intro a F
   refine list_val F (wn rfl) rfl rfl (.int .u64 kid) (ex_move _ rfl _ (F.e rfl)) ?_; clear F a; intro a F
   refine list_val F (wn rfl) rfl rfl (.bool false) (ex_bin .eql _ _ _ _ rfl .u64 _ _ (F.e rfl) (F.e rfl) _ (b_eql (by simp [c1]))) ?_; clear F a; intro a F
   refine wpList_nil ?_
   replace F : Fr 31 a [(0, .agg #[.slice (some adr) ks.length c, .int .u64 next]), (1, .int .u64 kid), (2, .pointer (some ⟨g2, 0, none⟩)), (4, .pointer (some ⟨g4, 0, none⟩)), (5, .bool false), (6, .int .i64 i), (9, .bool true), (14, .bool true), (24, .bool false)] := F.keep ⟨rfl, rfl, rfl, rfl, rfl, rfl, rfl, rfl, rfl, trivial⟩
   refine then_n ?_
   refine wp_cond_false (F.e rfl) ?_
   refine wp_skip ?_
   refine in_n ?_
   refine then_n ?_
   refine wp_region_lit ?_
   refine list_val F (wn rfl) rfl rfl (.int .i64 i) (ex_move _ rfl _ (F.e rfl)) ?_; clear F a; intro a F
   refine list_val F (wn rfl) rfl rfl (.int .i64 (i + 1)) (ex_bin .add _ _ _ _ rfl .i64 _ _ (F.e rfl) rfl _ (b_add (w_i64 (by omega) (by omega)))) ?_; clear F a; intro a F
   refine list_val F (wn rfl) rfl rfl (.int .i64 (i + 1)) (ex_assign _ rfl _ (F.e rfl)) ?_; clear F a; intro a F
   refine wpList_nil ?_
   replace F : Fr 31 a [(0, .agg #[.slice (some adr) ks.length c, .int .u64 next]), (1, .int .u64 kid), (2, .pointer (some ⟨g2, 0, none⟩)), (4, .pointer (some ⟨g4, 0, none⟩)), (5, .bool false), (6, .int .i64 (i + 1)), (9, .bool true), (14, .bool true), (24, .bool false)] := F.keep ⟨rfl, rfl, rfl, rfl, rfl, rfl, rfl, rfl, rfl, trivial⟩
   refine then_n ?_
   exact ⟨ks.length - (i + 1), by omega, (i + 1), F.keep ⟨rfl, rfl, rfl, rfl, rfl, rfl, rfl, trivial⟩, (by refine M.pick' [0, 1] _ ?_ (by decide); exact ⟨rfl, rfl, trivial⟩), (by omega), (fun j hj => by rcases Nat.lt_or_eq_of_le (Nat.le_of_lt_succ hj) with h | rfl; exact hg j h; exact c1), (by omega)⟩
  refine wp_seq ?_
  refine wp_seq ?_
  refine wp_region_lit ?_
  refine list_val F (wn rfl) rfl rfl (.int .i64 i) (ex_move _ rfl _ (F.e rfl)) ?_; clear F a; intro a F
  refine list_val F (wn rfl) rfl rfl (.pointer (some ⟨g2, 0, none⟩)) (ex_fa _ _ _ rfl _ (F.e rfl) 0 ra_fa_69_0_0 ⟨g2, 0, none⟩ rfl) ?_; clear F a; intro a F
  refine list_val F (wn rfl) rfl rfl (.slice (some adr) ks.length c) (ex_load _ _ rfl _ (F.e rfl) _ (lv1 ra_one_55 (M.cell (i := 1) rfl (j := 0) rfl))) ?_; clear F a; intro a F
  refine list_val F (wn rfl) rfl rfl (.int .i64 ((ks.length : Nat) : Int)) (ex_len _ _ rfl 34 ra_sl_55_34 _ _ _ (F.e rfl)) ?_; clear F a; intro a F
  refine list_val F (wn rfl) rfl rfl (.bool false) (ex_bin .lss _ _ _ _ rfl .i64 _ _ (F.e rfl) (F.e rfl) _ (b_lss (decide_eq_false (by omega)))) ?_; clear F a; intro a F
  refine wpList_nil ?_
  replace F : Fr 31 a [(0, .agg #[.slice (some adr) ks.length c, .int .u64 next]), (1, .int .u64 kid), (2, .pointer (some ⟨g2, 0, none⟩)), (4, .pointer (some ⟨g4, 0, none⟩)), (5, .bool false), (6, .int .i64 i), (9, .bool true), (14, .bool false)] := F.keep ⟨rfl, rfl, rfl, rfl, rfl, rfl, rfl, rfl, trivial⟩
  refine then_n ?_
  refine wp_cond_false (F.e rfl) ?_
  refine wp_exit ?_
  refine then_x ?_
  refine then_x ?_
  refine in_hit ?_
  refine then_n ?_
  refine wp_seq ?_
  refine wp_region_lit ?_
  refine list_val F (wn rfl) rfl rfl (.agg zKey.arr) (ex_build 107 _ rfl #[] parts0 (.agg zKey.arr) (build107_0 _)) ?_; clear F a; intro a F
  refine list_do (wn rfl) (fun K hK => ?_)
  refine ow_put F M rfl 107 _ _ rfl 0 _ zKey.arr _ rfl (F.e rfl) zKey.arr (F.e rfl) (by rw [Key.arr_size]; exact info107) (by simp only [Key.arr_size]) (Key.arr_one _) ?_
  clear F a; have Mo := M; clear M; intro a v F M hgr
  refine hK _ _ ?_
  clear hK K
  clear Mo hgr; try clear u
  replace M : Mm w v [⟨g4, zKey.arr, 107⟩, ⟨g2, #[.slice (some adr) ks.length c, .int .u64 next], 69⟩] := M
  refine list_val F (wn rfl) rfl rfl (.bool false) (ex_assign _ rfl _ rfl) ?_; clear F a; intro a F
  refine wpList_nil ?_
  replace F : Fr 31 a [(0, .agg #[.slice (some adr) ks.length c, .int .u64 next]), (1, .int .u64 kid), (2, .pointer (some ⟨g2, 0, none⟩)), (4, .pointer (some ⟨g4, 0, none⟩)), (5, .bool false), (6, .int .i64 i), (9, .bool true), (14, .bool false)] := F.keep ⟨rfl, rfl, rfl, rfl, rfl, rfl, rfl, rfl, trivial⟩
  refine then_n ?_
  refine wp_ret ?_
  exact ret_c2 (v := .agg zKey.arr) F rfl rfl rfl (lvr (cs := zKey.cs) (by rw [Key.cs_len]; exact ra_row_107_34) (M.at (i := 0) rfl)) ⟨(by rw [find_not (fun j hj => hg j (by omega)), kz]), M.bel⟩
 rw [Bool.not_eq_true] at hk
 refine wp_region_lit ?_
 refine list_val F (wn rfl) rfl rfl (.agg #[.slice A ks.length c, .int .u64 next]) (ex_load _ _ rfl _ (F.e rfl) _ (lvr (cs := [.slice A ks.length c, .int .u64 next]) ra_row_69_2 (M.at (i := 1) rfl))) ?_; clear F a; intro a F
 refine list_do (wn rfl) (fun K hK => ?_)
 have hcl := Kd.C_below hr M.bel
 refine ow_call rfl rfl F 33 #[.agg #[.slice A ks.length c, .int .u64 next]] (ex_call 33 _ _ rfl rfl ra_ent_33 _ (map1 (F.e rfl))) (refCheck_any ks _ c next _ hcl hc) (fun e v hR => ?_)
 obtain ⟨he, hb⟩ := hR
 refine ⟨.int .i64 (errK ks next), he, ?_⟩; clear he F a; intro a F
 refine hK _ _ ?_
 clear hK K
 replace M := M.below hb; clear hb; try clear u
 clear hcl
 refine list_val F (wn rfl) rfl rfl (.bool false) (ex_bin .eql _ _ _ _ rfl .i64 _ _ (F.e rfl) rfl _ (b_eql (by rw [errK_no hk]; decide))) ?_; clear F a; intro a F
 refine wpList_nil ?_
 replace F : Fr 31 a [(0, .agg #[.slice A ks.length c, .int .u64 next]), (1, .int .u64 kid), (2, .pointer (some ⟨g2, 0, none⟩)), (4, .pointer (some ⟨g4, 0, none⟩)), (5, .bool false), (9, .bool false)] := F.keep ⟨rfl, rfl, rfl, rfl, rfl, rfl, trivial⟩
 refine then_n ?_
 refine wp_cond_false (F.e rfl) ?_
 refine wp_skip ?_
 refine then_n ?_
 refine wp_seq ?_
 refine wp_region_lit ?_
 refine list_val F (wn rfl) rfl rfl (.agg zKey.arr) (ex_build 107 _ rfl #[] parts0 (.agg zKey.arr) (build107_0 _)) ?_; clear F a; intro a F
 refine list_do (wn rfl) (fun K hK => ?_)
 refine ow_put F M rfl 107 _ _ rfl 0 _ zKey.arr _ rfl (F.e rfl) zKey.arr (F.e rfl) (by rw [Key.arr_size]; exact info107) (by simp only [Key.arr_size]) (Key.arr_one _) ?_
 clear F a; have Mo := M; clear M; intro a u F M hgr
 refine hK _ _ ?_
 clear hK K
 clear Mo hgr; try clear v
 replace M : Mm w u [⟨g4, zKey.arr, 107⟩, ⟨g2, #[.slice A ks.length c, .int .u64 next], 69⟩] := M
 refine list_val F (wn rfl) rfl rfl (.bool false) (ex_assign _ rfl _ rfl) ?_; clear F a; intro a F
 refine wpList_nil ?_
 replace F : Fr 31 a [(0, .agg #[.slice A ks.length c, .int .u64 next]), (1, .int .u64 kid), (2, .pointer (some ⟨g2, 0, none⟩)), (4, .pointer (some ⟨g4, 0, none⟩)), (5, .bool false), (9, .bool false)] := F.keep ⟨rfl, rfl, rfl, rfl, rfl, rfl, trivial⟩
 refine then_n ?_
 refine wp_ret ?_
 exact ret_c2 (v := .agg zKey.arr) F rfl rfl rfl (lvr (cs := zKey.cs) (by rw [Key.cs_len]; exact ra_row_107_34) (M.at (i := 0) rfl)) ⟨(by rw [show findF kid ks next = zKey from one_no hk, kz]), M.bel⟩
end Go.Proofs.Ytnechcibpmjblaa
