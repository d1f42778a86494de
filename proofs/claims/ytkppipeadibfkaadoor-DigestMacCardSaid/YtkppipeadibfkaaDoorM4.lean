/- posternlaw4.DigestMac. Conditions: the table is laid; the argument is read. -/
import Derived.Test.YtkppipeadibfkaaDoorLW
namespace Go.Proofs.YtkppipeadibfkaaDoor
open Go.RowKit Go.Proofs.YtkppipeadibfkaaDoorW.PrintWords KB WG
set_option linter.unusedVariables false
set_option linter.unusedSimpArgs false
set_option linter.unnecessarySimpa false
theorem do_fa_32_1_1 : fa? Tryd.prog 32 1 1 = true := by kernel_rfl
theorem do_one_22 : one? Tryd.prog 22 = true := by kernel_rfl
theorem do_sl_22_1 : sl? Tryd.prog 22 1 = true := by kernel_rfl
theorem do_fa_32_0_0 : fa? Tryd.prog 32 0 0 = true := by kernel_rfl
theorem do_follows_mixedOrders : Tryd.prog.follows .mixedOrders = true := by kernel_rfl
theorem do_one_23 : one? Tryd.prog 23 = true := by kernel_rfl
theorem do_sl_23_1 : sl? Tryd.prog 23 1 = true := by kernel_rfl
theorem do_ent_19 : ent? Tryd.prog 19 = true := by kernel_rfl
theorem do_ent_20 : ent? Tryd.prog 20 = true := by kernel_rfl
theorem do_ent_14 : ent? Tryd.prog 14 = true := by kernel_rfl
theorem do_row_24_32 : row? Tryd.prog 24 32 = true := by kernel_rfl
theorem do_ent_21 : ent? Tryd.prog 21 = true := by kernel_rfl
theorem do_ab_24_32 : ab? Tryd.prog 24 32 = true := by kernel_rfl
theorem do_ent_16 : ent? Tryd.prog 16 = true := by kernel_rfl
theorem do_ent_17 : ent? Tryd.prog 17 = true := by kernel_rfl
theorem do_ent_18 : ent? Tryd.prog 18 = true := by kernel_rfl
set_option maxHeartbeats 4000000 in
set_option maxRecDepth 100000 in
theorem dmac_any (la lb : List (List By)) (La Lb : Option Addr) (n cla m clb : Nat) (hn : n ≤ 5864062014805) (hm : m ≤ 5864062014805) (w : World) (hKt : At w ⟨0, 0, none⟩ (wcs kTab)) (ha : RowsB w La n la) (hwa : wLs la) (hb_ : RowsB w Lb m lb) (hwb : wLs lb) :
    Calls Tryd.prog 4 #[.agg #[.slice La n cla, .slice Lb m clb]] w fun e w' => e = .returned (.bool true) ∧ Below w.heap.size w w' := by
 have R_ : Rs w w [] := Rs.nil w w
 refine calls_start Tryd.func4 rfl rfl rfl (fun a F => ?_)
 have M : Mm w w [] := Mm.nil w
 refine wp_seq ?_
 refine wp_region_lit ?_
 refine list_do (wn rfl) (fun K hK => ?_)
 refine ow_box F M rfl rfl 32 _ rfl _ (F.e rfl) #[.slice La n cla, .slice Lb m clb] rfl ?_
 clear F M a; intro a g1 v F M hb hg
 refine hK _ _ ?_
 clear hK K
 replace R_ := R_.below hb
 clear hb hg; try clear w
 refine list_val F (wn rfl) rfl rfl (.bool false) (ex_assign _ rfl _ rfl) ?_; clear F a; intro a F
 refine wpList_nil ?_
 replace F : Fr 104 a [(0, .agg #[.slice La n cla, .slice Lb m clb]), (1, .pointer (some ⟨g1, 0, none⟩)), (2, .bool false)] := F.keep ⟨rfl, rfl, rfl, trivial⟩
 refine then_n ?_
 refine wp_seq ?_
 refine wp_region_lit ?_
 refine list_val F (wn rfl) rfl rfl (.int .i64 0) (ex_assign _ rfl _ rfl) ?_; clear F a; intro a F
 refine wpList_nil ?_
 replace F : Fr 104 a [(0, .agg #[.slice La n cla, .slice Lb m clb]), (1, .pointer (some ⟨g1, 0, none⟩)), (2, .bool false), (3, .int .i64 0)] := F.keep ⟨rfl, rfl, rfl, rfl, trivial⟩
 refine then_n ?_
 refine wp_seq ?_
 refine wp_seq ?_
 refine wp_region_lit ?_
 refine list_val F (wn rfl) rfl rfl (.int .i64 0) (ex_assign _ rfl _ rfl) ?_; clear F a; intro a F
 refine wpList_nil ?_
 replace F : Fr 104 a [(0, .agg #[.slice La n cla, .slice Lb m clb]), (1, .pointer (some ⟨g1, 0, none⟩)), (2, .bool false), (3, .int .i64 0), (4, .int .i64 0)] := F.keep ⟨rfl, rfl, rfl, rfl, rfl, trivial⟩
 refine then_n ?_
 refine wp_block ?_
 refine wp_loopN (fun mq ar wr => ∃ (i : Nat), ∃ (q : Nat), Fr 104 ar [(0, .agg #[.slice La n cla, .slice Lb m clb]), (1, .pointer (some ⟨g1, 0, none⟩)), (2, .bool false), (3, .int .i64 ((q : Nat) : Int)), (4, .int .i64 ((i : Nat) : Int))] ∧ Mm w wr [⟨g1, #[.slice La n cla, .slice Lb m clb], 32⟩] ∧ Rs w wr [] ∧ i ≤ m ∧ q ≤ 262144 ∧ mq + i = m) m ?_ ?_
 ·
  exact ⟨0, 0, F.keep ⟨rfl, rfl, rfl, rfl, rfl, trivial⟩, (by refine M.pick' [0] _ ?_ (by decide); exact ⟨rfl, trivial⟩), R_, (Nat.zero_le _), (Nat.zero_le _), (by omega)⟩
 clear F M a R_
 rintro mq a u ⟨i, q, F, M, R_, hi, hq0, hq⟩; try clear v
 by_cases him : i < m
 ·
  by_cases hn0 : 0 < n
  ·
   have hmod := Nat.mod_lt i hn0
   obtain ⟨ada, Ba, ca, hLsa, hcea, hrba, hmca⟩ := ha.row hmod
   obtain ⟨ba, hba⟩ : ∃ b, b = la.getD (i % n) [] := ⟨_, rfl⟩
   have hbla := wLs_row hwa (i := (i % n))
   rw [← hba] at hcea hrba hmca hbla
   obtain ⟨adb, Bb, cb, hLsb, hceb, hrbb, hmcb⟩ := hb_.row him
   obtain ⟨bb, hbb⟩ : ∃ b, b = lb.getD i [] := ⟨_, rfl⟩
   have hblb := wLs_row hwb (i := i)
   rw [← hbb] at hceb hrbb hmcb hblb
   refine wp_seq ?_
   refine wp_seq ?_
   refine wp_region_lit ?_
   refine list_val F (wn rfl) rfl rfl (.int .i64 ((i : Nat) : Int)) (ex_move _ rfl _ (F.e rfl)) ?_; clear F a; intro a F
   refine list_val F (wn rfl) rfl rfl (.pointer (some ⟨g1, 1, none⟩)) (ex_fa _ _ _ rfl _ (F.e rfl) 1 do_fa_32_1_1 ⟨g1, 1, none⟩ rfl) ?_; clear F a; intro a F
   refine list_val F (wn rfl) rfl rfl (.slice Lb m clb) (ex_load _ _ rfl _ (F.e rfl) _ (lv1 do_one_22 (M.cell (i := 0) rfl (j := 1) rfl))) ?_; clear F a; intro a F
   refine list_val F (wn rfl) rfl rfl (.int .i64 ((m : Nat) : Int)) (ex_len _ _ rfl 1 do_sl_22_1 _ _ _ (F.e rfl)) ?_; clear F a; intro a F
   refine list_val F (wn rfl) rfl rfl (.bool true) (ex_bin .lss _ _ _ _ rfl .i64 _ _ (F.e rfl) (F.e rfl) _ (b_lss (decide_eq_true (by omega)))) ?_; clear F a; intro a F
   refine list_val F (wn rfl) rfl rfl (.bool true) (ex_move _ rfl _ (F.e rfl)) ?_; clear F a; intro a F
   refine list_val F (F.wants 17 true rfl (by kernel_rfl) rfl true rfl) rfl rfl (.pointer (some ⟨g1, 0, none⟩)) (ex_fa _ _ _ rfl _ (F.e rfl) 0 do_fa_32_0_0 ⟨g1, 0, none⟩ rfl) ?_; clear F a; intro a F
   refine list_val F (F.wants 17 true rfl (by kernel_rfl) rfl true rfl) rfl rfl (.slice La n cla) (ex_load _ _ rfl _ (F.e rfl) _ (lv1 do_one_22 (M.cell (i := 0) rfl (j := 0) rfl))) ?_; clear F a; intro a F
   refine list_val F (F.wants 17 true rfl (by kernel_rfl) rfl true rfl) rfl rfl (.int .i64 ((n : Nat) : Int)) (ex_len _ _ rfl 1 do_sl_22_1 _ _ _ (F.e rfl)) ?_; clear F a; intro a F
   refine list_val F (F.wants 17 true rfl (by kernel_rfl) rfl true rfl) rfl rfl (.bool true) (ex_bin .gtr _ _ _ _ rfl .i64 _ _ (F.e rfl) rfl _ (b_gtr (decide_eq_true (by omega)))) ?_; clear F a; intro a F
   refine list_val F (wn rfl) rfl rfl (.bool true) (ex_pick_t _ _ _ rfl (F.e rfl) _ (F.e rfl)) ?_; clear F a; intro a F
   refine wpList_nil ?_
   replace F : Fr 104 a [(0, .agg #[.slice La n cla, .slice Lb m clb]), (1, .pointer (some ⟨g1, 0, none⟩)), (2, .bool false), (3, .int .i64 ((q : Nat) : Int)), (4, .int .i64 ((i : Nat) : Int)), (22, .bool true)] := F.keep ⟨rfl, rfl, rfl, rfl, rfl, rfl, trivial⟩
   refine then_n ?_
   refine wp_cond_true (F.e rfl) ?_
   refine wp_skip ?_
   refine then_n ?_
   refine wp_seq ?_
   refine wp_block ?_
   refine wp_seq ?_
   refine region_tail 9 do_follows_mixedOrders (by kernel_rfl) M ?_; clear M; intro v M hb
   replace R_ := R_.below hb
   clear hb; try clear u
   refine still_val F (wn rfl) rfl rfl (.pointer (some ⟨g1, 0, none⟩)) (ex_fa _ _ _ rfl _ (F.e rfl) 0 do_fa_32_0_0 ⟨g1, 0, none⟩ rfl) ?_; clear F a; intro a F
   refine still_val F (wn rfl) rfl rfl (.slice La n cla) (ex_load _ _ rfl _ (F.e rfl) _ (lv1 do_one_22 (M.cell (i := 0) rfl (j := 0) rfl))) ?_; clear F a; intro a F
   refine still_val F (wn rfl) rfl rfl (.int .i64 ((i : Nat) : Int)) (ex_move _ rfl _ (F.e rfl)) ?_; clear F a; intro a F
   refine still_val F (wn rfl) rfl rfl (.pointer (some ⟨g1, 0, none⟩)) (ex_fa _ _ _ rfl _ (F.e rfl) 0 do_fa_32_0_0 ⟨g1, 0, none⟩ rfl) ?_; clear F a; intro a F
   refine still_val F (wn rfl) rfl rfl (.slice La n cla) (ex_load _ _ rfl _ (F.e rfl) _ (lv1 do_one_22 (M.cell (i := 0) rfl (j := 0) rfl))) ?_; clear F a; intro a F
   refine still_val F (wn rfl) rfl rfl (.int .i64 ((n : Nat) : Int)) (ex_len _ _ rfl 1 do_sl_22_1 _ _ _ (F.e rfl)) ?_; clear F a; intro a F
   refine still_val F (wn rfl) rfl rfl (.int .i64 ((i % n : Nat) : Int)) (ex_bin .rem _ _ _ _ rfl .i64 _ _ (F.e rfl) (F.e rfl) _ (b_rem (by omega) (tmod_nat i n))) ?_; clear F a; intro a F
   refine still_val F (wn rfl) rfl rfl (.pointer (some (ada.add (i % n)))) (ex_ixE _ _ rfl do_sl_22_1 ada La hLsa n cla (F.e rfl) .i64 _ (F.e rfl) (i % n) rfl (by omega)) ?_; clear F a; intro a F
   refine still_val F (wn rfl) rfl rfl (.slice Ba ba.length ca) (ex_load _ _ rfl _ (F.e rfl) _ (lv1 do_one_23 (pw_cell_below M.bel hcea))) ?_; clear F a; intro a F
   refine still_end ?_
   refine list_val F (wn rfl) rfl rfl (.slice Ba ba.length ca) (ex_assign _ rfl _ (F.e rfl)) ?_; clear F a; intro a F
   refine wpList_nil ?_
   replace F : Fr 104 a [(0, .agg #[.slice La n cla, .slice Lb m clb]), (1, .pointer (some ⟨g1, 0, none⟩)), (2, .bool false), (3, .int .i64 ((q : Nat) : Int)), (4, .int .i64 ((i : Nat) : Int)), (5, .slice Ba ba.length ca), (22, .bool true)] := F.keep ⟨rfl, rfl, rfl, rfl, rfl, rfl, rfl, trivial⟩
   refine then_n ?_
   refine wp_seq ?_
   refine wp_region_lit ?_
   refine list_val F (wn rfl) rfl rfl (.pointer (some ⟨g1, 1, none⟩)) (ex_fa _ _ _ rfl _ (F.e rfl) 1 do_fa_32_1_1 ⟨g1, 1, none⟩ rfl) ?_; clear F a; intro a F
   refine list_val F (wn rfl) rfl rfl (.slice Lb m clb) (ex_load _ _ rfl _ (F.e rfl) _ (lv1 do_one_22 (M.cell (i := 0) rfl (j := 1) rfl))) ?_; clear F a; intro a F
   refine list_val F (wn rfl) rfl rfl (.int .i64 ((i : Nat) : Int)) (ex_move _ rfl _ (F.e rfl)) ?_; clear F a; intro a F
   refine list_val F (wn rfl) rfl rfl (.pointer (some (adb.add i))) (ex_ixE _ _ rfl do_sl_22_1 adb Lb hLsb m clb (F.e rfl) .i64 _ (F.e rfl) i rfl (by omega)) ?_; clear F a; intro a F
   refine list_val F (wn rfl) rfl rfl (.slice Bb bb.length cb) (ex_load _ _ rfl _ (F.e rfl) _ (lv1 do_one_23 (pw_cell_below M.bel hceb))) ?_; clear F a; intro a F
   refine list_val F (wn rfl) rfl rfl (.slice Bb bb.length cb) (ex_assign _ rfl _ (F.e rfl)) ?_; clear F a; intro a F
   refine wpList_nil ?_
   replace F : Fr 104 a [(0, .agg #[.slice La n cla, .slice Lb m clb]), (1, .pointer (some ⟨g1, 0, none⟩)), (2, .bool false), (3, .int .i64 ((q : Nat) : Int)), (4, .int .i64 ((i : Nat) : Int)), (5, .slice Ba ba.length ca), (6, .slice Bb bb.length cb), (22, .bool true)] := F.keep ⟨rfl, rfl, rfl, rfl, rfl, rfl, rfl, rfl, trivial⟩
   refine then_n ?_
   refine wp_seq ?_
   refine wp_region_lit ?_
   refine list_val F (wn rfl) rfl rfl (.int .i64 ((q : Nat) : Int)) (ex_move _ rfl _ (F.e rfl)) ?_; clear F a; intro a F
   refine list_val F (wn rfl) rfl rfl (.slice Ba ba.length ca) (ex_move _ rfl _ (F.e rfl)) ?_; clear F a; intro a F
   refine list_val F (wn rfl) rfl rfl (.int .i64 ((ba.length : Nat) : Int)) (ex_len _ _ rfl 1 do_sl_23_1 _ _ _ (F.e rfl)) ?_; clear F a; intro a F
   refine list_val F (wn rfl) rfl rfl (.int .i64 ((q + ba.length : Nat) : Int)) (ex_bin .add _ _ _ _ rfl .i64 _ _ (F.e rfl) (F.e rfl) _ (b_add ((w_i64 (by omega) (by omega)).trans (by omega)))) ?_; clear F a; intro a F
   refine list_val F (wn rfl) rfl rfl (.slice Bb bb.length cb) (ex_move _ rfl _ (F.e rfl)) ?_; clear F a; intro a F
   refine list_val F (wn rfl) rfl rfl (.int .i64 ((bb.length : Nat) : Int)) (ex_len _ _ rfl 1 do_sl_23_1 _ _ _ (F.e rfl)) ?_; clear F a; intro a F
   refine list_val F (wn rfl) rfl rfl (.int .i64 ((q + ba.length + bb.length : Nat) : Int)) (ex_bin .add _ _ _ _ rfl .i64 _ _ (F.e rfl) (F.e rfl) _ (b_add ((w_i64 (by omega) (by omega)).trans (by omega)))) ?_; clear F a; intro a F
   refine list_val F (wn rfl) rfl rfl (.int .i64 ((q + ba.length + bb.length : Nat) : Int)) (ex_assign _ rfl _ (F.e rfl)) ?_; clear F a; intro a F
   refine wpList_nil ?_
   replace F : Fr 104 a [(0, .agg #[.slice La n cla, .slice Lb m clb]), (1, .pointer (some ⟨g1, 0, none⟩)), (2, .bool false), (3, .int .i64 ((q + ba.length + bb.length : Nat) : Int)), (4, .int .i64 ((i : Nat) : Int)), (5, .slice Ba ba.length ca), (6, .slice Bb bb.length cb), (22, .bool true)] := F.keep ⟨rfl, rfl, rfl, rfl, rfl, rfl, rfl, rfl, trivial⟩
   refine then_n ?_
   refine wp_seq ?_
   refine wp_seq ?_
   by_cases hbig : 262144 < q + ba.length + bb.length
   ·
    refine wp_region_lit ?_
    refine list_val F (wn rfl) rfl rfl (.int .i64 ((q + ba.length + bb.length : Nat) : Int)) (ex_move _ rfl _ (F.e rfl)) ?_; clear F a; intro a F
    refine list_val F (wn rfl) rfl rfl (.bool true) (ex_bin .gtr _ _ _ _ rfl .i64 _ _ (F.e rfl) rfl _ (b_gtr (decide_eq_true (by omega)))) ?_; clear F a; intro a F
    refine wpList_nil ?_
    replace F : Fr 104 a [(0, .agg #[.slice La n cla, .slice Lb m clb]), (1, .pointer (some ⟨g1, 0, none⟩)), (2, .bool false), (3, .int .i64 ((q + ba.length + bb.length : Nat) : Int)), (4, .int .i64 ((i : Nat) : Int)), (5, .slice Ba ba.length ca), (6, .slice Bb bb.length cb), (22, .bool true), (47, .bool true)] := F.keep ⟨rfl, rfl, rfl, rfl, rfl, rfl, rfl, rfl, rfl, trivial⟩
    refine then_n ?_
    refine wp_cond_true (F.e rfl) ?_
    refine wp_exit ?_
    refine then_x ?_
    refine in_miss rfl ?_
    refine then_x ?_
    refine then_x ?_
    refine in_hit ?_
    refine then_n ?_
    refine wp_seq ?_
    replace R_ := R_.pick [] [] trivial (by decide)
    refine wp_region_lit ?_
    refine list_do (wn rfl) (fun K hK => ?_)
    refine ow_call rfl rfl F 19 #[] (ex_call 19 _ _ rfl rfl do_ent_19 _ (map0)) (wakes_any _ (hKt.below M.bel)) (fun e u hR => ?_)
    obtain ⟨he, hb⟩ := hR
    refine ⟨.bool true, he, ?_⟩; clear he F a; intro a F
    refine hK _ _ ?_
    clear hK K
    replace R_ := R_.below hb
    replace M := M.below hb; clear hb; try clear v
    refine list_val F (wn rfl) rfl rfl (.bool true) (ex_assign _ rfl _ (F.e rfl)) ?_; clear F a; intro a F
    refine wpList_nil ?_
    replace F : Fr 104 a [(0, .agg #[.slice La n cla, .slice Lb m clb]), (1, .pointer (some ⟨g1, 0, none⟩)), (2, .bool true), (3, .int .i64 ((q + ba.length + bb.length : Nat) : Int)), (4, .int .i64 ((i : Nat) : Int)), (5, .slice Ba ba.length ca), (6, .slice Bb bb.length cb), (22, .bool true), (47, .bool true)] := F.keep ⟨rfl, rfl, rfl, rfl, rfl, rfl, rfl, rfl, rfl, trivial⟩
    refine then_n ?_
    refine wp_ret ?_
    exact ret_tmp F rfl rfl ⟨rfl, M.bel⟩
   refine wp_region_lit ?_
   refine list_val F (wn rfl) rfl rfl (.int .i64 ((q + ba.length + bb.length : Nat) : Int)) (ex_move _ rfl _ (F.e rfl)) ?_; clear F a; intro a F
   refine list_val F (wn rfl) rfl rfl (.bool false) (ex_bin .gtr _ _ _ _ rfl .i64 _ _ (F.e rfl) rfl _ (b_gtr (decide_eq_false (by omega)))) ?_; clear F a; intro a F
   refine wpList_nil ?_
   replace F : Fr 104 a [(0, .agg #[.slice La n cla, .slice Lb m clb]), (1, .pointer (some ⟨g1, 0, none⟩)), (2, .bool false), (3, .int .i64 ((q + ba.length + bb.length : Nat) : Int)), (4, .int .i64 ((i : Nat) : Int)), (5, .slice Ba ba.length ca), (6, .slice Bb bb.length cb), (22, .bool true), (47, .bool false)] := F.keep ⟨rfl, rfl, rfl, rfl, rfl, rfl, rfl, rfl, rfl, trivial⟩
   refine then_n ?_
   refine wp_cond_false (F.e rfl) ?_
   refine wp_skip ?_
   refine then_n ?_
   refine wp_seq ?_
   refine wp_region_lit ?_
   refine list_val F (wn rfl) rfl rfl (.slice Ba ba.length ca) (ex_move _ rfl _ (F.e rfl)) ?_; clear F a; intro a F
   refine list_val F (wn rfl) rfl rfl (.slice Bb bb.length cb) (ex_move _ rfl _ (F.e rfl)) ?_; clear F a; intro a F
   refine list_do (wn rfl) (fun K hK => ?_)
   refine ow_call rfl rfl F 20 #[.slice Ba ba.length ca, .slice Bb bb.length cb] (ex_call 20 _ _ rfl rfl do_ent_20 _ (map2 (F.e rfl) (F.e rfl))) (refMac_any ba bb _ _ ba.length ca bb.length cb (by omega) (by omega) _ (hrba.below M.bel) (hrbb.below M.bel)) (fun e u hR => ?_)
   obtain ⟨he, hb⟩ := hR
   refine ⟨.agg ((bcs (mac ba bb)).toArray), he, ?_⟩; clear he F a; intro a F
   refine hK _ _ ?_
   clear hK K
   replace R_ := R_.below hb
   replace M := M.below hb; clear hb; try clear v
   refine list_do (wn rfl) (fun K hK => ?_)
   refine ow_alloc F M rfl rfl 24 rfl (.agg (bcs (List.replicate 32 0)).toArray) z24 ((bcs (List.replicate 32 0)).toArray) rfl ?_
   clear F M a; intro a g7 v F M hb hg
   refine hK _ _ ?_
   clear hK K
   replace R_ := R_.below hb
   clear hb hg; try clear u
   refine list_do (wn rfl) (fun K hK => ?_)
   refine ow_put F M rfl 24 _ _ rfl 0 _ ((bcs (List.replicate 32 0)).toArray) _ rfl (F.e rfl) ((bcs (mac ba bb)).toArray) (F.e rfl) (sz24 (mac_len _ _)) (sz_eqb 32 rfl (mac_len _ _)) (all_oneCell_toArray (bcs_one _)) ?_
   clear F a; have Mo := M; clear M; intro a u F M hgr
   refine hK _ _ ?_
   clear hK K
   replace R_ := R_.box (Mo.blk 0 _ rfl) (by show 5 ≠ 24; decide) hgr
   clear Mo hgr; try clear v
   replace M : Mm w u [⟨g7, (bcs (mac ba bb)).toArray, 24⟩, ⟨g1, #[.slice La n cla, .slice Lb m clb], 32⟩] := M
   refine wpList_nil ?_
   replace F : Fr 104 a [(0, .agg #[.slice La n cla, .slice Lb m clb]), (1, .pointer (some ⟨g1, 0, none⟩)), (2, .bool false), (3, .int .i64 ((q + ba.length + bb.length : Nat) : Int)), (4, .int .i64 ((i : Nat) : Int)), (5, .slice Ba ba.length ca), (6, .slice Bb bb.length cb), (7, .pointer (some ⟨g7, 0, none⟩)), (22, .bool true), (47, .bool false)] := F.keep ⟨rfl, rfl, rfl, rfl, rfl, rfl, rfl, rfl, rfl, rfl, trivial⟩
   refine then_n ?_
   refine wp_seq ?_
   refine wp_region_lit ?_
   refine list_val F (wn rfl) rfl rfl (.slice Ba ba.length ca) (ex_move _ rfl _ (F.e rfl)) ?_; clear F a; intro a F
   refine list_do (wn rfl) (fun K hK => ?_)
   refine ow_call rfl rfl F 14 #[.slice Ba ba.length ca] (ex_call 14 _ _ rfl rfl do_ent_14 _ (map1 (F.e rfl))) (lend_any ba _ ba.length ca (by omega) _ (hrba.below M.bel)) (fun e v hR => ?_)
   obtain ⟨A_52, c_52, he, O_n, hb⟩ := hR
   rw [show (ba ++ mks 70).length = ba.length + 70 by rw [List.length_append, mks_len]] at O_n
   have R1 := R_.new hb M.bel.size O_n
   have hcf52 := O_n.rb.2
   have hcx52 : ba.length ≤ c_52 := by omega
   refine ⟨.slice A_52 ba.length c_52, he, ?_⟩; clear he F a; intro a F
   refine hK _ _ ?_
   clear hK K
   replace R_ := R_.below hb
   replace M := M.below hb; clear hb; try clear u
   replace R_ := R1; clear R1 O_n
   refine list_val F (wn rfl) rfl rfl (.slice A_52 ba.length c_52) (ex_assign _ rfl _ (F.e rfl)) ?_; clear F a; intro a F
   refine wpList_nil ?_
   replace F : Fr 104 a [(0, .agg #[.slice La n cla, .slice Lb m clb]), (1, .pointer (some ⟨g1, 0, none⟩)), (2, .bool false), (3, .int .i64 ((q + ba.length + bb.length : Nat) : Int)), (4, .int .i64 ((i : Nat) : Int)), (5, .slice Ba ba.length ca), (6, .slice Bb bb.length cb), (7, .pointer (some ⟨g7, 0, none⟩)), (8, .slice A_52 ba.length c_52), (22, .bool true), (47, .bool false)] := F.keep ⟨rfl, rfl, rfl, rfl, rfl, rfl, rfl, rfl, rfl, rfl, rfl, trivial⟩
   refine then_n ?_
   refine wp_seq ?_
   refine wp_region_lit ?_
   refine list_val F (wn rfl) rfl rfl (.slice Bb bb.length cb) (ex_move _ rfl _ (F.e rfl)) ?_; clear F a; intro a F
   refine list_do (wn rfl) (fun K hK => ?_)
   refine ow_call rfl rfl F 14 #[.slice Bb bb.length cb] (ex_call 14 _ _ rfl rfl do_ent_14 _ (map1 (F.e rfl))) (lend_any bb _ bb.length cb (by omega) _ (hrbb.below M.bel)) (fun e u hR => ?_)
   obtain ⟨A_54, c_54, he, O_n, hb⟩ := hR
   rw [show (bb ++ mks 70).length = bb.length + 70 by rw [List.length_append, mks_len]] at O_n
   have R1 := R_.new hb M.bel.size O_n
   have hcf54 := O_n.rb.2
   have hcx54 : bb.length ≤ c_54 := by omega
   refine ⟨.slice A_54 bb.length c_54, he, ?_⟩; clear he F a; intro a F
   refine hK _ _ ?_
   clear hK K
   replace R_ := R_.below hb
   replace M := M.below hb; clear hb; try clear v
   replace R_ := R1; clear R1 O_n
   refine list_val F (wn rfl) rfl rfl (.slice A_54 bb.length c_54) (ex_assign _ rfl _ (F.e rfl)) ?_; clear F a; intro a F
   refine wpList_nil ?_
   replace F : Fr 104 a [(0, .agg #[.slice La n cla, .slice Lb m clb]), (1, .pointer (some ⟨g1, 0, none⟩)), (2, .bool false), (3, .int .i64 ((q + ba.length + bb.length : Nat) : Int)), (4, .int .i64 ((i : Nat) : Int)), (5, .slice Ba ba.length ca), (6, .slice Bb bb.length cb), (7, .pointer (some ⟨g7, 0, none⟩)), (8, .slice A_52 ba.length c_52), (9, .slice A_54 bb.length c_54), (22, .bool true), (47, .bool false)] := F.keep ⟨rfl, rfl, rfl, rfl, rfl, rfl, rfl, rfl, rfl, rfl, rfl, rfl, trivial⟩
   refine then_n ?_
   refine wp_seq ?_
   refine wp_seq ?_
   refine wp_only (fun ar wr => Fr 104 ar [(0, .agg #[.slice La n cla, .slice Lb m clb]), (1, .pointer (some ⟨g1, 0, none⟩)), (2, .bool false), (3, .int .i64 ((q + ba.length + bb.length : Nat) : Int)), (4, .int .i64 ((i : Nat) : Int)), (5, .slice Ba ba.length ca), (6, .slice Bb bb.length cb), (7, .pointer (some ⟨g7, 0, none⟩)), (8, .slice A_52 ba.length c_52), (9, .slice A_54 bb.length c_54), (22, .bool true), (47, .bool false), (78, .bool false)] ∧ Mm w wr [⟨g7, (bcs (mac ba bb)).toArray, 24⟩, ⟨g1, #[.slice La n cla, .slice Lb m clb], 32⟩] ∧ Rs w wr [(.slice A_54 (bb.length + 70) c_54, (bb ++ mks 70)), (.slice A_52 (ba.length + 70) c_52, (ba ++ mks 70))]) ?_ ?_
   ·
    refine region_anyM do_follows_mixedOrders M [⟨g7, (bcs (mac ba bb)).toArray, 24⟩] (fun w' M => (by refine M.pick' [0] _ ?_ (by decide); exact ⟨rfl, trivial⟩)) ?_; clear M; intro wD M hb
    replace R_ := R_.below hb
    clear hb; try clear u
    have hS : Mm w wD [⟨g7, (bcs (mac ba bb)).toArray, 24⟩] := (by refine M.pick' [0] _ ?_ (by decide); exact ⟨rfl, trivial⟩)
    refine any_val F 0 rfl (by kernel_rfl) (wn rfl) rfl rfl (.slice A_52 ba.length c_52) (fun w' hS' => ex_move _ rfl _ (F.e rfl)) hS ?_; clear F a; intro a F
    refine any_val F 1 rfl (by kernel_rfl) (wn rfl) rfl rfl (.slice A_54 bb.length c_54) (fun w' hS' => ex_move _ rfl _ (F.e rfl)) hS ?_; clear F a; intro a F
    refine any_val F 3 rfl (by kernel_rfl) (wn rfl) rfl rfl (.agg ((bcs (mac ba bb)).toArray)) (fun w' hS' => ex_load _ _ rfl _ (F.e rfl) _ (lvr (cs := bcs (mac ba bb)) (by rw [bcs_len, show _ = 32 from (mac_len _ _)]; exact do_row_24_32) (hS'.at (i := 0) rfl))) hS ?_; clear F a; intro a F
    refine any_ready [2] (by kernel_rfl) (by simp) ?_
    refine ready_do rfl (wn rfl) (fun K hK => ?_) AllReadyH.nil
    refine ow_call rfl rfl F 21 #[.slice A_52 ba.length c_52, .slice A_54 bb.length c_54] (ex_call 21 _ _ rfl rfl do_ent_21 _ (map2 (F.e rfl) (F.e rfl))) (mac_any ba bb _ _ ba.length c_52 bb.length c_54 _ (hKt.below M.bel) ((R_.rb (i := 1) rfl).lent rfl) hcx52 ((R_.rb (i := 0) rfl).lent rfl) hcx54) (fun e v hR => ?_)
    obtain ⟨he, hb⟩ := hR
    refine ⟨.agg ((bcs (mac ba bb)).toArray), he, ?_⟩; clear he F a; intro a F
    replace hS : Mm w v [⟨g7, (bcs (mac ba bb)).toArray, 24⟩] := (by refine (M.below hb).pick' [0] _ ?_ (by decide); exact ⟨rfl, trivial⟩)
    refine hK _ _ hS ?_
    clear hK K
    replace R_ := R_.below hb
    replace M := M.below hb; clear hb; try clear wD
    refine any_val F 4 rfl (by kernel_rfl) (wn rfl) rfl rfl (.bool false) (fun w' hS' => ex_neqA 24 _ _ _ rfl 32 do_ab_24_32 (mac ba bb) (mac ba bb) (mac_len _ _) (mac_len _ _) (F.e rfl) (F.e rfl) false (not_self _)) hS ?_; clear F a; intro a F
    refine any_val F 5 rfl (by kernel_rfl) (wn rfl) rfl rfl (.bool false) (fun w' hS' => ex_move _ rfl _ (F.e rfl)) hS ?_; clear F a; intro a F
    refine any_val F 6 rfl (by kernel_rfl) (F.wants 60 false rfl (by kernel_rfl) rfl true rfl) rfl rfl (.slice A_52 ba.length c_52) (fun w' hS' => ex_move _ rfl _ (F.e rfl)) hS ?_; clear F a; intro a F
    refine any_val F 7 rfl (by kernel_rfl) (F.wants 60 false rfl (by kernel_rfl) rfl true rfl) rfl rfl (.slice A_54 bb.length c_54) (fun w' hS' => ex_move _ rfl _ (F.e rfl)) hS ?_; clear F a; intro a F
    refine any_val F 9 rfl (by kernel_rfl) (F.wants 60 false rfl (by kernel_rfl) rfl true rfl) rfl rfl (.agg ((bcs (mac ba bb)).toArray)) (fun w' hS' => ex_load _ _ rfl _ (F.e rfl) _ (lvr (cs := bcs (mac ba bb)) (by rw [bcs_len, show _ = 32 from (mac_len _ _)]; exact do_row_24_32) (hS'.at (i := 0) rfl))) hS ?_; clear F a; intro a F
    refine any_ready [8] (by kernel_rfl) (by simp) ?_
    refine ready_do rfl (F.wants 60 false rfl (by kernel_rfl) rfl true rfl) (fun K hK => ?_) AllReadyH.nil
    refine ow_call rfl rfl F 21 #[.slice A_52 ba.length c_52, .slice A_54 bb.length c_54] (ex_call 21 _ _ rfl rfl do_ent_21 _ (map2 (F.e rfl) (F.e rfl))) (mac_any ba bb _ _ ba.length c_52 bb.length c_54 _ (hKt.below M.bel) ((R_.rb (i := 1) rfl).lent rfl) hcx52 ((R_.rb (i := 0) rfl).lent rfl) hcx54) (fun e u hR => ?_)
    obtain ⟨he, hb⟩ := hR
    refine ⟨.agg ((bcs (mac ba bb)).toArray), he, ?_⟩; clear he F a; intro a F
    replace hS : Mm w u [⟨g7, (bcs (mac ba bb)).toArray, 24⟩] := (by refine (M.below hb).pick' [0] _ ?_ (by decide); exact ⟨rfl, trivial⟩)
    refine hK _ _ hS ?_
    clear hK K
    replace R_ := R_.below hb
    replace M := M.below hb; clear hb; try clear v
    refine any_val F 10 rfl (by kernel_rfl) (F.wants 60 false rfl (by kernel_rfl) rfl true rfl) rfl rfl (.bool false) (fun w' hS' => ex_neqA 24 _ _ _ rfl 32 do_ab_24_32 (mac ba bb) (mac ba bb) (mac_len _ _) (mac_len _ _) (F.e rfl) (F.e rfl) false (not_self _)) hS ?_; clear F a; intro a F
    refine any_val F 11 rfl (by kernel_rfl) (wn rfl) rfl rfl (.bool false) (fun w' hS' => ex_pick_f _ _ _ rfl (F.e rfl) _ (F.e rfl)) hS ?_; clear F a; intro a F
    refine any_val F 12 rfl (by kernel_rfl) (wn rfl) rfl rfl (.bool false) (fun w' hS' => ex_move _ rfl _ (F.e rfl)) hS ?_; clear F a; intro a F
    refine any_val F 13 rfl (by kernel_rfl) (F.wants 67 false rfl (by kernel_rfl) rfl true rfl) rfl rfl (.slice A_52 ba.length c_52) (fun w' hS' => ex_move _ rfl _ (F.e rfl)) hS ?_; clear F a; intro a F
    refine any_val F 14 rfl (by kernel_rfl) (F.wants 67 false rfl (by kernel_rfl) rfl true rfl) rfl rfl (.slice Ba ba.length ca) (fun w' hS' => ex_move _ rfl _ (F.e rfl)) hS ?_; clear F a; intro a F
    refine any_ready [15] (by kernel_rfl) (by simp) ?_
    refine ready_do rfl (F.wants 67 false rfl (by kernel_rfl) rfl true rfl) (fun K hK => ?_) AllReadyH.nil
    refine ow_call rfl rfl F 16 #[.slice A_52 ba.length c_52, .slice Ba ba.length ca] (ex_call 16 _ _ rfl rfl do_ent_16 _ (map2 (F.e rfl) (F.e rfl))) (intact_any ba ba A_52 Ba ba.length c_52 ba.length ca (by omega) _ rfl (R_.rb (i := 1) rfl) hcf52 (hrba.below M.bel)) (fun e v hR => ?_)
    obtain ⟨he, hb⟩ := hR
    rw [decide_eq_true rfl] at he
    refine ⟨.bool true, he, ?_⟩; clear he F a; intro a F
    replace hS : Mm w v [⟨g7, (bcs (mac ba bb)).toArray, 24⟩] := (by refine (M.below hb).pick' [0] _ ?_ (by decide); exact ⟨rfl, trivial⟩)
    refine hK _ _ hS ?_
    clear hK K
    replace R_ := R_.below hb
    replace M := M.below hb; clear hb; try clear u
    refine any_val F 16 rfl (by kernel_rfl) (F.wants 67 false rfl (by kernel_rfl) rfl true rfl) rfl rfl (.bool false) (fun w' hS' => ex_not _ _ rfl _ (F.e rfl) _ rfl) hS ?_; clear F a; intro a F
    refine any_val F 17 rfl (by kernel_rfl) (wn rfl) rfl rfl (.bool false) (fun w' hS' => ex_pick_f _ _ _ rfl (F.e rfl) _ (F.e rfl)) hS ?_; clear F a; intro a F
    refine any_val F 18 rfl (by kernel_rfl) (wn rfl) rfl rfl (.bool false) (fun w' hS' => ex_move _ rfl _ (F.e rfl)) hS ?_; clear F a; intro a F
    refine any_val F 19 rfl (by kernel_rfl) (F.wants 73 false rfl (by kernel_rfl) rfl true rfl) rfl rfl (.slice A_54 bb.length c_54) (fun w' hS' => ex_move _ rfl _ (F.e rfl)) hS ?_; clear F a; intro a F
    refine any_val F 20 rfl (by kernel_rfl) (F.wants 73 false rfl (by kernel_rfl) rfl true rfl) rfl rfl (.slice Bb bb.length cb) (fun w' hS' => ex_move _ rfl _ (F.e rfl)) hS ?_; clear F a; intro a F
    refine any_ready [21] (by kernel_rfl) (by simp) ?_
    refine ready_do rfl (F.wants 73 false rfl (by kernel_rfl) rfl true rfl) (fun K hK => ?_) AllReadyH.nil
    refine ow_call rfl rfl F 16 #[.slice A_54 bb.length c_54, .slice Bb bb.length cb] (ex_call 16 _ _ rfl rfl do_ent_16 _ (map2 (F.e rfl) (F.e rfl))) (intact_any bb bb A_54 Bb bb.length c_54 bb.length cb (by omega) _ rfl (R_.rb (i := 0) rfl) hcf54 (hrbb.below M.bel)) (fun e u hR => ?_)
    obtain ⟨he, hb⟩ := hR
    rw [decide_eq_true rfl] at he
    refine ⟨.bool true, he, ?_⟩; clear he F a; intro a F
    replace hS : Mm w u [⟨g7, (bcs (mac ba bb)).toArray, 24⟩] := (by refine (M.below hb).pick' [0] _ ?_ (by decide); exact ⟨rfl, trivial⟩)
    refine hK _ _ hS ?_
    clear hK K
    replace R_ := R_.below hb
    replace M := M.below hb; clear hb; try clear v
    refine any_val F 22 rfl (by kernel_rfl) (F.wants 73 false rfl (by kernel_rfl) rfl true rfl) rfl rfl (.bool false) (fun w' hS' => ex_not _ _ rfl _ (F.e rfl) _ rfl) hS ?_; clear F a; intro a F
    refine any_val F 23 rfl (by kernel_rfl) (wn rfl) rfl rfl (.bool false) (fun w' hS' => ex_pick_f _ _ _ rfl (F.e rfl) _ (F.e rfl)) hS ?_; clear F a; intro a F
    refine any_done (by kernel_rfl) ?_
    exact ⟨F.keep ⟨rfl, rfl, rfl, rfl, rfl, rfl, rfl, rfl, rfl, rfl, rfl, rfl, rfl, trivial⟩, (by refine M.pick' [0, 1] _ ?_ (by decide); exact ⟨rfl, rfl, trivial⟩), R_⟩
   clear F M a R_
   intro a v hR; obtain ⟨F, M, R_⟩ := hR; try clear u
   refine then_n ?_
   refine wp_cond_false (F.e rfl) ?_
   refine wp_skip ?_
   refine then_n ?_
   refine wp_seq ?_
   refine wp_region_lit ?_
   refine list_val F (wn rfl) rfl rfl (.slice Ba ba.length ca) (ex_move _ rfl _ (F.e rfl)) ?_; clear F a; intro a F
   refine list_do (wn rfl) (fun K hK => ?_)
   refine ow_call rfl rfl F 17 #[.slice Ba ba.length ca] (ex_call 17 _ _ rfl rfl do_ent_17 _ (map1 (F.e rfl))) (other_any ba _ ba.length ca (by omega) _ (hrba.below M.bel)) (fun e u hR => ?_)
   obtain ⟨A_80, c_80, o1, holo1, he, O_n, hb⟩ := hR
   have R1 := R_.new hb M.bel.size O_n
   refine ⟨.slice A_80 ba.length c_80, he, ?_⟩; clear he F a; intro a F
   refine hK _ _ ?_
   clear hK K
   replace R_ := R_.below hb
   replace M := M.below hb; clear hb; try clear v
   replace R_ := R1; clear R1 O_n
   refine list_val F (wn rfl) rfl rfl (.slice A_80 ba.length c_80) (ex_assign _ rfl _ (F.e rfl)) ?_; clear F a; intro a F
   refine wpList_nil ?_
   replace F : Fr 104 a [(0, .agg #[.slice La n cla, .slice Lb m clb]), (1, .pointer (some ⟨g1, 0, none⟩)), (2, .bool false), (3, .int .i64 ((q + ba.length + bb.length : Nat) : Int)), (4, .int .i64 ((i : Nat) : Int)), (5, .slice Ba ba.length ca), (6, .slice Bb bb.length cb), (7, .pointer (some ⟨g7, 0, none⟩)), (8, .slice A_52 ba.length c_52), (9, .slice A_54 bb.length c_54), (10, .slice A_80 ba.length c_80), (22, .bool true), (47, .bool false), (78, .bool false)] := F.keep ⟨rfl, rfl, rfl, rfl, rfl, rfl, rfl, rfl, rfl, rfl, rfl, rfl, rfl, rfl, trivial⟩
   refine then_n ?_
   refine wp_seq ?_
   refine wp_region_lit ?_
   refine list_val F (wn rfl) rfl rfl (.slice A_52 ba.length c_52) (ex_move _ rfl _ (F.e rfl)) ?_; clear F a; intro a F
   refine list_val F (wn rfl) rfl rfl (.slice A_80 ba.length c_80) (ex_move _ rfl _ (F.e rfl)) ?_; clear F a; intro a F
   refine list_do (wn rfl) (fun K hK => ?_)
   refine ow_call rfl rfl F 18 #[.slice A_52 ba.length c_52, .slice A_80 ba.length c_80] (ex_call 18 _ _ rfl rfl do_ent_18 _ (map2 (F.e rfl) (F.e rfl))) (into_any (ba ++ mks 70) o1 A_52 A_80 (ba.length + 70) c_52 ba.length c_52 ba.length c_80 w.heap.size _ M.bel.size (R_.own 2 _ _ rfl) (by omega) (R_.rb (i := 0) rfl) (by omega) (fun _ => R_.apart (i := 0) (j := 2) rfl rfl (by decide))) (fun e v hR => ?_)
   obtain ⟨he, hgr, O_n⟩ := hR
   refine ⟨.tuple #[], he, ?_⟩; clear he F a; intro a F
   refine hK _ _ ?_
   clear hK K
   rw [over_lent holo1 rfl] at O_n
   have M1 := M.grownB (R_.own 2 _ _ rfl) rfl hgr
   have R1 := R_.app (i := 2) rfl hgr O_n (.inl rfl)
   replace M := M1; replace R_ := R1; clear M1 R1 O_n hgr; try clear u
   refine wpList_nil ?_
   replace F : Fr 104 a [(0, .agg #[.slice La n cla, .slice Lb m clb]), (1, .pointer (some ⟨g1, 0, none⟩)), (2, .bool false), (3, .int .i64 ((q + ba.length + bb.length : Nat) : Int)), (4, .int .i64 ((i : Nat) : Int)), (5, .slice Ba ba.length ca), (6, .slice Bb bb.length cb), (7, .pointer (some ⟨g7, 0, none⟩)), (8, .slice A_52 ba.length c_52), (9, .slice A_54 bb.length c_54), (10, .slice A_80 ba.length c_80), (22, .bool true), (47, .bool false), (78, .bool false)] := F.keep ⟨rfl, rfl, rfl, rfl, rfl, rfl, rfl, rfl, rfl, rfl, rfl, rfl, rfl, rfl, trivial⟩
   refine then_n ?_
   refine wp_seq ?_
   refine wp_seq ?_
   refine wp_region_lit ?_
   refine list_val F (wn rfl) rfl rfl (.slice A_52 ba.length c_52) (ex_move _ rfl _ (F.e rfl)) ?_; clear F a; intro a F
   refine list_val F (wn rfl) rfl rfl (.slice A_54 bb.length c_54) (ex_move _ rfl _ (F.e rfl)) ?_; clear F a; intro a F
   refine list_do (wn rfl) (fun K hK => ?_)
   refine ow_call rfl rfl F 21 #[.slice A_52 ba.length c_52, .slice A_54 bb.length c_54] (ex_call 21 _ _ rfl rfl do_ent_21 _ (map2 (F.e rfl) (F.e rfl))) (mac_any o1 bb _ _ ba.length c_52 bb.length c_54 _ (hKt.below M.bel) ((R_.rb (i := 2) rfl).lent holo1) hcx52 ((R_.rb (i := 1) rfl).lent rfl) hcx54) (fun e u hR => ?_)
   obtain ⟨he, hb⟩ := hR
   refine ⟨.agg ((bcs (mac o1 bb)).toArray), he, ?_⟩; clear he F a; intro a F
   refine hK _ _ ?_
   clear hK K
   replace R_ := R_.below hb
   replace M := M.below hb; clear hb; try clear v
   refine list_val F (wn rfl) rfl rfl (.slice A_80 ba.length c_80) (ex_move _ rfl _ (F.e rfl)) ?_; clear F a; intro a F
   refine list_val F (wn rfl) rfl rfl (.slice Bb bb.length cb) (ex_move _ rfl _ (F.e rfl)) ?_; clear F a; intro a F
   refine list_do (wn rfl) (fun K hK => ?_)
   refine ow_call rfl rfl F 20 #[.slice A_80 ba.length c_80, .slice Bb bb.length cb] (ex_call 20 _ _ rfl rfl do_ent_20 _ (map2 (F.e rfl) (F.e rfl))) (refMac_any o1 bb _ _ ba.length c_80 bb.length cb (by omega) (by omega) _ (R_.rb (i := 0) rfl) (hrbb.below M.bel)) (fun e v hR => ?_)
   obtain ⟨he, hb⟩ := hR
   refine ⟨.agg ((bcs (mac o1 bb)).toArray), he, ?_⟩; clear he F a; intro a F
   refine hK _ _ ?_
   clear hK K
   replace R_ := R_.below hb
   replace M := M.below hb; clear hb; try clear u
   refine list_val F (wn rfl) rfl rfl (.bool false) (ex_neqA 24 _ _ _ rfl 32 do_ab_24_32 (mac o1 bb) (mac o1 bb) (mac_len _ _) (mac_len _ _) (F.e rfl) (F.e rfl) false (not_self _)) ?_; clear F a; intro a F
   refine wpList_nil ?_
   replace F : Fr 104 a [(0, .agg #[.slice La n cla, .slice Lb m clb]), (1, .pointer (some ⟨g1, 0, none⟩)), (2, .bool false), (3, .int .i64 ((q + ba.length + bb.length : Nat) : Int)), (4, .int .i64 ((i : Nat) : Int)), (5, .slice Ba ba.length ca), (6, .slice Bb bb.length cb), (7, .pointer (some ⟨g7, 0, none⟩)), (8, .slice A_52 ba.length c_52), (9, .slice A_54 bb.length c_54), (10, .slice A_80 ba.length c_80), (22, .bool true), (47, .bool false), (78, .bool false), (90, .bool false)] := F.keep ⟨rfl, rfl, rfl, rfl, rfl, rfl, rfl, rfl, rfl, rfl, rfl, rfl, rfl, rfl, rfl, trivial⟩
   refine then_n ?_
   refine wp_cond_false (F.e rfl) ?_
   refine wp_skip ?_
   refine then_n ?_
   refine wp_seq ?_
   refine wp_region_lit ?_
   refine list_val F (wn rfl) rfl rfl (.slice Bb bb.length cb) (ex_move _ rfl _ (F.e rfl)) ?_; clear F a; intro a F
   refine list_do (wn rfl) (fun K hK => ?_)
   refine ow_call rfl rfl F 17 #[.slice Bb bb.length cb] (ex_call 17 _ _ rfl rfl do_ent_17 _ (map1 (F.e rfl))) (other_any bb _ bb.length cb (by omega) _ (hrbb.below M.bel)) (fun e u hR => ?_)
   obtain ⟨A_92, c_92, o2, holo2, he, O_n, hb⟩ := hR
   have R1 := R_.new hb M.bel.size O_n
   refine ⟨.slice A_92 bb.length c_92, he, ?_⟩; clear he F a; intro a F
   refine hK _ _ ?_
   clear hK K
   replace R_ := R_.below hb
   replace M := M.below hb; clear hb; try clear v
   replace R_ := R1; clear R1 O_n
   refine list_val F (wn rfl) rfl rfl (.slice A_92 bb.length c_92) (ex_assign _ rfl _ (F.e rfl)) ?_; clear F a; intro a F
   refine wpList_nil ?_
   replace F : Fr 104 a [(0, .agg #[.slice La n cla, .slice Lb m clb]), (1, .pointer (some ⟨g1, 0, none⟩)), (2, .bool false), (3, .int .i64 ((q + ba.length + bb.length : Nat) : Int)), (4, .int .i64 ((i : Nat) : Int)), (5, .slice Ba ba.length ca), (6, .slice Bb bb.length cb), (7, .pointer (some ⟨g7, 0, none⟩)), (8, .slice A_52 ba.length c_52), (9, .slice A_54 bb.length c_54), (10, .slice A_80 ba.length c_80), (11, .slice A_92 bb.length c_92), (22, .bool true), (47, .bool false), (78, .bool false), (90, .bool false)] := F.keep ⟨rfl, rfl, rfl, rfl, rfl, rfl, rfl, rfl, rfl, rfl, rfl, rfl, rfl, rfl, rfl, rfl, trivial⟩
   refine then_n ?_
   refine wp_seq ?_
   refine wp_region_lit ?_
   refine list_val F (wn rfl) rfl rfl (.slice A_54 bb.length c_54) (ex_move _ rfl _ (F.e rfl)) ?_; clear F a; intro a F
   refine list_val F (wn rfl) rfl rfl (.slice A_92 bb.length c_92) (ex_move _ rfl _ (F.e rfl)) ?_; clear F a; intro a F
   refine list_do (wn rfl) (fun K hK => ?_)
   refine ow_call rfl rfl F 18 #[.slice A_54 bb.length c_54, .slice A_92 bb.length c_92] (ex_call 18 _ _ rfl rfl do_ent_18 _ (map2 (F.e rfl) (F.e rfl))) (into_any (bb ++ mks 70) o2 A_54 A_92 (bb.length + 70) c_54 bb.length c_54 bb.length c_92 w.heap.size _ M.bel.size (R_.own 2 _ _ rfl) (by omega) (R_.rb (i := 0) rfl) (by omega) (fun _ => R_.apart (i := 0) (j := 2) rfl rfl (by decide))) (fun e v hR => ?_)
   obtain ⟨he, hgr, O_n⟩ := hR
   refine ⟨.tuple #[], he, ?_⟩; clear he F a; intro a F
   refine hK _ _ ?_
   clear hK K
   rw [over_lent holo2 rfl] at O_n
   have M1 := M.grownB (R_.own 2 _ _ rfl) rfl hgr
   have R1 := R_.app (i := 2) rfl hgr O_n (.inl rfl)
   replace M := M1; replace R_ := R1; clear M1 R1 O_n hgr; try clear u
   refine wpList_nil ?_
   replace F : Fr 104 a [(0, .agg #[.slice La n cla, .slice Lb m clb]), (1, .pointer (some ⟨g1, 0, none⟩)), (2, .bool false), (3, .int .i64 ((q + ba.length + bb.length : Nat) : Int)), (4, .int .i64 ((i : Nat) : Int)), (5, .slice Ba ba.length ca), (6, .slice Bb bb.length cb), (7, .pointer (some ⟨g7, 0, none⟩)), (8, .slice A_52 ba.length c_52), (9, .slice A_54 bb.length c_54), (10, .slice A_80 ba.length c_80), (11, .slice A_92 bb.length c_92), (22, .bool true), (47, .bool false), (78, .bool false), (90, .bool false)] := F.keep ⟨rfl, rfl, rfl, rfl, rfl, rfl, rfl, rfl, rfl, rfl, rfl, rfl, rfl, rfl, rfl, rfl, trivial⟩
   refine then_n ?_
   refine wp_seq ?_
   refine wp_region_lit ?_
   refine list_val F (wn rfl) rfl rfl (.slice A_52 ba.length c_52) (ex_move _ rfl _ (F.e rfl)) ?_; clear F a; intro a F
   refine list_val F (wn rfl) rfl rfl (.slice A_54 bb.length c_54) (ex_move _ rfl _ (F.e rfl)) ?_; clear F a; intro a F
   refine list_do (wn rfl) (fun K hK => ?_)
   refine ow_call rfl rfl F 21 #[.slice A_52 ba.length c_52, .slice A_54 bb.length c_54] (ex_call 21 _ _ rfl rfl do_ent_21 _ (map2 (F.e rfl) (F.e rfl))) (mac_any o1 o2 _ _ ba.length c_52 bb.length c_54 _ (hKt.below M.bel) ((R_.rb (i := 3) rfl).lent holo1) hcx52 ((R_.rb (i := 2) rfl).lent holo2) hcx54) (fun e u hR => ?_)
   obtain ⟨he, hb⟩ := hR
   refine ⟨.agg ((bcs (mac o1 o2)).toArray), he, ?_⟩; clear he F a; intro a F
   refine hK _ _ ?_
   clear hK K
   replace R_ := R_.below hb
   replace M := M.below hb; clear hb; try clear v
   refine list_val F (wn rfl) rfl rfl (.slice A_80 ba.length c_80) (ex_move _ rfl _ (F.e rfl)) ?_; clear F a; intro a F
   refine list_val F (wn rfl) rfl rfl (.slice A_92 bb.length c_92) (ex_move _ rfl _ (F.e rfl)) ?_; clear F a; intro a F
   refine list_do (wn rfl) (fun K hK => ?_)
   refine ow_call rfl rfl F 20 #[.slice A_80 ba.length c_80, .slice A_92 bb.length c_92] (ex_call 20 _ _ rfl rfl do_ent_20 _ (map2 (F.e rfl) (F.e rfl))) (refMac_any o1 o2 _ _ ba.length c_80 bb.length c_92 (by omega) (by omega) _ (R_.rb (i := 1) rfl) (R_.rb (i := 0) rfl)) (fun e v hR => ?_)
   obtain ⟨he, hb⟩ := hR
   refine ⟨.agg ((bcs (mac o1 o2)).toArray), he, ?_⟩; clear he F a; intro a F
   refine hK _ _ ?_
   clear hK K
   replace R_ := R_.below hb
   replace M := M.below hb; clear hb; try clear u
   refine list_val F (wn rfl) rfl rfl (.bool false) (ex_neqA 24 _ _ _ rfl 32 do_ab_24_32 (mac o1 o2) (mac o1 o2) (mac_len _ _) (mac_len _ _) (F.e rfl) (F.e rfl) false (not_self _)) ?_; clear F a; intro a F
   refine wpList_nil ?_
   replace F : Fr 104 a [(0, .agg #[.slice La n cla, .slice Lb m clb]), (1, .pointer (some ⟨g1, 0, none⟩)), (2, .bool false), (3, .int .i64 ((q + ba.length + bb.length : Nat) : Int)), (4, .int .i64 ((i : Nat) : Int)), (5, .slice Ba ba.length ca), (6, .slice Bb bb.length cb), (7, .pointer (some ⟨g7, 0, none⟩)), (8, .slice A_52 ba.length c_52), (9, .slice A_54 bb.length c_54), (10, .slice A_80 ba.length c_80), (11, .slice A_92 bb.length c_92), (22, .bool true), (47, .bool false), (78, .bool false), (90, .bool false), (102, .bool false)] := F.keep ⟨rfl, rfl, rfl, rfl, rfl, rfl, rfl, rfl, rfl, rfl, rfl, rfl, rfl, rfl, rfl, rfl, rfl, trivial⟩
   refine then_n ?_
   refine wp_cond_false (F.e rfl) ?_
   refine wp_skip ?_
   refine in_n ?_
   refine then_n ?_
   refine wp_region_lit ?_
   refine list_val F (wn rfl) rfl rfl (.int .i64 ((i : Nat) : Int)) (ex_move _ rfl _ (F.e rfl)) ?_; clear F a; intro a F
   refine list_val F (wn rfl) rfl rfl (.int .i64 ((i + 1 : Nat) : Int)) (ex_bin .add _ _ _ _ rfl .i64 _ _ (F.e rfl) rfl _ (b_add ((w_i64 (by omega) (by omega)).trans (by omega)))) ?_; clear F a; intro a F
   refine list_val F (wn rfl) rfl rfl (.int .i64 ((i + 1 : Nat) : Int)) (ex_assign _ rfl _ (F.e rfl)) ?_; clear F a; intro a F
   refine wpList_nil ?_
   replace F : Fr 104 a [(0, .agg #[.slice La n cla, .slice Lb m clb]), (1, .pointer (some ⟨g1, 0, none⟩)), (2, .bool false), (3, .int .i64 ((q + ba.length + bb.length : Nat) : Int)), (4, .int .i64 ((i + 1 : Nat) : Int)), (5, .slice Ba ba.length ca), (6, .slice Bb bb.length cb), (7, .pointer (some ⟨g7, 0, none⟩)), (8, .slice A_52 ba.length c_52), (9, .slice A_54 bb.length c_54), (10, .slice A_80 ba.length c_80), (11, .slice A_92 bb.length c_92), (22, .bool true), (47, .bool false), (78, .bool false), (90, .bool false), (102, .bool false)] := F.keep ⟨rfl, rfl, rfl, rfl, rfl, rfl, rfl, rfl, rfl, rfl, rfl, rfl, rfl, rfl, rfl, rfl, rfl, trivial⟩
   refine then_n ?_
   replace R_ := R_.pick [] [] trivial (by decide)
   exact ⟨m - (i + 1), by omega, (i + 1), (q + ba.length + bb.length), F.keep ⟨rfl, rfl, rfl, rfl, rfl, trivial⟩, (by refine M.pick' [1] _ ?_ (by decide); exact ⟨rfl, trivial⟩), R_, (by omega), (by omega), (by omega)⟩
  refine wp_seq ?_
  refine wp_seq ?_
  refine wp_region_lit ?_
  refine list_val F (wn rfl) rfl rfl (.int .i64 ((i : Nat) : Int)) (ex_move _ rfl _ (F.e rfl)) ?_; clear F a; intro a F
  refine list_val F (wn rfl) rfl rfl (.pointer (some ⟨g1, 1, none⟩)) (ex_fa _ _ _ rfl _ (F.e rfl) 1 do_fa_32_1_1 ⟨g1, 1, none⟩ rfl) ?_; clear F a; intro a F
  refine list_val F (wn rfl) rfl rfl (.slice Lb m clb) (ex_load _ _ rfl _ (F.e rfl) _ (lv1 do_one_22 (M.cell (i := 0) rfl (j := 1) rfl))) ?_; clear F a; intro a F
  refine list_val F (wn rfl) rfl rfl (.int .i64 ((m : Nat) : Int)) (ex_len _ _ rfl 1 do_sl_22_1 _ _ _ (F.e rfl)) ?_; clear F a; intro a F
  refine list_val F (wn rfl) rfl rfl (.bool true) (ex_bin .lss _ _ _ _ rfl .i64 _ _ (F.e rfl) (F.e rfl) _ (b_lss (decide_eq_true (by omega)))) ?_; clear F a; intro a F
  refine list_val F (wn rfl) rfl rfl (.bool true) (ex_move _ rfl _ (F.e rfl)) ?_; clear F a; intro a F
  refine list_val F (F.wants 17 true rfl (by kernel_rfl) rfl true rfl) rfl rfl (.pointer (some ⟨g1, 0, none⟩)) (ex_fa _ _ _ rfl _ (F.e rfl) 0 do_fa_32_0_0 ⟨g1, 0, none⟩ rfl) ?_; clear F a; intro a F
  refine list_val F (F.wants 17 true rfl (by kernel_rfl) rfl true rfl) rfl rfl (.slice La n cla) (ex_load _ _ rfl _ (F.e rfl) _ (lv1 do_one_22 (M.cell (i := 0) rfl (j := 0) rfl))) ?_; clear F a; intro a F
  refine list_val F (F.wants 17 true rfl (by kernel_rfl) rfl true rfl) rfl rfl (.int .i64 ((n : Nat) : Int)) (ex_len _ _ rfl 1 do_sl_22_1 _ _ _ (F.e rfl)) ?_; clear F a; intro a F
  refine list_val F (F.wants 17 true rfl (by kernel_rfl) rfl true rfl) rfl rfl (.bool false) (ex_bin .gtr _ _ _ _ rfl .i64 _ _ (F.e rfl) rfl _ (b_gtr (decide_eq_false (by omega)))) ?_; clear F a; intro a F
  refine list_val F (wn rfl) rfl rfl (.bool false) (ex_pick_t _ _ _ rfl (F.e rfl) _ (F.e rfl)) ?_; clear F a; intro a F
  refine wpList_nil ?_
  replace F : Fr 104 a [(0, .agg #[.slice La n cla, .slice Lb m clb]), (1, .pointer (some ⟨g1, 0, none⟩)), (2, .bool false), (3, .int .i64 ((q : Nat) : Int)), (4, .int .i64 ((i : Nat) : Int)), (22, .bool false)] := F.keep ⟨rfl, rfl, rfl, rfl, rfl, rfl, trivial⟩
  refine then_n ?_
  refine wp_cond_false (F.e rfl) ?_
  refine wp_exit ?_
  refine then_x ?_
  refine then_x ?_
  refine in_hit ?_
  refine then_n ?_
  refine wp_seq ?_
  replace R_ := R_.pick [] [] trivial (by decide)
  refine wp_region_lit ?_
  refine list_do (wn rfl) (fun K hK => ?_)
  refine ow_call rfl rfl F 19 #[] (ex_call 19 _ _ rfl rfl do_ent_19 _ (map0)) (wakes_any _ (hKt.below M.bel)) (fun e v hR => ?_)
  obtain ⟨he, hb⟩ := hR
  refine ⟨.bool true, he, ?_⟩; clear he F a; intro a F
  refine hK _ _ ?_
  clear hK K
  replace R_ := R_.below hb
  replace M := M.below hb; clear hb; try clear u
  refine list_val F (wn rfl) rfl rfl (.bool true) (ex_assign _ rfl _ (F.e rfl)) ?_; clear F a; intro a F
  refine wpList_nil ?_
  replace F : Fr 104 a [(0, .agg #[.slice La n cla, .slice Lb m clb]), (1, .pointer (some ⟨g1, 0, none⟩)), (2, .bool true), (3, .int .i64 ((q : Nat) : Int)), (4, .int .i64 ((i : Nat) : Int)), (22, .bool false)] := F.keep ⟨rfl, rfl, rfl, rfl, rfl, rfl, trivial⟩
  refine then_n ?_
  refine wp_ret ?_
  exact ret_tmp F rfl rfl ⟨rfl, M.bel⟩
 refine wp_seq ?_
 refine wp_seq ?_
 refine wp_region_lit ?_
 refine list_val F (wn rfl) rfl rfl (.int .i64 ((i : Nat) : Int)) (ex_move _ rfl _ (F.e rfl)) ?_; clear F a; intro a F
 refine list_val F (wn rfl) rfl rfl (.pointer (some ⟨g1, 1, none⟩)) (ex_fa _ _ _ rfl _ (F.e rfl) 1 do_fa_32_1_1 ⟨g1, 1, none⟩ rfl) ?_; clear F a; intro a F
 refine list_val F (wn rfl) rfl rfl (.slice Lb m clb) (ex_load _ _ rfl _ (F.e rfl) _ (lv1 do_one_22 (M.cell (i := 0) rfl (j := 1) rfl))) ?_; clear F a; intro a F
 refine list_val F (wn rfl) rfl rfl (.int .i64 ((m : Nat) : Int)) (ex_len _ _ rfl 1 do_sl_22_1 _ _ _ (F.e rfl)) ?_; clear F a; intro a F
 refine list_val F (wn rfl) rfl rfl (.bool false) (ex_bin .lss _ _ _ _ rfl .i64 _ _ (F.e rfl) (F.e rfl) _ (b_lss (decide_eq_false (by omega)))) ?_; clear F a; intro a F
 refine list_val F (wn rfl) rfl rfl (.bool false) (ex_move _ rfl _ (F.e rfl)) ?_; clear F a; intro a F
 refine list_skip F (F.wants 17 false rfl (by kernel_rfl) rfl false rfl) rfl rfl ?_; clear F a; intro a F
 refine list_skip F (F.wants 17 false rfl (by kernel_rfl) rfl false rfl) rfl rfl ?_; clear F a; intro a F
 refine list_skip F (F.wants 17 false rfl (by kernel_rfl) rfl false rfl) rfl rfl ?_; clear F a; intro a F
 refine list_skip F (F.wants 17 false rfl (by kernel_rfl) rfl false rfl) rfl rfl ?_; clear F a; intro a F
 refine list_val F (wn rfl) rfl rfl (.bool false) (ex_pick_f _ _ _ rfl (F.e rfl) _ rfl) ?_; clear F a; intro a F
 refine wpList_nil ?_
 replace F : Fr 104 a [(0, .agg #[.slice La n cla, .slice Lb m clb]), (1, .pointer (some ⟨g1, 0, none⟩)), (2, .bool false), (3, .int .i64 ((q : Nat) : Int)), (4, .int .i64 ((i : Nat) : Int)), (22, .bool false)] := F.keep ⟨rfl, rfl, rfl, rfl, rfl, rfl, trivial⟩
 refine then_n ?_
 refine wp_cond_false (F.e rfl) ?_
 refine wp_exit ?_
 refine then_x ?_
 refine then_x ?_
 refine in_hit ?_
 refine then_n ?_
 refine wp_seq ?_
 replace R_ := R_.pick [] [] trivial (by decide)
 refine wp_region_lit ?_
 refine list_do (wn rfl) (fun K hK => ?_)
 refine ow_call rfl rfl F 19 #[] (ex_call 19 _ _ rfl rfl do_ent_19 _ (map0)) (wakes_any _ (hKt.below M.bel)) (fun e v hR => ?_)
 obtain ⟨he, hb⟩ := hR
 refine ⟨.bool true, he, ?_⟩; clear he F a; intro a F
 refine hK _ _ ?_
 clear hK K
 replace R_ := R_.below hb
 replace M := M.below hb; clear hb; try clear u
 refine list_val F (wn rfl) rfl rfl (.bool true) (ex_assign _ rfl _ (F.e rfl)) ?_; clear F a; intro a F
 refine wpList_nil ?_
 replace F : Fr 104 a [(0, .agg #[.slice La n cla, .slice Lb m clb]), (1, .pointer (some ⟨g1, 0, none⟩)), (2, .bool true), (3, .int .i64 ((q : Nat) : Int)), (4, .int .i64 ((i : Nat) : Int)), (22, .bool false)] := F.keep ⟨rfl, rfl, rfl, rfl, rfl, rfl, trivial⟩
 refine then_n ?_
 refine wp_ret ?_
 exact ret_tmp F rfl rfl ⟨rfl, M.bel⟩
end Go.Proofs.YtkppipeadibfkaaDoor
