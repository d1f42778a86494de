/- posternlaw4.DigestPass: salts, passwords, rounds. Conditions: the table is laid; the argument is read. -/
import Derived.Test.YtkppipeadibfkaaDoorLW
namespace Go.Proofs.YtkppipeadibfkaaDoor
open Go.RowKit Go.Proofs.YtkppipeadibfkaaDoorW.PrintWords KB WG
set_option linter.unusedVariables false
set_option linter.unusedSimpArgs false
set_option linter.unnecessarySimpa false
theorem dp_sl_38_18 : sl? Tryd.prog 38 18 = true := by kernel_rfl
theorem dp_row_42_18 : row? Tryd.prog 42 18 = true := by kernel_rfl
theorem dp_fa_42_1_16 : fa? Tryd.prog 42 1 16 = true := by kernel_rfl
theorem dp_one_9 : one? Tryd.prog 9 = true := by kernel_rfl
theorem dp_fa_42_2_17 : fa? Tryd.prog 42 2 17 = true := by kernel_rfl
theorem dp_one_3 : one? Tryd.prog 3 = true := by kernel_rfl
theorem dp_ent_19 : ent? Tryd.prog 19 = true := by kernel_rfl
theorem dp_fa_42_0_0 : fa? Tryd.prog 42 0 0 = true := by kernel_rfl
theorem dp_row_40_16 : row? Tryd.prog 40 16 = true := by kernel_rfl
theorem dp_ent_24 : ent? Tryd.prog 24 = true := by kernel_rfl
theorem dp_ent_25 : ent? Tryd.prog 25 = true := by kernel_rfl
theorem dp_row_24_32 : row? Tryd.prog 24 32 = true := by kernel_rfl
theorem dp_ab_24_32 : ab? Tryd.prog 24 32 = true := by kernel_rfl
theorem dp_ent_26 : ent? Tryd.prog 26 = true := by kernel_rfl
set_option maxHeartbeats 4000000 in
set_option maxRecDepth 100000 in
theorem dpass_any (l : List WordT) (Ls : Option Addr) (n cl : Nat) (hn : n ≤ 5864062014805) (w : World) (hKt : At w ⟨0, 0, none⟩ (wcs kTab)) (hl : kWd.C w Ls n l) (hwf : ∀ x ∈ l, wWd x) :
    Calls Tryd.prog 6 #[.slice Ls n cl] w fun e w' => e = .returned (.bool true) ∧ Below w.heap.size w w' := by
 refine calls_start Tryd.func6 rfl rfl rfl (fun a F => ?_)
 have M : Mm w w [] := Mm.nil w
 refine wp_seq ?_
 refine wp_region_lit ?_
 refine list_val F (wn rfl) rfl rfl (.bool false) (ex_assign _ rfl _ rfl) ?_; clear F a; intro a F
 refine wpList_nil ?_
 replace F : Fr 73 a [(0, .slice Ls n cl), (2, .bool false)] := F.keep ⟨rfl, rfl, trivial⟩
 refine then_n ?_
 refine wp_seq ?_
 refine wp_region_lit ?_
 refine list_val F (wn rfl) rfl rfl (.int .i64 0) (ex_assign _ rfl _ rfl) ?_; clear F a; intro a F
 refine wpList_nil ?_
 replace F : Fr 73 a [(0, .slice Ls n cl), (2, .bool false), (3, .int .i64 0)] := F.keep ⟨rfl, rfl, rfl, trivial⟩
 refine then_n ?_
 refine wp_seq ?_
 refine wp_seq ?_
 refine wp_region_lit ?_
 refine list_val F (wn rfl) rfl rfl (.int .i64 0) (ex_assign _ rfl _ rfl) ?_; clear F a; intro a F
 refine wpList_nil ?_
 replace F : Fr 73 a [(0, .slice Ls n cl), (2, .bool false), (3, .int .i64 0), (4, .int .i64 0)] := F.keep ⟨rfl, rfl, rfl, rfl, trivial⟩
 refine then_n ?_
 refine wp_block ?_
 refine wp_loopN (fun mq ar wr => ∃ (i : Nat), ∃ (q : Int), Fr 73 ar [(0, .slice Ls n cl), (2, .bool false), (3, .int .i64 q), (4, .int .i64 ((i : Nat) : Int))] ∧ Mm w wr [] ∧ i ≤ n ∧ 0 ≤ q ∧ q ≤ 12000 ∧ mq + i = n) n ?_ ?_
 ·
  exact ⟨0, 0, F.keep ⟨rfl, rfl, rfl, rfl, trivial⟩, (by refine M.pick' [] _ ?_ (by decide); exact trivial), (Nat.zero_le _), (Int.le_refl _), (by decide), (by omega)⟩
 clear F M a
 rintro mq a v ⟨i, q, F, M, hi, hq0, hq1, hq⟩; try clear w
 by_cases hin : i < n
 ·
  obtain ⟨adr, xs, xt, r, hLs, hxs, zi, hxt, hr0, hr9⟩ := at_word hl hin hwf
  subst hLs
  refine wp_seq ?_
  refine wp_seq ?_
  refine wp_region_lit ?_
  refine list_val F (wn rfl) rfl rfl (.int .i64 ((i : Nat) : Int)) (ex_move _ rfl _ (F.e rfl)) ?_; clear F a; intro a F
  refine list_val F (wn rfl) rfl rfl (.slice (some adr) n cl) (ex_move _ rfl _ (F.e rfl)) ?_; clear F a; intro a F
  refine list_val F (wn rfl) rfl rfl (.int .i64 ((n : Nat) : Int)) (ex_len _ _ rfl 18 dp_sl_38_18 _ _ _ (F.e rfl)) ?_; clear F a; intro a F
  refine list_val F (wn rfl) rfl rfl (.bool true) (ex_bin .lss _ _ _ _ rfl .i64 _ _ (F.e rfl) (F.e rfl) _ (b_lss (decide_eq_true (by omega)))) ?_; clear F a; intro a F
  refine wpList_nil ?_
  replace F : Fr 73 a [(0, .slice (some adr) n cl), (2, .bool false), (3, .int .i64 q), (4, .int .i64 ((i : Nat) : Int)), (13, .bool true)] := F.keep ⟨rfl, rfl, rfl, rfl, rfl, trivial⟩
  refine then_n ?_
  refine wp_cond_true (F.e rfl) ?_
  refine wp_skip ?_
  refine then_n ?_
  refine wp_seq ?_
  refine wp_block ?_
  refine wp_seq ?_
  refine wp_region_lit ?_
  refine list_val F (wn rfl) rfl rfl (.slice (some adr) n cl) (ex_move _ rfl _ (F.e rfl)) ?_; clear F a; intro a F
  refine list_val F (wn rfl) rfl rfl (.int .i64 ((i : Nat) : Int)) (ex_move _ rfl _ (F.e rfl)) ?_; clear F a; intro a F
  refine list_val F (wn rfl) rfl rfl (.pointer (some (adr.add (i * 18)))) (ex_ix _ _ _ rfl 18 dp_sl_38_18 adr _ _ (F.e rfl) .i64 _ (F.e rfl) i rfl (by omega) (adr.add (i * 18)) rfl) ?_; clear F a; intro a F
  refine list_val F (wn rfl) rfl rfl (.agg ((wdCs xs xt r).toArray)) (ex_load _ _ rfl _ (F.e rfl) _ (lvr (cs := wdCs xs xt r) (by rw [wd_len hxs]; exact dp_row_42_18) ((zi.below M.bel)))) ?_; clear F a; intro a F
  refine list_do (wn rfl) (fun K hK => ?_)
  refine ow_alloc F M rfl rfl 42 rfl (.agg (wdCs (List.replicate 16 0) [] 0).toArray) z42 ((wdCs (List.replicate 16 0) ([]) 0).toArray) rfl ?_
  clear F M a; intro a g5 u F M hb hg
  refine hK _ _ ?_
  clear hK K
  clear hb hg; try clear v
  refine list_do (wn rfl) (fun K hK => ?_)
  refine ow_put F M rfl 42 _ _ rfl 0 _ ((wdCs (List.replicate 16 0) ([]) 0).toArray) _ rfl (F.e rfl) ((wdCs xs xt r).toArray) (F.e rfl) (sz42 hxs) (sz42_eq (show (List.replicate 16 (0 : By)).length = 16 from rfl) hxs) wd_one ?_
  clear F a; have Mo := M; clear M; intro a v F M hgr
  refine hK _ _ ?_
  clear hK K
  clear Mo hgr; try clear u
  replace M : Mm w v [⟨g5, (wdCs xs xt r).toArray, 42⟩] := M
  refine wpList_nil ?_
  replace F : Fr 73 a [(0, .slice (some adr) n cl), (2, .bool false), (3, .int .i64 q), (4, .int .i64 ((i : Nat) : Int)), (5, .pointer (some ⟨g5, 0, none⟩)), (13, .bool true)] := F.keep ⟨rfl, rfl, rfl, rfl, rfl, rfl, trivial⟩
  refine then_n ?_
  refine wp_seq ?_
  refine wp_seq ?_
  by_cases hbig : 1048576 < xt.length
  ·
   refine wp_region_lit ?_
   refine list_val F (wn rfl) rfl rfl (.pointer (some ⟨g5, 16, none⟩)) (ex_fa _ _ _ rfl _ (F.e rfl) 16 dp_fa_42_1_16 ⟨g5, 16, none⟩ rfl) ?_; clear F a; intro a F
   refine list_val F (wn rfl) rfl rfl (.string (strB xt)) (ex_load _ _ rfl _ (F.e rfl) _ (lv1 dp_one_9 (M.cell (i := 0) rfl (j := 16) (wd_a16 hxs)))) ?_; clear F a; intro a F
   refine list_val F (wn rfl) rfl rfl (.int .i64 ((xt.length : Nat) : Int)) (ex_lens _ _ rfl (by kernel_rfl) xt (F.e rfl)) ?_; clear F a; intro a F
   refine list_val F (wn rfl) rfl rfl (.bool true) (ex_bin .gtr _ _ _ _ rfl .i64 _ _ (F.e rfl) rfl _ (b_gtr (decide_eq_true (by omega)))) ?_; clear F a; intro a F
   refine wpList_nil ?_
   replace F : Fr 73 a [(0, .slice (some adr) n cl), (2, .bool false), (3, .int .i64 q), (4, .int .i64 ((i : Nat) : Int)), (5, .pointer (some ⟨g5, 0, none⟩)), (13, .bool true), (23, .bool true)] := F.keep ⟨rfl, rfl, rfl, rfl, rfl, rfl, rfl, trivial⟩
   refine then_n ?_
   refine wp_cond_true (F.e rfl) ?_
   refine wp_exit ?_
   refine then_x ?_
   refine in_hit ?_
   refine then_n ?_
   refine wp_region_lit ?_
   refine list_val F (wn rfl) rfl rfl (.int .i64 ((i : Nat) : Int)) (ex_move _ rfl _ (F.e rfl)) ?_; clear F a; intro a F
   refine list_val F (wn rfl) rfl rfl (.int .i64 ((i + 1 : Nat) : Int)) (ex_bin .add _ _ _ _ rfl .i64 _ _ (F.e rfl) rfl _ (b_add ((w_i64 (by omega) (by omega)).trans (by omega)))) ?_; clear F a; intro a F
   refine list_val F (wn rfl) rfl rfl (.int .i64 ((i + 1 : Nat) : Int)) (ex_assign _ rfl _ (F.e rfl)) ?_; clear F a; intro a F
   refine wpList_nil ?_
   replace F : Fr 73 a [(0, .slice (some adr) n cl), (2, .bool false), (3, .int .i64 q), (4, .int .i64 ((i + 1 : Nat) : Int)), (5, .pointer (some ⟨g5, 0, none⟩)), (13, .bool true), (23, .bool true)] := F.keep ⟨rfl, rfl, rfl, rfl, rfl, rfl, rfl, trivial⟩
   refine then_n ?_
   exact ⟨n - (i + 1), by omega, (i + 1), q, F.keep ⟨rfl, rfl, rfl, rfl, trivial⟩, (by refine M.pick' [] _ ?_ (by decide); exact trivial), (by omega), (by omega), (by omega), (by omega)⟩
  refine wp_region_lit ?_
  refine list_val F (wn rfl) rfl rfl (.pointer (some ⟨g5, 16, none⟩)) (ex_fa _ _ _ rfl _ (F.e rfl) 16 dp_fa_42_1_16 ⟨g5, 16, none⟩ rfl) ?_; clear F a; intro a F
  refine list_val F (wn rfl) rfl rfl (.string (strB xt)) (ex_load _ _ rfl _ (F.e rfl) _ (lv1 dp_one_9 (M.cell (i := 0) rfl (j := 16) (wd_a16 hxs)))) ?_; clear F a; intro a F
  refine list_val F (wn rfl) rfl rfl (.int .i64 ((xt.length : Nat) : Int)) (ex_lens _ _ rfl (by kernel_rfl) xt (F.e rfl)) ?_; clear F a; intro a F
  refine list_val F (wn rfl) rfl rfl (.bool false) (ex_bin .gtr _ _ _ _ rfl .i64 _ _ (F.e rfl) rfl _ (b_gtr (decide_eq_false (by omega)))) ?_; clear F a; intro a F
  refine wpList_nil ?_
  replace F : Fr 73 a [(0, .slice (some adr) n cl), (2, .bool false), (3, .int .i64 q), (4, .int .i64 ((i : Nat) : Int)), (5, .pointer (some ⟨g5, 0, none⟩)), (13, .bool true), (23, .bool false)] := F.keep ⟨rfl, rfl, rfl, rfl, rfl, rfl, rfl, trivial⟩
  refine then_n ?_
  refine wp_cond_false (F.e rfl) ?_
  refine wp_skip ?_
  refine then_n ?_
  refine wp_seq ?_
  refine wp_seq ?_
  by_cases hr1 : 0 < r
  ·
   by_cases hr2 : r ≤ 4096
   ·
    refine wp_region_lit ?_
    refine list_val F (wn rfl) rfl rfl (.pointer (some ⟨g5, 17, none⟩)) (ex_fa _ _ _ rfl _ (F.e rfl) 17 dp_fa_42_2_17 ⟨g5, 17, none⟩ rfl) ?_; clear F a; intro a F
    refine list_val F (wn rfl) rfl rfl (.int .i64 r) (ex_load _ _ rfl _ (F.e rfl) _ (lv1 dp_one_3 (M.cell (i := 0) rfl (j := 17) (wd_a17 hxs)))) ?_; clear F a; intro a F
    refine list_val F (wn rfl) rfl rfl (.bool true) (ex_bin .gtr _ _ _ _ rfl .i64 _ _ (F.e rfl) rfl _ (b_gtr (decide_eq_true (by omega)))) ?_; clear F a; intro a F
    refine list_val F (wn rfl) rfl rfl (.bool true) (ex_move _ rfl _ (F.e rfl)) ?_; clear F a; intro a F
    refine list_val F (F.wants 27 true rfl (by kernel_rfl) rfl true rfl) rfl rfl (.pointer (some ⟨g5, 17, none⟩)) (ex_fa _ _ _ rfl _ (F.e rfl) 17 dp_fa_42_2_17 ⟨g5, 17, none⟩ rfl) ?_; clear F a; intro a F
    refine list_val F (F.wants 27 true rfl (by kernel_rfl) rfl true rfl) rfl rfl (.int .i64 r) (ex_load _ _ rfl _ (F.e rfl) _ (lv1 dp_one_3 (M.cell (i := 0) rfl (j := 17) (wd_a17 hxs)))) ?_; clear F a; intro a F
    refine list_val F (F.wants 27 true rfl (by kernel_rfl) rfl true rfl) rfl rfl (.bool true) (ex_bin .leq _ _ _ _ rfl .i64 _ _ (F.e rfl) rfl _ (b_leq (decide_eq_true (by omega)))) ?_; clear F a; intro a F
    refine list_val F (wn rfl) rfl rfl (.bool true) (ex_pick_t _ _ _ rfl (F.e rfl) _ (F.e rfl)) ?_; clear F a; intro a F
    refine wpList_nil ?_
    replace F : Fr 73 a [(0, .slice (some adr) n cl), (2, .bool false), (3, .int .i64 q), (4, .int .i64 ((i : Nat) : Int)), (5, .pointer (some ⟨g5, 0, none⟩)), (13, .bool true), (23, .bool false), (31, .bool true)] := F.keep ⟨rfl, rfl, rfl, rfl, rfl, rfl, rfl, rfl, trivial⟩
    refine then_n ?_
    refine wp_cond_true (F.e rfl) ?_
    refine wp_region_lit ?_
    refine list_val F (wn rfl) rfl rfl (.int .i64 q) (ex_move _ rfl _ (F.e rfl)) ?_; clear F a; intro a F
    refine list_val F (wn rfl) rfl rfl (.pointer (some ⟨g5, 17, none⟩)) (ex_fa _ _ _ rfl _ (F.e rfl) 17 dp_fa_42_2_17 ⟨g5, 17, none⟩ rfl) ?_; clear F a; intro a F
    refine list_val F (wn rfl) rfl rfl (.int .i64 r) (ex_load _ _ rfl _ (F.e rfl) _ (lv1 dp_one_3 (M.cell (i := 0) rfl (j := 17) (wd_a17 hxs)))) ?_; clear F a; intro a F
    refine list_val F (wn rfl) rfl rfl (.int .i64 (q + r)) (ex_bin .add _ _ _ _ rfl .i64 _ _ (F.e rfl) (F.e rfl) _ (b_add (w_i64 (by omega) (by omega)))) ?_; clear F a; intro a F
    refine list_val F (wn rfl) rfl rfl (.pointer (some ⟨g5, 16, none⟩)) (ex_fa _ _ _ rfl _ (F.e rfl) 16 dp_fa_42_1_16 ⟨g5, 16, none⟩ rfl) ?_; clear F a; intro a F
    refine list_val F (wn rfl) rfl rfl (.string (strB xt)) (ex_load _ _ rfl _ (F.e rfl) _ (lv1 dp_one_9 (M.cell (i := 0) rfl (j := 16) (wd_a16 hxs)))) ?_; clear F a; intro a F
    refine list_val F (wn rfl) rfl rfl (.int .i64 ((xt.length : Nat) : Int)) (ex_lens _ _ rfl (by kernel_rfl) xt (F.e rfl)) ?_; clear F a; intro a F
    refine list_val F (wn rfl) rfl rfl (.int .i64 ((xt.length / 64 : Nat) : Int)) (ex_bin .quo _ _ _ _ rfl .i64 _ _ (F.e rfl) rfl _ (b_quo (by decide) (i_quo _ 64 (by omega)))) ?_; clear F a; intro a F
    refine list_val F (wn rfl) rfl rfl (.int .i64 ((q + r) + ((xt.length / 64 : Nat) : Int))) (ex_bin .add _ _ _ _ rfl .i64 _ _ (F.e rfl) (F.e rfl) _ (b_add (w_i64 (by omega) (by omega)))) ?_; clear F a; intro a F
    refine list_val F (wn rfl) rfl rfl (.int .i64 ((q + r) + ((xt.length / 64 : Nat) : Int))) (ex_assign _ rfl _ (F.e rfl)) ?_; clear F a; intro a F
    refine wpList_nil ?_
    replace F : Fr 73 a [(0, .slice (some adr) n cl), (2, .bool false), (3, .int .i64 ((q + r) + ((xt.length / 64 : Nat) : Int))), (4, .int .i64 ((i : Nat) : Int)), (5, .pointer (some ⟨g5, 0, none⟩)), (13, .bool true), (23, .bool false), (31, .bool true)] := F.keep ⟨rfl, rfl, rfl, rfl, rfl, rfl, rfl, rfl, trivial⟩
    refine then_n ?_
    refine wp_seq ?_
    refine wp_seq ?_
    by_cases hmany : 12000 < (q + r) + ((xt.length / 64 : Nat) : Int)
    ·
     refine wp_region_lit ?_
     refine list_val F (wn rfl) rfl rfl (.int .i64 ((q + r) + ((xt.length / 64 : Nat) : Int))) (ex_move _ rfl _ (F.e rfl)) ?_; clear F a; intro a F
     refine list_val F (wn rfl) rfl rfl (.bool true) (ex_bin .gtr _ _ _ _ rfl .i64 _ _ (F.e rfl) rfl _ (b_gtr (decide_eq_true (by omega)))) ?_; clear F a; intro a F
     refine wpList_nil ?_
     replace F : Fr 73 a [(0, .slice (some adr) n cl), (2, .bool false), (3, .int .i64 ((q + r) + ((xt.length / 64 : Nat) : Int))), (4, .int .i64 ((i : Nat) : Int)), (5, .pointer (some ⟨g5, 0, none⟩)), (13, .bool true), (23, .bool false), (31, .bool true), (42, .bool true)] := F.keep ⟨rfl, rfl, rfl, rfl, rfl, rfl, rfl, rfl, rfl, trivial⟩
     refine then_n ?_
     refine wp_cond_true (F.e rfl) ?_
     refine wp_exit ?_
     refine then_x ?_
     refine in_miss rfl ?_
     refine then_x ?_
     refine then_x ?_
     refine in_hit ?_
     refine then_n ?_
     refine wp_seq ?_
     refine wp_region_lit ?_
     refine list_do (wn rfl) (fun K hK => ?_)
     refine ow_call rfl rfl F 19 #[] (ex_call 19 _ _ rfl rfl dp_ent_19 _ (map0)) (wakes_any _ (hKt.below M.bel)) (fun e u hR => ?_)
     obtain ⟨he, hb⟩ := hR
     refine ⟨.bool true, he, ?_⟩; clear he F a; intro a F
     refine hK _ _ ?_
     clear hK K
     replace M := M.below hb; clear hb; try clear v
     refine list_val F (wn rfl) rfl rfl (.bool true) (ex_assign _ rfl _ (F.e rfl)) ?_; clear F a; intro a F
     refine wpList_nil ?_
     replace F : Fr 73 a [(0, .slice (some adr) n cl), (2, .bool true), (3, .int .i64 ((q + r) + ((xt.length / 64 : Nat) : Int))), (4, .int .i64 ((i : Nat) : Int)), (5, .pointer (some ⟨g5, 0, none⟩)), (13, .bool true), (23, .bool false), (31, .bool true), (42, .bool true)] := F.keep ⟨rfl, rfl, rfl, rfl, rfl, rfl, rfl, rfl, rfl, trivial⟩
     refine then_n ?_
     refine wp_ret ?_
     exact ret_tmp F rfl rfl ⟨rfl, M.bel⟩
    refine wp_region_lit ?_
    refine list_val F (wn rfl) rfl rfl (.int .i64 ((q + r) + ((xt.length / 64 : Nat) : Int))) (ex_move _ rfl _ (F.e rfl)) ?_; clear F a; intro a F
    refine list_val F (wn rfl) rfl rfl (.bool false) (ex_bin .gtr _ _ _ _ rfl .i64 _ _ (F.e rfl) rfl _ (b_gtr (decide_eq_false (by omega)))) ?_; clear F a; intro a F
    refine wpList_nil ?_
    replace F : Fr 73 a [(0, .slice (some adr) n cl), (2, .bool false), (3, .int .i64 ((q + r) + ((xt.length / 64 : Nat) : Int))), (4, .int .i64 ((i : Nat) : Int)), (5, .pointer (some ⟨g5, 0, none⟩)), (13, .bool true), (23, .bool false), (31, .bool true), (42, .bool false)] := F.keep ⟨rfl, rfl, rfl, rfl, rfl, rfl, rfl, rfl, rfl, trivial⟩
    refine then_n ?_
    refine wp_cond_false (F.e rfl) ?_
    refine wp_skip ?_
    refine then_n ?_
    refine wp_seq ?_
    refine wp_region_lit ?_
    refine list_val F (wn rfl) rfl rfl (.pointer (some ⟨g5, 0, none⟩)) (ex_fa _ _ _ rfl _ (F.e rfl) 0 dp_fa_42_0_0 ⟨g5, 0, none⟩ rfl) ?_; clear F a; intro a F
    refine list_val F (wn rfl) rfl rfl (.agg ((bcs xs).toArray)) (ex_load _ _ rfl _ (F.e rfl) _ (lvr (cs := bcs xs) (by rw [bcs_len, show _ = 16 from hxs]; exact dp_row_40_16) (wd_salt (M.at (i := 0) rfl)))) ?_; clear F a; intro a F
    refine list_val F (wn rfl) rfl rfl (.pointer (some ⟨g5, 16, none⟩)) (ex_fa _ _ _ rfl _ (F.e rfl) 16 dp_fa_42_1_16 ⟨g5, 16, none⟩ rfl) ?_; clear F a; intro a F
    refine list_val F (wn rfl) rfl rfl (.string (strB xt)) (ex_load _ _ rfl _ (F.e rfl) _ (lv1 dp_one_9 (M.cell (i := 0) rfl (j := 16) (wd_a16 hxs)))) ?_; clear F a; intro a F
    refine list_val F (wn rfl) rfl rfl (.pointer (some ⟨g5, 17, none⟩)) (ex_fa _ _ _ rfl _ (F.e rfl) 17 dp_fa_42_2_17 ⟨g5, 17, none⟩ rfl) ?_; clear F a; intro a F
    refine list_val F (wn rfl) rfl rfl (.int .i64 r) (ex_load _ _ rfl _ (F.e rfl) _ (lv1 dp_one_3 (M.cell (i := 0) rfl (j := 17) (wd_a17 hxs)))) ?_; clear F a; intro a F
    refine list_do (wn rfl) (fun K hK => ?_)
    refine ow_call rfl rfl F 24 #[.agg ((bcs xs).toArray), .string (strB xt), .int .i64 r] (ex_call 24 _ _ rfl rfl dp_ent_24 _ (map3 (F.e rfl) (F.e rfl) (F.e rfl))) (refPass_any xs xt hxs (by omega) r _) (fun e u hR => ?_)
    obtain ⟨he, hb⟩ := hR
    refine ⟨.tuple #[.agg ((bcs ((passF xs xt r).1)).toArray), .int .i64 ((passF xs xt r).2)], he, ?_⟩; clear he F a; intro a F
    refine hK _ _ ?_
    clear hK K
    replace M := M.below hb; clear hb; try clear v
    refine list_val F (wn rfl) rfl rfl (.tuple #[.agg ((bcs ((passF xs xt r).1)).toArray), .int .i64 ((passF xs xt r).2)]) (ex_move _ rfl _ (F.e rfl)) ?_; clear F a; intro a F
    refine list_val F (wn rfl) rfl rfl (.agg ((bcs ((passF xs xt r).1)).toArray)) (ex_extract _ _ rfl _ (F.e rfl) _ rfl) ?_; clear F a; intro a F
    refine list_val F (wn rfl) rfl rfl (.int .i64 ((passF xs xt r).2)) (ex_extract _ _ rfl _ (F.e rfl) _ rfl) ?_; clear F a; intro a F
    refine list_do (wn rfl) (fun K hK => ?_)
    refine ow_alloc F M rfl rfl 24 rfl (.agg (bcs (List.replicate 32 0)).toArray) z24 ((bcs (List.replicate 32 0)).toArray) rfl ?_
    clear F M a; intro a g6 v F M hb hg
    refine hK _ _ ?_
    clear hK K
    clear hb hg; try clear u
    refine list_do (wn rfl) (fun K hK => ?_)
    refine ow_put F M rfl 24 _ _ rfl 0 _ ((bcs (List.replicate 32 0)).toArray) _ rfl (F.e rfl) ((bcs ((passF xs xt r).1)).toArray) (F.e rfl) (sz24 (passF_len _ _ _)) (sz_eqb 32 rfl (passF_len _ _ _)) (all_oneCell_toArray (bcs_one _)) ?_
    clear F a; have Mo := M; clear M; intro a u F M hgr
    refine hK _ _ ?_
    clear hK K
    clear Mo hgr; try clear v
    replace M : Mm w u [⟨g6, (bcs ((passF xs xt r).1)).toArray, 24⟩, ⟨g5, (wdCs xs xt r).toArray, 42⟩] := M
    refine list_val F (wn rfl) rfl rfl (.int .i64 ((passF xs xt r).2)) (ex_assign _ rfl _ (F.e rfl)) ?_; clear F a; intro a F
    refine wpList_nil ?_
    replace F : Fr 73 a [(0, .slice (some adr) n cl), (2, .bool false), (3, .int .i64 ((q + r) + ((xt.length / 64 : Nat) : Int))), (4, .int .i64 ((i : Nat) : Int)), (5, .pointer (some ⟨g5, 0, none⟩)), (6, .pointer (some ⟨g6, 0, none⟩)), (7, .int .i64 ((passF xs xt r).2)), (13, .bool true), (23, .bool false), (31, .bool true), (42, .bool false)] := F.keep ⟨rfl, rfl, rfl, rfl, rfl, rfl, rfl, rfl, rfl, rfl, rfl, trivial⟩
    refine then_n ?_
    refine wp_seq ?_
    refine wp_region_lit ?_
    refine list_val F (wn rfl) rfl rfl (.pointer (some ⟨g5, 0, none⟩)) (ex_fa _ _ _ rfl _ (F.e rfl) 0 dp_fa_42_0_0 ⟨g5, 0, none⟩ rfl) ?_; clear F a; intro a F
    refine list_val F (wn rfl) rfl rfl (.agg ((bcs xs).toArray)) (ex_load _ _ rfl _ (F.e rfl) _ (lvr (cs := bcs xs) (by rw [bcs_len, show _ = 16 from hxs]; exact dp_row_40_16) (wd_salt (M.at (i := 1) rfl)))) ?_; clear F a; intro a F
    refine list_val F (wn rfl) rfl rfl (.pointer (some ⟨g5, 16, none⟩)) (ex_fa _ _ _ rfl _ (F.e rfl) 16 dp_fa_42_1_16 ⟨g5, 16, none⟩ rfl) ?_; clear F a; intro a F
    refine list_val F (wn rfl) rfl rfl (.string (strB xt)) (ex_load _ _ rfl _ (F.e rfl) _ (lv1 dp_one_9 (M.cell (i := 1) rfl (j := 16) (wd_a16 hxs)))) ?_; clear F a; intro a F
    refine list_val F (wn rfl) rfl rfl (.pointer (some ⟨g5, 17, none⟩)) (ex_fa _ _ _ rfl _ (F.e rfl) 17 dp_fa_42_2_17 ⟨g5, 17, none⟩ rfl) ?_; clear F a; intro a F
    refine list_val F (wn rfl) rfl rfl (.int .i64 r) (ex_load _ _ rfl _ (F.e rfl) _ (lv1 dp_one_3 (M.cell (i := 1) rfl (j := 17) (wd_a17 hxs)))) ?_; clear F a; intro a F
    refine list_do (wn rfl) (fun K hK => ?_)
    refine ow_call rfl rfl F 25 #[.agg ((bcs xs).toArray), .string (strB xt), .int .i64 r] (ex_call 25 _ _ rfl rfl dp_ent_25 _ (map3 (F.e rfl) (F.e rfl) (F.e rfl))) (pass_any xs xt hxs (by simp only [maxLen]; omega) r _ (hKt.below M.bel)) (fun e v hR => ?_)
    obtain ⟨he, hb⟩ := hR
    refine ⟨.tuple #[.agg ((bcs ((passF xs xt r).1)).toArray), .int .i64 ((passF xs xt r).2)], he, ?_⟩; clear he F a; intro a F
    refine hK _ _ ?_
    clear hK K
    replace M := M.below hb; clear hb; try clear u
    refine list_val F (wn rfl) rfl rfl (.tuple #[.agg ((bcs ((passF xs xt r).1)).toArray), .int .i64 ((passF xs xt r).2)]) (ex_move _ rfl _ (F.e rfl)) ?_; clear F a; intro a F
    refine list_val F (wn rfl) rfl rfl (.agg ((bcs ((passF xs xt r).1)).toArray)) (ex_extract _ _ rfl _ (F.e rfl) _ rfl) ?_; clear F a; intro a F
    refine list_val F (wn rfl) rfl rfl (.int .i64 ((passF xs xt r).2)) (ex_extract _ _ rfl _ (F.e rfl) _ rfl) ?_; clear F a; intro a F
    refine list_do (wn rfl) (fun K hK => ?_)
    refine ow_alloc F M rfl rfl 24 rfl (.agg (bcs (List.replicate 32 0)).toArray) z24 ((bcs (List.replicate 32 0)).toArray) rfl ?_
    clear F M a; intro a g8 u F M hb hg
    refine hK _ _ ?_
    clear hK K
    clear hb hg; try clear v
    refine list_do (wn rfl) (fun K hK => ?_)
    refine ow_put F M rfl 24 _ _ rfl 0 _ ((bcs (List.replicate 32 0)).toArray) _ rfl (F.e rfl) ((bcs ((passF xs xt r).1)).toArray) (F.e rfl) (sz24 (passF_len _ _ _)) (sz_eqb 32 rfl (passF_len _ _ _)) (all_oneCell_toArray (bcs_one _)) ?_
    clear F a; have Mo := M; clear M; intro a v F M hgr
    refine hK _ _ ?_
    clear hK K
    clear Mo hgr; try clear u
    replace M : Mm w v [⟨g8, (bcs ((passF xs xt r).1)).toArray, 24⟩, ⟨g6, (bcs ((passF xs xt r).1)).toArray, 24⟩, ⟨g5, (wdCs xs xt r).toArray, 42⟩] := M
    refine list_val F (wn rfl) rfl rfl (.int .i64 ((passF xs xt r).2)) (ex_assign _ rfl _ (F.e rfl)) ?_; clear F a; intro a F
    refine wpList_nil ?_
    replace F : Fr 73 a [(0, .slice (some adr) n cl), (2, .bool false), (3, .int .i64 ((q + r) + ((xt.length / 64 : Nat) : Int))), (4, .int .i64 ((i : Nat) : Int)), (5, .pointer (some ⟨g5, 0, none⟩)), (6, .pointer (some ⟨g6, 0, none⟩)), (7, .int .i64 ((passF xs xt r).2)), (8, .pointer (some ⟨g8, 0, none⟩)), (9, .int .i64 ((passF xs xt r).2)), (13, .bool true), (23, .bool false), (31, .bool true), (42, .bool false)] := F.keep ⟨rfl, rfl, rfl, rfl, rfl, rfl, rfl, rfl, rfl, rfl, rfl, rfl, rfl, trivial⟩
    refine then_n ?_
    refine wp_seq ?_
    refine wp_region_lit ?_
    refine list_val F (wn rfl) rfl rfl (.agg ((bcs ((passF xs xt r).1)).toArray)) (ex_load _ _ rfl _ (F.e rfl) _ (lvr (cs := bcs ((passF xs xt r).1)) (by rw [bcs_len, show _ = 32 from (passF_len _ _ _)]; exact dp_row_24_32) (M.at (i := 0) rfl))) ?_; clear F a; intro a F
    refine list_val F (wn rfl) rfl rfl (.agg ((bcs ((passF xs xt r).1)).toArray)) (ex_load _ _ rfl _ (F.e rfl) _ (lvr (cs := bcs ((passF xs xt r).1)) (by rw [bcs_len, show _ = 32 from (passF_len _ _ _)]; exact dp_row_24_32) (M.at (i := 1) rfl))) ?_; clear F a; intro a F
    refine list_val F (wn rfl) rfl rfl (.bool false) (ex_neqA 24 _ _ _ rfl 32 dp_ab_24_32 ((passF xs xt r).1) ((passF xs xt r).1) (passF_len _ _ _) (passF_len _ _ _) (F.e rfl) (F.e rfl) false (not_self _)) ?_; clear F a; intro a F
    refine list_val F (wn rfl) rfl rfl (.bool false) (ex_move _ rfl _ (F.e rfl)) ?_; clear F a; intro a F
    refine list_val F (F.wants 66 false rfl (by kernel_rfl) rfl true rfl) rfl rfl (.int .i64 ((passF xs xt r).2)) (ex_move _ rfl _ (F.e rfl)) ?_; clear F a; intro a F
    refine list_do (F.wants 66 false rfl (by kernel_rfl) rfl true rfl) (fun K hK => ?_)
    refine ow_call rfl rfl F 26 #[.int .i64 ((passF xs xt r).2)] (ex_call 26 _ _ rfl rfl dp_ent_26 _ (map1 (F.e rfl))) (num_any _ _) (fun e u hR => ?_)
    obtain ⟨he, hw⟩ := hR
    refine ⟨.int .i64 ((passF xs xt r).2), he, ?_⟩; clear he F a; intro a F
    obtain rfl := hw
    refine hK _ _ ?_
    clear hK K
    refine list_val F (F.wants 66 false rfl (by kernel_rfl) rfl true rfl) rfl rfl (.int .i64 ((passF xs xt r).2)) (ex_move _ rfl _ (F.e rfl)) ?_; clear F a; intro a F
    refine list_val F (F.wants 66 false rfl (by kernel_rfl) rfl true rfl) rfl rfl (.bool false) (ex_bin .neq _ _ _ _ rfl .i64 _ _ (F.e rfl) (F.e rfl) _ (b_neq (by simp))) ?_; clear F a; intro a F
    refine list_val F (wn rfl) rfl rfl (.bool false) (ex_pick_f _ _ _ rfl (F.e rfl) _ (F.e rfl)) ?_; clear F a; intro a F
    refine wpList_nil ?_
    replace F : Fr 73 a [(0, .slice (some adr) n cl), (2, .bool false), (3, .int .i64 ((q + r) + ((xt.length / 64 : Nat) : Int))), (4, .int .i64 ((i : Nat) : Int)), (5, .pointer (some ⟨g5, 0, none⟩)), (6, .pointer (some ⟨g6, 0, none⟩)), (7, .int .i64 ((passF xs xt r).2)), (8, .pointer (some ⟨g8, 0, none⟩)), (9, .int .i64 ((passF xs xt r).2)), (13, .bool true), (23, .bool false), (31, .bool true), (42, .bool false), (71, .bool false)] := F.keep ⟨rfl, rfl, rfl, rfl, rfl, rfl, rfl, rfl, rfl, rfl, rfl, rfl, rfl, rfl, trivial⟩
    refine then_n ?_
    refine wp_cond_false (F.e rfl) ?_
    refine wp_skip ?_
    refine in_n ?_
    refine then_n ?_
    refine wp_region_lit ?_
    refine list_val F (wn rfl) rfl rfl (.int .i64 ((i : Nat) : Int)) (ex_move _ rfl _ (F.e rfl)) ?_; clear F a; intro a F
    refine list_val F (wn rfl) rfl rfl (.int .i64 ((i + 1 : Nat) : Int)) (ex_bin .add _ _ _ _ rfl .i64 _ _ (F.e rfl) rfl _ (b_add ((w_i64 (by omega) (by omega)).trans (by omega)))) ?_; clear F a; intro a F
    refine list_val F (wn rfl) rfl rfl (.int .i64 ((i + 1 : Nat) : Int)) (ex_assign _ rfl _ (F.e rfl)) ?_; clear F a; intro a F
    refine wpList_nil ?_
    replace F : Fr 73 a [(0, .slice (some adr) n cl), (2, .bool false), (3, .int .i64 ((q + r) + ((xt.length / 64 : Nat) : Int))), (4, .int .i64 ((i + 1 : Nat) : Int)), (5, .pointer (some ⟨g5, 0, none⟩)), (6, .pointer (some ⟨g6, 0, none⟩)), (7, .int .i64 ((passF xs xt r).2)), (8, .pointer (some ⟨g8, 0, none⟩)), (9, .int .i64 ((passF xs xt r).2)), (13, .bool true), (23, .bool false), (31, .bool true), (42, .bool false), (71, .bool false)] := F.keep ⟨rfl, rfl, rfl, rfl, rfl, rfl, rfl, rfl, rfl, rfl, rfl, rfl, rfl, rfl, trivial⟩
    refine then_n ?_
    exact ⟨n - (i + 1), by omega, (i + 1), (q + r) + ((xt.length / 64 : Nat) : Int), F.keep ⟨rfl, rfl, rfl, rfl, trivial⟩, (by refine M.pick' [] _ ?_ (by decide); exact trivial), (by omega), (by omega), (by omega), (by omega)⟩
   refine wp_region_lit ?_
   refine list_val F (wn rfl) rfl rfl (.pointer (some ⟨g5, 17, none⟩)) (ex_fa _ _ _ rfl _ (F.e rfl) 17 dp_fa_42_2_17 ⟨g5, 17, none⟩ rfl) ?_; clear F a; intro a F
   refine list_val F (wn rfl) rfl rfl (.int .i64 r) (ex_load _ _ rfl _ (F.e rfl) _ (lv1 dp_one_3 (M.cell (i := 0) rfl (j := 17) (wd_a17 hxs)))) ?_; clear F a; intro a F
   refine list_val F (wn rfl) rfl rfl (.bool true) (ex_bin .gtr _ _ _ _ rfl .i64 _ _ (F.e rfl) rfl _ (b_gtr (decide_eq_true (by omega)))) ?_; clear F a; intro a F
   refine list_val F (wn rfl) rfl rfl (.bool true) (ex_move _ rfl _ (F.e rfl)) ?_; clear F a; intro a F
   refine list_val F (F.wants 27 true rfl (by kernel_rfl) rfl true rfl) rfl rfl (.pointer (some ⟨g5, 17, none⟩)) (ex_fa _ _ _ rfl _ (F.e rfl) 17 dp_fa_42_2_17 ⟨g5, 17, none⟩ rfl) ?_; clear F a; intro a F
   refine list_val F (F.wants 27 true rfl (by kernel_rfl) rfl true rfl) rfl rfl (.int .i64 r) (ex_load _ _ rfl _ (F.e rfl) _ (lv1 dp_one_3 (M.cell (i := 0) rfl (j := 17) (wd_a17 hxs)))) ?_; clear F a; intro a F
   refine list_val F (F.wants 27 true rfl (by kernel_rfl) rfl true rfl) rfl rfl (.bool false) (ex_bin .leq _ _ _ _ rfl .i64 _ _ (F.e rfl) rfl _ (b_leq (decide_eq_false (by omega)))) ?_; clear F a; intro a F
   refine list_val F (wn rfl) rfl rfl (.bool false) (ex_pick_t _ _ _ rfl (F.e rfl) _ (F.e rfl)) ?_; clear F a; intro a F
   refine wpList_nil ?_
   replace F : Fr 73 a [(0, .slice (some adr) n cl), (2, .bool false), (3, .int .i64 q), (4, .int .i64 ((i : Nat) : Int)), (5, .pointer (some ⟨g5, 0, none⟩)), (13, .bool true), (23, .bool false), (31, .bool false)] := F.keep ⟨rfl, rfl, rfl, rfl, rfl, rfl, rfl, rfl, trivial⟩
   refine then_n ?_
   refine wp_cond_false (F.e rfl) ?_
   refine wp_skip ?_
   refine then_n ?_
   refine wp_seq ?_
   refine wp_seq ?_
   by_cases hmany : 12000 < q
   ·
    refine wp_region_lit ?_
    refine list_val F (wn rfl) rfl rfl (.int .i64 q) (ex_move _ rfl _ (F.e rfl)) ?_; clear F a; intro a F
    refine list_val F (wn rfl) rfl rfl (.bool true) (ex_bin .gtr _ _ _ _ rfl .i64 _ _ (F.e rfl) rfl _ (b_gtr (decide_eq_true (by omega)))) ?_; clear F a; intro a F
    refine wpList_nil ?_
    replace F : Fr 73 a [(0, .slice (some adr) n cl), (2, .bool false), (3, .int .i64 q), (4, .int .i64 ((i : Nat) : Int)), (5, .pointer (some ⟨g5, 0, none⟩)), (13, .bool true), (23, .bool false), (31, .bool false), (42, .bool true)] := F.keep ⟨rfl, rfl, rfl, rfl, rfl, rfl, rfl, rfl, rfl, trivial⟩
    refine then_n ?_
    refine wp_cond_true (F.e rfl) ?_
    refine wp_exit ?_
    refine then_x ?_
    refine in_miss rfl ?_
    refine then_x ?_
    refine then_x ?_
    refine in_hit ?_
    refine then_n ?_
    refine wp_seq ?_
    refine wp_region_lit ?_
    refine list_do (wn rfl) (fun K hK => ?_)
    refine ow_call rfl rfl F 19 #[] (ex_call 19 _ _ rfl rfl dp_ent_19 _ (map0)) (wakes_any _ (hKt.below M.bel)) (fun e u hR => ?_)
    obtain ⟨he, hb⟩ := hR
    refine ⟨.bool true, he, ?_⟩; clear he F a; intro a F
    refine hK _ _ ?_
    clear hK K
    replace M := M.below hb; clear hb; try clear v
    refine list_val F (wn rfl) rfl rfl (.bool true) (ex_assign _ rfl _ (F.e rfl)) ?_; clear F a; intro a F
    refine wpList_nil ?_
    replace F : Fr 73 a [(0, .slice (some adr) n cl), (2, .bool true), (3, .int .i64 q), (4, .int .i64 ((i : Nat) : Int)), (5, .pointer (some ⟨g5, 0, none⟩)), (13, .bool true), (23, .bool false), (31, .bool false), (42, .bool true)] := F.keep ⟨rfl, rfl, rfl, rfl, rfl, rfl, rfl, rfl, rfl, trivial⟩
    refine then_n ?_
    refine wp_ret ?_
    exact ret_tmp F rfl rfl ⟨rfl, M.bel⟩
   refine wp_region_lit ?_
   refine list_val F (wn rfl) rfl rfl (.int .i64 q) (ex_move _ rfl _ (F.e rfl)) ?_; clear F a; intro a F
   refine list_val F (wn rfl) rfl rfl (.bool false) (ex_bin .gtr _ _ _ _ rfl .i64 _ _ (F.e rfl) rfl _ (b_gtr (decide_eq_false (by omega)))) ?_; clear F a; intro a F
   refine wpList_nil ?_
   replace F : Fr 73 a [(0, .slice (some adr) n cl), (2, .bool false), (3, .int .i64 q), (4, .int .i64 ((i : Nat) : Int)), (5, .pointer (some ⟨g5, 0, none⟩)), (13, .bool true), (23, .bool false), (31, .bool false), (42, .bool false)] := F.keep ⟨rfl, rfl, rfl, rfl, rfl, rfl, rfl, rfl, rfl, trivial⟩
   refine then_n ?_
   refine wp_cond_false (F.e rfl) ?_
   refine wp_skip ?_
   refine then_n ?_
   refine wp_seq ?_
   refine wp_region_lit ?_
   refine list_val F (wn rfl) rfl rfl (.pointer (some ⟨g5, 0, none⟩)) (ex_fa _ _ _ rfl _ (F.e rfl) 0 dp_fa_42_0_0 ⟨g5, 0, none⟩ rfl) ?_; clear F a; intro a F
   refine list_val F (wn rfl) rfl rfl (.agg ((bcs xs).toArray)) (ex_load _ _ rfl _ (F.e rfl) _ (lvr (cs := bcs xs) (by rw [bcs_len, show _ = 16 from hxs]; exact dp_row_40_16) (wd_salt (M.at (i := 0) rfl)))) ?_; clear F a; intro a F
   refine list_val F (wn rfl) rfl rfl (.pointer (some ⟨g5, 16, none⟩)) (ex_fa _ _ _ rfl _ (F.e rfl) 16 dp_fa_42_1_16 ⟨g5, 16, none⟩ rfl) ?_; clear F a; intro a F
   refine list_val F (wn rfl) rfl rfl (.string (strB xt)) (ex_load _ _ rfl _ (F.e rfl) _ (lv1 dp_one_9 (M.cell (i := 0) rfl (j := 16) (wd_a16 hxs)))) ?_; clear F a; intro a F
   refine list_val F (wn rfl) rfl rfl (.pointer (some ⟨g5, 17, none⟩)) (ex_fa _ _ _ rfl _ (F.e rfl) 17 dp_fa_42_2_17 ⟨g5, 17, none⟩ rfl) ?_; clear F a; intro a F
   refine list_val F (wn rfl) rfl rfl (.int .i64 r) (ex_load _ _ rfl _ (F.e rfl) _ (lv1 dp_one_3 (M.cell (i := 0) rfl (j := 17) (wd_a17 hxs)))) ?_; clear F a; intro a F
   refine list_do (wn rfl) (fun K hK => ?_)
   refine ow_call rfl rfl F 24 #[.agg ((bcs xs).toArray), .string (strB xt), .int .i64 r] (ex_call 24 _ _ rfl rfl dp_ent_24 _ (map3 (F.e rfl) (F.e rfl) (F.e rfl))) (refPass_any xs xt hxs (by omega) r _) (fun e u hR => ?_)
   obtain ⟨he, hb⟩ := hR
   refine ⟨.tuple #[.agg ((bcs ((passF xs xt r).1)).toArray), .int .i64 ((passF xs xt r).2)], he, ?_⟩; clear he F a; intro a F
   refine hK _ _ ?_
   clear hK K
   replace M := M.below hb; clear hb; try clear v
   refine list_val F (wn rfl) rfl rfl (.tuple #[.agg ((bcs ((passF xs xt r).1)).toArray), .int .i64 ((passF xs xt r).2)]) (ex_move _ rfl _ (F.e rfl)) ?_; clear F a; intro a F
   refine list_val F (wn rfl) rfl rfl (.agg ((bcs ((passF xs xt r).1)).toArray)) (ex_extract _ _ rfl _ (F.e rfl) _ rfl) ?_; clear F a; intro a F
   refine list_val F (wn rfl) rfl rfl (.int .i64 ((passF xs xt r).2)) (ex_extract _ _ rfl _ (F.e rfl) _ rfl) ?_; clear F a; intro a F
   refine list_do (wn rfl) (fun K hK => ?_)
   refine ow_alloc F M rfl rfl 24 rfl (.agg (bcs (List.replicate 32 0)).toArray) z24 ((bcs (List.replicate 32 0)).toArray) rfl ?_
   clear F M a; intro a g6 v F M hb hg
   refine hK _ _ ?_
   clear hK K
   clear hb hg; try clear u
   refine list_do (wn rfl) (fun K hK => ?_)
   refine ow_put F M rfl 24 _ _ rfl 0 _ ((bcs (List.replicate 32 0)).toArray) _ rfl (F.e rfl) ((bcs ((passF xs xt r).1)).toArray) (F.e rfl) (sz24 (passF_len _ _ _)) (sz_eqb 32 rfl (passF_len _ _ _)) (all_oneCell_toArray (bcs_one _)) ?_
   clear F a; have Mo := M; clear M; intro a u F M hgr
   refine hK _ _ ?_
   clear hK K
   clear Mo hgr; try clear v
   replace M : Mm w u [⟨g6, (bcs ((passF xs xt r).1)).toArray, 24⟩, ⟨g5, (wdCs xs xt r).toArray, 42⟩] := M
   refine list_val F (wn rfl) rfl rfl (.int .i64 ((passF xs xt r).2)) (ex_assign _ rfl _ (F.e rfl)) ?_; clear F a; intro a F
   refine wpList_nil ?_
   replace F : Fr 73 a [(0, .slice (some adr) n cl), (2, .bool false), (3, .int .i64 q), (4, .int .i64 ((i : Nat) : Int)), (5, .pointer (some ⟨g5, 0, none⟩)), (6, .pointer (some ⟨g6, 0, none⟩)), (7, .int .i64 ((passF xs xt r).2)), (13, .bool true), (23, .bool false), (31, .bool false), (42, .bool false)] := F.keep ⟨rfl, rfl, rfl, rfl, rfl, rfl, rfl, rfl, rfl, rfl, rfl, trivial⟩
   refine then_n ?_
   refine wp_seq ?_
   refine wp_region_lit ?_
   refine list_val F (wn rfl) rfl rfl (.pointer (some ⟨g5, 0, none⟩)) (ex_fa _ _ _ rfl _ (F.e rfl) 0 dp_fa_42_0_0 ⟨g5, 0, none⟩ rfl) ?_; clear F a; intro a F
   refine list_val F (wn rfl) rfl rfl (.agg ((bcs xs).toArray)) (ex_load _ _ rfl _ (F.e rfl) _ (lvr (cs := bcs xs) (by rw [bcs_len, show _ = 16 from hxs]; exact dp_row_40_16) (wd_salt (M.at (i := 1) rfl)))) ?_; clear F a; intro a F
   refine list_val F (wn rfl) rfl rfl (.pointer (some ⟨g5, 16, none⟩)) (ex_fa _ _ _ rfl _ (F.e rfl) 16 dp_fa_42_1_16 ⟨g5, 16, none⟩ rfl) ?_; clear F a; intro a F
   refine list_val F (wn rfl) rfl rfl (.string (strB xt)) (ex_load _ _ rfl _ (F.e rfl) _ (lv1 dp_one_9 (M.cell (i := 1) rfl (j := 16) (wd_a16 hxs)))) ?_; clear F a; intro a F
   refine list_val F (wn rfl) rfl rfl (.pointer (some ⟨g5, 17, none⟩)) (ex_fa _ _ _ rfl _ (F.e rfl) 17 dp_fa_42_2_17 ⟨g5, 17, none⟩ rfl) ?_; clear F a; intro a F
   refine list_val F (wn rfl) rfl rfl (.int .i64 r) (ex_load _ _ rfl _ (F.e rfl) _ (lv1 dp_one_3 (M.cell (i := 1) rfl (j := 17) (wd_a17 hxs)))) ?_; clear F a; intro a F
   refine list_do (wn rfl) (fun K hK => ?_)
   refine ow_call rfl rfl F 25 #[.agg ((bcs xs).toArray), .string (strB xt), .int .i64 r] (ex_call 25 _ _ rfl rfl dp_ent_25 _ (map3 (F.e rfl) (F.e rfl) (F.e rfl))) (pass_any xs xt hxs (by simp only [maxLen]; omega) r _ (hKt.below M.bel)) (fun e v hR => ?_)
   obtain ⟨he, hb⟩ := hR
   refine ⟨.tuple #[.agg ((bcs ((passF xs xt r).1)).toArray), .int .i64 ((passF xs xt r).2)], he, ?_⟩; clear he F a; intro a F
   refine hK _ _ ?_
   clear hK K
   replace M := M.below hb; clear hb; try clear u
   refine list_val F (wn rfl) rfl rfl (.tuple #[.agg ((bcs ((passF xs xt r).1)).toArray), .int .i64 ((passF xs xt r).2)]) (ex_move _ rfl _ (F.e rfl)) ?_; clear F a; intro a F
   refine list_val F (wn rfl) rfl rfl (.agg ((bcs ((passF xs xt r).1)).toArray)) (ex_extract _ _ rfl _ (F.e rfl) _ rfl) ?_; clear F a; intro a F
   refine list_val F (wn rfl) rfl rfl (.int .i64 ((passF xs xt r).2)) (ex_extract _ _ rfl _ (F.e rfl) _ rfl) ?_; clear F a; intro a F
   refine list_do (wn rfl) (fun K hK => ?_)
   refine ow_alloc F M rfl rfl 24 rfl (.agg (bcs (List.replicate 32 0)).toArray) z24 ((bcs (List.replicate 32 0)).toArray) rfl ?_
   clear F M a; intro a g8 u F M hb hg
   refine hK _ _ ?_
   clear hK K
   clear hb hg; try clear v
   refine list_do (wn rfl) (fun K hK => ?_)
   refine ow_put F M rfl 24 _ _ rfl 0 _ ((bcs (List.replicate 32 0)).toArray) _ rfl (F.e rfl) ((bcs ((passF xs xt r).1)).toArray) (F.e rfl) (sz24 (passF_len _ _ _)) (sz_eqb 32 rfl (passF_len _ _ _)) (all_oneCell_toArray (bcs_one _)) ?_
   clear F a; have Mo := M; clear M; intro a v F M hgr
   refine hK _ _ ?_
   clear hK K
   clear Mo hgr; try clear u
   replace M : Mm w v [⟨g8, (bcs ((passF xs xt r).1)).toArray, 24⟩, ⟨g6, (bcs ((passF xs xt r).1)).toArray, 24⟩, ⟨g5, (wdCs xs xt r).toArray, 42⟩] := M
   refine list_val F (wn rfl) rfl rfl (.int .i64 ((passF xs xt r).2)) (ex_assign _ rfl _ (F.e rfl)) ?_; clear F a; intro a F
   refine wpList_nil ?_
   replace F : Fr 73 a [(0, .slice (some adr) n cl), (2, .bool false), (3, .int .i64 q), (4, .int .i64 ((i : Nat) : Int)), (5, .pointer (some ⟨g5, 0, none⟩)), (6, .pointer (some ⟨g6, 0, none⟩)), (7, .int .i64 ((passF xs xt r).2)), (8, .pointer (some ⟨g8, 0, none⟩)), (9, .int .i64 ((passF xs xt r).2)), (13, .bool true), (23, .bool false), (31, .bool false), (42, .bool false)] := F.keep ⟨rfl, rfl, rfl, rfl, rfl, rfl, rfl, rfl, rfl, rfl, rfl, rfl, rfl, trivial⟩
   refine then_n ?_
   refine wp_seq ?_
   refine wp_region_lit ?_
   refine list_val F (wn rfl) rfl rfl (.agg ((bcs ((passF xs xt r).1)).toArray)) (ex_load _ _ rfl _ (F.e rfl) _ (lvr (cs := bcs ((passF xs xt r).1)) (by rw [bcs_len, show _ = 32 from (passF_len _ _ _)]; exact dp_row_24_32) (M.at (i := 0) rfl))) ?_; clear F a; intro a F
   refine list_val F (wn rfl) rfl rfl (.agg ((bcs ((passF xs xt r).1)).toArray)) (ex_load _ _ rfl _ (F.e rfl) _ (lvr (cs := bcs ((passF xs xt r).1)) (by rw [bcs_len, show _ = 32 from (passF_len _ _ _)]; exact dp_row_24_32) (M.at (i := 1) rfl))) ?_; clear F a; intro a F
   refine list_val F (wn rfl) rfl rfl (.bool false) (ex_neqA 24 _ _ _ rfl 32 dp_ab_24_32 ((passF xs xt r).1) ((passF xs xt r).1) (passF_len _ _ _) (passF_len _ _ _) (F.e rfl) (F.e rfl) false (not_self _)) ?_; clear F a; intro a F
   refine list_val F (wn rfl) rfl rfl (.bool false) (ex_move _ rfl _ (F.e rfl)) ?_; clear F a; intro a F
   refine list_val F (F.wants 66 false rfl (by kernel_rfl) rfl true rfl) rfl rfl (.int .i64 ((passF xs xt r).2)) (ex_move _ rfl _ (F.e rfl)) ?_; clear F a; intro a F
   refine list_do (F.wants 66 false rfl (by kernel_rfl) rfl true rfl) (fun K hK => ?_)
   refine ow_call rfl rfl F 26 #[.int .i64 ((passF xs xt r).2)] (ex_call 26 _ _ rfl rfl dp_ent_26 _ (map1 (F.e rfl))) (num_any _ _) (fun e u hR => ?_)
   obtain ⟨he, hw⟩ := hR
   refine ⟨.int .i64 ((passF xs xt r).2), he, ?_⟩; clear he F a; intro a F
   obtain rfl := hw
   refine hK _ _ ?_
   clear hK K
   refine list_val F (F.wants 66 false rfl (by kernel_rfl) rfl true rfl) rfl rfl (.int .i64 ((passF xs xt r).2)) (ex_move _ rfl _ (F.e rfl)) ?_; clear F a; intro a F
   refine list_val F (F.wants 66 false rfl (by kernel_rfl) rfl true rfl) rfl rfl (.bool false) (ex_bin .neq _ _ _ _ rfl .i64 _ _ (F.e rfl) (F.e rfl) _ (b_neq (by simp))) ?_; clear F a; intro a F
   refine list_val F (wn rfl) rfl rfl (.bool false) (ex_pick_f _ _ _ rfl (F.e rfl) _ (F.e rfl)) ?_; clear F a; intro a F
   refine wpList_nil ?_
   replace F : Fr 73 a [(0, .slice (some adr) n cl), (2, .bool false), (3, .int .i64 q), (4, .int .i64 ((i : Nat) : Int)), (5, .pointer (some ⟨g5, 0, none⟩)), (6, .pointer (some ⟨g6, 0, none⟩)), (7, .int .i64 ((passF xs xt r).2)), (8, .pointer (some ⟨g8, 0, none⟩)), (9, .int .i64 ((passF xs xt r).2)), (13, .bool true), (23, .bool false), (31, .bool false), (42, .bool false), (71, .bool false)] := F.keep ⟨rfl, rfl, rfl, rfl, rfl, rfl, rfl, rfl, rfl, rfl, rfl, rfl, rfl, rfl, trivial⟩
   refine then_n ?_
   refine wp_cond_false (F.e rfl) ?_
   refine wp_skip ?_
   refine in_n ?_
   refine then_n ?_
   refine wp_region_lit ?_
   refine list_val F (wn rfl) rfl rfl (.int .i64 ((i : Nat) : Int)) (ex_move _ rfl _ (F.e rfl)) ?_; clear F a; intro a F
   refine list_val F (wn rfl) rfl rfl (.int .i64 ((i + 1 : Nat) : Int)) (ex_bin .add _ _ _ _ rfl .i64 _ _ (F.e rfl) rfl _ (b_add ((w_i64 (by omega) (by omega)).trans (by omega)))) ?_; clear F a; intro a F
   refine list_val F (wn rfl) rfl rfl (.int .i64 ((i + 1 : Nat) : Int)) (ex_assign _ rfl _ (F.e rfl)) ?_; clear F a; intro a F
   refine wpList_nil ?_
   replace F : Fr 73 a [(0, .slice (some adr) n cl), (2, .bool false), (3, .int .i64 q), (4, .int .i64 ((i + 1 : Nat) : Int)), (5, .pointer (some ⟨g5, 0, none⟩)), (6, .pointer (some ⟨g6, 0, none⟩)), (7, .int .i64 ((passF xs xt r).2)), (8, .pointer (some ⟨g8, 0, none⟩)), (9, .int .i64 ((passF xs xt r).2)), (13, .bool true), (23, .bool false), (31, .bool false), (42, .bool false), (71, .bool false)] := F.keep ⟨rfl, rfl, rfl, rfl, rfl, rfl, rfl, rfl, rfl, rfl, rfl, rfl, rfl, rfl, trivial⟩
   refine then_n ?_
   exact ⟨n - (i + 1), by omega, (i + 1), q, F.keep ⟨rfl, rfl, rfl, rfl, trivial⟩, (by refine M.pick' [] _ ?_ (by decide); exact trivial), (by omega), (by omega), (by omega), (by omega)⟩
  refine wp_region_lit ?_
  refine list_val F (wn rfl) rfl rfl (.pointer (some ⟨g5, 17, none⟩)) (ex_fa _ _ _ rfl _ (F.e rfl) 17 dp_fa_42_2_17 ⟨g5, 17, none⟩ rfl) ?_; clear F a; intro a F
  refine list_val F (wn rfl) rfl rfl (.int .i64 r) (ex_load _ _ rfl _ (F.e rfl) _ (lv1 dp_one_3 (M.cell (i := 0) rfl (j := 17) (wd_a17 hxs)))) ?_; clear F a; intro a F
  refine list_val F (wn rfl) rfl rfl (.bool false) (ex_bin .gtr _ _ _ _ rfl .i64 _ _ (F.e rfl) rfl _ (b_gtr (decide_eq_false (by omega)))) ?_; clear F a; intro a F
  refine list_val F (wn rfl) rfl rfl (.bool false) (ex_move _ rfl _ (F.e rfl)) ?_; clear F a; intro a F
  refine list_skip F (F.wants 27 false rfl (by kernel_rfl) rfl false rfl) rfl rfl ?_; clear F a; intro a F
  refine list_skip F (F.wants 27 false rfl (by kernel_rfl) rfl false rfl) rfl rfl ?_; clear F a; intro a F
  refine list_skip F (F.wants 27 false rfl (by kernel_rfl) rfl false rfl) rfl rfl ?_; clear F a; intro a F
  refine list_val F (wn rfl) rfl rfl (.bool false) (ex_pick_f _ _ _ rfl (F.e rfl) _ rfl) ?_; clear F a; intro a F
  refine wpList_nil ?_
  replace F : Fr 73 a [(0, .slice (some adr) n cl), (2, .bool false), (3, .int .i64 q), (4, .int .i64 ((i : Nat) : Int)), (5, .pointer (some ⟨g5, 0, none⟩)), (13, .bool true), (23, .bool false), (31, .bool false)] := F.keep ⟨rfl, rfl, rfl, rfl, rfl, rfl, rfl, rfl, trivial⟩
  refine then_n ?_
  refine wp_cond_false (F.e rfl) ?_
  refine wp_skip ?_
  refine then_n ?_
  refine wp_seq ?_
  refine wp_seq ?_
  by_cases hmany : 12000 < q
  ·
   refine wp_region_lit ?_
   refine list_val F (wn rfl) rfl rfl (.int .i64 q) (ex_move _ rfl _ (F.e rfl)) ?_; clear F a; intro a F
   refine list_val F (wn rfl) rfl rfl (.bool true) (ex_bin .gtr _ _ _ _ rfl .i64 _ _ (F.e rfl) rfl _ (b_gtr (decide_eq_true (by omega)))) ?_; clear F a; intro a F
   refine wpList_nil ?_
   replace F : Fr 73 a [(0, .slice (some adr) n cl), (2, .bool false), (3, .int .i64 q), (4, .int .i64 ((i : Nat) : Int)), (5, .pointer (some ⟨g5, 0, none⟩)), (13, .bool true), (23, .bool false), (31, .bool false), (42, .bool true)] := F.keep ⟨rfl, rfl, rfl, rfl, rfl, rfl, rfl, rfl, rfl, trivial⟩
   refine then_n ?_
   refine wp_cond_true (F.e rfl) ?_
   refine wp_exit ?_
   refine then_x ?_
   refine in_miss rfl ?_
   refine then_x ?_
   refine then_x ?_
   refine in_hit ?_
   refine then_n ?_
   refine wp_seq ?_
   refine wp_region_lit ?_
   refine list_do (wn rfl) (fun K hK => ?_)
   refine ow_call rfl rfl F 19 #[] (ex_call 19 _ _ rfl rfl dp_ent_19 _ (map0)) (wakes_any _ (hKt.below M.bel)) (fun e u hR => ?_)
   obtain ⟨he, hb⟩ := hR
   refine ⟨.bool true, he, ?_⟩; clear he F a; intro a F
   refine hK _ _ ?_
   clear hK K
   replace M := M.below hb; clear hb; try clear v
   refine list_val F (wn rfl) rfl rfl (.bool true) (ex_assign _ rfl _ (F.e rfl)) ?_; clear F a; intro a F
   refine wpList_nil ?_
   replace F : Fr 73 a [(0, .slice (some adr) n cl), (2, .bool true), (3, .int .i64 q), (4, .int .i64 ((i : Nat) : Int)), (5, .pointer (some ⟨g5, 0, none⟩)), (13, .bool true), (23, .bool false), (31, .bool false), (42, .bool true)] := F.keep ⟨rfl, rfl, rfl, rfl, rfl, rfl, rfl, rfl, rfl, trivial⟩
   refine then_n ?_
   refine wp_ret ?_
   exact ret_tmp F rfl rfl ⟨rfl, M.bel⟩
  refine wp_region_lit ?_
  refine list_val F (wn rfl) rfl rfl (.int .i64 q) (ex_move _ rfl _ (F.e rfl)) ?_; clear F a; intro a F
  refine list_val F (wn rfl) rfl rfl (.bool false) (ex_bin .gtr _ _ _ _ rfl .i64 _ _ (F.e rfl) rfl _ (b_gtr (decide_eq_false (by omega)))) ?_; clear F a; intro a F
  refine wpList_nil ?_
  replace F : Fr 73 a [(0, .slice (some adr) n cl), (2, .bool false), (3, .int .i64 q), (4, .int .i64 ((i : Nat) : Int)), (5, .pointer (some ⟨g5, 0, none⟩)), (13, .bool true), (23, .bool false), (31, .bool false), (42, .bool false)] := F.keep ⟨rfl, rfl, rfl, rfl, rfl, rfl, rfl, rfl, rfl, trivial⟩
  refine then_n ?_
  refine wp_cond_false (F.e rfl) ?_
  refine wp_skip ?_
  refine then_n ?_
  refine wp_seq ?_
  refine wp_region_lit ?_
  refine list_val F (wn rfl) rfl rfl (.pointer (some ⟨g5, 0, none⟩)) (ex_fa _ _ _ rfl _ (F.e rfl) 0 dp_fa_42_0_0 ⟨g5, 0, none⟩ rfl) ?_; clear F a; intro a F
  refine list_val F (wn rfl) rfl rfl (.agg ((bcs xs).toArray)) (ex_load _ _ rfl _ (F.e rfl) _ (lvr (cs := bcs xs) (by rw [bcs_len, show _ = 16 from hxs]; exact dp_row_40_16) (wd_salt (M.at (i := 0) rfl)))) ?_; clear F a; intro a F
  refine list_val F (wn rfl) rfl rfl (.pointer (some ⟨g5, 16, none⟩)) (ex_fa _ _ _ rfl _ (F.e rfl) 16 dp_fa_42_1_16 ⟨g5, 16, none⟩ rfl) ?_; clear F a; intro a F
  refine list_val F (wn rfl) rfl rfl (.string (strB xt)) (ex_load _ _ rfl _ (F.e rfl) _ (lv1 dp_one_9 (M.cell (i := 0) rfl (j := 16) (wd_a16 hxs)))) ?_; clear F a; intro a F
  refine list_val F (wn rfl) rfl rfl (.pointer (some ⟨g5, 17, none⟩)) (ex_fa _ _ _ rfl _ (F.e rfl) 17 dp_fa_42_2_17 ⟨g5, 17, none⟩ rfl) ?_; clear F a; intro a F
  refine list_val F (wn rfl) rfl rfl (.int .i64 r) (ex_load _ _ rfl _ (F.e rfl) _ (lv1 dp_one_3 (M.cell (i := 0) rfl (j := 17) (wd_a17 hxs)))) ?_; clear F a; intro a F
  refine list_do (wn rfl) (fun K hK => ?_)
  refine ow_call rfl rfl F 24 #[.agg ((bcs xs).toArray), .string (strB xt), .int .i64 r] (ex_call 24 _ _ rfl rfl dp_ent_24 _ (map3 (F.e rfl) (F.e rfl) (F.e rfl))) (refPass_any xs xt hxs (by omega) r _) (fun e u hR => ?_)
  obtain ⟨he, hb⟩ := hR
  refine ⟨.tuple #[.agg ((bcs ((passF xs xt r).1)).toArray), .int .i64 ((passF xs xt r).2)], he, ?_⟩; clear he F a; intro a F
  refine hK _ _ ?_
  clear hK K
  replace M := M.below hb; clear hb; try clear v
  refine list_val F (wn rfl) rfl rfl (.tuple #[.agg ((bcs ((passF xs xt r).1)).toArray), .int .i64 ((passF xs xt r).2)]) (ex_move _ rfl _ (F.e rfl)) ?_; clear F a; intro a F
  refine list_val F (wn rfl) rfl rfl (.agg ((bcs ((passF xs xt r).1)).toArray)) (ex_extract _ _ rfl _ (F.e rfl) _ rfl) ?_; clear F a; intro a F
  refine list_val F (wn rfl) rfl rfl (.int .i64 ((passF xs xt r).2)) (ex_extract _ _ rfl _ (F.e rfl) _ rfl) ?_; clear F a; intro a F
  refine list_do (wn rfl) (fun K hK => ?_)
  refine ow_alloc F M rfl rfl 24 rfl (.agg (bcs (List.replicate 32 0)).toArray) z24 ((bcs (List.replicate 32 0)).toArray) rfl ?_
  clear F M a; intro a g6 v F M hb hg
  refine hK _ _ ?_
  clear hK K
  clear hb hg; try clear u
  refine list_do (wn rfl) (fun K hK => ?_)
  refine ow_put F M rfl 24 _ _ rfl 0 _ ((bcs (List.replicate 32 0)).toArray) _ rfl (F.e rfl) ((bcs ((passF xs xt r).1)).toArray) (F.e rfl) (sz24 (passF_len _ _ _)) (sz_eqb 32 rfl (passF_len _ _ _)) (all_oneCell_toArray (bcs_one _)) ?_
  clear F a; have Mo := M; clear M; intro a u F M hgr
  refine hK _ _ ?_
  clear hK K
  clear Mo hgr; try clear v
  replace M : Mm w u [⟨g6, (bcs ((passF xs xt r).1)).toArray, 24⟩, ⟨g5, (wdCs xs xt r).toArray, 42⟩] := M
  refine list_val F (wn rfl) rfl rfl (.int .i64 ((passF xs xt r).2)) (ex_assign _ rfl _ (F.e rfl)) ?_; clear F a; intro a F
  refine wpList_nil ?_
  replace F : Fr 73 a [(0, .slice (some adr) n cl), (2, .bool false), (3, .int .i64 q), (4, .int .i64 ((i : Nat) : Int)), (5, .pointer (some ⟨g5, 0, none⟩)), (6, .pointer (some ⟨g6, 0, none⟩)), (7, .int .i64 ((passF xs xt r).2)), (13, .bool true), (23, .bool false), (31, .bool false), (42, .bool false)] := F.keep ⟨rfl, rfl, rfl, rfl, rfl, rfl, rfl, rfl, rfl, rfl, rfl, trivial⟩
  refine then_n ?_
  refine wp_seq ?_
  refine wp_region_lit ?_
  refine list_val F (wn rfl) rfl rfl (.pointer (some ⟨g5, 0, none⟩)) (ex_fa _ _ _ rfl _ (F.e rfl) 0 dp_fa_42_0_0 ⟨g5, 0, none⟩ rfl) ?_; clear F a; intro a F
  refine list_val F (wn rfl) rfl rfl (.agg ((bcs xs).toArray)) (ex_load _ _ rfl _ (F.e rfl) _ (lvr (cs := bcs xs) (by rw [bcs_len, show _ = 16 from hxs]; exact dp_row_40_16) (wd_salt (M.at (i := 1) rfl)))) ?_; clear F a; intro a F
  refine list_val F (wn rfl) rfl rfl (.pointer (some ⟨g5, 16, none⟩)) (ex_fa _ _ _ rfl _ (F.e rfl) 16 dp_fa_42_1_16 ⟨g5, 16, none⟩ rfl) ?_; clear F a; intro a F
  refine list_val F (wn rfl) rfl rfl (.string (strB xt)) (ex_load _ _ rfl _ (F.e rfl) _ (lv1 dp_one_9 (M.cell (i := 1) rfl (j := 16) (wd_a16 hxs)))) ?_; clear F a; intro a F
  refine list_val F (wn rfl) rfl rfl (.pointer (some ⟨g5, 17, none⟩)) (ex_fa _ _ _ rfl _ (F.e rfl) 17 dp_fa_42_2_17 ⟨g5, 17, none⟩ rfl) ?_; clear F a; intro a F
  refine list_val F (wn rfl) rfl rfl (.int .i64 r) (ex_load _ _ rfl _ (F.e rfl) _ (lv1 dp_one_3 (M.cell (i := 1) rfl (j := 17) (wd_a17 hxs)))) ?_; clear F a; intro a F
  refine list_do (wn rfl) (fun K hK => ?_)
  refine ow_call rfl rfl F 25 #[.agg ((bcs xs).toArray), .string (strB xt), .int .i64 r] (ex_call 25 _ _ rfl rfl dp_ent_25 _ (map3 (F.e rfl) (F.e rfl) (F.e rfl))) (pass_any xs xt hxs (by simp only [maxLen]; omega) r _ (hKt.below M.bel)) (fun e v hR => ?_)
  obtain ⟨he, hb⟩ := hR
  refine ⟨.tuple #[.agg ((bcs ((passF xs xt r).1)).toArray), .int .i64 ((passF xs xt r).2)], he, ?_⟩; clear he F a; intro a F
  refine hK _ _ ?_
  clear hK K
  replace M := M.below hb; clear hb; try clear u
  refine list_val F (wn rfl) rfl rfl (.tuple #[.agg ((bcs ((passF xs xt r).1)).toArray), .int .i64 ((passF xs xt r).2)]) (ex_move _ rfl _ (F.e rfl)) ?_; clear F a; intro a F
  refine list_val F (wn rfl) rfl rfl (.agg ((bcs ((passF xs xt r).1)).toArray)) (ex_extract _ _ rfl _ (F.e rfl) _ rfl) ?_; clear F a; intro a F
  refine list_val F (wn rfl) rfl rfl (.int .i64 ((passF xs xt r).2)) (ex_extract _ _ rfl _ (F.e rfl) _ rfl) ?_; clear F a; intro a F
  refine list_do (wn rfl) (fun K hK => ?_)
  refine ow_alloc F M rfl rfl 24 rfl (.agg (bcs (List.replicate 32 0)).toArray) z24 ((bcs (List.replicate 32 0)).toArray) rfl ?_
  clear F M a; intro a g8 u F M hb hg
  refine hK _ _ ?_
  clear hK K
  clear hb hg; try clear v
  refine list_do (wn rfl) (fun K hK => ?_)
  refine ow_put F M rfl 24 _ _ rfl 0 _ ((bcs (List.replicate 32 0)).toArray) _ rfl (F.e rfl) ((bcs ((passF xs xt r).1)).toArray) (F.e rfl) (sz24 (passF_len _ _ _)) (sz_eqb 32 rfl (passF_len _ _ _)) (all_oneCell_toArray (bcs_one _)) ?_
  clear F a; have Mo := M; clear M; intro a v F M hgr
  refine hK _ _ ?_
  clear hK K
  clear Mo hgr; try clear u
  replace M : Mm w v [⟨g8, (bcs ((passF xs xt r).1)).toArray, 24⟩, ⟨g6, (bcs ((passF xs xt r).1)).toArray, 24⟩, ⟨g5, (wdCs xs xt r).toArray, 42⟩] := M
  refine list_val F (wn rfl) rfl rfl (.int .i64 ((passF xs xt r).2)) (ex_assign _ rfl _ (F.e rfl)) ?_; clear F a; intro a F
  refine wpList_nil ?_
  replace F : Fr 73 a [(0, .slice (some adr) n cl), (2, .bool false), (3, .int .i64 q), (4, .int .i64 ((i : Nat) : Int)), (5, .pointer (some ⟨g5, 0, none⟩)), (6, .pointer (some ⟨g6, 0, none⟩)), (7, .int .i64 ((passF xs xt r).2)), (8, .pointer (some ⟨g8, 0, none⟩)), (9, .int .i64 ((passF xs xt r).2)), (13, .bool true), (23, .bool false), (31, .bool false), (42, .bool false)] := F.keep ⟨rfl, rfl, rfl, rfl, rfl, rfl, rfl, rfl, rfl, rfl, rfl, rfl, rfl, trivial⟩
  refine then_n ?_
  refine wp_seq ?_
  refine wp_region_lit ?_
  refine list_val F (wn rfl) rfl rfl (.agg ((bcs ((passF xs xt r).1)).toArray)) (ex_load _ _ rfl _ (F.e rfl) _ (lvr (cs := bcs ((passF xs xt r).1)) (by rw [bcs_len, show _ = 32 from (passF_len _ _ _)]; exact dp_row_24_32) (M.at (i := 0) rfl))) ?_; clear F a; intro a F
  refine list_val F (wn rfl) rfl rfl (.agg ((bcs ((passF xs xt r).1)).toArray)) (ex_load _ _ rfl _ (F.e rfl) _ (lvr (cs := bcs ((passF xs xt r).1)) (by rw [bcs_len, show _ = 32 from (passF_len _ _ _)]; exact dp_row_24_32) (M.at (i := 1) rfl))) ?_; clear F a; intro a F
  refine list_val F (wn rfl) rfl rfl (.bool false) (ex_neqA 24 _ _ _ rfl 32 dp_ab_24_32 ((passF xs xt r).1) ((passF xs xt r).1) (passF_len _ _ _) (passF_len _ _ _) (F.e rfl) (F.e rfl) false (not_self _)) ?_; clear F a; intro a F
  refine list_val F (wn rfl) rfl rfl (.bool false) (ex_move _ rfl _ (F.e rfl)) ?_; clear F a; intro a F
  refine list_val F (F.wants 66 false rfl (by kernel_rfl) rfl true rfl) rfl rfl (.int .i64 ((passF xs xt r).2)) (ex_move _ rfl _ (F.e rfl)) ?_; clear F a; intro a F
  refine list_do (F.wants 66 false rfl (by kernel_rfl) rfl true rfl) (fun K hK => ?_)
  refine ow_call rfl rfl F 26 #[.int .i64 ((passF xs xt r).2)] (ex_call 26 _ _ rfl rfl dp_ent_26 _ (map1 (F.e rfl))) (num_any _ _) (fun e u hR => ?_)
  obtain ⟨he, hw⟩ := hR
  refine ⟨.int .i64 ((passF xs xt r).2), he, ?_⟩; clear he F a; intro a F
  obtain rfl := hw
  refine hK _ _ ?_
  clear hK K
  refine list_val F (F.wants 66 false rfl (by kernel_rfl) rfl true rfl) rfl rfl (.int .i64 ((passF xs xt r).2)) (ex_move _ rfl _ (F.e rfl)) ?_; clear F a; intro a F
  refine list_val F (F.wants 66 false rfl (by kernel_rfl) rfl true rfl) rfl rfl (.bool false) (ex_bin .neq _ _ _ _ rfl .i64 _ _ (F.e rfl) (F.e rfl) _ (b_neq (by simp))) ?_; clear F a; intro a F
  refine list_val F (wn rfl) rfl rfl (.bool false) (ex_pick_f _ _ _ rfl (F.e rfl) _ (F.e rfl)) ?_; clear F a; intro a F
  refine wpList_nil ?_
  replace F : Fr 73 a [(0, .slice (some adr) n cl), (2, .bool false), (3, .int .i64 q), (4, .int .i64 ((i : Nat) : Int)), (5, .pointer (some ⟨g5, 0, none⟩)), (6, .pointer (some ⟨g6, 0, none⟩)), (7, .int .i64 ((passF xs xt r).2)), (8, .pointer (some ⟨g8, 0, none⟩)), (9, .int .i64 ((passF xs xt r).2)), (13, .bool true), (23, .bool false), (31, .bool false), (42, .bool false), (71, .bool false)] := F.keep ⟨rfl, rfl, rfl, rfl, rfl, rfl, rfl, rfl, rfl, rfl, rfl, rfl, rfl, rfl, trivial⟩
  refine then_n ?_
  refine wp_cond_false (F.e rfl) ?_
  refine wp_skip ?_
  refine in_n ?_
  refine then_n ?_
  refine wp_region_lit ?_
  refine list_val F (wn rfl) rfl rfl (.int .i64 ((i : Nat) : Int)) (ex_move _ rfl _ (F.e rfl)) ?_; clear F a; intro a F
  refine list_val F (wn rfl) rfl rfl (.int .i64 ((i + 1 : Nat) : Int)) (ex_bin .add _ _ _ _ rfl .i64 _ _ (F.e rfl) rfl _ (b_add ((w_i64 (by omega) (by omega)).trans (by omega)))) ?_; clear F a; intro a F
  refine list_val F (wn rfl) rfl rfl (.int .i64 ((i + 1 : Nat) : Int)) (ex_assign _ rfl _ (F.e rfl)) ?_; clear F a; intro a F
  refine wpList_nil ?_
  replace F : Fr 73 a [(0, .slice (some adr) n cl), (2, .bool false), (3, .int .i64 q), (4, .int .i64 ((i + 1 : Nat) : Int)), (5, .pointer (some ⟨g5, 0, none⟩)), (6, .pointer (some ⟨g6, 0, none⟩)), (7, .int .i64 ((passF xs xt r).2)), (8, .pointer (some ⟨g8, 0, none⟩)), (9, .int .i64 ((passF xs xt r).2)), (13, .bool true), (23, .bool false), (31, .bool false), (42, .bool false), (71, .bool false)] := F.keep ⟨rfl, rfl, rfl, rfl, rfl, rfl, rfl, rfl, rfl, rfl, rfl, rfl, rfl, rfl, trivial⟩
  refine then_n ?_
  exact ⟨n - (i + 1), by omega, (i + 1), q, F.keep ⟨rfl, rfl, rfl, rfl, trivial⟩, (by refine M.pick' [] _ ?_ (by decide); exact trivial), (by omega), (by omega), (by omega), (by omega)⟩
 refine wp_seq ?_
 refine wp_seq ?_
 refine wp_region_lit ?_
 refine list_val F (wn rfl) rfl rfl (.int .i64 ((i : Nat) : Int)) (ex_move _ rfl _ (F.e rfl)) ?_; clear F a; intro a F
 refine list_val F (wn rfl) rfl rfl (.slice Ls n cl) (ex_move _ rfl _ (F.e rfl)) ?_; clear F a; intro a F
 refine list_val F (wn rfl) rfl rfl (.int .i64 ((n : Nat) : Int)) (ex_len _ _ rfl 18 dp_sl_38_18 _ _ _ (F.e rfl)) ?_; clear F a; intro a F
 refine list_val F (wn rfl) rfl rfl (.bool false) (ex_bin .lss _ _ _ _ rfl .i64 _ _ (F.e rfl) (F.e rfl) _ (b_lss (decide_eq_false (by omega)))) ?_; clear F a; intro a F
 refine wpList_nil ?_
 replace F : Fr 73 a [(0, .slice Ls n cl), (2, .bool false), (3, .int .i64 q), (4, .int .i64 ((i : Nat) : Int)), (13, .bool false)] := F.keep ⟨rfl, rfl, rfl, rfl, rfl, trivial⟩
 refine then_n ?_
 refine wp_cond_false (F.e rfl) ?_
 refine wp_exit ?_
 refine then_x ?_
 refine then_x ?_
 refine in_hit ?_
 refine then_n ?_
 refine wp_seq ?_
 refine wp_region_lit ?_
 refine list_do (wn rfl) (fun K hK => ?_)
 refine ow_call rfl rfl F 19 #[] (ex_call 19 _ _ rfl rfl dp_ent_19 _ (map0)) (wakes_any _ (hKt.below M.bel)) (fun e u hR => ?_)
 obtain ⟨he, hb⟩ := hR
 refine ⟨.bool true, he, ?_⟩; clear he F a; intro a F
 refine hK _ _ ?_
 clear hK K
 replace M := M.below hb; clear hb; try clear v
 refine list_val F (wn rfl) rfl rfl (.bool true) (ex_assign _ rfl _ (F.e rfl)) ?_; clear F a; intro a F
 refine wpList_nil ?_
 replace F : Fr 73 a [(0, .slice Ls n cl), (2, .bool true), (3, .int .i64 q), (4, .int .i64 ((i : Nat) : Int)), (13, .bool false)] := F.keep ⟨rfl, rfl, rfl, rfl, rfl, trivial⟩
 refine then_n ?_
 refine wp_ret ?_
 exact ret_tmp F rfl rfl ⟨rfl, M.bel⟩
end Go.Proofs.YtkppipeadibfkaaDoor
