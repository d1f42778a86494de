/- posternlaw4.first (30). Conditions: the table is laid; what is handed in is read. -/
import Derived.Test.YtkppipeadibfkaaDoorN1
namespace Go.Proofs.YtkppipeadibfkaaDoor
open Go.RowKit Go.Proofs.YtkppipeadibfkaaDoorW.PrintWords KB WG
set_option linter.unusedVariables false
set_option linter.unusedSimpArgs false
set_option linter.unnecessarySimpa false
theorem ds_fa_42_0_0 : fa? Tryd.prog 42 0 0 = true := by kernel_rfl
theorem ds_sa_40_16 : sa? Tryd.prog 40 16 = true := by kernel_rfl
theorem ds_ent_27 : ent? Tryd.prog 27 = true := by kernel_rfl
theorem ds_fa_42_1_16 : fa? Tryd.prog 42 1 16 = true := by kernel_rfl
theorem ds_one_9 : one? Tryd.prog 9 = true := by kernel_rfl
theorem ds_cv_3_62_u64 : cv? Tryd.prog 3 62 .u64 = true := by kernel_rfl
theorem ds_cv_3_77_u64 : cv? Tryd.prog 3 77 .u64 = true := by kernel_rfl
theorem ds_cv_62_5_u8 : cv? Tryd.prog 62 5 .u8 = true := by kernel_rfl
set_option maxHeartbeats 4000000 in
set_option maxRecDepth 100000 in
theorem first_any (xs xt : List By) (r : Int) (hs16 : xs.length = 16) (ht : xt.length ≤ 50000000000000) (w : World) :
    Calls Tryd.prog 30 #[.agg (wdCs xs xt r).toArray] w fun e w' => ∃ A' c', e = .returned (.slice A' (xs ++ be8 (BitVec.ofNat 64 xt.length) ++ xt).length c') ∧ OwB w' w.heap.size (.slice A' (xs ++ be8 (BitVec.ofNat 64 xt.length) ++ xt).length c') (xs ++ be8 (BitVec.ofNat 64 xt.length) ++ xt) ∧ Below w.heap.size w w' := by
 have R_ : Rs w w [] := Rs.nil w w
 refine calls_start Tryd.func30 rfl rfl rfl (fun a F => ?_)
 have M : Mm w w [] := Mm.nil w
 refine wp_seq ?_
 refine wp_region_lit ?_
 refine list_do (wn rfl) (fun K hK => ?_)
 refine ow_box F M rfl rfl 42 _ rfl _ (F.e rfl) ((wdCs xs xt r).toArray) rfl ?_
 clear F M a; intro a g1 v F M hb hg
 refine hK _ _ ?_
 clear hK K
 replace R_ := R_.below hb
 clear hb hg; try clear w
 refine list_val F (wn rfl) rfl rfl (.slice none 0 0) (ex_assign _ rfl _ rfl) ?_; clear F a; intro a F
 refine wpList_nil ?_
 replace F : Fr 27 a [(0, .agg ((wdCs xs xt r).toArray)), (1, .pointer (some ⟨g1, 0, none⟩)), (2, .slice none 0 0)] := F.keep ⟨rfl, rfl, rfl, trivial⟩
 refine then_n ?_
 refine wp_seq ?_
 refine wp_region_lit ?_
 refine list_val F (wn rfl) rfl rfl (.pointer (some ⟨g1, 0, none⟩)) (ex_fa _ _ _ rfl _ (F.e rfl) 0 ds_fa_42_0_0 ⟨g1, 0, none⟩ rfl) ?_; clear F a; intro a F
 refine list_val F (wn rfl) rfl rfl (.slice (some ⟨g1, 0, none⟩) 16 16) (ex_all 40 _ rfl 16 ds_sa_40_16 ⟨g1, 0, none⟩ (F.e rfl)) ?_; clear F a; intro a F
 refine list_do (wn rfl) (fun K hK => ?_)
 refine ow_call rfl rfl F 27 #[.slice (some ⟨g1, 0, none⟩) 16 16] (ex_call 27 _ _ rfl rfl ds_ent_27 _ (map1 (F.e rfl))) (copy_any xs _ 16 16 (by decide) _ (Rb.mk' (wd_salt (M.at (i := 0) rfl)) hs16 (by decide))) (fun e u hR => ?_)
 obtain ⟨A_7, c_7, he, O_n, hb⟩ := hR
 have R1 := R_.new hb M.bel.size O_n
 refine ⟨.slice A_7 xs.length c_7, he, ?_⟩; clear he F a; intro a F
 refine hK _ _ ?_
 clear hK K
 replace R_ := R_.below hb
 replace M := M.below hb; clear hb; try clear v
 replace R_ := R1; clear R1 O_n
 refine list_val F (wn rfl) rfl rfl (.slice A_7 xs.length c_7) (ex_assign _ rfl _ (F.e rfl)) ?_; clear F a; intro a F
 refine wpList_nil ?_
 replace F : Fr 27 a [(0, .agg ((wdCs xs xt r).toArray)), (1, .pointer (some ⟨g1, 0, none⟩)), (2, .slice none 0 0), (3, .slice A_7 xs.length c_7)] := F.keep ⟨rfl, rfl, rfl, rfl, trivial⟩
 refine then_n ?_
 refine wp_seq ?_
 refine wp_seq ?_
 refine wp_region_lit ?_
 refine list_val F (wn rfl) rfl rfl (.int .i64 56) (ex_assign _ rfl _ rfl) ?_; clear F a; intro a F
 refine wpList_nil ?_
 replace F : Fr 27 a [(0, .agg ((wdCs xs xt r).toArray)), (1, .pointer (some ⟨g1, 0, none⟩)), (2, .slice none 0 0), (3, .slice A_7 xs.length c_7), (4, .int .i64 56)] := F.keep ⟨rfl, rfl, rfl, rfl, rfl, trivial⟩
 refine then_n ?_
 refine wp_block ?_
 rw [show (56 : Int) = 56 - 8 * ((0 : Nat) : Int) by omega] at F
 refine wp_loopN (fun mq ar wr => ∃ (j : Nat), ∃ (A2 : Option Addr), ∃ (c2 : Nat), Fr 27 ar [(0, .agg ((wdCs xs xt r).toArray)), (1, .pointer (some ⟨g1, 0, none⟩)), (2, .slice none 0 0), (3, .slice A2 ((xs ++ (be8 (BitVec.ofNat 64 xt.length)).take j).length) c2), (4, .int .i64 (56 - 8 * ((j : Nat) : Int)))] ∧ Mm w wr [⟨g1, ((wdCs xs xt r).toArray), 42⟩] ∧ Rs w wr [(.slice A2 ((xs ++ (be8 (BitVec.ofNat 64 xt.length)).take j).length) c2, (xs ++ (be8 (BitVec.ofNat 64 xt.length)).take j))] ∧ j ≤ 8 ∧ mq + j = 8) 8 ?_ ?_
 ·
  exact ⟨0, A_7, c_7, (by rw [show xs ++ (be8 (BitVec.ofNat 64 xt.length)).take 0 = xs from List.append_nil _]; exact F.keep ⟨rfl, rfl, rfl, rfl, rfl, trivial⟩), (by refine M.pick' [0] _ ?_ (by decide); exact ⟨rfl, trivial⟩), (by rw [show xs ++ (be8 (BitVec.ofNat 64 xt.length)).take 0 = xs from List.append_nil _]; exact R_), (Nat.zero_le _), (by omega)⟩
 clear F M a R_
 rintro mq a v ⟨j, A2, c2, F, M, R_, hj, hq⟩; try clear u
 have hlj : (xs ++ (be8 (BitVec.ofNat 64 xt.length)).take j).length = 16 + j := by rw [List.length_append, List.length_take, be8_len, hs16]; omega
 by_cases hj8 : j < 8
 ·
  refine wp_seq ?_
  refine wp_seq ?_
  refine wp_region_lit ?_
  refine list_val F (wn rfl) rfl rfl (.int .i64 (56 - 8 * ((j : Nat) : Int))) (ex_move _ rfl _ (F.e rfl)) ?_; clear F a; intro a F
  refine list_val F (wn rfl) rfl rfl (.bool true) (ex_bin .geq _ _ _ _ rfl .i64 _ _ (F.e rfl) rfl _ (b_geq (decide_eq_true (by omega)))) ?_; clear F a; intro a F
  refine wpList_nil ?_
  replace F : Fr 27 a [(0, .agg ((wdCs xs xt r).toArray)), (1, .pointer (some ⟨g1, 0, none⟩)), (2, .slice none 0 0), (3, .slice A2 ((xs ++ (be8 (BitVec.ofNat 64 xt.length)).take j).length) c2), (4, .int .i64 (56 - 8 * ((j : Nat) : Int))), (9, .bool true)] := F.keep ⟨rfl, rfl, rfl, rfl, rfl, rfl, trivial⟩
  refine then_n ?_
  refine wp_cond_true (F.e rfl) ?_
  refine wp_skip ?_
  refine then_n ?_
  refine wp_seq ?_
  refine wp_block ?_
  refine wp_region_lit ?_
  refine list_val F (wn rfl) rfl rfl (.slice A2 ((xs ++ (be8 (BitVec.ofNat 64 xt.length)).take j).length) c2) (ex_move _ rfl _ (F.e rfl)) ?_; clear F a; intro a F
  refine list_val F (wn rfl) rfl rfl (.pointer (some ⟨g1, 16, none⟩)) (ex_fa _ _ _ rfl _ (F.e rfl) 16 ds_fa_42_1_16 ⟨g1, 16, none⟩ rfl) ?_; clear F a; intro a F
  refine list_val F (wn rfl) rfl rfl (.string (strB xt)) (ex_load _ _ rfl _ (F.e rfl) _ (lv1 ds_one_9 (M.cell (i := 0) rfl (j := 16) (wd_a16 hs16)))) ?_; clear F a; intro a F
  refine list_val F (wn rfl) rfl rfl (.int .i64 ((xt.length : Nat) : Int)) (ex_lens _ _ rfl (by kernel_rfl) xt (F.e rfl)) ?_; clear F a; intro a F
  refine list_val F (wn rfl) rfl rfl (.int .u64 ((BitVec.ofNat 64 xt.length).toNat : Int)) (ex_conv _ _ _ rfl _ .u64 ds_cv_3_62_u64 _ (F.e rfl) _ (w64 _)) ?_; clear F a; intro a F
  refine list_val F (wn rfl) rfl rfl (.int .i64 (56 - 8 * ((j : Nat) : Int))) (ex_move _ rfl _ (F.e rfl)) ?_; clear F a; intro a F
  refine list_val F (wn rfl) rfl rfl (.int .u64 ((56 - 8 * j : Nat) : Int)) (ex_conv _ _ _ rfl _ .u64 ds_cv_3_77_u64 _ (F.e rfl) _ ((w_u64 (by omega) (by omega)).trans (by omega))) ?_; clear F a; intro a F
  refine list_val F (wn rfl) rfl rfl (.int .u64 (((BitVec.ofNat 64 xt.length) >>> (56 - 8 * j)).toNat : Int)) (ex_shrn _ _ _ _ rfl (BitVec.ofNat 64 xt.length) .u64 (56 - 8 * j) (F.e rfl) (F.e rfl) (by omega)) ?_; clear F a; intro a F
  refine list_val F (wn rfl) rfl rfl (bv (BitVec.setWidth 8 ((BitVec.ofNat 64 xt.length) >>> (56 - 8 * j)))) (ex_lown _ _ _ rfl ds_cv_62_5_u8 ((BitVec.ofNat 64 xt.length) >>> (56 - 8 * j)) (F.e rfl)) ?_; clear F a; intro a F
  refine list_do (wn rfl) (fun K hK => ?_)
  refine ow_lit F M R_ rfl rfl 1 _ rfl #[(0, bv (BitVec.setWidth 8 ((BitVec.ofNat 64 xt.length) >>> (56 - 8 * j))))] (parts1 (F.e rfl)) [(BitVec.setWidth 8 ((BitVec.ofNat 64 xt.length) >>> (56 - 8 * j)))] rfl rfl (lit1 (BitVec.setWidth 8 ((BitVec.ofNat 64 xt.length) >>> (56 - 8 * j))) _) ?_
  clear F M R_; intro a g21 u F M R_ hb
  refine hK _ _ ?_
  clear hK K
  clear hb; try clear v
  refine list_do (wn rfl) (fun K hK => ?_)
  refine ow_appR F M R_ rfl rfl rfl rfl _ _ rfl 1 A2 ((xs ++ (be8 (BitVec.ofNat 64 xt.length)).take j).length) c2 (xs ++ (be8 (BitVec.ofNat 64 xt.length)).take j) ([(BitVec.setWidth 8 ((BitVec.ofNat 64 xt.length) >>> (56 - 8 * j)))]) (xs ++ (be8 (BitVec.ofNat 64 xt.length)).take (j + 1)) rfl (be8_next _ _ hj8) (some ⟨g21, 0, none⟩) 1 1 (F.e rfl) (F.e rfl) (R_.rb (i := 0) rfl) (by omega) ?_
  clear F M R_; intro a A_22 c_22 v F M R_
  refine hK _ _ ?_
  clear hK K
  try clear u
  refine list_val F (wn rfl) rfl rfl (.slice A_22 ((xs ++ (be8 (BitVec.ofNat 64 xt.length)).take (j + 1)).length) c_22) (ex_assign _ rfl _ (F.e rfl)) ?_; clear F a; intro a F
  refine wpList_nil ?_
  replace F : Fr 27 a [(0, .agg ((wdCs xs xt r).toArray)), (1, .pointer (some ⟨g1, 0, none⟩)), (2, .slice none 0 0), (3, .slice A_22 ((xs ++ (be8 (BitVec.ofNat 64 xt.length)).take (j + 1)).length) c_22), (4, .int .i64 (56 - 8 * ((j : Nat) : Int))), (9, .bool true)] := F.keep ⟨rfl, rfl, rfl, rfl, rfl, rfl, trivial⟩
  refine in_n ?_
  refine then_n ?_
  refine wp_region_lit ?_
  refine list_val F (wn rfl) rfl rfl (.int .i64 (56 - 8 * ((j : Nat) : Int))) (ex_move _ rfl _ (F.e rfl)) ?_; clear F a; intro a F
  refine list_val F (wn rfl) rfl rfl (.int .i64 (56 - 8 * ((j : Nat) : Int) - 8)) (ex_bin .sub _ _ _ _ rfl .i64 _ _ (F.e rfl) rfl _ (b_sub (w_i64 (by omega) (by omega)))) ?_; clear F a; intro a F
  refine list_val F (wn rfl) rfl rfl (.int .i64 (56 - 8 * ((j : Nat) : Int) - 8)) (ex_assign _ rfl _ (F.e rfl)) ?_; clear F a; intro a F
  refine wpList_nil ?_
  replace F : Fr 27 a [(0, .agg ((wdCs xs xt r).toArray)), (1, .pointer (some ⟨g1, 0, none⟩)), (2, .slice none 0 0), (3, .slice A_22 ((xs ++ (be8 (BitVec.ofNat 64 xt.length)).take (j + 1)).length) c_22), (4, .int .i64 (56 - 8 * ((j : Nat) : Int) - 8)), (9, .bool true)] := F.keep ⟨rfl, rfl, rfl, rfl, rfl, rfl, trivial⟩
  refine then_n ?_
  replace R_ := R_.pick [1] [_] ⟨rfl, trivial⟩ (by decide)
  rw [show (56 : Int) - 8 * ((j : Nat) : Int) - 8 = 56 - 8 * ((j + 1 : Nat) : Int) by omega] at F
  exact ⟨8 - (j + 1), by omega, (j + 1), A_22, c_22, F.keep ⟨rfl, rfl, rfl, rfl, rfl, trivial⟩, (by refine M.pick' [0] _ ?_ (by decide); exact ⟨rfl, trivial⟩), R_, (by omega), (by omega)⟩
 rw [List.take_of_length_le (by rw [be8_len]; omega)] at F R_
 have hl8 : (xs ++ be8 (BitVec.ofNat 64 xt.length)).length = 24 := by rw [List.length_append, be8_len, hs16]
 refine wp_seq ?_
 refine wp_seq ?_
 refine wp_region_lit ?_
 refine list_val F (wn rfl) rfl rfl (.int .i64 (56 - 8 * ((j : Nat) : Int))) (ex_move _ rfl _ (F.e rfl)) ?_; clear F a; intro a F
 refine list_val F (wn rfl) rfl rfl (.bool false) (ex_bin .geq _ _ _ _ rfl .i64 _ _ (F.e rfl) rfl _ (b_geq (decide_eq_false (by omega)))) ?_; clear F a; intro a F
 refine wpList_nil ?_
 replace F : Fr 27 a [(0, .agg ((wdCs xs xt r).toArray)), (1, .pointer (some ⟨g1, 0, none⟩)), (2, .slice none 0 0), (3, .slice A2 ((xs ++ be8 (BitVec.ofNat 64 xt.length)).length) c2), (4, .int .i64 (56 - 8 * ((j : Nat) : Int))), (9, .bool false)] := F.keep ⟨rfl, rfl, rfl, rfl, rfl, rfl, trivial⟩
 refine then_n ?_
 refine wp_cond_false (F.e rfl) ?_
 refine wp_exit ?_
 refine then_x ?_
 refine then_x ?_
 refine in_hit ?_
 refine then_n ?_
 refine wp_seq ?_
 refine wp_region_lit ?_
 refine list_val F (wn rfl) rfl rfl (.slice A2 ((xs ++ be8 (BitVec.ofNat 64 xt.length)).length) c2) (ex_move _ rfl _ (F.e rfl)) ?_; clear F a; intro a F
 refine list_val F (wn rfl) rfl rfl (.pointer (some ⟨g1, 16, none⟩)) (ex_fa _ _ _ rfl _ (F.e rfl) 16 ds_fa_42_1_16 ⟨g1, 16, none⟩ rfl) ?_; clear F a; intro a F
 refine list_val F (wn rfl) rfl rfl (.string (strB xt)) (ex_load _ _ rfl _ (F.e rfl) _ (lv1 ds_one_9 (M.cell (i := 0) rfl (j := 16) (wd_a16 hs16)))) ?_; clear F a; intro a F
 refine list_do (wn rfl) (fun K hK => ?_)
 refine ow_appS F M R_ rfl rfl rfl _ _ rfl 0 A2 ((xs ++ be8 (BitVec.ofNat 64 xt.length)).length) c2 (xs ++ be8 (BitVec.ofNat 64 xt.length)) xt ((xs ++ be8 (BitVec.ofNat 64 xt.length)) ++ xt) rfl rfl (F.e rfl) (F.e rfl) (by omega) ?_
 clear F M R_; intro a A_26 c_26 u F M R_
 refine hK _ _ ?_
 clear hK K
 try clear v
 refine list_val F (wn rfl) rfl rfl (.slice A_26 (((xs ++ be8 (BitVec.ofNat 64 xt.length)) ++ xt).length) c_26) (ex_assign _ rfl _ (F.e rfl)) ?_; clear F a; intro a F
 refine wpList_nil ?_
 replace F : Fr 27 a [(0, .agg ((wdCs xs xt r).toArray)), (1, .pointer (some ⟨g1, 0, none⟩)), (2, .slice A_26 (((xs ++ be8 (BitVec.ofNat 64 xt.length)) ++ xt).length) c_26), (3, .slice A2 ((xs ++ be8 (BitVec.ofNat 64 xt.length)).length) c2), (4, .int .i64 (56 - 8 * ((j : Nat) : Int))), (9, .bool false)] := F.keep ⟨rfl, rfl, rfl, rfl, rfl, rfl, trivial⟩
 refine then_n ?_
 refine wp_ret ?_
 exact ret_tmp F rfl rfl ⟨A_26, c_26, rfl, R_.own 0 _ _ rfl, M.bel⟩
end Go.Proofs.YtkppipeadibfkaaDoor
