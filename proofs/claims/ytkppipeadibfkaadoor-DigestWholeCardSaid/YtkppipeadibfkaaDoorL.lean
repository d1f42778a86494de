/- The document's Mac (20), Pass (24). Conditions: what is handed in is read. -/
import Derived.Test.YtkppipeadibfkaaDoorK
namespace Go.Proofs.YtkppipeadibfkaaDoor
open Go.RowKit Go.Proofs.YtkppipeadibfkaaDoorW.PrintWords KB WG
set_option linter.unusedVariables false
set_option linter.unusedSimpArgs false
set_option linter.unnecessarySimpa false
def kRow (k : List By) : List By := if 64 < k.length then sha k else k
theorem kRow_len (k : List By) : (kRow k).length ≤ 64 := by
  unfold kRow; split
  · rw [sha_len]; decide
  · omega
theorem key64_row (k : List By) : key64 k = kRow k ++ List.replicate (64 - (kRow k).length) 0 := rfl
theorem rep_next (l : List By) (j : Nat) : l ++ List.replicate j 0 ++ [0] = l ++ List.replicate (j + 1) 0 := by rw [List.append_assoc, ← List.replicate_succ']
theorem map_next {k : List By} {n i : Nat} (x : By) (h : k.length = n) (hi : i < n) : (k.map (· ^^^ x)).take i ++ [k.getD i 0 ^^^ x] = (k.map (· ^^^ x)).take (i + 1) := by
  rw [List.take_succ_eq_append_getElem (by rw [List.length_map]; omega), List.getElem_map, List.getD_eq_getElem?_getD, List.getElem?_eq_getElem (by omega)]
  rfl
theorem dl_ent_27 : ent? Tryd.prog 27 = true := by kernel_rfl
theorem dl_sl_23_1 : sl? Tryd.prog 23 1 = true := by kernel_rfl
theorem dl_ent_13 : ent? Tryd.prog 13 = true := by kernel_rfl
theorem dl_sa_24_32 : sa? Tryd.prog 24 32 = true := by kernel_rfl
theorem dl_row_24_32 : row? Tryd.prog 24 32 = true := by kernel_rfl
set_option maxHeartbeats 4000000 in
set_option maxRecDepth 100000 in
theorem refMac_any (k b : List By) (B D : Option Addr) (n c m d : Nat) (hn : n ≤ 50000000000000) (hm : m ≤ 50000000000000) (w : World) (hB : Rb w B n k) (hD : Rb w D m b) :
    Calls Tryd.prog 20 #[.slice B n c, .slice D m d] w fun e w' => e = .returned (.agg (bcs (mac k b)).toArray) ∧ Below w.heap.size w w' := by
 have R_ : Rs w w [] := Rs.nil w w
 have hkn := hB.1; have hbm := hD.1
 refine calls_start Tryd.func20 rfl rfl rfl (fun a F => ?_)
 have M : Mm w w [] := Mm.nil w
 refine wp_seq ?_
 refine wp_region_lit ?_
 refine list_do (wn rfl) (fun K hK => ?_)
 refine ow_alloc F M rfl rfl 24 rfl (.agg (bcs (List.replicate 32 0)).toArray) z24 ((bcs (List.replicate 32 0)).toArray) rfl ?_
 clear F M a; intro a g4 v F M hb hg
 refine hK _ _ ?_
 clear hK K
 replace R_ := R_.below hb
 clear hb hg; try clear w
 refine wpList_nil ?_
 replace F : Fr 54 a [(0, .slice B n c), (1, .slice D m d), (4, .pointer (some ⟨g4, 0, none⟩))] := F.keep ⟨rfl, rfl, rfl, trivial⟩
 refine then_n ?_
 refine wp_seq ?_
 refine wp_region_lit ?_
 refine list_val F (wn rfl) rfl rfl (.slice B n c) (ex_move _ rfl _ (F.e rfl)) ?_; clear F a; intro a F
 refine list_do (wn rfl) (fun K hK => ?_)
 refine ow_call rfl rfl F 27 #[.slice B n c] (ex_call 27 _ _ rfl rfl dl_ent_27 _ (map1 (F.e rfl))) (copy_any k _ n c (by omega) _ (hB.below M.bel)) (fun e u hR => ?_)
 obtain ⟨A_12, c_12, he, O_n, hb⟩ := hR
 have R1 := R_.new hb M.bel.size O_n
 refine ⟨.slice A_12 k.length c_12, he, ?_⟩; clear he F a; intro a F
 refine hK _ _ ?_
 clear hK K
 replace R_ := R_.below hb
 replace M := M.below hb; clear hb; try clear v
 replace R_ := R1; clear R1 O_n
 refine list_val F (wn rfl) rfl rfl (.slice A_12 k.length c_12) (ex_assign _ rfl _ (F.e rfl)) ?_; clear F a; intro a F
 refine wpList_nil ?_
 replace F : Fr 54 a [(0, .slice B n c), (1, .slice D m d), (4, .pointer (some ⟨g4, 0, none⟩)), (5, .slice A_12 k.length c_12)] := F.keep ⟨rfl, rfl, rfl, rfl, trivial⟩
 refine then_n ?_
 refine wp_seq ?_
 refine wp_seq ?_
 by_cases hk : 64 < k.length
 ·
  have hkr : kRow k = sha k := if_pos (by omega)
  have hdk := sha_len k
  refine wp_region_lit ?_
  refine list_val F (wn rfl) rfl rfl (.slice A_12 k.length c_12) (ex_move _ rfl _ (F.e rfl)) ?_; clear F a; intro a F
  refine list_val F (wn rfl) rfl rfl (.int .i64 ((k.length : Nat) : Int)) (ex_len _ _ rfl 1 dl_sl_23_1 _ _ _ (F.e rfl)) ?_; clear F a; intro a F
  refine list_val F (wn rfl) rfl rfl (.bool true) (ex_bin .gtr _ _ _ _ rfl .i64 _ _ (F.e rfl) rfl _ (b_gtr (decide_eq_true (by omega)))) ?_; clear F a; intro a F
  refine wpList_nil ?_
  replace F : Fr 54 a [(0, .slice B n c), (1, .slice D m d), (4, .pointer (some ⟨g4, 0, none⟩)), (5, .slice A_12 k.length c_12), (15, .bool true)] := F.keep ⟨rfl, rfl, rfl, rfl, rfl, trivial⟩
  refine then_n ?_
  refine wp_cond_true (F.e rfl) ?_
  refine wp_seq ?_
  refine wp_region_lit ?_
  refine list_val F (wn rfl) rfl rfl (.slice A_12 k.length c_12) (ex_move _ rfl _ (F.e rfl)) ?_; clear F a; intro a F
  refine list_do (wn rfl) (fun K hK => ?_)
  refine ow_call rfl rfl F 13 #[.slice A_12 k.length c_12] (ex_call 13 _ _ rfl rfl dl_ent_13 _ (map1 (F.e rfl))) (refSum_any k _ _ _ (by omega) _ (R_.rb (i := 0) rfl)) (fun e v hR => ?_)
  obtain ⟨he, hb⟩ := hR
  refine ⟨.agg ((bcs (sha k)).toArray), he, ?_⟩; clear he F a; intro a F
  refine hK _ _ ?_
  clear hK K
  replace R_ := R_.below hb
  replace M := M.below hb; clear hb; try clear u
  refine list_do (wn rfl) (fun K hK => ?_)
  refine ow_alloc F M rfl rfl 24 rfl (.agg (bcs (List.replicate 32 0)).toArray) z24 ((bcs (List.replicate 32 0)).toArray) rfl ?_
  clear F M a; intro a g6 u F M hb hg
  refine hK _ _ ?_
  clear hK K
  replace R_ := R_.below hb
  clear hb hg; try clear v
  refine list_do (wn rfl) (fun K hK => ?_)
  refine ow_put F M rfl 24 _ _ rfl 0 _ ((bcs (List.replicate 32 0)).toArray) _ rfl (F.e rfl) ((bcs (sha k)).toArray) (F.e rfl) (sz24 (sha_len _)) (sz_eqb 32 rfl (sha_len _)) (all_oneCell_toArray (bcs_one _)) ?_
  clear F a; have Mo := M; clear M; intro a v F M hgr
  refine hK _ _ ?_
  clear hK K
  replace R_ := R_.box (Mo.blk 0 _ rfl) (by show 5 ≠ 24; decide) hgr
  clear Mo hgr; try clear u
  replace M : Mm w v [⟨g6, (bcs (sha k)).toArray, 24⟩, ⟨g4, ((bcs (List.replicate 32 0)).toArray), 24⟩] := M
  refine wpList_nil ?_
  replace F : Fr 54 a [(0, .slice B n c), (1, .slice D m d), (4, .pointer (some ⟨g4, 0, none⟩)), (5, .slice A_12 k.length c_12), (6, .pointer (some ⟨g6, 0, none⟩)), (15, .bool true)] := F.keep ⟨rfl, rfl, rfl, rfl, rfl, rfl, trivial⟩
  refine then_n ?_
  refine wp_region_lit ?_
  refine list_val F (wn rfl) rfl rfl (.slice (some ⟨g6, 0, none⟩) 32 32) (ex_all 24 _ rfl 32 dl_sa_24_32 ⟨g6, 0, none⟩ (F.e rfl)) ?_; clear F a; intro a F
  refine list_do (wn rfl) (fun K hK => ?_)
  refine ow_call rfl rfl F 27 #[.slice (some ⟨g6, 0, none⟩) 32 32] (ex_call 27 _ _ rfl rfl dl_ent_27 _ (map1 (F.e rfl))) (copy_any (sha k) _ 32 32 (by decide) _ (Rb.mk' (M.at (i := 0) rfl) (sha_len _) (by decide))) (fun e u hR => ?_)
  obtain ⟨A_19, c_19, he, O_n, hb⟩ := hR
  have R1 := R_.new hb M.bel.size O_n
  refine ⟨.slice A_19 ((sha k).length) c_19, he, ?_⟩; clear he F a; intro a F
  refine hK _ _ ?_
  clear hK K
  replace R_ := R_.below hb
  replace M := M.below hb; clear hb; try clear v
  replace R_ := R1; clear R1 O_n
  refine list_val F (wn rfl) rfl rfl (.slice A_19 ((sha k).length) c_19) (ex_assign _ rfl _ (F.e rfl)) ?_; clear F a; intro a F
  refine wpList_nil ?_
  replace F : Fr 54 a [(0, .slice B n c), (1, .slice D m d), (4, .pointer (some ⟨g4, 0, none⟩)), (5, .slice A_19 ((sha k).length) c_19), (6, .pointer (some ⟨g6, 0, none⟩)), (15, .bool true)] := F.keep ⟨rfl, rfl, rfl, rfl, rfl, rfl, trivial⟩
  refine then_n ?_
  refine wp_seq ?_
  refine wp_block ?_
  refine wp_loopN (fun mq ar wr => ∃ (j : Nat), ∃ (A2 : Option Addr), ∃ (c2 : Nat), Fr 54 ar [(0, .slice B n c), (1, .slice D m d), (4, .pointer (some ⟨g4, 0, none⟩)), (5, .slice A2 (((sha k) ++ List.replicate j 0).length) c2), (6, .pointer (some ⟨g6, 0, none⟩)), (15, .bool true)] ∧ Mm w wr [⟨g6, (bcs (sha k)).toArray, 24⟩, ⟨g4, ((bcs (List.replicate 32 0)).toArray), 24⟩] ∧ Rs w wr [(.slice A2 (((sha k) ++ List.replicate j 0).length) c2, ((sha k) ++ List.replicate j 0))] ∧ (sha k).length + j ≤ 64 ∧ mq + j = (64 - (sha k).length)) (64 - (sha k).length) ?_ ?_
  ·
   exact ⟨0, A_19, c_19, (by rw [show (sha k) ++ List.replicate 0 0 = (sha k) by simp]; exact F.keep ⟨rfl, rfl, rfl, rfl, rfl, rfl, trivial⟩), M, (by rw [show (sha k) ++ List.replicate 0 0 = (sha k) by simp]; exact R_.pick [0] [_] ⟨rfl, trivial⟩ (by decide)), (by omega), (by omega)⟩
  clear F M a R_
  rintro mq a v ⟨j, A2, c2, F, M, R_, hj, hq⟩; try clear u
  have hlj : ((sha k) ++ List.replicate j 0).length = (sha k).length + j := by rw [List.length_append, List.length_replicate]
  by_cases hj64 : (sha k).length + j < 64
  ·
   refine wp_seq ?_
   refine wp_seq ?_
   refine wp_region_lit ?_
   refine list_val F (wn rfl) rfl rfl (.slice A2 (((sha k) ++ List.replicate j 0).length) c2) (ex_move _ rfl _ (F.e rfl)) ?_; clear F a; intro a F
   refine list_val F (wn rfl) rfl rfl (.int .i64 ((((sha k) ++ List.replicate j 0).length : Nat) : Int)) (ex_len _ _ rfl 1 dl_sl_23_1 _ _ _ (F.e rfl)) ?_; clear F a; intro a F
   refine list_val F (wn rfl) rfl rfl (.bool true) (ex_bin .lss _ _ _ _ rfl .i64 _ _ (F.e rfl) rfl _ (b_lss (decide_eq_true (by omega)))) ?_; clear F a; intro a F
   refine wpList_nil ?_
   replace F : Fr 54 a [(0, .slice B n c), (1, .slice D m d), (4, .pointer (some ⟨g4, 0, none⟩)), (5, .slice A2 (((sha k) ++ List.replicate j 0).length) c2), (6, .pointer (some ⟨g6, 0, none⟩)), (15, .bool true), (22, .bool true)] := F.keep ⟨rfl, rfl, rfl, rfl, rfl, rfl, rfl, trivial⟩
   refine then_n ?_
   refine wp_cond_true (F.e rfl) ?_
   refine wp_skip ?_
   refine then_n ?_
   refine wp_block ?_
   refine wp_region_lit ?_
   refine list_val F (wn rfl) rfl rfl (.slice A2 (((sha k) ++ List.replicate j 0).length) c2) (ex_move _ rfl _ (F.e rfl)) ?_; clear F a; intro a F
   refine list_do (wn rfl) (fun K hK => ?_)
   refine ow_lit F M R_ rfl rfl 1 _ rfl #[(0, .int .u8 0)] (parts1 rfl) [0] rfl rfl (by kernel_rfl) ?_
   clear F M R_; intro a g24 u F M R_ hb
   refine hK _ _ ?_
   clear hK K
   clear hb; try clear v
   refine list_do (wn rfl) (fun K hK => ?_)
   refine ow_appR F M R_ rfl rfl rfl rfl _ _ rfl 1 A2 (((sha k) ++ List.replicate j 0).length) c2 ((sha k) ++ List.replicate j 0) ([0]) ((sha k) ++ List.replicate (j + 1) 0) rfl (rep_next _ _) (some ⟨g24, 0, none⟩) 1 1 (F.e rfl) (F.e rfl) (R_.rb (i := 0) rfl) (by (try simp only [List.length_append, List.length_replicate]); omega) ?_
   clear F M R_; intro a A_25 c_25 v F M R_
   refine hK _ _ ?_
   clear hK K
   try clear u
   refine list_val F (wn rfl) rfl rfl (.slice A_25 (((sha k) ++ List.replicate (j + 1) 0).length) c_25) (ex_assign _ rfl _ (F.e rfl)) ?_; clear F a; intro a F
   refine wpList_nil ?_
   replace F : Fr 54 a [(0, .slice B n c), (1, .slice D m d), (4, .pointer (some ⟨g4, 0, none⟩)), (5, .slice A_25 (((sha k) ++ List.replicate (j + 1) 0).length) c_25), (6, .pointer (some ⟨g6, 0, none⟩)), (15, .bool true), (22, .bool true)] := F.keep ⟨rfl, rfl, rfl, rfl, rfl, rfl, rfl, trivial⟩
   refine in_n ?_
   refine then_n ?_
   replace R_ := R_.pick [1] [_] ⟨rfl, trivial⟩ (by decide)
   exact ⟨(64 - (sha k).length) - (j + 1), by omega, (j + 1), A_25, c_25, F.keep ⟨rfl, rfl, rfl, rfl, rfl, rfl, trivial⟩, (by refine M.pick' [0, 1] _ ?_ (by decide); exact ⟨rfl, rfl, trivial⟩), R_, (by omega), (by omega)⟩
  have hk64 : ((sha k) ++ List.replicate j 0) = key64 k := by rw [key64_row, hkr, show j = 64 - (sha k).length by omega]
  rw [hk64] at F R_
  have hkl := key64_len k
  refine wp_seq ?_
  refine wp_seq ?_
  refine wp_region_lit ?_
  refine list_val F (wn rfl) rfl rfl (.slice A2 ((key64 k).length) c2) (ex_move _ rfl _ (F.e rfl)) ?_; clear F a; intro a F
  refine list_val F (wn rfl) rfl rfl (.int .i64 (((key64 k).length : Nat) : Int)) (ex_len _ _ rfl 1 dl_sl_23_1 _ _ _ (F.e rfl)) ?_; clear F a; intro a F
  refine list_val F (wn rfl) rfl rfl (.bool false) (ex_bin .lss _ _ _ _ rfl .i64 _ _ (F.e rfl) rfl _ (b_lss (decide_eq_false (by omega)))) ?_; clear F a; intro a F
  refine wpList_nil ?_
  replace F : Fr 54 a [(0, .slice B n c), (1, .slice D m d), (4, .pointer (some ⟨g4, 0, none⟩)), (5, .slice A2 ((key64 k).length) c2), (6, .pointer (some ⟨g6, 0, none⟩)), (15, .bool true), (22, .bool false)] := F.keep ⟨rfl, rfl, rfl, rfl, rfl, rfl, rfl, trivial⟩
  refine then_n ?_
  refine wp_cond_false (F.e rfl) ?_
  refine wp_exit ?_
  refine then_x ?_
  refine then_x ?_
  refine in_hit ?_
  refine then_n ?_
  refine wp_seq ?_
  refine wp_region_lit ?_
  refine list_val F (wn rfl) rfl rfl (.slice none 0 0) (ex_assign _ rfl _ rfl) ?_; clear F a; intro a F
  refine wpList_nil ?_
  replace F : Fr 54 a [(0, .slice B n c), (1, .slice D m d), (4, .pointer (some ⟨g4, 0, none⟩)), (5, .slice A2 ((key64 k).length) c2), (6, .pointer (some ⟨g6, 0, none⟩)), (7, .slice none 0 0), (15, .bool true), (22, .bool false)] := F.keep ⟨rfl, rfl, rfl, rfl, rfl, rfl, rfl, rfl, trivial⟩
  refine then_n ?_
  refine wp_seq ?_
  refine wp_region_lit ?_
  refine list_val F (wn rfl) rfl rfl (.slice none 0 0) (ex_assign _ rfl _ rfl) ?_; clear F a; intro a F
  refine wpList_nil ?_
  replace F : Fr 54 a [(0, .slice B n c), (1, .slice D m d), (4, .pointer (some ⟨g4, 0, none⟩)), (5, .slice A2 ((key64 k).length) c2), (6, .pointer (some ⟨g6, 0, none⟩)), (7, .slice none 0 0), (8, .slice none 0 0), (15, .bool true), (22, .bool false)] := F.keep ⟨rfl, rfl, rfl, rfl, rfl, rfl, rfl, rfl, rfl, trivial⟩
  refine then_n ?_
  refine wp_seq ?_
  refine wp_seq ?_
  refine wp_region_lit ?_
  refine list_val F (wn rfl) rfl rfl (.int .i64 0) (ex_assign _ rfl _ rfl) ?_; clear F a; intro a F
  refine wpList_nil ?_
  replace F : Fr 54 a [(0, .slice B n c), (1, .slice D m d), (4, .pointer (some ⟨g4, 0, none⟩)), (5, .slice A2 ((key64 k).length) c2), (6, .pointer (some ⟨g6, 0, none⟩)), (7, .slice none 0 0), (8, .slice none 0 0), (9, .int .i64 0), (15, .bool true), (22, .bool false)] := F.keep ⟨rfl, rfl, rfl, rfl, rfl, rfl, rfl, rfl, rfl, rfl, trivial⟩
  refine then_n ?_
  refine wp_block ?_
  refine wp_loopN (fun mq ar wr => ∃ (i : Nat), ∃ (A3 : Option Addr), ∃ (c3 : Nat), ∃ (A4 : Option Addr), ∃ (c4 : Nat), Fr 54 ar [(0, .slice B n c), (1, .slice D m d), (4, .pointer (some ⟨g4, 0, none⟩)), (5, .slice A2 ((key64 k).length) c2), (6, .pointer (some ⟨g6, 0, none⟩)), (7, .slice A3 ((((key64 k).map (· ^^^ 54)).take i).length) c3), (8, .slice A4 ((((key64 k).map (· ^^^ 92)).take i).length) c4), (9, .int .i64 ((i : Nat) : Int)), (15, .bool true), (22, .bool false)] ∧ Mm w wr [⟨g6, (bcs (sha k)).toArray, 24⟩, ⟨g4, ((bcs (List.replicate 32 0)).toArray), 24⟩] ∧ Rs w wr [(.slice A3 ((((key64 k).map (· ^^^ 54)).take i).length) c3, (((key64 k).map (· ^^^ 54)).take i)), (.slice A4 ((((key64 k).map (· ^^^ 92)).take i).length) c4, (((key64 k).map (· ^^^ 92)).take i)), (.slice A2 ((key64 k).length) c2, (key64 k))] ∧ i ≤ 64 ∧ mq + i = 64) 64 ?_ ?_
  ·
   exact ⟨0, none, 0, none, 0, F.keep ⟨rfl, rfl, rfl, rfl, rfl, rfl, rfl, rfl, rfl, rfl, trivial⟩, M, (R_.addnil.addnil), (Nat.zero_le _), (by omega)⟩
  clear F M a R_
  rintro mq a u ⟨i, A3, c3, A4, c4, F, M, R_, hi, hq⟩; try clear v
  have hkl := key64_len k
  by_cases hin : i < 64
  ·
   refine wp_seq ?_
   refine wp_seq ?_
   refine wp_region_lit ?_
   refine list_val F (wn rfl) rfl rfl (.int .i64 ((i : Nat) : Int)) (ex_move _ rfl _ (F.e rfl)) ?_; clear F a; intro a F
   refine list_val F (wn rfl) rfl rfl (.bool true) (ex_bin .lss _ _ _ _ rfl .i64 _ _ (F.e rfl) rfl _ (b_lss (decide_eq_true (by omega)))) ?_; clear F a; intro a F
   refine wpList_nil ?_
   replace F : Fr 54 a [(0, .slice B n c), (1, .slice D m d), (4, .pointer (some ⟨g4, 0, none⟩)), (5, .slice A2 ((key64 k).length) c2), (6, .pointer (some ⟨g6, 0, none⟩)), (7, .slice A3 ((((key64 k).map (· ^^^ 54)).take i).length) c3), (8, .slice A4 ((((key64 k).map (· ^^^ 92)).take i).length) c4), (9, .int .i64 ((i : Nat) : Int)), (15, .bool true), (22, .bool false), (27, .bool true)] := F.keep ⟨rfl, rfl, rfl, rfl, rfl, rfl, rfl, rfl, rfl, rfl, rfl, trivial⟩
   refine then_n ?_
   refine wp_cond_true (F.e rfl) ?_
   refine wp_skip ?_
   refine then_n ?_
   refine wp_seq ?_
   refine wp_block ?_
   refine wp_seq ?_
   refine wp_region_lit ?_
   refine list_val F (wn rfl) rfl rfl (.slice A3 ((((key64 k).map (· ^^^ 54)).take i).length) c3) (ex_move _ rfl _ (F.e rfl)) ?_; clear F a; intro a F
   refine list_val F (wn rfl) rfl rfl (.slice A2 ((key64 k).length) c2) (ex_move _ rfl _ (F.e rfl)) ?_; clear F a; intro a F
   refine list_val F (wn rfl) rfl rfl (.int .i64 ((i : Nat) : Int)) (ex_move _ rfl _ (F.e rfl)) ?_; clear F a; intro a F
   refine list_val F (wn rfl) rfl rfl (.pointer (A2.map (·.add i))) (ex_ixB _ _ rfl A2 ((key64 k).length) c2 (F.e rfl) .i64 _ (F.e rfl) i rfl (by omega) (key64 k) (R_.rb (i := 2) rfl)) ?_; clear F a; intro a F
   refine list_val F (wn rfl) rfl rfl (bv ((key64 k).getD i 0)) (ex_ldB _ rfl A2 ((key64 k).length) i (key64 k) (F.e rfl) (by omega) (R_.rb (i := 2) rfl)) ?_; clear F a; intro a F
   refine list_val F (wn rfl) rfl rfl (bv (((key64 k).getD i 0) ^^^ 54)) (ex_xorb _ _ _ _ rfl ((key64 k).getD i 0) 54 (F.e rfl) rfl) ?_; clear F a; intro a F
   refine list_do (wn rfl) (fun K hK => ?_)
   refine ow_lit F M R_ rfl rfl 1 _ rfl #[(0, bv (((key64 k).getD i 0) ^^^ 54))] (parts1 (F.e rfl)) [(((key64 k).getD i 0) ^^^ 54)] rfl rfl (lit1 (((key64 k).getD i 0) ^^^ 54) _) ?_
   clear F M R_; intro a g36 v F M R_ hb
   refine hK _ _ ?_
   clear hK K
   clear hb; try clear u
   refine list_do (wn rfl) (fun K hK => ?_)
   refine ow_appR F M R_ rfl rfl rfl rfl _ _ rfl 1 A3 ((((key64 k).map (· ^^^ 54)).take i).length) c3 (((key64 k).map (· ^^^ 54)).take i) ([(((key64 k).getD i 0) ^^^ 54)]) (((key64 k).map (· ^^^ 54)).take (i + 1)) rfl (map_next 54 hkl hin) (some ⟨g36, 0, none⟩) 1 1 (F.e rfl) (F.e rfl) (R_.rb (i := 0) rfl) (by (try rw [List.length_take, List.length_map, key64_len]); omega) ?_
   clear F M R_; intro a A_37 c_37 u F M R_
   refine hK _ _ ?_
   clear hK K
   try clear v
   refine list_val F (wn rfl) rfl rfl (.slice A_37 ((((key64 k).map (· ^^^ 54)).take (i + 1)).length) c_37) (ex_assign _ rfl _ (F.e rfl)) ?_; clear F a; intro a F
   refine wpList_nil ?_
   replace F : Fr 54 a [(0, .slice B n c), (1, .slice D m d), (4, .pointer (some ⟨g4, 0, none⟩)), (5, .slice A2 ((key64 k).length) c2), (6, .pointer (some ⟨g6, 0, none⟩)), (7, .slice A_37 ((((key64 k).map (· ^^^ 54)).take (i + 1)).length) c_37), (8, .slice A4 ((((key64 k).map (· ^^^ 92)).take i).length) c4), (9, .int .i64 ((i : Nat) : Int)), (15, .bool true), (22, .bool false), (27, .bool true)] := F.keep ⟨rfl, rfl, rfl, rfl, rfl, rfl, rfl, rfl, rfl, rfl, rfl, trivial⟩
   refine then_n ?_
   refine wp_region_lit ?_
   refine list_val F (wn rfl) rfl rfl (.slice A4 ((((key64 k).map (· ^^^ 92)).take i).length) c4) (ex_move _ rfl _ (F.e rfl)) ?_; clear F a; intro a F
   refine list_val F (wn rfl) rfl rfl (.slice A2 ((key64 k).length) c2) (ex_move _ rfl _ (F.e rfl)) ?_; clear F a; intro a F
   refine list_val F (wn rfl) rfl rfl (.int .i64 ((i : Nat) : Int)) (ex_move _ rfl _ (F.e rfl)) ?_; clear F a; intro a F
   refine list_val F (wn rfl) rfl rfl (.pointer (A2.map (·.add i))) (ex_ixB _ _ rfl A2 ((key64 k).length) c2 (F.e rfl) .i64 _ (F.e rfl) i rfl (by omega) (key64 k) (R_.rb (i := 3) rfl)) ?_; clear F a; intro a F
   refine list_val F (wn rfl) rfl rfl (bv ((key64 k).getD i 0)) (ex_ldB _ rfl A2 ((key64 k).length) i (key64 k) (F.e rfl) (by omega) (R_.rb (i := 3) rfl)) ?_; clear F a; intro a F
   refine list_val F (wn rfl) rfl rfl (bv (((key64 k).getD i 0) ^^^ 92)) (ex_xorb _ _ _ _ rfl ((key64 k).getD i 0) 92 (F.e rfl) rfl) ?_; clear F a; intro a F
   refine list_do (wn rfl) (fun K hK => ?_)
   refine ow_lit F M R_ rfl rfl 1 _ rfl #[(0, bv (((key64 k).getD i 0) ^^^ 92))] (parts1 (F.e rfl)) [(((key64 k).getD i 0) ^^^ 92)] rfl rfl (lit1 (((key64 k).getD i 0) ^^^ 92) _) ?_
   clear F M R_; intro a g44 v F M R_ hb
   refine hK _ _ ?_
   clear hK K
   clear hb; try clear u
   refine list_do (wn rfl) (fun K hK => ?_)
   refine ow_appR F M R_ rfl rfl rfl rfl _ _ rfl 3 A4 ((((key64 k).map (· ^^^ 92)).take i).length) c4 (((key64 k).map (· ^^^ 92)).take i) ([(((key64 k).getD i 0) ^^^ 92)]) (((key64 k).map (· ^^^ 92)).take (i + 1)) rfl (map_next 92 hkl hin) (some ⟨g44, 0, none⟩) 1 1 (F.e rfl) (F.e rfl) (R_.rb (i := 0) rfl) (by (try rw [List.length_take, List.length_map, key64_len]); omega) ?_
   clear F M R_; intro a A_45 c_45 u F M R_
   refine hK _ _ ?_
   clear hK K
   try clear v
   refine list_val F (wn rfl) rfl rfl (.slice A_45 ((((key64 k).map (· ^^^ 92)).take (i + 1)).length) c_45) (ex_assign _ rfl _ (F.e rfl)) ?_; clear F a; intro a F
   refine wpList_nil ?_
   replace F : Fr 54 a [(0, .slice B n c), (1, .slice D m d), (4, .pointer (some ⟨g4, 0, none⟩)), (5, .slice A2 ((key64 k).length) c2), (6, .pointer (some ⟨g6, 0, none⟩)), (7, .slice A_37 ((((key64 k).map (· ^^^ 54)).take (i + 1)).length) c_37), (8, .slice A_45 ((((key64 k).map (· ^^^ 92)).take (i + 1)).length) c_45), (9, .int .i64 ((i : Nat) : Int)), (15, .bool true), (22, .bool false), (27, .bool true)] := F.keep ⟨rfl, rfl, rfl, rfl, rfl, rfl, rfl, rfl, rfl, rfl, rfl, trivial⟩
   refine in_n ?_
   refine then_n ?_
   refine wp_region_lit ?_
   refine list_val F (wn rfl) rfl rfl (.int .i64 ((i : Nat) : Int)) (ex_move _ rfl _ (F.e rfl)) ?_; clear F a; intro a F
   refine list_val F (wn rfl) rfl rfl (.int .i64 ((i + 1 : Nat) : Int)) (ex_bin .add _ _ _ _ rfl .i64 _ _ (F.e rfl) rfl _ (b_add ((w_i64 (by omega) (by omega)).trans (by omega)))) ?_; clear F a; intro a F
   refine list_val F (wn rfl) rfl rfl (.int .i64 ((i + 1 : Nat) : Int)) (ex_assign _ rfl _ (F.e rfl)) ?_; clear F a; intro a F
   refine wpList_nil ?_
   replace F : Fr 54 a [(0, .slice B n c), (1, .slice D m d), (4, .pointer (some ⟨g4, 0, none⟩)), (5, .slice A2 ((key64 k).length) c2), (6, .pointer (some ⟨g6, 0, none⟩)), (7, .slice A_37 ((((key64 k).map (· ^^^ 54)).take (i + 1)).length) c_37), (8, .slice A_45 ((((key64 k).map (· ^^^ 92)).take (i + 1)).length) c_45), (9, .int .i64 ((i + 1 : Nat) : Int)), (15, .bool true), (22, .bool false), (27, .bool true)] := F.keep ⟨rfl, rfl, rfl, rfl, rfl, rfl, rfl, rfl, rfl, rfl, rfl, trivial⟩
   refine then_n ?_
   replace R_ := R_.pick [2, 3, 4] [_, _, _] ⟨rfl, rfl, rfl, trivial⟩ (by decide)
   exact ⟨64 - (i + 1), by omega, (i + 1), A_37, c_37, A_45, c_45, F.keep ⟨rfl, rfl, rfl, rfl, rfl, rfl, rfl, rfl, rfl, rfl, trivial⟩, (by refine M.pick' [0, 1] _ ?_ (by decide); exact ⟨rfl, rfl, trivial⟩), R_, (by omega), (by omega)⟩
  rw [List.take_of_length_le (by rw [List.length_map]; omega), List.take_of_length_le (by rw [List.length_map]; omega)] at F R_
  refine wp_seq ?_
  refine wp_seq ?_
  refine wp_region_lit ?_
  refine list_val F (wn rfl) rfl rfl (.int .i64 ((i : Nat) : Int)) (ex_move _ rfl _ (F.e rfl)) ?_; clear F a; intro a F
  refine list_val F (wn rfl) rfl rfl (.bool false) (ex_bin .lss _ _ _ _ rfl .i64 _ _ (F.e rfl) rfl _ (b_lss (decide_eq_false (by omega)))) ?_; clear F a; intro a F
  refine wpList_nil ?_
  replace F : Fr 54 a [(0, .slice B n c), (1, .slice D m d), (4, .pointer (some ⟨g4, 0, none⟩)), (5, .slice A2 ((key64 k).length) c2), (6, .pointer (some ⟨g6, 0, none⟩)), (7, .slice A3 (((key64 k).map (· ^^^ 54)).length) c3), (8, .slice A4 (((key64 k).map (· ^^^ 92)).length) c4), (9, .int .i64 ((i : Nat) : Int)), (15, .bool true), (22, .bool false), (27, .bool false)] := F.keep ⟨rfl, rfl, rfl, rfl, rfl, rfl, rfl, rfl, rfl, rfl, rfl, trivial⟩
  refine then_n ?_
  refine wp_cond_false (F.e rfl) ?_
  refine wp_exit ?_
  refine then_x ?_
  refine then_x ?_
  refine in_hit ?_
  refine then_n ?_
  refine wp_seq ?_
  refine wp_region_lit ?_
  refine list_val F (wn rfl) rfl rfl (.slice A3 (((key64 k).map (· ^^^ 54)).length) c3) (ex_move _ rfl _ (F.e rfl)) ?_; clear F a; intro a F
  refine list_val F (wn rfl) rfl rfl (.slice D m d) (ex_move _ rfl _ (F.e rfl)) ?_; clear F a; intro a F
  refine list_do (wn rfl) (fun K hK => ?_)
  refine ow_appR F M R_ rfl rfl rfl rfl _ _ rfl 0 A3 (((key64 k).map (· ^^^ 54)).length) c3 ((key64 k).map (· ^^^ 54)) b (((key64 k).map (· ^^^ 54)) ++ b) rfl rfl D m d (F.e rfl) (F.e rfl) (hD.below M.bel) (by rw [List.length_map, key64_len]; omega) ?_
  clear F M R_; intro a A_48 c_48 v F M R_
  refine hK _ _ ?_
  clear hK K
  try clear u
  refine list_do (wn rfl) (fun K hK => ?_)
  refine ow_call rfl rfl F 13 #[.slice A_48 ((((key64 k).map (· ^^^ 54)) ++ b).length) c_48] (ex_call 13 _ _ rfl rfl dl_ent_13 _ (map1 (F.e rfl))) (refSum_any (((key64 k).map (· ^^^ 54)) ++ b) _ _ _ (by (try simp only [List.length_append, List.length_map, key64_len, sha_len]); omega) _ (R_.rb (i := 0) rfl)) (fun e u hR => ?_)
  obtain ⟨he, hb⟩ := hR
  refine ⟨.agg ((bcs (sha (((key64 k).map (· ^^^ 54)) ++ b))).toArray), he, ?_⟩; clear he F a; intro a F
  refine hK _ _ ?_
  clear hK K
  replace R_ := R_.below hb
  replace M := M.below hb; clear hb; try clear v
  refine list_do (wn rfl) (fun K hK => ?_)
  refine ow_alloc F M rfl rfl 24 rfl (.agg (bcs (List.replicate 32 0)).toArray) z24 ((bcs (List.replicate 32 0)).toArray) rfl ?_
  clear F M a; intro a g10 v F M hb hg
  refine hK _ _ ?_
  clear hK K
  replace R_ := R_.below hb
  clear hb hg; try clear u
  refine list_do (wn rfl) (fun K hK => ?_)
  refine ow_put F M rfl 24 _ _ rfl 0 _ ((bcs (List.replicate 32 0)).toArray) _ rfl (F.e rfl) ((bcs (sha (((key64 k).map (· ^^^ 54)) ++ b))).toArray) (F.e rfl) (sz24 (sha_len _)) (sz_eqb 32 rfl (sha_len _)) (all_oneCell_toArray (bcs_one _)) ?_
  clear F a; have Mo := M; clear M; intro a u F M hgr
  refine hK _ _ ?_
  clear hK K
  replace R_ := R_.box (Mo.blk 0 _ rfl) (by show 5 ≠ 24; decide) hgr
  clear Mo hgr; try clear v
  replace M : Mm w u [⟨g10, (bcs (sha (((key64 k).map (· ^^^ 54)) ++ b))).toArray, 24⟩, ⟨g6, (bcs (sha k)).toArray, 24⟩, ⟨g4, ((bcs (List.replicate 32 0)).toArray), 24⟩] := M
  refine wpList_nil ?_
  replace F : Fr 54 a [(0, .slice B n c), (1, .slice D m d), (4, .pointer (some ⟨g4, 0, none⟩)), (5, .slice A2 ((key64 k).length) c2), (6, .pointer (some ⟨g6, 0, none⟩)), (7, .slice A3 (((key64 k).map (· ^^^ 54)).length) c3), (8, .slice A4 (((key64 k).map (· ^^^ 92)).length) c4), (9, .int .i64 ((i : Nat) : Int)), (10, .pointer (some ⟨g10, 0, none⟩)), (15, .bool true), (22, .bool false), (27, .bool false)] := F.keep ⟨rfl, rfl, rfl, rfl, rfl, rfl, rfl, rfl, rfl, rfl, rfl, rfl, trivial⟩
  refine then_n ?_
  refine wp_seq ?_
  refine wp_region_lit ?_
  refine list_val F (wn rfl) rfl rfl (.slice A4 (((key64 k).map (· ^^^ 92)).length) c4) (ex_move _ rfl _ (F.e rfl)) ?_; clear F a; intro a F
  refine list_val F (wn rfl) rfl rfl (.slice (some ⟨g10, 0, none⟩) 32 32) (ex_all 24 _ rfl 32 dl_sa_24_32 ⟨g10, 0, none⟩ (F.e rfl)) ?_; clear F a; intro a F
  refine list_do (wn rfl) (fun K hK => ?_)
  refine ow_appR F M R_ rfl rfl rfl rfl _ _ rfl 1 A4 (((key64 k).map (· ^^^ 92)).length) c4 ((key64 k).map (· ^^^ 92)) (sha (((key64 k).map (· ^^^ 54)) ++ b)) (((key64 k).map (· ^^^ 92)) ++ (sha (((key64 k).map (· ^^^ 54)) ++ b))) rfl rfl (some ⟨g10, 0, none⟩) 32 32 (F.e rfl) (F.e rfl) (Rb.mk' (M.at (i := 0) rfl) (sha_len _) (by decide)) (by rw [List.length_map, key64_len]; omega) ?_
  clear F M R_; intro a A_52 c_52 v F M R_
  refine hK _ _ ?_
  clear hK K
  try clear u
  refine list_do (wn rfl) (fun K hK => ?_)
  refine ow_call rfl rfl F 13 #[.slice A_52 ((((key64 k).map (· ^^^ 92)) ++ (sha (((key64 k).map (· ^^^ 54)) ++ b))).length) c_52] (ex_call 13 _ _ rfl rfl dl_ent_13 _ (map1 (F.e rfl))) (refSum_any (((key64 k).map (· ^^^ 92)) ++ (sha (((key64 k).map (· ^^^ 54)) ++ b))) _ _ _ (by (try simp only [List.length_append, List.length_map, key64_len, sha_len]); omega) _ (R_.rb (i := 1) rfl)) (fun e u hR => ?_)
  obtain ⟨he, hb⟩ := hR
  refine ⟨.agg ((bcs (sha (((key64 k).map (· ^^^ 92)) ++ (sha (((key64 k).map (· ^^^ 54)) ++ b))))).toArray), he, ?_⟩; clear he F a; intro a F
  refine hK _ _ ?_
  clear hK K
  replace R_ := R_.below hb
  replace M := M.below hb; clear hb; try clear v
  refine list_do (wn rfl) (fun K hK => ?_)
  refine ow_put F M rfl 24 _ _ rfl 2 _ ((bcs (List.replicate 32 0)).toArray) _ rfl (F.e rfl) ((bcs (sha (((key64 k).map (· ^^^ 92)) ++ (sha (((key64 k).map (· ^^^ 54)) ++ b))))).toArray) (F.e rfl) (sz24 (sha_len _)) (sz_eqb 32 rfl (sha_len _)) (all_oneCell_toArray (bcs_one _)) ?_
  clear F a; have Mo := M; clear M; intro a v F M hgr
  refine hK _ _ ?_
  clear hK K
  replace R_ := R_.box (Mo.blk 2 _ rfl) (by show 5 ≠ 24; decide) hgr
  clear Mo hgr; try clear u
  replace M : Mm w v [⟨g10, (bcs (sha (((key64 k).map (· ^^^ 54)) ++ b))).toArray, 24⟩, ⟨g6, (bcs (sha k)).toArray, 24⟩, ⟨g4, (bcs (sha (((key64 k).map (· ^^^ 92)) ++ (sha (((key64 k).map (· ^^^ 54)) ++ b))))).toArray, 24⟩] := M
  refine wpList_nil ?_
  replace F : Fr 54 a [(0, .slice B n c), (1, .slice D m d), (4, .pointer (some ⟨g4, 0, none⟩)), (5, .slice A2 ((key64 k).length) c2), (6, .pointer (some ⟨g6, 0, none⟩)), (7, .slice A3 (((key64 k).map (· ^^^ 54)).length) c3), (8, .slice A4 (((key64 k).map (· ^^^ 92)).length) c4), (9, .int .i64 ((i : Nat) : Int)), (10, .pointer (some ⟨g10, 0, none⟩)), (15, .bool true), (22, .bool false), (27, .bool false)] := F.keep ⟨rfl, rfl, rfl, rfl, rfl, rfl, rfl, rfl, rfl, rfl, rfl, rfl, trivial⟩
  refine then_n ?_
  refine wp_ret ?_
  exact ret_c1 (v := .agg ((bcs (sha (((key64 k).map (· ^^^ 92)) ++ (sha (((key64 k).map (· ^^^ 54)) ++ b))))).toArray)) F rfl rfl (lvr (cs := bcs (sha (((key64 k).map (· ^^^ 92)) ++ (sha (((key64 k).map (· ^^^ 54)) ++ b))))) (by rw [bcs_len, show _ = 32 from (sha_len _)]; exact dl_row_24_32) (M.at (i := 2) rfl)) ⟨rfl, M.bel⟩
 have hkr : kRow k = k := if_neg (by omega)
 refine wp_region_lit ?_
 refine list_val F (wn rfl) rfl rfl (.slice A_12 k.length c_12) (ex_move _ rfl _ (F.e rfl)) ?_; clear F a; intro a F
 refine list_val F (wn rfl) rfl rfl (.int .i64 ((k.length : Nat) : Int)) (ex_len _ _ rfl 1 dl_sl_23_1 _ _ _ (F.e rfl)) ?_; clear F a; intro a F
 refine list_val F (wn rfl) rfl rfl (.bool false) (ex_bin .gtr _ _ _ _ rfl .i64 _ _ (F.e rfl) rfl _ (b_gtr (decide_eq_false (by omega)))) ?_; clear F a; intro a F
 refine wpList_nil ?_
 replace F : Fr 54 a [(0, .slice B n c), (1, .slice D m d), (4, .pointer (some ⟨g4, 0, none⟩)), (5, .slice A_12 k.length c_12), (15, .bool false)] := F.keep ⟨rfl, rfl, rfl, rfl, rfl, trivial⟩
 refine then_n ?_
 refine wp_cond_false (F.e rfl) ?_
 refine wp_skip ?_
 refine then_n ?_
 refine wp_seq ?_
 refine wp_block ?_
 refine wp_loopN (fun mq ar wr => ∃ (j : Nat), ∃ (A2 : Option Addr), ∃ (c2 : Nat), Fr 54 ar [(0, .slice B n c), (1, .slice D m d), (4, .pointer (some ⟨g4, 0, none⟩)), (5, .slice A2 ((k ++ List.replicate j 0).length) c2), (15, .bool false)] ∧ Mm w wr [⟨g4, ((bcs (List.replicate 32 0)).toArray), 24⟩] ∧ Rs w wr [(.slice A2 ((k ++ List.replicate j 0).length) c2, (k ++ List.replicate j 0))] ∧ k.length + j ≤ 64 ∧ mq + j = (64 - k.length)) (64 - k.length) ?_ ?_
 ·
  exact ⟨0, A_12, c_12, (by rw [show k ++ List.replicate 0 0 = k by simp]; exact F.keep ⟨rfl, rfl, rfl, rfl, rfl, trivial⟩), M, (by rw [show k ++ List.replicate 0 0 = k by simp]; exact R_.pick [0] [_] ⟨rfl, trivial⟩ (by decide)), (by omega), (by omega)⟩
 clear F M a R_
 rintro mq a v ⟨j, A2, c2, F, M, R_, hj, hq⟩; try clear u
 have hlj : (k ++ List.replicate j 0).length = k.length + j := by rw [List.length_append, List.length_replicate]
 by_cases hj64 : k.length + j < 64
 ·
  refine wp_seq ?_
  refine wp_seq ?_
  refine wp_region_lit ?_
  refine list_val F (wn rfl) rfl rfl (.slice A2 ((k ++ List.replicate j 0).length) c2) (ex_move _ rfl _ (F.e rfl)) ?_; clear F a; intro a F
  refine list_val F (wn rfl) rfl rfl (.int .i64 (((k ++ List.replicate j 0).length : Nat) : Int)) (ex_len _ _ rfl 1 dl_sl_23_1 _ _ _ (F.e rfl)) ?_; clear F a; intro a F
  refine list_val F (wn rfl) rfl rfl (.bool true) (ex_bin .lss _ _ _ _ rfl .i64 _ _ (F.e rfl) rfl _ (b_lss (decide_eq_true (by omega)))) ?_; clear F a; intro a F
  refine wpList_nil ?_
  replace F : Fr 54 a [(0, .slice B n c), (1, .slice D m d), (4, .pointer (some ⟨g4, 0, none⟩)), (5, .slice A2 ((k ++ List.replicate j 0).length) c2), (15, .bool false), (22, .bool true)] := F.keep ⟨rfl, rfl, rfl, rfl, rfl, rfl, trivial⟩
  refine then_n ?_
  refine wp_cond_true (F.e rfl) ?_
  refine wp_skip ?_
  refine then_n ?_
  refine wp_block ?_
  refine wp_region_lit ?_
  refine list_val F (wn rfl) rfl rfl (.slice A2 ((k ++ List.replicate j 0).length) c2) (ex_move _ rfl _ (F.e rfl)) ?_; clear F a; intro a F
  refine list_do (wn rfl) (fun K hK => ?_)
  refine ow_lit F M R_ rfl rfl 1 _ rfl #[(0, .int .u8 0)] (parts1 rfl) [0] rfl rfl (by kernel_rfl) ?_
  clear F M R_; intro a g24 u F M R_ hb
  refine hK _ _ ?_
  clear hK K
  clear hb; try clear v
  refine list_do (wn rfl) (fun K hK => ?_)
  refine ow_appR F M R_ rfl rfl rfl rfl _ _ rfl 1 A2 ((k ++ List.replicate j 0).length) c2 (k ++ List.replicate j 0) ([0]) (k ++ List.replicate (j + 1) 0) rfl (rep_next _ _) (some ⟨g24, 0, none⟩) 1 1 (F.e rfl) (F.e rfl) (R_.rb (i := 0) rfl) (by (try simp only [List.length_append, List.length_replicate]); omega) ?_
  clear F M R_; intro a A_25 c_25 v F M R_
  refine hK _ _ ?_
  clear hK K
  try clear u
  refine list_val F (wn rfl) rfl rfl (.slice A_25 ((k ++ List.replicate (j + 1) 0).length) c_25) (ex_assign _ rfl _ (F.e rfl)) ?_; clear F a; intro a F
  refine wpList_nil ?_
  replace F : Fr 54 a [(0, .slice B n c), (1, .slice D m d), (4, .pointer (some ⟨g4, 0, none⟩)), (5, .slice A_25 ((k ++ List.replicate (j + 1) 0).length) c_25), (15, .bool false), (22, .bool true)] := F.keep ⟨rfl, rfl, rfl, rfl, rfl, rfl, trivial⟩
  refine in_n ?_
  refine then_n ?_
  replace R_ := R_.pick [1] [_] ⟨rfl, trivial⟩ (by decide)
  exact ⟨(64 - k.length) - (j + 1), by omega, (j + 1), A_25, c_25, F.keep ⟨rfl, rfl, rfl, rfl, rfl, trivial⟩, (by refine M.pick' [0] _ ?_ (by decide); exact ⟨rfl, trivial⟩), R_, (by omega), (by omega)⟩
 have hk64 : (k ++ List.replicate j 0) = key64 k := by rw [key64_row, hkr, show j = 64 - k.length by omega]
 rw [hk64] at F R_
 have hkl := key64_len k
 refine wp_seq ?_
 refine wp_seq ?_
 refine wp_region_lit ?_
 refine list_val F (wn rfl) rfl rfl (.slice A2 ((key64 k).length) c2) (ex_move _ rfl _ (F.e rfl)) ?_; clear F a; intro a F
 refine list_val F (wn rfl) rfl rfl (.int .i64 (((key64 k).length : Nat) : Int)) (ex_len _ _ rfl 1 dl_sl_23_1 _ _ _ (F.e rfl)) ?_; clear F a; intro a F
 refine list_val F (wn rfl) rfl rfl (.bool false) (ex_bin .lss _ _ _ _ rfl .i64 _ _ (F.e rfl) rfl _ (b_lss (decide_eq_false (by omega)))) ?_; clear F a; intro a F
 refine wpList_nil ?_
 replace F : Fr 54 a [(0, .slice B n c), (1, .slice D m d), (4, .pointer (some ⟨g4, 0, none⟩)), (5, .slice A2 ((key64 k).length) c2), (15, .bool false), (22, .bool false)] := F.keep ⟨rfl, rfl, rfl, rfl, rfl, rfl, trivial⟩
 refine then_n ?_
 refine wp_cond_false (F.e rfl) ?_
 refine wp_exit ?_
 refine then_x ?_
 refine then_x ?_
 refine in_hit ?_
 refine then_n ?_
 refine wp_seq ?_
 refine wp_region_lit ?_
 refine list_val F (wn rfl) rfl rfl (.slice none 0 0) (ex_assign _ rfl _ rfl) ?_; clear F a; intro a F
 refine wpList_nil ?_
 replace F : Fr 54 a [(0, .slice B n c), (1, .slice D m d), (4, .pointer (some ⟨g4, 0, none⟩)), (5, .slice A2 ((key64 k).length) c2), (7, .slice none 0 0), (15, .bool false), (22, .bool false)] := F.keep ⟨rfl, rfl, rfl, rfl, rfl, rfl, rfl, trivial⟩
 refine then_n ?_
 refine wp_seq ?_
 refine wp_region_lit ?_
 refine list_val F (wn rfl) rfl rfl (.slice none 0 0) (ex_assign _ rfl _ rfl) ?_; clear F a; intro a F
 refine wpList_nil ?_
 replace F : Fr 54 a [(0, .slice B n c), (1, .slice D m d), (4, .pointer (some ⟨g4, 0, none⟩)), (5, .slice A2 ((key64 k).length) c2), (7, .slice none 0 0), (8, .slice none 0 0), (15, .bool false), (22, .bool false)] := F.keep ⟨rfl, rfl, rfl, rfl, rfl, rfl, rfl, rfl, trivial⟩
 refine then_n ?_
 refine wp_seq ?_
 refine wp_seq ?_
 refine wp_region_lit ?_
 refine list_val F (wn rfl) rfl rfl (.int .i64 0) (ex_assign _ rfl _ rfl) ?_; clear F a; intro a F
 refine wpList_nil ?_
 replace F : Fr 54 a [(0, .slice B n c), (1, .slice D m d), (4, .pointer (some ⟨g4, 0, none⟩)), (5, .slice A2 ((key64 k).length) c2), (7, .slice none 0 0), (8, .slice none 0 0), (9, .int .i64 0), (15, .bool false), (22, .bool false)] := F.keep ⟨rfl, rfl, rfl, rfl, rfl, rfl, rfl, rfl, rfl, trivial⟩
 refine then_n ?_
 refine wp_block ?_
 refine wp_loopN (fun mq ar wr => ∃ (i : Nat), ∃ (A3 : Option Addr), ∃ (c3 : Nat), ∃ (A4 : Option Addr), ∃ (c4 : Nat), Fr 54 ar [(0, .slice B n c), (1, .slice D m d), (4, .pointer (some ⟨g4, 0, none⟩)), (5, .slice A2 ((key64 k).length) c2), (7, .slice A3 ((((key64 k).map (· ^^^ 54)).take i).length) c3), (8, .slice A4 ((((key64 k).map (· ^^^ 92)).take i).length) c4), (9, .int .i64 ((i : Nat) : Int)), (15, .bool false), (22, .bool false)] ∧ Mm w wr [⟨g4, ((bcs (List.replicate 32 0)).toArray), 24⟩] ∧ Rs w wr [(.slice A3 ((((key64 k).map (· ^^^ 54)).take i).length) c3, (((key64 k).map (· ^^^ 54)).take i)), (.slice A4 ((((key64 k).map (· ^^^ 92)).take i).length) c4, (((key64 k).map (· ^^^ 92)).take i)), (.slice A2 ((key64 k).length) c2, (key64 k))] ∧ i ≤ 64 ∧ mq + i = 64) 64 ?_ ?_
 ·
  exact ⟨0, none, 0, none, 0, F.keep ⟨rfl, rfl, rfl, rfl, rfl, rfl, rfl, rfl, rfl, trivial⟩, M, (R_.addnil.addnil), (Nat.zero_le _), (by omega)⟩
 clear F M a R_
 rintro mq a u ⟨i, A3, c3, A4, c4, F, M, R_, hi, hq⟩; try clear v
 have hkl := key64_len k
 by_cases hin : i < 64
 ·
  refine wp_seq ?_
  refine wp_seq ?_
  refine wp_region_lit ?_
  refine list_val F (wn rfl) rfl rfl (.int .i64 ((i : Nat) : Int)) (ex_move _ rfl _ (F.e rfl)) ?_; clear F a; intro a F
  refine list_val F (wn rfl) rfl rfl (.bool true) (ex_bin .lss _ _ _ _ rfl .i64 _ _ (F.e rfl) rfl _ (b_lss (decide_eq_true (by omega)))) ?_; clear F a; intro a F
  refine wpList_nil ?_
  replace F : Fr 54 a [(0, .slice B n c), (1, .slice D m d), (4, .pointer (some ⟨g4, 0, none⟩)), (5, .slice A2 ((key64 k).length) c2), (7, .slice A3 ((((key64 k).map (· ^^^ 54)).take i).length) c3), (8, .slice A4 ((((key64 k).map (· ^^^ 92)).take i).length) c4), (9, .int .i64 ((i : Nat) : Int)), (15, .bool false), (22, .bool false), (27, .bool true)] := F.keep ⟨rfl, rfl, rfl, rfl, rfl, rfl, rfl, rfl, rfl, rfl, trivial⟩
  refine then_n ?_
  refine wp_cond_true (F.e rfl) ?_
  refine wp_skip ?_
  refine then_n ?_
  refine wp_seq ?_
  refine wp_block ?_
  refine wp_seq ?_
  refine wp_region_lit ?_
  refine list_val F (wn rfl) rfl rfl (.slice A3 ((((key64 k).map (· ^^^ 54)).take i).length) c3) (ex_move _ rfl _ (F.e rfl)) ?_; clear F a; intro a F
  refine list_val F (wn rfl) rfl rfl (.slice A2 ((key64 k).length) c2) (ex_move _ rfl _ (F.e rfl)) ?_; clear F a; intro a F
  refine list_val F (wn rfl) rfl rfl (.int .i64 ((i : Nat) : Int)) (ex_move _ rfl _ (F.e rfl)) ?_; clear F a; intro a F
  refine list_val F (wn rfl) rfl rfl (.pointer (A2.map (·.add i))) (ex_ixB _ _ rfl A2 ((key64 k).length) c2 (F.e rfl) .i64 _ (F.e rfl) i rfl (by omega) (key64 k) (R_.rb (i := 2) rfl)) ?_; clear F a; intro a F
  refine list_val F (wn rfl) rfl rfl (bv ((key64 k).getD i 0)) (ex_ldB _ rfl A2 ((key64 k).length) i (key64 k) (F.e rfl) (by omega) (R_.rb (i := 2) rfl)) ?_; clear F a; intro a F
  refine list_val F (wn rfl) rfl rfl (bv (((key64 k).getD i 0) ^^^ 54)) (ex_xorb _ _ _ _ rfl ((key64 k).getD i 0) 54 (F.e rfl) rfl) ?_; clear F a; intro a F
  refine list_do (wn rfl) (fun K hK => ?_)
  refine ow_lit F M R_ rfl rfl 1 _ rfl #[(0, bv (((key64 k).getD i 0) ^^^ 54))] (parts1 (F.e rfl)) [(((key64 k).getD i 0) ^^^ 54)] rfl rfl (lit1 (((key64 k).getD i 0) ^^^ 54) _) ?_
  clear F M R_; intro a g36 v F M R_ hb
  refine hK _ _ ?_
  clear hK K
  clear hb; try clear u
  refine list_do (wn rfl) (fun K hK => ?_)
  refine ow_appR F M R_ rfl rfl rfl rfl _ _ rfl 1 A3 ((((key64 k).map (· ^^^ 54)).take i).length) c3 (((key64 k).map (· ^^^ 54)).take i) ([(((key64 k).getD i 0) ^^^ 54)]) (((key64 k).map (· ^^^ 54)).take (i + 1)) rfl (map_next 54 hkl hin) (some ⟨g36, 0, none⟩) 1 1 (F.e rfl) (F.e rfl) (R_.rb (i := 0) rfl) (by (try rw [List.length_take, List.length_map, key64_len]); omega) ?_
  clear F M R_; intro a A_37 c_37 u F M R_
  refine hK _ _ ?_
  clear hK K
  try clear v
  refine list_val F (wn rfl) rfl rfl (.slice A_37 ((((key64 k).map (· ^^^ 54)).take (i + 1)).length) c_37) (ex_assign _ rfl _ (F.e rfl)) ?_; clear F a; intro a F
  refine wpList_nil ?_
  replace F : Fr 54 a [(0, .slice B n c), (1, .slice D m d), (4, .pointer (some ⟨g4, 0, none⟩)), (5, .slice A2 ((key64 k).length) c2), (7, .slice A_37 ((((key64 k).map (· ^^^ 54)).take (i + 1)).length) c_37), (8, .slice A4 ((((key64 k).map (· ^^^ 92)).take i).length) c4), (9, .int .i64 ((i : Nat) : Int)), (15, .bool false), (22, .bool false), (27, .bool true)] := F.keep ⟨rfl, rfl, rfl, rfl, rfl, rfl, rfl, rfl, rfl, rfl, trivial⟩
  refine then_n ?_
  refine wp_region_lit ?_
  refine list_val F (wn rfl) rfl rfl (.slice A4 ((((key64 k).map (· ^^^ 92)).take i).length) c4) (ex_move _ rfl _ (F.e rfl)) ?_; clear F a; intro a F
  refine list_val F (wn rfl) rfl rfl (.slice A2 ((key64 k).length) c2) (ex_move _ rfl _ (F.e rfl)) ?_; clear F a; intro a F
  refine list_val F (wn rfl) rfl rfl (.int .i64 ((i : Nat) : Int)) (ex_move _ rfl _ (F.e rfl)) ?_; clear F a; intro a F
  refine list_val F (wn rfl) rfl rfl (.pointer (A2.map (·.add i))) (ex_ixB _ _ rfl A2 ((key64 k).length) c2 (F.e rfl) .i64 _ (F.e rfl) i rfl (by omega) (key64 k) (R_.rb (i := 3) rfl)) ?_; clear F a; intro a F
  refine list_val F (wn rfl) rfl rfl (bv ((key64 k).getD i 0)) (ex_ldB _ rfl A2 ((key64 k).length) i (key64 k) (F.e rfl) (by omega) (R_.rb (i := 3) rfl)) ?_; clear F a; intro a F
  refine list_val F (wn rfl) rfl rfl (bv (((key64 k).getD i 0) ^^^ 92)) (ex_xorb _ _ _ _ rfl ((key64 k).getD i 0) 92 (F.e rfl) rfl) ?_; clear F a; intro a F
  refine list_do (wn rfl) (fun K hK => ?_)
  refine ow_lit F M R_ rfl rfl 1 _ rfl #[(0, bv (((key64 k).getD i 0) ^^^ 92))] (parts1 (F.e rfl)) [(((key64 k).getD i 0) ^^^ 92)] rfl rfl (lit1 (((key64 k).getD i 0) ^^^ 92) _) ?_
  clear F M R_; intro a g44 v F M R_ hb
  refine hK _ _ ?_
  clear hK K
  clear hb; try clear u
  refine list_do (wn rfl) (fun K hK => ?_)
  refine ow_appR F M R_ rfl rfl rfl rfl _ _ rfl 3 A4 ((((key64 k).map (· ^^^ 92)).take i).length) c4 (((key64 k).map (· ^^^ 92)).take i) ([(((key64 k).getD i 0) ^^^ 92)]) (((key64 k).map (· ^^^ 92)).take (i + 1)) rfl (map_next 92 hkl hin) (some ⟨g44, 0, none⟩) 1 1 (F.e rfl) (F.e rfl) (R_.rb (i := 0) rfl) (by (try rw [List.length_take, List.length_map, key64_len]); omega) ?_
  clear F M R_; intro a A_45 c_45 u F M R_
  refine hK _ _ ?_
  clear hK K
  try clear v
  refine list_val F (wn rfl) rfl rfl (.slice A_45 ((((key64 k).map (· ^^^ 92)).take (i + 1)).length) c_45) (ex_assign _ rfl _ (F.e rfl)) ?_; clear F a; intro a F
  refine wpList_nil ?_
  replace F : Fr 54 a [(0, .slice B n c), (1, .slice D m d), (4, .pointer (some ⟨g4, 0, none⟩)), (5, .slice A2 ((key64 k).length) c2), (7, .slice A_37 ((((key64 k).map (· ^^^ 54)).take (i + 1)).length) c_37), (8, .slice A_45 ((((key64 k).map (· ^^^ 92)).take (i + 1)).length) c_45), (9, .int .i64 ((i : Nat) : Int)), (15, .bool false), (22, .bool false), (27, .bool true)] := F.keep ⟨rfl, rfl, rfl, rfl, rfl, rfl, rfl, rfl, rfl, rfl, trivial⟩
  refine in_n ?_
  refine then_n ?_
  refine wp_region_lit ?_
  refine list_val F (wn rfl) rfl rfl (.int .i64 ((i : Nat) : Int)) (ex_move _ rfl _ (F.e rfl)) ?_; clear F a; intro a F
  refine list_val F (wn rfl) rfl rfl (.int .i64 ((i + 1 : Nat) : Int)) (ex_bin .add _ _ _ _ rfl .i64 _ _ (F.e rfl) rfl _ (b_add ((w_i64 (by omega) (by omega)).trans (by omega)))) ?_; clear F a; intro a F
  refine list_val F (wn rfl) rfl rfl (.int .i64 ((i + 1 : Nat) : Int)) (ex_assign _ rfl _ (F.e rfl)) ?_; clear F a; intro a F
  refine wpList_nil ?_
  replace F : Fr 54 a [(0, .slice B n c), (1, .slice D m d), (4, .pointer (some ⟨g4, 0, none⟩)), (5, .slice A2 ((key64 k).length) c2), (7, .slice A_37 ((((key64 k).map (· ^^^ 54)).take (i + 1)).length) c_37), (8, .slice A_45 ((((key64 k).map (· ^^^ 92)).take (i + 1)).length) c_45), (9, .int .i64 ((i + 1 : Nat) : Int)), (15, .bool false), (22, .bool false), (27, .bool true)] := F.keep ⟨rfl, rfl, rfl, rfl, rfl, rfl, rfl, rfl, rfl, rfl, trivial⟩
  refine then_n ?_
  replace R_ := R_.pick [2, 3, 4] [_, _, _] ⟨rfl, rfl, rfl, trivial⟩ (by decide)
  exact ⟨64 - (i + 1), by omega, (i + 1), A_37, c_37, A_45, c_45, F.keep ⟨rfl, rfl, rfl, rfl, rfl, rfl, rfl, rfl, rfl, trivial⟩, (by refine M.pick' [0] _ ?_ (by decide); exact ⟨rfl, trivial⟩), R_, (by omega), (by omega)⟩
 rw [List.take_of_length_le (by rw [List.length_map]; omega), List.take_of_length_le (by rw [List.length_map]; omega)] at F R_
 refine wp_seq ?_
 refine wp_seq ?_
 refine wp_region_lit ?_
 refine list_val F (wn rfl) rfl rfl (.int .i64 ((i : Nat) : Int)) (ex_move _ rfl _ (F.e rfl)) ?_; clear F a; intro a F
 refine list_val F (wn rfl) rfl rfl (.bool false) (ex_bin .lss _ _ _ _ rfl .i64 _ _ (F.e rfl) rfl _ (b_lss (decide_eq_false (by omega)))) ?_; clear F a; intro a F
 refine wpList_nil ?_
 replace F : Fr 54 a [(0, .slice B n c), (1, .slice D m d), (4, .pointer (some ⟨g4, 0, none⟩)), (5, .slice A2 ((key64 k).length) c2), (7, .slice A3 (((key64 k).map (· ^^^ 54)).length) c3), (8, .slice A4 (((key64 k).map (· ^^^ 92)).length) c4), (9, .int .i64 ((i : Nat) : Int)), (15, .bool false), (22, .bool false), (27, .bool false)] := F.keep ⟨rfl, rfl, rfl, rfl, rfl, rfl, rfl, rfl, rfl, rfl, trivial⟩
 refine then_n ?_
 refine wp_cond_false (F.e rfl) ?_
 refine wp_exit ?_
 refine then_x ?_
 refine then_x ?_
 refine in_hit ?_
 refine then_n ?_
 refine wp_seq ?_
 refine wp_region_lit ?_
 refine list_val F (wn rfl) rfl rfl (.slice A3 (((key64 k).map (· ^^^ 54)).length) c3) (ex_move _ rfl _ (F.e rfl)) ?_; clear F a; intro a F
 refine list_val F (wn rfl) rfl rfl (.slice D m d) (ex_move _ rfl _ (F.e rfl)) ?_; clear F a; intro a F
 refine list_do (wn rfl) (fun K hK => ?_)
 refine ow_appR F M R_ rfl rfl rfl rfl _ _ rfl 0 A3 (((key64 k).map (· ^^^ 54)).length) c3 ((key64 k).map (· ^^^ 54)) b (((key64 k).map (· ^^^ 54)) ++ b) rfl rfl D m d (F.e rfl) (F.e rfl) (hD.below M.bel) (by rw [List.length_map, key64_len]; omega) ?_
 clear F M R_; intro a A_48 c_48 v F M R_
 refine hK _ _ ?_
 clear hK K
 try clear u
 refine list_do (wn rfl) (fun K hK => ?_)
 refine ow_call rfl rfl F 13 #[.slice A_48 ((((key64 k).map (· ^^^ 54)) ++ b).length) c_48] (ex_call 13 _ _ rfl rfl dl_ent_13 _ (map1 (F.e rfl))) (refSum_any (((key64 k).map (· ^^^ 54)) ++ b) _ _ _ (by (try simp only [List.length_append, List.length_map, key64_len, sha_len]); omega) _ (R_.rb (i := 0) rfl)) (fun e u hR => ?_)
 obtain ⟨he, hb⟩ := hR
 refine ⟨.agg ((bcs (sha (((key64 k).map (· ^^^ 54)) ++ b))).toArray), he, ?_⟩; clear he F a; intro a F
 refine hK _ _ ?_
 clear hK K
 replace R_ := R_.below hb
 replace M := M.below hb; clear hb; try clear v
 refine list_do (wn rfl) (fun K hK => ?_)
 refine ow_alloc F M rfl rfl 24 rfl (.agg (bcs (List.replicate 32 0)).toArray) z24 ((bcs (List.replicate 32 0)).toArray) rfl ?_
 clear F M a; intro a g10 v F M hb hg
 refine hK _ _ ?_
 clear hK K
 replace R_ := R_.below hb
 clear hb hg; try clear u
 refine list_do (wn rfl) (fun K hK => ?_)
 refine ow_put F M rfl 24 _ _ rfl 0 _ ((bcs (List.replicate 32 0)).toArray) _ rfl (F.e rfl) ((bcs (sha (((key64 k).map (· ^^^ 54)) ++ b))).toArray) (F.e rfl) (sz24 (sha_len _)) (sz_eqb 32 rfl (sha_len _)) (all_oneCell_toArray (bcs_one _)) ?_
 clear F a; have Mo := M; clear M; intro a u F M hgr
 refine hK _ _ ?_
 clear hK K
 replace R_ := R_.box (Mo.blk 0 _ rfl) (by show 5 ≠ 24; decide) hgr
 clear Mo hgr; try clear v
 replace M : Mm w u [⟨g10, (bcs (sha (((key64 k).map (· ^^^ 54)) ++ b))).toArray, 24⟩, ⟨g4, ((bcs (List.replicate 32 0)).toArray), 24⟩] := M
 refine wpList_nil ?_
 replace F : Fr 54 a [(0, .slice B n c), (1, .slice D m d), (4, .pointer (some ⟨g4, 0, none⟩)), (5, .slice A2 ((key64 k).length) c2), (7, .slice A3 (((key64 k).map (· ^^^ 54)).length) c3), (8, .slice A4 (((key64 k).map (· ^^^ 92)).length) c4), (9, .int .i64 ((i : Nat) : Int)), (10, .pointer (some ⟨g10, 0, none⟩)), (15, .bool false), (22, .bool false), (27, .bool false)] := F.keep ⟨rfl, rfl, rfl, rfl, rfl, rfl, rfl, rfl, rfl, rfl, rfl, trivial⟩
 refine then_n ?_
 refine wp_seq ?_
 refine wp_region_lit ?_
 refine list_val F (wn rfl) rfl rfl (.slice A4 (((key64 k).map (· ^^^ 92)).length) c4) (ex_move _ rfl _ (F.e rfl)) ?_; clear F a; intro a F
 refine list_val F (wn rfl) rfl rfl (.slice (some ⟨g10, 0, none⟩) 32 32) (ex_all 24 _ rfl 32 dl_sa_24_32 ⟨g10, 0, none⟩ (F.e rfl)) ?_; clear F a; intro a F
 refine list_do (wn rfl) (fun K hK => ?_)
 refine ow_appR F M R_ rfl rfl rfl rfl _ _ rfl 1 A4 (((key64 k).map (· ^^^ 92)).length) c4 ((key64 k).map (· ^^^ 92)) (sha (((key64 k).map (· ^^^ 54)) ++ b)) (((key64 k).map (· ^^^ 92)) ++ (sha (((key64 k).map (· ^^^ 54)) ++ b))) rfl rfl (some ⟨g10, 0, none⟩) 32 32 (F.e rfl) (F.e rfl) (Rb.mk' (M.at (i := 0) rfl) (sha_len _) (by decide)) (by rw [List.length_map, key64_len]; omega) ?_
 clear F M R_; intro a A_52 c_52 v F M R_
 refine hK _ _ ?_
 clear hK K
 try clear u
 refine list_do (wn rfl) (fun K hK => ?_)
 refine ow_call rfl rfl F 13 #[.slice A_52 ((((key64 k).map (· ^^^ 92)) ++ (sha (((key64 k).map (· ^^^ 54)) ++ b))).length) c_52] (ex_call 13 _ _ rfl rfl dl_ent_13 _ (map1 (F.e rfl))) (refSum_any (((key64 k).map (· ^^^ 92)) ++ (sha (((key64 k).map (· ^^^ 54)) ++ b))) _ _ _ (by (try simp only [List.length_append, List.length_map, key64_len, sha_len]); omega) _ (R_.rb (i := 1) rfl)) (fun e u hR => ?_)
 obtain ⟨he, hb⟩ := hR
 refine ⟨.agg ((bcs (sha (((key64 k).map (· ^^^ 92)) ++ (sha (((key64 k).map (· ^^^ 54)) ++ b))))).toArray), he, ?_⟩; clear he F a; intro a F
 refine hK _ _ ?_
 clear hK K
 replace R_ := R_.below hb
 replace M := M.below hb; clear hb; try clear v
 refine list_do (wn rfl) (fun K hK => ?_)
 refine ow_put F M rfl 24 _ _ rfl 1 _ ((bcs (List.replicate 32 0)).toArray) _ rfl (F.e rfl) ((bcs (sha (((key64 k).map (· ^^^ 92)) ++ (sha (((key64 k).map (· ^^^ 54)) ++ b))))).toArray) (F.e rfl) (sz24 (sha_len _)) (sz_eqb 32 rfl (sha_len _)) (all_oneCell_toArray (bcs_one _)) ?_
 clear F a; have Mo := M; clear M; intro a v F M hgr
 refine hK _ _ ?_
 clear hK K
 replace R_ := R_.box (Mo.blk 1 _ rfl) (by show 5 ≠ 24; decide) hgr
 clear Mo hgr; try clear u
 replace M : Mm w v [⟨g10, (bcs (sha (((key64 k).map (· ^^^ 54)) ++ b))).toArray, 24⟩, ⟨g4, (bcs (sha (((key64 k).map (· ^^^ 92)) ++ (sha (((key64 k).map (· ^^^ 54)) ++ b))))).toArray, 24⟩] := M
 refine wpList_nil ?_
 replace F : Fr 54 a [(0, .slice B n c), (1, .slice D m d), (4, .pointer (some ⟨g4, 0, none⟩)), (5, .slice A2 ((key64 k).length) c2), (7, .slice A3 (((key64 k).map (· ^^^ 54)).length) c3), (8, .slice A4 (((key64 k).map (· ^^^ 92)).length) c4), (9, .int .i64 ((i : Nat) : Int)), (10, .pointer (some ⟨g10, 0, none⟩)), (15, .bool false), (22, .bool false), (27, .bool false)] := F.keep ⟨rfl, rfl, rfl, rfl, rfl, rfl, rfl, rfl, rfl, rfl, rfl, trivial⟩
 refine then_n ?_
 refine wp_ret ?_
 exact ret_c1 (v := .agg ((bcs (sha (((key64 k).map (· ^^^ 92)) ++ (sha (((key64 k).map (· ^^^ 54)) ++ b))))).toArray)) F rfl rfl (lvr (cs := bcs (sha (((key64 k).map (· ^^^ 92)) ++ (sha (((key64 k).map (· ^^^ 54)) ++ b))))) (by rw [bcs_len, show _ = 32 from (sha_len _)]; exact dl_row_24_32) (M.at (i := 1) rfl)) ⟨rfl, M.bel⟩
theorem dl_sa_40_16 : sa? Tryd.prog 40 16 = true := by kernel_rfl
theorem dl_cv_3_62_u64 : cv? Tryd.prog 3 62 .u64 = true := by kernel_rfl
theorem dl_ent_40 : ent? Tryd.prog 40 = true := by kernel_rfl
theorem dl_follows_mixedOrders : Tryd.prog.follows .mixedOrders = true := by kernel_rfl
set_option maxHeartbeats 4000000 in
set_option maxRecDepth 100000 in
theorem refPass_any (s t : List By) (hs : s.length = 16) (ht : t.length ≤ 50000000000000) (r : Int) (w : World) :
    Calls Tryd.prog 24 #[.agg (bcs s).toArray, .string (strB t), .int .i64 r] w fun e w' => e = .returned (.tuple #[.agg (bcs (passF s t r).1).toArray, .int .i64 (passF s t r).2]) ∧ Below w.heap.size w w' := by
 have R_ : Rs w w [] := Rs.nil w w
 refine calls_start Tryd.func24 rfl rfl rfl (fun a F => ?_)
 have M : Mm w w [] := Mm.nil w
 refine wp_seq ?_
 refine wp_region_lit ?_
 refine list_do (wn rfl) (fun K hK => ?_)
 refine ow_box F M rfl rfl 40 _ rfl _ (F.e rfl) ((bcs s).toArray) rfl ?_
 clear F M a; intro a g3 v F M hb hg
 refine hK _ _ ?_
 clear hK K
 replace R_ := R_.below hb
 clear hb hg; try clear w
 refine list_do (wn rfl) (fun K hK => ?_)
 refine ow_alloc F M rfl rfl 24 rfl (.agg (bcs (List.replicate 32 0)).toArray) z24 ((bcs (List.replicate 32 0)).toArray) rfl ?_
 clear F M a; intro a g6 u F M hb hg
 refine hK _ _ ?_
 clear hK K
 replace R_ := R_.below hb
 clear hb hg; try clear v
 refine list_val F (wn rfl) rfl rfl (.int .i64 0) (ex_assign _ rfl _ rfl) ?_; clear F a; intro a F
 refine wpList_nil ?_
 replace F : Fr 40 a [(0, .agg ((bcs s).toArray)), (1, .string (strB t)), (2, .int .i64 r), (3, .pointer (some ⟨g3, 0, none⟩)), (6, .pointer (some ⟨g6, 0, none⟩)), (7, .int .i64 0)] := F.keep ⟨rfl, rfl, rfl, rfl, rfl, rfl, trivial⟩
 refine then_n ?_
 refine wp_seq ?_
 refine wp_seq ?_
 by_cases h1 : r < 1
 ·
  refine wp_region_lit ?_
  refine list_val F (wn rfl) rfl rfl (.int .i64 r) (ex_move _ rfl _ (F.e rfl)) ?_; clear F a; intro a F
  refine list_val F (wn rfl) rfl rfl (.bool true) (ex_bin .lss _ _ _ _ rfl .i64 _ _ (F.e rfl) rfl _ (b_lss (decide_eq_true h1))) ?_; clear F a; intro a F
  refine list_val F (wn rfl) rfl rfl (.bool true) (ex_move _ rfl _ (F.e rfl)) ?_; clear F a; intro a F
  refine list_skip F (F.wants 13 true rfl (by kernel_rfl) rfl false rfl) rfl rfl ?_; clear F a; intro a F
  refine list_skip F (F.wants 13 true rfl (by kernel_rfl) rfl false rfl) rfl rfl ?_; clear F a; intro a F
  refine list_val F (wn rfl) rfl rfl (.bool true) (ex_pick_t _ _ _ rfl (F.e rfl) _ rfl) ?_; clear F a; intro a F
  refine wpList_nil ?_
  replace F : Fr 40 a [(0, .agg ((bcs s).toArray)), (1, .string (strB t)), (2, .int .i64 r), (3, .pointer (some ⟨g3, 0, none⟩)), (6, .pointer (some ⟨g6, 0, none⟩)), (7, .int .i64 0), (16, .bool true)] := F.keep ⟨rfl, rfl, rfl, rfl, rfl, rfl, rfl, trivial⟩
  refine then_n ?_
  refine wp_cond_true (F.e rfl) ?_
  refine wp_seq ?_
  refine wp_region_lit ?_
  refine list_val F (wn rfl) rfl rfl (.agg ((bcs (List.replicate 32 0)).toArray)) (ex_build 24 _ rfl #[] parts0 (.agg ((bcs (List.replicate 32 0)).toArray)) (b24_0 _)) ?_; clear F a; intro a F
  refine list_do (wn rfl) (fun K hK => ?_)
  refine ow_put F M rfl 24 _ _ rfl 0 _ ((bcs (List.replicate 32 0)).toArray) _ rfl (F.e rfl) ((bcs (List.replicate 32 0)).toArray) (F.e rfl) (sz24 rfl) (sz_eqb 32 rfl rfl) (all_oneCell_toArray (bcs_one _)) ?_
  clear F a; have Mo := M; clear M; intro a v F M hgr
  refine hK _ _ ?_
  clear hK K
  replace R_ := R_.box (Mo.blk 0 _ rfl) (by show 5 ≠ 24; decide) hgr
  clear Mo hgr; try clear u
  replace M : Mm w v [⟨g6, (bcs (List.replicate 32 0)).toArray, 24⟩, ⟨g3, ((bcs s).toArray), 40⟩] := M
  refine list_val F (wn rfl) rfl rfl (.int .i64 40) (ex_assign _ rfl _ rfl) ?_; clear F a; intro a F
  refine wpList_nil ?_
  replace F : Fr 40 a [(0, .agg ((bcs s).toArray)), (1, .string (strB t)), (2, .int .i64 r), (3, .pointer (some ⟨g3, 0, none⟩)), (6, .pointer (some ⟨g6, 0, none⟩)), (7, .int .i64 40), (16, .bool true)] := F.keep ⟨rfl, rfl, rfl, rfl, rfl, rfl, rfl, trivial⟩
  refine then_n ?_
  refine wp_ret ?_
  refine then_r ?_
  rw [passF_no (.inl h1)]
  exact ret_c2 (v := .agg ((bcs (List.replicate 32 0)).toArray)) F rfl rfl rfl (lvr (cs := bcs (List.replicate 32 0)) (by rw [bcs_len, show _ = 32 from rfl]; exact dl_row_24_32) (M.at (i := 0) rfl)) ⟨rfl, M.bel⟩
 by_cases h2 : 4096 < r
 ·
  refine wp_region_lit ?_
  refine list_val F (wn rfl) rfl rfl (.int .i64 r) (ex_move _ rfl _ (F.e rfl)) ?_; clear F a; intro a F
  refine list_val F (wn rfl) rfl rfl (.bool false) (ex_bin .lss _ _ _ _ rfl .i64 _ _ (F.e rfl) rfl _ (b_lss (decide_eq_false h1))) ?_; clear F a; intro a F
  refine list_val F (wn rfl) rfl rfl (.bool false) (ex_move _ rfl _ (F.e rfl)) ?_; clear F a; intro a F
  refine list_val F (F.wants 13 false rfl (by kernel_rfl) rfl true rfl) rfl rfl (.int .i64 r) (ex_move _ rfl _ (F.e rfl)) ?_; clear F a; intro a F
  refine list_val F (F.wants 13 false rfl (by kernel_rfl) rfl true rfl) rfl rfl (.bool true) (ex_bin .gtr _ _ _ _ rfl .i64 _ _ (F.e rfl) rfl _ (b_gtr (decide_eq_true h2))) ?_; clear F a; intro a F
  refine list_val F (wn rfl) rfl rfl (.bool true) (ex_pick_f _ _ _ rfl (F.e rfl) _ (F.e rfl)) ?_; clear F a; intro a F
  refine wpList_nil ?_
  replace F : Fr 40 a [(0, .agg ((bcs s).toArray)), (1, .string (strB t)), (2, .int .i64 r), (3, .pointer (some ⟨g3, 0, none⟩)), (6, .pointer (some ⟨g6, 0, none⟩)), (7, .int .i64 0), (16, .bool true)] := F.keep ⟨rfl, rfl, rfl, rfl, rfl, rfl, rfl, trivial⟩
  refine then_n ?_
  refine wp_cond_true (F.e rfl) ?_
  refine wp_seq ?_
  refine wp_region_lit ?_
  refine list_val F (wn rfl) rfl rfl (.agg ((bcs (List.replicate 32 0)).toArray)) (ex_build 24 _ rfl #[] parts0 (.agg ((bcs (List.replicate 32 0)).toArray)) (b24_0 _)) ?_; clear F a; intro a F
  refine list_do (wn rfl) (fun K hK => ?_)
  refine ow_put F M rfl 24 _ _ rfl 0 _ ((bcs (List.replicate 32 0)).toArray) _ rfl (F.e rfl) ((bcs (List.replicate 32 0)).toArray) (F.e rfl) (sz24 rfl) (sz_eqb 32 rfl rfl) (all_oneCell_toArray (bcs_one _)) ?_
  clear F a; have Mo := M; clear M; intro a v F M hgr
  refine hK _ _ ?_
  clear hK K
  replace R_ := R_.box (Mo.blk 0 _ rfl) (by show 5 ≠ 24; decide) hgr
  clear Mo hgr; try clear u
  replace M : Mm w v [⟨g6, (bcs (List.replicate 32 0)).toArray, 24⟩, ⟨g3, ((bcs s).toArray), 40⟩] := M
  refine list_val F (wn rfl) rfl rfl (.int .i64 40) (ex_assign _ rfl _ rfl) ?_; clear F a; intro a F
  refine wpList_nil ?_
  replace F : Fr 40 a [(0, .agg ((bcs s).toArray)), (1, .string (strB t)), (2, .int .i64 r), (3, .pointer (some ⟨g3, 0, none⟩)), (6, .pointer (some ⟨g6, 0, none⟩)), (7, .int .i64 40), (16, .bool true)] := F.keep ⟨rfl, rfl, rfl, rfl, rfl, rfl, rfl, trivial⟩
  refine then_n ?_
  refine wp_ret ?_
  refine then_r ?_
  rw [passF_no (.inr h2)]
  exact ret_c2 (v := .agg ((bcs (List.replicate 32 0)).toArray)) F rfl rfl rfl (lvr (cs := bcs (List.replicate 32 0)) (by rw [bcs_len, show _ = 32 from rfl]; exact dl_row_24_32) (M.at (i := 0) rfl)) ⟨rfl, M.bel⟩
 obtain ⟨q, hq1⟩ : ∃ q : Nat, (q : Int) = r - 1 := ⟨(r - 1).toNat, by omega⟩
 refine wp_region_lit ?_
 refine list_val F (wn rfl) rfl rfl (.int .i64 r) (ex_move _ rfl _ (F.e rfl)) ?_; clear F a; intro a F
 refine list_val F (wn rfl) rfl rfl (.bool false) (ex_bin .lss _ _ _ _ rfl .i64 _ _ (F.e rfl) rfl _ (b_lss (decide_eq_false h1))) ?_; clear F a; intro a F
 refine list_val F (wn rfl) rfl rfl (.bool false) (ex_move _ rfl _ (F.e rfl)) ?_; clear F a; intro a F
 refine list_val F (F.wants 13 false rfl (by kernel_rfl) rfl true rfl) rfl rfl (.int .i64 r) (ex_move _ rfl _ (F.e rfl)) ?_; clear F a; intro a F
 refine list_val F (F.wants 13 false rfl (by kernel_rfl) rfl true rfl) rfl rfl (.bool false) (ex_bin .gtr _ _ _ _ rfl .i64 _ _ (F.e rfl) rfl _ (b_gtr (decide_eq_false h2))) ?_; clear F a; intro a F
 refine list_val F (wn rfl) rfl rfl (.bool false) (ex_pick_f _ _ _ rfl (F.e rfl) _ (F.e rfl)) ?_; clear F a; intro a F
 refine wpList_nil ?_
 replace F : Fr 40 a [(0, .agg ((bcs s).toArray)), (1, .string (strB t)), (2, .int .i64 r), (3, .pointer (some ⟨g3, 0, none⟩)), (6, .pointer (some ⟨g6, 0, none⟩)), (7, .int .i64 0), (16, .bool false)] := F.keep ⟨rfl, rfl, rfl, rfl, rfl, rfl, rfl, trivial⟩
 refine then_n ?_
 refine wp_cond_false (F.e rfl) ?_
 refine wp_skip ?_
 refine then_n ?_
 refine wp_seq ?_
 refine wp_region_lit ?_
 refine list_val F (wn rfl) rfl rfl (.slice (some ⟨g3, 0, none⟩) 16 16) (ex_all 40 _ rfl 16 dl_sa_40_16 ⟨g3, 0, none⟩ (F.e rfl)) ?_; clear F a; intro a F
 refine list_do (wn rfl) (fun K hK => ?_)
 refine ow_call rfl rfl F 27 #[.slice (some ⟨g3, 0, none⟩) 16 16] (ex_call 27 _ _ rfl rfl dl_ent_27 _ (map1 (F.e rfl))) (copy_any s _ 16 16 (by decide) _ (Rb.mk' (M.at (i := 1) rfl) hs (by decide))) (fun e v hR => ?_)
 obtain ⟨A_19, c_19, he, O_n, hb⟩ := hR
 have R1 := R_.new hb M.bel.size O_n
 refine ⟨.slice A_19 s.length c_19, he, ?_⟩; clear he F a; intro a F
 refine hK _ _ ?_
 clear hK K
 replace R_ := R_.below hb
 replace M := M.below hb; clear hb; try clear u
 replace R_ := R1; clear R1 O_n
 refine list_val F (wn rfl) rfl rfl (.string (strB t)) (ex_move _ rfl _ (F.e rfl)) ?_; clear F a; intro a F
 refine list_val F (wn rfl) rfl rfl (.int .i64 ((t.length : Nat) : Int)) (ex_lens _ _ rfl (by kernel_rfl) t (F.e rfl)) ?_; clear F a; intro a F
 refine list_val F (wn rfl) rfl rfl (.int .u64 ((BitVec.ofNat 64 t.length).toNat : Int)) (ex_conv _ _ _ rfl _ .u64 dl_cv_3_62_u64 _ (F.e rfl) _ (w64 _)) ?_; clear F a; intro a F
 refine list_do (wn rfl) (fun K hK => ?_)
 refine ow_call rfl rfl F 40 #[.int .u64 ((BitVec.ofNat 64 t.length).toNat : Int)] (ex_call 40 _ _ rfl rfl dl_ent_40 _ (map1 (F.e rfl))) (number_any (BitVec.ofNat 64 t.length) _) (fun e u hR => ?_)
 obtain ⟨A_23, c_23, he, O_n, hb⟩ := hR
 have R1 := R_.new hb M.bel.size O_n
 refine ⟨.slice A_23 ((be8 (BitVec.ofNat 64 t.length)).length) c_23, he, ?_⟩; clear he F a; intro a F
 refine hK _ _ ?_
 clear hK K
 replace R_ := R_.below hb
 replace M := M.below hb; clear hb; try clear v
 replace R_ := R1; clear R1 O_n
 refine list_do (wn rfl) (fun K hK => ?_)
 refine ow_appR F M R_ rfl rfl rfl rfl _ _ rfl 1 A_19 s.length c_19 s (be8 (BitVec.ofNat 64 t.length)) (s ++ (be8 (BitVec.ofNat 64 t.length))) rfl rfl A_23 ((be8 (BitVec.ofNat 64 t.length)).length) c_23 (F.e rfl) (F.e rfl) (R_.rb (i := 0) rfl) (by (try simp only [hs, be8_len]); omega) ?_
 clear F M R_; intro a A_24 c_24 v F M R_
 refine hK _ _ ?_
 clear hK K
 try clear u
 refine list_val F (wn rfl) rfl rfl (.slice A_24 ((s ++ (be8 (BitVec.ofNat 64 t.length))).length) c_24) (ex_assign _ rfl _ (F.e rfl)) ?_; clear F a; intro a F
 refine wpList_nil ?_
 replace F : Fr 40 a [(0, .agg ((bcs s).toArray)), (1, .string (strB t)), (2, .int .i64 r), (3, .pointer (some ⟨g3, 0, none⟩)), (6, .pointer (some ⟨g6, 0, none⟩)), (7, .int .i64 0), (8, .slice A_24 ((s ++ (be8 (BitVec.ofNat 64 t.length))).length) c_24), (16, .bool false)] := F.keep ⟨rfl, rfl, rfl, rfl, rfl, rfl, rfl, rfl, trivial⟩
 refine then_n ?_
 refine wp_seq ?_
 refine wp_region_lit ?_
 refine list_val F (wn rfl) rfl rfl (.slice A_24 ((s ++ (be8 (BitVec.ofNat 64 t.length))).length) c_24) (ex_move _ rfl _ (F.e rfl)) ?_; clear F a; intro a F
 refine list_val F (wn rfl) rfl rfl (.string (strB t)) (ex_move _ rfl _ (F.e rfl)) ?_; clear F a; intro a F
 refine list_do (wn rfl) (fun K hK => ?_)
 refine ow_appS F M R_ rfl rfl rfl _ _ rfl 1 A_24 ((s ++ (be8 (BitVec.ofNat 64 t.length))).length) c_24 (s ++ (be8 (BitVec.ofNat 64 t.length))) t ((s ++ (be8 (BitVec.ofNat 64 t.length))) ++ t) rfl rfl (F.e rfl) (F.e rfl) (by (try simp only [List.length_append, hs, be8_len]); omega) ?_
 clear F M R_; intro a A_27 c_27 u F M R_
 refine hK _ _ ?_
 clear hK K
 try clear v
 refine list_do (wn rfl) (fun K hK => ?_)
 refine ow_call rfl rfl F 13 #[.slice A_27 (((s ++ (be8 (BitVec.ofNat 64 t.length))) ++ t).length) c_27] (ex_call 13 _ _ rfl rfl dl_ent_13 _ (map1 (F.e rfl))) (refSum_any ((s ++ (be8 (BitVec.ofNat 64 t.length))) ++ t) _ _ _ (by (try simp only [List.length_append, be8_len, hs, be8_len]); omega) _ (R_.rb (i := 0) rfl)) (fun e v hR => ?_)
 obtain ⟨he, hb⟩ := hR
 refine ⟨.agg ((bcs (sha ((s ++ (be8 (BitVec.ofNat 64 t.length))) ++ t))).toArray), he, ?_⟩; clear he F a; intro a F
 refine hK _ _ ?_
 clear hK K
 replace R_ := R_.below hb
 replace M := M.below hb; clear hb; try clear u
 refine list_do (wn rfl) (fun K hK => ?_)
 refine ow_alloc F M rfl rfl 24 rfl (.agg (bcs (List.replicate 32 0)).toArray) z24 ((bcs (List.replicate 32 0)).toArray) rfl ?_
 clear F M a; intro a g9 u F M hb hg
 refine hK _ _ ?_
 clear hK K
 replace R_ := R_.below hb
 clear hb hg; try clear v
 refine list_do (wn rfl) (fun K hK => ?_)
 refine ow_put F M rfl 24 _ _ rfl 0 _ ((bcs (List.replicate 32 0)).toArray) _ rfl (F.e rfl) ((bcs (sha ((s ++ (be8 (BitVec.ofNat 64 t.length))) ++ t))).toArray) (F.e rfl) (sz24 (sha_len _)) (sz_eqb 32 rfl (sha_len _)) (all_oneCell_toArray (bcs_one _)) ?_
 clear F a; have Mo := M; clear M; intro a v F M hgr
 refine hK _ _ ?_
 clear hK K
 replace R_ := R_.box (Mo.blk 0 _ rfl) (by show 5 ≠ 24; decide) hgr
 clear Mo hgr; try clear u
 replace M : Mm w v [⟨g9, (bcs (sha ((s ++ (be8 (BitVec.ofNat 64 t.length))) ++ t))).toArray, 24⟩, ⟨g6, ((bcs (List.replicate 32 0)).toArray), 24⟩, ⟨g3, ((bcs s).toArray), 40⟩] := M
 refine wpList_nil ?_
 replace F : Fr 40 a [(0, .agg ((bcs s).toArray)), (1, .string (strB t)), (2, .int .i64 r), (3, .pointer (some ⟨g3, 0, none⟩)), (6, .pointer (some ⟨g6, 0, none⟩)), (7, .int .i64 0), (8, .slice A_24 ((s ++ (be8 (BitVec.ofNat 64 t.length))).length) c_24), (9, .pointer (some ⟨g9, 0, none⟩)), (16, .bool false)] := F.keep ⟨rfl, rfl, rfl, rfl, rfl, rfl, rfl, rfl, rfl, trivial⟩
 refine then_n ?_
 refine wp_seq ?_
 refine wp_seq ?_
 refine wp_region_lit ?_
 refine list_val F (wn rfl) rfl rfl (.int .i64 1) (ex_assign _ rfl _ rfl) ?_; clear F a; intro a F
 refine wpList_nil ?_
 replace F : Fr 40 a [(0, .agg ((bcs s).toArray)), (1, .string (strB t)), (2, .int .i64 r), (3, .pointer (some ⟨g3, 0, none⟩)), (6, .pointer (some ⟨g6, 0, none⟩)), (7, .int .i64 0), (8, .slice A_24 ((s ++ (be8 (BitVec.ofNat 64 t.length))).length) c_24), (9, .pointer (some ⟨g9, 0, none⟩)), (10, .int .i64 1), (16, .bool false)] := F.keep ⟨rfl, rfl, rfl, rfl, rfl, rfl, rfl, rfl, rfl, rfl, trivial⟩
 refine then_n ?_
 refine wp_block ?_
 refine wp_loopN (fun mq ar wr => ∃ (i : Nat), ∃ (d9 : List By), Fr 40 ar [(0, .agg ((bcs s).toArray)), (1, .string (strB t)), (2, .int .i64 r), (3, .pointer (some ⟨g3, 0, none⟩)), (6, .pointer (some ⟨g6, 0, none⟩)), (7, .int .i64 0), (8, .slice A_24 ((s ++ (be8 (BitVec.ofNat 64 t.length))).length) c_24), (9, .pointer (some ⟨g9, 0, none⟩)), (10, .int .i64 ((i + 1 : Nat) : Int)), (16, .bool false)] ∧ Mm w wr [⟨g9, (bcs d9).toArray, 24⟩, ⟨g6, ((bcs (List.replicate 32 0)).toArray), 24⟩, ⟨g3, ((bcs s).toArray), 40⟩] ∧ Rs w wr [] ∧ i ≤ q ∧ d9 = passR s (sha (s ++ be8 (BitVec.ofNat 64 t.length) ++ t)) i ∧ d9.length = 32 ∧ mq + i = q) q ?_ ?_
 ·
  exact ⟨0, (sha (s ++ be8 (BitVec.ofNat 64 t.length) ++ t)), F.keep ⟨rfl, rfl, rfl, rfl, rfl, rfl, rfl, rfl, rfl, rfl, trivial⟩, (by refine M.pick' [0, 1, 2] _ ?_ (by decide); exact ⟨rfl, rfl, rfl, trivial⟩), (R_.pick [] [] trivial (by decide)), (Nat.zero_le _), rfl, (sha_len _), (by omega)⟩
 clear F M a R_
 rintro mq a u ⟨i, d9, F, M, R_, hi, hdp, hd9, hq⟩; try clear v
 have hkr : ((i + 1 : Nat) : Int) = i + 1 := by omega
 by_cases hin : i < q
 ·
  refine wp_seq ?_
  refine wp_seq ?_
  refine wp_region_lit ?_
  refine list_val F (wn rfl) rfl rfl (.int .i64 ((i + 1 : Nat) : Int)) (ex_move _ rfl _ (F.e rfl)) ?_; clear F a; intro a F
  refine list_val F (wn rfl) rfl rfl (.int .i64 r) (ex_move _ rfl _ (F.e rfl)) ?_; clear F a; intro a F
  refine list_val F (wn rfl) rfl rfl (.bool true) (ex_bin .lss _ _ _ _ rfl .i64 _ _ (F.e rfl) (F.e rfl) _ (b_lss (decide_eq_true (by omega)))) ?_; clear F a; intro a F
  refine wpList_nil ?_
  replace F : Fr 40 a [(0, .agg ((bcs s).toArray)), (1, .string (strB t)), (2, .int .i64 r), (3, .pointer (some ⟨g3, 0, none⟩)), (6, .pointer (some ⟨g6, 0, none⟩)), (7, .int .i64 0), (8, .slice A_24 ((s ++ (be8 (BitVec.ofNat 64 t.length))).length) c_24), (9, .pointer (some ⟨g9, 0, none⟩)), (10, .int .i64 ((i + 1 : Nat) : Int)), (16, .bool false), (31, .bool true)] := F.keep ⟨rfl, rfl, rfl, rfl, rfl, rfl, rfl, rfl, rfl, rfl, rfl, trivial⟩
  refine then_n ?_
  refine wp_cond_true (F.e rfl) ?_
  refine wp_skip ?_
  refine then_n ?_
  refine wp_seq ?_
  refine wp_block ?_
  refine wp_only (fun ar wr => ∃ (A_35 : Option Addr), ∃ (c_35 : Nat), ∃ (A_37 : Option Addr), ∃ (c_37 : Nat), Fr 40 ar [(0, .agg ((bcs s).toArray)), (1, .string (strB t)), (2, .int .i64 r), (3, .pointer (some ⟨g3, 0, none⟩)), (6, .pointer (some ⟨g6, 0, none⟩)), (7, .int .i64 0), (8, .slice A_24 ((s ++ (be8 (BitVec.ofNat 64 t.length))).length) c_24), (9, .pointer (some ⟨g9, 0, none⟩)), (10, .int .i64 ((i + 1 : Nat) : Int)), (16, .bool false), (31, .bool true)] ∧ Mm w wr [⟨g9, (bcs (sha (d9 ++ s))).toArray, 24⟩, ⟨g6, ((bcs (List.replicate 32 0)).toArray), 24⟩, ⟨g3, ((bcs s).toArray), 40⟩] ∧ Rs w wr [(.slice A_37 ((d9 ++ s).length) c_37, (d9 ++ s))]) ?_ ?_
  ·
   refine region_anyM dl_follows_mixedOrders M [] (fun w' M => (by refine M.pick' [] _ ?_ (by decide); exact trivial)) ?_; clear M; intro wD M hb
   replace R_ := R_.below hb
   clear hb; try clear u
   have hS : Mm w wD [] := (by refine M.pick' [] _ ?_ (by decide); exact trivial)
   refine any_val F 0 rfl (by kernel_rfl) (wn rfl) rfl rfl (.slice (some ⟨g9, 0, none⟩) 32 32) (fun w' hS' => ex_all 24 _ rfl 32 dl_sa_24_32 ⟨g9, 0, none⟩ (F.e rfl)) hS ?_; clear F a; intro a F
   refine any_val F 2 rfl (by kernel_rfl) (wn rfl) rfl rfl (.slice (some ⟨g3, 0, none⟩) 16 16) (fun w' hS' => ex_all 40 _ rfl 16 dl_sa_40_16 ⟨g3, 0, none⟩ (F.e rfl)) hS ?_; clear F a; intro a F
   refine any_ready [1] (by kernel_rfl) (by simp) ?_
   refine ready_do rfl (wn rfl) (fun K hK => ?_) AllReadyH.nil
   refine ow_call rfl rfl F 27 #[.slice (some ⟨g9, 0, none⟩) 32 32] (ex_call 27 _ _ rfl rfl dl_ent_27 _ (map1 (F.e rfl))) (copy_any d9 _ 32 32 (by decide) _ (Rb.mk' (M.at (i := 0) rfl) hd9 (by decide))) (fun e v hR => ?_)
   obtain ⟨A_35, c_35, he, O_n, hb⟩ := hR
   have R1 := R_.new hb M.bel.size O_n
   refine ⟨.slice A_35 d9.length c_35, he, ?_⟩; clear he F a; intro a F
   replace hS : Mm w v [] := (by refine (M.below hb).pick' [] _ ?_ (by decide); exact trivial)
   refine hK _ _ hS ?_
   clear hK K
   replace R_ := R_.below hb
   replace M := M.below hb; clear hb; try clear wD
   replace R_ := R1; clear R1 O_n
   refine any_ready [3] (by kernel_rfl) (by simp) ?_
   refine ready_do rfl (wn rfl) (fun K hK => ?_) AllReadyH.nil
   refine ow_appR F M R_ rfl rfl rfl rfl _ _ rfl 0 A_35 d9.length c_35 d9 s (d9 ++ s) rfl rfl (some ⟨g3, 0, none⟩) 16 16 (F.e rfl) (F.e rfl) (Rb.mk' (M.at (i := 2) rfl) hs (by decide)) (by (try simp only [hd9]); omega) ?_
   clear F M R_; intro a A_37 c_37 u F M R_
   replace hS : Mm w u [] := (by refine M.pick' [] _ ?_ (by decide); exact trivial)
   refine hK _ _ hS ?_
   clear hK K
   try clear v
   refine any_ready [4] (by kernel_rfl) (by simp) ?_
   refine ready_do rfl (wn rfl) (fun K hK => ?_) AllReadyH.nil
   refine ow_call rfl rfl F 13 #[.slice A_37 ((d9 ++ s).length) c_37] (ex_call 13 _ _ rfl rfl dl_ent_13 _ (map1 (F.e rfl))) (refSum_any (d9 ++ s) _ _ _ (by (try simp only [List.length_append, be8_len, hs, hd9]); omega) _ (R_.rb (i := 0) rfl)) (fun e v hR => ?_)
   obtain ⟨he, hb⟩ := hR
   refine ⟨.agg ((bcs (sha (d9 ++ s))).toArray), he, ?_⟩; clear he F a; intro a F
   replace hS : Mm w v [] := (by refine (M.below hb).pick' [] _ ?_ (by decide); exact trivial)
   refine hK _ _ hS ?_
   clear hK K
   replace R_ := R_.below hb
   replace M := M.below hb; clear hb; try clear u
   refine any_ready [5] (by kernel_rfl) (by simp) ?_
   refine ready_do rfl (wn rfl) (fun K hK => ?_) AllReadyH.nil
   refine ow_put F M rfl 24 _ _ rfl 0 _ ((bcs d9).toArray) _ rfl (F.e rfl) ((bcs (sha (d9 ++ s))).toArray) (F.e rfl) (sz24 (sha_len _)) (sz_eqb 32 hd9 (sha_len _)) (all_oneCell_toArray (bcs_one _)) ?_
   clear F a; have Mo := M; clear M; intro a u F M hgr
   replace hS : Mm w u [] := (by refine M.pick' [] _ ?_ (by decide); exact trivial)
   refine hK _ _ hS ?_
   clear hK K
   replace R_ := R_.box (Mo.blk 0 _ rfl) (by show 5 ≠ 24; decide) hgr
   clear Mo hgr; try clear v
   replace M : Mm w u [⟨g9, (bcs (sha (d9 ++ s))).toArray, 24⟩, ⟨g6, ((bcs (List.replicate 32 0)).toArray), 24⟩, ⟨g3, ((bcs s).toArray), 40⟩] := M
   refine any_done (by kernel_rfl) ?_
   exact ⟨A_35, c_35, A_37, c_37, F.keep ⟨rfl, rfl, rfl, rfl, rfl, rfl, rfl, rfl, rfl, rfl, rfl, trivial⟩, (by refine M.pick' [0, 1, 2] _ ?_ (by decide); exact ⟨rfl, rfl, rfl, trivial⟩), R_⟩
  clear F M a R_
  intro a v hR; obtain ⟨A_35, c_35, A_37, c_37, F, M, R_⟩ := hR; try clear u
  refine in_n ?_
  refine then_n ?_
  refine wp_region_lit ?_
  refine list_val F (wn rfl) rfl rfl (.int .i64 ((i + 1 : Nat) : Int)) (ex_move _ rfl _ (F.e rfl)) ?_; clear F a; intro a F
  refine list_val F (wn rfl) rfl rfl (.int .i64 ((i + 1 + 1 : Nat) : Int)) (ex_bin .add _ _ _ _ rfl .i64 _ _ (F.e rfl) rfl _ (b_add ((w_i64 (by omega) (by omega)).trans (by omega)))) ?_; clear F a; intro a F
  refine list_val F (wn rfl) rfl rfl (.int .i64 ((i + 1 + 1 : Nat) : Int)) (ex_assign _ rfl _ (F.e rfl)) ?_; clear F a; intro a F
  refine wpList_nil ?_
  replace F : Fr 40 a [(0, .agg ((bcs s).toArray)), (1, .string (strB t)), (2, .int .i64 r), (3, .pointer (some ⟨g3, 0, none⟩)), (6, .pointer (some ⟨g6, 0, none⟩)), (7, .int .i64 0), (8, .slice A_24 ((s ++ (be8 (BitVec.ofNat 64 t.length))).length) c_24), (9, .pointer (some ⟨g9, 0, none⟩)), (10, .int .i64 ((i + 1 + 1 : Nat) : Int)), (16, .bool false), (31, .bool true)] := F.keep ⟨rfl, rfl, rfl, rfl, rfl, rfl, rfl, rfl, rfl, rfl, rfl, trivial⟩
  refine then_n ?_
  replace R_ := R_.pick [] [] trivial (by decide)
  exact ⟨q - (i + 1), by omega, (i + 1), (sha (d9 ++ s)), F.keep ⟨rfl, rfl, rfl, rfl, rfl, rfl, rfl, rfl, rfl, rfl, trivial⟩, (by refine M.pick' [0, 1, 2] _ ?_ (by decide); exact ⟨rfl, rfl, rfl, trivial⟩), R_, (by omega), (by rw [hdp]; rfl), (sha_len _), (by omega)⟩
 obtain rfl : i = q := by omega
 have hfin : passF s t r = (d9, 0) := by rw [passF_yes h1 h2 hq1, hdp]; rfl
 refine wp_seq ?_
 refine wp_seq ?_
 refine wp_region_lit ?_
 refine list_val F (wn rfl) rfl rfl (.int .i64 ((i + 1 : Nat) : Int)) (ex_move _ rfl _ (F.e rfl)) ?_; clear F a; intro a F
 refine list_val F (wn rfl) rfl rfl (.int .i64 r) (ex_move _ rfl _ (F.e rfl)) ?_; clear F a; intro a F
 refine list_val F (wn rfl) rfl rfl (.bool false) (ex_bin .lss _ _ _ _ rfl .i64 _ _ (F.e rfl) (F.e rfl) _ (b_lss (decide_eq_false (by omega)))) ?_; clear F a; intro a F
 refine wpList_nil ?_
 replace F : Fr 40 a [(0, .agg ((bcs s).toArray)), (1, .string (strB t)), (2, .int .i64 r), (3, .pointer (some ⟨g3, 0, none⟩)), (6, .pointer (some ⟨g6, 0, none⟩)), (7, .int .i64 0), (8, .slice A_24 ((s ++ (be8 (BitVec.ofNat 64 t.length))).length) c_24), (9, .pointer (some ⟨g9, 0, none⟩)), (10, .int .i64 ((i + 1 : Nat) : Int)), (16, .bool false), (31, .bool false)] := F.keep ⟨rfl, rfl, rfl, rfl, rfl, rfl, rfl, rfl, rfl, rfl, rfl, trivial⟩
 refine then_n ?_
 refine wp_cond_false (F.e rfl) ?_
 refine wp_exit ?_
 refine then_x ?_
 refine then_x ?_
 refine in_hit ?_
 refine then_n ?_
 refine wp_seq ?_
 refine wp_region_lit ?_
 refine list_val F (wn rfl) rfl rfl (.agg ((bcs d9).toArray)) (ex_load _ _ rfl _ (F.e rfl) _ (lvr (cs := bcs d9) (by rw [bcs_len, show _ = 32 from hd9]; exact dl_row_24_32) (M.at (i := 0) rfl))) ?_; clear F a; intro a F
 refine list_do (wn rfl) (fun K hK => ?_)
 refine ow_put F M rfl 24 _ _ rfl 1 _ ((bcs (List.replicate 32 0)).toArray) _ rfl (F.e rfl) ((bcs d9).toArray) (F.e rfl) (sz24 hd9) (sz_eqb 32 rfl hd9) (all_oneCell_toArray (bcs_one _)) ?_
 clear F a; have Mo := M; clear M; intro a v F M hgr
 refine hK _ _ ?_
 clear hK K
 replace R_ := R_.box (Mo.blk 1 _ rfl) (by show 5 ≠ 24; decide) hgr
 clear Mo hgr; try clear u
 replace M : Mm w v [⟨g9, (bcs d9).toArray, 24⟩, ⟨g6, (bcs d9).toArray, 24⟩, ⟨g3, ((bcs s).toArray), 40⟩] := M
 refine list_val F (wn rfl) rfl rfl (.int .i64 0) (ex_assign _ rfl _ rfl) ?_; clear F a; intro a F
 refine wpList_nil ?_
 replace F : Fr 40 a [(0, .agg ((bcs s).toArray)), (1, .string (strB t)), (2, .int .i64 r), (3, .pointer (some ⟨g3, 0, none⟩)), (6, .pointer (some ⟨g6, 0, none⟩)), (7, .int .i64 0), (8, .slice A_24 ((s ++ (be8 (BitVec.ofNat 64 t.length))).length) c_24), (9, .pointer (some ⟨g9, 0, none⟩)), (10, .int .i64 ((i + 1 : Nat) : Int)), (16, .bool false), (31, .bool false)] := F.keep ⟨rfl, rfl, rfl, rfl, rfl, rfl, rfl, rfl, rfl, rfl, rfl, trivial⟩
 refine then_n ?_
 refine wp_ret ?_
 rw [hfin]
 exact ret_c2 (v := .agg ((bcs d9).toArray)) F rfl rfl rfl (lvr (cs := bcs d9) (by rw [bcs_len, show _ = 32 from hd9]; exact dl_row_24_32) (M.at (i := 1) rfl)) ⟨rfl, M.bel⟩
end Go.Proofs.YtkppipeadibfkaaDoor
