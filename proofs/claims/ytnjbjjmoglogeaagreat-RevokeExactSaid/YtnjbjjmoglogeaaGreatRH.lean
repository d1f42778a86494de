/- posternlaw1.Book: what reads it, grow, Look. Conditions: those of each lemma. -/
import Derived.Test.YtnjbjjmoglogeaaGreatRG
namespace Go.Proofs.YtnjbjjmoglogeaaGreat
open Go.RowKit Go.Proofs.YtnjbjjmoglogeaaGreatW.PrintWords KB WG RO BK
set_option linter.unusedVariables false
set_option linter.unusedSimpArgs false
set_option linter.unnecessarySimpa false
set_option maxHeartbeats 1000000 in
set_option maxRecDepth 100000 in
theorem plain_any (own : Nat → Nat) (base gb : Nat) (KA : Option Addr) (Kc : Nat) (rows : List Sl) (IA : Option Addr) (Ic : Nat) (ms : List Nat) (kA tn dn us : Nat) (w : World) (hB : Bk own base gb KA Kc rows IA Ic ms kA tn dn us w) :
    Calls Tryz.prog 44 #[.pointer (some ⟨gb, 0, none⟩)] w fun e w' => e = .returned (.bool true) ∧ Below w.heap.size w w' := by
 have zb : At w ⟨gb, 0, none⟩ (bkC (.slice KA rows.length Kc) (.slice IA ms.length Ic) kA tn dn us) := at_block hB.blk
 have hrl := hB.bd.r
 refine calls_start Tryz.func44 rfl rfl rfl (fun a F => ?_)
 have M : Mm w w [] := Mm.nil w
 refine wp_seq ?_
 refine wp_region_lit ?_
 refine list_val F (wn rfl) rfl rfl (.bool false) (ex_assign _ rfl _ rfl) ?_; clear F a; intro a F
 refine wpList_nil ?_
 replace F : Fr 88 a [(0, .pointer (some (⟨gb, 0, none⟩ : Addr))), (2, .bool false)] := F.keep ⟨rfl, rfl, trivial⟩
 refine then_n ?_
 refine wp_seq ?_
 refine wp_seq ?_
 refine wp_region_lit ?_
 refine list_val F (wn rfl) rfl rfl (.int .i64 0) (ex_assign _ rfl _ rfl) ?_; clear F a; intro a F
 refine wpList_nil ?_
 replace F : Fr 88 a [(0, .pointer (some (⟨gb, 0, none⟩ : Addr))), (2, .bool false), (3, .int .i64 0)] := F.keep ⟨rfl, rfl, rfl, trivial⟩
 refine then_n ?_
 refine wp_block ?_
 refine wp_loop_rounds 1 ?_
 refine rounds_do 0 ?_
 refine wp_seq ?_
 refine wp_seq ?_
 refine wp_region_lit ?_
 refine list_val F (wn rfl) rfl rfl (.int .i64 0) (ex_move _ rfl _ (F.e rfl)) ?_; clear F a; intro a F
 refine list_val F (wn rfl) rfl rfl (.pointer (some (⟨gb, 0, none⟩ : Addr))) (ex_move _ rfl _ (F.e rfl)) ?_; clear F a; intro a F
 refine list_val F (wn rfl) rfl rfl (.pointer (some (⟨gb, 0, none⟩ : Addr))) (ex_nilck _ rfl _ (F.e rfl)) ?_; clear F a; intro a F
 refine list_val F (wn rfl) rfl rfl (.pointer (some (⟨gb, 0, none⟩ : Addr))) (ex_fa _ _ _ rfl _ (F.e rfl) 0 rg_fa_50_0_0 (⟨gb, 0, none⟩ : Addr) rfl) ?_; clear F a; intro a F
 refine list_val F (wn rfl) rfl rfl (.slice none 0 0) (ex_load _ _ rfl _ (F.e rfl) _ (lv1 rg_one_24 ((zb.below M.bel).cell 0 _ rfl))) ?_; clear F a; intro a F
 refine list_val F (wn rfl) rfl rfl (.int .i64 0) (ex_len _ _ rfl 1 rg_sl_24_1 _ _ _ (F.e rfl)) ?_; clear F a; intro a F
 refine list_val F (wn rfl) rfl rfl (.bool false) (ex_bin .lss _ _ _ _ rfl .i64 _ _ (F.e rfl) (F.e rfl) _ (b_lss (by decide))) ?_; clear F a; intro a F
 refine wpList_nil ?_
 replace F : Fr 88 a [(0, .pointer (some (⟨gb, 0, none⟩ : Addr))), (2, .bool false), (3, .int .i64 0), (13, .bool false)] := F.keep ⟨rfl, rfl, rfl, rfl, trivial⟩
 refine then_n ?_
 refine wp_cond_false (F.e rfl) ?_
 refine wp_exit ?_
 refine then_x ?_
 refine then_x ?_
 refine in_hit ?_
 refine then_n ?_
 refine wp_seq ?_
 refine wp_seq ?_
 refine wp_region_lit ?_
 refine list_val F (wn rfl) rfl rfl (.int .i64 0) (ex_assign _ rfl _ rfl) ?_; clear F a; intro a F
 refine wpList_nil ?_
 replace F : Fr 88 a [(0, .pointer (some (⟨gb, 0, none⟩ : Addr))), (2, .bool false), (3, .int .i64 0), (5, .int .i64 0), (13, .bool false)] := F.keep ⟨rfl, rfl, rfl, rfl, rfl, trivial⟩
 refine then_n ?_
 refine wp_block ?_
 refine wp_loop_rounds 1 ?_
 refine rounds_do 0 ?_
 refine wp_seq ?_
 refine wp_seq ?_
 refine wp_region_lit ?_
 refine list_val F (wn rfl) rfl rfl (.int .i64 0) (ex_move _ rfl _ (F.e rfl)) ?_; clear F a; intro a F
 refine list_val F (wn rfl) rfl rfl (.pointer (some (⟨gb, 0, none⟩ : Addr))) (ex_move _ rfl _ (F.e rfl)) ?_; clear F a; intro a F
 refine list_val F (wn rfl) rfl rfl (.pointer (some (⟨gb, 0, none⟩ : Addr))) (ex_nilck _ rfl _ (F.e rfl)) ?_; clear F a; intro a F
 refine list_val F (wn rfl) rfl rfl (.pointer (some ((⟨gb, 0, none⟩ : Addr).add 3))) (ex_fa _ _ _ rfl _ (F.e rfl) 3 rg_fa_50_3_3 ((⟨gb, 0, none⟩ : Addr).add 3) rfl) ?_; clear F a; intro a F
 refine list_val F (wn rfl) rfl rfl (.slice none 0 0) (ex_load _ _ rfl _ (F.e rfl) _ (lv1 rg_one_26 ((zb.below M.bel).cell 3 _ rfl))) ?_; clear F a; intro a F
 refine list_val F (wn rfl) rfl rfl (.int .i64 0) (ex_len _ _ rfl 1 rg_sl_26_1 _ _ _ (F.e rfl)) ?_; clear F a; intro a F
 refine list_val F (wn rfl) rfl rfl (.bool false) (ex_bin .lss _ _ _ _ rfl .i64 _ _ (F.e rfl) (F.e rfl) _ (b_lss (by decide))) ?_; clear F a; intro a F
 refine wpList_nil ?_
 replace F : Fr 88 a [(0, .pointer (some (⟨gb, 0, none⟩ : Addr))), (2, .bool false), (3, .int .i64 0), (5, .int .i64 0), (13, .bool false), (54, .bool false)] := F.keep ⟨rfl, rfl, rfl, rfl, rfl, rfl, trivial⟩
 refine then_n ?_
 refine wp_cond_false (F.e rfl) ?_
 refine wp_exit ?_
 refine then_x ?_
 refine then_x ?_
 refine in_hit ?_
 refine then_n ?_
 refine wp_seq ?_
 refine wp_region_lit ?_
 refine list_val F (wn rfl) rfl rfl (.bool true) (ex_assign _ rfl _ rfl) ?_; clear F a; intro a F
 refine wpList_nil ?_
 replace F : Fr 88 a [(0, .pointer (some (⟨gb, 0, none⟩ : Addr))), (2, .bool true), (3, .int .i64 0), (5, .int .i64 0), (13, .bool false), (54, .bool false)] := F.keep ⟨rfl, rfl, rfl, rfl, rfl, rfl, trivial⟩
 refine then_n ?_
 refine wp_ret ?_
 exact ret_tmp F rfl rfl ⟨rfl, M.bel⟩
set_option maxHeartbeats 1000000 in
set_option maxRecDepth 100000 in
theorem kept_any (own : Nat → Nat) (base gb : Nat) (KA : Option Addr) (Kc : Nat) (rows : List Sl) (IA : Option Addr) (Ic : Nat) (ms : List Nat) (kA tn dn us : Nat) (w : World) (hB : Bk own base gb KA Kc rows IA Ic ms kA tn dn us w) :
    Calls Tryz.prog 45 #[.pointer (some ⟨gb, 0, none⟩)] w fun e w' => e = .returned (.bool true) ∧ Below w.heap.size w w' := by
 have zb : At w ⟨gb, 0, none⟩ (bkC (.slice KA rows.length Kc) (.slice IA ms.length Ic) kA tn dn us) := at_block hB.blk
 have hrl := hB.bd.r
 refine calls_start Tryz.func45 rfl rfl rfl (fun a F => ?_)
 have M : Mm w w [] := Mm.nil w
 refine wp_seq ?_
 refine wp_region_lit ?_
 refine list_val F (wn rfl) rfl rfl (.bool false) (ex_assign _ rfl _ rfl) ?_; clear F a; intro a F
 refine wpList_nil ?_
 replace F : Fr 171 a [(0, .pointer (some (⟨gb, 0, none⟩ : Addr))), (2, .bool false)] := F.keep ⟨rfl, rfl, trivial⟩
 refine then_n ?_
 refine wp_seq ?_
 refine wp_seq ?_
 refine wp_region_lit ?_
 refine list_val F (wn rfl) rfl rfl (.int .i64 0) (ex_assign _ rfl _ rfl) ?_; clear F a; intro a F
 refine wpList_nil ?_
 replace F : Fr 171 a [(0, .pointer (some (⟨gb, 0, none⟩ : Addr))), (2, .bool false), (3, .int .i64 0)] := F.keep ⟨rfl, rfl, rfl, trivial⟩
 refine then_n ?_
 refine wp_block ?_
 refine wp_loop_rounds 1 ?_
 refine rounds_do 0 ?_
 refine wp_seq ?_
 refine wp_seq ?_
 refine wp_region_lit ?_
 refine list_val F (wn rfl) rfl rfl (.int .i64 0) (ex_move _ rfl _ (F.e rfl)) ?_; clear F a; intro a F
 refine list_val F (wn rfl) rfl rfl (.pointer (some (⟨gb, 0, none⟩ : Addr))) (ex_move _ rfl _ (F.e rfl)) ?_; clear F a; intro a F
 refine list_val F (wn rfl) rfl rfl (.pointer (some (⟨gb, 0, none⟩ : Addr))) (ex_nilck _ rfl _ (F.e rfl)) ?_; clear F a; intro a F
 refine list_val F (wn rfl) rfl rfl (.pointer (some ((⟨gb, 0, none⟩ : Addr).add 6))) (ex_fa _ _ _ rfl _ (F.e rfl) 6 rg_fa_50_6_6 ((⟨gb, 0, none⟩ : Addr).add 6) rfl) ?_; clear F a; intro a F
 refine list_val F (wn rfl) rfl rfl (.slice none 0 0) (ex_load _ _ rfl _ (F.e rfl) _ (lv1 rg_one_27 ((zb.below M.bel).cell 6 _ rfl))) ?_; clear F a; intro a F
 refine list_val F (wn rfl) rfl rfl (.int .i64 0) (ex_len _ _ rfl 1 rg_sl_27_1 _ _ _ (F.e rfl)) ?_; clear F a; intro a F
 refine list_val F (wn rfl) rfl rfl (.bool false) (ex_bin .lss _ _ _ _ rfl .i64 _ _ (F.e rfl) (F.e rfl) _ (b_lss (by decide))) ?_; clear F a; intro a F
 refine wpList_nil ?_
 replace F : Fr 171 a [(0, .pointer (some (⟨gb, 0, none⟩ : Addr))), (2, .bool false), (3, .int .i64 0), (17, .bool false)] := F.keep ⟨rfl, rfl, rfl, rfl, trivial⟩
 refine then_n ?_
 refine wp_cond_false (F.e rfl) ?_
 refine wp_exit ?_
 refine then_x ?_
 refine then_x ?_
 refine in_hit ?_
 refine then_n ?_
 refine wp_seq ?_
 refine wp_seq ?_
 refine wp_region_lit ?_
 refine list_val F (wn rfl) rfl rfl (.int .i64 0) (ex_assign _ rfl _ rfl) ?_; clear F a; intro a F
 refine wpList_nil ?_
 replace F : Fr 171 a [(0, .pointer (some (⟨gb, 0, none⟩ : Addr))), (2, .bool false), (3, .int .i64 0), (5, .int .i64 0), (17, .bool false)] := F.keep ⟨rfl, rfl, rfl, rfl, rfl, trivial⟩
 refine then_n ?_
 refine wp_block ?_
 refine wp_loop_rounds 1 ?_
 refine rounds_do 0 ?_
 refine wp_seq ?_
 refine wp_seq ?_
 refine wp_region_lit ?_
 refine list_val F (wn rfl) rfl rfl (.int .i64 0) (ex_move _ rfl _ (F.e rfl)) ?_; clear F a; intro a F
 refine list_val F (wn rfl) rfl rfl (.pointer (some (⟨gb, 0, none⟩ : Addr))) (ex_move _ rfl _ (F.e rfl)) ?_; clear F a; intro a F
 refine list_val F (wn rfl) rfl rfl (.pointer (some (⟨gb, 0, none⟩ : Addr))) (ex_nilck _ rfl _ (F.e rfl)) ?_; clear F a; intro a F
 refine list_val F (wn rfl) rfl rfl (.pointer (some ((⟨gb, 0, none⟩ : Addr).add 9))) (ex_fa _ _ _ rfl _ (F.e rfl) 9 rg_fa_50_9_9 ((⟨gb, 0, none⟩ : Addr).add 9) rfl) ?_; clear F a; intro a F
 refine list_val F (wn rfl) rfl rfl (.slice none 0 0) (ex_load _ _ rfl _ (F.e rfl) _ (lv1 rg_one_28 ((zb.below M.bel).cell 9 _ rfl))) ?_; clear F a; intro a F
 refine list_val F (wn rfl) rfl rfl (.int .i64 0) (ex_len _ _ rfl 1 rg_sl_28_1 _ _ _ (F.e rfl)) ?_; clear F a; intro a F
 refine list_val F (wn rfl) rfl rfl (.bool false) (ex_bin .lss _ _ _ _ rfl .i64 _ _ (F.e rfl) (F.e rfl) _ (b_lss (by decide))) ?_; clear F a; intro a F
 refine wpList_nil ?_
 replace F : Fr 171 a [(0, .pointer (some (⟨gb, 0, none⟩ : Addr))), (2, .bool false), (3, .int .i64 0), (5, .int .i64 0), (17, .bool false), (57, .bool false)] := F.keep ⟨rfl, rfl, rfl, rfl, rfl, rfl, trivial⟩
 refine then_n ?_
 refine wp_cond_false (F.e rfl) ?_
 refine wp_exit ?_
 refine then_x ?_
 refine then_x ?_
 refine in_hit ?_
 refine then_n ?_
 refine wp_seq ?_
 refine wp_seq ?_
 refine wp_region_lit ?_
 refine list_val F (wn rfl) rfl rfl (.int .i64 0) (ex_assign _ rfl _ rfl) ?_; clear F a; intro a F
 refine wpList_nil ?_
 replace F : Fr 171 a [(0, .pointer (some (⟨gb, 0, none⟩ : Addr))), (2, .bool false), (3, .int .i64 0), (5, .int .i64 0), (7, .int .i64 0), (17, .bool false), (57, .bool false)] := F.keep ⟨rfl, rfl, rfl, rfl, rfl, rfl, rfl, trivial⟩
 refine then_n ?_
 refine wp_block ?_
 refine wp_loop_rounds 1 ?_
 refine rounds_do 0 ?_
 refine wp_seq ?_
 refine wp_seq ?_
 refine wp_region_lit ?_
 refine list_val F (wn rfl) rfl rfl (.int .i64 0) (ex_move _ rfl _ (F.e rfl)) ?_; clear F a; intro a F
 refine list_val F (wn rfl) rfl rfl (.pointer (some (⟨gb, 0, none⟩ : Addr))) (ex_move _ rfl _ (F.e rfl)) ?_; clear F a; intro a F
 refine list_val F (wn rfl) rfl rfl (.pointer (some (⟨gb, 0, none⟩ : Addr))) (ex_nilck _ rfl _ (F.e rfl)) ?_; clear F a; intro a F
 refine list_val F (wn rfl) rfl rfl (.pointer (some ((⟨gb, 0, none⟩ : Addr).add 12))) (ex_fa _ _ _ rfl _ (F.e rfl) 12 rg_fa_50_12_12 ((⟨gb, 0, none⟩ : Addr).add 12) rfl) ?_; clear F a; intro a F
 refine list_val F (wn rfl) rfl rfl (.slice none 0 0) (ex_load _ _ rfl _ (F.e rfl) _ (lv1 rg_one_29 ((zb.below M.bel).cell 12 _ rfl))) ?_; clear F a; intro a F
 refine list_val F (wn rfl) rfl rfl (.int .i64 0) (ex_len _ _ rfl 1 rg_sl_29_1 _ _ _ (F.e rfl)) ?_; clear F a; intro a F
 refine list_val F (wn rfl) rfl rfl (.bool false) (ex_bin .lss _ _ _ _ rfl .i64 _ _ (F.e rfl) (F.e rfl) _ (b_lss (by decide))) ?_; clear F a; intro a F
 refine wpList_nil ?_
 replace F : Fr 171 a [(0, .pointer (some (⟨gb, 0, none⟩ : Addr))), (2, .bool false), (3, .int .i64 0), (5, .int .i64 0), (7, .int .i64 0), (17, .bool false), (57, .bool false), (97, .bool false)] := F.keep ⟨rfl, rfl, rfl, rfl, rfl, rfl, rfl, rfl, trivial⟩
 refine then_n ?_
 refine wp_cond_false (F.e rfl) ?_
 refine wp_exit ?_
 refine then_x ?_
 refine then_x ?_
 refine in_hit ?_
 refine then_n ?_
 refine wp_seq ?_
 refine wp_seq ?_
 refine wp_region_lit ?_
 refine list_val F (wn rfl) rfl rfl (.int .i64 0) (ex_assign _ rfl _ rfl) ?_; clear F a; intro a F
 refine wpList_nil ?_
 replace F : Fr 171 a [(0, .pointer (some (⟨gb, 0, none⟩ : Addr))), (2, .bool false), (3, .int .i64 0), (5, .int .i64 0), (7, .int .i64 0), (9, .int .i64 0), (17, .bool false), (57, .bool false), (97, .bool false)] := F.keep ⟨rfl, rfl, rfl, rfl, rfl, rfl, rfl, rfl, rfl, trivial⟩
 refine then_n ?_
 refine wp_block ?_
 refine wp_loop_rounds 1 ?_
 refine rounds_do 0 ?_
 refine wp_seq ?_
 refine wp_seq ?_
 refine wp_region_lit ?_
 refine list_val F (wn rfl) rfl rfl (.int .i64 0) (ex_move _ rfl _ (F.e rfl)) ?_; clear F a; intro a F
 refine list_val F (wn rfl) rfl rfl (.pointer (some (⟨gb, 0, none⟩ : Addr))) (ex_move _ rfl _ (F.e rfl)) ?_; clear F a; intro a F
 refine list_val F (wn rfl) rfl rfl (.pointer (some (⟨gb, 0, none⟩ : Addr))) (ex_nilck _ rfl _ (F.e rfl)) ?_; clear F a; intro a F
 refine list_val F (wn rfl) rfl rfl (.pointer (some ((⟨gb, 0, none⟩ : Addr).add 15))) (ex_fa _ _ _ rfl _ (F.e rfl) 15 rg_fa_50_15_15 ((⟨gb, 0, none⟩ : Addr).add 15) rfl) ?_; clear F a; intro a F
 refine list_val F (wn rfl) rfl rfl (.slice none 0 0) (ex_load _ _ rfl _ (F.e rfl) _ (lv1 rg_one_30 ((zb.below M.bel).cell 15 _ rfl))) ?_; clear F a; intro a F
 refine list_val F (wn rfl) rfl rfl (.int .i64 0) (ex_len _ _ rfl 1 rg_sl_30_1 _ _ _ (F.e rfl)) ?_; clear F a; intro a F
 refine list_val F (wn rfl) rfl rfl (.bool false) (ex_bin .lss _ _ _ _ rfl .i64 _ _ (F.e rfl) (F.e rfl) _ (b_lss (by decide))) ?_; clear F a; intro a F
 refine wpList_nil ?_
 replace F : Fr 171 a [(0, .pointer (some (⟨gb, 0, none⟩ : Addr))), (2, .bool false), (3, .int .i64 0), (5, .int .i64 0), (7, .int .i64 0), (9, .int .i64 0), (17, .bool false), (57, .bool false), (97, .bool false), (137, .bool false)] := F.keep ⟨rfl, rfl, rfl, rfl, rfl, rfl, rfl, rfl, rfl, rfl, trivial⟩
 refine then_n ?_
 refine wp_cond_false (F.e rfl) ?_
 refine wp_exit ?_
 refine then_x ?_
 refine then_x ?_
 refine in_hit ?_
 refine then_n ?_
 refine wp_seq ?_
 refine wp_region_lit ?_
 refine list_val F (wn rfl) rfl rfl (.bool true) (ex_assign _ rfl _ rfl) ?_; clear F a; intro a F
 refine wpList_nil ?_
 replace F : Fr 171 a [(0, .pointer (some (⟨gb, 0, none⟩ : Addr))), (2, .bool true), (3, .int .i64 0), (5, .int .i64 0), (7, .int .i64 0), (9, .int .i64 0), (17, .bool false), (57, .bool false), (97, .bool false), (137, .bool false)] := F.keep ⟨rfl, rfl, rfl, rfl, rfl, rfl, rfl, rfl, rfl, rfl, trivial⟩
 refine then_n ?_
 refine wp_ret ?_
 exact ret_tmp F rfl rfl ⟨rfl, M.bel⟩
set_option maxHeartbeats 1000000 in
set_option maxRecDepth 100000 in
theorem told_any (own : Nat → Nat) (base gb : Nat) (KA : Option Addr) (Kc : Nat) (rows : List Sl) (IA : Option Addr) (Ic : Nat) (ms : List Nat) (kA tn dn us : Nat) (w : World) (hB : Bk own base gb KA Kc rows IA Ic ms kA tn dn us w) :
    Calls Tryz.prog 46 #[.pointer (some ⟨gb, 0, none⟩)] w fun e w' => e = .returned (.bool true) ∧ Below w.heap.size w w' := by
 have zb : At w ⟨gb, 0, none⟩ (bkC (.slice KA rows.length Kc) (.slice IA ms.length Ic) kA tn dn us) := at_block hB.blk
 have hrl := hB.bd.r
 refine calls_start Tryz.func46 rfl rfl rfl (fun a F => ?_)
 have M : Mm w w [] := Mm.nil w
 refine wp_seq ?_
 refine wp_region_lit ?_
 refine list_val F (wn rfl) rfl rfl (.bool false) (ex_assign _ rfl _ rfl) ?_; clear F a; intro a F
 refine wpList_nil ?_
 replace F : Fr 171 a [(0, .pointer (some (⟨gb, 0, none⟩ : Addr))), (2, .bool false)] := F.keep ⟨rfl, rfl, trivial⟩
 refine then_n ?_
 refine wp_seq ?_
 refine wp_seq ?_
 refine wp_region_lit ?_
 refine list_val F (wn rfl) rfl rfl (.int .i64 0) (ex_assign _ rfl _ rfl) ?_; clear F a; intro a F
 refine wpList_nil ?_
 replace F : Fr 171 a [(0, .pointer (some (⟨gb, 0, none⟩ : Addr))), (2, .bool false), (3, .int .i64 0)] := F.keep ⟨rfl, rfl, rfl, trivial⟩
 refine then_n ?_
 refine wp_block ?_
 refine wp_loop_rounds 1 ?_
 refine rounds_do 0 ?_
 refine wp_seq ?_
 refine wp_seq ?_
 refine wp_region_lit ?_
 refine list_val F (wn rfl) rfl rfl (.int .i64 0) (ex_move _ rfl _ (F.e rfl)) ?_; clear F a; intro a F
 refine list_val F (wn rfl) rfl rfl (.pointer (some (⟨gb, 0, none⟩ : Addr))) (ex_move _ rfl _ (F.e rfl)) ?_; clear F a; intro a F
 refine list_val F (wn rfl) rfl rfl (.pointer (some (⟨gb, 0, none⟩ : Addr))) (ex_nilck _ rfl _ (F.e rfl)) ?_; clear F a; intro a F
 refine list_val F (wn rfl) rfl rfl (.pointer (some ((⟨gb, 0, none⟩ : Addr).add 18))) (ex_fa _ _ _ rfl _ (F.e rfl) 18 rg_fa_50_18_18 ((⟨gb, 0, none⟩ : Addr).add 18) rfl) ?_; clear F a; intro a F
 refine list_val F (wn rfl) rfl rfl (.slice none 0 0) (ex_load _ _ rfl _ (F.e rfl) _ (lv1 rg_one_31 ((zb.below M.bel).cell 18 _ rfl))) ?_; clear F a; intro a F
 refine list_val F (wn rfl) rfl rfl (.int .i64 0) (ex_len _ _ rfl 1 rg_sl_31_1 _ _ _ (F.e rfl)) ?_; clear F a; intro a F
 refine list_val F (wn rfl) rfl rfl (.bool false) (ex_bin .lss _ _ _ _ rfl .i64 _ _ (F.e rfl) (F.e rfl) _ (b_lss (by decide))) ?_; clear F a; intro a F
 refine wpList_nil ?_
 replace F : Fr 171 a [(0, .pointer (some (⟨gb, 0, none⟩ : Addr))), (2, .bool false), (3, .int .i64 0), (17, .bool false)] := F.keep ⟨rfl, rfl, rfl, rfl, trivial⟩
 refine then_n ?_
 refine wp_cond_false (F.e rfl) ?_
 refine wp_exit ?_
 refine then_x ?_
 refine then_x ?_
 refine in_hit ?_
 refine then_n ?_
 refine wp_seq ?_
 refine wp_seq ?_
 refine wp_region_lit ?_
 refine list_val F (wn rfl) rfl rfl (.int .i64 0) (ex_assign _ rfl _ rfl) ?_; clear F a; intro a F
 refine wpList_nil ?_
 replace F : Fr 171 a [(0, .pointer (some (⟨gb, 0, none⟩ : Addr))), (2, .bool false), (3, .int .i64 0), (5, .int .i64 0), (17, .bool false)] := F.keep ⟨rfl, rfl, rfl, rfl, rfl, trivial⟩
 refine then_n ?_
 refine wp_block ?_
 refine wp_loop_rounds 1 ?_
 refine rounds_do 0 ?_
 refine wp_seq ?_
 refine wp_seq ?_
 refine wp_region_lit ?_
 refine list_val F (wn rfl) rfl rfl (.int .i64 0) (ex_move _ rfl _ (F.e rfl)) ?_; clear F a; intro a F
 refine list_val F (wn rfl) rfl rfl (.pointer (some (⟨gb, 0, none⟩ : Addr))) (ex_move _ rfl _ (F.e rfl)) ?_; clear F a; intro a F
 refine list_val F (wn rfl) rfl rfl (.pointer (some (⟨gb, 0, none⟩ : Addr))) (ex_nilck _ rfl _ (F.e rfl)) ?_; clear F a; intro a F
 refine list_val F (wn rfl) rfl rfl (.pointer (some ((⟨gb, 0, none⟩ : Addr).add 21))) (ex_fa _ _ _ rfl _ (F.e rfl) 21 rg_fa_50_21_21 ((⟨gb, 0, none⟩ : Addr).add 21) rfl) ?_; clear F a; intro a F
 refine list_val F (wn rfl) rfl rfl (.slice none 0 0) (ex_load _ _ rfl _ (F.e rfl) _ (lv1 rg_one_32 ((zb.below M.bel).cell 21 _ rfl))) ?_; clear F a; intro a F
 refine list_val F (wn rfl) rfl rfl (.int .i64 0) (ex_len _ _ rfl 1 rg_sl_32_1 _ _ _ (F.e rfl)) ?_; clear F a; intro a F
 refine list_val F (wn rfl) rfl rfl (.bool false) (ex_bin .lss _ _ _ _ rfl .i64 _ _ (F.e rfl) (F.e rfl) _ (b_lss (by decide))) ?_; clear F a; intro a F
 refine wpList_nil ?_
 replace F : Fr 171 a [(0, .pointer (some (⟨gb, 0, none⟩ : Addr))), (2, .bool false), (3, .int .i64 0), (5, .int .i64 0), (17, .bool false), (57, .bool false)] := F.keep ⟨rfl, rfl, rfl, rfl, rfl, rfl, trivial⟩
 refine then_n ?_
 refine wp_cond_false (F.e rfl) ?_
 refine wp_exit ?_
 refine then_x ?_
 refine then_x ?_
 refine in_hit ?_
 refine then_n ?_
 refine wp_seq ?_
 refine wp_seq ?_
 refine wp_region_lit ?_
 refine list_val F (wn rfl) rfl rfl (.int .i64 0) (ex_assign _ rfl _ rfl) ?_; clear F a; intro a F
 refine wpList_nil ?_
 replace F : Fr 171 a [(0, .pointer (some (⟨gb, 0, none⟩ : Addr))), (2, .bool false), (3, .int .i64 0), (5, .int .i64 0), (7, .int .i64 0), (17, .bool false), (57, .bool false)] := F.keep ⟨rfl, rfl, rfl, rfl, rfl, rfl, rfl, trivial⟩
 refine then_n ?_
 refine wp_block ?_
 refine wp_loop_rounds 1 ?_
 refine rounds_do 0 ?_
 refine wp_seq ?_
 refine wp_seq ?_
 refine wp_region_lit ?_
 refine list_val F (wn rfl) rfl rfl (.int .i64 0) (ex_move _ rfl _ (F.e rfl)) ?_; clear F a; intro a F
 refine list_val F (wn rfl) rfl rfl (.pointer (some (⟨gb, 0, none⟩ : Addr))) (ex_move _ rfl _ (F.e rfl)) ?_; clear F a; intro a F
 refine list_val F (wn rfl) rfl rfl (.pointer (some (⟨gb, 0, none⟩ : Addr))) (ex_nilck _ rfl _ (F.e rfl)) ?_; clear F a; intro a F
 refine list_val F (wn rfl) rfl rfl (.pointer (some ((⟨gb, 0, none⟩ : Addr).add 24))) (ex_fa _ _ _ rfl _ (F.e rfl) 24 rg_fa_50_24_24 ((⟨gb, 0, none⟩ : Addr).add 24) rfl) ?_; clear F a; intro a F
 refine list_val F (wn rfl) rfl rfl (.slice none 0 0) (ex_load _ _ rfl _ (F.e rfl) _ (lv1 rg_one_33 ((zb.below M.bel).cell 24 _ rfl))) ?_; clear F a; intro a F
 refine list_val F (wn rfl) rfl rfl (.int .i64 0) (ex_len _ _ rfl 1 rg_sl_33_1 _ _ _ (F.e rfl)) ?_; clear F a; intro a F
 refine list_val F (wn rfl) rfl rfl (.bool false) (ex_bin .lss _ _ _ _ rfl .i64 _ _ (F.e rfl) (F.e rfl) _ (b_lss (by decide))) ?_; clear F a; intro a F
 refine wpList_nil ?_
 replace F : Fr 171 a [(0, .pointer (some (⟨gb, 0, none⟩ : Addr))), (2, .bool false), (3, .int .i64 0), (5, .int .i64 0), (7, .int .i64 0), (17, .bool false), (57, .bool false), (97, .bool false)] := F.keep ⟨rfl, rfl, rfl, rfl, rfl, rfl, rfl, rfl, trivial⟩
 refine then_n ?_
 refine wp_cond_false (F.e rfl) ?_
 refine wp_exit ?_
 refine then_x ?_
 refine then_x ?_
 refine in_hit ?_
 refine then_n ?_
 refine wp_seq ?_
 refine wp_seq ?_
 refine wp_region_lit ?_
 refine list_val F (wn rfl) rfl rfl (.int .i64 0) (ex_assign _ rfl _ rfl) ?_; clear F a; intro a F
 refine wpList_nil ?_
 replace F : Fr 171 a [(0, .pointer (some (⟨gb, 0, none⟩ : Addr))), (2, .bool false), (3, .int .i64 0), (5, .int .i64 0), (7, .int .i64 0), (9, .int .i64 0), (17, .bool false), (57, .bool false), (97, .bool false)] := F.keep ⟨rfl, rfl, rfl, rfl, rfl, rfl, rfl, rfl, rfl, trivial⟩
 refine then_n ?_
 refine wp_block ?_
 refine wp_loop_rounds 1 ?_
 refine rounds_do 0 ?_
 refine wp_seq ?_
 refine wp_seq ?_
 refine wp_region_lit ?_
 refine list_val F (wn rfl) rfl rfl (.int .i64 0) (ex_move _ rfl _ (F.e rfl)) ?_; clear F a; intro a F
 refine list_val F (wn rfl) rfl rfl (.pointer (some (⟨gb, 0, none⟩ : Addr))) (ex_move _ rfl _ (F.e rfl)) ?_; clear F a; intro a F
 refine list_val F (wn rfl) rfl rfl (.pointer (some (⟨gb, 0, none⟩ : Addr))) (ex_nilck _ rfl _ (F.e rfl)) ?_; clear F a; intro a F
 refine list_val F (wn rfl) rfl rfl (.pointer (some ((⟨gb, 0, none⟩ : Addr).add 27))) (ex_fa _ _ _ rfl _ (F.e rfl) 27 rg_fa_50_27_27 ((⟨gb, 0, none⟩ : Addr).add 27) rfl) ?_; clear F a; intro a F
 refine list_val F (wn rfl) rfl rfl (.slice none 0 0) (ex_load _ _ rfl _ (F.e rfl) _ (lv1 rg_one_34 ((zb.below M.bel).cell 27 _ rfl))) ?_; clear F a; intro a F
 refine list_val F (wn rfl) rfl rfl (.int .i64 0) (ex_len _ _ rfl 1 rg_sl_34_1 _ _ _ (F.e rfl)) ?_; clear F a; intro a F
 refine list_val F (wn rfl) rfl rfl (.bool false) (ex_bin .lss _ _ _ _ rfl .i64 _ _ (F.e rfl) (F.e rfl) _ (b_lss (by decide))) ?_; clear F a; intro a F
 refine wpList_nil ?_
 replace F : Fr 171 a [(0, .pointer (some (⟨gb, 0, none⟩ : Addr))), (2, .bool false), (3, .int .i64 0), (5, .int .i64 0), (7, .int .i64 0), (9, .int .i64 0), (17, .bool false), (57, .bool false), (97, .bool false), (137, .bool false)] := F.keep ⟨rfl, rfl, rfl, rfl, rfl, rfl, rfl, rfl, rfl, rfl, trivial⟩
 refine then_n ?_
 refine wp_cond_false (F.e rfl) ?_
 refine wp_exit ?_
 refine then_x ?_
 refine then_x ?_
 refine in_hit ?_
 refine then_n ?_
 refine wp_seq ?_
 refine wp_region_lit ?_
 refine list_val F (wn rfl) rfl rfl (.bool true) (ex_assign _ rfl _ rfl) ?_; clear F a; intro a F
 refine wpList_nil ?_
 replace F : Fr 171 a [(0, .pointer (some (⟨gb, 0, none⟩ : Addr))), (2, .bool true), (3, .int .i64 0), (5, .int .i64 0), (7, .int .i64 0), (9, .int .i64 0), (17, .bool false), (57, .bool false), (97, .bool false), (137, .bool false)] := F.keep ⟨rfl, rfl, rfl, rfl, rfl, rfl, rfl, rfl, rfl, rfl, trivial⟩
 refine then_n ?_
 refine wp_ret ?_
 exact ret_tmp F rfl rfl ⟨rfl, M.bel⟩
theorem rg_follows_mixedOrders : Tryz.prog.follows .mixedOrders = true := by kernel_rfl
set_option maxHeartbeats 1000000 in
set_option maxRecDepth 100000 in
theorem held_any (own : Nat → Nat) (base gb : Nat) (KA : Option Addr) (Kc : Nat) (rows : List Sl) (IA : Option Addr) (Ic : Nat) (ms : List Nat) (kA tn dn us : Nat) (w : World) (hB : Bk own base gb KA Kc rows IA Ic ms kA tn dn us w) (htn : tn ≤ 10000000) :
    Calls Tryz.prog 47 #[.pointer (some ⟨gb, 0, none⟩)] w fun e w' => e = .returned (.bool true) ∧ Below w.heap.size w w' := by
 have zb : At w ⟨gb, 0, none⟩ (bkC (.slice KA rows.length Kc) (.slice IA ms.length Ic) kA tn dn us) := at_block hB.blk
 have hrl := hB.bd.r
 refine calls_start Tryz.func47 rfl rfl rfl (fun a F => ?_)
 have M : Mm w w [] := Mm.nil w
 refine wp_seq ?_
 refine wp_region_lit ?_
 refine list_val F (wn rfl) rfl rfl (.bool false) (ex_assign _ rfl _ rfl) ?_; clear F a; intro a F
 refine wpList_nil ?_
 replace F : Fr 194 a [(0, .pointer (some (⟨gb, 0, none⟩ : Addr))), (2, .bool false)] := F.keep ⟨rfl, rfl, trivial⟩
 refine then_n ?_
 refine wp_seq ?_
 refine wp_seq ?_
 refine wp_region_lit ?_
 refine list_val F (wn rfl) rfl rfl (.int .i64 0) (ex_assign _ rfl _ rfl) ?_; clear F a; intro a F
 refine wpList_nil ?_
 replace F : Fr 194 a [(0, .pointer (some (⟨gb, 0, none⟩ : Addr))), (2, .bool false), (3, .int .i64 0)] := F.keep ⟨rfl, rfl, rfl, trivial⟩
 refine then_n ?_
 refine wp_block ?_
 refine wp_loopN (fun mq ar wr => ∃ (i : Nat), Fr 194 ar [(0, .pointer (some (⟨gb, 0, none⟩ : Addr))), (2, .bool false), (3, .int .i64 ((i : Nat) : Int))] ∧ Mm w wr [] ∧ i ≤ rows.length ∧ mq + i = rows.length) rows.length ?_ ?_
 ·
  exact ⟨0, F.keep ⟨rfl, rfl, rfl, trivial⟩, M, (Nat.zero_le _), (by omega)⟩
 clear F M a
 rintro mq a v ⟨i, F, M, hi, hq⟩; try clear w
 by_cases hin : i < rows.length
 ·
  obtain ⟨⟨sA, sn, sc⟩, hs⟩ : ∃ s, rows[i]? = some s := ⟨_, List.getElem?_eq_getElem (by omega)⟩
  obtain ⟨m, hm, hm0, hKs⟩ := hB.all.get hs
  obtain ⟨adk, hAk, zk⟩ := C_ix (enc := Sl.cs) (m := 1) (hl := Sl.cs_len) (h1 := Sl.cs_one) hB.ks.rd.1 hs
  obtain ⟨adi, hAi, zi⟩ := C_ix (enc := nc) (m := 1) (hl := nc_len) (h1 := nc_one) hB.is.rd.1 hm
  have hml := hB.all.1
  have hsn : sn ≤ 1000100 := (hB.bd.n _ _ hs).1
  subst hAk hAi
  refine wp_seq ?_
  refine wp_seq ?_
  refine wp_region_lit ?_
  refine list_val F (wn rfl) rfl rfl (.int .i64 ((i : Nat) : Int)) (ex_move _ rfl _ (F.e rfl)) ?_; clear F a; intro a F
  refine list_val F (wn rfl) rfl rfl (.pointer (some (⟨gb, 0, none⟩ : Addr))) (ex_move _ rfl _ (F.e rfl)) ?_; clear F a; intro a F
  refine list_val F (wn rfl) rfl rfl (.pointer (some (⟨gb, 0, none⟩ : Addr))) (ex_nilck _ rfl _ (F.e rfl)) ?_; clear F a; intro a F
  refine list_val F (wn rfl) rfl rfl (.pointer (some ((⟨gb, 0, none⟩ : Addr).add 30))) (ex_fa _ _ _ rfl _ (F.e rfl) 30 rg_fa_50_30_30 ((⟨gb, 0, none⟩ : Addr).add 30) rfl) ?_; clear F a; intro a F
  refine list_val F (wn rfl) rfl rfl (.slice (some adk) rows.length Kc) (ex_load _ _ rfl _ (F.e rfl) _ (lv1 rg_one_35 ((zb.below M.bel).cell 30 _ rfl))) ?_; clear F a; intro a F
  refine list_val F (wn rfl) rfl rfl (.int .i64 ((rows.length : Nat) : Int)) (ex_len _ _ rfl 1 rg_sl_35_1 _ _ _ (F.e rfl)) ?_; clear F a; intro a F
  refine list_val F (wn rfl) rfl rfl (.bool true) (ex_bin .lss _ _ _ _ rfl .i64 _ _ (F.e rfl) (F.e rfl) _ (b_lss (decide_eq_true (by omega)))) ?_; clear F a; intro a F
  refine wpList_nil ?_
  replace F : Fr 194 a [(0, .pointer (some (⟨gb, 0, none⟩ : Addr))), (2, .bool false), (3, .int .i64 ((i : Nat) : Int)), (21, .bool true)] := F.keep ⟨rfl, rfl, rfl, rfl, trivial⟩
  refine then_n ?_
  refine wp_cond_true (F.e rfl) ?_
  refine wp_skip ?_
  refine then_n ?_
  refine wp_seq ?_
  refine wp_block ?_
  refine wp_seq ?_
  refine wp_region_lit ?_
  refine list_val F (wn rfl) rfl rfl (.int .i64 0) (ex_assign _ rfl _ rfl) ?_; clear F a; intro a F
  refine wpList_nil ?_
  replace F : Fr 194 a [(0, .pointer (some (⟨gb, 0, none⟩ : Addr))), (2, .bool false), (3, .int .i64 ((i : Nat) : Int)), (4, .int .i64 0), (21, .bool true)] := F.keep ⟨rfl, rfl, rfl, rfl, rfl, trivial⟩
  refine then_n ?_
  refine wp_block ?_
  refine wp_loopN (fun mq ar wr => ∃ (k : Nat), Fr 194 ar [(0, .pointer (some (⟨gb, 0, none⟩ : Addr))), (2, .bool false), (3, .int .i64 ((i : Nat) : Int)), (4, .int .i64 ((k : Nat) : Int)), (21, .bool true)] ∧ Mm w wr [] ∧ k ≤ sn ∧ mq + k = sn) sn ?_ ?_
  ·
   exact ⟨0, F.keep ⟨rfl, rfl, rfl, rfl, rfl, trivial⟩, M, (Nat.zero_le _), (by omega)⟩
  clear F M a
  rintro mq a u ⟨k, F, M, hk, hq⟩; try clear v
  by_cases hkn : k < sn
  ·
   obtain ⟨ads, hAs, ze⟩ := hKs.at hkn
   have hAs : sA = some ads := hAs
   subst hAs
   refine wp_seq ?_
   refine wp_seq ?_
   refine wp_region_lit ?_
   refine list_val F (wn rfl) rfl rfl (.int .i64 ((k : Nat) : Int)) (ex_move _ rfl _ (F.e rfl)) ?_; clear F a; intro a F
   refine list_val F (wn rfl) rfl rfl (.pointer (some (⟨gb, 0, none⟩ : Addr))) (ex_move _ rfl _ (F.e rfl)) ?_; clear F a; intro a F
   refine list_val F (wn rfl) rfl rfl (.pointer (some (⟨gb, 0, none⟩ : Addr))) (ex_nilck _ rfl _ (F.e rfl)) ?_; clear F a; intro a F
   refine list_val F (wn rfl) rfl rfl (.pointer (some ((⟨gb, 0, none⟩ : Addr).add 30))) (ex_fa _ _ _ rfl _ (F.e rfl) 30 rg_fa_50_30_30 ((⟨gb, 0, none⟩ : Addr).add 30) rfl) ?_; clear F a; intro a F
   refine list_val F (wn rfl) rfl rfl (.slice (some adk) rows.length Kc) (ex_load _ _ rfl _ (F.e rfl) _ (lv1 rg_one_35 ((zb.below M.bel).cell 30 _ rfl))) ?_; clear F a; intro a F
   refine list_val F (wn rfl) rfl rfl (.int .i64 ((i : Nat) : Int)) (ex_move _ rfl _ (F.e rfl)) ?_; clear F a; intro a F
   refine list_val F (wn rfl) rfl rfl (.pointer (some (adk.add (i * 1)))) (ex_ix _ _ _ rfl 1 rg_sl_35_1 adk _ _ (F.e rfl) .i64 _ (F.e rfl) i rfl (by omega) (adk.add (i * 1)) rfl) ?_; clear F a; intro a F
   refine list_val F (wn rfl) rfl rfl (.slice (some ads) sn sc) (ex_load _ _ rfl _ (F.e rfl) _ (lv1 rg_one_57 ((zk.below M.bel).cell 0 _ rfl))) ?_; clear F a; intro a F
   refine list_val F (wn rfl) rfl rfl (.int .i64 ((sn : Nat) : Int)) (ex_len _ _ rfl 19 rg_sl_57_19 _ _ _ (F.e rfl)) ?_; clear F a; intro a F
   refine list_val F (wn rfl) rfl rfl (.bool true) (ex_bin .lss _ _ _ _ rfl .i64 _ _ (F.e rfl) (F.e rfl) _ (b_lss (decide_eq_true (by omega)))) ?_; clear F a; intro a F
   refine wpList_nil ?_
   replace F : Fr 194 a [(0, .pointer (some (⟨gb, 0, none⟩ : Addr))), (2, .bool false), (3, .int .i64 ((i : Nat) : Int)), (4, .int .i64 ((k : Nat) : Int)), (21, .bool true), (33, .bool true)] := F.keep ⟨rfl, rfl, rfl, rfl, rfl, rfl, trivial⟩
   refine then_n ?_
   refine wp_cond_true (F.e rfl) ?_
   refine wp_skip ?_
   refine then_n ?_
   refine wp_seq ?_
   refine wp_block ?_
   refine wp_seq ?_
   refine wp_only (fun ar wr => Fr 194 ar [(0, .pointer (some (⟨gb, 0, none⟩ : Addr))), (2, .bool false), (3, .int .i64 ((i : Nat) : Int)), (4, .int .i64 ((k : Nat) : Int)), (21, .bool true), (33, .bool true), (54, .bool false)] ∧ Mm w wr []) ?_ ?_
   ·
    refine region_any rg_follows_mixedOrders M ?_; clear M; intro wD M hb
    clear hb; try clear u
    have hS : Below wD.heap.size wD wD := Below.refl _ _; have MD := M
    refine any_val F 0 rfl (by kernel_rfl) (wn rfl) rfl rfl (.pointer (some (⟨gb, 0, none⟩ : Addr))) (fun w' hS' => ex_move _ rfl _ (F.e rfl)) hS ?_; clear F a; intro a F
    refine any_val F 1 rfl (by kernel_rfl) (wn rfl) rfl rfl (.pointer (some (⟨gb, 0, none⟩ : Addr))) (fun w' hS' => ex_nilck _ rfl _ (F.e rfl)) hS ?_; clear F a; intro a F
    refine any_val F 2 rfl (by kernel_rfl) (wn rfl) rfl rfl (.pointer (some ((⟨gb, 0, none⟩ : Addr).add 30))) (fun w' hS' => ex_fa _ _ _ rfl _ (F.e rfl) 30 rg_fa_50_30_30 ((⟨gb, 0, none⟩ : Addr).add 30) rfl) hS ?_; clear F a; intro a F
    refine any_val F 3 rfl (by kernel_rfl) (wn rfl) rfl rfl (.slice (some adk) rows.length Kc) (fun w' hS' => ex_load _ _ rfl _ (F.e rfl) _ (lv1 rg_one_35 ((zb.below (MD.below hS').bel).cell 30 _ rfl))) hS ?_; clear F a; intro a F
    refine any_val F 4 rfl (by kernel_rfl) (wn rfl) rfl rfl (.int .i64 ((i : Nat) : Int)) (fun w' hS' => ex_move _ rfl _ (F.e rfl)) hS ?_; clear F a; intro a F
    refine any_val F 5 rfl (by kernel_rfl) (wn rfl) rfl rfl (.pointer (some (adk.add (i * 1)))) (fun w' hS' => ex_ix _ _ _ rfl 1 rg_sl_35_1 adk _ _ (F.e rfl) .i64 _ (F.e rfl) i rfl (by omega) (adk.add (i * 1)) rfl) hS ?_; clear F a; intro a F
    refine any_val F 6 rfl (by kernel_rfl) (wn rfl) rfl rfl (.slice (some ads) sn sc) (fun w' hS' => ex_load _ _ rfl _ (F.e rfl) _ (lv1 rg_one_57 ((zk.below (MD.below hS').bel).cell 0 _ rfl))) hS ?_; clear F a; intro a F
    refine any_val F 7 rfl (by kernel_rfl) (wn rfl) rfl rfl (.int .i64 ((k : Nat) : Int)) (fun w' hS' => ex_move _ rfl _ (F.e rfl)) hS ?_; clear F a; intro a F
    refine any_val F 8 rfl (by kernel_rfl) (wn rfl) rfl rfl (.pointer (some (ads.add (k * 19)))) (fun w' hS' => ex_ix _ _ _ rfl 19 rg_sl_57_19 ads _ _ (F.e rfl) .i64 _ (F.e rfl) k rfl (by omega) (ads.add (k * 19)) rfl) hS ?_; clear F a; intro a F
    refine any_val F 9 rfl (by kernel_rfl) (wn rfl) rfl rfl (.agg ((mkM m k).arr)) (fun w' hS' => ex_load _ _ rfl _ (F.e rfl) _ (lrow85 (mkM m k) ((ze.below (MD.below hS').bel)))) hS ?_; clear F a; intro a F
    refine any_val F 10 rfl (by kernel_rfl) (wn rfl) rfl rfl (.pointer (some (⟨gb, 0, none⟩ : Addr))) (fun w' hS' => ex_move _ rfl _ (F.e rfl)) hS ?_; clear F a; intro a F
    refine any_val F 11 rfl (by kernel_rfl) (wn rfl) rfl rfl (.pointer (some (⟨gb, 0, none⟩ : Addr))) (fun w' hS' => ex_nilck _ rfl _ (F.e rfl)) hS ?_; clear F a; intro a F
    refine any_val F 12 rfl (by kernel_rfl) (wn rfl) rfl rfl (.pointer (some ((⟨gb, 0, none⟩ : Addr).add 31))) (fun w' hS' => ex_fa _ _ _ rfl _ (F.e rfl) 31 rg_fa_50_31_31 ((⟨gb, 0, none⟩ : Addr).add 31) rfl) hS ?_; clear F a; intro a F
    refine any_val F 13 rfl (by kernel_rfl) (wn rfl) rfl rfl (.slice (some adi) ms.length Ic) (fun w' hS' => ex_load _ _ rfl _ (F.e rfl) _ (lv1 rg_one_25 ((zb.below (MD.below hS').bel).cell 31 _ rfl))) hS ?_; clear F a; intro a F
    refine any_val F 14 rfl (by kernel_rfl) (wn rfl) rfl rfl (.int .i64 ((i : Nat) : Int)) (fun w' hS' => ex_move _ rfl _ (F.e rfl)) hS ?_; clear F a; intro a F
    refine any_val F 15 rfl (by kernel_rfl) (wn rfl) rfl rfl (.pointer (some (adi.add (i * 1)))) (fun w' hS' => ex_ix _ _ _ rfl 1 rg_sl_25_1 adi _ _ (F.e rfl) .i64 _ (F.e rfl) i rfl (by omega) (adi.add (i * 1)) rfl) hS ?_; clear F a; intro a F
    refine any_val F 16 rfl (by kernel_rfl) (wn rfl) rfl rfl (.int .i64 ((m : Nat) : Int)) (fun w' hS' => ex_load _ _ rfl _ (F.e rfl) _ (lv1 rg_one_3 ((zi.below (MD.below hS').bel).cell 0 _ rfl))) hS ?_; clear F a; intro a F
    refine any_ready [17] (by kernel_rfl) (by simp) ?_
    refine ready_do rfl (wn rfl) (fun K hK => ?_) AllReadyH.nil
    refine ow_call rfl rfl F 27 #[.int .i64 ((m : Nat) : Int)] (ex_call 27 _ _ rfl rfl rg_ent_27 _ (map1 (F.e rfl))) (mark_any m 0 (by have := hB.bd.m m (List.mem_of_getElem? hm); omega) _) (fun e v hR => ?_)
    obtain ⟨he, hb⟩ := hR
    refine ⟨.agg ((mkM m k).arr), he, ?_⟩; clear he F a; intro a F
    refine hK _ _ (S_below hS hb) ?_
    replace hS := S_below hS hb
    clear hK K
    replace M := M.below hb; clear hb; try clear wD
    refine any_val F 18 rfl (by kernel_rfl) (wn rfl) rfl rfl (.bool false) (fun w' hS' => ex_ne85 _ _ _ rfl (mkM m k) (mkM m k) (F.e rfl) (F.e rfl) false (by simp)) hS ?_; clear F a; intro a F
    refine any_done (by kernel_rfl) ?_
    exact ⟨F.keep ⟨rfl, rfl, rfl, rfl, rfl, rfl, rfl, trivial⟩, (by refine M.pick' [] _ ?_ (by decide); exact trivial)⟩
   clear F M a
   intro a v hR; obtain ⟨F, M⟩ := hR; try clear u
   refine then_n ?_
   refine wp_cond_false (F.e rfl) ?_
   refine wp_skip ?_
   refine in_n ?_
   refine then_n ?_
   refine wp_region_lit ?_
   refine list_val F (wn rfl) rfl rfl (.int .i64 ((k : Nat) : Int)) (ex_move _ rfl _ (F.e rfl)) ?_; clear F a; intro a F
   refine list_val F (wn rfl) rfl rfl (.int .i64 ((k + 1 : Nat) : Int)) (ex_bin .add _ _ _ _ rfl .i64 _ _ (F.e rfl) rfl _ (b_add ((w_i64 (by omega) (by omega)).trans (by omega)))) ?_; clear F a; intro a F
   refine list_val F (wn rfl) rfl rfl (.int .i64 ((k + 1 : Nat) : Int)) (ex_assign _ rfl _ (F.e rfl)) ?_; clear F a; intro a F
   refine wpList_nil ?_
   replace F : Fr 194 a [(0, .pointer (some (⟨gb, 0, none⟩ : Addr))), (2, .bool false), (3, .int .i64 ((i : Nat) : Int)), (4, .int .i64 ((k + 1 : Nat) : Int)), (21, .bool true), (33, .bool true), (54, .bool false)] := F.keep ⟨rfl, rfl, rfl, rfl, rfl, rfl, rfl, trivial⟩
   refine then_n ?_
   exact ⟨sn - (k + 1), by omega, (k + 1), F.keep ⟨rfl, rfl, rfl, rfl, rfl, trivial⟩, (by refine M.pick' [] _ ?_ (by decide); exact trivial), (by omega), (by omega)⟩
  refine wp_seq ?_
  refine wp_seq ?_
  refine wp_region_lit ?_
  refine list_val F (wn rfl) rfl rfl (.int .i64 ((k : Nat) : Int)) (ex_move _ rfl _ (F.e rfl)) ?_; clear F a; intro a F
  refine list_val F (wn rfl) rfl rfl (.pointer (some (⟨gb, 0, none⟩ : Addr))) (ex_move _ rfl _ (F.e rfl)) ?_; clear F a; intro a F
  refine list_val F (wn rfl) rfl rfl (.pointer (some (⟨gb, 0, none⟩ : Addr))) (ex_nilck _ rfl _ (F.e rfl)) ?_; clear F a; intro a F
  refine list_val F (wn rfl) rfl rfl (.pointer (some ((⟨gb, 0, none⟩ : Addr).add 30))) (ex_fa _ _ _ rfl _ (F.e rfl) 30 rg_fa_50_30_30 ((⟨gb, 0, none⟩ : Addr).add 30) rfl) ?_; clear F a; intro a F
  refine list_val F (wn rfl) rfl rfl (.slice (some adk) rows.length Kc) (ex_load _ _ rfl _ (F.e rfl) _ (lv1 rg_one_35 ((zb.below M.bel).cell 30 _ rfl))) ?_; clear F a; intro a F
  refine list_val F (wn rfl) rfl rfl (.int .i64 ((i : Nat) : Int)) (ex_move _ rfl _ (F.e rfl)) ?_; clear F a; intro a F
  refine list_val F (wn rfl) rfl rfl (.pointer (some (adk.add (i * 1)))) (ex_ix _ _ _ rfl 1 rg_sl_35_1 adk _ _ (F.e rfl) .i64 _ (F.e rfl) i rfl (by omega) (adk.add (i * 1)) rfl) ?_; clear F a; intro a F
  refine list_val F (wn rfl) rfl rfl (.slice sA sn sc) (ex_load _ _ rfl _ (F.e rfl) _ (lv1 rg_one_57 ((zk.below M.bel).cell 0 _ rfl))) ?_; clear F a; intro a F
  refine list_val F (wn rfl) rfl rfl (.int .i64 ((sn : Nat) : Int)) (ex_len _ _ rfl 19 rg_sl_57_19 _ _ _ (F.e rfl)) ?_; clear F a; intro a F
  refine list_val F (wn rfl) rfl rfl (.bool false) (ex_bin .lss _ _ _ _ rfl .i64 _ _ (F.e rfl) (F.e rfl) _ (b_lss (decide_eq_false (by omega)))) ?_; clear F a; intro a F
  refine wpList_nil ?_
  replace F : Fr 194 a [(0, .pointer (some (⟨gb, 0, none⟩ : Addr))), (2, .bool false), (3, .int .i64 ((i : Nat) : Int)), (4, .int .i64 ((k : Nat) : Int)), (21, .bool true), (33, .bool false)] := F.keep ⟨rfl, rfl, rfl, rfl, rfl, rfl, trivial⟩
  refine then_n ?_
  refine wp_cond_false (F.e rfl) ?_
  refine wp_exit ?_
  refine then_x ?_
  refine then_x ?_
  refine in_hit ?_
  refine in_n ?_
  refine then_n ?_
  refine wp_region_lit ?_
  refine list_val F (wn rfl) rfl rfl (.int .i64 ((i : Nat) : Int)) (ex_move _ rfl _ (F.e rfl)) ?_; clear F a; intro a F
  refine list_val F (wn rfl) rfl rfl (.int .i64 ((i + 1 : Nat) : Int)) (ex_bin .add _ _ _ _ rfl .i64 _ _ (F.e rfl) rfl _ (b_add ((w_i64 (by omega) (by omega)).trans (by omega)))) ?_; clear F a; intro a F
  refine list_val F (wn rfl) rfl rfl (.int .i64 ((i + 1 : Nat) : Int)) (ex_assign _ rfl _ (F.e rfl)) ?_; clear F a; intro a F
  refine wpList_nil ?_
  replace F : Fr 194 a [(0, .pointer (some (⟨gb, 0, none⟩ : Addr))), (2, .bool false), (3, .int .i64 ((i + 1 : Nat) : Int)), (4, .int .i64 ((k : Nat) : Int)), (21, .bool true), (33, .bool false)] := F.keep ⟨rfl, rfl, rfl, rfl, rfl, rfl, trivial⟩
  refine then_n ?_
  exact ⟨rows.length - (i + 1), by omega, (i + 1), F.keep ⟨rfl, rfl, rfl, trivial⟩, (by refine M.pick' [] _ ?_ (by decide); exact trivial), (by omega), (by omega)⟩
 refine wp_seq ?_
 refine wp_seq ?_
 refine wp_region_lit ?_
 refine list_val F (wn rfl) rfl rfl (.int .i64 ((i : Nat) : Int)) (ex_move _ rfl _ (F.e rfl)) ?_; clear F a; intro a F
 refine list_val F (wn rfl) rfl rfl (.pointer (some (⟨gb, 0, none⟩ : Addr))) (ex_move _ rfl _ (F.e rfl)) ?_; clear F a; intro a F
 refine list_val F (wn rfl) rfl rfl (.pointer (some (⟨gb, 0, none⟩ : Addr))) (ex_nilck _ rfl _ (F.e rfl)) ?_; clear F a; intro a F
 refine list_val F (wn rfl) rfl rfl (.pointer (some ((⟨gb, 0, none⟩ : Addr).add 30))) (ex_fa _ _ _ rfl _ (F.e rfl) 30 rg_fa_50_30_30 ((⟨gb, 0, none⟩ : Addr).add 30) rfl) ?_; clear F a; intro a F
 refine list_val F (wn rfl) rfl rfl (.slice KA rows.length Kc) (ex_load _ _ rfl _ (F.e rfl) _ (lv1 rg_one_35 ((zb.below M.bel).cell 30 _ rfl))) ?_; clear F a; intro a F
 refine list_val F (wn rfl) rfl rfl (.int .i64 ((rows.length : Nat) : Int)) (ex_len _ _ rfl 1 rg_sl_35_1 _ _ _ (F.e rfl)) ?_; clear F a; intro a F
 refine list_val F (wn rfl) rfl rfl (.bool false) (ex_bin .lss _ _ _ _ rfl .i64 _ _ (F.e rfl) (F.e rfl) _ (b_lss (decide_eq_false (by omega)))) ?_; clear F a; intro a F
 refine wpList_nil ?_
 replace F : Fr 194 a [(0, .pointer (some (⟨gb, 0, none⟩ : Addr))), (2, .bool false), (3, .int .i64 ((i : Nat) : Int)), (21, .bool false)] := F.keep ⟨rfl, rfl, rfl, rfl, trivial⟩
 refine then_n ?_
 refine wp_cond_false (F.e rfl) ?_
 refine wp_exit ?_
 refine then_x ?_
 refine then_x ?_
 refine in_hit ?_
 refine then_n ?_
 refine wp_seq ?_
 refine wp_seq ?_
 refine wp_region_lit ?_
 refine list_val F (wn rfl) rfl rfl (.int .i64 0) (ex_assign _ rfl _ rfl) ?_; clear F a; intro a F
 refine wpList_nil ?_
 replace F : Fr 194 a [(0, .pointer (some (⟨gb, 0, none⟩ : Addr))), (2, .bool false), (3, .int .i64 ((i : Nat) : Int)), (5, .int .i64 0), (21, .bool false)] := F.keep ⟨rfl, rfl, rfl, rfl, rfl, trivial⟩
 refine then_n ?_
 refine wp_block ?_
 refine wp_loop_rounds 1 ?_
 refine rounds_do 0 ?_
 refine wp_seq ?_
 refine wp_seq ?_
 refine wp_region_lit ?_
 refine list_val F (wn rfl) rfl rfl (.int .i64 0) (ex_move _ rfl _ (F.e rfl)) ?_; clear F a; intro a F
 refine list_val F (wn rfl) rfl rfl (.pointer (some (⟨gb, 0, none⟩ : Addr))) (ex_move _ rfl _ (F.e rfl)) ?_; clear F a; intro a F
 refine list_val F (wn rfl) rfl rfl (.pointer (some (⟨gb, 0, none⟩ : Addr))) (ex_nilck _ rfl _ (F.e rfl)) ?_; clear F a; intro a F
 refine list_val F (wn rfl) rfl rfl (.pointer (some ((⟨gb, 0, none⟩ : Addr).add 33))) (ex_fa _ _ _ rfl _ (F.e rfl) 33 rg_fa_50_33_33 ((⟨gb, 0, none⟩ : Addr).add 33) rfl) ?_; clear F a; intro a F
 refine list_val F (wn rfl) rfl rfl (.slice none 0 0) (ex_load _ _ rfl _ (F.e rfl) _ (lv1 rg_one_36 ((zb.below M.bel).cell 33 _ rfl))) ?_; clear F a; intro a F
 refine list_val F (wn rfl) rfl rfl (.int .i64 0) (ex_len _ _ rfl 1 rg_sl_36_1 _ _ _ (F.e rfl)) ?_; clear F a; intro a F
 refine list_val F (wn rfl) rfl rfl (.bool false) (ex_bin .lss _ _ _ _ rfl .i64 _ _ (F.e rfl) (F.e rfl) _ (b_lss (by decide))) ?_; clear F a; intro a F
 refine wpList_nil ?_
 replace F : Fr 194 a [(0, .pointer (some (⟨gb, 0, none⟩ : Addr))), (2, .bool false), (3, .int .i64 ((i : Nat) : Int)), (5, .int .i64 0), (21, .bool false), (61, .bool false)] := F.keep ⟨rfl, rfl, rfl, rfl, rfl, rfl, trivial⟩
 refine then_n ?_
 refine wp_cond_false (F.e rfl) ?_
 refine wp_exit ?_
 refine then_x ?_
 refine then_x ?_
 refine in_hit ?_
 refine then_n ?_
 refine wp_seq ?_
 refine wp_seq ?_
 refine wp_region_lit ?_
 refine list_val F (wn rfl) rfl rfl (.int .i64 0) (ex_assign _ rfl _ rfl) ?_; clear F a; intro a F
 refine wpList_nil ?_
 replace F : Fr 194 a [(0, .pointer (some (⟨gb, 0, none⟩ : Addr))), (2, .bool false), (3, .int .i64 ((i : Nat) : Int)), (5, .int .i64 0), (7, .int .i64 0), (21, .bool false), (61, .bool false)] := F.keep ⟨rfl, rfl, rfl, rfl, rfl, rfl, rfl, trivial⟩
 refine then_n ?_
 refine wp_block ?_
 refine wp_loop_rounds 1 ?_
 refine rounds_do 0 ?_
 refine wp_seq ?_
 refine wp_seq ?_
 refine wp_region_lit ?_
 refine list_val F (wn rfl) rfl rfl (.int .i64 0) (ex_move _ rfl _ (F.e rfl)) ?_; clear F a; intro a F
 refine list_val F (wn rfl) rfl rfl (.pointer (some (⟨gb, 0, none⟩ : Addr))) (ex_move _ rfl _ (F.e rfl)) ?_; clear F a; intro a F
 refine list_val F (wn rfl) rfl rfl (.pointer (some (⟨gb, 0, none⟩ : Addr))) (ex_nilck _ rfl _ (F.e rfl)) ?_; clear F a; intro a F
 refine list_val F (wn rfl) rfl rfl (.pointer (some ((⟨gb, 0, none⟩ : Addr).add 36))) (ex_fa _ _ _ rfl _ (F.e rfl) 36 rg_fa_50_36_36 ((⟨gb, 0, none⟩ : Addr).add 36) rfl) ?_; clear F a; intro a F
 refine list_val F (wn rfl) rfl rfl (.slice none 0 0) (ex_load _ _ rfl _ (F.e rfl) _ (lv1 rg_one_37 ((zb.below M.bel).cell 36 _ rfl))) ?_; clear F a; intro a F
 refine list_val F (wn rfl) rfl rfl (.int .i64 0) (ex_len _ _ rfl 1 rg_sl_37_1 _ _ _ (F.e rfl)) ?_; clear F a; intro a F
 refine list_val F (wn rfl) rfl rfl (.bool false) (ex_bin .lss _ _ _ _ rfl .i64 _ _ (F.e rfl) (F.e rfl) _ (b_lss (by decide))) ?_; clear F a; intro a F
 refine wpList_nil ?_
 replace F : Fr 194 a [(0, .pointer (some (⟨gb, 0, none⟩ : Addr))), (2, .bool false), (3, .int .i64 ((i : Nat) : Int)), (5, .int .i64 0), (7, .int .i64 0), (21, .bool false), (61, .bool false), (101, .bool false)] := F.keep ⟨rfl, rfl, rfl, rfl, rfl, rfl, rfl, rfl, trivial⟩
 refine then_n ?_
 refine wp_cond_false (F.e rfl) ?_
 refine wp_exit ?_
 refine then_x ?_
 refine then_x ?_
 refine in_hit ?_
 refine then_n ?_
 refine wp_seq ?_
 refine wp_seq ?_
 refine wp_region_lit ?_
 refine list_val F (wn rfl) rfl rfl (.int .i64 0) (ex_assign _ rfl _ rfl) ?_; clear F a; intro a F
 refine wpList_nil ?_
 replace F : Fr 194 a [(0, .pointer (some (⟨gb, 0, none⟩ : Addr))), (2, .bool false), (3, .int .i64 ((i : Nat) : Int)), (5, .int .i64 0), (7, .int .i64 0), (11, .int .i64 0), (21, .bool false), (61, .bool false), (101, .bool false)] := F.keep ⟨rfl, rfl, rfl, rfl, rfl, rfl, rfl, rfl, rfl, trivial⟩
 refine then_n ?_
 refine wp_block ?_
 refine wp_loop_rounds 1 ?_
 refine rounds_do 0 ?_
 refine wp_seq ?_
 refine wp_seq ?_
 refine wp_region_lit ?_
 refine list_val F (wn rfl) rfl rfl (.int .i64 0) (ex_move _ rfl _ (F.e rfl)) ?_; clear F a; intro a F
 refine list_val F (wn rfl) rfl rfl (.pointer (some (⟨gb, 0, none⟩ : Addr))) (ex_move _ rfl _ (F.e rfl)) ?_; clear F a; intro a F
 refine list_val F (wn rfl) rfl rfl (.pointer (some (⟨gb, 0, none⟩ : Addr))) (ex_nilck _ rfl _ (F.e rfl)) ?_; clear F a; intro a F
 refine list_val F (wn rfl) rfl rfl (.pointer (some ((⟨gb, 0, none⟩ : Addr).add 39))) (ex_fa _ _ _ rfl _ (F.e rfl) 39 rg_fa_50_39_39 ((⟨gb, 0, none⟩ : Addr).add 39) rfl) ?_; clear F a; intro a F
 refine list_val F (wn rfl) rfl rfl (.slice none 0 0) (ex_load _ _ rfl _ (F.e rfl) _ (lv1 rg_one_38 ((zb.below M.bel).cell 39 _ rfl))) ?_; clear F a; intro a F
 refine list_val F (wn rfl) rfl rfl (.int .i64 0) (ex_len _ _ rfl 1 rg_sl_38_1 _ _ _ (F.e rfl)) ?_; clear F a; intro a F
 refine list_val F (wn rfl) rfl rfl (.bool false) (ex_bin .lss _ _ _ _ rfl .i64 _ _ (F.e rfl) (F.e rfl) _ (b_lss (by decide))) ?_; clear F a; intro a F
 refine wpList_nil ?_
 replace F : Fr 194 a [(0, .pointer (some (⟨gb, 0, none⟩ : Addr))), (2, .bool false), (3, .int .i64 ((i : Nat) : Int)), (5, .int .i64 0), (7, .int .i64 0), (11, .int .i64 0), (21, .bool false), (61, .bool false), (101, .bool false), (151, .bool false)] := F.keep ⟨rfl, rfl, rfl, rfl, rfl, rfl, rfl, rfl, rfl, rfl, trivial⟩
 refine then_n ?_
 refine wp_cond_false (F.e rfl) ?_
 refine wp_exit ?_
 refine then_x ?_
 refine then_x ?_
 refine in_hit ?_
 refine then_n ?_
 refine wp_seq ?_
 refine wp_region_lit ?_
 refine list_val F (wn rfl) rfl rfl (.bool true) (ex_assign _ rfl _ rfl) ?_; clear F a; intro a F
 refine wpList_nil ?_
 replace F : Fr 194 a [(0, .pointer (some (⟨gb, 0, none⟩ : Addr))), (2, .bool true), (3, .int .i64 ((i : Nat) : Int)), (5, .int .i64 0), (7, .int .i64 0), (11, .int .i64 0), (21, .bool false), (61, .bool false), (101, .bool false), (151, .bool false)] := F.keep ⟨rfl, rfl, rfl, rfl, rfl, rfl, rfl, rfl, rfl, rfl, trivial⟩
 refine then_n ?_
 refine wp_ret ?_
 exact ret_tmp F rfl rfl ⟨rfl, M.bel⟩
set_option maxHeartbeats 1000000 in
set_option maxRecDepth 100000 in
theorem sent_any (own : Nat → Nat) (base gb : Nat) (KA : Option Addr) (Kc : Nat) (rows : List Sl) (IA : Option Addr) (Ic : Nat) (ms : List Nat) (kA tn dn us : Nat) (w : World) (hB : Bk own base gb KA Kc rows IA Ic ms kA tn dn us w) :
    Calls Tryz.prog 48 #[.pointer (some ⟨gb, 0, none⟩)] w fun e w' => e = .returned (.bool true) ∧ Below w.heap.size w w' := by
 have zb : At w ⟨gb, 0, none⟩ (bkC (.slice KA rows.length Kc) (.slice IA ms.length Ic) kA tn dn us) := at_block hB.blk
 have hrl := hB.bd.r
 refine calls_start Tryz.func48 rfl rfl rfl (fun a F => ?_)
 have M : Mm w w [] := Mm.nil w
 refine wp_seq ?_
 refine wp_region_lit ?_
 refine list_val F (wn rfl) rfl rfl (.bool false) (ex_assign _ rfl _ rfl) ?_; clear F a; intro a F
 refine wpList_nil ?_
 replace F : Fr 235 a [(0, .pointer (some (⟨gb, 0, none⟩ : Addr))), (2, .bool false)] := F.keep ⟨rfl, rfl, trivial⟩
 refine then_n ?_
 refine wp_seq ?_
 refine wp_seq ?_
 refine wp_region_lit ?_
 refine list_val F (wn rfl) rfl rfl (.int .i64 0) (ex_assign _ rfl _ rfl) ?_; clear F a; intro a F
 refine wpList_nil ?_
 replace F : Fr 235 a [(0, .pointer (some (⟨gb, 0, none⟩ : Addr))), (2, .bool false), (3, .int .i64 0)] := F.keep ⟨rfl, rfl, rfl, trivial⟩
 refine then_n ?_
 refine wp_block ?_
 refine wp_loop_rounds 1 ?_
 refine rounds_do 0 ?_
 refine wp_seq ?_
 refine wp_seq ?_
 refine wp_region_lit ?_
 refine list_val F (wn rfl) rfl rfl (.int .i64 0) (ex_move _ rfl _ (F.e rfl)) ?_; clear F a; intro a F
 refine list_val F (wn rfl) rfl rfl (.pointer (some (⟨gb, 0, none⟩ : Addr))) (ex_move _ rfl _ (F.e rfl)) ?_; clear F a; intro a F
 refine list_val F (wn rfl) rfl rfl (.pointer (some (⟨gb, 0, none⟩ : Addr))) (ex_nilck _ rfl _ (F.e rfl)) ?_; clear F a; intro a F
 refine list_val F (wn rfl) rfl rfl (.pointer (some ((⟨gb, 0, none⟩ : Addr).add 42))) (ex_fa _ _ _ rfl _ (F.e rfl) 42 rg_fa_50_42_42 ((⟨gb, 0, none⟩ : Addr).add 42) rfl) ?_; clear F a; intro a F
 refine list_val F (wn rfl) rfl rfl (.slice none 0 0) (ex_load _ _ rfl _ (F.e rfl) _ (lv1 rg_one_39 ((zb.below M.bel).cell 42 _ rfl))) ?_; clear F a; intro a F
 refine list_val F (wn rfl) rfl rfl (.int .i64 0) (ex_len _ _ rfl 1 rg_sl_39_1 _ _ _ (F.e rfl)) ?_; clear F a; intro a F
 refine list_val F (wn rfl) rfl rfl (.bool false) (ex_bin .lss _ _ _ _ rfl .i64 _ _ (F.e rfl) (F.e rfl) _ (b_lss (by decide))) ?_; clear F a; intro a F
 refine wpList_nil ?_
 replace F : Fr 235 a [(0, .pointer (some (⟨gb, 0, none⟩ : Addr))), (2, .bool false), (3, .int .i64 0), (25, .bool false)] := F.keep ⟨rfl, rfl, rfl, rfl, trivial⟩
 refine then_n ?_
 refine wp_cond_false (F.e rfl) ?_
 refine wp_exit ?_
 refine then_x ?_
 refine then_x ?_
 refine in_hit ?_
 refine then_n ?_
 refine wp_seq ?_
 refine wp_seq ?_
 refine wp_region_lit ?_
 refine list_val F (wn rfl) rfl rfl (.int .i64 0) (ex_assign _ rfl _ rfl) ?_; clear F a; intro a F
 refine wpList_nil ?_
 replace F : Fr 235 a [(0, .pointer (some (⟨gb, 0, none⟩ : Addr))), (2, .bool false), (3, .int .i64 0), (7, .int .i64 0), (25, .bool false)] := F.keep ⟨rfl, rfl, rfl, rfl, rfl, trivial⟩
 refine then_n ?_
 refine wp_block ?_
 refine wp_loop_rounds 1 ?_
 refine rounds_do 0 ?_
 refine wp_seq ?_
 refine wp_seq ?_
 refine wp_region_lit ?_
 refine list_val F (wn rfl) rfl rfl (.int .i64 0) (ex_move _ rfl _ (F.e rfl)) ?_; clear F a; intro a F
 refine list_val F (wn rfl) rfl rfl (.pointer (some (⟨gb, 0, none⟩ : Addr))) (ex_move _ rfl _ (F.e rfl)) ?_; clear F a; intro a F
 refine list_val F (wn rfl) rfl rfl (.pointer (some (⟨gb, 0, none⟩ : Addr))) (ex_nilck _ rfl _ (F.e rfl)) ?_; clear F a; intro a F
 refine list_val F (wn rfl) rfl rfl (.pointer (some ((⟨gb, 0, none⟩ : Addr).add 45))) (ex_fa _ _ _ rfl _ (F.e rfl) 45 rg_fa_50_45_45 ((⟨gb, 0, none⟩ : Addr).add 45) rfl) ?_; clear F a; intro a F
 refine list_val F (wn rfl) rfl rfl (.slice none 0 0) (ex_load _ _ rfl _ (F.e rfl) _ (lv1 rg_one_40 ((zb.below M.bel).cell 45 _ rfl))) ?_; clear F a; intro a F
 refine list_val F (wn rfl) rfl rfl (.int .i64 0) (ex_len _ _ rfl 1 rg_sl_40_1 _ _ _ (F.e rfl)) ?_; clear F a; intro a F
 refine list_val F (wn rfl) rfl rfl (.bool false) (ex_bin .lss _ _ _ _ rfl .i64 _ _ (F.e rfl) (F.e rfl) _ (b_lss (by decide))) ?_; clear F a; intro a F
 refine wpList_nil ?_
 replace F : Fr 235 a [(0, .pointer (some (⟨gb, 0, none⟩ : Addr))), (2, .bool false), (3, .int .i64 0), (7, .int .i64 0), (25, .bool false), (79, .bool false)] := F.keep ⟨rfl, rfl, rfl, rfl, rfl, rfl, trivial⟩
 refine then_n ?_
 refine wp_cond_false (F.e rfl) ?_
 refine wp_exit ?_
 refine then_x ?_
 refine then_x ?_
 refine in_hit ?_
 refine then_n ?_
 refine wp_seq ?_
 refine wp_seq ?_
 refine wp_region_lit ?_
 refine list_val F (wn rfl) rfl rfl (.int .i64 0) (ex_assign _ rfl _ rfl) ?_; clear F a; intro a F
 refine wpList_nil ?_
 replace F : Fr 235 a [(0, .pointer (some (⟨gb, 0, none⟩ : Addr))), (2, .bool false), (3, .int .i64 0), (7, .int .i64 0), (11, .int .i64 0), (25, .bool false), (79, .bool false)] := F.keep ⟨rfl, rfl, rfl, rfl, rfl, rfl, rfl, trivial⟩
 refine then_n ?_
 refine wp_block ?_
 refine wp_loop_rounds 1 ?_
 refine rounds_do 0 ?_
 refine wp_seq ?_
 refine wp_seq ?_
 refine wp_region_lit ?_
 refine list_val F (wn rfl) rfl rfl (.int .i64 0) (ex_move _ rfl _ (F.e rfl)) ?_; clear F a; intro a F
 refine list_val F (wn rfl) rfl rfl (.pointer (some (⟨gb, 0, none⟩ : Addr))) (ex_move _ rfl _ (F.e rfl)) ?_; clear F a; intro a F
 refine list_val F (wn rfl) rfl rfl (.pointer (some (⟨gb, 0, none⟩ : Addr))) (ex_nilck _ rfl _ (F.e rfl)) ?_; clear F a; intro a F
 refine list_val F (wn rfl) rfl rfl (.pointer (some ((⟨gb, 0, none⟩ : Addr).add 48))) (ex_fa _ _ _ rfl _ (F.e rfl) 48 rg_fa_50_48_48 ((⟨gb, 0, none⟩ : Addr).add 48) rfl) ?_; clear F a; intro a F
 refine list_val F (wn rfl) rfl rfl (.slice none 0 0) (ex_load _ _ rfl _ (F.e rfl) _ (lv1 rg_one_41 ((zb.below M.bel).cell 48 _ rfl))) ?_; clear F a; intro a F
 refine list_val F (wn rfl) rfl rfl (.int .i64 0) (ex_len _ _ rfl 1 rg_sl_41_1 _ _ _ (F.e rfl)) ?_; clear F a; intro a F
 refine list_val F (wn rfl) rfl rfl (.bool false) (ex_bin .lss _ _ _ _ rfl .i64 _ _ (F.e rfl) (F.e rfl) _ (b_lss (by decide))) ?_; clear F a; intro a F
 refine wpList_nil ?_
 replace F : Fr 235 a [(0, .pointer (some (⟨gb, 0, none⟩ : Addr))), (2, .bool false), (3, .int .i64 0), (7, .int .i64 0), (11, .int .i64 0), (25, .bool false), (79, .bool false), (135, .bool false)] := F.keep ⟨rfl, rfl, rfl, rfl, rfl, rfl, rfl, rfl, trivial⟩
 refine then_n ?_
 refine wp_cond_false (F.e rfl) ?_
 refine wp_exit ?_
 refine then_x ?_
 refine then_x ?_
 refine in_hit ?_
 refine then_n ?_
 refine wp_seq ?_
 refine wp_seq ?_
 refine wp_region_lit ?_
 refine list_val F (wn rfl) rfl rfl (.int .i64 0) (ex_assign _ rfl _ rfl) ?_; clear F a; intro a F
 refine wpList_nil ?_
 replace F : Fr 235 a [(0, .pointer (some (⟨gb, 0, none⟩ : Addr))), (2, .bool false), (3, .int .i64 0), (7, .int .i64 0), (11, .int .i64 0), (15, .int .i64 0), (25, .bool false), (79, .bool false), (135, .bool false)] := F.keep ⟨rfl, rfl, rfl, rfl, rfl, rfl, rfl, rfl, rfl, trivial⟩
 refine then_n ?_
 refine wp_block ?_
 refine wp_loop_rounds 1 ?_
 refine rounds_do 0 ?_
 refine wp_seq ?_
 refine wp_seq ?_
 refine wp_region_lit ?_
 refine list_val F (wn rfl) rfl rfl (.int .i64 0) (ex_move _ rfl _ (F.e rfl)) ?_; clear F a; intro a F
 refine list_val F (wn rfl) rfl rfl (.pointer (some (⟨gb, 0, none⟩ : Addr))) (ex_move _ rfl _ (F.e rfl)) ?_; clear F a; intro a F
 refine list_val F (wn rfl) rfl rfl (.pointer (some (⟨gb, 0, none⟩ : Addr))) (ex_nilck _ rfl _ (F.e rfl)) ?_; clear F a; intro a F
 refine list_val F (wn rfl) rfl rfl (.pointer (some ((⟨gb, 0, none⟩ : Addr).add 51))) (ex_fa _ _ _ rfl _ (F.e rfl) 51 rg_fa_50_51_51 ((⟨gb, 0, none⟩ : Addr).add 51) rfl) ?_; clear F a; intro a F
 refine list_val F (wn rfl) rfl rfl (.slice none 0 0) (ex_load _ _ rfl _ (F.e rfl) _ (lv1 rg_one_42 ((zb.below M.bel).cell 51 _ rfl))) ?_; clear F a; intro a F
 refine list_val F (wn rfl) rfl rfl (.int .i64 0) (ex_len _ _ rfl 1 rg_sl_42_1 _ _ _ (F.e rfl)) ?_; clear F a; intro a F
 refine list_val F (wn rfl) rfl rfl (.bool false) (ex_bin .lss _ _ _ _ rfl .i64 _ _ (F.e rfl) (F.e rfl) _ (b_lss (by decide))) ?_; clear F a; intro a F
 refine wpList_nil ?_
 replace F : Fr 235 a [(0, .pointer (some (⟨gb, 0, none⟩ : Addr))), (2, .bool false), (3, .int .i64 0), (7, .int .i64 0), (11, .int .i64 0), (15, .int .i64 0), (25, .bool false), (79, .bool false), (135, .bool false), (191, .bool false)] := F.keep ⟨rfl, rfl, rfl, rfl, rfl, rfl, rfl, rfl, rfl, rfl, trivial⟩
 refine then_n ?_
 refine wp_cond_false (F.e rfl) ?_
 refine wp_exit ?_
 refine then_x ?_
 refine then_x ?_
 refine in_hit ?_
 refine then_n ?_
 refine wp_seq ?_
 refine wp_region_lit ?_
 refine list_val F (wn rfl) rfl rfl (.bool true) (ex_assign _ rfl _ rfl) ?_; clear F a; intro a F
 refine wpList_nil ?_
 replace F : Fr 235 a [(0, .pointer (some (⟨gb, 0, none⟩ : Addr))), (2, .bool true), (3, .int .i64 0), (7, .int .i64 0), (11, .int .i64 0), (15, .int .i64 0), (25, .bool false), (79, .bool false), (135, .bool false), (191, .bool false)] := F.keep ⟨rfl, rfl, rfl, rfl, rfl, rfl, rfl, rfl, rfl, rfl, trivial⟩
 refine then_n ?_
 refine wp_ret ?_
 exact ret_tmp F rfl rfl ⟨rfl, M.bel⟩
set_option maxHeartbeats 1000000 in
set_option maxRecDepth 100000 in
theorem given_any (own : Nat → Nat) (base gb : Nat) (KA : Option Addr) (Kc : Nat) (rows : List Sl) (IA : Option Addr) (Ic : Nat) (ms : List Nat) (kA tn dn us : Nat) (w : World) (hB : Bk own base gb KA Kc rows IA Ic ms kA tn dn us w) :
    Calls Tryz.prog 49 #[.pointer (some ⟨gb, 0, none⟩)] w fun e w' => e = .returned (.bool true) ∧ Below w.heap.size w w' := by
 have zb : At w ⟨gb, 0, none⟩ (bkC (.slice KA rows.length Kc) (.slice IA ms.length Ic) kA tn dn us) := at_block hB.blk
 have hrl := hB.bd.r
 refine calls_start Tryz.func49 rfl rfl rfl (fun a F => ?_)
 have M : Mm w w [] := Mm.nil w
 refine wp_seq ?_
 refine wp_region_lit ?_
 refine list_val F (wn rfl) rfl rfl (.bool false) (ex_assign _ rfl _ rfl) ?_; clear F a; intro a F
 refine wpList_nil ?_
 replace F : Fr 220 a [(0, .pointer (some (⟨gb, 0, none⟩ : Addr))), (2, .bool false)] := F.keep ⟨rfl, rfl, trivial⟩
 refine then_n ?_
 refine wp_seq ?_
 refine wp_seq ?_
 refine wp_region_lit ?_
 refine list_val F (wn rfl) rfl rfl (.int .i64 0) (ex_assign _ rfl _ rfl) ?_; clear F a; intro a F
 refine wpList_nil ?_
 replace F : Fr 220 a [(0, .pointer (some (⟨gb, 0, none⟩ : Addr))), (2, .bool false), (3, .int .i64 0)] := F.keep ⟨rfl, rfl, rfl, trivial⟩
 refine then_n ?_
 refine wp_block ?_
 refine wp_loop_rounds 1 ?_
 refine rounds_do 0 ?_
 refine wp_seq ?_
 refine wp_seq ?_
 refine wp_region_lit ?_
 refine list_val F (wn rfl) rfl rfl (.int .i64 0) (ex_move _ rfl _ (F.e rfl)) ?_; clear F a; intro a F
 refine list_val F (wn rfl) rfl rfl (.pointer (some (⟨gb, 0, none⟩ : Addr))) (ex_move _ rfl _ (F.e rfl)) ?_; clear F a; intro a F
 refine list_val F (wn rfl) rfl rfl (.pointer (some (⟨gb, 0, none⟩ : Addr))) (ex_nilck _ rfl _ (F.e rfl)) ?_; clear F a; intro a F
 refine list_val F (wn rfl) rfl rfl (.pointer (some ((⟨gb, 0, none⟩ : Addr).add 54))) (ex_fa _ _ _ rfl _ (F.e rfl) 54 rg_fa_50_54_54 ((⟨gb, 0, none⟩ : Addr).add 54) rfl) ?_; clear F a; intro a F
 refine list_val F (wn rfl) rfl rfl (.slice none 0 0) (ex_load _ _ rfl _ (F.e rfl) _ (lv1 rg_one_43 ((zb.below M.bel).cell 54 _ rfl))) ?_; clear F a; intro a F
 refine list_val F (wn rfl) rfl rfl (.int .i64 0) (ex_len _ _ rfl 1 rg_sl_43_1 _ _ _ (F.e rfl)) ?_; clear F a; intro a F
 refine list_val F (wn rfl) rfl rfl (.bool false) (ex_bin .lss _ _ _ _ rfl .i64 _ _ (F.e rfl) (F.e rfl) _ (b_lss (by decide))) ?_; clear F a; intro a F
 refine wpList_nil ?_
 replace F : Fr 220 a [(0, .pointer (some (⟨gb, 0, none⟩ : Addr))), (2, .bool false), (3, .int .i64 0), (25, .bool false)] := F.keep ⟨rfl, rfl, rfl, rfl, trivial⟩
 refine then_n ?_
 refine wp_cond_false (F.e rfl) ?_
 refine wp_exit ?_
 refine then_x ?_
 refine then_x ?_
 refine in_hit ?_
 refine then_n ?_
 refine wp_seq ?_
 refine wp_seq ?_
 refine wp_region_lit ?_
 refine list_val F (wn rfl) rfl rfl (.int .i64 0) (ex_assign _ rfl _ rfl) ?_; clear F a; intro a F
 refine wpList_nil ?_
 replace F : Fr 220 a [(0, .pointer (some (⟨gb, 0, none⟩ : Addr))), (2, .bool false), (3, .int .i64 0), (7, .int .i64 0), (25, .bool false)] := F.keep ⟨rfl, rfl, rfl, rfl, rfl, trivial⟩
 refine then_n ?_
 refine wp_block ?_
 refine wp_loop_rounds 1 ?_
 refine rounds_do 0 ?_
 refine wp_seq ?_
 refine wp_seq ?_
 refine wp_region_lit ?_
 refine list_val F (wn rfl) rfl rfl (.int .i64 0) (ex_move _ rfl _ (F.e rfl)) ?_; clear F a; intro a F
 refine list_val F (wn rfl) rfl rfl (.pointer (some (⟨gb, 0, none⟩ : Addr))) (ex_move _ rfl _ (F.e rfl)) ?_; clear F a; intro a F
 refine list_val F (wn rfl) rfl rfl (.pointer (some (⟨gb, 0, none⟩ : Addr))) (ex_nilck _ rfl _ (F.e rfl)) ?_; clear F a; intro a F
 refine list_val F (wn rfl) rfl rfl (.pointer (some ((⟨gb, 0, none⟩ : Addr).add 57))) (ex_fa _ _ _ rfl _ (F.e rfl) 57 rg_fa_50_57_57 ((⟨gb, 0, none⟩ : Addr).add 57) rfl) ?_; clear F a; intro a F
 refine list_val F (wn rfl) rfl rfl (.slice none 0 0) (ex_load _ _ rfl _ (F.e rfl) _ (lv1 rg_one_44 ((zb.below M.bel).cell 57 _ rfl))) ?_; clear F a; intro a F
 refine list_val F (wn rfl) rfl rfl (.int .i64 0) (ex_len _ _ rfl 1 rg_sl_44_1 _ _ _ (F.e rfl)) ?_; clear F a; intro a F
 refine list_val F (wn rfl) rfl rfl (.bool false) (ex_bin .lss _ _ _ _ rfl .i64 _ _ (F.e rfl) (F.e rfl) _ (b_lss (by decide))) ?_; clear F a; intro a F
 refine wpList_nil ?_
 replace F : Fr 220 a [(0, .pointer (some (⟨gb, 0, none⟩ : Addr))), (2, .bool false), (3, .int .i64 0), (7, .int .i64 0), (25, .bool false), (75, .bool false)] := F.keep ⟨rfl, rfl, rfl, rfl, rfl, rfl, trivial⟩
 refine then_n ?_
 refine wp_cond_false (F.e rfl) ?_
 refine wp_exit ?_
 refine then_x ?_
 refine then_x ?_
 refine in_hit ?_
 refine then_n ?_
 refine wp_seq ?_
 refine wp_seq ?_
 refine wp_region_lit ?_
 refine list_val F (wn rfl) rfl rfl (.int .i64 0) (ex_assign _ rfl _ rfl) ?_; clear F a; intro a F
 refine wpList_nil ?_
 replace F : Fr 220 a [(0, .pointer (some (⟨gb, 0, none⟩ : Addr))), (2, .bool false), (3, .int .i64 0), (7, .int .i64 0), (11, .int .i64 0), (25, .bool false), (75, .bool false)] := F.keep ⟨rfl, rfl, rfl, rfl, rfl, rfl, rfl, trivial⟩
 refine then_n ?_
 refine wp_block ?_
 refine wp_loop_rounds 1 ?_
 refine rounds_do 0 ?_
 refine wp_seq ?_
 refine wp_seq ?_
 refine wp_region_lit ?_
 refine list_val F (wn rfl) rfl rfl (.int .i64 0) (ex_move _ rfl _ (F.e rfl)) ?_; clear F a; intro a F
 refine list_val F (wn rfl) rfl rfl (.pointer (some (⟨gb, 0, none⟩ : Addr))) (ex_move _ rfl _ (F.e rfl)) ?_; clear F a; intro a F
 refine list_val F (wn rfl) rfl rfl (.pointer (some (⟨gb, 0, none⟩ : Addr))) (ex_nilck _ rfl _ (F.e rfl)) ?_; clear F a; intro a F
 refine list_val F (wn rfl) rfl rfl (.pointer (some ((⟨gb, 0, none⟩ : Addr).add 60))) (ex_fa _ _ _ rfl _ (F.e rfl) 60 rg_fa_50_60_60 ((⟨gb, 0, none⟩ : Addr).add 60) rfl) ?_; clear F a; intro a F
 refine list_val F (wn rfl) rfl rfl (.slice none 0 0) (ex_load _ _ rfl _ (F.e rfl) _ (lv1 rg_one_45 ((zb.below M.bel).cell 60 _ rfl))) ?_; clear F a; intro a F
 refine list_val F (wn rfl) rfl rfl (.int .i64 0) (ex_len _ _ rfl 1 rg_sl_45_1 _ _ _ (F.e rfl)) ?_; clear F a; intro a F
 refine list_val F (wn rfl) rfl rfl (.bool false) (ex_bin .lss _ _ _ _ rfl .i64 _ _ (F.e rfl) (F.e rfl) _ (b_lss (by decide))) ?_; clear F a; intro a F
 refine wpList_nil ?_
 replace F : Fr 220 a [(0, .pointer (some (⟨gb, 0, none⟩ : Addr))), (2, .bool false), (3, .int .i64 0), (7, .int .i64 0), (11, .int .i64 0), (25, .bool false), (75, .bool false), (126, .bool false)] := F.keep ⟨rfl, rfl, rfl, rfl, rfl, rfl, rfl, rfl, trivial⟩
 refine then_n ?_
 refine wp_cond_false (F.e rfl) ?_
 refine wp_exit ?_
 refine then_x ?_
 refine then_x ?_
 refine in_hit ?_
 refine then_n ?_
 refine wp_seq ?_
 refine wp_seq ?_
 refine wp_region_lit ?_
 refine list_val F (wn rfl) rfl rfl (.int .i64 0) (ex_assign _ rfl _ rfl) ?_; clear F a; intro a F
 refine wpList_nil ?_
 replace F : Fr 220 a [(0, .pointer (some (⟨gb, 0, none⟩ : Addr))), (2, .bool false), (3, .int .i64 0), (7, .int .i64 0), (11, .int .i64 0), (15, .int .i64 0), (25, .bool false), (75, .bool false), (126, .bool false)] := F.keep ⟨rfl, rfl, rfl, rfl, rfl, rfl, rfl, rfl, rfl, trivial⟩
 refine then_n ?_
 refine wp_block ?_
 refine wp_loop_rounds 1 ?_
 refine rounds_do 0 ?_
 refine wp_seq ?_
 refine wp_seq ?_
 refine wp_region_lit ?_
 refine list_val F (wn rfl) rfl rfl (.int .i64 0) (ex_move _ rfl _ (F.e rfl)) ?_; clear F a; intro a F
 refine list_val F (wn rfl) rfl rfl (.pointer (some (⟨gb, 0, none⟩ : Addr))) (ex_move _ rfl _ (F.e rfl)) ?_; clear F a; intro a F
 refine list_val F (wn rfl) rfl rfl (.pointer (some (⟨gb, 0, none⟩ : Addr))) (ex_nilck _ rfl _ (F.e rfl)) ?_; clear F a; intro a F
 refine list_val F (wn rfl) rfl rfl (.pointer (some ((⟨gb, 0, none⟩ : Addr).add 63))) (ex_fa _ _ _ rfl _ (F.e rfl) 63 rg_fa_50_63_63 ((⟨gb, 0, none⟩ : Addr).add 63) rfl) ?_; clear F a; intro a F
 refine list_val F (wn rfl) rfl rfl (.slice none 0 0) (ex_load _ _ rfl _ (F.e rfl) _ (lv1 rg_one_46 ((zb.below M.bel).cell 63 _ rfl))) ?_; clear F a; intro a F
 refine list_val F (wn rfl) rfl rfl (.int .i64 0) (ex_len _ _ rfl 1 rg_sl_46_1 _ _ _ (F.e rfl)) ?_; clear F a; intro a F
 refine list_val F (wn rfl) rfl rfl (.bool false) (ex_bin .lss _ _ _ _ rfl .i64 _ _ (F.e rfl) (F.e rfl) _ (b_lss (by decide))) ?_; clear F a; intro a F
 refine wpList_nil ?_
 replace F : Fr 220 a [(0, .pointer (some (⟨gb, 0, none⟩ : Addr))), (2, .bool false), (3, .int .i64 0), (7, .int .i64 0), (11, .int .i64 0), (15, .int .i64 0), (25, .bool false), (75, .bool false), (126, .bool false), (176, .bool false)] := F.keep ⟨rfl, rfl, rfl, rfl, rfl, rfl, rfl, rfl, rfl, rfl, trivial⟩
 refine then_n ?_
 refine wp_cond_false (F.e rfl) ?_
 refine wp_exit ?_
 refine then_x ?_
 refine then_x ?_
 refine in_hit ?_
 refine then_n ?_
 refine wp_seq ?_
 refine wp_region_lit ?_
 refine list_val F (wn rfl) rfl rfl (.bool true) (ex_assign _ rfl _ rfl) ?_; clear F a; intro a F
 refine wpList_nil ?_
 replace F : Fr 220 a [(0, .pointer (some (⟨gb, 0, none⟩ : Addr))), (2, .bool true), (3, .int .i64 0), (7, .int .i64 0), (11, .int .i64 0), (15, .int .i64 0), (25, .bool false), (75, .bool false), (126, .bool false), (176, .bool false)] := F.keep ⟨rfl, rfl, rfl, rfl, rfl, rfl, rfl, rfl, rfl, rfl, trivial⟩
 refine then_n ?_
 refine wp_ret ?_
 exact ret_tmp F rfl rfl ⟨rfl, M.bel⟩
set_option maxHeartbeats 1000000 in
set_option maxRecDepth 100000 in
theorem seen_any (own : Nat → Nat) (base gb : Nat) (KA : Option Addr) (Kc : Nat) (rows : List Sl) (IA : Option Addr) (Ic : Nat) (ms : List Nat) (kA tn dn us : Nat) (w : World) (hB : Bk own base gb KA Kc rows IA Ic ms kA tn dn us w) :
    Calls Tryz.prog 50 #[.pointer (some ⟨gb, 0, none⟩)] w fun e w' => e = .returned (.bool true) ∧ Below w.heap.size w w' := by
 have zb : At w ⟨gb, 0, none⟩ (bkC (.slice KA rows.length Kc) (.slice IA ms.length Ic) kA tn dn us) := at_block hB.blk
 have hrl := hB.bd.r
 refine calls_start Tryz.func50 rfl rfl rfl (fun a F => ?_)
 have M : Mm w w [] := Mm.nil w
 refine wp_seq ?_
 refine wp_region_lit ?_
 refine list_val F (wn rfl) rfl rfl (.bool false) (ex_assign _ rfl _ rfl) ?_; clear F a; intro a F
 refine wpList_nil ?_
 replace F : Fr 116 a [(0, .pointer (some (⟨gb, 0, none⟩ : Addr))), (2, .bool false)] := F.keep ⟨rfl, rfl, trivial⟩
 refine then_n ?_
 refine wp_seq ?_
 refine wp_seq ?_
 refine wp_region_lit ?_
 refine list_val F (wn rfl) rfl rfl (.int .i64 0) (ex_assign _ rfl _ rfl) ?_; clear F a; intro a F
 refine wpList_nil ?_
 replace F : Fr 116 a [(0, .pointer (some (⟨gb, 0, none⟩ : Addr))), (2, .bool false), (3, .int .i64 0)] := F.keep ⟨rfl, rfl, rfl, trivial⟩
 refine then_n ?_
 refine wp_block ?_
 refine wp_loop_rounds 1 ?_
 refine rounds_do 0 ?_
 refine wp_seq ?_
 refine wp_seq ?_
 refine wp_region_lit ?_
 refine list_val F (wn rfl) rfl rfl (.int .i64 0) (ex_move _ rfl _ (F.e rfl)) ?_; clear F a; intro a F
 refine list_val F (wn rfl) rfl rfl (.pointer (some (⟨gb, 0, none⟩ : Addr))) (ex_move _ rfl _ (F.e rfl)) ?_; clear F a; intro a F
 refine list_val F (wn rfl) rfl rfl (.pointer (some (⟨gb, 0, none⟩ : Addr))) (ex_nilck _ rfl _ (F.e rfl)) ?_; clear F a; intro a F
 refine list_val F (wn rfl) rfl rfl (.pointer (some ((⟨gb, 0, none⟩ : Addr).add 66))) (ex_fa _ _ _ rfl _ (F.e rfl) 66 rg_fa_50_66_66 ((⟨gb, 0, none⟩ : Addr).add 66) rfl) ?_; clear F a; intro a F
 refine list_val F (wn rfl) rfl rfl (.slice none 0 0) (ex_load _ _ rfl _ (F.e rfl) _ (lv1 rg_one_47 ((zb.below M.bel).cell 66 _ rfl))) ?_; clear F a; intro a F
 refine list_val F (wn rfl) rfl rfl (.int .i64 0) (ex_len _ _ rfl 1 rg_sl_47_1 _ _ _ (F.e rfl)) ?_; clear F a; intro a F
 refine list_val F (wn rfl) rfl rfl (.bool false) (ex_bin .lss _ _ _ _ rfl .i64 _ _ (F.e rfl) (F.e rfl) _ (b_lss (by decide))) ?_; clear F a; intro a F
 refine wpList_nil ?_
 replace F : Fr 116 a [(0, .pointer (some (⟨gb, 0, none⟩ : Addr))), (2, .bool false), (3, .int .i64 0), (17, .bool false)] := F.keep ⟨rfl, rfl, rfl, rfl, trivial⟩
 refine then_n ?_
 refine wp_cond_false (F.e rfl) ?_
 refine wp_exit ?_
 refine then_x ?_
 refine then_x ?_
 refine in_hit ?_
 refine then_n ?_
 refine wp_seq ?_
 refine wp_seq ?_
 refine wp_region_lit ?_
 refine list_val F (wn rfl) rfl rfl (.int .i64 0) (ex_assign _ rfl _ rfl) ?_; clear F a; intro a F
 refine wpList_nil ?_
 replace F : Fr 116 a [(0, .pointer (some (⟨gb, 0, none⟩ : Addr))), (2, .bool false), (3, .int .i64 0), (7, .int .i64 0), (17, .bool false)] := F.keep ⟨rfl, rfl, rfl, rfl, rfl, trivial⟩
 refine then_n ?_
 refine wp_block ?_
 refine wp_loop_rounds 1 ?_
 refine rounds_do 0 ?_
 refine wp_seq ?_
 refine wp_seq ?_
 refine wp_region_lit ?_
 refine list_val F (wn rfl) rfl rfl (.int .i64 0) (ex_move _ rfl _ (F.e rfl)) ?_; clear F a; intro a F
 refine list_val F (wn rfl) rfl rfl (.pointer (some (⟨gb, 0, none⟩ : Addr))) (ex_move _ rfl _ (F.e rfl)) ?_; clear F a; intro a F
 refine list_val F (wn rfl) rfl rfl (.pointer (some (⟨gb, 0, none⟩ : Addr))) (ex_nilck _ rfl _ (F.e rfl)) ?_; clear F a; intro a F
 refine list_val F (wn rfl) rfl rfl (.pointer (some ((⟨gb, 0, none⟩ : Addr).add 69))) (ex_fa _ _ _ rfl _ (F.e rfl) 69 rg_fa_50_69_69 ((⟨gb, 0, none⟩ : Addr).add 69) rfl) ?_; clear F a; intro a F
 refine list_val F (wn rfl) rfl rfl (.slice none 0 0) (ex_load _ _ rfl _ (F.e rfl) _ (lv1 rg_one_48 ((zb.below M.bel).cell 69 _ rfl))) ?_; clear F a; intro a F
 refine list_val F (wn rfl) rfl rfl (.int .i64 0) (ex_len _ _ rfl 1 rg_sl_48_1 _ _ _ (F.e rfl)) ?_; clear F a; intro a F
 refine list_val F (wn rfl) rfl rfl (.bool false) (ex_bin .lss _ _ _ _ rfl .i64 _ _ (F.e rfl) (F.e rfl) _ (b_lss (by decide))) ?_; clear F a; intro a F
 refine wpList_nil ?_
 replace F : Fr 116 a [(0, .pointer (some (⟨gb, 0, none⟩ : Addr))), (2, .bool false), (3, .int .i64 0), (7, .int .i64 0), (17, .bool false), (70, .bool false)] := F.keep ⟨rfl, rfl, rfl, rfl, rfl, rfl, trivial⟩
 refine then_n ?_
 refine wp_cond_false (F.e rfl) ?_
 refine wp_exit ?_
 refine then_x ?_
 refine then_x ?_
 refine in_hit ?_
 refine then_n ?_
 refine wp_seq ?_
 refine wp_region_lit ?_
 refine list_val F (wn rfl) rfl rfl (.bool true) (ex_assign _ rfl _ rfl) ?_; clear F a; intro a F
 refine wpList_nil ?_
 replace F : Fr 116 a [(0, .pointer (some (⟨gb, 0, none⟩ : Addr))), (2, .bool true), (3, .int .i64 0), (7, .int .i64 0), (17, .bool false), (70, .bool false)] := F.keep ⟨rfl, rfl, rfl, rfl, rfl, rfl, trivial⟩
 refine then_n ?_
 refine wp_ret ?_
 exact ret_tmp F rfl rfl ⟨rfl, M.bel⟩
theorem rg_ent_44 : ent? Tryz.prog 44 = true := by kernel_rfl
theorem rg_ent_45 : ent? Tryz.prog 45 = true := by kernel_rfl
theorem rg_ent_46 : ent? Tryz.prog 46 = true := by kernel_rfl
theorem rg_ent_47 : ent? Tryz.prog 47 = true := by kernel_rfl
theorem rg_ent_48 : ent? Tryz.prog 48 = true := by kernel_rfl
theorem rg_ent_49 : ent? Tryz.prog 49 = true := by kernel_rfl
theorem rg_ent_50 : ent? Tryz.prog 50 = true := by kernel_rfl
set_option maxHeartbeats 1000000 in
set_option maxRecDepth 100000 in
theorem holds_any (own : Nat → Nat) (base gb : Nat) (KA : Option Addr) (Kc : Nat) (rows : List Sl) (IA : Option Addr) (Ic : Nat) (ms : List Nat) (kA tn dn us : Nat) (w : World) (hB : Bk own base gb KA Kc rows IA Ic ms kA tn dn us w) (htn : tn ≤ 10000000) :
    Calls Tryz.prog 29 #[.pointer (some ⟨gb, 0, none⟩)] w fun e w' => e = .returned (.bool true) ∧ Below w.heap.size w w' := by
 refine calls_start Tryz.func29 rfl rfl rfl (fun a F => ?_)
 have M : Mm w w [] := Mm.nil w
 refine wp_seq ?_
 refine wp_region_lit ?_
 refine list_val F (wn rfl) rfl rfl (.bool false) (ex_assign _ rfl _ rfl) ?_; clear F a; intro a F
 refine wpList_nil ?_
 replace F : Fr 29 a [(0, .pointer (some (⟨gb, 0, none⟩ : Addr))), (2, .bool false)] := F.keep ⟨rfl, rfl, trivial⟩
 refine then_n ?_
 refine wp_seq ?_
 refine wp_region_lit ?_
 refine list_val F (wn rfl) rfl rfl (.pointer (some (⟨gb, 0, none⟩ : Addr))) (ex_move _ rfl _ (F.e rfl)) ?_; clear F a; intro a F
 refine list_do (wn rfl) (fun K hK => ?_)
 refine ow_call rfl rfl F 44 #[.pointer (some (⟨gb, 0, none⟩ : Addr))] (ex_call 44 _ _ rfl rfl rg_ent_44 _ (map1 (F.e rfl))) (plain_any _ _ _ _ _ _ _ _ _ _ _ _ _ _ (hB.below M.bel)) (fun e v hR => ?_)
 obtain ⟨he, hb⟩ := hR
 refine ⟨.bool true, he, ?_⟩; clear he F a; intro a F
 refine hK _ _ ?_
 clear hK K
 replace M := M.below hb; clear hb; try clear w
 refine list_val F (wn rfl) rfl rfl (.bool true) (ex_move _ rfl _ (F.e rfl)) ?_; clear F a; intro a F
 refine list_val F (F.wants 5 true rfl (by kernel_rfl) rfl true rfl) rfl rfl (.pointer (some (⟨gb, 0, none⟩ : Addr))) (ex_move _ rfl _ (F.e rfl)) ?_; clear F a; intro a F
 refine list_do (F.wants 5 true rfl (by kernel_rfl) rfl true rfl) (fun K hK => ?_)
 refine ow_call rfl rfl F 45 #[.pointer (some (⟨gb, 0, none⟩ : Addr))] (ex_call 45 _ _ rfl rfl rg_ent_45 _ (map1 (F.e rfl))) (kept_any _ _ _ _ _ _ _ _ _ _ _ _ _ _ (hB.below M.bel)) (fun e u hR => ?_)
 obtain ⟨he, hb⟩ := hR
 refine ⟨.bool true, he, ?_⟩; clear he F a; intro a F
 refine hK _ _ ?_
 clear hK K
 replace M := M.below hb; clear hb; try clear v
 refine list_val F (wn rfl) rfl rfl (.bool true) (ex_pick_t _ _ _ rfl (F.e rfl) _ (F.e rfl)) ?_; clear F a; intro a F
 refine list_val F (wn rfl) rfl rfl (.bool true) (ex_move _ rfl _ (F.e rfl)) ?_; clear F a; intro a F
 refine list_val F (F.wants 9 true rfl (by kernel_rfl) rfl true rfl) rfl rfl (.pointer (some (⟨gb, 0, none⟩ : Addr))) (ex_move _ rfl _ (F.e rfl)) ?_; clear F a; intro a F
 refine list_do (F.wants 9 true rfl (by kernel_rfl) rfl true rfl) (fun K hK => ?_)
 refine ow_call rfl rfl F 46 #[.pointer (some (⟨gb, 0, none⟩ : Addr))] (ex_call 46 _ _ rfl rfl rg_ent_46 _ (map1 (F.e rfl))) (told_any _ _ _ _ _ _ _ _ _ _ _ _ _ _ (hB.below M.bel)) (fun e v hR => ?_)
 obtain ⟨he, hb⟩ := hR
 refine ⟨.bool true, he, ?_⟩; clear he F a; intro a F
 refine hK _ _ ?_
 clear hK K
 replace M := M.below hb; clear hb; try clear u
 refine list_val F (wn rfl) rfl rfl (.bool true) (ex_pick_t _ _ _ rfl (F.e rfl) _ (F.e rfl)) ?_; clear F a; intro a F
 refine list_val F (wn rfl) rfl rfl (.bool true) (ex_move _ rfl _ (F.e rfl)) ?_; clear F a; intro a F
 refine list_val F (F.wants 13 true rfl (by kernel_rfl) rfl true rfl) rfl rfl (.pointer (some (⟨gb, 0, none⟩ : Addr))) (ex_move _ rfl _ (F.e rfl)) ?_; clear F a; intro a F
 refine list_do (F.wants 13 true rfl (by kernel_rfl) rfl true rfl) (fun K hK => ?_)
 refine ow_call rfl rfl F 47 #[.pointer (some (⟨gb, 0, none⟩ : Addr))] (ex_call 47 _ _ rfl rfl rg_ent_47 _ (map1 (F.e rfl))) (held_any _ _ _ _ _ _ _ _ _ _ _ _ _ _ (hB.below M.bel) htn) (fun e u hR => ?_)
 obtain ⟨he, hb⟩ := hR
 refine ⟨.bool true, he, ?_⟩; clear he F a; intro a F
 refine hK _ _ ?_
 clear hK K
 replace M := M.below hb; clear hb; try clear v
 refine list_val F (wn rfl) rfl rfl (.bool true) (ex_pick_t _ _ _ rfl (F.e rfl) _ (F.e rfl)) ?_; clear F a; intro a F
 refine list_val F (wn rfl) rfl rfl (.bool true) (ex_move _ rfl _ (F.e rfl)) ?_; clear F a; intro a F
 refine list_val F (F.wants 17 true rfl (by kernel_rfl) rfl true rfl) rfl rfl (.pointer (some (⟨gb, 0, none⟩ : Addr))) (ex_move _ rfl _ (F.e rfl)) ?_; clear F a; intro a F
 refine list_do (F.wants 17 true rfl (by kernel_rfl) rfl true rfl) (fun K hK => ?_)
 refine ow_call rfl rfl F 48 #[.pointer (some (⟨gb, 0, none⟩ : Addr))] (ex_call 48 _ _ rfl rfl rg_ent_48 _ (map1 (F.e rfl))) (sent_any _ _ _ _ _ _ _ _ _ _ _ _ _ _ (hB.below M.bel)) (fun e v hR => ?_)
 obtain ⟨he, hb⟩ := hR
 refine ⟨.bool true, he, ?_⟩; clear he F a; intro a F
 refine hK _ _ ?_
 clear hK K
 replace M := M.below hb; clear hb; try clear u
 refine list_val F (wn rfl) rfl rfl (.bool true) (ex_pick_t _ _ _ rfl (F.e rfl) _ (F.e rfl)) ?_; clear F a; intro a F
 refine list_val F (wn rfl) rfl rfl (.bool true) (ex_move _ rfl _ (F.e rfl)) ?_; clear F a; intro a F
 refine list_val F (F.wants 21 true rfl (by kernel_rfl) rfl true rfl) rfl rfl (.pointer (some (⟨gb, 0, none⟩ : Addr))) (ex_move _ rfl _ (F.e rfl)) ?_; clear F a; intro a F
 refine list_do (F.wants 21 true rfl (by kernel_rfl) rfl true rfl) (fun K hK => ?_)
 refine ow_call rfl rfl F 49 #[.pointer (some (⟨gb, 0, none⟩ : Addr))] (ex_call 49 _ _ rfl rfl rg_ent_49 _ (map1 (F.e rfl))) (given_any _ _ _ _ _ _ _ _ _ _ _ _ _ _ (hB.below M.bel)) (fun e u hR => ?_)
 obtain ⟨he, hb⟩ := hR
 refine ⟨.bool true, he, ?_⟩; clear he F a; intro a F
 refine hK _ _ ?_
 clear hK K
 replace M := M.below hb; clear hb; try clear v
 refine list_val F (wn rfl) rfl rfl (.bool true) (ex_pick_t _ _ _ rfl (F.e rfl) _ (F.e rfl)) ?_; clear F a; intro a F
 refine list_val F (wn rfl) rfl rfl (.bool true) (ex_move _ rfl _ (F.e rfl)) ?_; clear F a; intro a F
 refine list_val F (F.wants 25 true rfl (by kernel_rfl) rfl true rfl) rfl rfl (.pointer (some (⟨gb, 0, none⟩ : Addr))) (ex_move _ rfl _ (F.e rfl)) ?_; clear F a; intro a F
 refine list_do (F.wants 25 true rfl (by kernel_rfl) rfl true rfl) (fun K hK => ?_)
 refine ow_call rfl rfl F 50 #[.pointer (some (⟨gb, 0, none⟩ : Addr))] (ex_call 50 _ _ rfl rfl rg_ent_50 _ (map1 (F.e rfl))) (seen_any _ _ _ _ _ _ _ _ _ _ _ _ _ _ (hB.below M.bel)) (fun e v hR => ?_)
 obtain ⟨he, hb⟩ := hR
 refine ⟨.bool true, he, ?_⟩; clear he F a; intro a F
 refine hK _ _ ?_
 clear hK K
 replace M := M.below hb; clear hb; try clear u
 refine list_val F (wn rfl) rfl rfl (.bool true) (ex_pick_t _ _ _ rfl (F.e rfl) _ (F.e rfl)) ?_; clear F a; intro a F
 refine list_val F (wn rfl) rfl rfl (.bool true) (ex_assign _ rfl _ (F.e rfl)) ?_; clear F a; intro a F
 refine wpList_nil ?_
 replace F : Fr 29 a [(0, .pointer (some (⟨gb, 0, none⟩ : Addr))), (2, .bool true)] := F.keep ⟨rfl, rfl, trivial⟩
 refine then_n ?_
 refine wp_ret ?_
 exact ret_tmp F rfl rfl ⟨rfl, M.bel⟩
theorem rg_ent_51 : ent? Tryz.prog 51 = true := by kernel_rfl
theorem rg_ent_52 : ent? Tryz.prog 52 = true := by kernel_rfl
theorem rg_ent_53 : ent? Tryz.prog 53 = true := by kernel_rfl
theorem rg_ent_54 : ent? Tryz.prog 54 = true := by kernel_rfl
theorem rg_ent_55 : ent? Tryz.prog 55 = true := by kernel_rfl
theorem rg_ent_56 : ent? Tryz.prog 56 = true := by kernel_rfl
theorem rg_ent_57 : ent? Tryz.prog 57 = true := by kernel_rfl
theorem rg_ent_58 : ent? Tryz.prog 58 = true := by kernel_rfl
theorem rg_ent_59 : ent? Tryz.prog 59 = true := by kernel_rfl
theorem rg_ent_60 : ent? Tryz.prog 60 = true := by kernel_rfl
theorem rg_ent_61 : ent? Tryz.prog 61 = true := by kernel_rfl
theorem rg_ent_62 : ent? Tryz.prog 62 = true := by kernel_rfl
theorem rg_ent_63 : ent? Tryz.prog 63 = true := by kernel_rfl
theorem rg_ent_64 : ent? Tryz.prog 64 = true := by kernel_rfl
theorem rg_ent_65 : ent? Tryz.prog 65 = true := by kernel_rfl
theorem rg_ent_66 : ent? Tryz.prog 66 = true := by kernel_rfl
theorem rg_ent_67 : ent? Tryz.prog 67 = true := by kernel_rfl
theorem rg_ent_68 : ent? Tryz.prog 68 = true := by kernel_rfl
theorem rg_ent_69 : ent? Tryz.prog 69 = true := by kernel_rfl
theorem rg_ent_70 : ent? Tryz.prog 70 = true := by kernel_rfl
theorem rg_ent_71 : ent? Tryz.prog 71 = true := by kernel_rfl
theorem rg_ent_72 : ent? Tryz.prog 72 = true := by kernel_rfl
theorem rg_ent_73 : ent? Tryz.prog 73 = true := by kernel_rfl
theorem rg_ent_74 : ent? Tryz.prog 74 = true := by kernel_rfl
theorem rg_fa_50_73_73 : fa? Tryz.prog 50 73 73 = true := by kernel_rfl
set_option maxHeartbeats 1000000 in
set_option maxRecDepth 100000 in
theorem grow_any (own : Nat → Nat) (base gb : Nat) (KA : Option Addr) (Kc : Nat) (rows : List Sl) (IA : Option Addr) (Ic : Nat) (ms : List Nat) (kA tn dn us : Nat) (w : World) (hB : Bk own base gb KA Kc rows IA Ic ms kA tn dn us w) (htn : tn ≤ 10000000) :
    Calls Tryz.prog 30 #[.pointer (some ⟨gb, 0, none⟩)] w fun e w' => e = .returned (.tuple #[]) ∧ (∃ KA' Kc' rows' IA' Ic' ms' us' own', Bk own' base gb KA' Kc' rows' IA' Ic' ms' rows'.length tn tn us' w' ∧ Below base w w') := by
 have hgb := hB.lo
 have hbw : base ≤ w.heap.size := Nat.le_of_lt (Nat.lt_of_le_of_lt hB.lo (Array.getElem?_eq_some_iff.1 hB.blk).1)
 have B_ := hB
 have S_ := Nat.le_refl w.heap.size
 refine calls_start Tryz.func30 rfl rfl rfl (fun a F => ?_)
 have M : Mm (cutW w base) w [] := cut_nil hbw
 refine wp_seq ?_
 refine wp_region_lit ?_
 refine list_val F (wn rfl) rfl rfl (.pointer (some ⟨gb, 0, none⟩)) (ex_move _ rfl _ (F.e rfl)) ?_; clear F a; intro a F
 refine list_do (wn rfl) (fun K hK => ?_)
 refine ow_call rfl rfl F 51 #[.pointer (some ⟨gb, 0, none⟩)] (ex_call 51 _ _ rfl rfl rg_ent_51 _ (map1 (F.e rfl))) (growBytes_any gb _ _ _ _ _ _ _ B_.blk) (fun e v hR => ?_)
 obtain ⟨he, hb⟩ := hR
 refine ⟨.tuple #[], he, ?_⟩; clear he F a; intro a F
 refine hK _ _ ?_
 clear hK K
 replace B_ := B_.below hb
 replace S_ := Nat.le_trans S_ hb.size
 replace M := M.below hb; clear hb; try clear w
 refine wpList_nil ?_
 replace F : Fr 57 a [(0, .pointer (some ⟨gb, 0, none⟩))] := F.keep ⟨rfl, trivial⟩
 refine then_n ?_
 refine wp_seq ?_
 refine wp_region_lit ?_
 refine list_val F (wn rfl) rfl rfl (.pointer (some ⟨gb, 0, none⟩)) (ex_move _ rfl _ (F.e rfl)) ?_; clear F a; intro a F
 refine list_do (wn rfl) (fun K hK => ?_)
 refine ow_call rfl rfl F 52 #[.pointer (some ⟨gb, 0, none⟩)] (ex_call 52 _ _ rfl rfl rg_ent_52 _ (map1 (F.e rfl))) (growRows_any gb _ _ _ _ _ _ _ B_.blk) (fun e u hR => ?_)
 obtain ⟨he, hb⟩ := hR
 refine ⟨.tuple #[], he, ?_⟩; clear he F a; intro a F
 refine hK _ _ ?_
 clear hK K
 replace B_ := B_.below hb
 replace S_ := Nat.le_trans S_ hb.size
 replace M := M.below hb; clear hb; try clear v
 refine wpList_nil ?_
 replace F : Fr 57 a [(0, .pointer (some ⟨gb, 0, none⟩))] := F.keep ⟨rfl, trivial⟩
 refine then_n ?_
 refine wp_seq ?_
 refine wp_region_lit ?_
 refine list_val F (wn rfl) rfl rfl (.pointer (some ⟨gb, 0, none⟩)) (ex_move _ rfl _ (F.e rfl)) ?_; clear F a; intro a F
 refine list_do (wn rfl) (fun K hK => ?_)
 refine ow_call rfl rfl F 53 #[.pointer (some ⟨gb, 0, none⟩)] (ex_call 53 _ _ rfl rfl rg_ent_53 _ (map1 (F.e rfl))) (growTexts_any gb _ _ _ _ _ _ _ B_.blk) (fun e v hR => ?_)
 obtain ⟨he, hb⟩ := hR
 refine ⟨.tuple #[], he, ?_⟩; clear he F a; intro a F
 refine hK _ _ ?_
 clear hK K
 replace B_ := B_.below hb
 replace S_ := Nat.le_trans S_ hb.size
 replace M := M.below hb; clear hb; try clear u
 refine wpList_nil ?_
 replace F : Fr 57 a [(0, .pointer (some ⟨gb, 0, none⟩))] := F.keep ⟨rfl, trivial⟩
 refine then_n ?_
 refine wp_seq ?_
 refine wp_region_lit ?_
 refine list_val F (wn rfl) rfl rfl (.pointer (some ⟨gb, 0, none⟩)) (ex_move _ rfl _ (F.e rfl)) ?_; clear F a; intro a F
 refine list_do (wn rfl) (fun K hK => ?_)
 refine ow_call rfl rfl F 54 #[.pointer (some ⟨gb, 0, none⟩)] (ex_call 54 _ _ rfl rfl rg_ent_54 _ (map1 (F.e rfl))) (growInts_any gb _ _ _ _ _ _ _ B_.blk) (fun e u hR => ?_)
 obtain ⟨he, hb⟩ := hR
 refine ⟨.tuple #[], he, ?_⟩; clear he F a; intro a F
 refine hK _ _ ?_
 clear hK K
 replace B_ := B_.below hb
 replace S_ := Nat.le_trans S_ hb.size
 replace M := M.below hb; clear hb; try clear v
 refine wpList_nil ?_
 replace F : Fr 57 a [(0, .pointer (some ⟨gb, 0, none⟩))] := F.keep ⟨rfl, trivial⟩
 refine then_n ?_
 refine wp_seq ?_
 refine wp_region_lit ?_
 refine list_val F (wn rfl) rfl rfl (.pointer (some ⟨gb, 0, none⟩)) (ex_move _ rfl _ (F.e rfl)) ?_; clear F a; intro a F
 refine list_do (wn rfl) (fun K hK => ?_)
 refine ow_call rfl rfl F 55 #[.pointer (some ⟨gb, 0, none⟩)] (ex_call 55 _ _ rfl rfl rg_ent_55 _ (map1 (F.e rfl))) (growWords_any gb _ _ _ _ _ _ _ B_.blk) (fun e v hR => ?_)
 obtain ⟨he, hb⟩ := hR
 refine ⟨.tuple #[], he, ?_⟩; clear he F a; intro a F
 refine hK _ _ ?_
 clear hK K
 replace B_ := B_.below hb
 replace S_ := Nat.le_trans S_ hb.size
 replace M := M.below hb; clear hb; try clear u
 refine wpList_nil ?_
 replace F : Fr 57 a [(0, .pointer (some ⟨gb, 0, none⟩))] := F.keep ⟨rfl, trivial⟩
 refine then_n ?_
 refine wp_seq ?_
 refine wp_region_lit ?_
 refine list_val F (wn rfl) rfl rfl (.pointer (some ⟨gb, 0, none⟩)) (ex_move _ rfl _ (F.e rfl)) ?_; clear F a; intro a F
 refine list_do (wn rfl) (fun K hK => ?_)
 refine ow_call rfl rfl F 56 #[.pointer (some ⟨gb, 0, none⟩)] (ex_call 56 _ _ rfl rfl rg_ent_56 _ (map1 (F.e rfl))) (growIds_any gb _ _ _ _ _ _ _ B_.blk) (fun e u hR => ?_)
 obtain ⟨he, hb⟩ := hR
 refine ⟨.tuple #[], he, ?_⟩; clear he F a; intro a F
 refine hK _ _ ?_
 clear hK K
 replace B_ := B_.below hb
 replace S_ := Nat.le_trans S_ hb.size
 replace M := M.below hb; clear hb; try clear v
 refine wpList_nil ?_
 replace F : Fr 57 a [(0, .pointer (some ⟨gb, 0, none⟩))] := F.keep ⟨rfl, trivial⟩
 refine then_n ?_
 refine wp_seq ?_
 refine wp_region_lit ?_
 refine list_val F (wn rfl) rfl rfl (.pointer (some ⟨gb, 0, none⟩)) (ex_move _ rfl _ (F.e rfl)) ?_; clear F a; intro a F
 refine list_do (wn rfl) (fun K hK => ?_)
 refine ow_call rfl rfl F 57 #[.pointer (some ⟨gb, 0, none⟩)] (ex_call 57 _ _ rfl rfl rg_ent_57 _ (map1 (F.e rfl))) (growKeys_any gb _ _ _ _ _ _ _ B_.blk) (fun e v hR => ?_)
 obtain ⟨he, hb⟩ := hR
 refine ⟨.tuple #[], he, ?_⟩; clear he F a; intro a F
 refine hK _ _ ?_
 clear hK K
 replace B_ := B_.below hb
 replace S_ := Nat.le_trans S_ hb.size
 replace M := M.below hb; clear hb; try clear u
 refine wpList_nil ?_
 replace F : Fr 57 a [(0, .pointer (some ⟨gb, 0, none⟩))] := F.keep ⟨rfl, trivial⟩
 refine then_n ?_
 refine wp_seq ?_
 refine wp_region_lit ?_
 refine list_val F (wn rfl) rfl rfl (.pointer (some ⟨gb, 0, none⟩)) (ex_move _ rfl _ (F.e rfl)) ?_; clear F a; intro a F
 refine list_do (wn rfl) (fun K hK => ?_)
 refine ow_call rfl rfl F 58 #[.pointer (some ⟨gb, 0, none⟩)] (ex_call 58 _ _ rfl rfl rg_ent_58 _ (map1 (F.e rfl))) (growUsers_any gb _ _ _ _ _ _ _ B_.blk) (fun e u hR => ?_)
 obtain ⟨he, hb⟩ := hR
 refine ⟨.tuple #[], he, ?_⟩; clear he F a; intro a F
 refine hK _ _ ?_
 clear hK K
 replace B_ := B_.below hb
 replace S_ := Nat.le_trans S_ hb.size
 replace M := M.below hb; clear hb; try clear v
 refine wpList_nil ?_
 replace F : Fr 57 a [(0, .pointer (some ⟨gb, 0, none⟩))] := F.keep ⟨rfl, trivial⟩
 refine then_n ?_
 refine wp_seq ?_
 refine wp_region_lit ?_
 refine list_val F (wn rfl) rfl rfl (.pointer (some ⟨gb, 0, none⟩)) (ex_move _ rfl _ (F.e rfl)) ?_; clear F a; intro a F
 refine list_do (wn rfl) (fun K hK => ?_)
 refine ow_call rfl rfl F 59 #[.pointer (some ⟨gb, 0, none⟩)] (ex_call 59 _ _ rfl rfl rg_ent_59 _ (map1 (F.e rfl))) (growSessions_any gb _ _ _ _ _ _ _ B_.blk) (fun e v hR => ?_)
 obtain ⟨he, hb⟩ := hR
 refine ⟨.tuple #[], he, ?_⟩; clear he F a; intro a F
 refine hK _ _ ?_
 clear hK K
 replace B_ := B_.below hb
 replace S_ := Nat.le_trans S_ hb.size
 replace M := M.below hb; clear hb; try clear u
 refine wpList_nil ?_
 replace F : Fr 57 a [(0, .pointer (some ⟨gb, 0, none⟩))] := F.keep ⟨rfl, trivial⟩
 refine then_n ?_
 refine wp_seq ?_
 refine wp_region_lit ?_
 refine list_val F (wn rfl) rfl rfl (.pointer (some ⟨gb, 0, none⟩)) (ex_move _ rfl _ (F.e rfl)) ?_; clear F a; intro a F
 refine list_do (wn rfl) (fun K hK => ?_)
 refine ow_call rfl rfl F 60 #[.pointer (some ⟨gb, 0, none⟩)] (ex_call 60 _ _ rfl rfl rg_ent_60 _ (map1 (F.e rfl))) (growRefreshes_any gb _ _ _ _ _ _ _ B_.blk) (fun e u hR => ?_)
 obtain ⟨he, hb⟩ := hR
 refine ⟨.tuple #[], he, ?_⟩; clear he F a; intro a F
 refine hK _ _ ?_
 clear hK K
 replace B_ := B_.below hb
 replace S_ := Nat.le_trans S_ hb.size
 replace M := M.below hb; clear hb; try clear v
 refine wpList_nil ?_
 replace F : Fr 57 a [(0, .pointer (some ⟨gb, 0, none⟩))] := F.keep ⟨rfl, trivial⟩
 refine then_n ?_
 refine wp_seq ?_
 refine wp_region_lit ?_
 refine list_val F (wn rfl) rfl rfl (.pointer (some ⟨gb, 0, none⟩)) (ex_move _ rfl _ (F.e rfl)) ?_; clear F a; intro a F
 refine list_do (wn rfl) (fun K hK => ?_)
 refine ow_call rfl rfl F 61 #[.pointer (some ⟨gb, 0, none⟩)] (ex_call 61 _ _ rfl rfl rg_ent_61 _ (map1 (F.e rfl))) (grow_row _ _ _ _ _ _ _ _ _ _ _ _ _ _ B_ htn) (fun e v hR => ?_)
 obtain ⟨he, K2, kc2, r2, I2, ic2, m2, us2, o2, B2, hb2⟩ := hR
 refine ⟨.tuple #[], he, ?_⟩; clear he F a; intro a F
 refine hK _ _ ?_
 clear hK K
 clear B_; have B_ := B2; clear B2; replace S_ := Nat.le_trans S_ hb2.size; replace M := mm_end M (by rw [cut_size hbw]; exact hb2); clear hb2; try clear u
 refine wpList_nil ?_
 replace F : Fr 57 a [(0, .pointer (some ⟨gb, 0, none⟩))] := F.keep ⟨rfl, trivial⟩
 refine then_n ?_
 refine wp_seq ?_
 refine wp_region_lit ?_
 refine list_val F (wn rfl) rfl rfl (.pointer (some ⟨gb, 0, none⟩)) (ex_move _ rfl _ (F.e rfl)) ?_; clear F a; intro a F
 refine list_do (wn rfl) (fun K hK => ?_)
 refine ow_call rfl rfl F 62 #[.pointer (some ⟨gb, 0, none⟩)] (ex_call 62 _ _ rfl rfl rg_ent_62 _ (map1 (F.e rfl))) (growFields_any gb _ _ _ _ _ _ _ B_.blk) (fun e u hR => ?_)
 obtain ⟨he, hb⟩ := hR
 refine ⟨.tuple #[], he, ?_⟩; clear he F a; intro a F
 refine hK _ _ ?_
 clear hK K
 replace B_ := B_.below hb
 replace S_ := Nat.le_trans S_ hb.size
 replace M := M.below hb; clear hb; try clear v
 refine wpList_nil ?_
 replace F : Fr 57 a [(0, .pointer (some ⟨gb, 0, none⟩))] := F.keep ⟨rfl, trivial⟩
 refine then_n ?_
 refine wp_seq ?_
 refine wp_region_lit ?_
 refine list_val F (wn rfl) rfl rfl (.pointer (some ⟨gb, 0, none⟩)) (ex_move _ rfl _ (F.e rfl)) ?_; clear F a; intro a F
 refine list_do (wn rfl) (fun K hK => ?_)
 refine ow_call rfl rfl F 63 #[.pointer (some ⟨gb, 0, none⟩)] (ex_call 63 _ _ rfl rfl rg_ent_63 _ (map1 (F.e rfl))) (growFiles_any gb _ _ _ _ _ _ _ B_.blk) (fun e v hR => ?_)
 obtain ⟨he, hb⟩ := hR
 refine ⟨.tuple #[], he, ?_⟩; clear he F a; intro a F
 refine hK _ _ ?_
 clear hK K
 replace B_ := B_.below hb
 replace S_ := Nat.le_trans S_ hb.size
 replace M := M.below hb; clear hb; try clear u
 refine wpList_nil ?_
 replace F : Fr 57 a [(0, .pointer (some ⟨gb, 0, none⟩))] := F.keep ⟨rfl, trivial⟩
 refine then_n ?_
 refine wp_seq ?_
 refine wp_region_lit ?_
 refine list_val F (wn rfl) rfl rfl (.pointer (some ⟨gb, 0, none⟩)) (ex_move _ rfl _ (F.e rfl)) ?_; clear F a; intro a F
 refine list_do (wn rfl) (fun K hK => ?_)
 refine ow_call rfl rfl F 64 #[.pointer (some ⟨gb, 0, none⟩)] (ex_call 64 _ _ rfl rfl rg_ent_64 _ (map1 (F.e rfl))) (growPairs_any gb _ _ _ _ _ _ _ B_.blk) (fun e u hR => ?_)
 obtain ⟨he, hb⟩ := hR
 refine ⟨.tuple #[], he, ?_⟩; clear he F a; intro a F
 refine hK _ _ ?_
 clear hK K
 replace B_ := B_.below hb
 replace S_ := Nat.le_trans S_ hb.size
 replace M := M.below hb; clear hb; try clear v
 refine wpList_nil ?_
 replace F : Fr 57 a [(0, .pointer (some ⟨gb, 0, none⟩))] := F.keep ⟨rfl, trivial⟩
 refine then_n ?_
 refine wp_seq ?_
 refine wp_region_lit ?_
 refine list_val F (wn rfl) rfl rfl (.pointer (some ⟨gb, 0, none⟩)) (ex_move _ rfl _ (F.e rfl)) ?_; clear F a; intro a F
 refine list_do (wn rfl) (fun K hK => ?_)
 refine ow_call rfl rfl F 65 #[.pointer (some ⟨gb, 0, none⟩)] (ex_call 65 _ _ rfl rfl rg_ent_65 _ (map1 (F.e rfl))) (growChanges_any gb _ _ _ _ _ _ _ B_.blk) (fun e v hR => ?_)
 obtain ⟨he, hb⟩ := hR
 refine ⟨.tuple #[], he, ?_⟩; clear he F a; intro a F
 refine hK _ _ ?_
 clear hK K
 replace B_ := B_.below hb
 replace S_ := Nat.le_trans S_ hb.size
 replace M := M.below hb; clear hb; try clear u
 refine wpList_nil ?_
 replace F : Fr 57 a [(0, .pointer (some ⟨gb, 0, none⟩))] := F.keep ⟨rfl, trivial⟩
 refine then_n ?_
 refine wp_seq ?_
 refine wp_region_lit ?_
 refine list_val F (wn rfl) rfl rfl (.pointer (some ⟨gb, 0, none⟩)) (ex_move _ rfl _ (F.e rfl)) ?_; clear F a; intro a F
 refine list_do (wn rfl) (fun K hK => ?_)
 refine ow_call rfl rfl F 66 #[.pointer (some ⟨gb, 0, none⟩)] (ex_call 66 _ _ rfl rfl rg_ent_66 _ (map1 (F.e rfl))) (growValues_any gb _ _ _ _ _ _ _ B_.blk) (fun e u hR => ?_)
 obtain ⟨he, hb⟩ := hR
 refine ⟨.tuple #[], he, ?_⟩; clear he F a; intro a F
 refine hK _ _ ?_
 clear hK K
 replace B_ := B_.below hb
 replace S_ := Nat.le_trans S_ hb.size
 replace M := M.below hb; clear hb; try clear v
 refine wpList_nil ?_
 replace F : Fr 57 a [(0, .pointer (some ⟨gb, 0, none⟩))] := F.keep ⟨rfl, trivial⟩
 refine then_n ?_
 refine wp_seq ?_
 refine wp_region_lit ?_
 refine list_val F (wn rfl) rfl rfl (.pointer (some ⟨gb, 0, none⟩)) (ex_move _ rfl _ (F.e rfl)) ?_; clear F a; intro a F
 refine list_do (wn rfl) (fun K hK => ?_)
 refine ow_call rfl rfl F 67 #[.pointer (some ⟨gb, 0, none⟩)] (ex_call 67 _ _ rfl rfl rg_ent_67 _ (map1 (F.e rfl))) (growClients_any gb _ _ _ _ _ _ _ B_.blk) (fun e v hR => ?_)
 obtain ⟨he, hb⟩ := hR
 refine ⟨.tuple #[], he, ?_⟩; clear he F a; intro a F
 refine hK _ _ ?_
 clear hK K
 replace B_ := B_.below hb
 replace S_ := Nat.le_trans S_ hb.size
 replace M := M.below hb; clear hb; try clear u
 refine wpList_nil ?_
 replace F : Fr 57 a [(0, .pointer (some ⟨gb, 0, none⟩))] := F.keep ⟨rfl, trivial⟩
 refine then_n ?_
 refine wp_seq ?_
 refine wp_region_lit ?_
 refine list_val F (wn rfl) rfl rfl (.pointer (some ⟨gb, 0, none⟩)) (ex_move _ rfl _ (F.e rfl)) ?_; clear F a; intro a F
 refine list_do (wn rfl) (fun K hK => ?_)
 refine ow_call rfl rfl F 68 #[.pointer (some ⟨gb, 0, none⟩)] (ex_call 68 _ _ rfl rfl rg_ent_68 _ (map1 (F.e rfl))) (growConsents_any gb _ _ _ _ _ _ _ B_.blk) (fun e u hR => ?_)
 obtain ⟨he, hb⟩ := hR
 refine ⟨.tuple #[], he, ?_⟩; clear he F a; intro a F
 refine hK _ _ ?_
 clear hK K
 replace B_ := B_.below hb
 replace S_ := Nat.le_trans S_ hb.size
 replace M := M.below hb; clear hb; try clear v
 refine wpList_nil ?_
 replace F : Fr 57 a [(0, .pointer (some ⟨gb, 0, none⟩))] := F.keep ⟨rfl, trivial⟩
 refine then_n ?_
 refine wp_seq ?_
 refine wp_region_lit ?_
 refine list_val F (wn rfl) rfl rfl (.pointer (some ⟨gb, 0, none⟩)) (ex_move _ rfl _ (F.e rfl)) ?_; clear F a; intro a F
 refine list_do (wn rfl) (fun K hK => ?_)
 refine ow_call rfl rfl F 69 #[.pointer (some ⟨gb, 0, none⟩)] (ex_call 69 _ _ rfl rfl rg_ent_69 _ (map1 (F.e rfl))) (growCodes_any gb _ _ _ _ _ _ _ B_.blk) (fun e v hR => ?_)
 obtain ⟨he, hb⟩ := hR
 refine ⟨.tuple #[], he, ?_⟩; clear he F a; intro a F
 refine hK _ _ ?_
 clear hK K
 replace B_ := B_.below hb
 replace S_ := Nat.le_trans S_ hb.size
 replace M := M.below hb; clear hb; try clear u
 refine wpList_nil ?_
 replace F : Fr 57 a [(0, .pointer (some ⟨gb, 0, none⟩))] := F.keep ⟨rfl, trivial⟩
 refine then_n ?_
 refine wp_seq ?_
 refine wp_region_lit ?_
 refine list_val F (wn rfl) rfl rfl (.pointer (some ⟨gb, 0, none⟩)) (ex_move _ rfl _ (F.e rfl)) ?_; clear F a; intro a F
 refine list_do (wn rfl) (fun K hK => ?_)
 refine ow_call rfl rfl F 70 #[.pointer (some ⟨gb, 0, none⟩)] (ex_call 70 _ _ rfl rfl rg_ent_70 _ (map1 (F.e rfl))) (growGrants_any gb _ _ _ _ _ _ _ B_.blk) (fun e u hR => ?_)
 obtain ⟨he, hb⟩ := hR
 refine ⟨.tuple #[], he, ?_⟩; clear he F a; intro a F
 refine hK _ _ ?_
 clear hK K
 replace B_ := B_.below hb
 replace S_ := Nat.le_trans S_ hb.size
 replace M := M.below hb; clear hb; try clear v
 refine wpList_nil ?_
 replace F : Fr 57 a [(0, .pointer (some ⟨gb, 0, none⟩))] := F.keep ⟨rfl, trivial⟩
 refine then_n ?_
 refine wp_seq ?_
 refine wp_region_lit ?_
 refine list_val F (wn rfl) rfl rfl (.pointer (some ⟨gb, 0, none⟩)) (ex_move _ rfl _ (F.e rfl)) ?_; clear F a; intro a F
 refine list_do (wn rfl) (fun K hK => ?_)
 refine ow_call rfl rfl F 71 #[.pointer (some ⟨gb, 0, none⟩)] (ex_call 71 _ _ rfl rfl rg_ent_71 _ (map1 (F.e rfl))) (growClaims_any gb _ _ _ _ _ _ _ B_.blk) (fun e v hR => ?_)
 obtain ⟨he, hb⟩ := hR
 refine ⟨.tuple #[], he, ?_⟩; clear he F a; intro a F
 refine hK _ _ ?_
 clear hK K
 replace B_ := B_.below hb
 replace S_ := Nat.le_trans S_ hb.size
 replace M := M.below hb; clear hb; try clear u
 refine wpList_nil ?_
 replace F : Fr 57 a [(0, .pointer (some ⟨gb, 0, none⟩))] := F.keep ⟨rfl, trivial⟩
 refine then_n ?_
 refine wp_seq ?_
 refine wp_region_lit ?_
 refine list_val F (wn rfl) rfl rfl (.pointer (some ⟨gb, 0, none⟩)) (ex_move _ rfl _ (F.e rfl)) ?_; clear F a; intro a F
 refine list_do (wn rfl) (fun K hK => ?_)
 refine ow_call rfl rfl F 72 #[.pointer (some ⟨gb, 0, none⟩)] (ex_call 72 _ _ rfl rfl rg_ent_72 _ (map1 (F.e rfl))) (growRoutes_any gb _ _ _ _ _ _ _ B_.blk) (fun e u hR => ?_)
 obtain ⟨he, hb⟩ := hR
 refine ⟨.tuple #[], he, ?_⟩; clear he F a; intro a F
 refine hK _ _ ?_
 clear hK K
 replace B_ := B_.below hb
 replace S_ := Nat.le_trans S_ hb.size
 replace M := M.below hb; clear hb; try clear v
 refine wpList_nil ?_
 replace F : Fr 57 a [(0, .pointer (some ⟨gb, 0, none⟩))] := F.keep ⟨rfl, trivial⟩
 refine then_n ?_
 refine wp_seq ?_
 refine wp_region_lit ?_
 refine list_val F (wn rfl) rfl rfl (.pointer (some ⟨gb, 0, none⟩)) (ex_move _ rfl _ (F.e rfl)) ?_; clear F a; intro a F
 refine list_do (wn rfl) (fun K hK => ?_)
 refine ow_call rfl rfl F 73 #[.pointer (some ⟨gb, 0, none⟩)] (ex_call 73 _ _ rfl rfl rg_ent_73 _ (map1 (F.e rfl))) (growAnswers_any gb _ _ _ _ _ _ _ B_.blk) (fun e v hR => ?_)
 obtain ⟨he, hb⟩ := hR
 refine ⟨.tuple #[], he, ?_⟩; clear he F a; intro a F
 refine hK _ _ ?_
 clear hK K
 replace B_ := B_.below hb
 replace S_ := Nat.le_trans S_ hb.size
 replace M := M.below hb; clear hb; try clear u
 refine wpList_nil ?_
 replace F : Fr 57 a [(0, .pointer (some ⟨gb, 0, none⟩))] := F.keep ⟨rfl, trivial⟩
 refine then_n ?_
 refine wp_seq ?_
 refine wp_region_lit ?_
 refine list_val F (wn rfl) rfl rfl (.pointer (some ⟨gb, 0, none⟩)) (ex_move _ rfl _ (F.e rfl)) ?_; clear F a; intro a F
 refine list_do (wn rfl) (fun K hK => ?_)
 refine ow_call rfl rfl F 74 #[.pointer (some ⟨gb, 0, none⟩)] (ex_call 74 _ _ rfl rfl rg_ent_74 _ (map1 (F.e rfl))) (growHelds_any gb _ _ _ _ _ _ _ B_.blk) (fun e u hR => ?_)
 obtain ⟨he, hb⟩ := hR
 refine ⟨.tuple #[], he, ?_⟩; clear he F a; intro a F
 refine hK _ _ ?_
 clear hK K
 replace B_ := B_.below hb
 replace S_ := Nat.le_trans S_ hb.size
 replace M := M.below hb; clear hb; try clear v
 refine wpList_nil ?_
 replace F : Fr 57 a [(0, .pointer (some ⟨gb, 0, none⟩))] := F.keep ⟨rfl, trivial⟩
 refine then_n ?_
 replace M := mm_add M (by rw [cut_size hbw]; exact hgb) B_.blk (fun i b h => by simp at h)
 obtain ⟨hbl_, _, O_k, O_i, K_, hbd⟩ := B_
 clear hbl_
 refine wp_region_lit ?_
 refine list_val F (wn rfl) rfl rfl (.pointer (some ⟨gb, 0, none⟩)) (ex_move _ rfl _ (F.e rfl)) ?_; clear F a; intro a F
 refine list_val F (wn rfl) rfl rfl (.pointer (some ⟨gb, 0, none⟩)) (ex_move _ rfl _ (F.e rfl)) ?_; clear F a; intro a F
 refine list_val F (wn rfl) rfl rfl (.pointer (some ⟨gb, 0, none⟩)) (ex_nilck _ rfl _ (F.e rfl)) ?_; clear F a; intro a F
 refine list_val F (wn rfl) rfl rfl (.pointer (some ⟨gb, 72, none⟩)) (ex_fa _ _ _ rfl _ (F.e rfl) 72 rg_fa_50_72_72 ⟨gb, 72, none⟩ rfl) ?_; clear F a; intro a F
 refine list_val F (wn rfl) rfl rfl (.int .i64 ((tn : Nat) : Int)) (ex_load _ _ rfl _ (F.e rfl) _ (lv1 rg_one_3 (M.cell (i := 0) rfl (j := 72) rfl))) ?_; clear F a; intro a F
 refine list_val F (wn rfl) rfl rfl (.pointer (some ⟨gb, 0, none⟩)) (ex_nilck _ rfl _ (F.e rfl)) ?_; clear F a; intro a F
 refine list_val F (wn rfl) rfl rfl (.pointer (some ⟨gb, 73, none⟩)) (ex_fa _ _ _ rfl _ (F.e rfl) 73 rg_fa_50_73_73 ⟨gb, 73, none⟩ rfl) ?_; clear F a; intro a F
 refine list_do (wn rfl) (fun K hK => ?_)
 refine ow_store F M rfl 3 _ _ rfl 0 gb ((bkC (.slice K2 r2.length kc2) (.slice I2 m2.length ic2) r2.length tn dn us2).toArray) _ rfl 73 (F.e rfl) _ (F.e rfl) [.int .i64 ((tn : Nat) : Int)] rfl rg_info_3_map_size_some_1 (by show 74 ≤ 75; decide) (by simp [Value.oneCell']) ((bkC (.slice K2 r2.length kc2) (.slice I2 m2.length ic2) r2.length tn tn us2).toArray) rfl ?_
 clear F a; have Mo := M; clear M; intro a v F M hgr
 refine hK _ _ ?_
 clear hK K
 replace S_ := Nat.le_trans S_ hgr.size
 replace O_k := O_k.grown (Mo.blk 0 _ rfl) (.inl (by show (57 : Nat) ≠ 50; decide)) hgr
 replace O_i := O_i.grown (Mo.blk 0 _ rfl) (.inl (by show (3 : Nat) ≠ 50; decide)) hgr
 replace K_ := K_.grown (Mo.blk 0 _ rfl) (.inl (by show (50 : Nat) ≠ 85; decide)) hgr
 clear Mo hgr; try clear u
 replace M : Mm (cutW w base) v [⟨gb, (bkC (.slice K2 r2.length kc2) (.slice I2 m2.length ic2) r2.length tn tn us2).toArray, 50⟩] := M
 refine wpList_nil ?_
 replace F : Fr 57 a [(0, .pointer (some ⟨gb, 0, none⟩))] := F.keep ⟨rfl, trivial⟩
 exact ret_none F rfl ⟨rfl, K2, kc2, r2, I2, ic2, m2, us2, o2, ⟨M.blk 0 _ rfl, hgb, O_k, O_i, K_, hbd⟩, cut_to hbw S_ M.bel⟩
theorem rg_ent_29 : ent? Tryz.prog 29 = true := by kernel_rfl
theorem rg_ent_30 : ent? Tryz.prog 30 = true := by kernel_rfl
set_option maxHeartbeats 1000000 in
set_option maxRecDepth 100000 in
theorem look_any (own : Nat → Nat) (base gb : Nat) (KA : Option Addr) (Kc : Nat) (rows : List Sl) (IA : Option Addr) (Ic : Nat) (ms : List Nat) (kA tn dn us : Nat) (w : World) (hB : Bk own base gb KA Kc rows IA Ic ms kA tn dn us w) (htn : tn ≤ 10000000) :
    Calls Tryz.prog 14 #[.pointer (some ⟨gb, 0, none⟩)] w fun e w' => e = .returned (.bool true) ∧ (∃ KA' Kc' rows' IA' Ic' ms' us' own' kA' dn', Bk own' base gb KA' Kc' rows' IA' Ic' ms' kA' tn dn' us' w' ∧ Below base w w') := by
 have hgb := hB.lo
 have hbw : base ≤ w.heap.size := Nat.le_of_lt (Nat.lt_of_le_of_lt hB.lo (Array.getElem?_eq_some_iff.1 hB.blk).1)
 have B_ := hB
 have S_ := Nat.le_refl w.heap.size
 refine calls_start Tryz.func14 rfl rfl rfl (fun a F => ?_)
 have M : Mm (cutW w base) w [] := cut_nil hbw
 refine wp_seq ?_
 refine wp_region_lit ?_
 refine list_val F (wn rfl) rfl rfl (.bool false) (ex_assign _ rfl _ rfl) ?_; clear F a; intro a F
 refine wpList_nil ?_
 replace F : Fr 19 a [(0, .pointer (some ⟨gb, 0, none⟩)), (2, .bool false)] := F.keep ⟨rfl, rfl, trivial⟩
 refine then_n ?_
 refine wp_seq ?_
 refine wp_seq ?_
 refine wp_region_lit ?_
 refine list_val F (wn rfl) rfl rfl (.pointer (some ⟨gb, 0, none⟩)) (ex_move _ rfl _ (F.e rfl)) ?_; clear F a; intro a F
 refine list_do (wn rfl) (fun K hK => ?_)
 refine ow_call rfl rfl F 29 #[.pointer (some ⟨gb, 0, none⟩)] (ex_call 29 _ _ rfl rfl rg_ent_29 _ (map1 (F.e rfl))) (holds_any _ _ _ _ _ _ _ _ _ _ _ _ _ _ B_ htn) (fun e v hR => ?_)
 obtain ⟨he, hb⟩ := hR
 refine ⟨.bool true, he, ?_⟩; clear he F a; intro a F
 refine hK _ _ ?_
 clear hK K
 replace B_ := B_.below hb
 replace S_ := Nat.le_trans S_ hb.size
 replace M := M.below hb; clear hb; try clear w
 refine list_val F (wn rfl) rfl rfl (.bool false) (ex_not _ _ rfl _ (F.e rfl) _ rfl) ?_; clear F a; intro a F
 refine wpList_nil ?_
 replace F : Fr 19 a [(0, .pointer (some ⟨gb, 0, none⟩)), (2, .bool false), (5, .bool false)] := F.keep ⟨rfl, rfl, rfl, trivial⟩
 refine then_n ?_
 refine wp_cond_false (F.e rfl) ?_
 refine wp_skip ?_
 refine then_n ?_
 refine wp_seq ?_
 refine wp_seq ?_
 have zb : At v ⟨gb, 0, none⟩ (bkC (.slice KA rows.length Kc) (.slice IA ms.length Ic) kA tn dn us) := at_block B_.blk
 by_cases hdt : dn = tn
 ·
  refine region_tail 8 rg_follows_mixedOrders (by kernel_rfl) M ?_; clear M; intro u M hb
  replace B_ := B_.below hb
  replace S_ := Nat.le_trans S_ hb.size
  replace zb := zb.below hb
  clear hb; try clear v
  refine still_val F (wn rfl) rfl rfl (.pointer (some (⟨gb, 0, none⟩ : Addr))) (ex_move _ rfl _ (F.e rfl)) ?_; clear F a; intro a F
  refine still_val F (wn rfl) rfl rfl (.pointer (some (⟨gb, 0, none⟩ : Addr))) (ex_nilck _ rfl _ (F.e rfl)) ?_; clear F a; intro a F
  refine still_val F (wn rfl) rfl rfl (.pointer (some ((⟨gb, 0, none⟩ : Addr).add 73))) (ex_fa _ _ _ rfl _ (F.e rfl) 73 rg_fa_50_73_73 ((⟨gb, 0, none⟩ : Addr).add 73) rfl) ?_; clear F a; intro a F
  refine still_val F (wn rfl) rfl rfl (.int .i64 ((dn : Nat) : Int)) (ex_load _ _ rfl _ (F.e rfl) _ (lv1 rg_one_3 (zb.cell 73 _ rfl))) ?_; clear F a; intro a F
  refine still_val F (wn rfl) rfl rfl (.pointer (some (⟨gb, 0, none⟩ : Addr))) (ex_move _ rfl _ (F.e rfl)) ?_; clear F a; intro a F
  refine still_val F (wn rfl) rfl rfl (.pointer (some (⟨gb, 0, none⟩ : Addr))) (ex_nilck _ rfl _ (F.e rfl)) ?_; clear F a; intro a F
  refine still_val F (wn rfl) rfl rfl (.pointer (some ((⟨gb, 0, none⟩ : Addr).add 72))) (ex_fa _ _ _ rfl _ (F.e rfl) 72 rg_fa_50_72_72 ((⟨gb, 0, none⟩ : Addr).add 72) rfl) ?_; clear F a; intro a F
  refine still_val F (wn rfl) rfl rfl (.int .i64 ((tn : Nat) : Int)) (ex_load _ _ rfl _ (F.e rfl) _ (lv1 rg_one_3 (zb.cell 72 _ rfl))) ?_; clear F a; intro a F
  refine still_end ?_
  refine list_val F (wn rfl) rfl rfl (.bool true) (ex_bin .eql _ _ _ _ rfl .i64 _ _ (F.e rfl) (F.e rfl) _ (b_eql (by rw [hdt]; simp))) ?_; clear F a; intro a F
  refine wpList_nil ?_
  replace F : Fr 19 a [(0, .pointer (some (⟨gb, 0, none⟩ : Addr))), (2, .bool false), (5, .bool false), (14, .bool true)] := F.keep ⟨rfl, rfl, rfl, rfl, trivial⟩
  refine then_n ?_
  refine wp_cond_true (F.e rfl) ?_
  refine wp_seq ?_
  clear zb
  refine wp_region_lit ?_
  refine list_val F (wn rfl) rfl rfl (.bool true) (ex_assign _ rfl _ rfl) ?_; clear F a; intro a F
  refine wpList_nil ?_
  replace F : Fr 19 a [(0, .pointer (some ⟨gb, 0, none⟩)), (2, .bool true), (5, .bool false), (14, .bool true)] := F.keep ⟨rfl, rfl, rfl, rfl, trivial⟩
  refine then_n ?_
  refine wp_ret ?_
  refine then_r ?_
  exact ret_tmp F rfl rfl ⟨rfl, KA, Kc, rows, IA, Ic, ms, us, own, kA, dn, B_, cut_to hbw S_ M.bel⟩
 refine region_tail 8 rg_follows_mixedOrders (by kernel_rfl) M ?_; clear M; intro u M hb
 replace B_ := B_.below hb
 replace S_ := Nat.le_trans S_ hb.size
 replace zb := zb.below hb
 clear hb; try clear v
 refine still_val F (wn rfl) rfl rfl (.pointer (some (⟨gb, 0, none⟩ : Addr))) (ex_move _ rfl _ (F.e rfl)) ?_; clear F a; intro a F
 refine still_val F (wn rfl) rfl rfl (.pointer (some (⟨gb, 0, none⟩ : Addr))) (ex_nilck _ rfl _ (F.e rfl)) ?_; clear F a; intro a F
 refine still_val F (wn rfl) rfl rfl (.pointer (some ((⟨gb, 0, none⟩ : Addr).add 73))) (ex_fa _ _ _ rfl _ (F.e rfl) 73 rg_fa_50_73_73 ((⟨gb, 0, none⟩ : Addr).add 73) rfl) ?_; clear F a; intro a F
 refine still_val F (wn rfl) rfl rfl (.int .i64 ((dn : Nat) : Int)) (ex_load _ _ rfl _ (F.e rfl) _ (lv1 rg_one_3 (zb.cell 73 _ rfl))) ?_; clear F a; intro a F
 refine still_val F (wn rfl) rfl rfl (.pointer (some (⟨gb, 0, none⟩ : Addr))) (ex_move _ rfl _ (F.e rfl)) ?_; clear F a; intro a F
 refine still_val F (wn rfl) rfl rfl (.pointer (some (⟨gb, 0, none⟩ : Addr))) (ex_nilck _ rfl _ (F.e rfl)) ?_; clear F a; intro a F
 refine still_val F (wn rfl) rfl rfl (.pointer (some ((⟨gb, 0, none⟩ : Addr).add 72))) (ex_fa _ _ _ rfl _ (F.e rfl) 72 rg_fa_50_72_72 ((⟨gb, 0, none⟩ : Addr).add 72) rfl) ?_; clear F a; intro a F
 refine still_val F (wn rfl) rfl rfl (.int .i64 ((tn : Nat) : Int)) (ex_load _ _ rfl _ (F.e rfl) _ (lv1 rg_one_3 (zb.cell 72 _ rfl))) ?_; clear F a; intro a F
 refine still_end ?_
 refine list_val F (wn rfl) rfl rfl (.bool false) (ex_bin .eql _ _ _ _ rfl .i64 _ _ (F.e rfl) (F.e rfl) _ (b_eql (by rw [beq_eq_false_iff_ne]; omega))) ?_; clear F a; intro a F
 refine wpList_nil ?_
 replace F : Fr 19 a [(0, .pointer (some (⟨gb, 0, none⟩ : Addr))), (2, .bool false), (5, .bool false), (14, .bool false)] := F.keep ⟨rfl, rfl, rfl, rfl, trivial⟩
 refine then_n ?_
 refine wp_cond_false (F.e rfl) ?_
 refine wp_skip ?_
 refine then_n ?_
 refine wp_seq ?_
 clear zb
 refine wp_region_lit ?_
 refine list_val F (wn rfl) rfl rfl (.pointer (some ⟨gb, 0, none⟩)) (ex_move _ rfl _ (F.e rfl)) ?_; clear F a; intro a F
 refine list_do (wn rfl) (fun K hK => ?_)
 refine ow_call rfl rfl F 30 #[.pointer (some ⟨gb, 0, none⟩)] (ex_call 30 _ _ rfl rfl rg_ent_30 _ (map1 (F.e rfl))) (grow_any _ _ _ _ _ _ _ _ _ _ _ _ _ _ B_ htn) (fun e v hR => ?_)
 obtain ⟨he, K2, kc2, r2, I2, ic2, m2, us2, o2, B2, hb2⟩ := hR
 refine ⟨.tuple #[], he, ?_⟩; clear he F a; intro a F
 refine hK _ _ ?_
 clear hK K
 clear B_; have B_ := B2; clear B2; replace S_ := Nat.le_trans S_ hb2.size; replace M := mm_end M (by rw [cut_size hbw]; exact hb2); clear hb2; try clear u
 refine wpList_nil ?_
 replace F : Fr 19 a [(0, .pointer (some ⟨gb, 0, none⟩)), (2, .bool false), (5, .bool false), (14, .bool false)] := F.keep ⟨rfl, rfl, rfl, rfl, trivial⟩
 refine then_n ?_
 refine wp_seq ?_
 refine wp_region_lit ?_
 refine list_val F (wn rfl) rfl rfl (.pointer (some ⟨gb, 0, none⟩)) (ex_move _ rfl _ (F.e rfl)) ?_; clear F a; intro a F
 refine list_do (wn rfl) (fun K hK => ?_)
 refine ow_call rfl rfl F 29 #[.pointer (some ⟨gb, 0, none⟩)] (ex_call 29 _ _ rfl rfl rg_ent_29 _ (map1 (F.e rfl))) (holds_any _ _ _ _ _ _ _ _ _ _ _ _ _ _ B_ htn) (fun e u hR => ?_)
 obtain ⟨he, hb⟩ := hR
 refine ⟨.bool true, he, ?_⟩; clear he F a; intro a F
 refine hK _ _ ?_
 clear hK K
 replace B_ := B_.below hb
 replace S_ := Nat.le_trans S_ hb.size
 replace M := M.below hb; clear hb; try clear v
 refine list_val F (wn rfl) rfl rfl (.bool true) (ex_assign _ rfl _ (F.e rfl)) ?_; clear F a; intro a F
 refine wpList_nil ?_
 replace F : Fr 19 a [(0, .pointer (some ⟨gb, 0, none⟩)), (2, .bool true), (5, .bool false), (14, .bool false)] := F.keep ⟨rfl, rfl, rfl, rfl, trivial⟩
 refine then_n ?_
 refine wp_ret ?_
 exact ret_tmp F rfl rfl ⟨rfl, K2, kc2, r2, I2, ic2, m2, us2, o2, r2.length, tn, B_, cut_to hbw S_ M.bel⟩
end Go.Proofs.YtnjbjjmoglogeaaGreat
