/- RevokePrunes (5): prunings at two times, in either order, are the pruning at the later one. Conditions: the script is read. -/
import Derived.Test.YtnjbjjmoglogeaaR7
namespace Go.Proofs.Ytnjbjjmoglogeaa
open Go.RowKit Go.Proofs.YtnjbjjmoglogeaaW.PrintWords KB WG RO
set_option linter.unusedVariables false
set_option linter.unusedSimpArgs false
set_option linter.unnecessarySimpa false
theorem pr_two (l : List Rv) {a b c : Int} (h : c = max a b) : pruneF (pruneF l a) b = pruneF l c := by rw [prune_prune, h]
theorem pr_two' (l : List Rv) {a b c : Int} (h : c = max a b) : pruneF (pruneF l b) a = pruneF l c := by rw [prune_prune, h, Int.max_comm]
theorem r8_sl_22_20 : sl? Try.prog 22 20 = true := by kernel_rfl
theorem r8_fa_29_0_0 : fa? Try.prog 29 0 0 = true := by kernel_rfl
theorem r8_one_3 : one? Try.prog 3 = true := by kernel_rfl
theorem r8_ent_16 : ent? Try.prog 16 = true := by kernel_rfl
theorem r8_fa_29_3_18 : fa? Try.prog 29 3 18 = true := by kernel_rfl
theorem r8_one_2 : one? Try.prog 2 = true := by kernel_rfl
theorem r8_ent_19 : ent? Try.prog 19 = true := by kernel_rfl
theorem r8_ent_10 : ent? Try.prog 10 = true := by kernel_rfl
theorem r8_ent_18 : ent? Try.prog 18 = true := by kernel_rfl
theorem r8_sl_23_19 : sl? Try.prog 23 19 = true := by kernel_rfl
theorem r8_fa_48_3_18 : fa? Try.prog 48 3 18 = true := by kernel_rfl
theorem r8_fa_29_1_1 : fa? Try.prog 29 1 1 = true := by kernel_rfl
theorem r8_one_25 : one? Try.prog 25 = true := by kernel_rfl
theorem r8_ent_8 : ent? Try.prog 8 = true := by kernel_rfl
theorem r8_follows_mixedOrders : Try.prog.follows .mixedOrders = true := by kernel_rfl
theorem r8_fa_29_2_2 : fa? Try.prog 29 2 2 = true := by kernel_rfl
theorem r8_ent_14 : ent? Try.prog 14 = true := by kernel_rfl
theorem r8_ent_20 : ent? Try.prog 20 = true := by kernel_rfl
theorem r8_bool_4 : bool? Try.prog 4 = true := by kernel_rfl
theorem r8_ent_15 : ent? Try.prog 15 = true := by kernel_rfl
set_option maxHeartbeats 1000000 in
set_option maxRecDepth 100000 in
theorem prunes_any (ss : List St) (A : Option Addr) (c : Nat) (w : World) (hr : kSt.C w A ss.length ss) (hc : ss.length ≤ c) (hmx : ss.length ≤ 4611686018427387904) :
    Calls Try.prog 5 #[.slice A ss.length c] w fun e w' => e = .returned (.bool true) ∧ Below w.heap.size w w' := by
 have O_l : Ow kRv 48 w w.heap.size (.slice none 0 0) [] := Ow.nil _ _ _ _
 refine calls_start Try.func5 rfl rfl rfl (fun a F => ?_)
 have M : Mm w w [] := Mm.nil w
 refine wp_seq ?_
 refine wp_region_lit ?_
 refine list_val F (wn rfl) rfl rfl (.bool false) (ex_assign _ rfl _ rfl) ?_; clear F a; intro a F
 refine wpList_nil ?_
 replace F : Fr 157 a [(0, .slice A ss.length c), (2, .bool false)] := F.keep ⟨rfl, rfl, trivial⟩
 refine then_n ?_
 refine wp_seq ?_
 refine wp_region_lit ?_
 refine list_val F (wn rfl) rfl rfl (.slice none 0 0) (ex_assign _ rfl _ rfl) ?_; clear F a; intro a F
 refine wpList_nil ?_
 replace F : Fr 157 a [(0, .slice A ss.length c), (2, .bool false), (3, .slice none 0 0)] := F.keep ⟨rfl, rfl, rfl, trivial⟩
 refine then_n ?_
 refine wp_seq ?_
 refine wp_seq ?_
 refine wp_region_lit ?_
 refine list_val F (wn rfl) rfl rfl (.int .i64 0) (ex_assign _ rfl _ rfl) ?_; clear F a; intro a F
 refine wpList_nil ?_
 replace F : Fr 157 a [(0, .slice A ss.length c), (2, .bool false), (3, .slice none 0 0), (4, .int .i64 0)] := F.keep ⟨rfl, rfl, rfl, rfl, trivial⟩
 refine then_n ?_
 refine wp_only (fun ar wr => ∃ (A_l : Option Addr), ∃ (c_l : Nat), ∃ (l : List Rv), Fr 157 ar [(0, .slice A ss.length c), (2, .bool false), (3, .slice A_l l.length c_l)] ∧ Mm w wr [] ∧ Ow kRv 48 wr w.heap.size (.slice A_l l.length c_l) l ∧ IsL l ∧ l.length ≤ 40) ?_ ?_
 ·
  refine wp_block ?_
  refine wp_loopN (fun mq ar wr => ∃ (i : Nat), ∃ (A_l : Option Addr), ∃ (c_l : Nat), ∃ (l : List Rv), Fr 157 ar [(0, .slice A ss.length c), (2, .bool false), (3, .slice A_l l.length c_l), (4, .int .i64 ((i : Nat) : Int))] ∧ Mm w wr [] ∧ Ow kRv 48 wr w.heap.size (.slice A_l l.length c_l) l ∧ i ≤ 40 ∧ l = (ss.take i).foldl stepF [] ∧ mq + i = 40) 40 ?_ ?_
  ·
   exact ⟨0, none, 0, [], F.keep ⟨rfl, rfl, rfl, rfl, trivial⟩, M, O_l, (by decide), rfl, (by omega)⟩
  clear F M a O_l
  rintro mq a v ⟨i, A_l, c_l, l, F, M, O_l, hi, hl, hq⟩; try clear w
  by_cases hin : i < ss.length
  ·
   by_cases hi40 : i < 40
   ·
    obtain ⟨x, hx⟩ : ∃ x, ss[i]? = some x := ⟨_, List.getElem?_eq_getElem (by omega)⟩
    obtain ⟨ad, hA, z⟩ := C_ix hr hx
    subst hA
    refine wp_seq ?_
    refine wp_seq ?_
    refine wp_region_lit ?_
    refine list_val F (wn rfl) rfl rfl (.int .i64 ((i : Nat) : Int)) (ex_move _ rfl _ (F.e rfl)) ?_; clear F a; intro a F
    refine list_val F (wn rfl) rfl rfl (.slice (some ad) ss.length c) (ex_move _ rfl _ (F.e rfl)) ?_; clear F a; intro a F
    refine list_val F (wn rfl) rfl rfl (.int .i64 ((ss.length : Nat) : Int)) (ex_len _ _ rfl 20 r8_sl_22_20 _ _ _ (F.e rfl)) ?_; clear F a; intro a F
    refine list_val F (wn rfl) rfl rfl (.bool true) (ex_bin .lss _ _ _ _ rfl .i64 _ _ (F.e rfl) (F.e rfl) _ (b_lss (decide_eq_true (by omega)))) ?_; clear F a; intro a F
    refine list_val F (wn rfl) rfl rfl (.bool true) (ex_move _ rfl _ (F.e rfl)) ?_; clear F a; intro a F
    refine list_val F (F.wants 19 true rfl (by kernel_rfl) rfl true rfl) rfl rfl (.int .i64 ((i : Nat) : Int)) (ex_move _ rfl _ (F.e rfl)) ?_; clear F a; intro a F
    refine list_val F (F.wants 19 true rfl (by kernel_rfl) rfl true rfl) rfl rfl (.bool true) (ex_bin .lss _ _ _ _ rfl .i64 _ _ (F.e rfl) rfl _ (b_lss (decide_eq_true (by omega)))) ?_; clear F a; intro a F
    refine list_val F (wn rfl) rfl rfl (.bool true) (ex_pick_t _ _ _ rfl (F.e rfl) _ (F.e rfl)) ?_; clear F a; intro a F
    refine wpList_nil ?_
    replace F : Fr 157 a [(0, .slice (some ad) ss.length c), (2, .bool false), (3, .slice A_l l.length c_l), (4, .int .i64 ((i : Nat) : Int)), (22, .bool true)] := F.keep ⟨rfl, rfl, rfl, rfl, rfl, trivial⟩
    refine then_n ?_
    refine wp_cond_true (F.e rfl) ?_
    refine wp_skip ?_
    refine then_n ?_
    refine wp_seq ?_
    refine wp_block ?_
    refine wp_seq ?_
    by_cases hd1 : x.do_ = 1
    ·
     have hd : x.do_ = 1 ∨ x.do_ = 2 := .inl hd1
     refine wp_region_lit ?_
     refine list_val F (wn rfl) rfl rfl (.slice (some ad) ss.length c) (ex_move _ rfl _ (F.e rfl)) ?_; clear F a; intro a F
     refine list_val F (wn rfl) rfl rfl (.int .i64 ((i : Nat) : Int)) (ex_move _ rfl _ (F.e rfl)) ?_; clear F a; intro a F
     refine list_val F (wn rfl) rfl rfl (.pointer (some (ad.add (i * 20)))) (ex_ix _ _ _ rfl 20 r8_sl_22_20 ad _ _ (F.e rfl) .i64 _ (F.e rfl) i rfl (by omega) (ad.add (i * 20)) rfl) ?_; clear F a; intro a F
     refine list_val F (wn rfl) rfl rfl (.pointer (some (ad.add (i * 20)))) (ex_fa _ _ _ rfl _ (F.e rfl) 0 r8_fa_29_0_0 (ad.add (i * 20)) rfl) ?_; clear F a; intro a F
     refine list_val F (wn rfl) rfl rfl (.int .i64 x.do_) (ex_load _ _ rfl _ (F.e rfl) _ (lv1 r8_one_3 ((z.below M.bel).cell 0 _ (St.cs_0 _)))) ?_; clear F a; intro a F
     refine list_val F (wn rfl) rfl rfl (.bool true) (ex_bin .eql _ _ _ _ rfl .i64 _ _ (F.e rfl) rfl _ (b_eql (by simp [hd1]))) ?_; clear F a; intro a F
     refine list_val F (wn rfl) rfl rfl (.bool true) (ex_move _ rfl _ (F.e rfl)) ?_; clear F a; intro a F
     refine list_skip F (F.wants 31 true rfl (by kernel_rfl) rfl false rfl) rfl rfl ?_; clear F a; intro a F
     refine list_skip F (F.wants 31 true rfl (by kernel_rfl) rfl false rfl) rfl rfl ?_; clear F a; intro a F
     refine list_skip F (F.wants 31 true rfl (by kernel_rfl) rfl false rfl) rfl rfl ?_; clear F a; intro a F
     refine list_skip F (F.wants 31 true rfl (by kernel_rfl) rfl false rfl) rfl rfl ?_; clear F a; intro a F
     refine list_skip F (F.wants 31 true rfl (by kernel_rfl) rfl false rfl) rfl rfl ?_; clear F a; intro a F
     refine list_skip F (F.wants 31 true rfl (by kernel_rfl) rfl false rfl) rfl rfl ?_; clear F a; intro a F
     refine list_val F (wn rfl) rfl rfl (.bool true) (ex_pick_t _ _ _ rfl (F.e rfl) _ rfl) ?_; clear F a; intro a F
     refine wpList_nil ?_
     replace F : Fr 157 a [(0, .slice (some ad) ss.length c), (2, .bool false), (3, .slice A_l l.length c_l), (4, .int .i64 ((i : Nat) : Int)), (22, .bool true), (38, .bool true)] := F.keep ⟨rfl, rfl, rfl, rfl, rfl, rfl, trivial⟩
     refine then_n ?_
     refine wp_cond_true (F.e rfl) ?_
     refine wp_region_lit ?_
     refine list_val F (wn rfl) rfl rfl (.slice A_l l.length c_l) (ex_move _ rfl _ (F.e rfl)) ?_; clear F a; intro a F
     refine list_val F (wn rfl) rfl rfl (.slice (some ad) ss.length c) (ex_move _ rfl _ (F.e rfl)) ?_; clear F a; intro a F
     refine list_val F (wn rfl) rfl rfl (.int .i64 ((i : Nat) : Int)) (ex_move _ rfl _ (F.e rfl)) ?_; clear F a; intro a F
     refine list_val F (wn rfl) rfl rfl (.pointer (some (ad.add (i * 20)))) (ex_ix _ _ _ rfl 20 r8_sl_22_20 ad _ _ (F.e rfl) .i64 _ (F.e rfl) i rfl (by omega) (ad.add (i * 20)) rfl) ?_; clear F a; intro a F
     refine list_val F (wn rfl) rfl rfl (.agg x.arr) (ex_load _ _ rfl _ (F.e rfl) _ (lrow29 x ((z.below M.bel)))) ?_; clear F a; intro a F
     refine list_do (wn rfl) (fun K hK => ?_)
     have hI := fold_is hl
     refine ow_call rfl rfl F 16 #[.slice A_l l.length c_l, .agg x.arr] (ex_call 16 _ _ rfl rfl r8_ent_16 _ (map2 (F.e rfl) (F.e rfl))) (step_any l hI.1 _ _ x hd _ O_l.rd.1 O_l.rd.2.2 (by omega)) (fun e u hR => ?_)
     obtain ⟨A_44, c_44, he, O_n, hb⟩ := hR
     replace O_n := O_n.low M.bel.size
     refine ⟨.slice A_44 ((stepF l x).length) c_44, he, ?_⟩; clear he F a; intro a F
     refine hK _ _ ?_
     clear hK K
     replace O_l := O_l.below hb
     replace M := M.below hb; clear hb; try clear v
     clear O_l
     refine list_val F (wn rfl) rfl rfl (.slice A_44 ((stepF l x).length) c_44) (ex_assign _ rfl _ (F.e rfl)) ?_; clear F a; intro a F
     refine wpList_nil ?_
     replace F : Fr 157 a [(0, .slice (some ad) ss.length c), (2, .bool false), (3, .slice A_44 ((stepF l x).length) c_44), (4, .int .i64 ((i : Nat) : Int)), (22, .bool true), (38, .bool true)] := F.keep ⟨rfl, rfl, rfl, rfl, rfl, rfl, trivial⟩
     refine in_n ?_
     refine then_n ?_
     refine wp_region_lit ?_
     refine list_val F (wn rfl) rfl rfl (.int .i64 ((i : Nat) : Int)) (ex_move _ rfl _ (F.e rfl)) ?_; clear F a; intro a F
     refine list_val F (wn rfl) rfl rfl (.int .i64 ((i + 1 : Nat) : Int)) (ex_bin .add _ _ _ _ rfl .i64 _ _ (F.e rfl) rfl _ (b_add ((w_i64 (by omega) (by omega)).trans (by omega)))) ?_; clear F a; intro a F
     refine list_val F (wn rfl) rfl rfl (.int .i64 ((i + 1 : Nat) : Int)) (ex_assign _ rfl _ (F.e rfl)) ?_; clear F a; intro a F
     refine wpList_nil ?_
     replace F : Fr 157 a [(0, .slice (some ad) ss.length c), (2, .bool false), (3, .slice A_44 ((stepF l x).length) c_44), (4, .int .i64 ((i + 1 : Nat) : Int)), (22, .bool true), (38, .bool true)] := F.keep ⟨rfl, rfl, rfl, rfl, rfl, rfl, trivial⟩
     refine then_n ?_
     have O_l := O_n
     exact ⟨40 - (i + 1), by omega, (i + 1), A_44, c_44, (stepF l x), F.keep ⟨rfl, rfl, rfl, rfl, trivial⟩, (by refine M.pick' [] _ ?_ (by decide); exact trivial), O_l, (by omega), (fold_yes hl hx), (by omega)⟩
    by_cases hd2 : x.do_ = 2
    ·
     have hd : x.do_ = 1 ∨ x.do_ = 2 := .inr hd2
     refine wp_region_lit ?_
     refine list_val F (wn rfl) rfl rfl (.slice (some ad) ss.length c) (ex_move _ rfl _ (F.e rfl)) ?_; clear F a; intro a F
     refine list_val F (wn rfl) rfl rfl (.int .i64 ((i : Nat) : Int)) (ex_move _ rfl _ (F.e rfl)) ?_; clear F a; intro a F
     refine list_val F (wn rfl) rfl rfl (.pointer (some (ad.add (i * 20)))) (ex_ix _ _ _ rfl 20 r8_sl_22_20 ad _ _ (F.e rfl) .i64 _ (F.e rfl) i rfl (by omega) (ad.add (i * 20)) rfl) ?_; clear F a; intro a F
     refine list_val F (wn rfl) rfl rfl (.pointer (some (ad.add (i * 20)))) (ex_fa _ _ _ rfl _ (F.e rfl) 0 r8_fa_29_0_0 (ad.add (i * 20)) rfl) ?_; clear F a; intro a F
     refine list_val F (wn rfl) rfl rfl (.int .i64 x.do_) (ex_load _ _ rfl _ (F.e rfl) _ (lv1 r8_one_3 ((z.below M.bel).cell 0 _ (St.cs_0 _)))) ?_; clear F a; intro a F
     refine list_val F (wn rfl) rfl rfl (.bool false) (ex_bin .eql _ _ _ _ rfl .i64 _ _ (F.e rfl) rfl _ (b_eql (by simp [hd1]))) ?_; clear F a; intro a F
     refine list_val F (wn rfl) rfl rfl (.bool false) (ex_move _ rfl _ (F.e rfl)) ?_; clear F a; intro a F
     refine list_val F (F.wants 31 false rfl (by kernel_rfl) rfl true rfl) rfl rfl (.slice (some ad) ss.length c) (ex_move _ rfl _ (F.e rfl)) ?_; clear F a; intro a F
     refine list_val F (F.wants 31 false rfl (by kernel_rfl) rfl true rfl) rfl rfl (.int .i64 ((i : Nat) : Int)) (ex_move _ rfl _ (F.e rfl)) ?_; clear F a; intro a F
     refine list_val F (F.wants 31 false rfl (by kernel_rfl) rfl true rfl) rfl rfl (.pointer (some (ad.add (i * 20)))) (ex_ix _ _ _ rfl 20 r8_sl_22_20 ad _ _ (F.e rfl) .i64 _ (F.e rfl) i rfl (by omega) (ad.add (i * 20)) rfl) ?_; clear F a; intro a F
     refine list_val F (F.wants 31 false rfl (by kernel_rfl) rfl true rfl) rfl rfl (.pointer (some (ad.add (i * 20)))) (ex_fa _ _ _ rfl _ (F.e rfl) 0 r8_fa_29_0_0 (ad.add (i * 20)) rfl) ?_; clear F a; intro a F
     refine list_val F (F.wants 31 false rfl (by kernel_rfl) rfl true rfl) rfl rfl (.int .i64 x.do_) (ex_load _ _ rfl _ (F.e rfl) _ (lv1 r8_one_3 ((z.below M.bel).cell 0 _ (St.cs_0 _)))) ?_; clear F a; intro a F
     refine list_val F (F.wants 31 false rfl (by kernel_rfl) rfl true rfl) rfl rfl (.bool true) (ex_bin .eql _ _ _ _ rfl .i64 _ _ (F.e rfl) rfl _ (b_eql (by simp [hd2]))) ?_; clear F a; intro a F
     refine list_val F (wn rfl) rfl rfl (.bool true) (ex_pick_f _ _ _ rfl (F.e rfl) _ (F.e rfl)) ?_; clear F a; intro a F
     refine wpList_nil ?_
     replace F : Fr 157 a [(0, .slice (some ad) ss.length c), (2, .bool false), (3, .slice A_l l.length c_l), (4, .int .i64 ((i : Nat) : Int)), (22, .bool true), (38, .bool true)] := F.keep ⟨rfl, rfl, rfl, rfl, rfl, rfl, trivial⟩
     refine then_n ?_
     refine wp_cond_true (F.e rfl) ?_
     refine wp_region_lit ?_
     refine list_val F (wn rfl) rfl rfl (.slice A_l l.length c_l) (ex_move _ rfl _ (F.e rfl)) ?_; clear F a; intro a F
     refine list_val F (wn rfl) rfl rfl (.slice (some ad) ss.length c) (ex_move _ rfl _ (F.e rfl)) ?_; clear F a; intro a F
     refine list_val F (wn rfl) rfl rfl (.int .i64 ((i : Nat) : Int)) (ex_move _ rfl _ (F.e rfl)) ?_; clear F a; intro a F
     refine list_val F (wn rfl) rfl rfl (.pointer (some (ad.add (i * 20)))) (ex_ix _ _ _ rfl 20 r8_sl_22_20 ad _ _ (F.e rfl) .i64 _ (F.e rfl) i rfl (by omega) (ad.add (i * 20)) rfl) ?_; clear F a; intro a F
     refine list_val F (wn rfl) rfl rfl (.agg x.arr) (ex_load _ _ rfl _ (F.e rfl) _ (lrow29 x ((z.below M.bel)))) ?_; clear F a; intro a F
     refine list_do (wn rfl) (fun K hK => ?_)
     have hI := fold_is hl
     refine ow_call rfl rfl F 16 #[.slice A_l l.length c_l, .agg x.arr] (ex_call 16 _ _ rfl rfl r8_ent_16 _ (map2 (F.e rfl) (F.e rfl))) (step_any l hI.1 _ _ x hd _ O_l.rd.1 O_l.rd.2.2 (by omega)) (fun e u hR => ?_)
     obtain ⟨A_44, c_44, he, O_n, hb⟩ := hR
     replace O_n := O_n.low M.bel.size
     refine ⟨.slice A_44 ((stepF l x).length) c_44, he, ?_⟩; clear he F a; intro a F
     refine hK _ _ ?_
     clear hK K
     replace O_l := O_l.below hb
     replace M := M.below hb; clear hb; try clear v
     clear O_l
     refine list_val F (wn rfl) rfl rfl (.slice A_44 ((stepF l x).length) c_44) (ex_assign _ rfl _ (F.e rfl)) ?_; clear F a; intro a F
     refine wpList_nil ?_
     replace F : Fr 157 a [(0, .slice (some ad) ss.length c), (2, .bool false), (3, .slice A_44 ((stepF l x).length) c_44), (4, .int .i64 ((i : Nat) : Int)), (22, .bool true), (38, .bool true)] := F.keep ⟨rfl, rfl, rfl, rfl, rfl, rfl, trivial⟩
     refine in_n ?_
     refine then_n ?_
     refine wp_region_lit ?_
     refine list_val F (wn rfl) rfl rfl (.int .i64 ((i : Nat) : Int)) (ex_move _ rfl _ (F.e rfl)) ?_; clear F a; intro a F
     refine list_val F (wn rfl) rfl rfl (.int .i64 ((i + 1 : Nat) : Int)) (ex_bin .add _ _ _ _ rfl .i64 _ _ (F.e rfl) rfl _ (b_add ((w_i64 (by omega) (by omega)).trans (by omega)))) ?_; clear F a; intro a F
     refine list_val F (wn rfl) rfl rfl (.int .i64 ((i + 1 : Nat) : Int)) (ex_assign _ rfl _ (F.e rfl)) ?_; clear F a; intro a F
     refine wpList_nil ?_
     replace F : Fr 157 a [(0, .slice (some ad) ss.length c), (2, .bool false), (3, .slice A_44 ((stepF l x).length) c_44), (4, .int .i64 ((i + 1 : Nat) : Int)), (22, .bool true), (38, .bool true)] := F.keep ⟨rfl, rfl, rfl, rfl, rfl, rfl, trivial⟩
     refine then_n ?_
     have O_l := O_n
     exact ⟨40 - (i + 1), by omega, (i + 1), A_44, c_44, (stepF l x), F.keep ⟨rfl, rfl, rfl, rfl, trivial⟩, (by refine M.pick' [] _ ?_ (by decide); exact trivial), O_l, (by omega), (fold_yes hl hx), (by omega)⟩
    refine wp_region_lit ?_
    refine list_val F (wn rfl) rfl rfl (.slice (some ad) ss.length c) (ex_move _ rfl _ (F.e rfl)) ?_; clear F a; intro a F
    refine list_val F (wn rfl) rfl rfl (.int .i64 ((i : Nat) : Int)) (ex_move _ rfl _ (F.e rfl)) ?_; clear F a; intro a F
    refine list_val F (wn rfl) rfl rfl (.pointer (some (ad.add (i * 20)))) (ex_ix _ _ _ rfl 20 r8_sl_22_20 ad _ _ (F.e rfl) .i64 _ (F.e rfl) i rfl (by omega) (ad.add (i * 20)) rfl) ?_; clear F a; intro a F
    refine list_val F (wn rfl) rfl rfl (.pointer (some (ad.add (i * 20)))) (ex_fa _ _ _ rfl _ (F.e rfl) 0 r8_fa_29_0_0 (ad.add (i * 20)) rfl) ?_; clear F a; intro a F
    refine list_val F (wn rfl) rfl rfl (.int .i64 x.do_) (ex_load _ _ rfl _ (F.e rfl) _ (lv1 r8_one_3 ((z.below M.bel).cell 0 _ (St.cs_0 _)))) ?_; clear F a; intro a F
    refine list_val F (wn rfl) rfl rfl (.bool false) (ex_bin .eql _ _ _ _ rfl .i64 _ _ (F.e rfl) rfl _ (b_eql (by simp [hd1]))) ?_; clear F a; intro a F
    refine list_val F (wn rfl) rfl rfl (.bool false) (ex_move _ rfl _ (F.e rfl)) ?_; clear F a; intro a F
    refine list_val F (F.wants 31 false rfl (by kernel_rfl) rfl true rfl) rfl rfl (.slice (some ad) ss.length c) (ex_move _ rfl _ (F.e rfl)) ?_; clear F a; intro a F
    refine list_val F (F.wants 31 false rfl (by kernel_rfl) rfl true rfl) rfl rfl (.int .i64 ((i : Nat) : Int)) (ex_move _ rfl _ (F.e rfl)) ?_; clear F a; intro a F
    refine list_val F (F.wants 31 false rfl (by kernel_rfl) rfl true rfl) rfl rfl (.pointer (some (ad.add (i * 20)))) (ex_ix _ _ _ rfl 20 r8_sl_22_20 ad _ _ (F.e rfl) .i64 _ (F.e rfl) i rfl (by omega) (ad.add (i * 20)) rfl) ?_; clear F a; intro a F
    refine list_val F (F.wants 31 false rfl (by kernel_rfl) rfl true rfl) rfl rfl (.pointer (some (ad.add (i * 20)))) (ex_fa _ _ _ rfl _ (F.e rfl) 0 r8_fa_29_0_0 (ad.add (i * 20)) rfl) ?_; clear F a; intro a F
    refine list_val F (F.wants 31 false rfl (by kernel_rfl) rfl true rfl) rfl rfl (.int .i64 x.do_) (ex_load _ _ rfl _ (F.e rfl) _ (lv1 r8_one_3 ((z.below M.bel).cell 0 _ (St.cs_0 _)))) ?_; clear F a; intro a F
    refine list_val F (F.wants 31 false rfl (by kernel_rfl) rfl true rfl) rfl rfl (.bool false) (ex_bin .eql _ _ _ _ rfl .i64 _ _ (F.e rfl) rfl _ (b_eql (by simp [hd2]))) ?_; clear F a; intro a F
    refine list_val F (wn rfl) rfl rfl (.bool false) (ex_pick_f _ _ _ rfl (F.e rfl) _ (F.e rfl)) ?_; clear F a; intro a F
    refine wpList_nil ?_
    replace F : Fr 157 a [(0, .slice (some ad) ss.length c), (2, .bool false), (3, .slice A_l l.length c_l), (4, .int .i64 ((i : Nat) : Int)), (22, .bool true), (38, .bool false)] := F.keep ⟨rfl, rfl, rfl, rfl, rfl, rfl, trivial⟩
    refine then_n ?_
    refine wp_cond_false (F.e rfl) ?_
    refine wp_skip ?_
    refine in_n ?_
    refine then_n ?_
    refine wp_region_lit ?_
    refine list_val F (wn rfl) rfl rfl (.int .i64 ((i : Nat) : Int)) (ex_move _ rfl _ (F.e rfl)) ?_; clear F a; intro a F
    refine list_val F (wn rfl) rfl rfl (.int .i64 ((i + 1 : Nat) : Int)) (ex_bin .add _ _ _ _ rfl .i64 _ _ (F.e rfl) rfl _ (b_add ((w_i64 (by omega) (by omega)).trans (by omega)))) ?_; clear F a; intro a F
    refine list_val F (wn rfl) rfl rfl (.int .i64 ((i + 1 : Nat) : Int)) (ex_assign _ rfl _ (F.e rfl)) ?_; clear F a; intro a F
    refine wpList_nil ?_
    replace F : Fr 157 a [(0, .slice (some ad) ss.length c), (2, .bool false), (3, .slice A_l l.length c_l), (4, .int .i64 ((i + 1 : Nat) : Int)), (22, .bool true), (38, .bool false)] := F.keep ⟨rfl, rfl, rfl, rfl, rfl, rfl, trivial⟩
    refine then_n ?_
    exact ⟨40 - (i + 1), by omega, (i + 1), A_l, c_l, l, F.keep ⟨rfl, rfl, rfl, rfl, trivial⟩, (by refine M.pick' [] _ ?_ (by decide); exact trivial), O_l, (by omega), (fold_no hl hx hd1 hd2), (by omega)⟩
   refine wp_seq ?_
   refine wp_seq ?_
   refine wp_region_lit ?_
   refine list_val F (wn rfl) rfl rfl (.int .i64 ((i : Nat) : Int)) (ex_move _ rfl _ (F.e rfl)) ?_; clear F a; intro a F
   refine list_val F (wn rfl) rfl rfl (.slice A ss.length c) (ex_move _ rfl _ (F.e rfl)) ?_; clear F a; intro a F
   refine list_val F (wn rfl) rfl rfl (.int .i64 ((ss.length : Nat) : Int)) (ex_len _ _ rfl 20 r8_sl_22_20 _ _ _ (F.e rfl)) ?_; clear F a; intro a F
   refine list_val F (wn rfl) rfl rfl (.bool true) (ex_bin .lss _ _ _ _ rfl .i64 _ _ (F.e rfl) (F.e rfl) _ (b_lss (decide_eq_true (by omega)))) ?_; clear F a; intro a F
   refine list_val F (wn rfl) rfl rfl (.bool true) (ex_move _ rfl _ (F.e rfl)) ?_; clear F a; intro a F
   refine list_val F (F.wants 19 true rfl (by kernel_rfl) rfl true rfl) rfl rfl (.int .i64 ((i : Nat) : Int)) (ex_move _ rfl _ (F.e rfl)) ?_; clear F a; intro a F
   refine list_val F (F.wants 19 true rfl (by kernel_rfl) rfl true rfl) rfl rfl (.bool false) (ex_bin .lss _ _ _ _ rfl .i64 _ _ (F.e rfl) rfl _ (b_lss (decide_eq_false (by omega)))) ?_; clear F a; intro a F
   refine list_val F (wn rfl) rfl rfl (.bool false) (ex_pick_t _ _ _ rfl (F.e rfl) _ (F.e rfl)) ?_; clear F a; intro a F
   refine wpList_nil ?_
   replace F : Fr 157 a [(0, .slice A ss.length c), (2, .bool false), (3, .slice A_l l.length c_l), (4, .int .i64 ((i : Nat) : Int)), (22, .bool false)] := F.keep ⟨rfl, rfl, rfl, rfl, rfl, trivial⟩
   refine then_n ?_
   refine wp_cond_false (F.e rfl) ?_
   refine wp_exit ?_
   refine then_x ?_
   refine then_x ?_
   refine in_hit ?_
   refine only_n ?_
   exact ⟨A_l, c_l, l, F.keep ⟨rfl, rfl, rfl, trivial⟩, (by refine M.pick' [] _ ?_ (by decide); exact trivial), O_l, (fold_is hl).1, (by have := (fold_is hl).2; omega)⟩
  refine wp_seq ?_
  refine wp_seq ?_
  refine wp_region_lit ?_
  refine list_val F (wn rfl) rfl rfl (.int .i64 ((i : Nat) : Int)) (ex_move _ rfl _ (F.e rfl)) ?_; clear F a; intro a F
  refine list_val F (wn rfl) rfl rfl (.slice A ss.length c) (ex_move _ rfl _ (F.e rfl)) ?_; clear F a; intro a F
  refine list_val F (wn rfl) rfl rfl (.int .i64 ((ss.length : Nat) : Int)) (ex_len _ _ rfl 20 r8_sl_22_20 _ _ _ (F.e rfl)) ?_; clear F a; intro a F
  refine list_val F (wn rfl) rfl rfl (.bool false) (ex_bin .lss _ _ _ _ rfl .i64 _ _ (F.e rfl) (F.e rfl) _ (b_lss (decide_eq_false (by omega)))) ?_; clear F a; intro a F
  refine list_val F (wn rfl) rfl rfl (.bool false) (ex_move _ rfl _ (F.e rfl)) ?_; clear F a; intro a F
  refine list_skip F (F.wants 19 false rfl (by kernel_rfl) rfl false rfl) rfl rfl ?_; clear F a; intro a F
  refine list_skip F (F.wants 19 false rfl (by kernel_rfl) rfl false rfl) rfl rfl ?_; clear F a; intro a F
  refine list_val F (wn rfl) rfl rfl (.bool false) (ex_pick_f _ _ _ rfl (F.e rfl) _ rfl) ?_; clear F a; intro a F
  refine wpList_nil ?_
  replace F : Fr 157 a [(0, .slice A ss.length c), (2, .bool false), (3, .slice A_l l.length c_l), (4, .int .i64 ((i : Nat) : Int)), (22, .bool false)] := F.keep ⟨rfl, rfl, rfl, rfl, rfl, trivial⟩
  refine then_n ?_
  refine wp_cond_false (F.e rfl) ?_
  refine wp_exit ?_
  refine then_x ?_
  refine then_x ?_
  refine in_hit ?_
  refine only_n ?_
  exact ⟨A_l, c_l, l, F.keep ⟨rfl, rfl, rfl, trivial⟩, (by refine M.pick' [] _ ?_ (by decide); exact trivial), O_l, (fold_is hl).1, (by have := (fold_is hl).2; omega)⟩
 clear F M a O_l
 intro a v hR; obtain ⟨A_l, c_l, l, F, M, O_l, hI, hl40⟩ := hR; try clear w
 refine then_n ?_
 refine wp_seq ?_
 refine wp_seq ?_
 refine wp_region_lit ?_
 refine list_val F (wn rfl) rfl rfl (.int .i64 1) (ex_assign _ rfl _ rfl) ?_; clear F a; intro a F
 refine wpList_nil ?_
 replace F : Fr 157 a [(0, .slice A ss.length c), (2, .bool false), (3, .slice A_l l.length c_l), (5, .int .i64 1)] := F.keep ⟨rfl, rfl, rfl, rfl, trivial⟩
 refine then_n ?_
 refine wp_block ?_
 refine wp_loopN (fun mq ar wr => ∃ (r : Nat), Fr 157 ar [(0, .slice A ss.length c), (2, .bool false), (3, .slice A_l l.length c_l), (5, .int .i64 ((r + 1 : Nat) : Int))] ∧ Mm w wr [] ∧ Ow kRv 48 wr w.heap.size (.slice A_l l.length c_l) l ∧ r + 1 ≤ 20 ∧ mq + r = 20) 20 ?_ ?_
 ·
  exact ⟨0, F.keep ⟨rfl, rfl, rfl, rfl, trivial⟩, M, O_l, (by decide), (by omega)⟩
 clear F M a O_l
 rintro mq a u ⟨r, F, M, O_l, hr20, hq⟩; try clear v
 by_cases hin : r + 1 < ss.length
 ·
  by_cases hi20 : r + 1 < 20
  ·
   obtain ⟨o, ho⟩ : ∃ o, ss[r + 1]? = some o := ⟨_, List.getElem?_eq_getElem (by omega)⟩
   obtain ⟨p, hp⟩ : ∃ p, ss[r]? = some p := ⟨_, List.getElem?_eq_getElem (by omega)⟩
   obtain ⟨ad, hA, z⟩ := C_ix hr ho
   obtain ⟨ad2, hA2, zp⟩ := C_ix hr hp
   subst hA
   obtain rfl := Option.some.inj hA2
   refine wp_seq ?_
   refine wp_seq ?_
   refine wp_region_lit ?_
   refine list_val F (wn rfl) rfl rfl (.int .i64 ((r + 1 : Nat) : Int)) (ex_move _ rfl _ (F.e rfl)) ?_; clear F a; intro a F
   refine list_val F (wn rfl) rfl rfl (.slice (some ad) ss.length c) (ex_move _ rfl _ (F.e rfl)) ?_; clear F a; intro a F
   refine list_val F (wn rfl) rfl rfl (.int .i64 ((ss.length : Nat) : Int)) (ex_len _ _ rfl 20 r8_sl_22_20 _ _ _ (F.e rfl)) ?_; clear F a; intro a F
   refine list_val F (wn rfl) rfl rfl (.bool true) (ex_bin .lss _ _ _ _ rfl .i64 _ _ (F.e rfl) (F.e rfl) _ (b_lss (decide_eq_true (by omega)))) ?_; clear F a; intro a F
   refine list_val F (wn rfl) rfl rfl (.bool true) (ex_move _ rfl _ (F.e rfl)) ?_; clear F a; intro a F
   refine list_val F (F.wants 49 true rfl (by kernel_rfl) rfl true rfl) rfl rfl (.int .i64 ((r + 1 : Nat) : Int)) (ex_move _ rfl _ (F.e rfl)) ?_; clear F a; intro a F
   refine list_val F (F.wants 49 true rfl (by kernel_rfl) rfl true rfl) rfl rfl (.bool true) (ex_bin .lss _ _ _ _ rfl .i64 _ _ (F.e rfl) rfl _ (b_lss (decide_eq_true (by omega)))) ?_; clear F a; intro a F
   refine list_val F (wn rfl) rfl rfl (.bool true) (ex_pick_t _ _ _ rfl (F.e rfl) _ (F.e rfl)) ?_; clear F a; intro a F
   refine wpList_nil ?_
   replace F : Fr 157 a [(0, .slice (some ad) ss.length c), (2, .bool false), (3, .slice A_l l.length c_l), (5, .int .i64 ((r + 1 : Nat) : Int)), (52, .bool true)] := F.keep ⟨rfl, rfl, rfl, rfl, rfl, trivial⟩
   refine then_n ?_
   refine wp_cond_true (F.e rfl) ?_
   refine wp_skip ?_
   refine then_n ?_
   refine wp_seq ?_
   refine wp_block ?_
   refine wp_seq ?_
   refine wp_region_lit ?_
   refine list_val F (wn rfl) rfl rfl (.slice (some ad) ss.length c) (ex_move _ rfl _ (F.e rfl)) ?_; clear F a; intro a F
   refine list_val F (wn rfl) rfl rfl (.int .i64 ((r + 1 : Nat) : Int)) (ex_move _ rfl _ (F.e rfl)) ?_; clear F a; intro a F
   refine list_val F (wn rfl) rfl rfl (.int .i64 ((r : Nat) : Int)) (ex_bin .sub _ _ _ _ rfl .i64 _ _ (F.e rfl) rfl _ (b_sub ((w_i64 (by omega) (by omega)).trans (by omega)))) ?_; clear F a; intro a F
   refine list_val F (wn rfl) rfl rfl (.pointer (some (ad.add (r * 20)))) (ex_ix _ _ _ rfl 20 r8_sl_22_20 ad _ _ (F.e rfl) .i64 _ (F.e rfl) r rfl (by omega) (ad.add (r * 20)) rfl) ?_; clear F a; intro a F
   refine list_val F (wn rfl) rfl rfl (.pointer (some ((ad.add (r * 20)).add 18))) (ex_fa _ _ _ rfl _ (F.e rfl) 18 r8_fa_29_3_18 ((ad.add (r * 20)).add 18) rfl) ?_; clear F a; intro a F
   refine list_val F (wn rfl) rfl rfl (.int .i64 p.exp) (ex_load _ _ rfl _ (F.e rfl) _ (lv1 r8_one_2 ((zp.below M.bel).cell 18 _ (St.cs_18 _)))) ?_; clear F a; intro a F
   refine list_val F (wn rfl) rfl rfl (.int .i64 p.exp) (ex_assign _ rfl _ (F.e rfl)) ?_; clear F a; intro a F
   refine wpList_nil ?_
   replace F : Fr 157 a [(0, .slice (some ad) ss.length c), (2, .bool false), (3, .slice A_l l.length c_l), (5, .int .i64 ((r + 1 : Nat) : Int)), (6, .int .i64 p.exp), (52, .bool true)] := F.keep ⟨rfl, rfl, rfl, rfl, rfl, rfl, trivial⟩
   refine then_n ?_
   refine wp_seq ?_
   refine wp_region_lit ?_
   refine list_val F (wn rfl) rfl rfl (.slice (some ad) ss.length c) (ex_move _ rfl _ (F.e rfl)) ?_; clear F a; intro a F
   refine list_val F (wn rfl) rfl rfl (.int .i64 ((r + 1 : Nat) : Int)) (ex_move _ rfl _ (F.e rfl)) ?_; clear F a; intro a F
   refine list_val F (wn rfl) rfl rfl (.pointer (some (ad.add ((r + 1) * 20)))) (ex_ix _ _ _ rfl 20 r8_sl_22_20 ad _ _ (F.e rfl) .i64 _ (F.e rfl) (r + 1) rfl (by omega) (ad.add ((r + 1) * 20)) rfl) ?_; clear F a; intro a F
   refine list_val F (wn rfl) rfl rfl (.pointer (some ((ad.add ((r + 1) * 20)).add 18))) (ex_fa _ _ _ rfl _ (F.e rfl) 18 r8_fa_29_3_18 ((ad.add ((r + 1) * 20)).add 18) rfl) ?_; clear F a; intro a F
   refine list_val F (wn rfl) rfl rfl (.int .i64 o.exp) (ex_load _ _ rfl _ (F.e rfl) _ (lv1 r8_one_2 ((z.below M.bel).cell 18 _ (St.cs_18 _)))) ?_; clear F a; intro a F
   refine list_val F (wn rfl) rfl rfl (.int .i64 o.exp) (ex_assign _ rfl _ (F.e rfl)) ?_; clear F a; intro a F
   refine wpList_nil ?_
   replace F : Fr 157 a [(0, .slice (some ad) ss.length c), (2, .bool false), (3, .slice A_l l.length c_l), (5, .int .i64 ((r + 1 : Nat) : Int)), (6, .int .i64 p.exp), (7, .int .i64 o.exp), (52, .bool true)] := F.keep ⟨rfl, rfl, rfl, rfl, rfl, rfl, rfl, trivial⟩
   refine then_n ?_
   refine wp_seq ?_
   refine wp_region_lit ?_
   refine list_val F (wn rfl) rfl rfl (.int .i64 p.exp) (ex_move _ rfl _ (F.e rfl)) ?_; clear F a; intro a F
   refine list_val F (wn rfl) rfl rfl (.int .i64 p.exp) (ex_assign _ rfl _ (F.e rfl)) ?_; clear F a; intro a F
   refine wpList_nil ?_
   replace F : Fr 157 a [(0, .slice (some ad) ss.length c), (2, .bool false), (3, .slice A_l l.length c_l), (5, .int .i64 ((r + 1 : Nat) : Int)), (6, .int .i64 p.exp), (7, .int .i64 o.exp), (8, .int .i64 p.exp), (52, .bool true)] := F.keep ⟨rfl, rfl, rfl, rfl, rfl, rfl, rfl, rfl, trivial⟩
   refine then_n ?_
   refine wp_seq ?_
   refine wp_only (fun ar wr => ∃ (late : Int), Fr 157 ar [(0, .slice (some ad) ss.length c), (2, .bool false), (3, .slice A_l l.length c_l), (5, .int .i64 ((r + 1 : Nat) : Int)), (6, .int .i64 p.exp), (7, .int .i64 o.exp), (8, .int .i64 late), (52, .bool true)] ∧ Mm w wr [] ∧ Ow kRv 48 wr w.heap.size (.slice A_l l.length c_l) l ∧ late = max p.exp o.exp) ?_ ?_
   ·
    refine wp_seq ?_
    by_cases hab : p.exp < o.exp
    ·
     refine wp_region_lit ?_
     refine list_val F (wn rfl) rfl rfl (.int .i64 o.exp) (ex_move _ rfl _ (F.e rfl)) ?_; clear F a; intro a F
     refine list_val F (wn rfl) rfl rfl (.int .i64 p.exp) (ex_move _ rfl _ (F.e rfl)) ?_; clear F a; intro a F
     refine list_val F (wn rfl) rfl rfl (.bool true) (ex_bin .gtr _ _ _ _ rfl .i64 _ _ (F.e rfl) (F.e rfl) _ (b_gtr (decide_eq_true hab))) ?_; clear F a; intro a F
     refine wpList_nil ?_
     replace F : Fr 157 a [(0, .slice (some ad) ss.length c), (2, .bool false), (3, .slice A_l l.length c_l), (5, .int .i64 ((r + 1 : Nat) : Int)), (6, .int .i64 p.exp), (7, .int .i64 o.exp), (8, .int .i64 p.exp), (52, .bool true), (69, .bool true)] := F.keep ⟨rfl, rfl, rfl, rfl, rfl, rfl, rfl, rfl, rfl, trivial⟩
     refine then_n ?_
     refine wp_cond_true (F.e rfl) ?_
     refine wp_region_lit ?_
     refine list_val F (wn rfl) rfl rfl (.int .i64 o.exp) (ex_move _ rfl _ (F.e rfl)) ?_; clear F a; intro a F
     refine list_val F (wn rfl) rfl rfl (.int .i64 o.exp) (ex_assign _ rfl _ (F.e rfl)) ?_; clear F a; intro a F
     refine wpList_nil ?_
     replace F : Fr 157 a [(0, .slice (some ad) ss.length c), (2, .bool false), (3, .slice A_l l.length c_l), (5, .int .i64 ((r + 1 : Nat) : Int)), (6, .int .i64 p.exp), (7, .int .i64 o.exp), (8, .int .i64 o.exp), (52, .bool true), (69, .bool true)] := F.keep ⟨rfl, rfl, rfl, rfl, rfl, rfl, rfl, rfl, rfl, trivial⟩
     refine only_n ?_
     exact ⟨o.exp, F.keep ⟨rfl, rfl, rfl, rfl, rfl, rfl, rfl, rfl, trivial⟩, (by refine M.pick' [] _ ?_ (by decide); exact trivial), O_l, (by omega)⟩
    refine wp_region_lit ?_
    refine list_val F (wn rfl) rfl rfl (.int .i64 o.exp) (ex_move _ rfl _ (F.e rfl)) ?_; clear F a; intro a F
    refine list_val F (wn rfl) rfl rfl (.int .i64 p.exp) (ex_move _ rfl _ (F.e rfl)) ?_; clear F a; intro a F
    refine list_val F (wn rfl) rfl rfl (.bool false) (ex_bin .gtr _ _ _ _ rfl .i64 _ _ (F.e rfl) (F.e rfl) _ (b_gtr (decide_eq_false hab))) ?_; clear F a; intro a F
    refine wpList_nil ?_
    replace F : Fr 157 a [(0, .slice (some ad) ss.length c), (2, .bool false), (3, .slice A_l l.length c_l), (5, .int .i64 ((r + 1 : Nat) : Int)), (6, .int .i64 p.exp), (7, .int .i64 o.exp), (8, .int .i64 p.exp), (52, .bool true), (69, .bool false)] := F.keep ⟨rfl, rfl, rfl, rfl, rfl, rfl, rfl, rfl, rfl, trivial⟩
    refine then_n ?_
    refine wp_cond_false (F.e rfl) ?_
    refine wp_skip ?_
    refine only_n ?_
    exact ⟨p.exp, F.keep ⟨rfl, rfl, rfl, rfl, rfl, rfl, rfl, rfl, trivial⟩, (by refine M.pick' [] _ ?_ (by decide); exact trivial), O_l, (by omega)⟩
   clear F M a O_l
   intro a v hR; obtain ⟨late, F, M, O_l, hlate⟩ := hR; try clear u
   have hIp := hI.prune late
   have hpl := prune_len l late
   have hIk := hIp.kill o.grant late
   have hkl := kill_len _ o.grant late hIp
   refine then_n ?_
   refine wp_seq ?_
   refine wp_region_lit ?_
   refine list_val F (wn rfl) rfl rfl (.slice A_l l.length c_l) (ex_move _ rfl _ (F.e rfl)) ?_; clear F a; intro a F
   refine list_do (wn rfl) (fun K hK => ?_)
   refine ow_call rfl rfl F 19 #[.slice A_l l.length c_l] (ex_call 19 _ _ rfl rfl r8_ent_19 _ (map1 (F.e rfl))) (copy_any l _ _ _ O_l.rd.1 (by omega)) (fun e u hR => ?_)
   obtain ⟨A_72, c_72, he, O_72, hb⟩ := hR
   replace O_72 := O_72.low M.bel.size
   refine ⟨.slice A_72 l.length c_72, he, ?_⟩; clear he F a; intro a F
   refine hK _ _ ?_
   clear hK K
   replace O_l := O_l.below hb
   replace M := M.below hb; clear hb; try clear v
   refine list_val F (wn rfl) rfl rfl (.int .i64 p.exp) (ex_move _ rfl _ (F.e rfl)) ?_; clear F a; intro a F
   refine list_do (wn rfl) (fun K hK => ?_)
   refine ow_call rfl rfl F 10 #[.slice A_72 l.length c_72, .int .i64 p.exp] (ex_call 10 _ _ rfl rfl r8_ent_10 _ (map2 (F.e rfl) (F.e rfl))) (prune_any l hI _ _ p.exp _ O_72.rd.1 O_72.rd.2.2 (by have := prune_len l p.exp; have := prune_len l o.exp; omega)) (fun e v hR => ?_)
   obtain ⟨A_74, c_74, he, O_74, hb⟩ := hR
   replace O_74 := O_74.low M.bel.size
   refine ⟨.slice A_74 ((pruneF l p.exp).length) c_74, he, ?_⟩; clear he F a; intro a F
   refine hK _ _ ?_
   clear hK K
   replace O_l := O_l.below hb
   replace O_72 := O_72.below hb
   replace M := M.below hb; clear hb; try clear u
   clear O_72
   refine list_val F (wn rfl) rfl rfl (.int .i64 o.exp) (ex_move _ rfl _ (F.e rfl)) ?_; clear F a; intro a F
   refine list_do (wn rfl) (fun K hK => ?_)
   refine ow_call rfl rfl F 10 #[.slice A_74 ((pruneF l p.exp).length) c_74, .int .i64 o.exp] (ex_call 10 _ _ rfl rfl r8_ent_10 _ (map2 (F.e rfl) (F.e rfl))) (prune_any (pruneF l p.exp) (hI.prune _) _ _ o.exp _ O_74.rd.1 O_74.rd.2.2 (by have := prune_len l p.exp; have := prune_len l o.exp; omega)) (fun e u hR => ?_)
   obtain ⟨A_76, c_76, he, O_76, hb⟩ := hR
   rw [pr_two l hlate] at he O_76
   replace O_76 := O_76.low M.bel.size
   refine ⟨.slice A_76 ((pruneF l late).length) c_76, he, ?_⟩; clear he F a; intro a F
   refine hK _ _ ?_
   clear hK K
   replace O_l := O_l.below hb
   replace O_74 := O_74.below hb
   replace M := M.below hb; clear hb; try clear v
   clear O_74
   refine list_val F (wn rfl) rfl rfl (.slice A_76 ((pruneF l late).length) c_76) (ex_assign _ rfl _ (F.e rfl)) ?_; clear F a; intro a F
   refine wpList_nil ?_
   replace F : Fr 157 a [(0, .slice (some ad) ss.length c), (2, .bool false), (3, .slice A_l l.length c_l), (5, .int .i64 ((r + 1 : Nat) : Int)), (6, .int .i64 p.exp), (7, .int .i64 o.exp), (8, .int .i64 late), (9, .slice A_76 ((pruneF l late).length) c_76), (52, .bool true)] := F.keep ⟨rfl, rfl, rfl, rfl, rfl, rfl, rfl, rfl, rfl, trivial⟩
   refine then_n ?_
   refine wp_seq ?_
   refine wp_region_lit ?_
   refine list_val F (wn rfl) rfl rfl (.slice A_l l.length c_l) (ex_move _ rfl _ (F.e rfl)) ?_; clear F a; intro a F
   refine list_do (wn rfl) (fun K hK => ?_)
   refine ow_call rfl rfl F 19 #[.slice A_l l.length c_l] (ex_call 19 _ _ rfl rfl r8_ent_19 _ (map1 (F.e rfl))) (copy_any l _ _ _ O_l.rd.1 (by omega)) (fun e v hR => ?_)
   obtain ⟨A_78, c_78, he, O_78, hb⟩ := hR
   replace O_78 := O_78.low M.bel.size
   refine ⟨.slice A_78 l.length c_78, he, ?_⟩; clear he F a; intro a F
   refine hK _ _ ?_
   clear hK K
   replace O_l := O_l.below hb
   replace O_76 := O_76.below hb
   replace M := M.below hb; clear hb; try clear u
   refine list_val F (wn rfl) rfl rfl (.int .i64 o.exp) (ex_move _ rfl _ (F.e rfl)) ?_; clear F a; intro a F
   refine list_do (wn rfl) (fun K hK => ?_)
   refine ow_call rfl rfl F 10 #[.slice A_78 l.length c_78, .int .i64 o.exp] (ex_call 10 _ _ rfl rfl r8_ent_10 _ (map2 (F.e rfl) (F.e rfl))) (prune_any l hI _ _ o.exp _ O_78.rd.1 O_78.rd.2.2 (by have := prune_len l p.exp; have := prune_len l o.exp; omega)) (fun e u hR => ?_)
   obtain ⟨A_80, c_80, he, O_80, hb⟩ := hR
   replace O_80 := O_80.low M.bel.size
   refine ⟨.slice A_80 ((pruneF l o.exp).length) c_80, he, ?_⟩; clear he F a; intro a F
   refine hK _ _ ?_
   clear hK K
   replace O_l := O_l.below hb
   replace O_76 := O_76.below hb
   replace O_78 := O_78.below hb
   replace M := M.below hb; clear hb; try clear v
   clear O_78
   refine list_val F (wn rfl) rfl rfl (.int .i64 p.exp) (ex_move _ rfl _ (F.e rfl)) ?_; clear F a; intro a F
   refine list_do (wn rfl) (fun K hK => ?_)
   refine ow_call rfl rfl F 10 #[.slice A_80 ((pruneF l o.exp).length) c_80, .int .i64 p.exp] (ex_call 10 _ _ rfl rfl r8_ent_10 _ (map2 (F.e rfl) (F.e rfl))) (prune_any (pruneF l o.exp) (hI.prune _) _ _ p.exp _ O_80.rd.1 O_80.rd.2.2 (by have := prune_len l p.exp; have := prune_len l o.exp; omega)) (fun e v hR => ?_)
   obtain ⟨A_82, c_82, he, O_82, hb⟩ := hR
   rw [pr_two' l hlate] at he O_82
   replace O_82 := O_82.low M.bel.size
   refine ⟨.slice A_82 ((pruneF l late).length) c_82, he, ?_⟩; clear he F a; intro a F
   refine hK _ _ ?_
   clear hK K
   replace O_l := O_l.below hb
   replace O_76 := O_76.below hb
   replace O_80 := O_80.below hb
   replace M := M.below hb; clear hb; try clear u
   clear O_80
   refine list_val F (wn rfl) rfl rfl (.slice A_82 ((pruneF l late).length) c_82) (ex_assign _ rfl _ (F.e rfl)) ?_; clear F a; intro a F
   refine wpList_nil ?_
   replace F : Fr 157 a [(0, .slice (some ad) ss.length c), (2, .bool false), (3, .slice A_l l.length c_l), (5, .int .i64 ((r + 1 : Nat) : Int)), (6, .int .i64 p.exp), (7, .int .i64 o.exp), (8, .int .i64 late), (9, .slice A_76 ((pruneF l late).length) c_76), (10, .slice A_82 ((pruneF l late).length) c_82), (52, .bool true)] := F.keep ⟨rfl, rfl, rfl, rfl, rfl, rfl, rfl, rfl, rfl, rfl, trivial⟩
   refine then_n ?_
   refine wp_seq ?_
   refine wp_seq ?_
   refine wp_region_lit ?_
   refine list_val F (wn rfl) rfl rfl (.slice A_76 ((pruneF l late).length) c_76) (ex_move _ rfl _ (F.e rfl)) ?_; clear F a; intro a F
   refine list_val F (wn rfl) rfl rfl (.slice A_82 ((pruneF l late).length) c_82) (ex_move _ rfl _ (F.e rfl)) ?_; clear F a; intro a F
   refine list_do (wn rfl) (fun K hK => ?_)
   refine ow_call rfl rfl F 18 #[.slice A_76 ((pruneF l late).length) c_76, .slice A_82 ((pruneF l late).length) c_82] (ex_call 18 _ _ rfl rfl r8_ent_18 _ (map2 (F.e rfl) (F.e rfl))) (eq_any (pruneF l late) _ _ _ _ _ O_76.rd.1 O_82.rd.1 (by omega)) (fun e u hR => ?_)
   obtain ⟨he, hb⟩ := hR
   refine ⟨.bool true, he, ?_⟩; clear he F a; intro a F
   refine hK _ _ ?_
   clear hK K
   replace O_l := O_l.below hb
   replace O_76 := O_76.below hb
   replace O_82 := O_82.below hb
   replace M := M.below hb; clear hb; try clear v
   refine list_val F (wn rfl) rfl rfl (.bool false) (ex_not _ _ rfl _ (F.e rfl) _ rfl) ?_; clear F a; intro a F
   refine list_val F (wn rfl) rfl rfl (.bool false) (ex_move _ rfl _ (F.e rfl)) ?_; clear F a; intro a F
   refine list_val F (F.wants 87 false rfl (by kernel_rfl) rfl true rfl) rfl rfl (.slice A_76 ((pruneF l late).length) c_76) (ex_move _ rfl _ (F.e rfl)) ?_; clear F a; intro a F
   refine list_val F (F.wants 87 false rfl (by kernel_rfl) rfl true rfl) rfl rfl (.slice A_l l.length c_l) (ex_move _ rfl _ (F.e rfl)) ?_; clear F a; intro a F
   refine list_do (F.wants 87 false rfl (by kernel_rfl) rfl true rfl) (fun K hK => ?_)
   refine ow_call rfl rfl F 19 #[.slice A_l l.length c_l] (ex_call 19 _ _ rfl rfl r8_ent_19 _ (map1 (F.e rfl))) (copy_any l _ _ _ O_l.rd.1 (by omega)) (fun e v hR => ?_)
   obtain ⟨A_90, c_90, he, O_90, hb⟩ := hR
   replace O_90 := O_90.low M.bel.size
   refine ⟨.slice A_90 l.length c_90, he, ?_⟩; clear he F a; intro a F
   refine hK _ _ ?_
   clear hK K
   replace O_l := O_l.below hb
   replace O_76 := O_76.below hb
   replace O_82 := O_82.below hb
   replace M := M.below hb; clear hb; try clear u
   refine list_val F (F.wants 87 false rfl (by kernel_rfl) rfl true rfl) rfl rfl (.int .i64 late) (ex_move _ rfl _ (F.e rfl)) ?_; clear F a; intro a F
   refine list_do (F.wants 87 false rfl (by kernel_rfl) rfl true rfl) (fun K hK => ?_)
   refine ow_call rfl rfl F 10 #[.slice A_90 l.length c_90, .int .i64 late] (ex_call 10 _ _ rfl rfl r8_ent_10 _ (map2 (F.e rfl) (F.e rfl))) (prune_any l hI _ _ late _ O_90.rd.1 O_90.rd.2.2 (by have := prune_len l p.exp; have := prune_len l o.exp; omega)) (fun e u hR => ?_)
   obtain ⟨A_92, c_92, he, O_92, hb⟩ := hR
   replace O_92 := O_92.low M.bel.size
   refine ⟨.slice A_92 ((pruneF l late).length) c_92, he, ?_⟩; clear he F a; intro a F
   refine hK _ _ ?_
   clear hK K
   replace O_l := O_l.below hb
   replace O_76 := O_76.below hb
   replace O_82 := O_82.below hb
   replace O_90 := O_90.below hb
   replace M := M.below hb; clear hb; try clear v
   clear O_90
   refine list_do (F.wants 87 false rfl (by kernel_rfl) rfl true rfl) (fun K hK => ?_)
   refine ow_call rfl rfl F 18 #[.slice A_76 ((pruneF l late).length) c_76, .slice A_92 ((pruneF l late).length) c_92] (ex_call 18 _ _ rfl rfl r8_ent_18 _ (map2 (F.e rfl) (F.e rfl))) (eq_any (pruneF l late) _ _ _ _ _ O_76.rd.1 O_92.rd.1 (by omega)) (fun e v hR => ?_)
   obtain ⟨he, hb⟩ := hR
   refine ⟨.bool true, he, ?_⟩; clear he F a; intro a F
   refine hK _ _ ?_
   clear hK K
   replace O_l := O_l.below hb
   replace O_76 := O_76.below hb
   replace O_82 := O_82.below hb
   replace O_92 := O_92.below hb
   replace M := M.below hb; clear hb; try clear u
   refine list_val F (F.wants 87 false rfl (by kernel_rfl) rfl true rfl) rfl rfl (.bool false) (ex_not _ _ rfl _ (F.e rfl) _ rfl) ?_; clear F a; intro a F
   refine list_val F (wn rfl) rfl rfl (.bool false) (ex_pick_f _ _ _ rfl (F.e rfl) _ (F.e rfl)) ?_; clear F a; intro a F
   refine wpList_nil ?_
   replace F : Fr 157 a [(0, .slice (some ad) ss.length c), (2, .bool false), (3, .slice A_l l.length c_l), (5, .int .i64 ((r + 1 : Nat) : Int)), (6, .int .i64 p.exp), (7, .int .i64 o.exp), (8, .int .i64 late), (9, .slice A_76 ((pruneF l late).length) c_76), (10, .slice A_82 ((pruneF l late).length) c_82), (52, .bool true), (95, .bool false)] := F.keep ⟨rfl, rfl, rfl, rfl, rfl, rfl, rfl, rfl, rfl, rfl, rfl, trivial⟩
   refine then_n ?_
   refine wp_cond_false (F.e rfl) ?_
   refine wp_skip ?_
   refine then_n ?_
   refine wp_seq ?_
   clear O_82
   clear O_92
   obtain ⟨bs, hbs⟩ : ∃ bs, bs = v.heap.size := ⟨_, rfl⟩
   have LT_l : ∀ k, (Value.slice A_l l.length c_l).ownBlock = some k → k < bs := fun k hk => by rw [hbs]; exact (O_l.bound hk).2.1
   have LT_x : ∀ k, (Value.slice A_76 ((pruneF l late).length) c_76).ownBlock = some k → k < bs := fun k hk => by rw [hbs]; exact (O_76.bound hk).2.1
   have SB : bs ≤ v.heap.size := by rw [hbs]; exact Nat.le_refl _
   have hw0 : w.heap.size ≤ bs := by rw [hbs]; exact M.bel.size
   clear hbs
   have O_w : Ow kRv 48 v bs (.slice none 0 0) [] := Ow.nil _ _ _ _
   refine wp_region_lit ?_
   refine list_val F (wn rfl) rfl rfl (.slice none 0 0) (ex_assign _ rfl _ rfl) ?_; clear F a; intro a F
   refine wpList_nil ?_
   replace F : Fr 157 a [(0, .slice (some ad) ss.length c), (2, .bool false), (3, .slice A_l l.length c_l), (5, .int .i64 ((r + 1 : Nat) : Int)), (6, .int .i64 p.exp), (7, .int .i64 o.exp), (8, .int .i64 late), (9, .slice A_76 ((pruneF l late).length) c_76), (10, .slice A_82 ((pruneF l late).length) c_82), (11, .slice none 0 0), (52, .bool true), (95, .bool false)] := F.keep ⟨rfl, rfl, rfl, rfl, rfl, rfl, rfl, rfl, rfl, rfl, rfl, rfl, trivial⟩
   refine then_n ?_
   refine wp_seq ?_
   refine wp_seq ?_
   refine wp_region_lit ?_
   refine list_val F (wn rfl) rfl rfl (.int .i64 0) (ex_assign _ rfl _ rfl) ?_; clear F a; intro a F
   refine wpList_nil ?_
   replace F : Fr 157 a [(0, .slice (some ad) ss.length c), (2, .bool false), (3, .slice A_l l.length c_l), (5, .int .i64 ((r + 1 : Nat) : Int)), (6, .int .i64 p.exp), (7, .int .i64 o.exp), (8, .int .i64 late), (9, .slice A_76 ((pruneF l late).length) c_76), (10, .slice A_82 ((pruneF l late).length) c_82), (11, .slice none 0 0), (12, .int .i64 0), (52, .bool true), (95, .bool false)] := F.keep ⟨rfl, rfl, rfl, rfl, rfl, rfl, rfl, rfl, rfl, rfl, rfl, rfl, rfl, trivial⟩
   refine then_n ?_
   refine wp_block ?_
   refine wp_loopN (fun mq ar wr => ∃ (k : Nat), ∃ (A_w : Option Addr), ∃ (c_w : Nat), ∃ (wl : List Rv), Fr 157 ar [(0, .slice (some ad) ss.length c), (2, .bool false), (3, .slice A_l l.length c_l), (5, .int .i64 ((r + 1 : Nat) : Int)), (6, .int .i64 p.exp), (7, .int .i64 o.exp), (8, .int .i64 late), (9, .slice A_76 ((pruneF l late).length) c_76), (10, .slice A_82 ((pruneF l late).length) c_82), (11, .slice A_w wl.length c_w), (12, .int .i64 ((k : Nat) : Int)), (52, .bool true), (95, .bool false)] ∧ Mm w wr [] ∧ Ow kRv 48 wr w.heap.size (.slice A_l l.length c_l) l ∧ Ow kRv 48 wr w.heap.size (.slice A_76 ((pruneF l late).length) c_76) (pruneF l late) ∧ bs ≤ wr.heap.size ∧ Ow kRv 48 wr bs (.slice A_w wl.length c_w) wl ∧ k ≤ l.length ∧ wl = pruneF (l.take k) late ∧ mq + k = l.length) l.length ?_ ?_
   ·
    exact ⟨0, none, 0, [], F.keep ⟨rfl, rfl, rfl, rfl, rfl, rfl, rfl, rfl, rfl, rfl, rfl, rfl, rfl, trivial⟩, M, O_l, O_76, SB, O_w, (Nat.zero_le _), (by simp [pruneF]), (by omega)⟩
   clear F M a O_l O_76 SB O_w
   rintro mq a u ⟨k, A_w, c_w, wl, F, M, O_l, O_76, SB, O_w, hk, hwl, hq⟩; try clear v
   by_cases hkn : k < l.length
   ·
    obtain ⟨xl, hxl⟩ : ∃ x, l[k]? = some x := ⟨_, List.getElem?_eq_getElem (by omega)⟩
    obtain ⟨adl, hAl, zl⟩ := C_ix O_l.rd.1 hxl
    subst hAl
    refine wp_seq ?_
    refine wp_seq ?_
    refine wp_region_lit ?_
    refine list_val F (wn rfl) rfl rfl (.int .i64 ((k : Nat) : Int)) (ex_move _ rfl _ (F.e rfl)) ?_; clear F a; intro a F
    refine list_val F (wn rfl) rfl rfl (.slice (some adl) l.length c_l) (ex_move _ rfl _ (F.e rfl)) ?_; clear F a; intro a F
    refine list_val F (wn rfl) rfl rfl (.int .i64 ((l.length : Nat) : Int)) (ex_len _ _ rfl 19 r8_sl_23_19 _ _ _ (F.e rfl)) ?_; clear F a; intro a F
    refine list_val F (wn rfl) rfl rfl (.bool true) (ex_bin .lss _ _ _ _ rfl .i64 _ _ (F.e rfl) (F.e rfl) _ (b_lss (decide_eq_true (by omega)))) ?_; clear F a; intro a F
    refine wpList_nil ?_
    replace F : Fr 157 a [(0, .slice (some ad) ss.length c), (2, .bool false), (3, .slice (some adl) l.length c_l), (5, .int .i64 ((r + 1 : Nat) : Int)), (6, .int .i64 p.exp), (7, .int .i64 o.exp), (8, .int .i64 late), (9, .slice A_76 ((pruneF l late).length) c_76), (10, .slice A_82 ((pruneF l late).length) c_82), (11, .slice A_w wl.length c_w), (12, .int .i64 ((k : Nat) : Int)), (52, .bool true), (95, .bool false), (99, .bool true)] := F.keep ⟨rfl, rfl, rfl, rfl, rfl, rfl, rfl, rfl, rfl, rfl, rfl, rfl, rfl, rfl, trivial⟩
    refine then_n ?_
    refine wp_cond_true (F.e rfl) ?_
    refine wp_skip ?_
    refine then_n ?_
    refine wp_seq ?_
    refine wp_block ?_
    refine wp_seq ?_
    by_cases hgt : late < xl.exp
    ·
     refine wp_region_lit ?_
     refine list_val F (wn rfl) rfl rfl (.slice (some adl) l.length c_l) (ex_move _ rfl _ (F.e rfl)) ?_; clear F a; intro a F
     refine list_val F (wn rfl) rfl rfl (.int .i64 ((k : Nat) : Int)) (ex_move _ rfl _ (F.e rfl)) ?_; clear F a; intro a F
     refine list_val F (wn rfl) rfl rfl (.pointer (some (adl.add (k * 19)))) (ex_ix _ _ _ rfl 19 r8_sl_23_19 adl _ _ (F.e rfl) .i64 _ (F.e rfl) k rfl (by omega) (adl.add (k * 19)) rfl) ?_; clear F a; intro a F
     refine list_val F (wn rfl) rfl rfl (.pointer (some ((adl.add (k * 19)).add 18))) (ex_fa _ _ _ rfl _ (F.e rfl) 18 r8_fa_48_3_18 ((adl.add (k * 19)).add 18) rfl) ?_; clear F a; intro a F
     refine list_val F (wn rfl) rfl rfl (.int .i64 xl.exp) (ex_load _ _ rfl _ (F.e rfl) _ (lv1 r8_one_2 (zl.cell 18 _ (Rv.cs_18 _)))) ?_; clear F a; intro a F
     refine list_val F (wn rfl) rfl rfl (.int .i64 late) (ex_move _ rfl _ (F.e rfl)) ?_; clear F a; intro a F
     refine list_val F (wn rfl) rfl rfl (.bool true) (ex_bin .gtr _ _ _ _ rfl .i64 _ _ (F.e rfl) (F.e rfl) _ (b_gtr (decide_eq_true hgt))) ?_; clear F a; intro a F
     refine wpList_nil ?_
     replace F : Fr 157 a [(0, .slice (some ad) ss.length c), (2, .bool false), (3, .slice (some adl) l.length c_l), (5, .int .i64 ((r + 1 : Nat) : Int)), (6, .int .i64 p.exp), (7, .int .i64 o.exp), (8, .int .i64 late), (9, .slice A_76 ((pruneF l late).length) c_76), (10, .slice A_82 ((pruneF l late).length) c_82), (11, .slice A_w wl.length c_w), (12, .int .i64 ((k : Nat) : Int)), (52, .bool true), (95, .bool false), (99, .bool true), (108, .bool true)] := F.keep ⟨rfl, rfl, rfl, rfl, rfl, rfl, rfl, rfl, rfl, rfl, rfl, rfl, rfl, rfl, rfl, trivial⟩
     refine then_n ?_
     refine wp_cond_true (F.e rfl) ?_
     refine wp_region_lit ?_
     refine list_val F (wn rfl) rfl rfl (.slice A_w wl.length c_w) (ex_move _ rfl _ (F.e rfl)) ?_; clear F a; intro a F
     refine list_val F (wn rfl) rfl rfl (.slice (some adl) l.length c_l) (ex_move _ rfl _ (F.e rfl)) ?_; clear F a; intro a F
     refine list_val F (wn rfl) rfl rfl (.int .i64 ((k : Nat) : Int)) (ex_move _ rfl _ (F.e rfl)) ?_; clear F a; intro a F
     refine list_val F (wn rfl) rfl rfl (.pointer (some (adl.add (k * 19)))) (ex_ix _ _ _ rfl 19 r8_sl_23_19 adl _ _ (F.e rfl) .i64 _ (F.e rfl) k rfl (by omega) (adl.add (k * 19)) rfl) ?_; clear F a; intro a F
     refine list_val F (wn rfl) rfl rfl (.agg xl.arr) (ex_load _ _ rfl _ (F.e rfl) _ (lrow48 xl (zl))) ?_; clear F a; intro a F
     refine list_do (wn rfl) (fun K hK => ?_)
     refine ow_bslice F M rfl rfl 23 1 _ rfl #[(0, .agg xl.arr)] (parts1 (F.e rfl)) xl.arr 48 (newrow48 xl _) ?_
     clear F M a; intro a g114 v F M hb hg
     refine hK _ _ ?_
     clear hK K
     replace O_l := O_l.below hb
     replace O_76 := O_76.below hb
     replace SB := Nat.le_trans SB hb.size
     replace O_w := O_w.below hb
     replace zl := zl.below hb
     clear hb hg; try clear u
     refine list_do (wn rfl) (fun K hK => ?_)
     have hxx := C_one (enc := Rv.cs) (hl := Rv.cs_len) (h1 := Rv.cs_one) (M.at (i := 0) rfl)
     replace M : Mm w v [] := (by refine M.pick' [] _ ?_ (by decide); exact trivial)
     refine og_app F M Try.underlying23 i48 z48s (by decide) (by decide) hw0 SB trivial rfl rfl rfl _ _ rfl (.slice A_w wl.length c_w) wl ([xl]) (wl ++ [xl]) rfl (some ⟨g114, 0, none⟩) 1 1 (F.e rfl) (F.e rfl) O_w (hxx) (by have h1 : wl.length ≤ _ := hwl ▸ prune_len _ _; rw [List.length_take] at h1; omega) ?_
     clear F a; have Mo := M; clear M; intro a A_115 c_115 u F M Oz hgr
     refine hK _ _ ?_
     clear hK K
     replace O_l := O_l.far hgr (fun k hk e_ => by have h1 := LT_l k hk; have h2 := (O_w.bound e_.symm).1; omega)
     replace O_76 := O_76.far hgr (fun k hk e_ => by have h1 := LT_x k hk; have h2 := (O_w.bound e_.symm).1; omega)
     replace SB := Nat.le_trans SB hgr.size
     clear zl
     clear O_w Mo hgr; have O_w := Oz; clear Oz; try clear v
     clear hxx
     refine list_val F (wn rfl) rfl rfl (.slice A_115 ((wl ++ [xl]).length) c_115) (ex_assign _ rfl _ (F.e rfl)) ?_; clear F a; intro a F
     refine wpList_nil ?_
     replace F : Fr 157 a [(0, .slice (some ad) ss.length c), (2, .bool false), (3, .slice (some adl) l.length c_l), (5, .int .i64 ((r + 1 : Nat) : Int)), (6, .int .i64 p.exp), (7, .int .i64 o.exp), (8, .int .i64 late), (9, .slice A_76 ((pruneF l late).length) c_76), (10, .slice A_82 ((pruneF l late).length) c_82), (11, .slice A_115 ((wl ++ [xl]).length) c_115), (12, .int .i64 ((k : Nat) : Int)), (52, .bool true), (95, .bool false), (99, .bool true), (108, .bool true)] := F.keep ⟨rfl, rfl, rfl, rfl, rfl, rfl, rfl, rfl, rfl, rfl, rfl, rfl, rfl, rfl, rfl, trivial⟩
     refine in_n ?_
     refine then_n ?_
     refine wp_region_lit ?_
     refine list_val F (wn rfl) rfl rfl (.int .i64 ((k : Nat) : Int)) (ex_move _ rfl _ (F.e rfl)) ?_; clear F a; intro a F
     refine list_val F (wn rfl) rfl rfl (.int .i64 ((k + 1 : Nat) : Int)) (ex_bin .add _ _ _ _ rfl .i64 _ _ (F.e rfl) rfl _ (b_add ((w_i64 (by omega) (by omega)).trans (by omega)))) ?_; clear F a; intro a F
     refine list_val F (wn rfl) rfl rfl (.int .i64 ((k + 1 : Nat) : Int)) (ex_assign _ rfl _ (F.e rfl)) ?_; clear F a; intro a F
     refine wpList_nil ?_
     replace F : Fr 157 a [(0, .slice (some ad) ss.length c), (2, .bool false), (3, .slice (some adl) l.length c_l), (5, .int .i64 ((r + 1 : Nat) : Int)), (6, .int .i64 p.exp), (7, .int .i64 o.exp), (8, .int .i64 late), (9, .slice A_76 ((pruneF l late).length) c_76), (10, .slice A_82 ((pruneF l late).length) c_82), (11, .slice A_115 ((wl ++ [xl]).length) c_115), (12, .int .i64 ((k + 1 : Nat) : Int)), (52, .bool true), (95, .bool false), (99, .bool true), (108, .bool true)] := F.keep ⟨rfl, rfl, rfl, rfl, rfl, rfl, rfl, rfl, rfl, rfl, rfl, rfl, rfl, rfl, rfl, trivial⟩
     refine then_n ?_
     exact ⟨l.length - (k + 1), by omega, (k + 1), A_115, c_115, (wl ++ [xl]), F.keep ⟨rfl, rfl, rfl, rfl, rfl, rfl, rfl, rfl, rfl, rfl, rfl, rfl, rfl, trivial⟩, (by refine M.pick' [] _ ?_ (by decide); exact trivial), O_l, O_76, SB, O_w, (by omega), (by rw [prune_snoc_yes hxl hgt, ← hwl]), (by omega)⟩
    refine wp_region_lit ?_
    refine list_val F (wn rfl) rfl rfl (.slice (some adl) l.length c_l) (ex_move _ rfl _ (F.e rfl)) ?_; clear F a; intro a F
    refine list_val F (wn rfl) rfl rfl (.int .i64 ((k : Nat) : Int)) (ex_move _ rfl _ (F.e rfl)) ?_; clear F a; intro a F
    refine list_val F (wn rfl) rfl rfl (.pointer (some (adl.add (k * 19)))) (ex_ix _ _ _ rfl 19 r8_sl_23_19 adl _ _ (F.e rfl) .i64 _ (F.e rfl) k rfl (by omega) (adl.add (k * 19)) rfl) ?_; clear F a; intro a F
    refine list_val F (wn rfl) rfl rfl (.pointer (some ((adl.add (k * 19)).add 18))) (ex_fa _ _ _ rfl _ (F.e rfl) 18 r8_fa_48_3_18 ((adl.add (k * 19)).add 18) rfl) ?_; clear F a; intro a F
    refine list_val F (wn rfl) rfl rfl (.int .i64 xl.exp) (ex_load _ _ rfl _ (F.e rfl) _ (lv1 r8_one_2 (zl.cell 18 _ (Rv.cs_18 _)))) ?_; clear F a; intro a F
    refine list_val F (wn rfl) rfl rfl (.int .i64 late) (ex_move _ rfl _ (F.e rfl)) ?_; clear F a; intro a F
    refine list_val F (wn rfl) rfl rfl (.bool false) (ex_bin .gtr _ _ _ _ rfl .i64 _ _ (F.e rfl) (F.e rfl) _ (b_gtr (decide_eq_false hgt))) ?_; clear F a; intro a F
    refine wpList_nil ?_
    replace F : Fr 157 a [(0, .slice (some ad) ss.length c), (2, .bool false), (3, .slice (some adl) l.length c_l), (5, .int .i64 ((r + 1 : Nat) : Int)), (6, .int .i64 p.exp), (7, .int .i64 o.exp), (8, .int .i64 late), (9, .slice A_76 ((pruneF l late).length) c_76), (10, .slice A_82 ((pruneF l late).length) c_82), (11, .slice A_w wl.length c_w), (12, .int .i64 ((k : Nat) : Int)), (52, .bool true), (95, .bool false), (99, .bool true), (108, .bool false)] := F.keep ⟨rfl, rfl, rfl, rfl, rfl, rfl, rfl, rfl, rfl, rfl, rfl, rfl, rfl, rfl, rfl, trivial⟩
    refine then_n ?_
    refine wp_cond_false (F.e rfl) ?_
    refine wp_skip ?_
    refine in_n ?_
    refine then_n ?_
    refine wp_region_lit ?_
    refine list_val F (wn rfl) rfl rfl (.int .i64 ((k : Nat) : Int)) (ex_move _ rfl _ (F.e rfl)) ?_; clear F a; intro a F
    refine list_val F (wn rfl) rfl rfl (.int .i64 ((k + 1 : Nat) : Int)) (ex_bin .add _ _ _ _ rfl .i64 _ _ (F.e rfl) rfl _ (b_add ((w_i64 (by omega) (by omega)).trans (by omega)))) ?_; clear F a; intro a F
    refine list_val F (wn rfl) rfl rfl (.int .i64 ((k + 1 : Nat) : Int)) (ex_assign _ rfl _ (F.e rfl)) ?_; clear F a; intro a F
    refine wpList_nil ?_
    replace F : Fr 157 a [(0, .slice (some ad) ss.length c), (2, .bool false), (3, .slice (some adl) l.length c_l), (5, .int .i64 ((r + 1 : Nat) : Int)), (6, .int .i64 p.exp), (7, .int .i64 o.exp), (8, .int .i64 late), (9, .slice A_76 ((pruneF l late).length) c_76), (10, .slice A_82 ((pruneF l late).length) c_82), (11, .slice A_w wl.length c_w), (12, .int .i64 ((k + 1 : Nat) : Int)), (52, .bool true), (95, .bool false), (99, .bool true), (108, .bool false)] := F.keep ⟨rfl, rfl, rfl, rfl, rfl, rfl, rfl, rfl, rfl, rfl, rfl, rfl, rfl, rfl, rfl, trivial⟩
    refine then_n ?_
    exact ⟨l.length - (k + 1), by omega, (k + 1), A_w, c_w, wl, F.keep ⟨rfl, rfl, rfl, rfl, rfl, rfl, rfl, rfl, rfl, rfl, rfl, rfl, rfl, trivial⟩, (by refine M.pick' [] _ ?_ (by decide); exact trivial), O_l, O_76, SB, O_w, (by omega), (by rw [prune_snoc_no hxl hgt, ← hwl]), (by omega)⟩
   obtain rfl : k = l.length := by omega
   rw [List.take_length] at hwl
   subst hwl
   refine wp_seq ?_
   refine wp_seq ?_
   refine wp_region_lit ?_
   refine list_val F (wn rfl) rfl rfl (.int .i64 ((l.length : Nat) : Int)) (ex_move _ rfl _ (F.e rfl)) ?_; clear F a; intro a F
   refine list_val F (wn rfl) rfl rfl (.slice A_l l.length c_l) (ex_move _ rfl _ (F.e rfl)) ?_; clear F a; intro a F
   refine list_val F (wn rfl) rfl rfl (.int .i64 ((l.length : Nat) : Int)) (ex_len _ _ rfl 19 r8_sl_23_19 _ _ _ (F.e rfl)) ?_; clear F a; intro a F
   refine list_val F (wn rfl) rfl rfl (.bool false) (ex_bin .lss _ _ _ _ rfl .i64 _ _ (F.e rfl) (F.e rfl) _ (b_lss (decide_eq_false (by omega)))) ?_; clear F a; intro a F
   refine wpList_nil ?_
   replace F : Fr 157 a [(0, .slice (some ad) ss.length c), (2, .bool false), (3, .slice A_l l.length c_l), (5, .int .i64 ((r + 1 : Nat) : Int)), (6, .int .i64 p.exp), (7, .int .i64 o.exp), (8, .int .i64 late), (9, .slice A_76 ((pruneF l late).length) c_76), (10, .slice A_82 ((pruneF l late).length) c_82), (11, .slice A_w ((pruneF l late).length) c_w), (12, .int .i64 ((l.length : Nat) : Int)), (52, .bool true), (95, .bool false), (99, .bool false)] := F.keep ⟨rfl, rfl, rfl, rfl, rfl, rfl, rfl, rfl, rfl, rfl, rfl, rfl, rfl, rfl, trivial⟩
   refine then_n ?_
   refine wp_cond_false (F.e rfl) ?_
   refine wp_exit ?_
   refine then_x ?_
   refine then_x ?_
   refine in_hit ?_
   refine then_n ?_
   refine wp_seq ?_
   refine wp_region_lit ?_
   refine list_val F (wn rfl) rfl rfl (.slice (some ad) ss.length c) (ex_move _ rfl _ (F.e rfl)) ?_; clear F a; intro a F
   refine list_val F (wn rfl) rfl rfl (.int .i64 ((r + 1 : Nat) : Int)) (ex_move _ rfl _ (F.e rfl)) ?_; clear F a; intro a F
   refine list_val F (wn rfl) rfl rfl (.pointer (some (ad.add ((r + 1) * 20)))) (ex_ix _ _ _ rfl 20 r8_sl_22_20 ad _ _ (F.e rfl) .i64 _ (F.e rfl) (r + 1) rfl (by omega) (ad.add ((r + 1) * 20)) rfl) ?_; clear F a; intro a F
   refine list_val F (wn rfl) rfl rfl (.pointer (some ((ad.add ((r + 1) * 20)).add 1))) (ex_fa _ _ _ rfl _ (F.e rfl) 1 r8_fa_29_1_1 ((ad.add ((r + 1) * 20)).add 1) rfl) ?_; clear F a; intro a F
   refine list_val F (wn rfl) rfl rfl (.int .u64 o.grant) (ex_load _ _ rfl _ (F.e rfl) _ (lv1 r8_one_25 ((z.below M.bel).cell 1 _ (St.cs_1 _)))) ?_; clear F a; intro a F
   refine list_val F (wn rfl) rfl rfl (.int .u64 o.grant) (ex_assign _ rfl _ (F.e rfl)) ?_; clear F a; intro a F
   refine wpList_nil ?_
   replace F : Fr 157 a [(0, .slice (some ad) ss.length c), (2, .bool false), (3, .slice A_l l.length c_l), (5, .int .i64 ((r + 1 : Nat) : Int)), (6, .int .i64 p.exp), (7, .int .i64 o.exp), (8, .int .i64 late), (9, .slice A_76 ((pruneF l late).length) c_76), (10, .slice A_82 ((pruneF l late).length) c_82), (11, .slice A_w ((pruneF l late).length) c_w), (12, .int .i64 ((l.length : Nat) : Int)), (13, .int .u64 o.grant), (52, .bool true), (95, .bool false), (99, .bool false)] := F.keep ⟨rfl, rfl, rfl, rfl, rfl, rfl, rfl, rfl, rfl, rfl, rfl, rfl, rfl, rfl, rfl, trivial⟩
   refine then_n ?_
   refine wp_seq ?_
   refine wp_region_lit ?_
   refine list_val F (wn rfl) rfl rfl (.slice A_76 ((pruneF l late).length) c_76) (ex_move _ rfl _ (F.e rfl)) ?_; clear F a; intro a F
   refine list_val F (wn rfl) rfl rfl (.int .u64 o.grant) (ex_move _ rfl _ (F.e rfl)) ?_; clear F a; intro a F
   refine list_val F (wn rfl) rfl rfl (.int .i64 late) (ex_move _ rfl _ (F.e rfl)) ?_; clear F a; intro a F
   refine list_do (wn rfl) (fun K hK => ?_)
   refine ow_call rfl rfl F 8 #[.slice A_76 ((pruneF l late).length) c_76, .int .u64 o.grant, .int .i64 late] (ex_call 8 _ _ rfl rfl r8_ent_8 _ (map3 (F.e rfl) (F.e rfl) (F.e rfl))) (kill_any (pruneF l late) hIp _ _ o.grant late _ O_76.rd.1 O_76.rd.2.2 (by omega)) (fun e v hR => ?_)
   obtain ⟨A_124, c_124, he, O_k, hb⟩ := hR
   replace O_k := O_k.low M.bel.size
   refine ⟨.slice A_124 ((killF (pruneF l late) o.grant late).length) c_124, he, ?_⟩; clear he F a; intro a F
   refine hK _ _ ?_
   clear hK K
   replace O_l := O_l.below hb
   replace O_76 := O_76.below hb
   replace SB := Nat.le_trans SB hb.size
   replace O_w := O_w.below hb
   replace M := M.below hb; clear hb; try clear u
   refine list_val F (wn rfl) rfl rfl (.slice A_124 ((killF (pruneF l late) o.grant late).length) c_124) (ex_assign _ rfl _ (F.e rfl)) ?_; clear F a; intro a F
   refine wpList_nil ?_
   replace F : Fr 157 a [(0, .slice (some ad) ss.length c), (2, .bool false), (3, .slice A_l l.length c_l), (5, .int .i64 ((r + 1 : Nat) : Int)), (6, .int .i64 p.exp), (7, .int .i64 o.exp), (8, .int .i64 late), (9, .slice A_76 ((pruneF l late).length) c_76), (10, .slice A_82 ((pruneF l late).length) c_82), (11, .slice A_w ((pruneF l late).length) c_w), (12, .int .i64 ((l.length : Nat) : Int)), (13, .int .u64 o.grant), (14, .slice A_124 ((killF (pruneF l late) o.grant late).length) c_124), (52, .bool true), (95, .bool false), (99, .bool false)] := F.keep ⟨rfl, rfl, rfl, rfl, rfl, rfl, rfl, rfl, rfl, rfl, rfl, rfl, rfl, rfl, rfl, rfl, trivial⟩
   refine then_n ?_
   refine wp_seq ?_
   refine wp_only (fun ar wr => ∃ (A_143 : Option Addr), ∃ (c_143 : Nat), Fr 157 ar [(0, .slice (some ad) ss.length c), (2, .bool false), (3, .slice A_l l.length c_l), (5, .int .i64 ((r + 1 : Nat) : Int)), (6, .int .i64 p.exp), (7, .int .i64 o.exp), (8, .int .i64 late), (9, .slice A_76 ((pruneF l late).length) c_76), (10, .slice A_82 ((pruneF l late).length) c_82), (11, .slice A_w ((pruneF l late).length) c_w), (12, .int .i64 ((l.length : Nat) : Int)), (13, .int .u64 o.grant), (14, .slice A_124 ((killF (pruneF l late) o.grant late).length) c_124), (52, .bool true), (95, .bool false), (99, .bool false), (155, .bool false)] ∧ Mm w wr [] ∧ Ow kRv 48 wr w.heap.size (.slice A_l l.length c_l) l ∧ Ow kRv 48 wr w.heap.size (.slice A_76 ((pruneF l late).length) c_76) (pruneF l late) ∧ bs ≤ wr.heap.size ∧ Ow kRv 48 wr bs (.slice A_w ((pruneF l late).length) c_w) (pruneF l late) ∧ Ow kRv 48 wr w.heap.size (.slice A_124 ((killF (pruneF l late) o.grant late).length) c_124) (killF (pruneF l late) o.grant late) ∧ Ow kRv 48 wr w.heap.size (.slice A_143 ((pruneF (killF (pruneF l late) o.grant late) late).length) c_143) (pruneF (killF (pruneF l late) o.grant late) late)) ?_ ?_
   ·
    refine region_any r8_follows_mixedOrders M ?_; clear M; intro wD M hb
    replace O_l := O_l.below hb
    replace O_76 := O_76.below hb
    replace SB := Nat.le_trans SB hb.size
    replace O_w := O_w.below hb
    replace O_k := O_k.below hb
    clear hb; try clear v
    have hS : Below wD.heap.size wD wD := Below.refl _ _; have MD := M
    have D_O_l := O_l
    have D_O_76 := O_76
    have D_SB := SB
    have D_O_w := O_w
    have D_O_k := O_k
    refine any_val F 0 rfl (by kernel_rfl) (wn rfl) rfl rfl (.slice A_76 ((pruneF l late).length) c_76) (fun w' hS' => ex_move _ rfl _ (F.e rfl)) hS ?_; clear F a; intro a F
    refine any_val F 1 rfl (by kernel_rfl) (wn rfl) rfl rfl (.slice A_w ((pruneF l late).length) c_w) (fun w' hS' => ex_move _ rfl _ (F.e rfl)) hS ?_; clear F a; intro a F
    refine any_ready [2] (by kernel_rfl) (by simp) ?_
    refine ready_do rfl (wn rfl) (fun K hK => ?_) AllReadyH.nil
    refine ow_call rfl rfl F 18 #[.slice A_76 ((pruneF l late).length) c_76, .slice A_w ((pruneF l late).length) c_w] (ex_call 18 _ _ rfl rfl r8_ent_18 _ (map2 (F.e rfl) (F.e rfl))) (eq_any (pruneF l late) _ _ _ _ _ O_76.rd.1 O_w.rd.1 (by omega)) (fun e v hR => ?_)
    obtain ⟨he, hb⟩ := hR
    refine ⟨.bool true, he, ?_⟩; clear he F a; intro a F
    refine hK _ _ (S_below hS hb) ?_
    replace hS := S_below hS hb
    clear hK K
    replace O_l := O_l.below hb
    replace O_76 := O_76.below hb
    replace SB := Nat.le_trans SB hb.size
    replace O_w := O_w.below hb
    replace O_k := O_k.below hb
    replace M := M.below hb; clear hb; try clear wD
    refine any_val F 3 rfl (by kernel_rfl) (wn rfl) rfl rfl (.bool false) (fun w' hS' => ex_not _ _ rfl _ (F.e rfl) _ rfl) hS ?_; clear F a; intro a F
    refine any_val F 4 rfl (by kernel_rfl) (wn rfl) rfl rfl (.bool false) (fun w' hS' => ex_move _ rfl _ (F.e rfl)) hS ?_; clear F a; intro a F
    refine any_val F 5 rfl (by kernel_rfl) (F.wants 129 false rfl (by kernel_rfl) rfl true rfl) rfl rfl (.slice A_124 ((killF (pruneF l late) o.grant late).length) c_124) (fun w' hS' => ex_move _ rfl _ (F.e rfl)) hS ?_; clear F a; intro a F
    refine any_val F 6 rfl (by kernel_rfl) (F.wants 129 false rfl (by kernel_rfl) rfl true rfl) rfl rfl (.int .u64 o.grant) (fun w' hS' => ex_move _ rfl _ (F.e rfl)) hS ?_; clear F a; intro a F
    refine any_val F 7 rfl (by kernel_rfl) (F.wants 129 false rfl (by kernel_rfl) rfl true rfl) rfl rfl (.slice (some ad) ss.length c) (fun w' hS' => ex_move _ rfl _ (F.e rfl)) hS ?_; clear F a; intro a F
    refine any_val F 8 rfl (by kernel_rfl) (F.wants 129 false rfl (by kernel_rfl) rfl true rfl) rfl rfl (.int .i64 ((r + 1 : Nat) : Int)) (fun w' hS' => ex_move _ rfl _ (F.e rfl)) hS ?_; clear F a; intro a F
    refine any_val F 9 rfl (by kernel_rfl) (F.wants 129 false rfl (by kernel_rfl) rfl true rfl) rfl rfl (.pointer (some (ad.add ((r + 1) * 20)))) (fun w' hS' => ex_ix _ _ _ rfl 20 r8_sl_22_20 ad _ _ (F.e rfl) .i64 _ (F.e rfl) (r + 1) rfl (by omega) (ad.add ((r + 1) * 20)) rfl) hS ?_; clear F a; intro a F
    refine any_val F 10 rfl (by kernel_rfl) (F.wants 129 false rfl (by kernel_rfl) rfl true rfl) rfl rfl (.pointer (some ((ad.add ((r + 1) * 20)).add 2))) (fun w' hS' => ex_fa _ _ _ rfl _ (F.e rfl) 2 r8_fa_29_2_2 ((ad.add ((r + 1) * 20)).add 2) rfl) hS ?_; clear F a; intro a F
    refine any_val F 11 rfl (by kernel_rfl) (F.wants 129 false rfl (by kernel_rfl) rfl true rfl) rfl rfl (.agg o.id.cs.toArray) (fun w' hS' => ex_load _ _ rfl _ (F.e rfl) _ (lrow27 o.id (St.id_at ((z.below (MD.below hS').bel))))) hS ?_; clear F a; intro a F
    refine any_ready [12] (by kernel_rfl) (by simp) ?_
    refine ready_do rfl (F.wants 129 false rfl (by kernel_rfl) rfl true rfl) (fun K hK => ?_) AllReadyH.nil
    refine ow_call rfl rfl F 14 #[.slice A_124 ((killF (pruneF l late) o.grant late).length) c_124, .int .u64 o.grant, .agg o.id.cs.toArray] (ex_call 14 _ _ rfl rfl r8_ent_14 _ (map3 (F.e rfl) (F.e rfl) (F.e rfl))) (has_any (killF (pruneF l late) o.grant late) hIk _ _ o.grant o.id _ O_k.rd.1 O_k.rd.2.2 (by omega)) (fun e u hR => ?_)
    obtain ⟨he, hb⟩ := hR
    rw [has_kill] at he
    refine ⟨.bool true, he, ?_⟩; clear he F a; intro a F
    refine hK _ _ (S_below hS hb) ?_
    replace hS := S_below hS hb
    clear hK K
    replace O_l := O_l.below hb
    replace O_76 := O_76.below hb
    replace SB := Nat.le_trans SB hb.size
    replace O_w := O_w.below hb
    replace O_k := O_k.below hb
    replace M := M.below hb; clear hb; try clear v
    refine any_val F 13 rfl (by kernel_rfl) (F.wants 129 false rfl (by kernel_rfl) rfl true rfl) rfl rfl (.bool false) (fun w' hS' => ex_not _ _ rfl _ (F.e rfl) _ rfl) hS ?_; clear F a; intro a F
    refine any_val F 14 rfl (by kernel_rfl) (wn rfl) rfl rfl (.bool false) (fun w' hS' => ex_pick_f _ _ _ rfl (F.e rfl) _ (F.e rfl)) hS ?_; clear F a; intro a F
    refine any_val F 15 rfl (by kernel_rfl) (wn rfl) rfl rfl (.bool false) (fun w' hS' => ex_move _ rfl _ (F.e rfl)) hS ?_; clear F a; intro a F
    refine any_val F 16 rfl (by kernel_rfl) (F.wants 140 false rfl (by kernel_rfl) rfl true rfl) rfl rfl (.slice A_124 ((killF (pruneF l late) o.grant late).length) c_124) (fun w' hS' => ex_move _ rfl _ (F.e rfl)) hS ?_; clear F a; intro a F
    refine any_val F 17 rfl (by kernel_rfl) (F.wants 140 false rfl (by kernel_rfl) rfl true rfl) rfl rfl (.int .i64 late) (fun w' hS' => ex_move _ rfl _ (F.e rfl)) hS ?_; clear F a; intro a F
    refine any_val F 19 rfl (by kernel_rfl) (F.wants 140 false rfl (by kernel_rfl) rfl true rfl) rfl rfl (.int .u64 o.grant) (fun w' hS' => ex_move _ rfl _ (F.e rfl)) hS ?_; clear F a; intro a F
    refine any_val F 20 rfl (by kernel_rfl) (F.wants 140 false rfl (by kernel_rfl) rfl true rfl) rfl rfl (.slice (some ad) ss.length c) (fun w' hS' => ex_move _ rfl _ (F.e rfl)) hS ?_; clear F a; intro a F
    refine any_val F 21 rfl (by kernel_rfl) (F.wants 140 false rfl (by kernel_rfl) rfl true rfl) rfl rfl (.int .i64 ((r + 1 : Nat) : Int)) (fun w' hS' => ex_move _ rfl _ (F.e rfl)) hS ?_; clear F a; intro a F
    refine any_val F 22 rfl (by kernel_rfl) (F.wants 140 false rfl (by kernel_rfl) rfl true rfl) rfl rfl (.pointer (some (ad.add ((r + 1) * 20)))) (fun w' hS' => ex_ix _ _ _ rfl 20 r8_sl_22_20 ad _ _ (F.e rfl) .i64 _ (F.e rfl) (r + 1) rfl (by omega) (ad.add ((r + 1) * 20)) rfl) hS ?_; clear F a; intro a F
    refine any_val F 23 rfl (by kernel_rfl) (F.wants 140 false rfl (by kernel_rfl) rfl true rfl) rfl rfl (.pointer (some ((ad.add ((r + 1) * 20)).add 2))) (fun w' hS' => ex_fa _ _ _ rfl _ (F.e rfl) 2 r8_fa_29_2_2 ((ad.add ((r + 1) * 20)).add 2) rfl) hS ?_; clear F a; intro a F
    refine any_val F 24 rfl (by kernel_rfl) (F.wants 140 false rfl (by kernel_rfl) rfl true rfl) rfl rfl (.agg o.id.cs.toArray) (fun w' hS' => ex_load _ _ rfl _ (F.e rfl) _ (lrow27 o.id (St.id_at ((z.below (MD.below hS').bel))))) hS ?_; clear F a; intro a F
    refine any_val F 26 rfl (by kernel_rfl) (F.wants 140 false rfl (by kernel_rfl) rfl true rfl) rfl rfl (.slice A_76 ((pruneF l late).length) c_76) (fun w' hS' => ex_move _ rfl _ (F.e rfl)) hS ?_; clear F a; intro a F
    refine any_val F 27 rfl (by kernel_rfl) (F.wants 140 false rfl (by kernel_rfl) rfl true rfl) rfl rfl (.int .u64 o.grant) (fun w' hS' => ex_move _ rfl _ (F.e rfl)) hS ?_; clear F a; intro a F
    refine any_ready [18] (by kernel_rfl) (by simp) ?_
    refine ready_do rfl (F.wants 140 false rfl (by kernel_rfl) rfl true rfl) (fun K hK => ?_) AllReadyH.nil
    refine ow_call rfl rfl F 10 #[.slice A_124 ((killF (pruneF l late) o.grant late).length) c_124, .int .i64 late] (ex_call 10 _ _ rfl rfl r8_ent_10 _ (map2 (F.e rfl) (F.e rfl))) (prune_any (killF (pruneF l late) o.grant late) hIk _ _ late _ O_k.rd.1 O_k.rd.2.2 (by have := prune_len l p.exp; have := prune_len l o.exp; omega)) (fun e v hR => ?_)
    obtain ⟨A_143, c_143, he, O_143, hb⟩ := hR
    replace O_143 := O_143.low M.bel.size
    refine ⟨.slice A_143 ((pruneF (killF (pruneF l late) o.grant late) late).length) c_143, he, ?_⟩; clear he F a; intro a F
    refine hK _ _ (S_below hS hb) ?_
    replace hS := S_below hS hb
    clear hK K
    replace O_l := O_l.below hb
    replace O_76 := O_76.below hb
    replace SB := Nat.le_trans SB hb.size
    replace O_w := O_w.below hb
    replace O_k := O_k.below hb
    replace M := M.below hb; clear hb; try clear u
    refine any_ready [25] (by kernel_rfl) (by simp) ?_
    refine ready_do rfl (F.wants 140 false rfl (by kernel_rfl) rfl true rfl) (fun K hK => ?_) AllReadyH.nil
    refine ow_call rfl rfl F 14 #[.slice A_143 ((pruneF (killF (pruneF l late) o.grant late) late).length) c_143, .int .u64 o.grant, .agg o.id.cs.toArray] (ex_call 14 _ _ rfl rfl r8_ent_14 _ (map3 (F.e rfl) (F.e rfl) (F.e rfl))) (has_any (pruneF (killF (pruneF l late) o.grant late) late) (hIk.prune late) _ _ o.grant o.id _ O_143.rd.1 O_143.rd.2.2 (by have := prune_len (killF (pruneF l late) o.grant late) late; omega)) (fun e u hR => ?_)
    obtain ⟨he, hb⟩ := hR
    rw [has_prune_kill hIp _ _ _ (prune_gt l late)] at he
    refine ⟨.bool (wholeF (pruneF l late) o.grant), he, ?_⟩; clear he F a; intro a F
    refine hK _ _ (S_below hS hb) ?_
    replace hS := S_below hS hb
    clear hK K
    replace O_l := O_l.below hb
    replace O_76 := O_76.below hb
    replace SB := Nat.le_trans SB hb.size
    replace O_w := O_w.below hb
    replace O_k := O_k.below hb
    replace O_143 := O_143.below hb
    replace M := M.below hb; clear hb; try clear v
    refine any_ready [28] (by kernel_rfl) (by simp) ?_
    refine ready_do rfl (F.wants 140 false rfl (by kernel_rfl) rfl true rfl) (fun K hK => ?_) AllReadyH.nil
    refine ow_call rfl rfl F 20 #[.slice A_76 ((pruneF l late).length) c_76, .int .u64 o.grant] (ex_call 20 _ _ rfl rfl r8_ent_20 _ (map2 (F.e rfl) (F.e rfl))) (whole_any (pruneF l late) _ _ o.grant _ O_76.rd.1 (by omega)) (fun e v hR => ?_)
    obtain ⟨he, hb⟩ := hR
    refine ⟨.bool (wholeF (pruneF l late) o.grant), he, ?_⟩; clear he F a; intro a F
    refine hK _ _ (S_below hS hb) ?_
    replace hS := S_below hS hb
    clear hK K
    replace O_l := O_l.below hb
    replace O_76 := O_76.below hb
    replace SB := Nat.le_trans SB hb.size
    replace O_w := O_w.below hb
    replace O_k := O_k.below hb
    replace O_143 := O_143.below hb
    replace M := M.below hb; clear hb; try clear u
    refine any_val F 29 rfl (by kernel_rfl) (F.wants 140 false rfl (by kernel_rfl) rfl true rfl) rfl rfl (.bool false) (fun w' hS' => WG.ex_neqb _ _ _ _ rfl r8_bool_4 (wholeF (pruneF l late) o.grant) (wholeF (pruneF l late) o.grant) (F.e rfl) (F.e rfl) false (by simp)) hS ?_; clear F a; intro a F
    refine any_val F 30 rfl (by kernel_rfl) (wn rfl) rfl rfl (.bool false) (fun w' hS' => ex_pick_f _ _ _ rfl (F.e rfl) _ (F.e rfl)) hS ?_; clear F a; intro a F
    refine any_done (by kernel_rfl) ?_
    exact ⟨A_143, c_143, F.keep ⟨rfl, rfl, rfl, rfl, rfl, rfl, rfl, rfl, rfl, rfl, rfl, rfl, rfl, rfl, rfl, rfl, rfl, trivial⟩, (by refine M.pick' [] _ ?_ (by decide); exact trivial), O_l, O_76, SB, O_w, O_k, O_143⟩
   clear F M a O_l O_76 SB O_w O_k
   intro a u hR; obtain ⟨A_143, c_143, F, M, O_l, O_76, SB, O_w, O_k, O_143⟩ := hR; try clear v
   refine then_n ?_
   refine wp_cond_false (F.e rfl) ?_
   refine wp_skip ?_
   refine in_n ?_
   refine then_n ?_
   refine wp_region_lit ?_
   refine list_val F (wn rfl) rfl rfl (.int .i64 ((r + 1 : Nat) : Int)) (ex_move _ rfl _ (F.e rfl)) ?_; clear F a; intro a F
   refine list_val F (wn rfl) rfl rfl (.int .i64 ((r + 1 + 1 : Nat) : Int)) (ex_bin .add _ _ _ _ rfl .i64 _ _ (F.e rfl) rfl _ (b_add ((w_i64 (by omega) (by omega)).trans (by omega)))) ?_; clear F a; intro a F
   refine list_val F (wn rfl) rfl rfl (.int .i64 ((r + 1 + 1 : Nat) : Int)) (ex_assign _ rfl _ (F.e rfl)) ?_; clear F a; intro a F
   refine wpList_nil ?_
   replace F : Fr 157 a [(0, .slice (some ad) ss.length c), (2, .bool false), (3, .slice A_l l.length c_l), (5, .int .i64 ((r + 1 + 1 : Nat) : Int)), (6, .int .i64 p.exp), (7, .int .i64 o.exp), (8, .int .i64 late), (9, .slice A_76 ((pruneF l late).length) c_76), (10, .slice A_82 ((pruneF l late).length) c_82), (11, .slice A_w ((pruneF l late).length) c_w), (12, .int .i64 ((l.length : Nat) : Int)), (13, .int .u64 o.grant), (14, .slice A_124 ((killF (pruneF l late) o.grant late).length) c_124), (52, .bool true), (95, .bool false), (99, .bool false), (155, .bool false)] := F.keep ⟨rfl, rfl, rfl, rfl, rfl, rfl, rfl, rfl, rfl, rfl, rfl, rfl, rfl, rfl, rfl, rfl, rfl, trivial⟩
   refine then_n ?_
   exact ⟨20 - (r + 1), by omega, (r + 1), F.keep ⟨rfl, rfl, rfl, rfl, trivial⟩, (by refine M.pick' [] _ ?_ (by decide); exact trivial), O_l, (by omega), (by omega)⟩
  refine wp_seq ?_
  refine wp_seq ?_
  refine wp_region_lit ?_
  refine list_val F (wn rfl) rfl rfl (.int .i64 ((r + 1 : Nat) : Int)) (ex_move _ rfl _ (F.e rfl)) ?_; clear F a; intro a F
  refine list_val F (wn rfl) rfl rfl (.slice A ss.length c) (ex_move _ rfl _ (F.e rfl)) ?_; clear F a; intro a F
  refine list_val F (wn rfl) rfl rfl (.int .i64 ((ss.length : Nat) : Int)) (ex_len _ _ rfl 20 r8_sl_22_20 _ _ _ (F.e rfl)) ?_; clear F a; intro a F
  refine list_val F (wn rfl) rfl rfl (.bool true) (ex_bin .lss _ _ _ _ rfl .i64 _ _ (F.e rfl) (F.e rfl) _ (b_lss (decide_eq_true (by omega)))) ?_; clear F a; intro a F
  refine list_val F (wn rfl) rfl rfl (.bool true) (ex_move _ rfl _ (F.e rfl)) ?_; clear F a; intro a F
  refine list_val F (F.wants 49 true rfl (by kernel_rfl) rfl true rfl) rfl rfl (.int .i64 ((r + 1 : Nat) : Int)) (ex_move _ rfl _ (F.e rfl)) ?_; clear F a; intro a F
  refine list_val F (F.wants 49 true rfl (by kernel_rfl) rfl true rfl) rfl rfl (.bool false) (ex_bin .lss _ _ _ _ rfl .i64 _ _ (F.e rfl) rfl _ (b_lss (decide_eq_false (by omega)))) ?_; clear F a; intro a F
  refine list_val F (wn rfl) rfl rfl (.bool false) (ex_pick_t _ _ _ rfl (F.e rfl) _ (F.e rfl)) ?_; clear F a; intro a F
  refine wpList_nil ?_
  replace F : Fr 157 a [(0, .slice A ss.length c), (2, .bool false), (3, .slice A_l l.length c_l), (5, .int .i64 ((r + 1 : Nat) : Int)), (52, .bool false)] := F.keep ⟨rfl, rfl, rfl, rfl, rfl, trivial⟩
  refine then_n ?_
  refine wp_cond_false (F.e rfl) ?_
  refine wp_exit ?_
  refine then_x ?_
  refine then_x ?_
  refine in_hit ?_
  refine then_n ?_
  refine wp_seq ?_
  refine wp_region_lit ?_
  refine list_do (wn rfl) (fun K hK => ?_)
  refine ow_call rfl rfl F 15 #[] (ex_call 15 _ _ rfl rfl r8_ent_15 _ (map0)) (wakes_any _) (fun e v hR => ?_)
  obtain ⟨he, hb⟩ := hR
  refine ⟨.bool true, he, ?_⟩; clear he F a; intro a F
  refine hK _ _ ?_
  clear hK K
  replace O_l := O_l.below hb
  replace M := M.below hb; clear hb; try clear u
  refine list_val F (wn rfl) rfl rfl (.bool true) (ex_assign _ rfl _ (F.e rfl)) ?_; clear F a; intro a F
  refine wpList_nil ?_
  replace F : Fr 157 a [(0, .slice A ss.length c), (2, .bool true), (3, .slice A_l l.length c_l), (5, .int .i64 ((r + 1 : Nat) : Int)), (52, .bool false)] := F.keep ⟨rfl, rfl, rfl, rfl, rfl, trivial⟩
  refine then_n ?_
  refine wp_ret ?_
  exact ret_tmp F rfl rfl ⟨rfl, M.bel⟩
 refine wp_seq ?_
 refine wp_seq ?_
 refine wp_region_lit ?_
 refine list_val F (wn rfl) rfl rfl (.int .i64 ((r + 1 : Nat) : Int)) (ex_move _ rfl _ (F.e rfl)) ?_; clear F a; intro a F
 refine list_val F (wn rfl) rfl rfl (.slice A ss.length c) (ex_move _ rfl _ (F.e rfl)) ?_; clear F a; intro a F
 refine list_val F (wn rfl) rfl rfl (.int .i64 ((ss.length : Nat) : Int)) (ex_len _ _ rfl 20 r8_sl_22_20 _ _ _ (F.e rfl)) ?_; clear F a; intro a F
 refine list_val F (wn rfl) rfl rfl (.bool false) (ex_bin .lss _ _ _ _ rfl .i64 _ _ (F.e rfl) (F.e rfl) _ (b_lss (decide_eq_false (by omega)))) ?_; clear F a; intro a F
 refine list_val F (wn rfl) rfl rfl (.bool false) (ex_move _ rfl _ (F.e rfl)) ?_; clear F a; intro a F
 refine list_skip F (F.wants 49 false rfl (by kernel_rfl) rfl false rfl) rfl rfl ?_; clear F a; intro a F
 refine list_skip F (F.wants 49 false rfl (by kernel_rfl) rfl false rfl) rfl rfl ?_; clear F a; intro a F
 refine list_val F (wn rfl) rfl rfl (.bool false) (ex_pick_f _ _ _ rfl (F.e rfl) _ rfl) ?_; clear F a; intro a F
 refine wpList_nil ?_
 replace F : Fr 157 a [(0, .slice A ss.length c), (2, .bool false), (3, .slice A_l l.length c_l), (5, .int .i64 ((r + 1 : Nat) : Int)), (52, .bool false)] := F.keep ⟨rfl, rfl, rfl, rfl, rfl, trivial⟩
 refine then_n ?_
 refine wp_cond_false (F.e rfl) ?_
 refine wp_exit ?_
 refine then_x ?_
 refine then_x ?_
 refine in_hit ?_
 refine then_n ?_
 refine wp_seq ?_
 refine wp_region_lit ?_
 refine list_do (wn rfl) (fun K hK => ?_)
 refine ow_call rfl rfl F 15 #[] (ex_call 15 _ _ rfl rfl r8_ent_15 _ (map0)) (wakes_any _) (fun e v hR => ?_)
 obtain ⟨he, hb⟩ := hR
 refine ⟨.bool true, he, ?_⟩; clear he F a; intro a F
 refine hK _ _ ?_
 clear hK K
 replace O_l := O_l.below hb
 replace M := M.below hb; clear hb; try clear u
 refine list_val F (wn rfl) rfl rfl (.bool true) (ex_assign _ rfl _ (F.e rfl)) ?_; clear F a; intro a F
 refine wpList_nil ?_
 replace F : Fr 157 a [(0, .slice A ss.length c), (2, .bool true), (3, .slice A_l l.length c_l), (5, .int .i64 ((r + 1 : Nat) : Int)), (52, .bool false)] := F.keep ⟨rfl, rfl, rfl, rfl, rfl, trivial⟩
 refine then_n ?_
 refine wp_ret ?_
 exact ret_tmp F rfl rfl ⟨rfl, M.bel⟩
end Go.Proofs.Ytnjbjjmoglogeaa
