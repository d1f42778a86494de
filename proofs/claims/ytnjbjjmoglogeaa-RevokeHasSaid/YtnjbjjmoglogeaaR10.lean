/- RevokeHas (3): behind any Adds, Kills and Prunes Has tells of each token whether it, or its grant, was revoked. Conditions: the script is read. -/
import Derived.Test.YtnjbjjmoglogeaaR9
namespace Go.Proofs.Ytnjbjjmoglogeaa
open Go.RowKit Go.Proofs.YtnjbjjmoglogeaaW.PrintWords KB WG RO
set_option linter.unusedVariables false
set_option linter.unusedSimpArgs false
set_option linter.unnecessarySimpa false
theorem r10_sl_22_20 : sl? Try.prog 22 20 = true := by kernel_rfl
theorem r10_fa_29_0_0 : fa? Try.prog 29 0 0 = true := by kernel_rfl
theorem r10_one_3 : one? Try.prog 3 = true := by kernel_rfl
theorem r10_fa_29_1_1 : fa? Try.prog 29 1 1 = true := by kernel_rfl
theorem r10_one_25 : one? Try.prog 25 = true := by kernel_rfl
theorem r10_fa_29_2_2 : fa? Try.prog 29 2 2 = true := by kernel_rfl
theorem r10_fa_29_3_18 : fa? Try.prog 29 3 18 = true := by kernel_rfl
theorem r10_one_2 : one? Try.prog 2 = true := by kernel_rfl
theorem r10_ent_6 : ent? Try.prog 6 = true := by kernel_rfl
theorem r10_ent_7 : ent? Try.prog 7 = true := by kernel_rfl
theorem r10_ent_8 : ent? Try.prog 8 = true := by kernel_rfl
theorem r10_ent_9 : ent? Try.prog 9 = true := by kernel_rfl
theorem r10_ent_10 : ent? Try.prog 10 = true := by kernel_rfl
theorem r10_sl_24_19 : sl? Try.prog 24 19 = true := by kernel_rfl
theorem r10_follows_mixedOrders : Try.prog.follows .mixedOrders = true := by kernel_rfl
theorem r10_fa_35_3_18 : fa? Try.prog 35 3 18 = true := by kernel_rfl
theorem r10_ent_12 : ent? Try.prog 12 = true := by kernel_rfl
theorem r10_ent_11 : ent? Try.prog 11 = true := by kernel_rfl
theorem r10_sl_23_19 : sl? Try.prog 23 19 = true := by kernel_rfl
theorem r10_ent_13 : ent? Try.prog 13 = true := by kernel_rfl
theorem r10_ent_14 : ent? Try.prog 14 = true := by kernel_rfl
theorem r10_bool_4 : bool? Try.prog 4 = true := by kernel_rfl
theorem r10_ent_15 : ent? Try.prog 15 = true := by kernel_rfl
set_option maxHeartbeats 1000000 in
set_option maxRecDepth 100000 in
theorem has_law_any (ss : List St) (A : Option Addr) (c : Nat) (w : World) (hr : kSt.C w A ss.length ss) (hc : ss.length ≤ c) (hmx : ss.length ≤ 4611686018427387904) :
    Calls Try.prog 3 #[.slice A ss.length c] w fun e w' => e = .returned (.bool true) ∧ Below w.heap.size w w' := by
 have O_l : Ow kRv 48 w w.heap.size (.slice none 0 0) [] := Ow.nil _ _ _ _
 have O_a : Ow kRv 35 w w.heap.size (.slice none 0 0) [] := Ow.nil _ _ _ _
 refine calls_start Try.func3 rfl rfl rfl (fun a F => ?_)
 have M : Mm w w [] := Mm.nil w
 refine wp_seq ?_
 refine wp_region_lit ?_
 refine list_val F (wn rfl) rfl rfl (.bool false) (ex_assign _ rfl _ rfl) ?_; clear F a; intro a F
 refine wpList_nil ?_
 replace F : Fr 135 a [(0, .slice A ss.length c), (2, .bool false)] := F.keep ⟨rfl, rfl, trivial⟩
 refine then_n ?_
 refine wp_seq ?_
 refine wp_region_lit ?_
 refine list_val F (wn rfl) rfl rfl (.slice none 0 0) (ex_assign _ rfl _ rfl) ?_; clear F a; intro a F
 refine wpList_nil ?_
 replace F : Fr 135 a [(0, .slice A ss.length c), (2, .bool false), (3, .slice none 0 0)] := F.keep ⟨rfl, rfl, rfl, trivial⟩
 refine then_n ?_
 refine wp_seq ?_
 refine wp_region_lit ?_
 refine list_val F (wn rfl) rfl rfl (.slice none 0 0) (ex_assign _ rfl _ rfl) ?_; clear F a; intro a F
 refine wpList_nil ?_
 replace F : Fr 135 a [(0, .slice A ss.length c), (2, .bool false), (3, .slice none 0 0), (4, .slice none 0 0)] := F.keep ⟨rfl, rfl, rfl, rfl, trivial⟩
 refine then_n ?_
 refine wp_seq ?_
 refine wp_seq ?_
 refine wp_region_lit ?_
 refine list_val F (wn rfl) rfl rfl (.int .i64 0) (ex_assign _ rfl _ rfl) ?_; clear F a; intro a F
 refine wpList_nil ?_
 replace F : Fr 135 a [(0, .slice A ss.length c), (2, .bool false), (3, .slice none 0 0), (4, .slice none 0 0), (5, .int .i64 0)] := F.keep ⟨rfl, rfl, rfl, rfl, rfl, trivial⟩
 refine then_n ?_
 refine wp_block ?_
 refine wp_loopN (fun mq ar wr => ∃ (i : Nat), ∃ (A_l : Option Addr), ∃ (c_l : Nat), ∃ (l : List Rv), ∃ (A_a : Option Addr), ∃ (c_a : Nat), ∃ (al : List Rv), Fr 135 ar [(0, .slice A ss.length c), (2, .bool false), (3, .slice A_l l.length c_l), (4, .slice A_a al.length c_a), (5, .int .i64 ((i : Nat) : Int))] ∧ Mm w wr [] ∧ Ow kRv 48 wr w.heap.size (.slice A_l l.length c_l) l ∧ Ow kRv 35 wr w.heap.size (.slice A_a al.length c_a) al ∧ i ≤ 150 ∧ IsL l ∧ l.Perm al ∧ l.length ≤ i ∧ mq + i = 150) 150 ?_ ?_
 ·
  exact ⟨0, none, 0, [], none, 0, [], F.keep ⟨rfl, rfl, rfl, rfl, rfl, trivial⟩, M, O_l, O_a, (by decide), IsL.nil, (List.Perm.refl _), (Nat.le_refl _), (by omega)⟩
 clear F M a O_l O_a
 rintro mq a v ⟨i, A_l, c_l, l, A_a, c_a, al, F, M, O_l, O_a, hi, hI, hP, hln, hq⟩; try clear w
 by_cases hin : i < ss.length
 ·
  by_cases hi150 : i < 150
  ·
   have hal := hP.length_eq
   obtain ⟨o, ho⟩ : ∃ o, ss[i]? = some o := ⟨_, List.getElem?_eq_getElem (by omega)⟩
   obtain ⟨ad, hA, z⟩ := C_ix hr ho
   subst hA
   refine wp_seq ?_
   refine wp_seq ?_
   refine wp_region_lit ?_
   refine list_val F (wn rfl) rfl rfl (.int .i64 ((i : Nat) : Int)) (ex_move _ rfl _ (F.e rfl)) ?_; clear F a; intro a F
   refine list_val F (wn rfl) rfl rfl (.slice (some ad) ss.length c) (ex_move _ rfl _ (F.e rfl)) ?_; clear F a; intro a F
   refine list_val F (wn rfl) rfl rfl (.int .i64 ((ss.length : Nat) : Int)) (ex_len _ _ rfl 20 r10_sl_22_20 _ _ _ (F.e rfl)) ?_; clear F a; intro a F
   refine list_val F (wn rfl) rfl rfl (.bool true) (ex_bin .lss _ _ _ _ rfl .i64 _ _ (F.e rfl) (F.e rfl) _ (b_lss (decide_eq_true (by omega)))) ?_; clear F a; intro a F
   refine list_val F (wn rfl) rfl rfl (.bool true) (ex_move _ rfl _ (F.e rfl)) ?_; clear F a; intro a F
   refine list_val F (F.wants 16 true rfl (by kernel_rfl) rfl true rfl) rfl rfl (.int .i64 ((i : Nat) : Int)) (ex_move _ rfl _ (F.e rfl)) ?_; clear F a; intro a F
   refine list_val F (F.wants 16 true rfl (by kernel_rfl) rfl true rfl) rfl rfl (.bool true) (ex_bin .lss _ _ _ _ rfl .i64 _ _ (F.e rfl) rfl _ (b_lss (decide_eq_true (by omega)))) ?_; clear F a; intro a F
   refine list_val F (wn rfl) rfl rfl (.bool true) (ex_pick_t _ _ _ rfl (F.e rfl) _ (F.e rfl)) ?_; clear F a; intro a F
   refine wpList_nil ?_
   replace F : Fr 135 a [(0, .slice (some ad) ss.length c), (2, .bool false), (3, .slice A_l l.length c_l), (4, .slice A_a al.length c_a), (5, .int .i64 ((i : Nat) : Int)), (19, .bool true)] := F.keep ⟨rfl, rfl, rfl, rfl, rfl, rfl, trivial⟩
   refine then_n ?_
   refine wp_cond_true (F.e rfl) ?_
   refine wp_skip ?_
   refine then_n ?_
   refine wp_seq ?_
   refine wp_block ?_
   refine wp_seq ?_
   refine wp_region_lit ?_
   refine list_val F (wn rfl) rfl rfl (.slice (some ad) ss.length c) (ex_move _ rfl _ (F.e rfl)) ?_; clear F a; intro a F
   refine list_val F (wn rfl) rfl rfl (.int .i64 ((i : Nat) : Int)) (ex_move _ rfl _ (F.e rfl)) ?_; clear F a; intro a F
   refine list_val F (wn rfl) rfl rfl (.pointer (some (ad.add (i * 20)))) (ex_ix _ _ _ rfl 20 r10_sl_22_20 ad _ _ (F.e rfl) .i64 _ (F.e rfl) i rfl (by omega) (ad.add (i * 20)) rfl) ?_; clear F a; intro a F
   refine list_val F (wn rfl) rfl rfl (.agg o.arr) (ex_load _ _ rfl _ (F.e rfl) _ (lrow29 o ((z.below M.bel)))) ?_; clear F a; intro a F
   refine list_do (wn rfl) (fun K hK => ?_)
   refine ow_alloc F M rfl rfl 29 rfl (.agg zSt.arr) zero29 zSt.arr rfl ?_
   clear F M a; intro a g6 u F M hb hg
   refine hK _ _ ?_
   clear hK K
   replace O_l := O_l.below hb
   replace O_a := O_a.below hb
   clear hb hg; try clear v
   refine list_do (wn rfl) (fun K hK => ?_)
   refine ow_put F M rfl 29 _ _ rfl 0 _ zSt.arr _ rfl (F.e rfl) o.arr (F.e rfl) (sz29 _) (by simp only [St.arr_size]) (St.arr_one _) ?_
   clear F a; have Mo := M; clear M; intro a v F M hgr
   refine hK _ _ ?_
   clear hK K
   replace O_l := O_l.grown (Mo.blk 0 _ rfl) (.inl (by show 48 ≠ 29; decide)) hgr
   replace O_a := O_a.grown (Mo.blk 0 _ rfl) (.inl (by show (35 : Nat) ≠ 29; decide)) hgr
   clear Mo hgr; try clear u
   replace M : Mm w v [⟨g6, o.arr, 29⟩] := M
   refine wpList_nil ?_
   replace F : Fr 135 a [(0, .slice (some ad) ss.length c), (2, .bool false), (3, .slice A_l l.length c_l), (4, .slice A_a al.length c_a), (5, .int .i64 ((i : Nat) : Int)), (6, .pointer (some ⟨g6, 0, none⟩)), (19, .bool true)] := F.keep ⟨rfl, rfl, rfl, rfl, rfl, rfl, rfl, trivial⟩
   refine then_n ?_
   refine wp_seq ?_
   refine wp_seq ?_
   refine wp_region_lit ?_
   refine list_val F (wn rfl) rfl rfl (.pointer (some ⟨g6, 0, none⟩)) (ex_fa _ _ _ rfl _ (F.e rfl) 0 r10_fa_29_0_0 ⟨g6, 0, none⟩ rfl) ?_; clear F a; intro a F
   refine list_val F (wn rfl) rfl rfl (.int .i64 o.do_) (ex_load _ _ rfl _ (F.e rfl) _ (lv1 r10_one_3 (M.cell (i := 0) rfl (j := 0) (St.arr_0 _)))) ?_; clear F a; intro a F
   refine wpList_nil ?_
   replace F : Fr 135 a [(0, .slice (some ad) ss.length c), (2, .bool false), (3, .slice A_l l.length c_l), (4, .slice A_a al.length c_a), (5, .int .i64 ((i : Nat) : Int)), (6, .pointer (some ⟨g6, 0, none⟩)), (19, .bool true), (27, .int .i64 o.do_)] := F.keep ⟨rfl, rfl, rfl, rfl, rfl, rfl, rfl, rfl, trivial⟩
   refine then_n ?_
   refine wp_only (fun ar wr => ∃ (A_l2 : Option Addr), ∃ (c_l2 : Nat), ∃ (l2 : List Rv), ∃ (A_a2 : Option Addr), ∃ (c_a2 : Nat), ∃ (al2 : List Rv), Fr 135 ar [(0, .slice (some ad) ss.length c), (2, .bool false), (3, .slice A_l2 l2.length c_l2), (4, .slice A_a2 al2.length c_a2), (5, .int .i64 ((i : Nat) : Int)), (6, .pointer (some ⟨g6, 0, none⟩)), (19, .bool true), (27, .int .i64 o.do_)] ∧ Mm w wr [⟨g6, o.arr, 29⟩] ∧ Ow kRv 48 wr w.heap.size (.slice A_l2 l2.length c_l2) l2 ∧ Ow kRv 35 wr w.heap.size (.slice A_a2 al2.length c_a2) al2 ∧ IsL l2 ∧ l2.Perm al2 ∧ l2.length ≤ i + 1) ?_ ?_
   ·
    refine wp_block ?_
    refine wp_seq ?_
    by_cases hd1 : o.do_ = 1
    ·
     refine wp_region_lit ?_
     refine list_val F (wn rfl) rfl rfl (.bool true) (ex_bin .eql _ _ _ _ rfl .i64 _ _ (F.e rfl) rfl _ (b_eql (by simp [hd1]))) ?_; clear F a; intro a F
     refine list_val F (wn rfl) rfl rfl (.bool true) (ex_assign _ rfl _ (F.e rfl)) ?_; clear F a; intro a F
     refine wpList_nil ?_
     replace F : Fr 135 a [(0, .slice (some ad) ss.length c), (2, .bool false), (3, .slice A_l l.length c_l), (4, .slice A_a al.length c_a), (5, .int .i64 ((i : Nat) : Int)), (6, .pointer (some ⟨g6, 0, none⟩)), (19, .bool true), (27, .int .i64 o.do_), (28, .bool true)] := F.keep ⟨rfl, rfl, rfl, rfl, rfl, rfl, rfl, rfl, rfl, trivial⟩
     refine then_n ?_
     refine wp_cond_true (F.e rfl) ?_
     refine wp_seq ?_
     refine wp_region_lit ?_
     refine list_val F (wn rfl) rfl rfl (.slice A_l l.length c_l) (ex_move _ rfl _ (F.e rfl)) ?_; clear F a; intro a F
     refine list_val F (wn rfl) rfl rfl (.pointer (some ⟨g6, 1, none⟩)) (ex_fa _ _ _ rfl _ (F.e rfl) 1 r10_fa_29_1_1 ⟨g6, 1, none⟩ rfl) ?_; clear F a; intro a F
     refine list_val F (wn rfl) rfl rfl (.int .u64 o.grant) (ex_load _ _ rfl _ (F.e rfl) _ (lv1 r10_one_25 (M.cell (i := 0) rfl (j := 1) (St.arr_1 _)))) ?_; clear F a; intro a F
     refine list_val F (wn rfl) rfl rfl (.pointer (some ⟨g6, 2, none⟩)) (ex_fa _ _ _ rfl _ (F.e rfl) 2 r10_fa_29_2_2 ⟨g6, 2, none⟩ rfl) ?_; clear F a; intro a F
     refine list_val F (wn rfl) rfl rfl (.agg o.id.cs.toArray) (ex_load _ _ rfl _ (F.e rfl) _ (lrow27 o.id (St.id_at (M.at (i := 0) rfl)))) ?_; clear F a; intro a F
     refine list_val F (wn rfl) rfl rfl (.pointer (some ⟨g6, 18, none⟩)) (ex_fa _ _ _ rfl _ (F.e rfl) 18 r10_fa_29_3_18 ⟨g6, 18, none⟩ rfl) ?_; clear F a; intro a F
     refine list_val F (wn rfl) rfl rfl (.int .i64 o.exp) (ex_load _ _ rfl _ (F.e rfl) _ (lv1 r10_one_2 (M.cell (i := 0) rfl (j := 18) (St.arr_18 _)))) ?_; clear F a; intro a F
     refine list_do (wn rfl) (fun K hK => ?_)
     refine ow_call rfl rfl F 6 #[.slice A_l l.length c_l, .int .u64 o.grant, .agg o.id.cs.toArray, .int .i64 o.exp] (ex_call 6 _ _ rfl rfl r10_ent_6 _ (map4 (F.e rfl) (F.e rfl) (F.e rfl) (F.e rfl))) (add_any l hI _ _ o.grant o.id o.exp _ O_l.rd.1 O_l.rd.2.2 (by omega)) (fun e u hR => ?_)
     obtain ⟨A_37, c_37, he, O_n, hb⟩ := hR
     replace O_n := O_n.low M.bel.size
     refine ⟨.slice A_37 ((addF l o.grant o.id o.exp).length) c_37, he, ?_⟩; clear he F a; intro a F
     refine hK _ _ ?_
     clear hK K
     replace O_l := O_l.below hb
     replace O_a := O_a.below hb
     replace M := M.below hb; clear hb; try clear v
     clear O_l
     refine list_val F (wn rfl) rfl rfl (.slice A_37 ((addF l o.grant o.id o.exp).length) c_37) (ex_assign _ rfl _ (F.e rfl)) ?_; clear F a; intro a F
     refine wpList_nil ?_
     replace F : Fr 135 a [(0, .slice (some ad) ss.length c), (2, .bool false), (3, .slice A_37 ((addF l o.grant o.id o.exp).length) c_37), (4, .slice A_a al.length c_a), (5, .int .i64 ((i : Nat) : Int)), (6, .pointer (some ⟨g6, 0, none⟩)), (19, .bool true), (27, .int .i64 o.do_), (28, .bool true)] := F.keep ⟨rfl, rfl, rfl, rfl, rfl, rfl, rfl, rfl, rfl, trivial⟩
     refine then_n ?_
     refine wp_region_lit ?_
     refine list_val F (wn rfl) rfl rfl (.slice A_a al.length c_a) (ex_move _ rfl _ (F.e rfl)) ?_; clear F a; intro a F
     refine list_val F (wn rfl) rfl rfl (.agg o.arr) (ex_load _ _ rfl _ (F.e rfl) _ (lrow29 o (M.at (i := 0) rfl))) ?_; clear F a; intro a F
     refine list_do (wn rfl) (fun K hK => ?_)
     refine ow_call rfl rfl F 7 #[.slice A_a al.length c_a, .agg o.arr] (ex_call 7 _ _ rfl rfl r10_ent_7 _ (map2 (F.e rfl) (F.e rfl))) (added_any al _ _ w.heap.size o _ O_a M.bel.size (by omega)) (fun e v hR => ?_)
     obtain ⟨A_40, c_40, he, O_b, hgr⟩ := hR
     refine ⟨.slice A_40 ((addA al o.grant o.id o.exp).length) c_40, he, ?_⟩; clear he F a; intro a F
     refine hK _ _ ?_
     clear hK K
     replace O_n := O_n.far hgr (own_other O_n O_a (by decide))
     replace M := mm_grownO M O_a (Nat.le_refl _) ⟨.inl (by show (29 : Nat) ≠ 35; decide), trivial⟩ hgr
     clear O_a hgr; try clear u
     refine list_val F (wn rfl) rfl rfl (.slice A_40 ((addA al o.grant o.id o.exp).length) c_40) (ex_assign _ rfl _ (F.e rfl)) ?_; clear F a; intro a F
     refine wpList_nil ?_
     replace F : Fr 135 a [(0, .slice (some ad) ss.length c), (2, .bool false), (3, .slice A_37 ((addF l o.grant o.id o.exp).length) c_37), (4, .slice A_40 ((addA al o.grant o.id o.exp).length) c_40), (5, .int .i64 ((i : Nat) : Int)), (6, .pointer (some ⟨g6, 0, none⟩)), (19, .bool true), (27, .int .i64 o.do_), (28, .bool true)] := F.keep ⟨rfl, rfl, rfl, rfl, rfl, rfl, rfl, rfl, rfl, trivial⟩
     refine in_n ?_
     refine only_n ?_
     have O_l := O_n
     have O_a := O_b
     exact ⟨A_37, c_37, (addF l o.grant o.id o.exp), A_40, c_40, (addA al o.grant o.id o.exp), F.keep ⟨rfl, rfl, rfl, rfl, rfl, rfl, rfl, rfl, trivial⟩, (by refine M.pick' [0] _ ?_ (by decide); exact ⟨rfl, trivial⟩), O_l, O_a, (hI.add _ _ _), (perm_add hI hP _ _ _), (Nat.le_trans (add_len _ _ _ _ hI) (by omega))⟩
    by_cases hd2 : o.do_ = 2
    ·
     refine wp_region_lit ?_
     refine list_val F (wn rfl) rfl rfl (.bool false) (ex_bin .eql _ _ _ _ rfl .i64 _ _ (F.e rfl) rfl _ (b_eql (by simp [hd1]))) ?_; clear F a; intro a F
     refine list_val F (wn rfl) rfl rfl (.bool false) (ex_assign _ rfl _ (F.e rfl)) ?_; clear F a; intro a F
     refine wpList_nil ?_
     replace F : Fr 135 a [(0, .slice (some ad) ss.length c), (2, .bool false), (3, .slice A_l l.length c_l), (4, .slice A_a al.length c_a), (5, .int .i64 ((i : Nat) : Int)), (6, .pointer (some ⟨g6, 0, none⟩)), (19, .bool true), (27, .int .i64 o.do_), (28, .bool false)] := F.keep ⟨rfl, rfl, rfl, rfl, rfl, rfl, rfl, rfl, rfl, trivial⟩
     refine then_n ?_
     refine wp_cond_false (F.e rfl) ?_
     refine wp_seq ?_
     refine wp_region_lit ?_
     refine list_val F (wn rfl) rfl rfl (.bool true) (ex_bin .eql _ _ _ _ rfl .i64 _ _ (F.e rfl) rfl _ (b_eql (by simp [hd2]))) ?_; clear F a; intro a F
     refine list_val F (wn rfl) rfl rfl (.bool true) (ex_assign _ rfl _ (F.e rfl)) ?_; clear F a; intro a F
     refine wpList_nil ?_
     replace F : Fr 135 a [(0, .slice (some ad) ss.length c), (2, .bool false), (3, .slice A_l l.length c_l), (4, .slice A_a al.length c_a), (5, .int .i64 ((i : Nat) : Int)), (6, .pointer (some ⟨g6, 0, none⟩)), (19, .bool true), (27, .int .i64 o.do_), (28, .bool false), (41, .bool true)] := F.keep ⟨rfl, rfl, rfl, rfl, rfl, rfl, rfl, rfl, rfl, rfl, trivial⟩
     refine then_n ?_
     refine wp_cond_true (F.e rfl) ?_
     refine wp_seq ?_
     refine wp_region_lit ?_
     refine list_val F (wn rfl) rfl rfl (.slice A_l l.length c_l) (ex_move _ rfl _ (F.e rfl)) ?_; clear F a; intro a F
     refine list_val F (wn rfl) rfl rfl (.pointer (some ⟨g6, 1, none⟩)) (ex_fa _ _ _ rfl _ (F.e rfl) 1 r10_fa_29_1_1 ⟨g6, 1, none⟩ rfl) ?_; clear F a; intro a F
     refine list_val F (wn rfl) rfl rfl (.int .u64 o.grant) (ex_load _ _ rfl _ (F.e rfl) _ (lv1 r10_one_25 (M.cell (i := 0) rfl (j := 1) (St.arr_1 _)))) ?_; clear F a; intro a F
     refine list_val F (wn rfl) rfl rfl (.pointer (some ⟨g6, 18, none⟩)) (ex_fa _ _ _ rfl _ (F.e rfl) 18 r10_fa_29_3_18 ⟨g6, 18, none⟩ rfl) ?_; clear F a; intro a F
     refine list_val F (wn rfl) rfl rfl (.int .i64 o.exp) (ex_load _ _ rfl _ (F.e rfl) _ (lv1 r10_one_2 (M.cell (i := 0) rfl (j := 18) (St.arr_18 _)))) ?_; clear F a; intro a F
     refine list_do (wn rfl) (fun K hK => ?_)
     refine ow_call rfl rfl F 8 #[.slice A_l l.length c_l, .int .u64 o.grant, .int .i64 o.exp] (ex_call 8 _ _ rfl rfl r10_ent_8 _ (map3 (F.e rfl) (F.e rfl) (F.e rfl))) (kill_any l hI _ _ o.grant o.exp _ O_l.rd.1 O_l.rd.2.2 (by omega)) (fun e u hR => ?_)
     obtain ⟨A_48, c_48, he, O_n, hb⟩ := hR
     replace O_n := O_n.low M.bel.size
     refine ⟨.slice A_48 ((killF l o.grant o.exp).length) c_48, he, ?_⟩; clear he F a; intro a F
     refine hK _ _ ?_
     clear hK K
     replace O_l := O_l.below hb
     replace O_a := O_a.below hb
     replace M := M.below hb; clear hb; try clear v
     clear O_l
     refine list_val F (wn rfl) rfl rfl (.slice A_48 ((killF l o.grant o.exp).length) c_48) (ex_assign _ rfl _ (F.e rfl)) ?_; clear F a; intro a F
     refine wpList_nil ?_
     replace F : Fr 135 a [(0, .slice (some ad) ss.length c), (2, .bool false), (3, .slice A_48 ((killF l o.grant o.exp).length) c_48), (4, .slice A_a al.length c_a), (5, .int .i64 ((i : Nat) : Int)), (6, .pointer (some ⟨g6, 0, none⟩)), (19, .bool true), (27, .int .i64 o.do_), (28, .bool false), (41, .bool true)] := F.keep ⟨rfl, rfl, rfl, rfl, rfl, rfl, rfl, rfl, rfl, rfl, trivial⟩
     refine then_n ?_
     refine wp_region_lit ?_
     refine list_val F (wn rfl) rfl rfl (.slice A_a al.length c_a) (ex_move _ rfl _ (F.e rfl)) ?_; clear F a; intro a F
     refine list_val F (wn rfl) rfl rfl (.agg o.arr) (ex_load _ _ rfl _ (F.e rfl) _ (lrow29 o (M.at (i := 0) rfl))) ?_; clear F a; intro a F
     refine list_do (wn rfl) (fun K hK => ?_)
     refine ow_call rfl rfl F 9 #[.slice A_a al.length c_a, .agg o.arr] (ex_call 9 _ _ rfl rfl r10_ent_9 _ (map2 (F.e rfl) (F.e rfl))) (killed_any al _ _ o _ O_a.rd.1 (by omega)) (fun e v hR => ?_)
     obtain ⟨A_51, c_51, he, O_b, hb⟩ := hR
     replace O_b := O_b.low M.bel.size
     refine ⟨.slice A_51 ((killA al o.grant o.exp).length) c_51, he, ?_⟩; clear he F a; intro a F
     refine hK _ _ ?_
     clear hK K
     replace O_a := O_a.below hb
     replace O_n := O_n.below hb
     replace M := M.below hb; clear hb; try clear u
     clear O_a
     refine list_val F (wn rfl) rfl rfl (.slice A_51 ((killA al o.grant o.exp).length) c_51) (ex_assign _ rfl _ (F.e rfl)) ?_; clear F a; intro a F
     refine wpList_nil ?_
     replace F : Fr 135 a [(0, .slice (some ad) ss.length c), (2, .bool false), (3, .slice A_48 ((killF l o.grant o.exp).length) c_48), (4, .slice A_51 ((killA al o.grant o.exp).length) c_51), (5, .int .i64 ((i : Nat) : Int)), (6, .pointer (some ⟨g6, 0, none⟩)), (19, .bool true), (27, .int .i64 o.do_), (28, .bool false), (41, .bool true)] := F.keep ⟨rfl, rfl, rfl, rfl, rfl, rfl, rfl, rfl, rfl, rfl, trivial⟩
     refine in_n ?_
     refine only_n ?_
     have O_l := O_n
     have O_a := O_b
     exact ⟨A_48, c_48, (killF l o.grant o.exp), A_51, c_51, (killA al o.grant o.exp), F.keep ⟨rfl, rfl, rfl, rfl, rfl, rfl, rfl, rfl, trivial⟩, (by refine M.pick' [0] _ ?_ (by decide); exact ⟨rfl, trivial⟩), O_l, O_a, (hI.kill _ _), (perm_kill hI hP _ _), (Nat.le_trans (kill_len _ _ _ hI) (by omega))⟩
    by_cases hd3 : o.do_ = 3
    ·
     refine wp_region_lit ?_
     refine list_val F (wn rfl) rfl rfl (.bool false) (ex_bin .eql _ _ _ _ rfl .i64 _ _ (F.e rfl) rfl _ (b_eql (by simp [hd1]))) ?_; clear F a; intro a F
     refine list_val F (wn rfl) rfl rfl (.bool false) (ex_assign _ rfl _ (F.e rfl)) ?_; clear F a; intro a F
     refine wpList_nil ?_
     replace F : Fr 135 a [(0, .slice (some ad) ss.length c), (2, .bool false), (3, .slice A_l l.length c_l), (4, .slice A_a al.length c_a), (5, .int .i64 ((i : Nat) : Int)), (6, .pointer (some ⟨g6, 0, none⟩)), (19, .bool true), (27, .int .i64 o.do_), (28, .bool false)] := F.keep ⟨rfl, rfl, rfl, rfl, rfl, rfl, rfl, rfl, rfl, trivial⟩
     refine then_n ?_
     refine wp_cond_false (F.e rfl) ?_
     refine wp_seq ?_
     refine wp_region_lit ?_
     refine list_val F (wn rfl) rfl rfl (.bool false) (ex_bin .eql _ _ _ _ rfl .i64 _ _ (F.e rfl) rfl _ (b_eql (by simp [hd2]))) ?_; clear F a; intro a F
     refine list_val F (wn rfl) rfl rfl (.bool false) (ex_assign _ rfl _ (F.e rfl)) ?_; clear F a; intro a F
     refine wpList_nil ?_
     replace F : Fr 135 a [(0, .slice (some ad) ss.length c), (2, .bool false), (3, .slice A_l l.length c_l), (4, .slice A_a al.length c_a), (5, .int .i64 ((i : Nat) : Int)), (6, .pointer (some ⟨g6, 0, none⟩)), (19, .bool true), (27, .int .i64 o.do_), (28, .bool false), (41, .bool false)] := F.keep ⟨rfl, rfl, rfl, rfl, rfl, rfl, rfl, rfl, rfl, rfl, trivial⟩
     refine then_n ?_
     refine wp_cond_false (F.e rfl) ?_
     refine wp_seq ?_
     refine wp_region_lit ?_
     refine list_val F (wn rfl) rfl rfl (.bool true) (ex_bin .eql _ _ _ _ rfl .i64 _ _ (F.e rfl) rfl _ (b_eql (by simp [hd3]))) ?_; clear F a; intro a F
     refine list_val F (wn rfl) rfl rfl (.bool true) (ex_assign _ rfl _ (F.e rfl)) ?_; clear F a; intro a F
     refine wpList_nil ?_
     replace F : Fr 135 a [(0, .slice (some ad) ss.length c), (2, .bool false), (3, .slice A_l l.length c_l), (4, .slice A_a al.length c_a), (5, .int .i64 ((i : Nat) : Int)), (6, .pointer (some ⟨g6, 0, none⟩)), (19, .bool true), (27, .int .i64 o.do_), (28, .bool false), (41, .bool false), (52, .bool true)] := F.keep ⟨rfl, rfl, rfl, rfl, rfl, rfl, rfl, rfl, rfl, rfl, rfl, trivial⟩
     refine then_n ?_
     refine wp_cond_true (F.e rfl) ?_
     refine wp_seq ?_
     refine wp_region_lit ?_
     refine list_val F (wn rfl) rfl rfl (.slice A_l l.length c_l) (ex_move _ rfl _ (F.e rfl)) ?_; clear F a; intro a F
     refine list_val F (wn rfl) rfl rfl (.pointer (some ⟨g6, 18, none⟩)) (ex_fa _ _ _ rfl _ (F.e rfl) 18 r10_fa_29_3_18 ⟨g6, 18, none⟩ rfl) ?_; clear F a; intro a F
     refine list_val F (wn rfl) rfl rfl (.int .i64 o.exp) (ex_load _ _ rfl _ (F.e rfl) _ (lv1 r10_one_2 (M.cell (i := 0) rfl (j := 18) (St.arr_18 _)))) ?_; clear F a; intro a F
     refine list_do (wn rfl) (fun K hK => ?_)
     refine ow_call rfl rfl F 10 #[.slice A_l l.length c_l, .int .i64 o.exp] (ex_call 10 _ _ rfl rfl r10_ent_10 _ (map2 (F.e rfl) (F.e rfl))) (prune_any l hI _ _ o.exp _ O_l.rd.1 O_l.rd.2.2 (by omega)) (fun e u hR => ?_)
     obtain ⟨A_57, c_57, he, O_n, hb⟩ := hR
     replace O_n := O_n.low M.bel.size
     refine ⟨.slice A_57 ((pruneF l o.exp).length) c_57, he, ?_⟩; clear he F a; intro a F
     refine hK _ _ ?_
     clear hK K
     replace O_l := O_l.below hb
     replace O_a := O_a.below hb
     replace M := M.below hb; clear hb; try clear v
     clear O_l
     refine list_val F (wn rfl) rfl rfl (.slice A_57 ((pruneF l o.exp).length) c_57) (ex_assign _ rfl _ (F.e rfl)) ?_; clear F a; intro a F
     refine wpList_nil ?_
     replace F : Fr 135 a [(0, .slice (some ad) ss.length c), (2, .bool false), (3, .slice A_57 ((pruneF l o.exp).length) c_57), (4, .slice A_a al.length c_a), (5, .int .i64 ((i : Nat) : Int)), (6, .pointer (some ⟨g6, 0, none⟩)), (19, .bool true), (27, .int .i64 o.do_), (28, .bool false), (41, .bool false), (52, .bool true)] := F.keep ⟨rfl, rfl, rfl, rfl, rfl, rfl, rfl, rfl, rfl, rfl, rfl, trivial⟩
     refine then_n ?_
     refine wp_seq ?_
     refine wp_region_lit ?_
     refine list_val F (wn rfl) rfl rfl (.slice none 0 0) (ex_assign _ rfl _ rfl) ?_; clear F a; intro a F
     refine wpList_nil ?_
     replace F : Fr 135 a [(0, .slice (some ad) ss.length c), (2, .bool false), (3, .slice A_57 ((pruneF l o.exp).length) c_57), (4, .slice A_a al.length c_a), (5, .int .i64 ((i : Nat) : Int)), (6, .pointer (some ⟨g6, 0, none⟩)), (7, .slice none 0 0), (19, .bool true), (27, .int .i64 o.do_), (28, .bool false), (41, .bool false), (52, .bool true)] := F.keep ⟨rfl, rfl, rfl, rfl, rfl, rfl, rfl, rfl, rfl, rfl, rfl, rfl, trivial⟩
     refine then_n ?_
     refine wp_seq ?_
     refine wp_seq ?_
     obtain ⟨bs, hbs⟩ : ∃ bs, bs = u.heap.size := ⟨_, rfl⟩
     have LT_n : ∀ k, (Value.slice A_57 ((pruneF l o.exp).length) c_57).ownBlock = some k → k < bs := fun k hk => by rw [hbs]; exact (O_n.bound hk).2.1
     have LT_a : ∀ k, (Value.slice A_a al.length c_a).ownBlock = some k → k < bs := fun k hk => by rw [hbs]; exact (O_a.bound hk).2.1
     have SB : bs ≤ u.heap.size := by rw [hbs]; exact Nat.le_refl _
     have hw0 : w.heap.size ≤ bs := by rw [hbs]; exact M.bel.size
     clear hbs
     have O_f : Ow kRv 35 u bs (.slice none 0 0) [] := Ow.nil _ _ _ _
     refine wp_region_lit ?_
     refine list_val F (wn rfl) rfl rfl (.int .i64 0) (ex_assign _ rfl _ rfl) ?_; clear F a; intro a F
     refine wpList_nil ?_
     replace F : Fr 135 a [(0, .slice (some ad) ss.length c), (2, .bool false), (3, .slice A_57 ((pruneF l o.exp).length) c_57), (4, .slice A_a al.length c_a), (5, .int .i64 ((i : Nat) : Int)), (6, .pointer (some ⟨g6, 0, none⟩)), (7, .slice none 0 0), (8, .int .i64 0), (19, .bool true), (27, .int .i64 o.do_), (28, .bool false), (41, .bool false), (52, .bool true)] := F.keep ⟨rfl, rfl, rfl, rfl, rfl, rfl, rfl, rfl, rfl, rfl, rfl, rfl, rfl, trivial⟩
     refine then_n ?_
     refine wp_block ?_
     refine wp_loopN (fun mq ar wr => ∃ (k : Nat), ∃ (A_f : Option Addr), ∃ (c_f : Nat), ∃ (lf : List Rv), Fr 135 ar [(0, .slice (some ad) ss.length c), (2, .bool false), (3, .slice A_57 ((pruneF l o.exp).length) c_57), (4, .slice A_a al.length c_a), (5, .int .i64 ((i : Nat) : Int)), (6, .pointer (some ⟨g6, 0, none⟩)), (7, .slice A_f lf.length c_f), (8, .int .i64 ((k : Nat) : Int)), (19, .bool true), (27, .int .i64 o.do_), (28, .bool false), (41, .bool false), (52, .bool true)] ∧ Mm w wr [⟨g6, o.arr, 29⟩] ∧ Ow kRv 48 wr w.heap.size (.slice A_57 ((pruneF l o.exp).length) c_57) (pruneF l o.exp) ∧ Ow kRv 35 wr w.heap.size (.slice A_a al.length c_a) al ∧ bs ≤ wr.heap.size ∧ Ow kRv 35 wr bs (.slice A_f lf.length c_f) lf ∧ k ≤ al.length ∧ lf = pruneF (al.take k) o.exp ∧ mq + k = al.length) al.length ?_ ?_
     ·
      exact ⟨0, none, 0, [], F.keep ⟨rfl, rfl, rfl, rfl, rfl, rfl, rfl, rfl, rfl, rfl, rfl, rfl, rfl, trivial⟩, M, O_n, O_a, SB, O_f, (Nat.zero_le _), (by simp [pruneF]), (by omega)⟩
     clear F M a O_a O_n SB O_f
     rintro mq a v ⟨k, A_f, c_f, lf, F, M, O_n, O_a, SB, O_f, hk, hlf, hq⟩; try clear u
     by_cases hkn : k < al.length
     ·
      obtain ⟨xl, hxl⟩ : ∃ x, al[k]? = some x := ⟨_, List.getElem?_eq_getElem (by omega)⟩
      obtain ⟨adl, hAl, zl⟩ := C_ix O_a.rd.1 hxl
      subst hAl
      refine wp_seq ?_
      refine wp_seq ?_
      refine wp_region_lit ?_
      refine list_val F (wn rfl) rfl rfl (.int .i64 ((k : Nat) : Int)) (ex_move _ rfl _ (F.e rfl)) ?_; clear F a; intro a F
      refine list_val F (wn rfl) rfl rfl (.slice (some adl) al.length c_a) (ex_move _ rfl _ (F.e rfl)) ?_; clear F a; intro a F
      refine list_val F (wn rfl) rfl rfl (.int .i64 ((al.length : Nat) : Int)) (ex_len _ _ rfl 19 r10_sl_24_19 _ _ _ (F.e rfl)) ?_; clear F a; intro a F
      refine list_val F (wn rfl) rfl rfl (.bool true) (ex_bin .lss _ _ _ _ rfl .i64 _ _ (F.e rfl) (F.e rfl) _ (b_lss (decide_eq_true (by omega)))) ?_; clear F a; intro a F
      refine wpList_nil ?_
      replace F : Fr 135 a [(0, .slice (some ad) ss.length c), (2, .bool false), (3, .slice A_57 ((pruneF l o.exp).length) c_57), (4, .slice (some adl) al.length c_a), (5, .int .i64 ((i : Nat) : Int)), (6, .pointer (some ⟨g6, 0, none⟩)), (7, .slice A_f lf.length c_f), (8, .int .i64 ((k : Nat) : Int)), (19, .bool true), (27, .int .i64 o.do_), (28, .bool false), (41, .bool false), (52, .bool true), (61, .bool true)] := F.keep ⟨rfl, rfl, rfl, rfl, rfl, rfl, rfl, rfl, rfl, rfl, rfl, rfl, rfl, rfl, trivial⟩
      refine then_n ?_
      refine wp_cond_true (F.e rfl) ?_
      refine wp_skip ?_
      refine then_n ?_
      refine wp_seq ?_
      refine wp_block ?_
      refine wp_seq ?_
      by_cases hgt : o.exp < xl.exp
      ·
       refine region_tail 7 r10_follows_mixedOrders (by kernel_rfl) M ?_; clear M; intro u M hb
       replace O_n := O_n.below hb
       replace O_a := O_a.below hb
       replace SB := Nat.le_trans SB hb.size
       replace O_f := O_f.below hb
       replace zl := zl.below hb
       clear hb; try clear v
       refine still_val F (wn rfl) rfl rfl (.slice (some adl) al.length c_a) (ex_move _ rfl _ (F.e rfl)) ?_; clear F a; intro a F
       refine still_val F (wn rfl) rfl rfl (.int .i64 ((k : Nat) : Int)) (ex_move _ rfl _ (F.e rfl)) ?_; clear F a; intro a F
       refine still_val F (wn rfl) rfl rfl (.pointer (some (adl.add (k * 19)))) (ex_ix _ _ _ rfl 19 r10_sl_24_19 adl _ _ (F.e rfl) .i64 _ (F.e rfl) k rfl (by omega) (adl.add (k * 19)) rfl) ?_; clear F a; intro a F
       refine still_val F (wn rfl) rfl rfl (.pointer (some ((adl.add (k * 19)).add 18))) (ex_fa _ _ _ rfl _ (F.e rfl) 18 r10_fa_35_3_18 ((adl.add (k * 19)).add 18) rfl) ?_; clear F a; intro a F
       refine still_val F (wn rfl) rfl rfl (.int .i64 xl.exp) (ex_load _ _ rfl _ (F.e rfl) _ (lv1 r10_one_2 (zl.cell 18 _ (Rv.cs_18 _)))) ?_; clear F a; intro a F
       refine still_val F (wn rfl) rfl rfl (.pointer (some ⟨g6, 18, none⟩)) (ex_fa _ _ _ rfl _ (F.e rfl) 18 r10_fa_29_3_18 ⟨g6, 18, none⟩ rfl) ?_; clear F a; intro a F
       refine still_val F (wn rfl) rfl rfl (.int .i64 o.exp) (ex_load _ _ rfl _ (F.e rfl) _ (lv1 r10_one_2 (M.cell (i := 0) rfl (j := 18) (St.arr_18 _)))) ?_; clear F a; intro a F
       refine still_end ?_
       refine list_val F (wn rfl) rfl rfl (.bool true) (ex_bin .gtr _ _ _ _ rfl .i64 _ _ (F.e rfl) (F.e rfl) _ (b_gtr (decide_eq_true hgt))) ?_; clear F a; intro a F
       refine wpList_nil ?_
       replace F : Fr 135 a [(0, .slice (some ad) ss.length c), (2, .bool false), (3, .slice A_57 ((pruneF l o.exp).length) c_57), (4, .slice (some adl) al.length c_a), (5, .int .i64 ((i : Nat) : Int)), (6, .pointer (some ⟨g6, 0, none⟩)), (7, .slice A_f lf.length c_f), (8, .int .i64 ((k : Nat) : Int)), (19, .bool true), (27, .int .i64 o.do_), (28, .bool false), (41, .bool false), (52, .bool true), (61, .bool true), (71, .bool true)] := F.keep ⟨rfl, rfl, rfl, rfl, rfl, rfl, rfl, rfl, rfl, rfl, rfl, rfl, rfl, rfl, rfl, trivial⟩
       refine then_n ?_
       refine wp_cond_true (F.e rfl) ?_
       refine wp_region_lit ?_
       refine list_val F (wn rfl) rfl rfl (.slice A_f lf.length c_f) (ex_move _ rfl _ (F.e rfl)) ?_; clear F a; intro a F
       refine list_val F (wn rfl) rfl rfl (.slice (some adl) al.length c_a) (ex_move _ rfl _ (F.e rfl)) ?_; clear F a; intro a F
       refine list_val F (wn rfl) rfl rfl (.int .i64 ((k : Nat) : Int)) (ex_move _ rfl _ (F.e rfl)) ?_; clear F a; intro a F
       refine list_val F (wn rfl) rfl rfl (.pointer (some (adl.add (k * 19)))) (ex_ix _ _ _ rfl 19 r10_sl_24_19 adl _ _ (F.e rfl) .i64 _ (F.e rfl) k rfl (by omega) (adl.add (k * 19)) rfl) ?_; clear F a; intro a F
       refine list_val F (wn rfl) rfl rfl (.agg xl.arr) (ex_load _ _ rfl _ (F.e rfl) _ (lrow35 xl (zl))) ?_; clear F a; intro a F
       refine list_do (wn rfl) (fun K hK => ?_)
       refine ow_bslice F M rfl rfl 24 1 _ rfl #[(0, .agg xl.arr)] (parts1 (F.e rfl)) xl.arr 35 (newrow35 xl _) ?_
       clear F M a; intro a g77 v F M hb hg
       refine hK _ _ ?_
       clear hK K
       replace O_n := O_n.below hb
       replace O_a := O_a.below hb
       replace SB := Nat.le_trans SB hb.size
       replace O_f := O_f.below hb
       replace zl := zl.below hb
       clear hb hg; try clear u
       refine list_do (wn rfl) (fun K hK => ?_)
       have hxx := C_one (enc := Rv.cs) (hl := Rv.cs_len) (h1 := Rv.cs_one) (M.at (i := 0) rfl)
       replace M : Mm w v [⟨g6, o.arr, 29⟩] := (by refine M.pick' [1] _ ?_ (by decide); exact ⟨rfl, trivial⟩)
       refine og_app F M Try.underlying24 i35 z48s (by decide) (by decide) hw0 SB ⟨.inl (by show (29 : Nat) ≠ 35; decide), trivial⟩ rfl rfl rfl _ _ rfl (.slice A_f lf.length c_f) lf ([xl]) (lf ++ [xl]) rfl (some ⟨g77, 0, none⟩) 1 1 (F.e rfl) (F.e rfl) O_f (hxx) (by have h1 : lf.length ≤ _ := hlf ▸ prune_len _ _; rw [List.length_take] at h1; omega) ?_
       clear F a; have Mo := M; clear M; intro a A_78 c_78 u F M Oz hgr
       refine hK _ _ ?_
       clear hK K
       replace O_n := O_n.far hgr (fun k hk e_ => by have h1 := LT_n k hk; have h2 := (O_f.bound e_.symm).1; omega)
       replace O_a := O_a.far hgr (fun k hk e_ => by have h1 := LT_a k hk; have h2 := (O_f.bound e_.symm).1; omega)
       replace SB := Nat.le_trans SB hgr.size
       clear zl
       clear O_f Mo hgr; have O_f := Oz; clear Oz; try clear v
       clear hxx
       refine list_val F (wn rfl) rfl rfl (.slice A_78 ((lf ++ [xl]).length) c_78) (ex_assign _ rfl _ (F.e rfl)) ?_; clear F a; intro a F
       refine wpList_nil ?_
       replace F : Fr 135 a [(0, .slice (some ad) ss.length c), (2, .bool false), (3, .slice A_57 ((pruneF l o.exp).length) c_57), (4, .slice (some adl) al.length c_a), (5, .int .i64 ((i : Nat) : Int)), (6, .pointer (some ⟨g6, 0, none⟩)), (7, .slice A_78 ((lf ++ [xl]).length) c_78), (8, .int .i64 ((k : Nat) : Int)), (19, .bool true), (27, .int .i64 o.do_), (28, .bool false), (41, .bool false), (52, .bool true), (61, .bool true), (71, .bool true)] := F.keep ⟨rfl, rfl, rfl, rfl, rfl, rfl, rfl, rfl, rfl, rfl, rfl, rfl, rfl, rfl, rfl, trivial⟩
       refine in_n ?_
       refine then_n ?_
       refine wp_region_lit ?_
       refine list_val F (wn rfl) rfl rfl (.int .i64 ((k : Nat) : Int)) (ex_move _ rfl _ (F.e rfl)) ?_; clear F a; intro a F
       refine list_val F (wn rfl) rfl rfl (.int .i64 ((k + 1 : Nat) : Int)) (ex_bin .add _ _ _ _ rfl .i64 _ _ (F.e rfl) rfl _ (b_add ((w_i64 (by omega) (by omega)).trans (by omega)))) ?_; clear F a; intro a F
       refine list_val F (wn rfl) rfl rfl (.int .i64 ((k + 1 : Nat) : Int)) (ex_assign _ rfl _ (F.e rfl)) ?_; clear F a; intro a F
       refine wpList_nil ?_
       replace F : Fr 135 a [(0, .slice (some ad) ss.length c), (2, .bool false), (3, .slice A_57 ((pruneF l o.exp).length) c_57), (4, .slice (some adl) al.length c_a), (5, .int .i64 ((i : Nat) : Int)), (6, .pointer (some ⟨g6, 0, none⟩)), (7, .slice A_78 ((lf ++ [xl]).length) c_78), (8, .int .i64 ((k + 1 : Nat) : Int)), (19, .bool true), (27, .int .i64 o.do_), (28, .bool false), (41, .bool false), (52, .bool true), (61, .bool true), (71, .bool true)] := F.keep ⟨rfl, rfl, rfl, rfl, rfl, rfl, rfl, rfl, rfl, rfl, rfl, rfl, rfl, rfl, rfl, trivial⟩
       refine then_n ?_
       exact ⟨al.length - (k + 1), by omega, (k + 1), A_78, c_78, (lf ++ [xl]), F.keep ⟨rfl, rfl, rfl, rfl, rfl, rfl, rfl, rfl, rfl, rfl, rfl, rfl, rfl, trivial⟩, (by refine M.pick' [0] _ ?_ (by decide); exact ⟨rfl, trivial⟩), O_n, O_a, SB, O_f, (by omega), (by rw [prune_snoc_yes hxl hgt, ← hlf]), (by omega)⟩
      refine region_tail 7 r10_follows_mixedOrders (by kernel_rfl) M ?_; clear M; intro u M hb
      replace O_n := O_n.below hb
      replace O_a := O_a.below hb
      replace SB := Nat.le_trans SB hb.size
      replace O_f := O_f.below hb
      replace zl := zl.below hb
      clear hb; try clear v
      refine still_val F (wn rfl) rfl rfl (.slice (some adl) al.length c_a) (ex_move _ rfl _ (F.e rfl)) ?_; clear F a; intro a F
      refine still_val F (wn rfl) rfl rfl (.int .i64 ((k : Nat) : Int)) (ex_move _ rfl _ (F.e rfl)) ?_; clear F a; intro a F
      refine still_val F (wn rfl) rfl rfl (.pointer (some (adl.add (k * 19)))) (ex_ix _ _ _ rfl 19 r10_sl_24_19 adl _ _ (F.e rfl) .i64 _ (F.e rfl) k rfl (by omega) (adl.add (k * 19)) rfl) ?_; clear F a; intro a F
      refine still_val F (wn rfl) rfl rfl (.pointer (some ((adl.add (k * 19)).add 18))) (ex_fa _ _ _ rfl _ (F.e rfl) 18 r10_fa_35_3_18 ((adl.add (k * 19)).add 18) rfl) ?_; clear F a; intro a F
      refine still_val F (wn rfl) rfl rfl (.int .i64 xl.exp) (ex_load _ _ rfl _ (F.e rfl) _ (lv1 r10_one_2 (zl.cell 18 _ (Rv.cs_18 _)))) ?_; clear F a; intro a F
      refine still_val F (wn rfl) rfl rfl (.pointer (some ⟨g6, 18, none⟩)) (ex_fa _ _ _ rfl _ (F.e rfl) 18 r10_fa_29_3_18 ⟨g6, 18, none⟩ rfl) ?_; clear F a; intro a F
      refine still_val F (wn rfl) rfl rfl (.int .i64 o.exp) (ex_load _ _ rfl _ (F.e rfl) _ (lv1 r10_one_2 (M.cell (i := 0) rfl (j := 18) (St.arr_18 _)))) ?_; clear F a; intro a F
      refine still_end ?_
      refine list_val F (wn rfl) rfl rfl (.bool false) (ex_bin .gtr _ _ _ _ rfl .i64 _ _ (F.e rfl) (F.e rfl) _ (b_gtr (decide_eq_false hgt))) ?_; clear F a; intro a F
      refine wpList_nil ?_
      replace F : Fr 135 a [(0, .slice (some ad) ss.length c), (2, .bool false), (3, .slice A_57 ((pruneF l o.exp).length) c_57), (4, .slice (some adl) al.length c_a), (5, .int .i64 ((i : Nat) : Int)), (6, .pointer (some ⟨g6, 0, none⟩)), (7, .slice A_f lf.length c_f), (8, .int .i64 ((k : Nat) : Int)), (19, .bool true), (27, .int .i64 o.do_), (28, .bool false), (41, .bool false), (52, .bool true), (61, .bool true), (71, .bool false)] := F.keep ⟨rfl, rfl, rfl, rfl, rfl, rfl, rfl, rfl, rfl, rfl, rfl, rfl, rfl, rfl, rfl, trivial⟩
      refine then_n ?_
      refine wp_cond_false (F.e rfl) ?_
      refine wp_skip ?_
      refine in_n ?_
      refine then_n ?_
      refine wp_region_lit ?_
      refine list_val F (wn rfl) rfl rfl (.int .i64 ((k : Nat) : Int)) (ex_move _ rfl _ (F.e rfl)) ?_; clear F a; intro a F
      refine list_val F (wn rfl) rfl rfl (.int .i64 ((k + 1 : Nat) : Int)) (ex_bin .add _ _ _ _ rfl .i64 _ _ (F.e rfl) rfl _ (b_add ((w_i64 (by omega) (by omega)).trans (by omega)))) ?_; clear F a; intro a F
      refine list_val F (wn rfl) rfl rfl (.int .i64 ((k + 1 : Nat) : Int)) (ex_assign _ rfl _ (F.e rfl)) ?_; clear F a; intro a F
      refine wpList_nil ?_
      replace F : Fr 135 a [(0, .slice (some ad) ss.length c), (2, .bool false), (3, .slice A_57 ((pruneF l o.exp).length) c_57), (4, .slice (some adl) al.length c_a), (5, .int .i64 ((i : Nat) : Int)), (6, .pointer (some ⟨g6, 0, none⟩)), (7, .slice A_f lf.length c_f), (8, .int .i64 ((k + 1 : Nat) : Int)), (19, .bool true), (27, .int .i64 o.do_), (28, .bool false), (41, .bool false), (52, .bool true), (61, .bool true), (71, .bool false)] := F.keep ⟨rfl, rfl, rfl, rfl, rfl, rfl, rfl, rfl, rfl, rfl, rfl, rfl, rfl, rfl, rfl, trivial⟩
      refine then_n ?_
      exact ⟨al.length - (k + 1), by omega, (k + 1), A_f, c_f, lf, F.keep ⟨rfl, rfl, rfl, rfl, rfl, rfl, rfl, rfl, rfl, rfl, rfl, rfl, rfl, trivial⟩, (by refine M.pick' [0] _ ?_ (by decide); exact ⟨rfl, trivial⟩), O_n, O_a, SB, O_f, (by omega), (by rw [prune_snoc_no hxl hgt, ← hlf]), (by omega)⟩
     obtain rfl : k = al.length := by omega
     rw [List.take_length] at hlf
     subst hlf
     refine wp_seq ?_
     refine wp_seq ?_
     refine wp_region_lit ?_
     refine list_val F (wn rfl) rfl rfl (.int .i64 ((al.length : Nat) : Int)) (ex_move _ rfl _ (F.e rfl)) ?_; clear F a; intro a F
     refine list_val F (wn rfl) rfl rfl (.slice A_a al.length c_a) (ex_move _ rfl _ (F.e rfl)) ?_; clear F a; intro a F
     refine list_val F (wn rfl) rfl rfl (.int .i64 ((al.length : Nat) : Int)) (ex_len _ _ rfl 19 r10_sl_24_19 _ _ _ (F.e rfl)) ?_; clear F a; intro a F
     refine list_val F (wn rfl) rfl rfl (.bool false) (ex_bin .lss _ _ _ _ rfl .i64 _ _ (F.e rfl) (F.e rfl) _ (b_lss (decide_eq_false (by omega)))) ?_; clear F a; intro a F
     refine wpList_nil ?_
     replace F : Fr 135 a [(0, .slice (some ad) ss.length c), (2, .bool false), (3, .slice A_57 ((pruneF l o.exp).length) c_57), (4, .slice A_a al.length c_a), (5, .int .i64 ((i : Nat) : Int)), (6, .pointer (some ⟨g6, 0, none⟩)), (7, .slice A_f ((pruneF al o.exp).length) c_f), (8, .int .i64 ((al.length : Nat) : Int)), (19, .bool true), (27, .int .i64 o.do_), (28, .bool false), (41, .bool false), (52, .bool true), (61, .bool false)] := F.keep ⟨rfl, rfl, rfl, rfl, rfl, rfl, rfl, rfl, rfl, rfl, rfl, rfl, rfl, rfl, trivial⟩
     refine then_n ?_
     refine wp_cond_false (F.e rfl) ?_
     refine wp_exit ?_
     refine then_x ?_
     refine then_x ?_
     refine in_hit ?_
     refine then_n ?_
     refine wp_region_lit ?_
     refine list_val F (wn rfl) rfl rfl (.slice A_f ((pruneF al o.exp).length) c_f) (ex_move _ rfl _ (F.e rfl)) ?_; clear F a; intro a F
     refine list_val F (wn rfl) rfl rfl (.slice A_f ((pruneF al o.exp).length) c_f) (ex_assign _ rfl _ (F.e rfl)) ?_; clear F a; intro a F
     refine wpList_nil ?_
     replace F : Fr 135 a [(0, .slice (some ad) ss.length c), (2, .bool false), (3, .slice A_57 ((pruneF l o.exp).length) c_57), (4, .slice A_f ((pruneF al o.exp).length) c_f), (5, .int .i64 ((i : Nat) : Int)), (6, .pointer (some ⟨g6, 0, none⟩)), (7, .slice A_f ((pruneF al o.exp).length) c_f), (8, .int .i64 ((al.length : Nat) : Int)), (19, .bool true), (27, .int .i64 o.do_), (28, .bool false), (41, .bool false), (52, .bool true), (61, .bool false)] := F.keep ⟨rfl, rfl, rfl, rfl, rfl, rfl, rfl, rfl, rfl, rfl, rfl, rfl, rfl, rfl, trivial⟩
     refine in_n ?_
     refine only_n ?_
     have O_l := O_n
     have O_a := O_f.low hw0
     exact ⟨A_57, c_57, (pruneF l o.exp), A_f, c_f, (pruneF al o.exp), F.keep ⟨rfl, rfl, rfl, rfl, rfl, rfl, rfl, rfl, trivial⟩, (by refine M.pick' [0] _ ?_ (by decide); exact ⟨rfl, trivial⟩), O_l, O_a, (hI.prune _), (perm_prune hP _), (Nat.le_trans (prune_len _ _) (by omega))⟩
    refine wp_region_lit ?_
    refine list_val F (wn rfl) rfl rfl (.bool false) (ex_bin .eql _ _ _ _ rfl .i64 _ _ (F.e rfl) rfl _ (b_eql (by simp [hd1]))) ?_; clear F a; intro a F
    refine list_val F (wn rfl) rfl rfl (.bool false) (ex_assign _ rfl _ (F.e rfl)) ?_; clear F a; intro a F
    refine wpList_nil ?_
    replace F : Fr 135 a [(0, .slice (some ad) ss.length c), (2, .bool false), (3, .slice A_l l.length c_l), (4, .slice A_a al.length c_a), (5, .int .i64 ((i : Nat) : Int)), (6, .pointer (some ⟨g6, 0, none⟩)), (19, .bool true), (27, .int .i64 o.do_), (28, .bool false)] := F.keep ⟨rfl, rfl, rfl, rfl, rfl, rfl, rfl, rfl, rfl, trivial⟩
    refine then_n ?_
    refine wp_cond_false (F.e rfl) ?_
    refine wp_seq ?_
    refine wp_region_lit ?_
    refine list_val F (wn rfl) rfl rfl (.bool false) (ex_bin .eql _ _ _ _ rfl .i64 _ _ (F.e rfl) rfl _ (b_eql (by simp [hd2]))) ?_; clear F a; intro a F
    refine list_val F (wn rfl) rfl rfl (.bool false) (ex_assign _ rfl _ (F.e rfl)) ?_; clear F a; intro a F
    refine wpList_nil ?_
    replace F : Fr 135 a [(0, .slice (some ad) ss.length c), (2, .bool false), (3, .slice A_l l.length c_l), (4, .slice A_a al.length c_a), (5, .int .i64 ((i : Nat) : Int)), (6, .pointer (some ⟨g6, 0, none⟩)), (19, .bool true), (27, .int .i64 o.do_), (28, .bool false), (41, .bool false)] := F.keep ⟨rfl, rfl, rfl, rfl, rfl, rfl, rfl, rfl, rfl, rfl, trivial⟩
    refine then_n ?_
    refine wp_cond_false (F.e rfl) ?_
    refine wp_seq ?_
    refine wp_region_lit ?_
    refine list_val F (wn rfl) rfl rfl (.bool false) (ex_bin .eql _ _ _ _ rfl .i64 _ _ (F.e rfl) rfl _ (b_eql (by simp [hd3]))) ?_; clear F a; intro a F
    refine list_val F (wn rfl) rfl rfl (.bool false) (ex_assign _ rfl _ (F.e rfl)) ?_; clear F a; intro a F
    refine wpList_nil ?_
    replace F : Fr 135 a [(0, .slice (some ad) ss.length c), (2, .bool false), (3, .slice A_l l.length c_l), (4, .slice A_a al.length c_a), (5, .int .i64 ((i : Nat) : Int)), (6, .pointer (some ⟨g6, 0, none⟩)), (19, .bool true), (27, .int .i64 o.do_), (28, .bool false), (41, .bool false), (52, .bool false)] := F.keep ⟨rfl, rfl, rfl, rfl, rfl, rfl, rfl, rfl, rfl, rfl, rfl, trivial⟩
    refine then_n ?_
    refine wp_cond_false (F.e rfl) ?_
    refine wp_skip ?_
    refine in_n ?_
    refine only_n ?_
    exact ⟨A_l, c_l, l, A_a, c_a, al, F.keep ⟨rfl, rfl, rfl, rfl, rfl, rfl, rfl, rfl, trivial⟩, (by refine M.pick' [0] _ ?_ (by decide); exact ⟨rfl, trivial⟩), O_l, O_a, hI, hP, (by omega)⟩
   clear F M a O_l O_a
   intro a u hR; obtain ⟨A_l2, c_l2, l2, A_a2, c_a2, al2, F, M, O_l, O_a, hI2, hP2, hln2⟩ := hR; try clear v
   have hal2 := hP2.length_eq
   refine then_n ?_
   refine wp_seq ?_
   refine wp_seq ?_
   refine wp_region_lit ?_
   refine list_val F (wn rfl) rfl rfl (.slice A_l2 l2.length c_l2) (ex_move _ rfl _ (F.e rfl)) ?_; clear F a; intro a F
   refine list_do (wn rfl) (fun K hK => ?_)
   refine ow_call rfl rfl F 12 #[.slice A_l2 l2.length c_l2] (ex_call 12 _ _ rfl rfl r10_ent_12 _ (map1 (F.e rfl))) (check_any l2 hI2 _ _ _ O_l.rd.1 (by omega)) (fun e v hR => ?_)
   obtain ⟨he, hb⟩ := hR
   refine ⟨.int .i64 0, he, ?_⟩; clear he F a; intro a F
   refine hK _ _ ?_
   clear hK K
   replace O_l := O_l.below hb
   replace O_a := O_a.below hb
   replace M := M.below hb; clear hb; try clear u
   refine list_do (wn rfl) (fun K hK => ?_)
   refine ow_call rfl rfl F 11 #[.int .i64 0] (ex_call 11 _ _ rfl rfl r10_ent_11 _ (map1 (F.e rfl))) (num_any 0 _) (fun e u hR => ?_)
   obtain ⟨he, hb⟩ := hR
   refine ⟨.int .i64 0, he, ?_⟩; clear he F a; intro a F
   refine hK _ _ ?_
   clear hK K
   replace O_l := O_l.below hb
   replace O_a := O_a.below hb
   replace M := M.below hb; clear hb; try clear v
   refine list_val F (wn rfl) rfl rfl (.bool false) (ex_bin .neq _ _ _ _ rfl .i64 _ _ (F.e rfl) rfl _ (b_neq (by decide))) ?_; clear F a; intro a F
   refine list_val F (wn rfl) rfl rfl (.bool false) (ex_move _ rfl _ (F.e rfl)) ?_; clear F a; intro a F
   refine list_val F (F.wants 84 false rfl (by kernel_rfl) rfl true rfl) rfl rfl (.slice A_l2 l2.length c_l2) (ex_move _ rfl _ (F.e rfl)) ?_; clear F a; intro a F
   refine list_val F (F.wants 84 false rfl (by kernel_rfl) rfl true rfl) rfl rfl (.int .i64 ((l2.length : Nat) : Int)) (ex_len _ _ rfl 19 r10_sl_23_19 _ _ _ (F.e rfl)) ?_; clear F a; intro a F
   refine list_val F (F.wants 84 false rfl (by kernel_rfl) rfl true rfl) rfl rfl (.slice A_a2 al2.length c_a2) (ex_move _ rfl _ (F.e rfl)) ?_; clear F a; intro a F
   refine list_val F (F.wants 84 false rfl (by kernel_rfl) rfl true rfl) rfl rfl (.int .i64 ((al2.length : Nat) : Int)) (ex_len _ _ rfl 19 r10_sl_24_19 _ _ _ (F.e rfl)) ?_; clear F a; intro a F
   refine list_val F (F.wants 84 false rfl (by kernel_rfl) rfl true rfl) rfl rfl (.bool false) (ex_bin .neq _ _ _ _ rfl .i64 _ _ (F.e rfl) (F.e rfl) _ (b_neq (by simp [hal2]))) ?_; clear F a; intro a F
   refine list_val F (wn rfl) rfl rfl (.bool false) (ex_pick_f _ _ _ rfl (F.e rfl) _ (F.e rfl)) ?_; clear F a; intro a F
   refine wpList_nil ?_
   replace F : Fr 135 a [(0, .slice (some ad) ss.length c), (2, .bool false), (3, .slice A_l2 l2.length c_l2), (4, .slice A_a2 al2.length c_a2), (5, .int .i64 ((i : Nat) : Int)), (6, .pointer (some ⟨g6, 0, none⟩)), (19, .bool true), (27, .int .i64 o.do_), (90, .bool false)] := F.keep ⟨rfl, rfl, rfl, rfl, rfl, rfl, rfl, rfl, rfl, trivial⟩
   refine then_n ?_
   refine wp_cond_false (F.e rfl) ?_
   refine wp_skip ?_
   refine then_n ?_
   refine wp_seq ?_
   refine wp_region_lit ?_
   refine list_val F (wn rfl) rfl rfl (.int .i64 0) (ex_assign _ rfl _ rfl) ?_; clear F a; intro a F
   refine wpList_nil ?_
   replace F : Fr 135 a [(0, .slice (some ad) ss.length c), (2, .bool false), (3, .slice A_l2 l2.length c_l2), (4, .slice A_a2 al2.length c_a2), (5, .int .i64 ((i : Nat) : Int)), (6, .pointer (some ⟨g6, 0, none⟩)), (9, .int .i64 0), (19, .bool true), (27, .int .i64 o.do_), (90, .bool false)] := F.keep ⟨rfl, rfl, rfl, rfl, rfl, rfl, rfl, rfl, rfl, rfl, trivial⟩
   refine then_n ?_
   refine wp_block ?_
   refine wp_loopN (fun mq ar wr => ∃ (k : Nat), Fr 135 ar [(0, .slice (some ad) ss.length c), (2, .bool false), (3, .slice A_l2 l2.length c_l2), (4, .slice A_a2 al2.length c_a2), (5, .int .i64 ((i : Nat) : Int)), (6, .pointer (some ⟨g6, 0, none⟩)), (9, .int .i64 ((k : Nat) : Int)), (19, .bool true), (27, .int .i64 o.do_), (90, .bool false)] ∧ Mm w wr [⟨g6, o.arr, 29⟩] ∧ Ow kRv 48 wr w.heap.size (.slice A_l2 l2.length c_l2) l2 ∧ Ow kRv 35 wr w.heap.size (.slice A_a2 al2.length c_a2) al2 ∧ k ≤ i + 1 ∧ mq + k = i + 1) (i + 1) ?_ ?_
   ·
    exact ⟨0, F.keep ⟨rfl, rfl, rfl, rfl, rfl, rfl, rfl, rfl, rfl, rfl, trivial⟩, M, O_l, O_a, (Nat.zero_le _), (by omega)⟩
   clear F M a O_l O_a
   rintro mq a v ⟨k, F, M, O_l, O_a, hk, hq⟩; try clear u
   by_cases hkn : k ≤ i
   ·
    obtain ⟨p, hp⟩ : ∃ p, ss[k]? = some p := ⟨_, List.getElem?_eq_getElem (by omega)⟩
    obtain ⟨ad2, hA2, zp⟩ := C_ix hr hp
    obtain rfl := Option.some.inj hA2
    refine wp_seq ?_
    refine wp_seq ?_
    refine wp_region_lit ?_
    refine list_val F (wn rfl) rfl rfl (.int .i64 ((k : Nat) : Int)) (ex_move _ rfl _ (F.e rfl)) ?_; clear F a; intro a F
    refine list_val F (wn rfl) rfl rfl (.int .i64 ((i : Nat) : Int)) (ex_move _ rfl _ (F.e rfl)) ?_; clear F a; intro a F
    refine list_val F (wn rfl) rfl rfl (.bool true) (ex_bin .leq _ _ _ _ rfl .i64 _ _ (F.e rfl) (F.e rfl) _ (b_leq (decide_eq_true (by omega)))) ?_; clear F a; intro a F
    refine wpList_nil ?_
    replace F : Fr 135 a [(0, .slice (some ad) ss.length c), (2, .bool false), (3, .slice A_l2 l2.length c_l2), (4, .slice A_a2 al2.length c_a2), (5, .int .i64 ((i : Nat) : Int)), (6, .pointer (some ⟨g6, 0, none⟩)), (9, .int .i64 ((k : Nat) : Int)), (19, .bool true), (27, .int .i64 o.do_), (90, .bool false), (93, .bool true)] := F.keep ⟨rfl, rfl, rfl, rfl, rfl, rfl, rfl, rfl, rfl, rfl, rfl, trivial⟩
    refine then_n ?_
    refine wp_cond_true (F.e rfl) ?_
    refine wp_skip ?_
    refine then_n ?_
    refine wp_seq ?_
    refine wp_block ?_
    refine wp_seq ?_
    refine wp_region_lit ?_
    refine list_val F (wn rfl) rfl rfl (.bool false) (ex_assign _ rfl _ rfl) ?_; clear F a; intro a F
    refine wpList_nil ?_
    replace F : Fr 135 a [(0, .slice (some ad) ss.length c), (2, .bool false), (3, .slice A_l2 l2.length c_l2), (4, .slice A_a2 al2.length c_a2), (5, .int .i64 ((i : Nat) : Int)), (6, .pointer (some ⟨g6, 0, none⟩)), (9, .int .i64 ((k : Nat) : Int)), (10, .bool false), (19, .bool true), (27, .int .i64 o.do_), (90, .bool false), (93, .bool true)] := F.keep ⟨rfl, rfl, rfl, rfl, rfl, rfl, rfl, rfl, rfl, rfl, rfl, rfl, trivial⟩
    refine then_n ?_
    refine wp_seq ?_
    refine wp_seq ?_
    refine wp_region_lit ?_
    refine list_val F (wn rfl) rfl rfl (.int .i64 0) (ex_assign _ rfl _ rfl) ?_; clear F a; intro a F
    refine wpList_nil ?_
    replace F : Fr 135 a [(0, .slice (some ad) ss.length c), (2, .bool false), (3, .slice A_l2 l2.length c_l2), (4, .slice A_a2 al2.length c_a2), (5, .int .i64 ((i : Nat) : Int)), (6, .pointer (some ⟨g6, 0, none⟩)), (9, .int .i64 ((k : Nat) : Int)), (10, .bool false), (11, .int .i64 0), (19, .bool true), (27, .int .i64 o.do_), (90, .bool false), (93, .bool true)] := F.keep ⟨rfl, rfl, rfl, rfl, rfl, rfl, rfl, rfl, rfl, rfl, rfl, rfl, rfl, trivial⟩
    refine then_n ?_
    refine wp_block ?_
    refine wp_loopN (fun mq ar wr => ∃ (m : Nat), ∃ (wb : Bool), Fr 135 ar [(0, .slice (some ad) ss.length c), (2, .bool false), (3, .slice A_l2 l2.length c_l2), (4, .slice A_a2 al2.length c_a2), (5, .int .i64 ((i : Nat) : Int)), (6, .pointer (some ⟨g6, 0, none⟩)), (9, .int .i64 ((k : Nat) : Int)), (10, .bool wb), (11, .int .i64 ((m : Nat) : Int)), (19, .bool true), (27, .int .i64 o.do_), (90, .bool false), (93, .bool true)] ∧ Mm w wr [⟨g6, o.arr, 29⟩] ∧ Ow kRv 48 wr w.heap.size (.slice A_l2 l2.length c_l2) l2 ∧ Ow kRv 35 wr w.heap.size (.slice A_a2 al2.length c_a2) al2 ∧ m ≤ al2.length ∧ wb = (al2.take m).any (cov p.grant p.id) ∧ mq + m = al2.length) al2.length ?_ ?_
    ·
     exact ⟨0, false, F.keep ⟨rfl, rfl, rfl, rfl, rfl, rfl, rfl, rfl, rfl, rfl, rfl, rfl, rfl, trivial⟩, M, O_l, O_a, (Nat.zero_le _), (by simp), (by omega)⟩
    clear F M a O_l O_a
    rintro mq a u ⟨m, wb, F, M, O_l, O_a, hm, hwb, hq⟩; try clear v
    by_cases hmn : m < al2.length
    ·
     obtain ⟨xm, hxm⟩ : ∃ x, al2[m]? = some x := ⟨_, List.getElem?_eq_getElem (by omega)⟩
     obtain ⟨adm, hAm, zm⟩ := C_ix O_a.rd.1 hxm
     subst hAm
     refine wp_seq ?_
     refine wp_seq ?_
     refine wp_region_lit ?_
     refine list_val F (wn rfl) rfl rfl (.int .i64 ((m : Nat) : Int)) (ex_move _ rfl _ (F.e rfl)) ?_; clear F a; intro a F
     refine list_val F (wn rfl) rfl rfl (.slice (some adm) al2.length c_a2) (ex_move _ rfl _ (F.e rfl)) ?_; clear F a; intro a F
     refine list_val F (wn rfl) rfl rfl (.int .i64 ((al2.length : Nat) : Int)) (ex_len _ _ rfl 19 r10_sl_24_19 _ _ _ (F.e rfl)) ?_; clear F a; intro a F
     refine list_val F (wn rfl) rfl rfl (.bool true) (ex_bin .lss _ _ _ _ rfl .i64 _ _ (F.e rfl) (F.e rfl) _ (b_lss (decide_eq_true (by omega)))) ?_; clear F a; intro a F
     refine wpList_nil ?_
     replace F : Fr 135 a [(0, .slice (some ad) ss.length c), (2, .bool false), (3, .slice A_l2 l2.length c_l2), (4, .slice (some adm) al2.length c_a2), (5, .int .i64 ((i : Nat) : Int)), (6, .pointer (some ⟨g6, 0, none⟩)), (9, .int .i64 ((k : Nat) : Int)), (10, .bool wb), (11, .int .i64 ((m : Nat) : Int)), (19, .bool true), (27, .int .i64 o.do_), (90, .bool false), (93, .bool true), (99, .bool true)] := F.keep ⟨rfl, rfl, rfl, rfl, rfl, rfl, rfl, rfl, rfl, rfl, rfl, rfl, rfl, rfl, trivial⟩
     refine then_n ?_
     refine wp_cond_true (F.e rfl) ?_
     refine wp_skip ?_
     refine then_n ?_
     refine wp_seq ?_
     refine wp_block ?_
     by_cases hwt : wb = true
     ·
      subst hwt
      refine region_tail 16 r10_follows_mixedOrders (by kernel_rfl) M ?_; clear M; intro v M hb
      replace O_l := O_l.below hb
      replace O_a := O_a.below hb
      replace zm := zm.below hb
      clear hb; try clear u
      refine still_val F (wn rfl) rfl rfl (.bool true) (ex_move _ rfl _ (F.e rfl)) ?_; clear F a; intro a F
      refine still_val F (wn rfl) rfl rfl (.bool true) (ex_move _ rfl _ (F.e rfl)) ?_; clear F a; intro a F
      refine still_skip F (F.wants 103 true rfl (by kernel_rfl) rfl false rfl) rfl rfl ?_; clear F a; intro a F
      refine still_skip F (F.wants 103 true rfl (by kernel_rfl) rfl false rfl) rfl rfl ?_; clear F a; intro a F
      refine still_skip F (F.wants 103 true rfl (by kernel_rfl) rfl false rfl) rfl rfl ?_; clear F a; intro a F
      refine still_skip F (F.wants 103 true rfl (by kernel_rfl) rfl false rfl) rfl rfl ?_; clear F a; intro a F
      refine still_skip F (F.wants 103 true rfl (by kernel_rfl) rfl false rfl) rfl rfl ?_; clear F a; intro a F
      refine still_skip F (F.wants 103 true rfl (by kernel_rfl) rfl false rfl) rfl rfl ?_; clear F a; intro a F
      refine still_skip F (F.wants 103 true rfl (by kernel_rfl) rfl false rfl) rfl rfl ?_; clear F a; intro a F
      refine still_skip F (F.wants 103 true rfl (by kernel_rfl) rfl false rfl) rfl rfl ?_; clear F a; intro a F
      refine still_skip F (F.wants 103 true rfl (by kernel_rfl) rfl false rfl) rfl rfl ?_; clear F a; intro a F
      refine still_skip F (F.wants 103 true rfl (by kernel_rfl) rfl false rfl) rfl rfl ?_; clear F a; intro a F
      refine still_skip F (F.wants 103 true rfl (by kernel_rfl) rfl false rfl) rfl rfl ?_; clear F a; intro a F
      refine still_skip F (F.wants 103 true rfl (by kernel_rfl) rfl false rfl) rfl rfl ?_; clear F a; intro a F
      refine still_skip F (F.wants 103 true rfl (by kernel_rfl) rfl false rfl) rfl rfl ?_; clear F a; intro a F
      refine still_skip F (F.wants 103 true rfl (by kernel_rfl) rfl false rfl) rfl rfl ?_; clear F a; intro a F
      refine still_end ?_
      refine list_skip F (F.wants 103 true rfl (by kernel_rfl) rfl false rfl) rfl rfl ?_; clear F a; intro a F
      refine list_val F (wn rfl) rfl rfl (.bool true) (ex_pick_t _ _ _ rfl (F.e rfl) _ rfl) ?_; clear F a; intro a F
      refine list_val F (wn rfl) rfl rfl (.bool true) (ex_assign _ rfl _ (F.e rfl)) ?_; clear F a; intro a F
      refine wpList_nil ?_
      replace F : Fr 135 a [(0, .slice (some ad) ss.length c), (2, .bool false), (3, .slice A_l2 l2.length c_l2), (4, .slice (some adm) al2.length c_a2), (5, .int .i64 ((i : Nat) : Int)), (6, .pointer (some ⟨g6, 0, none⟩)), (9, .int .i64 ((k : Nat) : Int)), (10, .bool true), (11, .int .i64 ((m : Nat) : Int)), (19, .bool true), (27, .int .i64 o.do_), (90, .bool false), (93, .bool true), (99, .bool true)] := F.keep ⟨rfl, rfl, rfl, rfl, rfl, rfl, rfl, rfl, rfl, rfl, rfl, rfl, rfl, rfl, trivial⟩
      refine in_n ?_
      refine then_n ?_
      refine wp_region_lit ?_
      refine list_val F (wn rfl) rfl rfl (.int .i64 ((m : Nat) : Int)) (ex_move _ rfl _ (F.e rfl)) ?_; clear F a; intro a F
      refine list_val F (wn rfl) rfl rfl (.int .i64 ((m + 1 : Nat) : Int)) (ex_bin .add _ _ _ _ rfl .i64 _ _ (F.e rfl) rfl _ (b_add ((w_i64 (by omega) (by omega)).trans (by omega)))) ?_; clear F a; intro a F
      refine list_val F (wn rfl) rfl rfl (.int .i64 ((m + 1 : Nat) : Int)) (ex_assign _ rfl _ (F.e rfl)) ?_; clear F a; intro a F
      refine wpList_nil ?_
      replace F : Fr 135 a [(0, .slice (some ad) ss.length c), (2, .bool false), (3, .slice A_l2 l2.length c_l2), (4, .slice (some adm) al2.length c_a2), (5, .int .i64 ((i : Nat) : Int)), (6, .pointer (some ⟨g6, 0, none⟩)), (9, .int .i64 ((k : Nat) : Int)), (10, .bool true), (11, .int .i64 ((m + 1 : Nat) : Int)), (19, .bool true), (27, .int .i64 o.do_), (90, .bool false), (93, .bool true), (99, .bool true)] := F.keep ⟨rfl, rfl, rfl, rfl, rfl, rfl, rfl, rfl, rfl, rfl, rfl, rfl, rfl, rfl, trivial⟩
      refine then_n ?_
      exact ⟨al2.length - (m + 1), by omega, (m + 1), true, F.keep ⟨rfl, rfl, rfl, rfl, rfl, rfl, rfl, rfl, rfl, rfl, rfl, rfl, rfl, trivial⟩, (by refine M.pick' [0] _ ?_ (by decide); exact ⟨rfl, trivial⟩), O_l, O_a, (by omega), (by rw [any_snoc hxm, ← hwb]; rfl), (by omega)⟩
     obtain rfl : wb = false := Bool.eq_false_iff.2 hwt
     refine region_tail 16 r10_follows_mixedOrders (by kernel_rfl) M ?_; clear M; intro v M hb
     replace O_l := O_l.below hb
     replace O_a := O_a.below hb
     replace zm := zm.below hb
     clear hb; try clear u
     refine still_val F (wn rfl) rfl rfl (.bool false) (ex_move _ rfl _ (F.e rfl)) ?_; clear F a; intro a F
     refine still_val F (wn rfl) rfl rfl (.bool false) (ex_move _ rfl _ (F.e rfl)) ?_; clear F a; intro a F
     refine still_val F (F.wants 103 false rfl (by kernel_rfl) rfl true rfl) rfl rfl (.slice (some adm) al2.length c_a2) (ex_move _ rfl _ (F.e rfl)) ?_; clear F a; intro a F
     refine still_val F (F.wants 103 false rfl (by kernel_rfl) rfl true rfl) rfl rfl (.int .i64 ((m : Nat) : Int)) (ex_move _ rfl _ (F.e rfl)) ?_; clear F a; intro a F
     refine still_val F (F.wants 103 false rfl (by kernel_rfl) rfl true rfl) rfl rfl (.pointer (some (adm.add (m * 19)))) (ex_ix _ _ _ rfl 19 r10_sl_24_19 adm _ _ (F.e rfl) .i64 _ (F.e rfl) m rfl (by omega) (adm.add (m * 19)) rfl) ?_; clear F a; intro a F
     refine still_val F (F.wants 103 false rfl (by kernel_rfl) rfl true rfl) rfl rfl (.agg xm.arr) (ex_load _ _ rfl _ (F.e rfl) _ (lrow35 xm (zm))) ?_; clear F a; intro a F
     refine still_val F (F.wants 103 false rfl (by kernel_rfl) rfl true rfl) rfl rfl (.slice (some ad) ss.length c) (ex_move _ rfl _ (F.e rfl)) ?_; clear F a; intro a F
     refine still_val F (F.wants 103 false rfl (by kernel_rfl) rfl true rfl) rfl rfl (.int .i64 ((k : Nat) : Int)) (ex_move _ rfl _ (F.e rfl)) ?_; clear F a; intro a F
     refine still_val F (F.wants 103 false rfl (by kernel_rfl) rfl true rfl) rfl rfl (.pointer (some (ad.add (k * 20)))) (ex_ix _ _ _ rfl 20 r10_sl_22_20 ad _ _ (F.e rfl) .i64 _ (F.e rfl) k rfl (by omega) (ad.add (k * 20)) rfl) ?_; clear F a; intro a F
     refine still_val F (F.wants 103 false rfl (by kernel_rfl) rfl true rfl) rfl rfl (.pointer (some ((ad.add (k * 20)).add 1))) (ex_fa _ _ _ rfl _ (F.e rfl) 1 r10_fa_29_1_1 ((ad.add (k * 20)).add 1) rfl) ?_; clear F a; intro a F
     refine still_val F (F.wants 103 false rfl (by kernel_rfl) rfl true rfl) rfl rfl (.int .u64 p.grant) (ex_load _ _ rfl _ (F.e rfl) _ (lv1 r10_one_25 ((zp.below M.bel).cell 1 _ (St.cs_1 _)))) ?_; clear F a; intro a F
     refine still_val F (F.wants 103 false rfl (by kernel_rfl) rfl true rfl) rfl rfl (.slice (some ad) ss.length c) (ex_move _ rfl _ (F.e rfl)) ?_; clear F a; intro a F
     refine still_val F (F.wants 103 false rfl (by kernel_rfl) rfl true rfl) rfl rfl (.int .i64 ((k : Nat) : Int)) (ex_move _ rfl _ (F.e rfl)) ?_; clear F a; intro a F
     refine still_val F (F.wants 103 false rfl (by kernel_rfl) rfl true rfl) rfl rfl (.pointer (some (ad.add (k * 20)))) (ex_ix _ _ _ rfl 20 r10_sl_22_20 ad _ _ (F.e rfl) .i64 _ (F.e rfl) k rfl (by omega) (ad.add (k * 20)) rfl) ?_; clear F a; intro a F
     refine still_val F (F.wants 103 false rfl (by kernel_rfl) rfl true rfl) rfl rfl (.pointer (some ((ad.add (k * 20)).add 2))) (ex_fa _ _ _ rfl _ (F.e rfl) 2 r10_fa_29_2_2 ((ad.add (k * 20)).add 2) rfl) ?_; clear F a; intro a F
     refine still_val F (F.wants 103 false rfl (by kernel_rfl) rfl true rfl) rfl rfl (.agg p.id.cs.toArray) (ex_load _ _ rfl _ (F.e rfl) _ (lrow27 p.id (St.id_at ((zp.below M.bel))))) ?_; clear F a; intro a F
     refine still_end ?_
     refine list_do (F.wants 103 false rfl (by kernel_rfl) rfl true rfl) (fun K hK => ?_)
     refine ow_call rfl rfl F 13 #[.agg xm.arr, .int .u64 p.grant, .agg p.id.cs.toArray] (ex_call 13 _ _ rfl rfl r10_ent_13 _ (map3 (F.e rfl) (F.e rfl) (F.e rfl))) (covers_any xm p.grant p.id _) (fun e u hR => ?_)
     obtain ⟨he, hb⟩ := hR
     refine ⟨.bool (cov p.grant p.id xm), he, ?_⟩; clear he F a; intro a F
     refine hK _ _ ?_
     clear hK K
     replace O_l := O_l.below hb
     replace O_a := O_a.below hb
     replace zm := zm.below hb
     replace M := M.below hb; clear hb; try clear v
     refine list_val F (wn rfl) rfl rfl (.bool (cov p.grant p.id xm)) (ex_pick_f _ _ _ rfl (F.e rfl) _ (F.e rfl)) ?_; clear F a; intro a F
     refine list_val F (wn rfl) rfl rfl (.bool (cov p.grant p.id xm)) (ex_assign _ rfl _ (F.e rfl)) ?_; clear F a; intro a F
     refine wpList_nil ?_
     replace F : Fr 135 a [(0, .slice (some ad) ss.length c), (2, .bool false), (3, .slice A_l2 l2.length c_l2), (4, .slice (some adm) al2.length c_a2), (5, .int .i64 ((i : Nat) : Int)), (6, .pointer (some ⟨g6, 0, none⟩)), (9, .int .i64 ((k : Nat) : Int)), (10, .bool (cov p.grant p.id xm)), (11, .int .i64 ((m : Nat) : Int)), (19, .bool true), (27, .int .i64 o.do_), (90, .bool false), (93, .bool true), (99, .bool true)] := F.keep ⟨rfl, rfl, rfl, rfl, rfl, rfl, rfl, rfl, rfl, rfl, rfl, rfl, rfl, rfl, trivial⟩
     refine in_n ?_
     refine then_n ?_
     refine wp_region_lit ?_
     refine list_val F (wn rfl) rfl rfl (.int .i64 ((m : Nat) : Int)) (ex_move _ rfl _ (F.e rfl)) ?_; clear F a; intro a F
     refine list_val F (wn rfl) rfl rfl (.int .i64 ((m + 1 : Nat) : Int)) (ex_bin .add _ _ _ _ rfl .i64 _ _ (F.e rfl) rfl _ (b_add ((w_i64 (by omega) (by omega)).trans (by omega)))) ?_; clear F a; intro a F
     refine list_val F (wn rfl) rfl rfl (.int .i64 ((m + 1 : Nat) : Int)) (ex_assign _ rfl _ (F.e rfl)) ?_; clear F a; intro a F
     refine wpList_nil ?_
     replace F : Fr 135 a [(0, .slice (some ad) ss.length c), (2, .bool false), (3, .slice A_l2 l2.length c_l2), (4, .slice (some adm) al2.length c_a2), (5, .int .i64 ((i : Nat) : Int)), (6, .pointer (some ⟨g6, 0, none⟩)), (9, .int .i64 ((k : Nat) : Int)), (10, .bool (cov p.grant p.id xm)), (11, .int .i64 ((m + 1 : Nat) : Int)), (19, .bool true), (27, .int .i64 o.do_), (90, .bool false), (93, .bool true), (99, .bool true)] := F.keep ⟨rfl, rfl, rfl, rfl, rfl, rfl, rfl, rfl, rfl, rfl, rfl, rfl, rfl, rfl, trivial⟩
     refine then_n ?_
     exact ⟨al2.length - (m + 1), by omega, (m + 1), (cov p.grant p.id xm), F.keep ⟨rfl, rfl, rfl, rfl, rfl, rfl, rfl, rfl, rfl, rfl, rfl, rfl, rfl, trivial⟩, (by refine M.pick' [0] _ ?_ (by decide); exact ⟨rfl, trivial⟩), O_l, O_a, (by omega), (by rw [any_snoc hxm, ← hwb]; rfl), (by omega)⟩
    obtain rfl : m = al2.length := by omega
    rw [List.take_length] at hwb
    refine wp_seq ?_
    refine wp_seq ?_
    refine wp_region_lit ?_
    refine list_val F (wn rfl) rfl rfl (.int .i64 ((al2.length : Nat) : Int)) (ex_move _ rfl _ (F.e rfl)) ?_; clear F a; intro a F
    refine list_val F (wn rfl) rfl rfl (.slice A_a2 al2.length c_a2) (ex_move _ rfl _ (F.e rfl)) ?_; clear F a; intro a F
    refine list_val F (wn rfl) rfl rfl (.int .i64 ((al2.length : Nat) : Int)) (ex_len _ _ rfl 19 r10_sl_24_19 _ _ _ (F.e rfl)) ?_; clear F a; intro a F
    refine list_val F (wn rfl) rfl rfl (.bool false) (ex_bin .lss _ _ _ _ rfl .i64 _ _ (F.e rfl) (F.e rfl) _ (b_lss (decide_eq_false (by omega)))) ?_; clear F a; intro a F
    refine wpList_nil ?_
    replace F : Fr 135 a [(0, .slice (some ad) ss.length c), (2, .bool false), (3, .slice A_l2 l2.length c_l2), (4, .slice A_a2 al2.length c_a2), (5, .int .i64 ((i : Nat) : Int)), (6, .pointer (some ⟨g6, 0, none⟩)), (9, .int .i64 ((k : Nat) : Int)), (10, .bool wb), (11, .int .i64 ((al2.length : Nat) : Int)), (19, .bool true), (27, .int .i64 o.do_), (90, .bool false), (93, .bool true), (99, .bool false)] := F.keep ⟨rfl, rfl, rfl, rfl, rfl, rfl, rfl, rfl, rfl, rfl, rfl, rfl, rfl, rfl, trivial⟩
    refine then_n ?_
    refine wp_cond_false (F.e rfl) ?_
    refine wp_exit ?_
    refine then_x ?_
    refine then_x ?_
    refine in_hit ?_
    refine then_n ?_
    refine wp_seq ?_
    refine wp_only (fun ar wr => Fr 135 ar [(0, .slice (some ad) ss.length c), (2, .bool false), (3, .slice A_l2 l2.length c_l2), (4, .slice A_a2 al2.length c_a2), (5, .int .i64 ((i : Nat) : Int)), (6, .pointer (some ⟨g6, 0, none⟩)), (9, .int .i64 ((k : Nat) : Int)), (10, .bool wb), (11, .int .i64 ((al2.length : Nat) : Int)), (19, .bool true), (27, .int .i64 o.do_), (90, .bool false), (93, .bool true), (99, .bool false), (133, .bool false)] ∧ Mm w wr [⟨g6, o.arr, 29⟩] ∧ Ow kRv 48 wr w.heap.size (.slice A_l2 l2.length c_l2) l2 ∧ Ow kRv 35 wr w.heap.size (.slice A_a2 al2.length c_a2) al2) ?_ ?_
    ·
     refine region_any r10_follows_mixedOrders M ?_; clear M; intro wD M hb
     replace O_l := O_l.below hb
     replace O_a := O_a.below hb
     clear hb; try clear u
     have hS : Below wD.heap.size wD wD := Below.refl _ _; have MD := M
     have D_O_l := O_l
     have D_O_a := O_a
     refine any_val F 0 rfl (by kernel_rfl) (wn rfl) rfl rfl (.slice A_l2 l2.length c_l2) (fun w' hS' => ex_move _ rfl _ (F.e rfl)) hS ?_; clear F a; intro a F
     refine any_val F 1 rfl (by kernel_rfl) (wn rfl) rfl rfl (.slice (some ad) ss.length c) (fun w' hS' => ex_move _ rfl _ (F.e rfl)) hS ?_; clear F a; intro a F
     refine any_val F 2 rfl (by kernel_rfl) (wn rfl) rfl rfl (.int .i64 ((k : Nat) : Int)) (fun w' hS' => ex_move _ rfl _ (F.e rfl)) hS ?_; clear F a; intro a F
     refine any_val F 3 rfl (by kernel_rfl) (wn rfl) rfl rfl (.pointer (some (ad.add (k * 20)))) (fun w' hS' => ex_ix _ _ _ rfl 20 r10_sl_22_20 ad _ _ (F.e rfl) .i64 _ (F.e rfl) k rfl (by omega) (ad.add (k * 20)) rfl) hS ?_; clear F a; intro a F
     refine any_val F 4 rfl (by kernel_rfl) (wn rfl) rfl rfl (.pointer (some ((ad.add (k * 20)).add 1))) (fun w' hS' => ex_fa _ _ _ rfl _ (F.e rfl) 1 r10_fa_29_1_1 ((ad.add (k * 20)).add 1) rfl) hS ?_; clear F a; intro a F
     refine any_val F 5 rfl (by kernel_rfl) (wn rfl) rfl rfl (.int .u64 p.grant) (fun w' hS' => ex_load _ _ rfl _ (F.e rfl) _ (lv1 r10_one_25 ((zp.below (MD.below hS').bel).cell 1 _ (St.cs_1 _)))) hS ?_; clear F a; intro a F
     refine any_val F 6 rfl (by kernel_rfl) (wn rfl) rfl rfl (.slice (some ad) ss.length c) (fun w' hS' => ex_move _ rfl _ (F.e rfl)) hS ?_; clear F a; intro a F
     refine any_val F 7 rfl (by kernel_rfl) (wn rfl) rfl rfl (.int .i64 ((k : Nat) : Int)) (fun w' hS' => ex_move _ rfl _ (F.e rfl)) hS ?_; clear F a; intro a F
     refine any_val F 8 rfl (by kernel_rfl) (wn rfl) rfl rfl (.pointer (some (ad.add (k * 20)))) (fun w' hS' => ex_ix _ _ _ rfl 20 r10_sl_22_20 ad _ _ (F.e rfl) .i64 _ (F.e rfl) k rfl (by omega) (ad.add (k * 20)) rfl) hS ?_; clear F a; intro a F
     refine any_val F 9 rfl (by kernel_rfl) (wn rfl) rfl rfl (.pointer (some ((ad.add (k * 20)).add 2))) (fun w' hS' => ex_fa _ _ _ rfl _ (F.e rfl) 2 r10_fa_29_2_2 ((ad.add (k * 20)).add 2) rfl) hS ?_; clear F a; intro a F
     refine any_val F 10 rfl (by kernel_rfl) (wn rfl) rfl rfl (.agg p.id.cs.toArray) (fun w' hS' => ex_load _ _ rfl _ (F.e rfl) _ (lrow27 p.id (St.id_at ((zp.below (MD.below hS').bel))))) hS ?_; clear F a; intro a F
     refine any_val F 12 rfl (by kernel_rfl) (wn rfl) rfl rfl (.bool wb) (fun w' hS' => ex_move _ rfl _ (F.e rfl)) hS ?_; clear F a; intro a F
     refine any_ready [11] (by kernel_rfl) (by simp) ?_
     refine ready_do rfl (wn rfl) (fun K hK => ?_) AllReadyH.nil
     refine ow_call rfl rfl F 14 #[.slice A_l2 l2.length c_l2, .int .u64 p.grant, .agg p.id.cs.toArray] (ex_call 14 _ _ rfl rfl r10_ent_14 _ (map3 (F.e rfl) (F.e rfl) (F.e rfl))) (has_any l2 hI2 _ _ p.grant p.id _ O_l.rd.1 O_l.rd.2.2 (by omega)) (fun e v hR => ?_)
     obtain ⟨he, hb⟩ := hR
     refine ⟨.bool (hasF l2 p.grant p.id), he, ?_⟩; clear he F a; intro a F
     refine hK _ _ (S_below hS hb) ?_
     replace hS := S_below hS hb
     clear hK K
     replace O_l := O_l.below hb
     replace O_a := O_a.below hb
     replace M := M.below hb; clear hb; try clear wD
     refine any_val F 13 rfl (by kernel_rfl) (wn rfl) rfl rfl (.bool false) (fun w' hS' => WG.ex_neqb _ _ _ _ rfl r10_bool_4 (hasF l2 p.grant p.id) wb (F.e rfl) (F.e rfl) false (by rw [perm_has hP2, ← hwb]; simp)) hS ?_; clear F a; intro a F
     refine any_done (by kernel_rfl) ?_
     exact ⟨F.keep ⟨rfl, rfl, rfl, rfl, rfl, rfl, rfl, rfl, rfl, rfl, rfl, rfl, rfl, rfl, rfl, trivial⟩, (by refine M.pick' [0] _ ?_ (by decide); exact ⟨rfl, trivial⟩), O_l, O_a⟩
    clear F M a O_l O_a
    intro a v hR; obtain ⟨F, M, O_l, O_a⟩ := hR; try clear u
    refine then_n ?_
    refine wp_cond_false (F.e rfl) ?_
    refine wp_skip ?_
    refine in_n ?_
    refine then_n ?_
    refine wp_region_lit ?_
    refine list_val F (wn rfl) rfl rfl (.int .i64 ((k : Nat) : Int)) (ex_move _ rfl _ (F.e rfl)) ?_; clear F a; intro a F
    refine list_val F (wn rfl) rfl rfl (.int .i64 ((k + 1 : Nat) : Int)) (ex_bin .add _ _ _ _ rfl .i64 _ _ (F.e rfl) rfl _ (b_add ((w_i64 (by omega) (by omega)).trans (by omega)))) ?_; clear F a; intro a F
    refine list_val F (wn rfl) rfl rfl (.int .i64 ((k + 1 : Nat) : Int)) (ex_assign _ rfl _ (F.e rfl)) ?_; clear F a; intro a F
    refine wpList_nil ?_
    replace F : Fr 135 a [(0, .slice (some ad) ss.length c), (2, .bool false), (3, .slice A_l2 l2.length c_l2), (4, .slice A_a2 al2.length c_a2), (5, .int .i64 ((i : Nat) : Int)), (6, .pointer (some ⟨g6, 0, none⟩)), (9, .int .i64 ((k + 1 : Nat) : Int)), (10, .bool wb), (11, .int .i64 ((al2.length : Nat) : Int)), (19, .bool true), (27, .int .i64 o.do_), (90, .bool false), (93, .bool true), (99, .bool false), (133, .bool false)] := F.keep ⟨rfl, rfl, rfl, rfl, rfl, rfl, rfl, rfl, rfl, rfl, rfl, rfl, rfl, rfl, rfl, trivial⟩
    refine then_n ?_
    exact ⟨i + 1 - (k + 1), by omega, (k + 1), F.keep ⟨rfl, rfl, rfl, rfl, rfl, rfl, rfl, rfl, rfl, rfl, trivial⟩, (by refine M.pick' [0] _ ?_ (by decide); exact ⟨rfl, trivial⟩), O_l, O_a, (by omega), (by omega)⟩
   refine wp_seq ?_
   refine wp_seq ?_
   refine wp_region_lit ?_
   refine list_val F (wn rfl) rfl rfl (.int .i64 ((k : Nat) : Int)) (ex_move _ rfl _ (F.e rfl)) ?_; clear F a; intro a F
   refine list_val F (wn rfl) rfl rfl (.int .i64 ((i : Nat) : Int)) (ex_move _ rfl _ (F.e rfl)) ?_; clear F a; intro a F
   refine list_val F (wn rfl) rfl rfl (.bool false) (ex_bin .leq _ _ _ _ rfl .i64 _ _ (F.e rfl) (F.e rfl) _ (b_leq (decide_eq_false (by omega)))) ?_; clear F a; intro a F
   refine wpList_nil ?_
   replace F : Fr 135 a [(0, .slice (some ad) ss.length c), (2, .bool false), (3, .slice A_l2 l2.length c_l2), (4, .slice A_a2 al2.length c_a2), (5, .int .i64 ((i : Nat) : Int)), (6, .pointer (some ⟨g6, 0, none⟩)), (9, .int .i64 ((k : Nat) : Int)), (19, .bool true), (27, .int .i64 o.do_), (90, .bool false), (93, .bool false)] := F.keep ⟨rfl, rfl, rfl, rfl, rfl, rfl, rfl, rfl, rfl, rfl, rfl, trivial⟩
   refine then_n ?_
   refine wp_cond_false (F.e rfl) ?_
   refine wp_exit ?_
   refine then_x ?_
   refine then_x ?_
   refine in_hit ?_
   refine in_n ?_
   refine then_n ?_
   refine wp_region_lit ?_
   refine list_val F (wn rfl) rfl rfl (.int .i64 ((i : Nat) : Int)) (ex_move _ rfl _ (F.e rfl)) ?_; clear F a; intro a F
   refine list_val F (wn rfl) rfl rfl (.int .i64 ((i + 1 : Nat) : Int)) (ex_bin .add _ _ _ _ rfl .i64 _ _ (F.e rfl) rfl _ (b_add ((w_i64 (by omega) (by omega)).trans (by omega)))) ?_; clear F a; intro a F
   refine list_val F (wn rfl) rfl rfl (.int .i64 ((i + 1 : Nat) : Int)) (ex_assign _ rfl _ (F.e rfl)) ?_; clear F a; intro a F
   refine wpList_nil ?_
   replace F : Fr 135 a [(0, .slice (some ad) ss.length c), (2, .bool false), (3, .slice A_l2 l2.length c_l2), (4, .slice A_a2 al2.length c_a2), (5, .int .i64 ((i + 1 : Nat) : Int)), (6, .pointer (some ⟨g6, 0, none⟩)), (9, .int .i64 ((k : Nat) : Int)), (19, .bool true), (27, .int .i64 o.do_), (90, .bool false), (93, .bool false)] := F.keep ⟨rfl, rfl, rfl, rfl, rfl, rfl, rfl, rfl, rfl, rfl, rfl, trivial⟩
   refine then_n ?_
   exact ⟨150 - (i + 1), by omega, (i + 1), A_l2, c_l2, l2, A_a2, c_a2, al2, F.keep ⟨rfl, rfl, rfl, rfl, rfl, trivial⟩, (by refine M.pick' [] _ ?_ (by decide); exact trivial), O_l, O_a, (by omega), hI2, hP2, hln2, (by omega)⟩
  refine wp_seq ?_
  refine wp_seq ?_
  refine wp_region_lit ?_
  refine list_val F (wn rfl) rfl rfl (.int .i64 ((i : Nat) : Int)) (ex_move _ rfl _ (F.e rfl)) ?_; clear F a; intro a F
  refine list_val F (wn rfl) rfl rfl (.slice A ss.length c) (ex_move _ rfl _ (F.e rfl)) ?_; clear F a; intro a F
  refine list_val F (wn rfl) rfl rfl (.int .i64 ((ss.length : Nat) : Int)) (ex_len _ _ rfl 20 r10_sl_22_20 _ _ _ (F.e rfl)) ?_; clear F a; intro a F
  refine list_val F (wn rfl) rfl rfl (.bool true) (ex_bin .lss _ _ _ _ rfl .i64 _ _ (F.e rfl) (F.e rfl) _ (b_lss (decide_eq_true (by omega)))) ?_; clear F a; intro a F
  refine list_val F (wn rfl) rfl rfl (.bool true) (ex_move _ rfl _ (F.e rfl)) ?_; clear F a; intro a F
  refine list_val F (F.wants 16 true rfl (by kernel_rfl) rfl true rfl) rfl rfl (.int .i64 ((i : Nat) : Int)) (ex_move _ rfl _ (F.e rfl)) ?_; clear F a; intro a F
  refine list_val F (F.wants 16 true rfl (by kernel_rfl) rfl true rfl) rfl rfl (.bool false) (ex_bin .lss _ _ _ _ rfl .i64 _ _ (F.e rfl) rfl _ (b_lss (decide_eq_false (by omega)))) ?_; clear F a; intro a F
  refine list_val F (wn rfl) rfl rfl (.bool false) (ex_pick_t _ _ _ rfl (F.e rfl) _ (F.e rfl)) ?_; clear F a; intro a F
  refine wpList_nil ?_
  replace F : Fr 135 a [(0, .slice A ss.length c), (2, .bool false), (3, .slice A_l l.length c_l), (4, .slice A_a al.length c_a), (5, .int .i64 ((i : Nat) : Int)), (19, .bool false)] := F.keep ⟨rfl, rfl, rfl, rfl, rfl, rfl, trivial⟩
  refine then_n ?_
  refine wp_cond_false (F.e rfl) ?_
  refine wp_exit ?_
  refine then_x ?_
  refine then_x ?_
  refine in_hit ?_
  refine then_n ?_
  refine wp_seq ?_
  refine wp_region_lit ?_
  refine list_do (wn rfl) (fun K hK => ?_)
  refine ow_call rfl rfl F 15 #[] (ex_call 15 _ _ rfl rfl r10_ent_15 _ (map0)) (wakes_any _) (fun e u hR => ?_)
  obtain ⟨he, hb⟩ := hR
  refine ⟨.bool true, he, ?_⟩; clear he F a; intro a F
  refine hK _ _ ?_
  clear hK K
  replace O_l := O_l.below hb
  replace O_a := O_a.below hb
  replace M := M.below hb; clear hb; try clear v
  refine list_val F (wn rfl) rfl rfl (.bool true) (ex_assign _ rfl _ (F.e rfl)) ?_; clear F a; intro a F
  refine wpList_nil ?_
  replace F : Fr 135 a [(0, .slice A ss.length c), (2, .bool true), (3, .slice A_l l.length c_l), (4, .slice A_a al.length c_a), (5, .int .i64 ((i : Nat) : Int)), (19, .bool false)] := F.keep ⟨rfl, rfl, rfl, rfl, rfl, rfl, trivial⟩
  refine then_n ?_
  refine wp_ret ?_
  exact ret_tmp F rfl rfl ⟨rfl, M.bel⟩
 refine wp_seq ?_
 refine wp_seq ?_
 refine wp_region_lit ?_
 refine list_val F (wn rfl) rfl rfl (.int .i64 ((i : Nat) : Int)) (ex_move _ rfl _ (F.e rfl)) ?_; clear F a; intro a F
 refine list_val F (wn rfl) rfl rfl (.slice A ss.length c) (ex_move _ rfl _ (F.e rfl)) ?_; clear F a; intro a F
 refine list_val F (wn rfl) rfl rfl (.int .i64 ((ss.length : Nat) : Int)) (ex_len _ _ rfl 20 r10_sl_22_20 _ _ _ (F.e rfl)) ?_; clear F a; intro a F
 refine list_val F (wn rfl) rfl rfl (.bool false) (ex_bin .lss _ _ _ _ rfl .i64 _ _ (F.e rfl) (F.e rfl) _ (b_lss (decide_eq_false (by omega)))) ?_; clear F a; intro a F
 refine list_val F (wn rfl) rfl rfl (.bool false) (ex_move _ rfl _ (F.e rfl)) ?_; clear F a; intro a F
 refine list_skip F (F.wants 16 false rfl (by kernel_rfl) rfl false rfl) rfl rfl ?_; clear F a; intro a F
 refine list_skip F (F.wants 16 false rfl (by kernel_rfl) rfl false rfl) rfl rfl ?_; clear F a; intro a F
 refine list_val F (wn rfl) rfl rfl (.bool false) (ex_pick_f _ _ _ rfl (F.e rfl) _ rfl) ?_; clear F a; intro a F
 refine wpList_nil ?_
 replace F : Fr 135 a [(0, .slice A ss.length c), (2, .bool false), (3, .slice A_l l.length c_l), (4, .slice A_a al.length c_a), (5, .int .i64 ((i : Nat) : Int)), (19, .bool false)] := F.keep ⟨rfl, rfl, rfl, rfl, rfl, rfl, trivial⟩
 refine then_n ?_
 refine wp_cond_false (F.e rfl) ?_
 refine wp_exit ?_
 refine then_x ?_
 refine then_x ?_
 refine in_hit ?_
 refine then_n ?_
 refine wp_seq ?_
 refine wp_region_lit ?_
 refine list_do (wn rfl) (fun K hK => ?_)
 refine ow_call rfl rfl F 15 #[] (ex_call 15 _ _ rfl rfl r10_ent_15 _ (map0)) (wakes_any _) (fun e u hR => ?_)
 obtain ⟨he, hb⟩ := hR
 refine ⟨.bool true, he, ?_⟩; clear he F a; intro a F
 refine hK _ _ ?_
 clear hK K
 replace O_l := O_l.below hb
 replace O_a := O_a.below hb
 replace M := M.below hb; clear hb; try clear v
 refine list_val F (wn rfl) rfl rfl (.bool true) (ex_assign _ rfl _ (F.e rfl)) ?_; clear F a; intro a F
 refine wpList_nil ?_
 replace F : Fr 135 a [(0, .slice A ss.length c), (2, .bool true), (3, .slice A_l l.length c_l), (4, .slice A_a al.length c_a), (5, .int .i64 ((i : Nat) : Int)), (19, .bool false)] := F.keep ⟨rfl, rfl, rfl, rfl, rfl, rfl, trivial⟩
 refine then_n ?_
 refine wp_ret ?_
 exact ret_tmp F rfl rfl ⟨rfl, M.bel⟩
end Go.Proofs.Ytnjbjjmoglogeaa
