/- The walks of Add, Kill, Prune, Has of package revoke at rows that are no lists, and of posternref14's (laid 37, Add 21, Kill 22, Prune 23, Has 20) at any row. Conditions: the row is read. -/
import Derived.Test.YtnjbjjmoglogeaaGreatS1
namespace Go.Proofs.YtnjbjjmoglogeaaGreat
open Go.RowKit Go.Proofs.YtnjbjjmoglogeaaGreatW.PrintWords KB WG RO
set_option linter.unusedVariables false
set_option linter.unusedSimpArgs false
set_option linter.unnecessarySimpa false
theorem out_snoc {out l ys : List Rv} {x : Rv} {p : Rv → Bool} (h : out ++ (x :: l).filter p = ys) (hp : p x = true) : (out ++ [x]) ++ l.filter p = ys := by
  rw [← h, List.filter_cons_of_pos hp, List.append_assoc]; rfl
theorem out_skip {out l ys : List Rv} {x : Rv} {p : Rv → Bool} (h : out ++ (x :: l).filter p = ys) (hp : ¬ p x = true) : out ++ l.filter p = ys := by
  rw [← h, List.filter_cons_of_neg hp]
theorem acc_yes {g e r : Int} {x : Rv} {l : List Rv} (h : accE g (x :: l) e = r) (hg : x.grant = g) (hw : x.whole = true) : accE g l (max e x.exp) = r := by rw [← h, accE, if_pos ⟨hg, hw⟩]
theorem acc_no {g e r : Int} {x : Rv} {l : List Rv} (h : accE g (x :: l) e = r) (hn : ¬ (x.grant = g ∧ x.whole = true)) : accE g l e = r := by rw [← h, accE, if_neg hn]
theorem s2_ent_17 : ent? Tryz.prog 17 = true := by kernel_rfl
set_option maxHeartbeats 1000000 in
set_option maxRecDepth 100000 in
theorem add_bad (xs : List Rv) (h : ¬ IsL xs) (A : Option Addr) (c : Nat) (g : Int) (id : Bs 16) (ep : Int) (w : World) (hr : kRv.C w A xs.length xs) (hmx : xs.length ≤ 1000000) :
    Calls Tryz.prog 24 #[.slice A xs.length c, .int .u64 g, .agg id.cs.toArray, .int .i64 ep] w fun r w' => ∃ A' c', r = .returned (.slice A' ([] : List Rv).length c') ∧ Ow kRv 85 w' w.heap.size (.slice A' ([] : List Rv).length c') ([] : List Rv) ∧ Below w.heap.size w w' := by
 refine calls_start Tryz.func24 rfl rfl rfl (fun a F => ?_)
 have M : Mm w w [] := Mm.nil w
 refine wp_seq ?_
 refine wp_region_lit ?_
 refine list_do (wn rfl) (fun K hK => ?_)
 refine ow_box F M rfl rfl 69 _ rfl _ (F.e rfl) id.cs.toArray rfl ?_
 clear F M a; intro a g6 v F M hb hg
 refine hK _ _ ?_
 clear hK K
 clear hb hg; try clear w
 refine list_val F (wn rfl) rfl rfl (.slice none 0 0) (ex_assign _ rfl _ rfl) ?_; clear F a; intro a F
 refine wpList_nil ?_
 replace F : Fr 77 a [(0, .slice A xs.length c), (1, .int .u64 g), (2, .agg id.cs.toArray), (3, .int .i64 ep), (6, .pointer (some ⟨g6, 0, none⟩)), (8, .slice none 0 0)] := F.keep ⟨rfl, rfl, rfl, rfl, rfl, rfl, trivial⟩
 refine then_n ?_
 refine wp_seq ?_
 refine wp_seq ?_
 refine wp_region_lit ?_
 refine list_val F (wn rfl) rfl rfl (.slice A xs.length c) (ex_move _ rfl _ (F.e rfl)) ?_; clear F a; intro a F
 refine list_do (wn rfl) (fun K hK => ?_)
 refine ow_call rfl rfl F 17 #[.slice A xs.length c] (ex_call 17 _ _ rfl rfl s2_ent_17 _ (map1 (F.e rfl))) (check_n xs _ c _ (Kd.C_below hr M.bel) hmx) (fun e u hR => ?_)
 obtain ⟨he, hb⟩ := hR
 rw [chN_no h] at he
 refine ⟨.int .i64 140, he, ?_⟩; clear he F a; intro a F
 refine hK _ _ ?_
 clear hK K
 replace M := M.below hb; clear hb; try clear v
 refine list_val F (wn rfl) rfl rfl (.bool true) (ex_bin .neq _ _ _ _ rfl .i64 _ _ (F.e rfl) rfl _ (b_neq (by decide))) ?_; clear F a; intro a F
 refine wpList_nil ?_
 replace F : Fr 77 a [(0, .slice A xs.length c), (1, .int .u64 g), (2, .agg id.cs.toArray), (3, .int .i64 ep), (6, .pointer (some ⟨g6, 0, none⟩)), (8, .slice none 0 0), (16, .bool true)] := F.keep ⟨rfl, rfl, rfl, rfl, rfl, rfl, rfl, trivial⟩
 refine then_n ?_
 refine wp_cond_true (F.e rfl) ?_
 refine wp_seq ?_
 refine wp_region_lit ?_
 refine list_val F (wn rfl) rfl rfl (.slice none 0 0) (ex_assign _ rfl _ rfl) ?_; clear F a; intro a F
 refine wpList_nil ?_
 replace F : Fr 77 a [(0, .slice A xs.length c), (1, .int .u64 g), (2, .agg id.cs.toArray), (3, .int .i64 ep), (6, .pointer (some ⟨g6, 0, none⟩)), (8, .slice none 0 0), (16, .bool true)] := F.keep ⟨rfl, rfl, rfl, rfl, rfl, rfl, rfl, trivial⟩
 refine then_n ?_
 refine wp_ret ?_
 refine then_r ?_
 exact ret_tmp F rfl rfl ⟨none, 0, rfl, Ow.nil kRv 85 _ _, M.bel⟩
set_option maxHeartbeats 1000000 in
set_option maxRecDepth 100000 in
theorem kill_bad (xs : List Rv) (h : ¬ IsL xs) (A : Option Addr) (c : Nat) (g ep : Int) (w : World) (hr : kRv.C w A xs.length xs) (hmx : xs.length ≤ 1000000) :
    Calls Tryz.prog 25 #[.slice A xs.length c, .int .u64 g, .int .i64 ep] w fun r w' => ∃ A' c', r = .returned (.slice A' ([] : List Rv).length c') ∧ Ow kRv 85 w' w.heap.size (.slice A' ([] : List Rv).length c') ([] : List Rv) ∧ Below w.heap.size w w' := by
 refine calls_start Tryz.func25 rfl rfl rfl (fun a F => ?_)
 have M : Mm w w [] := Mm.nil w
 refine wp_seq ?_
 refine wp_region_lit ?_
 refine list_val F (wn rfl) rfl rfl (.slice none 0 0) (ex_assign _ rfl _ rfl) ?_; clear F a; intro a F
 refine wpList_nil ?_
 replace F : Fr 51 a [(0, .slice A xs.length c), (1, .int .u64 g), (2, .int .i64 ep), (6, .slice none 0 0)] := F.keep ⟨rfl, rfl, rfl, rfl, trivial⟩
 refine then_n ?_
 refine wp_seq ?_
 refine wp_seq ?_
 refine wp_region_lit ?_
 refine list_val F (wn rfl) rfl rfl (.slice A xs.length c) (ex_move _ rfl _ (F.e rfl)) ?_; clear F a; intro a F
 refine list_do (wn rfl) (fun K hK => ?_)
 refine ow_call rfl rfl F 17 #[.slice A xs.length c] (ex_call 17 _ _ rfl rfl s2_ent_17 _ (map1 (F.e rfl))) (check_n xs _ c _ (Kd.C_below hr M.bel) hmx) (fun e v hR => ?_)
 obtain ⟨he, hb⟩ := hR
 rw [chN_no h] at he
 refine ⟨.int .i64 140, he, ?_⟩; clear he F a; intro a F
 refine hK _ _ ?_
 clear hK K
 replace M := M.below hb; clear hb; try clear w
 refine list_val F (wn rfl) rfl rfl (.bool true) (ex_bin .neq _ _ _ _ rfl .i64 _ _ (F.e rfl) rfl _ (b_neq (by decide))) ?_; clear F a; intro a F
 refine wpList_nil ?_
 replace F : Fr 51 a [(0, .slice A xs.length c), (1, .int .u64 g), (2, .int .i64 ep), (6, .slice none 0 0), (12, .bool true)] := F.keep ⟨rfl, rfl, rfl, rfl, rfl, trivial⟩
 refine then_n ?_
 refine wp_cond_true (F.e rfl) ?_
 refine wp_seq ?_
 refine wp_region_lit ?_
 refine list_val F (wn rfl) rfl rfl (.slice none 0 0) (ex_assign _ rfl _ rfl) ?_; clear F a; intro a F
 refine wpList_nil ?_
 replace F : Fr 51 a [(0, .slice A xs.length c), (1, .int .u64 g), (2, .int .i64 ep), (6, .slice none 0 0), (12, .bool true)] := F.keep ⟨rfl, rfl, rfl, rfl, rfl, trivial⟩
 refine then_n ?_
 refine wp_ret ?_
 refine then_r ?_
 exact ret_tmp F rfl rfl ⟨none, 0, rfl, Ow.nil kRv 85 _ _, M.bel⟩
set_option maxHeartbeats 1000000 in
set_option maxRecDepth 100000 in
theorem prune_bad (xs : List Rv) (h : ¬ IsL xs) (A : Option Addr) (c : Nat) (ep : Int) (w : World) (hr : kRv.C w A xs.length xs) (hmx : xs.length ≤ 1000000) :
    Calls Tryz.prog 26 #[.slice A xs.length c, .int .i64 ep] w fun r w' => ∃ A' c', r = .returned (.slice A' ([] : List Rv).length c') ∧ Ow kRv 85 w' w.heap.size (.slice A' ([] : List Rv).length c') ([] : List Rv) ∧ Below w.heap.size w w' := by
 refine calls_start Tryz.func26 rfl rfl rfl (fun a F => ?_)
 have M : Mm w w [] := Mm.nil w
 refine wp_seq ?_
 refine wp_region_lit ?_
 refine list_do (wn rfl) (fun K hK => ?_)
 refine ow_box F M rfl rfl 2 _ rfl _ (F.e rfl) #[.int .i64 ep] rfl ?_
 clear F M a; intro a g3 v F M hb hg
 refine hK _ _ ?_
 clear hK K
 clear hb hg; try clear w
 refine list_val F (wn rfl) rfl rfl (.slice none 0 0) (ex_assign _ rfl _ rfl) ?_; clear F a; intro a F
 refine wpList_nil ?_
 replace F : Fr 12 a [(0, .slice A xs.length c), (1, .int .i64 ep), (3, .pointer (some ⟨g3, 0, none⟩)), (4, .slice none 0 0)] := F.keep ⟨rfl, rfl, rfl, rfl, trivial⟩
 refine then_n ?_
 refine wp_seq ?_
 refine wp_seq ?_
 refine wp_region_lit ?_
 refine list_val F (wn rfl) rfl rfl (.slice A xs.length c) (ex_move _ rfl _ (F.e rfl)) ?_; clear F a; intro a F
 refine list_do (wn rfl) (fun K hK => ?_)
 refine ow_call rfl rfl F 17 #[.slice A xs.length c] (ex_call 17 _ _ rfl rfl s2_ent_17 _ (map1 (F.e rfl))) (check_n xs _ c _ (Kd.C_below hr M.bel) hmx) (fun e u hR => ?_)
 obtain ⟨he, hb⟩ := hR
 rw [chN_no h] at he
 refine ⟨.int .i64 140, he, ?_⟩; clear he F a; intro a F
 refine hK _ _ ?_
 clear hK K
 replace M := M.below hb; clear hb; try clear v
 refine list_val F (wn rfl) rfl rfl (.bool true) (ex_bin .neq _ _ _ _ rfl .i64 _ _ (F.e rfl) rfl _ (b_neq (by decide))) ?_; clear F a; intro a F
 refine wpList_nil ?_
 replace F : Fr 12 a [(0, .slice A xs.length c), (1, .int .i64 ep), (3, .pointer (some ⟨g3, 0, none⟩)), (4, .slice none 0 0), (7, .bool true)] := F.keep ⟨rfl, rfl, rfl, rfl, rfl, trivial⟩
 refine then_n ?_
 refine wp_cond_true (F.e rfl) ?_
 refine wp_seq ?_
 refine wp_region_lit ?_
 refine list_val F (wn rfl) rfl rfl (.slice none 0 0) (ex_assign _ rfl _ rfl) ?_; clear F a; intro a F
 refine wpList_nil ?_
 replace F : Fr 12 a [(0, .slice A xs.length c), (1, .int .i64 ep), (3, .pointer (some ⟨g3, 0, none⟩)), (4, .slice none 0 0), (7, .bool true)] := F.keep ⟨rfl, rfl, rfl, rfl, rfl, trivial⟩
 refine then_n ?_
 refine wp_ret ?_
 refine then_r ?_
 exact ret_tmp F rfl rfl ⟨none, 0, rfl, Ow.nil kRv 85 _ _, M.bel⟩
set_option maxHeartbeats 1000000 in
set_option maxRecDepth 100000 in
theorem has_bad (xs : List Rv) (h : ¬ IsL xs) (A : Option Addr) (c : Nat) (g : Int) (id : Bs 16) (w : World) (hr : kRv.C w A xs.length xs) (hmx : xs.length ≤ 1000000) :
    Calls Tryz.prog 19 #[.slice A xs.length c, .int .u64 g, .agg id.cs.toArray] w fun r w' => r = .returned (.bool false) ∧ Below w.heap.size w w' := by
 refine calls_start Tryz.func19 rfl rfl rfl (fun a F => ?_)
 have M : Mm w w [] := Mm.nil w
 refine wp_seq ?_
 refine wp_region_lit ?_
 refine list_do (wn rfl) (fun K hK => ?_)
 refine ow_box F M rfl rfl 69 _ rfl _ (F.e rfl) id.cs.toArray rfl ?_
 clear F M a; intro a g5 v F M hb hg
 refine hK _ _ ?_
 clear hK K
 clear hb hg; try clear w
 refine list_val F (wn rfl) rfl rfl (.bool false) (ex_assign _ rfl _ rfl) ?_; clear F a; intro a F
 refine wpList_nil ?_
 replace F : Fr 24 a [(0, .slice A xs.length c), (1, .int .u64 g), (2, .agg id.cs.toArray), (5, .pointer (some ⟨g5, 0, none⟩)), (6, .bool false)] := F.keep ⟨rfl, rfl, rfl, rfl, rfl, trivial⟩
 refine then_n ?_
 refine wp_seq ?_
 refine wp_seq ?_
 refine wp_region_lit ?_
 refine list_val F (wn rfl) rfl rfl (.slice A xs.length c) (ex_move _ rfl _ (F.e rfl)) ?_; clear F a; intro a F
 refine list_do (wn rfl) (fun K hK => ?_)
 refine ow_call rfl rfl F 17 #[.slice A xs.length c] (ex_call 17 _ _ rfl rfl s2_ent_17 _ (map1 (F.e rfl))) (check_n xs _ c _ (Kd.C_below hr M.bel) hmx) (fun e u hR => ?_)
 obtain ⟨he, hb⟩ := hR
 rw [chN_no h] at he
 refine ⟨.int .i64 140, he, ?_⟩; clear he F a; intro a F
 refine hK _ _ ?_
 clear hK K
 replace M := M.below hb; clear hb; try clear v
 refine list_val F (wn rfl) rfl rfl (.bool true) (ex_bin .neq _ _ _ _ rfl .i64 _ _ (F.e rfl) rfl _ (b_neq (by decide))) ?_; clear F a; intro a F
 refine wpList_nil ?_
 replace F : Fr 24 a [(0, .slice A xs.length c), (1, .int .u64 g), (2, .agg id.cs.toArray), (5, .pointer (some ⟨g5, 0, none⟩)), (6, .bool false), (11, .bool true)] := F.keep ⟨rfl, rfl, rfl, rfl, rfl, rfl, trivial⟩
 refine then_n ?_
 refine wp_cond_true (F.e rfl) ?_
 refine wp_seq ?_
 refine wp_region_lit ?_
 refine list_val F (wn rfl) rfl rfl (.bool false) (ex_assign _ rfl _ rfl) ?_; clear F a; intro a F
 refine wpList_nil ?_
 replace F : Fr 24 a [(0, .slice A xs.length c), (1, .int .u64 g), (2, .agg id.cs.toArray), (5, .pointer (some ⟨g5, 0, none⟩)), (6, .bool false), (11, .bool true)] := F.keep ⟨rfl, rfl, rfl, rfl, rfl, rfl, trivial⟩
 refine then_n ?_
 refine wp_ret ?_
 refine then_r ?_
 exact ret_tmp F rfl rfl ⟨rfl, M.bel⟩
theorem add_w (xs : List Rv) (A : Option Addr) (c : Nat) (g : Int) (id : Bs 16) (ep : Int) (w : World) (hr : kRv.C w A xs.length xs) (hmx : xs.length ≤ 1000000) (hc : xs.length ≤ c) :
    Calls Tryz.prog 24 #[.slice A xs.length c, .int .u64 g, .agg id.cs.toArray, .int .i64 ep] w fun r w' => ∃ A' c', r = .returned (.slice A' (addN xs g id ep).length c') ∧ Ow kRv 85 w' w.heap.size (.slice A' (addN xs g id ep).length c') (addN xs g id ep) ∧ Below w.heap.size w w' := by
  by_cases h : IsL xs
  · rw [addN_yes h]; exact add_any xs h A c g id ep w hr hc hmx
  · rw [addN_no h]; exact add_bad xs h A c g id ep w hr hmx
theorem kill_w (xs : List Rv) (A : Option Addr) (c : Nat) (g ep : Int) (w : World) (hr : kRv.C w A xs.length xs) (hmx : xs.length ≤ 1000000) (hc : xs.length ≤ c) :
    Calls Tryz.prog 25 #[.slice A xs.length c, .int .u64 g, .int .i64 ep] w fun r w' => ∃ A' c', r = .returned (.slice A' (killN xs g ep).length c') ∧ Ow kRv 85 w' w.heap.size (.slice A' (killN xs g ep).length c') (killN xs g ep) ∧ Below w.heap.size w w' := by
  by_cases h : IsL xs
  · rw [killN_yes h]; exact kill_any xs h A c g ep w hr hc hmx
  · rw [killN_no h]; exact kill_bad xs h A c g ep w hr hmx
theorem prune_w (xs : List Rv) (A : Option Addr) (c : Nat) (ep : Int) (w : World) (hr : kRv.C w A xs.length xs) (hmx : xs.length ≤ 1000000) (hc : xs.length ≤ c) :
    Calls Tryz.prog 26 #[.slice A xs.length c, .int .i64 ep] w fun r w' => ∃ A' c', r = .returned (.slice A' (pruneN xs ep).length c') ∧ Ow kRv 85 w' w.heap.size (.slice A' (pruneN xs ep).length c') (pruneN xs ep) ∧ Below w.heap.size w w' := by
  by_cases h : IsL xs
  · rw [pruneN_yes h]; exact prune_any xs h A c ep w hr hc hmx
  · rw [pruneN_no h]; exact prune_bad xs h A c ep w hr hmx
theorem has_w (xs : List Rv) (A : Option Addr) (c : Nat) (g : Int) (id : Bs 16) (w : World) (hr : kRv.C w A xs.length xs) (hmx : xs.length ≤ 1000000) (hc : xs.length ≤ c) :
    Calls Tryz.prog 19 #[.slice A xs.length c, .int .u64 g, .agg id.cs.toArray] w fun r w' => r = .returned (.bool (hasN xs g id)) ∧ Below w.heap.size w w' := by
  by_cases h : IsL xs
  · rw [hasN_yes h]; exact has_any xs h A c g id w hr hc hmx
  · rw [hasN_no h]; exact has_bad xs h A c g id w hr hmx
theorem s2_sl_57_19 : sl? Tryz.prog 57 19 = true := by kernel_rfl
theorem s2_follows_mixedOrders : Tryz.prog.follows .mixedOrders = true := by kernel_rfl
theorem s2_ent_32 : ent? Tryz.prog 32 = true := by kernel_rfl
set_option maxHeartbeats 1000000 in
set_option maxRecDepth 100000 in
theorem laid_any (xs : List Rv) (A : Option Addr) (c : Nat) (n0 : Rv) (w : World) (hr : kRv.C w A xs.length xs) (hmx : xs.length ≤ 1000000) :
    Calls Tryz.prog 37 #[.slice A xs.length c, .agg n0.arr] w fun r w' => ∃ A' c', r = .returned (.slice A' (layF n0 false xs).length c') ∧ Ow kRv 85 w' w.heap.size (.slice A' (layF n0 false xs).length c') (layF n0 false xs) ∧ Below w.heap.size w w' := by
 refine calls_start Tryz.func37 rfl rfl rfl (fun a F => ?_)
 have M : Mm w w [] := Mm.nil w
 refine wp_seq ?_
 refine wp_region_lit ?_
 refine list_do (wn rfl) (fun K hK => ?_)
 refine ow_box F M rfl rfl 85 _ rfl _ (F.e rfl) n0.arr rfl ?_
 clear F M a; intro a g3 v F M hb hg
 refine hK _ _ ?_
 clear hK K
 clear hb hg; try clear w
 refine list_val F (wn rfl) rfl rfl (.slice none 0 0) (ex_assign _ rfl _ rfl) ?_; clear F a; intro a F
 refine wpList_nil ?_
 refine then_n ?_
 refine wp_seq ?_
 obtain ⟨bs, hbs⟩ : ∃ bs, bs = v.heap.size := ⟨_, rfl⟩
 have hg3 : g3 < bs := by rw [hbs]; exact M.lt (i := 0) rfl
 have hw0 : w.heap.size ≤ bs := by rw [hbs]; exact M.bel.size
 have SB : bs ≤ v.heap.size := by rw [hbs]; exact Nat.le_refl _
 clear hbs
 refine wp_region_lit ?_
 refine list_val F (wn rfl) rfl rfl (.slice none 0 0) (ex_assign _ rfl _ rfl) ?_; clear F a; intro a F
 refine wpList_nil ?_
 refine then_n ?_
 refine wp_seq ?_
 refine wp_region_lit ?_
 refine list_val F (wn rfl) rfl rfl (.bool false) (ex_assign _ rfl _ rfl) ?_; clear F a; intro a F
 refine wpList_nil ?_
 refine then_n ?_
 refine wp_seq ?_
 refine wp_seq ?_
 refine wp_region_lit ?_
 refine list_val F (wn rfl) rfl rfl (.int .i64 0) (ex_assign _ rfl _ rfl) ?_; clear F a; intro a F
 refine wpList_nil ?_
 refine then_n ?_
 refine wp_block ?_
 refine wp_loopN (fun mq ar wr => ∃ (i : Nat), ∃ (out : List Rv), ∃ (B : Option Addr), ∃ (b : Nat), ∃ (dn : Bool), Fr 42 ar [(0, .slice A xs.length c), (1, .agg n0.arr), (3, .pointer (some ⟨g3, 0, none⟩)), (4, .slice none 0 0), (5, .slice B out.length b), (6, .bool dn), (7, .int .i64 ((i : Nat) : Int))] ∧ Mm w wr [⟨g3, n0.arr, 85⟩] ∧ bs ≤ wr.heap.size ∧ Ow kRv 85 wr bs (.slice B out.length b) out ∧ i ≤ xs.length ∧ out ++ layF n0 dn (xs.drop i) = layF n0 false xs ∧ out.length ≤ i + 1 ∧ (dn = false → out.length = i) ∧ mq + i = xs.length) xs.length ?_ ?_
 ·
  exact ⟨0, [], none, 0, false, F.keep ⟨rfl, rfl, rfl, rfl, rfl, rfl, rfl, trivial⟩, M, SB, (Ow.nil kRv 85 _ _), (Nat.zero_le _), (by rw [List.drop_zero]; rfl), (Nat.zero_le _), (fun _ => rfl), (by omega)⟩
 clear F M a SB
 rintro mq a u ⟨i, out, B, b, dn, F, M, SB, O_x, hi, hlay, hol, hol0, hq⟩; try clear v
 by_cases hin : i < xs.length
 ·
  obtain ⟨x, hx⟩ : ∃ x, xs[i]? = some x := ⟨_, List.getElem?_eq_getElem (by omega)⟩
  obtain ⟨ad, hA, z⟩ := C_ix hr hx
  subst hA
  refine wp_seq ?_
  refine wp_seq ?_
  refine wp_region_lit ?_
  refine list_val F (wn rfl) rfl rfl (.int .i64 ((i : Nat) : Int)) (ex_move _ rfl _ (F.e rfl)) ?_; clear F a; intro a F
  refine list_val F (wn rfl) rfl rfl (.slice (some ad) xs.length c) (ex_move _ rfl _ (F.e rfl)) ?_; clear F a; intro a F
  refine list_val F (wn rfl) rfl rfl (.int .i64 ((xs.length : Nat) : Int)) (ex_len _ _ rfl 19 s2_sl_57_19 _ _ _ (F.e rfl)) ?_; clear F a; intro a F
  refine list_val F (wn rfl) rfl rfl (.bool true) (ex_bin .lss _ _ _ _ rfl .i64 _ _ (F.e rfl) (F.e rfl) _ (b_lss (decide_eq_true (by omega)))) ?_; clear F a; intro a F
  refine wpList_nil ?_
  refine then_n ?_
  refine wp_cond_true (F.e rfl) ?_
  refine wp_skip ?_
  refine then_n ?_
  refine wp_seq ?_
  refine wp_block ?_
  refine wp_seq ?_
  refine wp_seq ?_
  rw [drop_cons hx] at hlay
  by_cases hd : dn = true
  ·
   subst hd
   refine region_tail 8 s2_follows_mixedOrders (by kernel_rfl) M ?_; clear M; intro v M hb
   replace SB := Nat.le_trans SB hb.size
   replace O_x := O_x.below hb
   clear hb; try clear u
   refine still_val F (wn rfl) rfl rfl (.bool true) (ex_move _ rfl _ (F.e rfl)) ?_; clear F a; intro a F
   refine still_val F (wn rfl) rfl rfl (.bool false) (ex_not _ _ rfl _ (F.e rfl) _ rfl) ?_; clear F a; intro a F
   refine still_val F (wn rfl) rfl rfl (.bool false) (ex_move _ rfl _ (F.e rfl)) ?_; clear F a; intro a F
   refine still_skip F (F.wants 16 false rfl (by kernel_rfl) rfl false rfl) rfl rfl ?_; clear F a; intro a F
   refine still_skip F (F.wants 16 false rfl (by kernel_rfl) rfl false rfl) rfl rfl ?_; clear F a; intro a F
   refine still_skip F (F.wants 16 false rfl (by kernel_rfl) rfl false rfl) rfl rfl ?_; clear F a; intro a F
   refine still_skip F (F.wants 16 false rfl (by kernel_rfl) rfl false rfl) rfl rfl ?_; clear F a; intro a F
   refine still_skip F (F.wants 16 false rfl (by kernel_rfl) rfl false rfl) rfl rfl ?_; clear F a; intro a F
   refine still_end ?_
   refine list_skip F (F.wants 16 false rfl (by kernel_rfl) rfl false rfl) rfl rfl ?_; clear F a; intro a F
   refine list_val F (wn rfl) rfl rfl (.bool false) (ex_pick_f _ _ _ rfl (F.e rfl) _ rfl) ?_; clear F a; intro a F
   refine wpList_nil ?_
   refine then_n ?_
   refine wp_cond_false (F.e rfl) ?_
   refine wp_skip ?_
   refine then_n ?_
   refine wp_region_lit ?_
   refine list_val F (wn rfl) rfl rfl (.slice B out.length b) (ex_move _ rfl _ (F.e rfl)) ?_; clear F a; intro a F
   refine list_val F (wn rfl) rfl rfl (.slice (some ad) xs.length c) (ex_move _ rfl _ (F.e rfl)) ?_; clear F a; intro a F
   refine list_val F (wn rfl) rfl rfl (.int .i64 ((i : Nat) : Int)) (ex_move _ rfl _ (F.e rfl)) ?_; clear F a; intro a F
   refine list_val F (wn rfl) rfl rfl (.pointer (some (ad.add (i * 19)))) (ex_ix _ _ _ rfl 19 s2_sl_57_19 ad _ _ (F.e rfl) .i64 _ (F.e rfl) i rfl (by omega) (ad.add (i * 19)) rfl) ?_; clear F a; intro a F
   refine list_val F (wn rfl) rfl rfl (.agg x.arr) (ex_load _ _ rfl _ (F.e rfl) _ (lrow85 x ((z.below M.bel)))) ?_; clear F a; intro a F
   refine list_do (wn rfl) (fun K hK => ?_)
   refine ow_bslice F M rfl rfl 57 1 _ rfl #[(0, .agg x.arr)] (parts1 (F.e rfl)) x.arr 85 (newrow85 x _) ?_
   clear F M a; intro a g33 u F M hb hg
   refine hK _ _ ?_
   clear hK K
   replace SB := Nat.le_trans SB hb.size
   replace O_x := O_x.below hb
   clear hb hg; try clear v
   refine list_do (wn rfl) (fun K hK => ?_)
   have hxx := C_one (enc := Rv.cs) (hl := Rv.cs_len) (h1 := Rv.cs_one) (M.at (i := 0) rfl)
   replace M : Mm w u [⟨g3, n0.arr, 85⟩] := (by refine M.pick' [1] _ ?_ (by decide); exact ⟨rfl, trivial⟩)
   refine og_app F M Tryz.underlying57 i85 z85s (by decide) (by decide) hw0 SB ⟨.inr hg3, trivial⟩ rfl rfl rfl _ _ rfl (.slice B out.length b) out ([x]) (out ++ [x]) rfl (some ⟨g33, 0, none⟩) 1 1 (F.e rfl) (F.e rfl) O_x (hxx) (by first | omega | (simp only [List.length_append, List.length_cons, List.length_nil]; omega)) ?_
   clear F a; have Mo := M; clear M; intro a A_34 c_34 v F M Oz hgr
   refine hK _ _ ?_
   clear hK K
   replace SB := Nat.le_trans SB hgr.size
   clear O_x Mo hgr; have O_x := Oz; clear Oz; try clear u
   clear hxx
   refine list_val F (wn rfl) rfl rfl (.slice A_34 ((out ++ [x]).length) c_34) (ex_assign _ rfl _ (F.e rfl)) ?_; clear F a; intro a F
   refine wpList_nil ?_
   refine in_n ?_
   refine then_n ?_
   refine wp_region_lit ?_
   refine list_val F (wn rfl) rfl rfl (.int .i64 ((i : Nat) : Int)) (ex_move _ rfl _ (F.e rfl)) ?_; clear F a; intro a F
   refine list_val F (wn rfl) rfl rfl (.int .i64 ((i + 1 : Nat) : Int)) (ex_bin .add _ _ _ _ rfl .i64 _ _ (F.e rfl) rfl _ (b_add ((w_i64 (by omega) (by omega)).trans (by omega)))) ?_; clear F a; intro a F
   refine list_val F (wn rfl) rfl rfl (.int .i64 ((i + 1 : Nat) : Int)) (ex_assign _ rfl _ (F.e rfl)) ?_; clear F a; intro a F
   refine wpList_nil ?_
   refine then_n ?_
   exact ⟨xs.length - (i + 1), by omega, (i + 1), (out ++ [x]), A_34, c_34, true, F.keep ⟨rfl, rfl, rfl, rfl, rfl, rfl, rfl, trivial⟩, (by refine M.pick' [0] _ ?_ (by decide); exact ⟨rfl, trivial⟩), SB, O_x, (by omega), (lay_rest hlay), (by simp only [List.length_append, List.length_cons, List.length_nil]; omega), (fun h_ => absurd h_ (by decide)), (by omega)⟩
  rw [Bool.not_eq_true] at hd
  subst hd
  by_cases hk : key n0 < key x
  ·
   refine region_tail 8 s2_follows_mixedOrders (by kernel_rfl) M ?_; clear M; intro v M hb
   replace SB := Nat.le_trans SB hb.size
   replace O_x := O_x.below hb
   clear hb; try clear u
   refine still_val F (wn rfl) rfl rfl (.bool false) (ex_move _ rfl _ (F.e rfl)) ?_; clear F a; intro a F
   refine still_val F (wn rfl) rfl rfl (.bool true) (ex_not _ _ rfl _ (F.e rfl) _ rfl) ?_; clear F a; intro a F
   refine still_val F (wn rfl) rfl rfl (.bool true) (ex_move _ rfl _ (F.e rfl)) ?_; clear F a; intro a F
   refine still_val F (F.wants 16 true rfl (by kernel_rfl) rfl true rfl) rfl rfl (.agg n0.arr) (ex_load _ _ rfl _ (F.e rfl) _ (lrow85 n0 (M.at (i := 0) rfl))) ?_; clear F a; intro a F
   refine still_val F (F.wants 16 true rfl (by kernel_rfl) rfl true rfl) rfl rfl (.slice (some ad) xs.length c) (ex_move _ rfl _ (F.e rfl)) ?_; clear F a; intro a F
   refine still_val F (F.wants 16 true rfl (by kernel_rfl) rfl true rfl) rfl rfl (.int .i64 ((i : Nat) : Int)) (ex_move _ rfl _ (F.e rfl)) ?_; clear F a; intro a F
   refine still_val F (F.wants 16 true rfl (by kernel_rfl) rfl true rfl) rfl rfl (.pointer (some (ad.add (i * 19)))) (ex_ix _ _ _ rfl 19 s2_sl_57_19 ad _ _ (F.e rfl) .i64 _ (F.e rfl) i rfl (by omega) (ad.add (i * 19)) rfl) ?_; clear F a; intro a F
   refine still_val F (F.wants 16 true rfl (by kernel_rfl) rfl true rfl) rfl rfl (.agg x.arr) (ex_load _ _ rfl _ (F.e rfl) _ (lrow85 x ((z.below M.bel)))) ?_; clear F a; intro a F
   refine still_end ?_
   refine list_do (F.wants 16 true rfl (by kernel_rfl) rfl true rfl) (fun K hK => ?_)
   refine ow_call rfl rfl F 32 #[.agg n0.arr, .agg x.arr] (ex_call 32 _ _ rfl rfl s2_ent_32 _ (map2 (F.e rfl) (F.e rfl))) (ahead_any n0 x _) (fun e u hR => ?_)
   obtain ⟨he, hb⟩ := hR
   rw [decide_eq_true hk] at he
   refine ⟨.bool true, he, ?_⟩; clear he F a; intro a F
   refine hK _ _ ?_
   clear hK K
   replace SB := Nat.le_trans SB hb.size
   replace O_x := O_x.below hb
   replace M := M.below hb; clear hb; try clear v
   refine list_val F (wn rfl) rfl rfl (.bool true) (ex_pick_t _ _ _ rfl (F.e rfl) _ (F.e rfl)) ?_; clear F a; intro a F
   refine wpList_nil ?_
   refine then_n ?_
   refine wp_cond_true (F.e rfl) ?_
   refine wp_seq ?_
   refine wp_region_lit ?_
   refine list_val F (wn rfl) rfl rfl (.slice B out.length b) (ex_move _ rfl _ (F.e rfl)) ?_; clear F a; intro a F
   refine list_val F (wn rfl) rfl rfl (.agg n0.arr) (ex_load _ _ rfl _ (F.e rfl) _ (lrow85 n0 (M.at (i := 0) rfl))) ?_; clear F a; intro a F
   refine list_do (wn rfl) (fun K hK => ?_)
   refine ow_bslice F M rfl rfl 57 1 _ rfl #[(0, .agg n0.arr)] (parts1 (F.e rfl)) n0.arr 85 (newrow85 n0 _) ?_
   clear F M a; intro a g26 v F M hb hg
   refine hK _ _ ?_
   clear hK K
   replace SB := Nat.le_trans SB hb.size
   replace O_x := O_x.below hb
   clear hb hg; try clear u
   refine list_do (wn rfl) (fun K hK => ?_)
   have hxx := C_one (enc := Rv.cs) (hl := Rv.cs_len) (h1 := Rv.cs_one) (M.at (i := 0) rfl)
   replace M : Mm w v [⟨g3, n0.arr, 85⟩] := (by refine M.pick' [1] _ ?_ (by decide); exact ⟨rfl, trivial⟩)
   refine og_app F M Tryz.underlying57 i85 z85s (by decide) (by decide) hw0 SB ⟨.inr hg3, trivial⟩ rfl rfl rfl _ _ rfl (.slice B out.length b) out ([n0]) (out ++ [n0]) rfl (some ⟨g26, 0, none⟩) 1 1 (F.e rfl) (F.e rfl) O_x (hxx) (by first | omega | (simp only [List.length_append, List.length_cons, List.length_nil]; omega)) ?_
   clear F a; have Mo := M; clear M; intro a A_27 c_27 u F M Oz hgr
   refine hK _ _ ?_
   clear hK K
   replace SB := Nat.le_trans SB hgr.size
   clear O_x Mo hgr; have O_x := Oz; clear Oz; try clear v
   clear hxx
   refine list_val F (wn rfl) rfl rfl (.slice A_27 ((out ++ [n0]).length) c_27) (ex_assign _ rfl _ (F.e rfl)) ?_; clear F a; intro a F
   refine wpList_nil ?_
   refine then_n ?_
   refine wp_region_lit ?_
   refine list_val F (wn rfl) rfl rfl (.bool true) (ex_assign _ rfl _ rfl) ?_; clear F a; intro a F
   refine wpList_nil ?_
   refine then_n ?_
   refine wp_region_lit ?_
   refine list_val F (wn rfl) rfl rfl (.slice A_27 ((out ++ [n0]).length) c_27) (ex_move _ rfl _ (F.e rfl)) ?_; clear F a; intro a F
   refine list_val F (wn rfl) rfl rfl (.slice (some ad) xs.length c) (ex_move _ rfl _ (F.e rfl)) ?_; clear F a; intro a F
   refine list_val F (wn rfl) rfl rfl (.int .i64 ((i : Nat) : Int)) (ex_move _ rfl _ (F.e rfl)) ?_; clear F a; intro a F
   refine list_val F (wn rfl) rfl rfl (.pointer (some (ad.add (i * 19)))) (ex_ix _ _ _ rfl 19 s2_sl_57_19 ad _ _ (F.e rfl) .i64 _ (F.e rfl) i rfl (by omega) (ad.add (i * 19)) rfl) ?_; clear F a; intro a F
   refine list_val F (wn rfl) rfl rfl (.agg x.arr) (ex_load _ _ rfl _ (F.e rfl) _ (lrow85 x ((z.below M.bel)))) ?_; clear F a; intro a F
   refine list_do (wn rfl) (fun K hK => ?_)
   refine ow_bslice F M rfl rfl 57 1 _ rfl #[(0, .agg x.arr)] (parts1 (F.e rfl)) x.arr 85 (newrow85 x _) ?_
   clear F M a; intro a g33 v F M hb hg
   refine hK _ _ ?_
   clear hK K
   replace SB := Nat.le_trans SB hb.size
   replace O_x := O_x.below hb
   clear hb hg; try clear u
   refine list_do (wn rfl) (fun K hK => ?_)
   have hxx := C_one (enc := Rv.cs) (hl := Rv.cs_len) (h1 := Rv.cs_one) (M.at (i := 0) rfl)
   replace M : Mm w v [⟨g3, n0.arr, 85⟩] := (by refine M.pick' [1] _ ?_ (by decide); exact ⟨rfl, trivial⟩)
   refine og_app F M Tryz.underlying57 i85 z85s (by decide) (by decide) hw0 SB ⟨.inr hg3, trivial⟩ rfl rfl rfl _ _ rfl (.slice A_27 ((out ++ [n0]).length) c_27) (out ++ [n0]) ([x]) ((out ++ [n0]) ++ [x]) rfl (some ⟨g33, 0, none⟩) 1 1 (F.e rfl) (F.e rfl) O_x (hxx) (by first | omega | (simp only [List.length_append, List.length_cons, List.length_nil]; omega)) ?_
   clear F a; have Mo := M; clear M; intro a A_34 c_34 u F M Oz hgr
   refine hK _ _ ?_
   clear hK K
   replace SB := Nat.le_trans SB hgr.size
   clear O_x Mo hgr; have O_x := Oz; clear Oz; try clear v
   clear hxx
   refine list_val F (wn rfl) rfl rfl (.slice A_34 (((out ++ [n0]) ++ [x]).length) c_34) (ex_assign _ rfl _ (F.e rfl)) ?_; clear F a; intro a F
   refine wpList_nil ?_
   refine in_n ?_
   refine then_n ?_
   refine wp_region_lit ?_
   refine list_val F (wn rfl) rfl rfl (.int .i64 ((i : Nat) : Int)) (ex_move _ rfl _ (F.e rfl)) ?_; clear F a; intro a F
   refine list_val F (wn rfl) rfl rfl (.int .i64 ((i + 1 : Nat) : Int)) (ex_bin .add _ _ _ _ rfl .i64 _ _ (F.e rfl) rfl _ (b_add ((w_i64 (by omega) (by omega)).trans (by omega)))) ?_; clear F a; intro a F
   refine list_val F (wn rfl) rfl rfl (.int .i64 ((i + 1 : Nat) : Int)) (ex_assign _ rfl _ (F.e rfl)) ?_; clear F a; intro a F
   refine wpList_nil ?_
   refine then_n ?_
   exact ⟨xs.length - (i + 1), by omega, (i + 1), ((out ++ [n0]) ++ [x]), A_34, c_34, true, F.keep ⟨rfl, rfl, rfl, rfl, rfl, rfl, rfl, trivial⟩, (by refine M.pick' [0] _ ?_ (by decide); exact ⟨rfl, trivial⟩), SB, O_x, (by omega), (lay_here hlay hk), (by simp only [List.length_append, List.length_cons, List.length_nil]; have := hol0 rfl; omega), (fun h_ => absurd h_ (by decide)), (by omega)⟩
  refine region_tail 8 s2_follows_mixedOrders (by kernel_rfl) M ?_; clear M; intro v M hb
  replace SB := Nat.le_trans SB hb.size
  replace O_x := O_x.below hb
  clear hb; try clear u
  refine still_val F (wn rfl) rfl rfl (.bool false) (ex_move _ rfl _ (F.e rfl)) ?_; clear F a; intro a F
  refine still_val F (wn rfl) rfl rfl (.bool true) (ex_not _ _ rfl _ (F.e rfl) _ rfl) ?_; clear F a; intro a F
  refine still_val F (wn rfl) rfl rfl (.bool true) (ex_move _ rfl _ (F.e rfl)) ?_; clear F a; intro a F
  refine still_val F (F.wants 16 true rfl (by kernel_rfl) rfl true rfl) rfl rfl (.agg n0.arr) (ex_load _ _ rfl _ (F.e rfl) _ (lrow85 n0 (M.at (i := 0) rfl))) ?_; clear F a; intro a F
  refine still_val F (F.wants 16 true rfl (by kernel_rfl) rfl true rfl) rfl rfl (.slice (some ad) xs.length c) (ex_move _ rfl _ (F.e rfl)) ?_; clear F a; intro a F
  refine still_val F (F.wants 16 true rfl (by kernel_rfl) rfl true rfl) rfl rfl (.int .i64 ((i : Nat) : Int)) (ex_move _ rfl _ (F.e rfl)) ?_; clear F a; intro a F
  refine still_val F (F.wants 16 true rfl (by kernel_rfl) rfl true rfl) rfl rfl (.pointer (some (ad.add (i * 19)))) (ex_ix _ _ _ rfl 19 s2_sl_57_19 ad _ _ (F.e rfl) .i64 _ (F.e rfl) i rfl (by omega) (ad.add (i * 19)) rfl) ?_; clear F a; intro a F
  refine still_val F (F.wants 16 true rfl (by kernel_rfl) rfl true rfl) rfl rfl (.agg x.arr) (ex_load _ _ rfl _ (F.e rfl) _ (lrow85 x ((z.below M.bel)))) ?_; clear F a; intro a F
  refine still_end ?_
  refine list_do (F.wants 16 true rfl (by kernel_rfl) rfl true rfl) (fun K hK => ?_)
  refine ow_call rfl rfl F 32 #[.agg n0.arr, .agg x.arr] (ex_call 32 _ _ rfl rfl s2_ent_32 _ (map2 (F.e rfl) (F.e rfl))) (ahead_any n0 x _) (fun e u hR => ?_)
  obtain ⟨he, hb⟩ := hR
  rw [decide_eq_false hk] at he
  refine ⟨.bool false, he, ?_⟩; clear he F a; intro a F
  refine hK _ _ ?_
  clear hK K
  replace SB := Nat.le_trans SB hb.size
  replace O_x := O_x.below hb
  replace M := M.below hb; clear hb; try clear v
  refine list_val F (wn rfl) rfl rfl (.bool false) (ex_pick_t _ _ _ rfl (F.e rfl) _ (F.e rfl)) ?_; clear F a; intro a F
  refine wpList_nil ?_
  refine then_n ?_
  refine wp_cond_false (F.e rfl) ?_
  refine wp_skip ?_
  refine then_n ?_
  refine wp_region_lit ?_
  refine list_val F (wn rfl) rfl rfl (.slice B out.length b) (ex_move _ rfl _ (F.e rfl)) ?_; clear F a; intro a F
  refine list_val F (wn rfl) rfl rfl (.slice (some ad) xs.length c) (ex_move _ rfl _ (F.e rfl)) ?_; clear F a; intro a F
  refine list_val F (wn rfl) rfl rfl (.int .i64 ((i : Nat) : Int)) (ex_move _ rfl _ (F.e rfl)) ?_; clear F a; intro a F
  refine list_val F (wn rfl) rfl rfl (.pointer (some (ad.add (i * 19)))) (ex_ix _ _ _ rfl 19 s2_sl_57_19 ad _ _ (F.e rfl) .i64 _ (F.e rfl) i rfl (by omega) (ad.add (i * 19)) rfl) ?_; clear F a; intro a F
  refine list_val F (wn rfl) rfl rfl (.agg x.arr) (ex_load _ _ rfl _ (F.e rfl) _ (lrow85 x ((z.below M.bel)))) ?_; clear F a; intro a F
  refine list_do (wn rfl) (fun K hK => ?_)
  refine ow_bslice F M rfl rfl 57 1 _ rfl #[(0, .agg x.arr)] (parts1 (F.e rfl)) x.arr 85 (newrow85 x _) ?_
  clear F M a; intro a g33 v F M hb hg
  refine hK _ _ ?_
  clear hK K
  replace SB := Nat.le_trans SB hb.size
  replace O_x := O_x.below hb
  clear hb hg; try clear u
  refine list_do (wn rfl) (fun K hK => ?_)
  have hxx := C_one (enc := Rv.cs) (hl := Rv.cs_len) (h1 := Rv.cs_one) (M.at (i := 0) rfl)
  replace M : Mm w v [⟨g3, n0.arr, 85⟩] := (by refine M.pick' [1] _ ?_ (by decide); exact ⟨rfl, trivial⟩)
  refine og_app F M Tryz.underlying57 i85 z85s (by decide) (by decide) hw0 SB ⟨.inr hg3, trivial⟩ rfl rfl rfl _ _ rfl (.slice B out.length b) out ([x]) (out ++ [x]) rfl (some ⟨g33, 0, none⟩) 1 1 (F.e rfl) (F.e rfl) O_x (hxx) (by first | omega | (simp only [List.length_append, List.length_cons, List.length_nil]; omega)) ?_
  clear F a; have Mo := M; clear M; intro a A_34 c_34 u F M Oz hgr
  refine hK _ _ ?_
  clear hK K
  replace SB := Nat.le_trans SB hgr.size
  clear O_x Mo hgr; have O_x := Oz; clear Oz; try clear v
  clear hxx
  refine list_val F (wn rfl) rfl rfl (.slice A_34 ((out ++ [x]).length) c_34) (ex_assign _ rfl _ (F.e rfl)) ?_; clear F a; intro a F
  refine wpList_nil ?_
  replace F : Fr 42 a [(0, .slice (some ad) xs.length c), (1, .agg n0.arr), (3, .pointer (some ⟨g3, 0, none⟩)), (4, .slice none 0 0), (5, .slice A_34 ((out ++ [x]).length) c_34), (6, .bool false), (7, .int .i64 ((i : Nat) : Int)), (11, .bool true), (23, .bool false)] := F.keep ⟨rfl, rfl, rfl, rfl, rfl, rfl, rfl, rfl, rfl, trivial⟩
  refine in_n ?_
  refine then_n ?_
  refine wp_region_lit ?_
  refine list_val F (wn rfl) rfl rfl (.int .i64 ((i : Nat) : Int)) (ex_move _ rfl _ (F.e rfl)) ?_; clear F a; intro a F
  refine list_val F (wn rfl) rfl rfl (.int .i64 ((i + 1 : Nat) : Int)) (ex_bin .add _ _ _ _ rfl .i64 _ _ (F.e rfl) rfl _ (b_add ((w_i64 (by omega) (by omega)).trans (by omega)))) ?_; clear F a; intro a F
  refine list_val F (wn rfl) rfl rfl (.int .i64 ((i + 1 : Nat) : Int)) (ex_assign _ rfl _ (F.e rfl)) ?_; clear F a; intro a F
  refine wpList_nil ?_
  refine then_n ?_
  exact ⟨xs.length - (i + 1), by omega, (i + 1), (out ++ [x]), A_34, c_34, false, F.keep ⟨rfl, rfl, rfl, rfl, rfl, rfl, rfl, trivial⟩, (by refine M.pick' [0] _ ?_ (by decide); exact ⟨rfl, trivial⟩), SB, O_x, (by omega), (lay_next hlay hk), (by simp only [List.length_append, List.length_cons, List.length_nil]; have := hol0 rfl; omega), (fun _ => by simp only [List.length_append, List.length_cons, List.length_nil]; have := hol0 rfl; omega), (by omega)⟩
 obtain rfl : i = xs.length := by omega
 rw [List.drop_length] at hlay
 refine wp_seq ?_
 refine wp_seq ?_
 refine wp_region_lit ?_
 refine list_val F (wn rfl) rfl rfl (.int .i64 ((xs.length : Nat) : Int)) (ex_move _ rfl _ (F.e rfl)) ?_; clear F a; intro a F
 refine list_val F (wn rfl) rfl rfl (.slice A xs.length c) (ex_move _ rfl _ (F.e rfl)) ?_; clear F a; intro a F
 refine list_val F (wn rfl) rfl rfl (.int .i64 ((xs.length : Nat) : Int)) (ex_len _ _ rfl 19 s2_sl_57_19 _ _ _ (F.e rfl)) ?_; clear F a; intro a F
 refine list_val F (wn rfl) rfl rfl (.bool false) (ex_bin .lss _ _ _ _ rfl .i64 _ _ (F.e rfl) (F.e rfl) _ (b_lss (decide_eq_false (by omega)))) ?_; clear F a; intro a F
 refine wpList_nil ?_
 refine then_n ?_
 refine wp_cond_false (F.e rfl) ?_
 refine wp_exit ?_
 refine then_x ?_
 refine then_x ?_
 refine in_hit ?_
 refine then_n ?_
 refine wp_seq ?_
 refine wp_seq ?_
 by_cases hd : dn = true
 ·
  subst hd
  have hres : out = layF n0 false xs := by rw [← hlay]; simp [layF]
  refine wp_region_lit ?_
  refine list_val F (wn rfl) rfl rfl (.bool true) (ex_move _ rfl _ (F.e rfl)) ?_; clear F a; intro a F
  refine list_val F (wn rfl) rfl rfl (.bool false) (ex_not _ _ rfl _ (F.e rfl) _ rfl) ?_; clear F a; intro a F
  refine wpList_nil ?_
  refine then_n ?_
  refine wp_cond_false (F.e rfl) ?_
  refine wp_skip ?_
  refine then_n ?_
  refine wp_seq ?_
  refine wp_region_lit ?_
  refine list_val F (wn rfl) rfl rfl (.slice B out.length b) (ex_move _ rfl _ (F.e rfl)) ?_; clear F a; intro a F
  refine list_val F (wn rfl) rfl rfl (.slice B out.length b) (ex_assign _ rfl _ (F.e rfl)) ?_; clear F a; intro a F
  refine wpList_nil ?_
  refine then_n ?_
  refine wp_ret ?_
  rw [← hres]
  exact ret_tmp F rfl rfl ⟨_, _, rfl, O_x.low hw0, M.bel⟩
 rw [Bool.not_eq_true] at hd
 subst hd
 have hres : out ++ [n0] = layF n0 false xs := by rw [← hlay]; rfl
 refine wp_region_lit ?_
 refine list_val F (wn rfl) rfl rfl (.bool false) (ex_move _ rfl _ (F.e rfl)) ?_; clear F a; intro a F
 refine list_val F (wn rfl) rfl rfl (.bool true) (ex_not _ _ rfl _ (F.e rfl) _ rfl) ?_; clear F a; intro a F
 refine wpList_nil ?_
 refine then_n ?_
 refine wp_cond_true (F.e rfl) ?_
 refine wp_region_lit ?_
 refine list_val F (wn rfl) rfl rfl (.slice B out.length b) (ex_move _ rfl _ (F.e rfl)) ?_; clear F a; intro a F
 refine list_val F (wn rfl) rfl rfl (.agg n0.arr) (ex_load _ _ rfl _ (F.e rfl) _ (lrow85 n0 (M.at (i := 0) rfl))) ?_; clear F a; intro a F
 refine list_do (wn rfl) (fun K hK => ?_)
 refine ow_bslice F M rfl rfl 57 1 _ rfl #[(0, .agg n0.arr)] (parts1 (F.e rfl)) n0.arr 85 (newrow85 n0 _) ?_
 clear F M a; intro a g39 v F M hb hg
 refine hK _ _ ?_
 clear hK K
 replace SB := Nat.le_trans SB hb.size
 replace O_x := O_x.below hb
 clear hb hg; try clear u
 refine list_do (wn rfl) (fun K hK => ?_)
 have hxx := C_one (enc := Rv.cs) (hl := Rv.cs_len) (h1 := Rv.cs_one) (M.at (i := 0) rfl)
 replace M : Mm w v [⟨g3, n0.arr, 85⟩] := (by refine M.pick' [1] _ ?_ (by decide); exact ⟨rfl, trivial⟩)
 refine og_app F M Tryz.underlying57 i85 z85s (by decide) (by decide) hw0 SB ⟨.inr hg3, trivial⟩ rfl rfl rfl _ _ rfl (.slice B out.length b) out ([n0]) (out ++ [n0]) rfl (some ⟨g39, 0, none⟩) 1 1 (F.e rfl) (F.e rfl) O_x (hxx) (by first | omega | (simp only [List.length_append, List.length_cons, List.length_nil]; omega)) ?_
 clear F a; have Mo := M; clear M; intro a A_40 c_40 u F M Oz hgr
 refine hK _ _ ?_
 clear hK K
 replace SB := Nat.le_trans SB hgr.size
 clear O_x Mo hgr; have O_x := Oz; clear Oz; try clear v
 clear hxx
 refine list_val F (wn rfl) rfl rfl (.slice A_40 ((out ++ [n0]).length) c_40) (ex_assign _ rfl _ (F.e rfl)) ?_; clear F a; intro a F
 refine wpList_nil ?_
 refine then_n ?_
 refine wp_seq ?_
 refine wp_region_lit ?_
 refine list_val F (wn rfl) rfl rfl (.slice A_40 ((out ++ [n0]).length) c_40) (ex_move _ rfl _ (F.e rfl)) ?_; clear F a; intro a F
 refine list_val F (wn rfl) rfl rfl (.slice A_40 ((out ++ [n0]).length) c_40) (ex_assign _ rfl _ (F.e rfl)) ?_; clear F a; intro a F
 refine wpList_nil ?_
 refine then_n ?_
 refine wp_ret ?_
 rw [← hres]
 exact ret_tmp F rfl rfl ⟨_, _, rfl, O_x.low hw0, M.bel⟩
theorem s2_ent_18 : ent? Tryz.prog 18 = true := by kernel_rfl
theorem s2_ent_4 : ent? Tryz.prog 4 = true := by kernel_rfl
theorem s2_fa_85_1_1 : fa? Tryz.prog 85 1 1 = true := by kernel_rfl
theorem s2_one_67 : one? Tryz.prog 67 = true := by kernel_rfl
theorem s2_fa_85_0_0 : fa? Tryz.prog 85 0 0 = true := by kernel_rfl
theorem s2_one_4 : one? Tryz.prog 4 = true := by kernel_rfl
theorem s2_fa_85_2_2 : fa? Tryz.prog 85 2 2 = true := by kernel_rfl
theorem s2_fa_85_3_18 : fa? Tryz.prog 85 3 18 = true := by kernel_rfl
theorem s2_one_2 : one? Tryz.prog 2 = true := by kernel_rfl
theorem s2_ent_36 : ent? Tryz.prog 36 = true := by kernel_rfl
theorem s2_info_2_map_size_some_1 : (Tryz.prog.info? 2).map (·.size) = some 1 := by kernel_rfl
theorem s2_ent_37 : ent? Tryz.prog 37 = true := by kernel_rfl
set_option maxHeartbeats 1000000 in
set_option maxRecDepth 100000 in
theorem refAdd_w (xs : List Rv) (A : Option Addr) (c : Nat) (g : Int) (id : Bs 16) (ep : Int) (w : World) (hr : kRv.C w A xs.length xs) (hmx : xs.length ≤ 1000000) :
    Calls Tryz.prog 21 #[.slice A xs.length c, .int .u64 g, .agg id.cs.toArray, .int .i64 ep] w fun r w' => ∃ A' c', r = .returned (.slice A' (addN xs g id ep).length c') ∧ Ow kRv 85 w' w.heap.size (.slice A' (addN xs g id ep).length c') (addN xs g id ep) ∧ Below w.heap.size w w' := by
 refine calls_start Tryz.func21 rfl rfl rfl (fun a F => ?_)
 have M : Mm w w [] := Mm.nil w
 refine wp_seq ?_
 refine wp_region_lit ?_
 refine list_do (wn rfl) (fun K hK => ?_)
 refine ow_box F M rfl rfl 69 _ rfl _ (F.e rfl) id.cs.toArray rfl ?_
 clear F M a; intro a g6 v F M hb hg
 refine hK _ _ ?_
 clear hK K
 clear hb hg; try clear w
 refine list_val F (wn rfl) rfl rfl (.slice none 0 0) (ex_assign _ rfl _ rfl) ?_; clear F a; intro a F
 refine wpList_nil ?_
 refine then_n ?_
 refine wp_seq ?_
 refine wp_seq ?_
 by_cases hL : IsL xs
 ·
  refine wp_region_lit ?_
  refine list_val F (wn rfl) rfl rfl (.slice A xs.length c) (ex_move _ rfl _ (F.e rfl)) ?_; clear F a; intro a F
  refine list_do (wn rfl) (fun K hK => ?_)
  refine ow_call rfl rfl F 18 #[.slice A xs.length c] (ex_call 18 _ _ rfl rfl s2_ent_18 _ (map1 (F.e rfl))) (refCheck_n xs _ c _ (Kd.C_below hr M.bel) hmx) (fun e u hR => ?_)
  obtain ⟨he, hb⟩ := hR
  rw [chN_yes hL] at he
  refine ⟨.int .i64 0, he, ?_⟩; clear he F a; intro a F
  refine hK _ _ ?_
  clear hK K
  replace M := M.below hb; clear hb; try clear v
  refine list_val F (wn rfl) rfl rfl (.bool false) (ex_bin .neq _ _ _ _ rfl .i64 _ _ (F.e rfl) rfl _ (b_neq (by simp))) ?_; clear F a; intro a F
  refine wpList_nil ?_
  refine then_n ?_
  refine wp_cond_false (F.e rfl) ?_
  refine wp_skip ?_
  refine then_n ?_
  refine wp_seq ?_
  refine wp_region_lit ?_
  refine list_val F (wn rfl) rfl rfl (.slice A xs.length c) (ex_move _ rfl _ (F.e rfl)) ?_; clear F a; intro a F
  refine list_do (wn rfl) (fun K hK => ?_)
  refine ow_call rfl rfl F 4 #[.slice A xs.length c] (ex_call 4 _ _ rfl rfl s2_ent_4 _ (map1 (F.e rfl))) (copy_any xs _ c _ (Kd.C_below hr M.bel) (by omega)) (fun e v hR => ?_)
  obtain ⟨A_15, c_15, he, O_x, hb⟩ := hR
  replace O_x := O_x.low M.bel.size
  refine ⟨.slice A_15 xs.length c_15, he, ?_⟩; clear he F a; intro a F
  refine hK _ _ ?_
  clear hK K
  replace M := M.below hb; clear hb; try clear u
  refine list_val F (wn rfl) rfl rfl (.slice A_15 xs.length c_15) (ex_assign _ rfl _ (F.e rfl)) ?_; clear F a; intro a F
  refine wpList_nil ?_
  refine then_n ?_
  refine wp_seq ?_
  refine wp_seq ?_
  refine wp_region_lit ?_
  refine list_val F (wn rfl) rfl rfl (.int .i64 0) (ex_assign _ rfl _ rfl) ?_; clear F a; intro a F
  refine wpList_nil ?_
  refine then_n ?_
  refine wp_block ?_
  refine wp_loopN (fun mq ar wr => ∃ (i : Nat), Fr 71 ar [(0, .slice A xs.length c), (1, .int .u64 g), (2, .agg id.cs.toArray), (3, .int .i64 ep), (6, .pointer (some ⟨g6, 0, none⟩)), (8, .slice none 0 0), (9, .slice A_15 xs.length c_15), (10, .int .i64 ((i : Nat) : Int)), (13, .bool false)] ∧ Mm w wr [⟨g6, id.cs.toArray, 69⟩] ∧ Ow kRv 85 wr w.heap.size (.slice A_15 xs.length c_15) xs ∧ i ≤ xs.length ∧ (∀ (j : Nat), j < i → ∀ y, xs[j]? = some y → y.grant = g → y.whole = false ∧ y.id ≠ id) ∧ mq + i = xs.length) xs.length ?_ ?_
  ·
   exact ⟨0, F.keep ⟨rfl, rfl, rfl, rfl, rfl, rfl, rfl, rfl, rfl, trivial⟩, (by refine M.pick' [0] _ ?_ (by decide); exact ⟨rfl, trivial⟩), O_x, (Nat.zero_le _), (fun j hj => absurd hj (Nat.not_lt_zero j)), (by omega)⟩
  clear F M a O_x
  rintro mq a u ⟨i, F, M, O_x, hi, hno, hq⟩; try clear v
  by_cases hin : i < xs.length
  ·
   obtain ⟨x, hx⟩ : ∃ x, xs[i]? = some x := ⟨_, List.getElem?_eq_getElem (by omega)⟩
   obtain ⟨ad, hA, z⟩ := C_ix O_x.rd.1 hx
   subst hA
   refine wp_seq ?_
   refine wp_seq ?_
   refine wp_region_lit ?_
   refine list_val F (wn rfl) rfl rfl (.int .i64 ((i : Nat) : Int)) (ex_move _ rfl _ (F.e rfl)) ?_; clear F a; intro a F
   refine list_val F (wn rfl) rfl rfl (.slice (some ad) xs.length c_15) (ex_move _ rfl _ (F.e rfl)) ?_; clear F a; intro a F
   refine list_val F (wn rfl) rfl rfl (.int .i64 ((xs.length : Nat) : Int)) (ex_len _ _ rfl 19 s2_sl_57_19 _ _ _ (F.e rfl)) ?_; clear F a; intro a F
   refine list_val F (wn rfl) rfl rfl (.bool true) (ex_bin .lss _ _ _ _ rfl .i64 _ _ (F.e rfl) (F.e rfl) _ (b_lss (decide_eq_true (by omega)))) ?_; clear F a; intro a F
   refine wpList_nil ?_
   refine then_n ?_
   refine wp_cond_true (F.e rfl) ?_
   refine wp_skip ?_
   refine then_n ?_
   refine wp_seq ?_
   refine wp_block ?_
   refine wp_seq ?_
   refine wp_seq ?_
   by_cases hg : x.grant = g
   ·
    by_cases hw : x.whole = true
    ·
     refine wp_region_lit ?_
     refine list_val F (wn rfl) rfl rfl (.slice (some ad) xs.length c_15) (ex_move _ rfl _ (F.e rfl)) ?_; clear F a; intro a F
     refine list_val F (wn rfl) rfl rfl (.int .i64 ((i : Nat) : Int)) (ex_move _ rfl _ (F.e rfl)) ?_; clear F a; intro a F
     refine list_val F (wn rfl) rfl rfl (.pointer (some (ad.add (i * 19)))) (ex_ix _ _ _ rfl 19 s2_sl_57_19 ad _ _ (F.e rfl) .i64 _ (F.e rfl) i rfl (by omega) (ad.add (i * 19)) rfl) ?_; clear F a; intro a F
     refine list_val F (wn rfl) rfl rfl (.pointer (some ((ad.add (i * 19)).add 1))) (ex_fa _ _ _ rfl _ (F.e rfl) 1 s2_fa_85_1_1 ((ad.add (i * 19)).add 1) rfl) ?_; clear F a; intro a F
     refine list_val F (wn rfl) rfl rfl (.int .u64 x.grant) (ex_load _ _ rfl _ (F.e rfl) _ (lv1 s2_one_67 (z.cell 1 _ (Rv.cs_1 _)))) ?_; clear F a; intro a F
     refine list_val F (wn rfl) rfl rfl (.int .u64 g) (ex_move _ rfl _ (F.e rfl)) ?_; clear F a; intro a F
     refine list_val F (wn rfl) rfl rfl (.bool true) (ex_bin .eql _ _ _ _ rfl .u64 _ _ (F.e rfl) (F.e rfl) _ (b_eql (by simp [hg]))) ?_; clear F a; intro a F
     refine list_val F (wn rfl) rfl rfl (.bool true) (ex_move _ rfl _ (F.e rfl)) ?_; clear F a; intro a F
     refine list_val F (F.wants 29 true rfl (by kernel_rfl) rfl true rfl) rfl rfl (.slice (some ad) xs.length c_15) (ex_move _ rfl _ (F.e rfl)) ?_; clear F a; intro a F
     refine list_val F (F.wants 29 true rfl (by kernel_rfl) rfl true rfl) rfl rfl (.int .i64 ((i : Nat) : Int)) (ex_move _ rfl _ (F.e rfl)) ?_; clear F a; intro a F
     refine list_val F (F.wants 29 true rfl (by kernel_rfl) rfl true rfl) rfl rfl (.pointer (some (ad.add (i * 19)))) (ex_ix _ _ _ rfl 19 s2_sl_57_19 ad _ _ (F.e rfl) .i64 _ (F.e rfl) i rfl (by omega) (ad.add (i * 19)) rfl) ?_; clear F a; intro a F
     refine list_val F (F.wants 29 true rfl (by kernel_rfl) rfl true rfl) rfl rfl (.pointer (some (ad.add (i * 19)))) (ex_fa _ _ _ rfl _ (F.e rfl) 0 s2_fa_85_0_0 (ad.add (i * 19)) rfl) ?_; clear F a; intro a F
     refine list_val F (F.wants 29 true rfl (by kernel_rfl) rfl true rfl) rfl rfl (.bool true) (ex_load _ _ rfl _ (F.e rfl) _ (lv1 s2_one_4 (z.cell 0 _ (Rv.cs_0e hw)))) ?_; clear F a; intro a F
     refine list_val F (wn rfl) rfl rfl (.bool true) (ex_pick_t _ _ _ rfl (F.e rfl) _ (F.e rfl)) ?_; clear F a; intro a F
     refine wpList_nil ?_
     refine then_n ?_
     refine wp_cond_true (F.e rfl) ?_
     refine wp_seq ?_
     refine wp_region_lit ?_
     refine list_val F (wn rfl) rfl rfl (.slice (some ad) xs.length c_15) (ex_move _ rfl _ (F.e rfl)) ?_; clear F a; intro a F
     refine list_val F (wn rfl) rfl rfl (.slice (some ad) xs.length c_15) (ex_assign _ rfl _ (F.e rfl)) ?_; clear F a; intro a F
     refine wpList_nil ?_
     refine then_n ?_
     refine wp_ret ?_
     refine then_r ?_
     refine in_r ?_
     refine then_r ?_
     refine then_r ?_
     refine in_r ?_
     refine then_r ?_
     rw [addN_yes hL, add_kept hx hg hw]
     exact ret_tmp F rfl rfl ⟨_, _, rfl, O_x, M.bel⟩
    by_cases hid : x.id = id
    ·
     refine wp_region_lit ?_
     refine list_val F (wn rfl) rfl rfl (.slice (some ad) xs.length c_15) (ex_move _ rfl _ (F.e rfl)) ?_; clear F a; intro a F
     refine list_val F (wn rfl) rfl rfl (.int .i64 ((i : Nat) : Int)) (ex_move _ rfl _ (F.e rfl)) ?_; clear F a; intro a F
     refine list_val F (wn rfl) rfl rfl (.pointer (some (ad.add (i * 19)))) (ex_ix _ _ _ rfl 19 s2_sl_57_19 ad _ _ (F.e rfl) .i64 _ (F.e rfl) i rfl (by omega) (ad.add (i * 19)) rfl) ?_; clear F a; intro a F
     refine list_val F (wn rfl) rfl rfl (.pointer (some ((ad.add (i * 19)).add 1))) (ex_fa _ _ _ rfl _ (F.e rfl) 1 s2_fa_85_1_1 ((ad.add (i * 19)).add 1) rfl) ?_; clear F a; intro a F
     refine list_val F (wn rfl) rfl rfl (.int .u64 x.grant) (ex_load _ _ rfl _ (F.e rfl) _ (lv1 s2_one_67 (z.cell 1 _ (Rv.cs_1 _)))) ?_; clear F a; intro a F
     refine list_val F (wn rfl) rfl rfl (.int .u64 g) (ex_move _ rfl _ (F.e rfl)) ?_; clear F a; intro a F
     refine list_val F (wn rfl) rfl rfl (.bool true) (ex_bin .eql _ _ _ _ rfl .u64 _ _ (F.e rfl) (F.e rfl) _ (b_eql (by simp [hg]))) ?_; clear F a; intro a F
     refine list_val F (wn rfl) rfl rfl (.bool true) (ex_move _ rfl _ (F.e rfl)) ?_; clear F a; intro a F
     refine list_val F (F.wants 29 true rfl (by kernel_rfl) rfl true rfl) rfl rfl (.slice (some ad) xs.length c_15) (ex_move _ rfl _ (F.e rfl)) ?_; clear F a; intro a F
     refine list_val F (F.wants 29 true rfl (by kernel_rfl) rfl true rfl) rfl rfl (.int .i64 ((i : Nat) : Int)) (ex_move _ rfl _ (F.e rfl)) ?_; clear F a; intro a F
     refine list_val F (F.wants 29 true rfl (by kernel_rfl) rfl true rfl) rfl rfl (.pointer (some (ad.add (i * 19)))) (ex_ix _ _ _ rfl 19 s2_sl_57_19 ad _ _ (F.e rfl) .i64 _ (F.e rfl) i rfl (by omega) (ad.add (i * 19)) rfl) ?_; clear F a; intro a F
     refine list_val F (F.wants 29 true rfl (by kernel_rfl) rfl true rfl) rfl rfl (.pointer (some (ad.add (i * 19)))) (ex_fa _ _ _ rfl _ (F.e rfl) 0 s2_fa_85_0_0 (ad.add (i * 19)) rfl) ?_; clear F a; intro a F
     refine list_val F (F.wants 29 true rfl (by kernel_rfl) rfl true rfl) rfl rfl (.bool false) (ex_load _ _ rfl _ (F.e rfl) _ (lv1 s2_one_4 (z.cell 0 _ (Rv.cs_0e (Bool.eq_false_iff.2 hw))))) ?_; clear F a; intro a F
     refine list_val F (wn rfl) rfl rfl (.bool false) (ex_pick_t _ _ _ rfl (F.e rfl) _ (F.e rfl)) ?_; clear F a; intro a F
     refine wpList_nil ?_
     refine then_n ?_
     refine wp_cond_false (F.e rfl) ?_
     refine wp_skip ?_
     refine then_n ?_
     refine wp_seq ?_
     refine region_tail 15 s2_follows_mixedOrders (by kernel_rfl) M ?_; clear M; intro v M hb
     replace O_x := O_x.below hb
     replace z := z.below hb
     clear hb; try clear u
     refine still_val F (wn rfl) rfl rfl (.slice (some ad) xs.length c_15) (ex_move _ rfl _ (F.e rfl)) ?_; clear F a; intro a F
     refine still_val F (wn rfl) rfl rfl (.int .i64 ((i : Nat) : Int)) (ex_move _ rfl _ (F.e rfl)) ?_; clear F a; intro a F
     refine still_val F (wn rfl) rfl rfl (.pointer (some (ad.add (i * 19)))) (ex_ix _ _ _ rfl 19 s2_sl_57_19 ad _ _ (F.e rfl) .i64 _ (F.e rfl) i rfl (by omega) (ad.add (i * 19)) rfl) ?_; clear F a; intro a F
     refine still_val F (wn rfl) rfl rfl (.pointer (some ((ad.add (i * 19)).add 1))) (ex_fa _ _ _ rfl _ (F.e rfl) 1 s2_fa_85_1_1 ((ad.add (i * 19)).add 1) rfl) ?_; clear F a; intro a F
     refine still_val F (wn rfl) rfl rfl (.int .u64 x.grant) (ex_load _ _ rfl _ (F.e rfl) _ (lv1 s2_one_67 (z.cell 1 _ (Rv.cs_1 _)))) ?_; clear F a; intro a F
     refine still_val F (wn rfl) rfl rfl (.int .u64 g) (ex_move _ rfl _ (F.e rfl)) ?_; clear F a; intro a F
     refine still_val F (wn rfl) rfl rfl (.bool true) (ex_bin .eql _ _ _ _ rfl .u64 _ _ (F.e rfl) (F.e rfl) _ (b_eql (by simp [hg]))) ?_; clear F a; intro a F
     refine still_val F (wn rfl) rfl rfl (.bool true) (ex_move _ rfl _ (F.e rfl)) ?_; clear F a; intro a F
     refine still_val F (F.wants 44 true rfl (by kernel_rfl) rfl true rfl) rfl rfl (.slice (some ad) xs.length c_15) (ex_move _ rfl _ (F.e rfl)) ?_; clear F a; intro a F
     refine still_val F (F.wants 44 true rfl (by kernel_rfl) rfl true rfl) rfl rfl (.int .i64 ((i : Nat) : Int)) (ex_move _ rfl _ (F.e rfl)) ?_; clear F a; intro a F
     refine still_val F (F.wants 44 true rfl (by kernel_rfl) rfl true rfl) rfl rfl (.pointer (some (ad.add (i * 19)))) (ex_ix _ _ _ rfl 19 s2_sl_57_19 ad _ _ (F.e rfl) .i64 _ (F.e rfl) i rfl (by omega) (ad.add (i * 19)) rfl) ?_; clear F a; intro a F
     refine still_val F (F.wants 44 true rfl (by kernel_rfl) rfl true rfl) rfl rfl (.pointer (some ((ad.add (i * 19)).add 2))) (ex_fa _ _ _ rfl _ (F.e rfl) 2 s2_fa_85_2_2 ((ad.add (i * 19)).add 2) rfl) ?_; clear F a; intro a F
     refine still_val F (F.wants 44 true rfl (by kernel_rfl) rfl true rfl) rfl rfl (.agg x.id.cs.toArray) (ex_load _ _ rfl _ (F.e rfl) _ (lrow69 x.id (Rv.id_at (z)))) ?_; clear F a; intro a F
     refine still_val F (F.wants 44 true rfl (by kernel_rfl) rfl true rfl) rfl rfl (.agg id.cs.toArray) (ex_load _ _ rfl _ (F.e rfl) _ (lrow69 id (M.at (i := 0) rfl))) ?_; clear F a; intro a F
     refine still_val F (F.wants 44 true rfl (by kernel_rfl) rfl true rfl) rfl rfl (.bool true) (ex_eq69 _ _ _ rfl x.id id (F.e rfl) (F.e rfl) true (decide_eq_true hid)) ?_; clear F a; intro a F
     refine still_end ?_
     refine list_val F (wn rfl) rfl rfl (.bool true) (ex_pick_t _ _ _ rfl (F.e rfl) _ (F.e rfl)) ?_; clear F a; intro a F
     refine wpList_nil ?_
     refine then_n ?_
     refine wp_cond_true (F.e rfl) ?_
     refine wp_seq ?_
     clear z
     obtain ⟨g9, sp, hA9, _, hg9, hh9, hsz9, hc9, hcm9⟩ := O_x.open (by decide) (by omega)
     obtain rfl := Option.some.inj hA9
     replace M := M_sole M hg9 hh9
     clear O_x hh9
     refine wp_region_lit ?_
     refine list_val F (wn rfl) rfl rfl (.slice (some ⟨g9, 0, none⟩) xs.length c_15) (ex_move _ rfl _ (F.e rfl)) ?_; clear F a; intro a F
     refine list_val F (wn rfl) rfl rfl (.int .i64 ((i : Nat) : Int)) (ex_move _ rfl _ (F.e rfl)) ?_; clear F a; intro a F
     refine list_val F (wn rfl) rfl rfl (.slice (some ⟨g9, 0, none⟩) xs.length c_15) (ex_move _ rfl _ (F.e rfl)) ?_; clear F a; intro a F
     refine list_val F (wn rfl) rfl rfl (.int .i64 ((i : Nat) : Int)) (ex_move _ rfl _ (F.e rfl)) ?_; clear F a; intro a F
     refine list_val F (wn rfl) rfl rfl (.pointer (some ⟨g9, i * 19, none⟩)) (ex_ix _ _ _ rfl 19 s2_sl_57_19 ⟨g9, 0, none⟩ _ _ (F.e rfl) .i64 _ (F.e rfl) i rfl (by omega) ⟨g9, i * 19, none⟩ ((addr_add _ _ _).trans (by rw [Nat.zero_add]))) ?_; clear F a; intro a F
     refine list_val F (wn rfl) rfl rfl (.pointer (some ⟨g9, i * 19 + 18, none⟩)) (ex_fa _ _ _ rfl _ (F.e rfl) 18 s2_fa_85_3_18 ⟨g9, i * 19 + 18, none⟩ rfl) ?_; clear F a; intro a F
     refine list_val F (wn rfl) rfl rfl (.int .i64 x.exp) (ex_load _ _ rfl _ (F.e rfl) _ (lv1 s2_one_2 (M.cell (i := 0) rfl (j := i * 19 + 18) (rows_arr Rv.cs_len hx (Rv.cs_18 _))))) ?_; clear F a; intro a F
     refine list_val F (wn rfl) rfl rfl (.int .i64 ep) (ex_move _ rfl _ (F.e rfl)) ?_; clear F a; intro a F
     refine list_do (wn rfl) (fun K hK => ?_)
     refine ow_call rfl rfl F 36 #[.int .i64 x.exp, .int .i64 ep] (ex_call 36 _ _ rfl rfl s2_ent_36 _ (map2 (F.e rfl) (F.e rfl))) (greater_any x.exp ep _) (fun e u hR => ?_)
     obtain ⟨he, hb⟩ := hR
     refine ⟨.int .i64 (max x.exp ep), he, ?_⟩; clear he F a; intro a F
     refine hK _ _ ?_
     clear hK K
     replace M := M.below hb; clear hb; try clear v
     refine list_val F (wn rfl) rfl rfl (.pointer (some ⟨g9, i * 19, none⟩)) (ex_ix _ _ _ rfl 19 s2_sl_57_19 ⟨g9, 0, none⟩ _ _ (F.e rfl) .i64 _ (F.e rfl) i rfl (by omega) ⟨g9, i * 19, none⟩ ((addr_add _ _ _).trans (by rw [Nat.zero_add]))) ?_; clear F a; intro a F
     refine list_val F (wn rfl) rfl rfl (.pointer (some ⟨g9, i * 19 + 18, none⟩)) (ex_fa _ _ _ rfl _ (F.e rfl) 18 s2_fa_85_3_18 ⟨g9, i * 19 + 18, none⟩ rfl) ?_; clear F a; intro a F
     refine list_do (wn rfl) (fun K hK => ?_)
     refine ow_store F M rfl 2 _ _ rfl 0 g9 (xs.flatMap Rv.cs ++ sp).toArray _ rfl (i * 19 + 18) (F.e rfl) _ (F.e rfl) [.int .i64 (max x.exp ep)] rfl s2_info_2_map_size_some_1 (by rw [List.size_toArray, hsz9]; simp only [List.length_cons, List.length_nil]; omega) (by simp [Value.oneCell']) ((xs.set i ({ x with exp := (max x.exp ep) } : Rv)).flatMap Rv.cs ++ sp).toArray (congrArg List.toArray (rows_set (vs := [.int .i64 (max x.exp ep)]) Rv.cs_len hx (by simp) (Rv.set_18 _ _))) ?_
     clear F a; have Mo := M; clear M; intro a v F M hgr
     refine hK _ _ ?_
     clear hK K
     clear Mo hgr; try clear u
     replace M : Mm w v [⟨g9, ((xs.set i ({ x with exp := (max x.exp ep) } : Rv)).flatMap Rv.cs ++ sp).toArray, 85⟩] := M
     refine wpList_nil ?_
     replace F : Fr 71 a [(0, .slice A xs.length c), (1, .int .u64 g), (2, .agg id.cs.toArray), (3, .int .i64 ep), (6, .pointer (some ⟨g6, 0, none⟩)), (8, .slice none 0 0), (9, .slice (some ⟨g9, 0, none⟩) xs.length c_15), (10, .int .i64 ((i : Nat) : Int)), (13, .bool false), (19, .bool true), (35, .bool false), (52, .bool true)] := F.keep ⟨rfl, rfl, rfl, rfl, rfl, rfl, rfl, rfl, rfl, rfl, rfl, rfl, trivial⟩
     refine then_n ?_
     refine wp_seq ?_
     refine wp_region_lit ?_
     refine list_val F (wn rfl) rfl rfl (.slice (some ⟨g9, 0, none⟩) xs.length c_15) (ex_move _ rfl _ (F.e rfl)) ?_; clear F a; intro a F
     refine list_val F (wn rfl) rfl rfl (.slice (some ⟨g9, 0, none⟩) xs.length c_15) (ex_assign _ rfl _ (F.e rfl)) ?_; clear F a; intro a F
     refine wpList_nil ?_
     refine then_n ?_
     refine wp_ret ?_
     refine in_r ?_
     refine then_r ?_
     refine then_r ?_
     refine in_r ?_
     refine then_r ?_
     rw [addN_yes hL, ← add_same hL hx hg hid hw]
     exact ret_tmp F rfl rfl ⟨_, _, by rw [List.length_set], Ow.of_block (enc := Rv.cs) (m := 19) (sp := sp) (M.blk 0 _ rfl) (M.lo 0 _ rfl) rfl (by rw [List.length_set]; exact hc9) hcm9 (by simp only [List.length_append, flat_len, List.length_set] at hsz9 ⊢; exact hsz9), M.bel⟩
    refine wp_region_lit ?_
    refine list_val F (wn rfl) rfl rfl (.slice (some ad) xs.length c_15) (ex_move _ rfl _ (F.e rfl)) ?_; clear F a; intro a F
    refine list_val F (wn rfl) rfl rfl (.int .i64 ((i : Nat) : Int)) (ex_move _ rfl _ (F.e rfl)) ?_; clear F a; intro a F
    refine list_val F (wn rfl) rfl rfl (.pointer (some (ad.add (i * 19)))) (ex_ix _ _ _ rfl 19 s2_sl_57_19 ad _ _ (F.e rfl) .i64 _ (F.e rfl) i rfl (by omega) (ad.add (i * 19)) rfl) ?_; clear F a; intro a F
    refine list_val F (wn rfl) rfl rfl (.pointer (some ((ad.add (i * 19)).add 1))) (ex_fa _ _ _ rfl _ (F.e rfl) 1 s2_fa_85_1_1 ((ad.add (i * 19)).add 1) rfl) ?_; clear F a; intro a F
    refine list_val F (wn rfl) rfl rfl (.int .u64 x.grant) (ex_load _ _ rfl _ (F.e rfl) _ (lv1 s2_one_67 (z.cell 1 _ (Rv.cs_1 _)))) ?_; clear F a; intro a F
    refine list_val F (wn rfl) rfl rfl (.int .u64 g) (ex_move _ rfl _ (F.e rfl)) ?_; clear F a; intro a F
    refine list_val F (wn rfl) rfl rfl (.bool true) (ex_bin .eql _ _ _ _ rfl .u64 _ _ (F.e rfl) (F.e rfl) _ (b_eql (by simp [hg]))) ?_; clear F a; intro a F
    refine list_val F (wn rfl) rfl rfl (.bool true) (ex_move _ rfl _ (F.e rfl)) ?_; clear F a; intro a F
    refine list_val F (F.wants 29 true rfl (by kernel_rfl) rfl true rfl) rfl rfl (.slice (some ad) xs.length c_15) (ex_move _ rfl _ (F.e rfl)) ?_; clear F a; intro a F
    refine list_val F (F.wants 29 true rfl (by kernel_rfl) rfl true rfl) rfl rfl (.int .i64 ((i : Nat) : Int)) (ex_move _ rfl _ (F.e rfl)) ?_; clear F a; intro a F
    refine list_val F (F.wants 29 true rfl (by kernel_rfl) rfl true rfl) rfl rfl (.pointer (some (ad.add (i * 19)))) (ex_ix _ _ _ rfl 19 s2_sl_57_19 ad _ _ (F.e rfl) .i64 _ (F.e rfl) i rfl (by omega) (ad.add (i * 19)) rfl) ?_; clear F a; intro a F
    refine list_val F (F.wants 29 true rfl (by kernel_rfl) rfl true rfl) rfl rfl (.pointer (some (ad.add (i * 19)))) (ex_fa _ _ _ rfl _ (F.e rfl) 0 s2_fa_85_0_0 (ad.add (i * 19)) rfl) ?_; clear F a; intro a F
    refine list_val F (F.wants 29 true rfl (by kernel_rfl) rfl true rfl) rfl rfl (.bool false) (ex_load _ _ rfl _ (F.e rfl) _ (lv1 s2_one_4 (z.cell 0 _ (Rv.cs_0e (Bool.eq_false_iff.2 hw))))) ?_; clear F a; intro a F
    refine list_val F (wn rfl) rfl rfl (.bool false) (ex_pick_t _ _ _ rfl (F.e rfl) _ (F.e rfl)) ?_; clear F a; intro a F
    refine wpList_nil ?_
    refine then_n ?_
    refine wp_cond_false (F.e rfl) ?_
    refine wp_skip ?_
    refine then_n ?_
    refine wp_seq ?_
    refine region_tail 15 s2_follows_mixedOrders (by kernel_rfl) M ?_; clear M; intro v M hb
    replace O_x := O_x.below hb
    replace z := z.below hb
    clear hb; try clear u
    refine still_val F (wn rfl) rfl rfl (.slice (some ad) xs.length c_15) (ex_move _ rfl _ (F.e rfl)) ?_; clear F a; intro a F
    refine still_val F (wn rfl) rfl rfl (.int .i64 ((i : Nat) : Int)) (ex_move _ rfl _ (F.e rfl)) ?_; clear F a; intro a F
    refine still_val F (wn rfl) rfl rfl (.pointer (some (ad.add (i * 19)))) (ex_ix _ _ _ rfl 19 s2_sl_57_19 ad _ _ (F.e rfl) .i64 _ (F.e rfl) i rfl (by omega) (ad.add (i * 19)) rfl) ?_; clear F a; intro a F
    refine still_val F (wn rfl) rfl rfl (.pointer (some ((ad.add (i * 19)).add 1))) (ex_fa _ _ _ rfl _ (F.e rfl) 1 s2_fa_85_1_1 ((ad.add (i * 19)).add 1) rfl) ?_; clear F a; intro a F
    refine still_val F (wn rfl) rfl rfl (.int .u64 x.grant) (ex_load _ _ rfl _ (F.e rfl) _ (lv1 s2_one_67 (z.cell 1 _ (Rv.cs_1 _)))) ?_; clear F a; intro a F
    refine still_val F (wn rfl) rfl rfl (.int .u64 g) (ex_move _ rfl _ (F.e rfl)) ?_; clear F a; intro a F
    refine still_val F (wn rfl) rfl rfl (.bool true) (ex_bin .eql _ _ _ _ rfl .u64 _ _ (F.e rfl) (F.e rfl) _ (b_eql (by simp [hg]))) ?_; clear F a; intro a F
    refine still_val F (wn rfl) rfl rfl (.bool true) (ex_move _ rfl _ (F.e rfl)) ?_; clear F a; intro a F
    refine still_val F (F.wants 44 true rfl (by kernel_rfl) rfl true rfl) rfl rfl (.slice (some ad) xs.length c_15) (ex_move _ rfl _ (F.e rfl)) ?_; clear F a; intro a F
    refine still_val F (F.wants 44 true rfl (by kernel_rfl) rfl true rfl) rfl rfl (.int .i64 ((i : Nat) : Int)) (ex_move _ rfl _ (F.e rfl)) ?_; clear F a; intro a F
    refine still_val F (F.wants 44 true rfl (by kernel_rfl) rfl true rfl) rfl rfl (.pointer (some (ad.add (i * 19)))) (ex_ix _ _ _ rfl 19 s2_sl_57_19 ad _ _ (F.e rfl) .i64 _ (F.e rfl) i rfl (by omega) (ad.add (i * 19)) rfl) ?_; clear F a; intro a F
    refine still_val F (F.wants 44 true rfl (by kernel_rfl) rfl true rfl) rfl rfl (.pointer (some ((ad.add (i * 19)).add 2))) (ex_fa _ _ _ rfl _ (F.e rfl) 2 s2_fa_85_2_2 ((ad.add (i * 19)).add 2) rfl) ?_; clear F a; intro a F
    refine still_val F (F.wants 44 true rfl (by kernel_rfl) rfl true rfl) rfl rfl (.agg x.id.cs.toArray) (ex_load _ _ rfl _ (F.e rfl) _ (lrow69 x.id (Rv.id_at (z)))) ?_; clear F a; intro a F
    refine still_val F (F.wants 44 true rfl (by kernel_rfl) rfl true rfl) rfl rfl (.agg id.cs.toArray) (ex_load _ _ rfl _ (F.e rfl) _ (lrow69 id (M.at (i := 0) rfl))) ?_; clear F a; intro a F
    refine still_val F (F.wants 44 true rfl (by kernel_rfl) rfl true rfl) rfl rfl (.bool false) (ex_eq69 _ _ _ rfl x.id id (F.e rfl) (F.e rfl) false (decide_eq_false hid)) ?_; clear F a; intro a F
    refine still_end ?_
    refine list_val F (wn rfl) rfl rfl (.bool false) (ex_pick_t _ _ _ rfl (F.e rfl) _ (F.e rfl)) ?_; clear F a; intro a F
    refine wpList_nil ?_
    refine then_n ?_
    refine wp_cond_false (F.e rfl) ?_
    refine wp_skip ?_
    refine in_n ?_
    refine then_n ?_
    refine wp_region_lit ?_
    refine list_val F (wn rfl) rfl rfl (.int .i64 ((i : Nat) : Int)) (ex_move _ rfl _ (F.e rfl)) ?_; clear F a; intro a F
    refine list_val F (wn rfl) rfl rfl (.int .i64 ((i + 1 : Nat) : Int)) (ex_bin .add _ _ _ _ rfl .i64 _ _ (F.e rfl) rfl _ (b_add ((w_i64 (by omega) (by omega)).trans (by omega)))) ?_; clear F a; intro a F
    refine list_val F (wn rfl) rfl rfl (.int .i64 ((i + 1 : Nat) : Int)) (ex_assign _ rfl _ (F.e rfl)) ?_; clear F a; intro a F
    refine wpList_nil ?_
    refine then_n ?_
    exact ⟨xs.length - (i + 1), by omega, (i + 1), F.keep ⟨rfl, rfl, rfl, rfl, rfl, rfl, rfl, rfl, rfl, trivial⟩, (by refine M.pick' [0] _ ?_ (by decide); exact ⟨rfl, trivial⟩), O_x, (by omega), (fun j hj => (Nat.lt_or_eq_of_le (Nat.le_of_lt_succ hj)).elim (fun h_ => hno j h_) (fun h_ => by subst h_; exact (fun y hy _ => by obtain rfl := Option.some.inj (hx.symm.trans hy); exact ⟨Bool.eq_false_iff.2 hw, hid⟩))), (by omega)⟩
   refine wp_region_lit ?_
   refine list_val F (wn rfl) rfl rfl (.slice (some ad) xs.length c_15) (ex_move _ rfl _ (F.e rfl)) ?_; clear F a; intro a F
   refine list_val F (wn rfl) rfl rfl (.int .i64 ((i : Nat) : Int)) (ex_move _ rfl _ (F.e rfl)) ?_; clear F a; intro a F
   refine list_val F (wn rfl) rfl rfl (.pointer (some (ad.add (i * 19)))) (ex_ix _ _ _ rfl 19 s2_sl_57_19 ad _ _ (F.e rfl) .i64 _ (F.e rfl) i rfl (by omega) (ad.add (i * 19)) rfl) ?_; clear F a; intro a F
   refine list_val F (wn rfl) rfl rfl (.pointer (some ((ad.add (i * 19)).add 1))) (ex_fa _ _ _ rfl _ (F.e rfl) 1 s2_fa_85_1_1 ((ad.add (i * 19)).add 1) rfl) ?_; clear F a; intro a F
   refine list_val F (wn rfl) rfl rfl (.int .u64 x.grant) (ex_load _ _ rfl _ (F.e rfl) _ (lv1 s2_one_67 (z.cell 1 _ (Rv.cs_1 _)))) ?_; clear F a; intro a F
   refine list_val F (wn rfl) rfl rfl (.int .u64 g) (ex_move _ rfl _ (F.e rfl)) ?_; clear F a; intro a F
   refine list_val F (wn rfl) rfl rfl (.bool false) (ex_bin .eql _ _ _ _ rfl .u64 _ _ (F.e rfl) (F.e rfl) _ (b_eql (by simp [hg]))) ?_; clear F a; intro a F
   refine list_val F (wn rfl) rfl rfl (.bool false) (ex_move _ rfl _ (F.e rfl)) ?_; clear F a; intro a F
   refine list_skip F (F.wants 29 false rfl (by kernel_rfl) rfl false rfl) rfl rfl ?_; clear F a; intro a F
   refine list_skip F (F.wants 29 false rfl (by kernel_rfl) rfl false rfl) rfl rfl ?_; clear F a; intro a F
   refine list_skip F (F.wants 29 false rfl (by kernel_rfl) rfl false rfl) rfl rfl ?_; clear F a; intro a F
   refine list_skip F (F.wants 29 false rfl (by kernel_rfl) rfl false rfl) rfl rfl ?_; clear F a; intro a F
   refine list_skip F (F.wants 29 false rfl (by kernel_rfl) rfl false rfl) rfl rfl ?_; clear F a; intro a F
   refine list_val F (wn rfl) rfl rfl (.bool false) (ex_pick_f _ _ _ rfl (F.e rfl) _ rfl) ?_; clear F a; intro a F
   refine wpList_nil ?_
   replace F : Fr 71 a [(0, .slice A xs.length c), (1, .int .u64 g), (2, .agg id.cs.toArray), (3, .int .i64 ep), (6, .pointer (some ⟨g6, 0, none⟩)), (8, .slice none 0 0), (9, .slice (some ad) xs.length c_15), (10, .int .i64 ((i : Nat) : Int)), (13, .bool false), (19, .bool true), (35, .bool false)] := F.keep ⟨rfl, rfl, rfl, rfl, rfl, rfl, rfl, rfl, rfl, rfl, rfl, trivial⟩
   refine then_n ?_
   refine wp_cond_false (F.e rfl) ?_
   refine wp_skip ?_
   refine then_n ?_
   refine wp_seq ?_
   refine region_tail 15 s2_follows_mixedOrders (by kernel_rfl) M ?_; clear M; intro v M hb
   replace O_x := O_x.below hb
   replace z := z.below hb
   clear hb; try clear u
   refine still_val F (wn rfl) rfl rfl (.slice (some ad) xs.length c_15) (ex_move _ rfl _ (F.e rfl)) ?_; clear F a; intro a F
   refine still_val F (wn rfl) rfl rfl (.int .i64 ((i : Nat) : Int)) (ex_move _ rfl _ (F.e rfl)) ?_; clear F a; intro a F
   refine still_val F (wn rfl) rfl rfl (.pointer (some (ad.add (i * 19)))) (ex_ix _ _ _ rfl 19 s2_sl_57_19 ad _ _ (F.e rfl) .i64 _ (F.e rfl) i rfl (by omega) (ad.add (i * 19)) rfl) ?_; clear F a; intro a F
   refine still_val F (wn rfl) rfl rfl (.pointer (some ((ad.add (i * 19)).add 1))) (ex_fa _ _ _ rfl _ (F.e rfl) 1 s2_fa_85_1_1 ((ad.add (i * 19)).add 1) rfl) ?_; clear F a; intro a F
   refine still_val F (wn rfl) rfl rfl (.int .u64 x.grant) (ex_load _ _ rfl _ (F.e rfl) _ (lv1 s2_one_67 (z.cell 1 _ (Rv.cs_1 _)))) ?_; clear F a; intro a F
   refine still_val F (wn rfl) rfl rfl (.int .u64 g) (ex_move _ rfl _ (F.e rfl)) ?_; clear F a; intro a F
   refine still_val F (wn rfl) rfl rfl (.bool false) (ex_bin .eql _ _ _ _ rfl .u64 _ _ (F.e rfl) (F.e rfl) _ (b_eql (by simp [hg]))) ?_; clear F a; intro a F
   refine still_val F (wn rfl) rfl rfl (.bool false) (ex_move _ rfl _ (F.e rfl)) ?_; clear F a; intro a F
   refine still_skip F (F.wants 44 false rfl (by kernel_rfl) rfl false rfl) rfl rfl ?_; clear F a; intro a F
   refine still_skip F (F.wants 44 false rfl (by kernel_rfl) rfl false rfl) rfl rfl ?_; clear F a; intro a F
   refine still_skip F (F.wants 44 false rfl (by kernel_rfl) rfl false rfl) rfl rfl ?_; clear F a; intro a F
   refine still_skip F (F.wants 44 false rfl (by kernel_rfl) rfl false rfl) rfl rfl ?_; clear F a; intro a F
   refine still_skip F (F.wants 44 false rfl (by kernel_rfl) rfl false rfl) rfl rfl ?_; clear F a; intro a F
   refine still_skip F (F.wants 44 false rfl (by kernel_rfl) rfl false rfl) rfl rfl ?_; clear F a; intro a F
   refine still_skip F (F.wants 44 false rfl (by kernel_rfl) rfl false rfl) rfl rfl ?_; clear F a; intro a F
   refine still_end ?_
   refine list_val F (wn rfl) rfl rfl (.bool false) (ex_pick_f _ _ _ rfl (F.e rfl) _ rfl) ?_; clear F a; intro a F
   refine wpList_nil ?_
   refine then_n ?_
   refine wp_cond_false (F.e rfl) ?_
   refine wp_skip ?_
   refine in_n ?_
   refine then_n ?_
   refine wp_region_lit ?_
   refine list_val F (wn rfl) rfl rfl (.int .i64 ((i : Nat) : Int)) (ex_move _ rfl _ (F.e rfl)) ?_; clear F a; intro a F
   refine list_val F (wn rfl) rfl rfl (.int .i64 ((i + 1 : Nat) : Int)) (ex_bin .add _ _ _ _ rfl .i64 _ _ (F.e rfl) rfl _ (b_add ((w_i64 (by omega) (by omega)).trans (by omega)))) ?_; clear F a; intro a F
   refine list_val F (wn rfl) rfl rfl (.int .i64 ((i + 1 : Nat) : Int)) (ex_assign _ rfl _ (F.e rfl)) ?_; clear F a; intro a F
   refine wpList_nil ?_
   refine then_n ?_
   exact ⟨xs.length - (i + 1), by omega, (i + 1), F.keep ⟨rfl, rfl, rfl, rfl, rfl, rfl, rfl, rfl, rfl, trivial⟩, (by refine M.pick' [0] _ ?_ (by decide); exact ⟨rfl, trivial⟩), O_x, (by omega), (fun j hj => (Nat.lt_or_eq_of_le (Nat.le_of_lt_succ hj)).elim (fun h_ => hno j h_) (fun h_ => by subst h_; exact (fun y hy hyg => by obtain rfl := Option.some.inj (hx.symm.trans hy); exact absurd hyg hg))), (by omega)⟩
  refine wp_seq ?_
  refine wp_seq ?_
  refine wp_region_lit ?_
  refine list_val F (wn rfl) rfl rfl (.int .i64 ((i : Nat) : Int)) (ex_move _ rfl _ (F.e rfl)) ?_; clear F a; intro a F
  refine list_val F (wn rfl) rfl rfl (.slice A_15 xs.length c_15) (ex_move _ rfl _ (F.e rfl)) ?_; clear F a; intro a F
  refine list_val F (wn rfl) rfl rfl (.int .i64 ((xs.length : Nat) : Int)) (ex_len _ _ rfl 19 s2_sl_57_19 _ _ _ (F.e rfl)) ?_; clear F a; intro a F
  refine list_val F (wn rfl) rfl rfl (.bool false) (ex_bin .lss _ _ _ _ rfl .i64 _ _ (F.e rfl) (F.e rfl) _ (b_lss (decide_eq_false (by omega)))) ?_; clear F a; intro a F
  refine wpList_nil ?_
  refine then_n ?_
  refine wp_cond_false (F.e rfl) ?_
  refine wp_exit ?_
  refine then_x ?_
  refine then_x ?_
  refine in_hit ?_
  refine then_n ?_
  refine wp_seq ?_
  refine wp_region_lit ?_
  refine list_val F (wn rfl) rfl rfl (.slice A_15 xs.length c_15) (ex_move _ rfl _ (F.e rfl)) ?_; clear F a; intro a F
  refine list_val F (wn rfl) rfl rfl (.int .u64 g) (ex_move _ rfl _ (F.e rfl)) ?_; clear F a; intro a F
  refine list_val F (wn rfl) rfl rfl (.agg id.cs.toArray) (ex_load _ _ rfl _ (F.e rfl) _ (lrow69 id (M.at (i := 0) rfl))) ?_; clear F a; intro a F
  refine list_val F (wn rfl) rfl rfl (.int .i64 ep) (ex_move _ rfl _ (F.e rfl)) ?_; clear F a; intro a F
  refine list_val F (wn rfl) rfl rfl (.agg ((⟨false, g, id, ep⟩ : Rv).arr)) (ex_build 85 _ rfl #[(1, .int .u64 g), (2, .agg id.cs.toArray), (3, .int .i64 ep)] (parts3 (F.e rfl) (F.e rfl) (F.e rfl)) (.agg ((⟨false, g, id, ep⟩ : Rv).arr)) (build85_123 g id ep _)) ?_; clear F a; intro a F
  refine list_do (wn rfl) (fun K hK => ?_)
  refine ow_call rfl rfl F 37 #[.slice A_15 xs.length c_15, .agg ((⟨false, g, id, ep⟩ : Rv).arr)] (ex_call 37 _ _ rfl rfl s2_ent_37 _ (map2 (F.e rfl) (F.e rfl))) (laid_any xs _ _ (⟨false, g, id, ep⟩ : Rv) _ O_x.rd.1 hmx) (fun e v hR => ?_)
  obtain ⟨A_70, c_70, he, O_y, hb⟩ := hR
  replace O_y := O_y.low M.bel.size
  refine ⟨.slice A_70 ((layF (⟨false, g, id, ep⟩ : Rv) false xs).length) c_70, he, ?_⟩; clear he F a; intro a F
  refine hK _ _ ?_
  clear hK K
  replace O_x := O_x.below hb
  replace M := M.below hb; clear hb; try clear u
  refine list_val F (wn rfl) rfl rfl (.slice A_70 ((layF (⟨false, g, id, ep⟩ : Rv) false xs).length) c_70) (ex_assign _ rfl _ (F.e rfl)) ?_; clear F a; intro a F
  refine wpList_nil ?_
  refine then_n ?_
  refine wp_ret ?_
  rw [addN_yes hL, ← add_lay hL (fun j y hy => hno j (by have := (List.getElem?_eq_some_iff.1 hy).1; omega) y hy)]
  exact ret_tmp F rfl rfl ⟨_, _, rfl, O_y, M.bel⟩
 refine wp_region_lit ?_
 refine list_val F (wn rfl) rfl rfl (.slice A xs.length c) (ex_move _ rfl _ (F.e rfl)) ?_; clear F a; intro a F
 refine list_do (wn rfl) (fun K hK => ?_)
 refine ow_call rfl rfl F 18 #[.slice A xs.length c] (ex_call 18 _ _ rfl rfl s2_ent_18 _ (map1 (F.e rfl))) (refCheck_n xs _ c _ (Kd.C_below hr M.bel) hmx) (fun e u hR => ?_)
 obtain ⟨he, hb⟩ := hR
 rw [chN_no hL] at he
 refine ⟨.int .i64 140, he, ?_⟩; clear he F a; intro a F
 refine hK _ _ ?_
 clear hK K
 replace M := M.below hb; clear hb; try clear v
 refine list_val F (wn rfl) rfl rfl (.bool true) (ex_bin .neq _ _ _ _ rfl .i64 _ _ (F.e rfl) rfl _ (b_neq (by simp))) ?_; clear F a; intro a F
 refine wpList_nil ?_
 refine then_n ?_
 refine wp_cond_true (F.e rfl) ?_
 refine wp_seq ?_
 refine wp_region_lit ?_
 refine list_val F (wn rfl) rfl rfl (.slice none 0 0) (ex_assign _ rfl _ rfl) ?_; clear F a; intro a F
 refine wpList_nil ?_
 refine then_n ?_
 refine wp_ret ?_
 refine then_r ?_
 rw [addN_no hL]
 exact ret_tmp F rfl rfl ⟨none, 0, rfl, Ow.nil kRv 85 _ _, M.bel⟩
set_option maxHeartbeats 1000000 in
set_option maxRecDepth 100000 in
theorem refKill_w (xs : List Rv) (A : Option Addr) (c : Nat) (g ep : Int) (w : World) (hr : kRv.C w A xs.length xs) (hmx : xs.length ≤ 1000000) :
    Calls Tryz.prog 22 #[.slice A xs.length c, .int .u64 g, .int .i64 ep] w fun r w' => ∃ A' c', r = .returned (.slice A' (killN xs g ep).length c') ∧ Ow kRv 85 w' w.heap.size (.slice A' (killN xs g ep).length c') (killN xs g ep) ∧ Below w.heap.size w w' := by
 refine calls_start Tryz.func22 rfl rfl rfl (fun a F => ?_)
 have M : Mm w w [] := Mm.nil w
 refine wp_seq ?_
 refine wp_region_lit ?_
 refine list_val F (wn rfl) rfl rfl (.slice none 0 0) (ex_assign _ rfl _ rfl) ?_; clear F a; intro a F
 refine wpList_nil ?_
 refine then_n ?_
 refine wp_seq ?_
 refine wp_seq ?_
 by_cases hL : IsL xs
 ·
  refine wp_region_lit ?_
  refine list_val F (wn rfl) rfl rfl (.slice A xs.length c) (ex_move _ rfl _ (F.e rfl)) ?_; clear F a; intro a F
  refine list_do (wn rfl) (fun K hK => ?_)
  refine ow_call rfl rfl F 18 #[.slice A xs.length c] (ex_call 18 _ _ rfl rfl s2_ent_18 _ (map1 (F.e rfl))) (refCheck_n xs _ c _ (Kd.C_below hr M.bel) hmx) (fun e v hR => ?_)
  obtain ⟨he, hb⟩ := hR
  rw [chN_yes hL] at he
  refine ⟨.int .i64 0, he, ?_⟩; clear he F a; intro a F
  refine hK _ _ ?_
  clear hK K
  replace M := M.below hb; clear hb; try clear w
  refine list_val F (wn rfl) rfl rfl (.bool false) (ex_bin .neq _ _ _ _ rfl .i64 _ _ (F.e rfl) rfl _ (b_neq (by simp))) ?_; clear F a; intro a F
  refine wpList_nil ?_
  refine then_n ?_
  refine wp_cond_false (F.e rfl) ?_
  refine wp_skip ?_
  refine then_n ?_
  refine wp_seq ?_
  obtain ⟨bs, hbs⟩ : ∃ bs, bs = w.heap.size := ⟨_, rfl⟩
  have hw0 : w.heap.size ≤ bs := by omega
  have hw1 : bs ≤ w.heap.size := by omega
  have SB : bs ≤ v.heap.size := by rw [hbs]; exact M.bel.size
  refine wp_region_lit ?_
  refine list_val F (wn rfl) rfl rfl (.slice none 0 0) (ex_assign _ rfl _ rfl) ?_; clear F a; intro a F
  refine wpList_nil ?_
  refine then_n ?_
  refine wp_seq ?_
  refine wp_seq ?_
  refine wp_region_lit ?_
  refine list_val F (wn rfl) rfl rfl (.int .i64 0) (ex_assign _ rfl _ rfl) ?_; clear F a; intro a F
  refine wpList_nil ?_
  refine then_n ?_
  refine wp_block ?_
  refine wp_loopN (fun mq ar wr => ∃ (i : Nat), ∃ (out : List Rv), ∃ (B : Option Addr), ∃ (b : Nat), ∃ (ee : Int), Fr 49 ar [(0, .slice A xs.length c), (1, .int .u64 g), (2, .int .i64 ee), (6, .slice none 0 0), (7, .slice B out.length b), (8, .int .i64 ((i : Nat) : Int)), (11, .bool false)] ∧ Mm w wr [] ∧ bs ≤ wr.heap.size ∧ Ow kRv 85 wr bs (.slice B out.length b) out ∧ i ≤ xs.length ∧ out ++ (xs.drop i).filter (fun y => !(y.grant == g)) = xs.filter (fun y => !(y.grant == g)) ∧ accE g (xs.drop i) ee = accE g xs ep ∧ out.length ≤ i ∧ mq + i = xs.length) xs.length ?_ ?_
  ·
   exact ⟨0, [], none, 0, ep, F.keep ⟨rfl, rfl, rfl, rfl, rfl, rfl, rfl, trivial⟩, M, SB, (Ow.nil kRv 85 _ _), (Nat.zero_le _), (by rw [List.drop_zero]; rfl), (by rw [List.drop_zero]), (Nat.zero_le _), (by omega)⟩
  clear F M a SB
  rintro mq a u ⟨i, out, B, b, ee, F, M, SB, O_x, hi, hout, hacc, hol, hq⟩; try clear v
  by_cases hin : i < xs.length
  ·
   obtain ⟨x, hx⟩ : ∃ x, xs[i]? = some x := ⟨_, List.getElem?_eq_getElem (by omega)⟩
   obtain ⟨ad, hA, z⟩ := C_ix hr hx
   subst hA
   rw [drop_cons hx] at hout hacc
   refine wp_seq ?_
   refine wp_seq ?_
   refine wp_region_lit ?_
   refine list_val F (wn rfl) rfl rfl (.int .i64 ((i : Nat) : Int)) (ex_move _ rfl _ (F.e rfl)) ?_; clear F a; intro a F
   refine list_val F (wn rfl) rfl rfl (.slice (some ad) xs.length c) (ex_move _ rfl _ (F.e rfl)) ?_; clear F a; intro a F
   refine list_val F (wn rfl) rfl rfl (.int .i64 ((xs.length : Nat) : Int)) (ex_len _ _ rfl 19 s2_sl_57_19 _ _ _ (F.e rfl)) ?_; clear F a; intro a F
   refine list_val F (wn rfl) rfl rfl (.bool true) (ex_bin .lss _ _ _ _ rfl .i64 _ _ (F.e rfl) (F.e rfl) _ (b_lss (decide_eq_true (by omega)))) ?_; clear F a; intro a F
   refine wpList_nil ?_
   refine then_n ?_
   refine wp_cond_true (F.e rfl) ?_
   refine wp_skip ?_
   refine then_n ?_
   refine wp_seq ?_
   refine wp_block ?_
   refine wp_seq ?_
   by_cases hg : ¬ x.grant = g
   ·
    have hacc2 := acc_no hacc (fun h_ => hg h_.1)
    have hout2 := out_snoc hout (by simpa using hg)
    refine wp_region_lit ?_
    refine list_val F (wn rfl) rfl rfl (.slice (some ad) xs.length c) (ex_move _ rfl _ (F.e rfl)) ?_; clear F a; intro a F
    refine list_val F (wn rfl) rfl rfl (.int .i64 ((i : Nat) : Int)) (ex_move _ rfl _ (F.e rfl)) ?_; clear F a; intro a F
    refine list_val F (wn rfl) rfl rfl (.pointer (some (ad.add (i * 19)))) (ex_ix _ _ _ rfl 19 s2_sl_57_19 ad _ _ (F.e rfl) .i64 _ (F.e rfl) i rfl (by omega) (ad.add (i * 19)) rfl) ?_; clear F a; intro a F
    refine list_val F (wn rfl) rfl rfl (.pointer (some ((ad.add (i * 19)).add 1))) (ex_fa _ _ _ rfl _ (F.e rfl) 1 s2_fa_85_1_1 ((ad.add (i * 19)).add 1) rfl) ?_; clear F a; intro a F
    refine list_val F (wn rfl) rfl rfl (.int .u64 x.grant) (ex_load _ _ rfl _ (F.e rfl) _ (lv1 s2_one_67 ((z.below M.bel).cell 1 _ (Rv.cs_1 _)))) ?_; clear F a; intro a F
    refine list_val F (wn rfl) rfl rfl (.int .u64 g) (ex_move _ rfl _ (F.e rfl)) ?_; clear F a; intro a F
    refine list_val F (wn rfl) rfl rfl (.bool true) (ex_bin .neq _ _ _ _ rfl .u64 _ _ (F.e rfl) (F.e rfl) _ (b_neq (by simp [hg]))) ?_; clear F a; intro a F
    refine wpList_nil ?_
    refine then_n ?_
    refine wp_cond_true (F.e rfl) ?_
    refine wp_region_lit ?_
    refine list_val F (wn rfl) rfl rfl (.slice B out.length b) (ex_move _ rfl _ (F.e rfl)) ?_; clear F a; intro a F
    refine list_val F (wn rfl) rfl rfl (.slice (some ad) xs.length c) (ex_move _ rfl _ (F.e rfl)) ?_; clear F a; intro a F
    refine list_val F (wn rfl) rfl rfl (.int .i64 ((i : Nat) : Int)) (ex_move _ rfl _ (F.e rfl)) ?_; clear F a; intro a F
    refine list_val F (wn rfl) rfl rfl (.pointer (some (ad.add (i * 19)))) (ex_ix _ _ _ rfl 19 s2_sl_57_19 ad _ _ (F.e rfl) .i64 _ (F.e rfl) i rfl (by omega) (ad.add (i * 19)) rfl) ?_; clear F a; intro a F
    refine list_val F (wn rfl) rfl rfl (.agg x.arr) (ex_load _ _ rfl _ (F.e rfl) _ (lrow85 x ((z.below M.bel)))) ?_; clear F a; intro a F
    refine list_do (wn rfl) (fun K hK => ?_)
    refine ow_bslice F M rfl rfl 57 1 _ rfl #[(0, .agg x.arr)] (parts1 (F.e rfl)) x.arr 85 (newrow85 x _) ?_
    clear F M a; intro a g30 v F M hb hg
    refine hK _ _ ?_
    clear hK K
    replace SB := Nat.le_trans SB hb.size
    replace O_x := O_x.below hb
    clear hb hg; try clear u
    refine list_do (wn rfl) (fun K hK => ?_)
    have hxx := C_one (enc := Rv.cs) (hl := Rv.cs_len) (h1 := Rv.cs_one) (M.at (i := 0) rfl)
    replace M : Mm w v [] := (by refine M.pick' [] _ ?_ (by decide); exact trivial)
    refine og_app F M Tryz.underlying57 i85 z85s (by decide) (by decide) hw0 SB trivial rfl rfl rfl _ _ rfl (.slice B out.length b) out ([x]) (out ++ [x]) rfl (some ⟨g30, 0, none⟩) 1 1 (F.e rfl) (F.e rfl) O_x (hxx) (by omega) ?_
    clear F a; have Mo := M; clear M; intro a A_31 c_31 u F M Oz hgr
    refine hK _ _ ?_
    clear hK K
    replace SB := Nat.le_trans SB hgr.size
    clear O_x Mo hgr; have O_x := Oz; clear Oz; try clear v
    clear hxx
    refine list_val F (wn rfl) rfl rfl (.slice A_31 ((out ++ [x]).length) c_31) (ex_assign _ rfl _ (F.e rfl)) ?_; clear F a; intro a F
    refine wpList_nil ?_
    refine in_n ?_
    refine then_n ?_
    refine wp_region_lit ?_
    refine list_val F (wn rfl) rfl rfl (.int .i64 ((i : Nat) : Int)) (ex_move _ rfl _ (F.e rfl)) ?_; clear F a; intro a F
    refine list_val F (wn rfl) rfl rfl (.int .i64 ((i + 1 : Nat) : Int)) (ex_bin .add _ _ _ _ rfl .i64 _ _ (F.e rfl) rfl _ (b_add ((w_i64 (by omega) (by omega)).trans (by omega)))) ?_; clear F a; intro a F
    refine list_val F (wn rfl) rfl rfl (.int .i64 ((i + 1 : Nat) : Int)) (ex_assign _ rfl _ (F.e rfl)) ?_; clear F a; intro a F
    refine wpList_nil ?_
    refine then_n ?_
    exact ⟨xs.length - (i + 1), by omega, (i + 1), (out ++ [x]), A_31, c_31, ee, F.keep ⟨rfl, rfl, rfl, rfl, rfl, rfl, rfl, trivial⟩, (by refine M.pick' [] _ ?_ (by decide); exact trivial), SB, O_x, (by omega), hout2, hacc2, (by simp only [List.length_append, List.length_cons, List.length_nil]; omega), (by omega)⟩
   rw [Classical.not_not] at hg
   have hout2 := out_skip hout (by simpa using hg)
   by_cases hw : x.whole = true
   ·
    have hacc2 := acc_yes hacc hg hw
    refine wp_region_lit ?_
    refine list_val F (wn rfl) rfl rfl (.slice (some ad) xs.length c) (ex_move _ rfl _ (F.e rfl)) ?_; clear F a; intro a F
    refine list_val F (wn rfl) rfl rfl (.int .i64 ((i : Nat) : Int)) (ex_move _ rfl _ (F.e rfl)) ?_; clear F a; intro a F
    refine list_val F (wn rfl) rfl rfl (.pointer (some (ad.add (i * 19)))) (ex_ix _ _ _ rfl 19 s2_sl_57_19 ad _ _ (F.e rfl) .i64 _ (F.e rfl) i rfl (by omega) (ad.add (i * 19)) rfl) ?_; clear F a; intro a F
    refine list_val F (wn rfl) rfl rfl (.pointer (some ((ad.add (i * 19)).add 1))) (ex_fa _ _ _ rfl _ (F.e rfl) 1 s2_fa_85_1_1 ((ad.add (i * 19)).add 1) rfl) ?_; clear F a; intro a F
    refine list_val F (wn rfl) rfl rfl (.int .u64 x.grant) (ex_load _ _ rfl _ (F.e rfl) _ (lv1 s2_one_67 ((z.below M.bel).cell 1 _ (Rv.cs_1 _)))) ?_; clear F a; intro a F
    refine list_val F (wn rfl) rfl rfl (.int .u64 g) (ex_move _ rfl _ (F.e rfl)) ?_; clear F a; intro a F
    refine list_val F (wn rfl) rfl rfl (.bool false) (ex_bin .neq _ _ _ _ rfl .u64 _ _ (F.e rfl) (F.e rfl) _ (b_neq (by simp [hg]))) ?_; clear F a; intro a F
    refine wpList_nil ?_
    refine then_n ?_
    refine wp_cond_false (F.e rfl) ?_
    refine wp_seq ?_
    refine wp_region_lit ?_
    refine list_val F (wn rfl) rfl rfl (.slice (some ad) xs.length c) (ex_move _ rfl _ (F.e rfl)) ?_; clear F a; intro a F
    refine list_val F (wn rfl) rfl rfl (.int .i64 ((i : Nat) : Int)) (ex_move _ rfl _ (F.e rfl)) ?_; clear F a; intro a F
    refine list_val F (wn rfl) rfl rfl (.pointer (some (ad.add (i * 19)))) (ex_ix _ _ _ rfl 19 s2_sl_57_19 ad _ _ (F.e rfl) .i64 _ (F.e rfl) i rfl (by omega) (ad.add (i * 19)) rfl) ?_; clear F a; intro a F
    refine list_val F (wn rfl) rfl rfl (.pointer (some (ad.add (i * 19)))) (ex_fa _ _ _ rfl _ (F.e rfl) 0 s2_fa_85_0_0 (ad.add (i * 19)) rfl) ?_; clear F a; intro a F
    refine list_val F (wn rfl) rfl rfl (.bool true) (ex_load _ _ rfl _ (F.e rfl) _ (lv1 s2_one_4 ((z.below M.bel).cell 0 _ (Rv.cs_0e hw)))) ?_; clear F a; intro a F
    refine wpList_nil ?_
    refine then_n ?_
    refine wp_cond_true (F.e rfl) ?_
    refine wp_region_lit ?_
    refine list_val F (wn rfl) rfl rfl (.int .i64 ee) (ex_move _ rfl _ (F.e rfl)) ?_; clear F a; intro a F
    refine list_val F (wn rfl) rfl rfl (.slice (some ad) xs.length c) (ex_move _ rfl _ (F.e rfl)) ?_; clear F a; intro a F
    refine list_val F (wn rfl) rfl rfl (.int .i64 ((i : Nat) : Int)) (ex_move _ rfl _ (F.e rfl)) ?_; clear F a; intro a F
    refine list_val F (wn rfl) rfl rfl (.pointer (some (ad.add (i * 19)))) (ex_ix _ _ _ rfl 19 s2_sl_57_19 ad _ _ (F.e rfl) .i64 _ (F.e rfl) i rfl (by omega) (ad.add (i * 19)) rfl) ?_; clear F a; intro a F
    refine list_val F (wn rfl) rfl rfl (.pointer (some ((ad.add (i * 19)).add 18))) (ex_fa _ _ _ rfl _ (F.e rfl) 18 s2_fa_85_3_18 ((ad.add (i * 19)).add 18) rfl) ?_; clear F a; intro a F
    refine list_val F (wn rfl) rfl rfl (.int .i64 x.exp) (ex_load _ _ rfl _ (F.e rfl) _ (lv1 s2_one_2 ((z.below M.bel).cell 18 _ (Rv.cs_18 _)))) ?_; clear F a; intro a F
    refine list_do (wn rfl) (fun K hK => ?_)
    refine ow_call rfl rfl F 36 #[.int .i64 ee, .int .i64 x.exp] (ex_call 36 _ _ rfl rfl s2_ent_36 _ (map2 (F.e rfl) (F.e rfl))) (greater_any ee x.exp _) (fun e v hR => ?_)
    obtain ⟨he, hb⟩ := hR
    refine ⟨.int .i64 (max ee x.exp), he, ?_⟩; clear he F a; intro a F
    refine hK _ _ ?_
    clear hK K
    replace SB := Nat.le_trans SB hb.size
    replace O_x := O_x.below hb
    replace M := M.below hb; clear hb; try clear u
    refine list_val F (wn rfl) rfl rfl (.int .i64 (max ee x.exp)) (ex_assign _ rfl _ (F.e rfl)) ?_; clear F a; intro a F
    refine wpList_nil ?_
    refine in_n ?_
    refine then_n ?_
    refine wp_region_lit ?_
    refine list_val F (wn rfl) rfl rfl (.int .i64 ((i : Nat) : Int)) (ex_move _ rfl _ (F.e rfl)) ?_; clear F a; intro a F
    refine list_val F (wn rfl) rfl rfl (.int .i64 ((i + 1 : Nat) : Int)) (ex_bin .add _ _ _ _ rfl .i64 _ _ (F.e rfl) rfl _ (b_add ((w_i64 (by omega) (by omega)).trans (by omega)))) ?_; clear F a; intro a F
    refine list_val F (wn rfl) rfl rfl (.int .i64 ((i + 1 : Nat) : Int)) (ex_assign _ rfl _ (F.e rfl)) ?_; clear F a; intro a F
    refine wpList_nil ?_
    refine then_n ?_
    exact ⟨xs.length - (i + 1), by omega, (i + 1), out, B, b, (max ee x.exp), F.keep ⟨rfl, rfl, rfl, rfl, rfl, rfl, rfl, trivial⟩, (by refine M.pick' [] _ ?_ (by decide); exact trivial), SB, O_x, (by omega), hout2, hacc2, (by omega), (by omega)⟩
   have hacc2 := acc_no hacc (fun h_ => hw h_.2)
   refine wp_region_lit ?_
   refine list_val F (wn rfl) rfl rfl (.slice (some ad) xs.length c) (ex_move _ rfl _ (F.e rfl)) ?_; clear F a; intro a F
   refine list_val F (wn rfl) rfl rfl (.int .i64 ((i : Nat) : Int)) (ex_move _ rfl _ (F.e rfl)) ?_; clear F a; intro a F
   refine list_val F (wn rfl) rfl rfl (.pointer (some (ad.add (i * 19)))) (ex_ix _ _ _ rfl 19 s2_sl_57_19 ad _ _ (F.e rfl) .i64 _ (F.e rfl) i rfl (by omega) (ad.add (i * 19)) rfl) ?_; clear F a; intro a F
   refine list_val F (wn rfl) rfl rfl (.pointer (some ((ad.add (i * 19)).add 1))) (ex_fa _ _ _ rfl _ (F.e rfl) 1 s2_fa_85_1_1 ((ad.add (i * 19)).add 1) rfl) ?_; clear F a; intro a F
   refine list_val F (wn rfl) rfl rfl (.int .u64 x.grant) (ex_load _ _ rfl _ (F.e rfl) _ (lv1 s2_one_67 ((z.below M.bel).cell 1 _ (Rv.cs_1 _)))) ?_; clear F a; intro a F
   refine list_val F (wn rfl) rfl rfl (.int .u64 g) (ex_move _ rfl _ (F.e rfl)) ?_; clear F a; intro a F
   refine list_val F (wn rfl) rfl rfl (.bool false) (ex_bin .neq _ _ _ _ rfl .u64 _ _ (F.e rfl) (F.e rfl) _ (b_neq (by simp [hg]))) ?_; clear F a; intro a F
   refine wpList_nil ?_
   refine then_n ?_
   refine wp_cond_false (F.e rfl) ?_
   refine wp_seq ?_
   refine wp_region_lit ?_
   refine list_val F (wn rfl) rfl rfl (.slice (some ad) xs.length c) (ex_move _ rfl _ (F.e rfl)) ?_; clear F a; intro a F
   refine list_val F (wn rfl) rfl rfl (.int .i64 ((i : Nat) : Int)) (ex_move _ rfl _ (F.e rfl)) ?_; clear F a; intro a F
   refine list_val F (wn rfl) rfl rfl (.pointer (some (ad.add (i * 19)))) (ex_ix _ _ _ rfl 19 s2_sl_57_19 ad _ _ (F.e rfl) .i64 _ (F.e rfl) i rfl (by omega) (ad.add (i * 19)) rfl) ?_; clear F a; intro a F
   refine list_val F (wn rfl) rfl rfl (.pointer (some (ad.add (i * 19)))) (ex_fa _ _ _ rfl _ (F.e rfl) 0 s2_fa_85_0_0 (ad.add (i * 19)) rfl) ?_; clear F a; intro a F
   refine list_val F (wn rfl) rfl rfl (.bool false) (ex_load _ _ rfl _ (F.e rfl) _ (lv1 s2_one_4 ((z.below M.bel).cell 0 _ (Rv.cs_0e (Bool.eq_false_iff.2 hw))))) ?_; clear F a; intro a F
   refine wpList_nil ?_
   refine then_n ?_
   refine wp_cond_false (F.e rfl) ?_
   refine wp_skip ?_
   refine in_n ?_
   refine then_n ?_
   refine wp_region_lit ?_
   refine list_val F (wn rfl) rfl rfl (.int .i64 ((i : Nat) : Int)) (ex_move _ rfl _ (F.e rfl)) ?_; clear F a; intro a F
   refine list_val F (wn rfl) rfl rfl (.int .i64 ((i + 1 : Nat) : Int)) (ex_bin .add _ _ _ _ rfl .i64 _ _ (F.e rfl) rfl _ (b_add ((w_i64 (by omega) (by omega)).trans (by omega)))) ?_; clear F a; intro a F
   refine list_val F (wn rfl) rfl rfl (.int .i64 ((i + 1 : Nat) : Int)) (ex_assign _ rfl _ (F.e rfl)) ?_; clear F a; intro a F
   refine wpList_nil ?_
   replace F : Fr 49 a [(0, .slice (some ad) xs.length c), (1, .int .u64 g), (2, .int .i64 ee), (6, .slice none 0 0), (7, .slice B out.length b), (8, .int .i64 ((i + 1 : Nat) : Int)), (11, .bool false), (15, .bool true), (24, .bool false), (36, .bool false)] := F.keep ⟨rfl, rfl, rfl, rfl, rfl, rfl, rfl, rfl, rfl, rfl, trivial⟩
   refine then_n ?_
   exact ⟨xs.length - (i + 1), by omega, (i + 1), out, B, b, ee, F.keep ⟨rfl, rfl, rfl, rfl, rfl, rfl, rfl, trivial⟩, (by refine M.pick' [] _ ?_ (by decide); exact trivial), SB, O_x, (by omega), hout2, hacc2, (by omega), (by omega)⟩
  obtain rfl : i = xs.length := by omega
  rw [List.drop_length] at hacc hout
  have hacc : ee = accE g xs ep := hacc
  rw [List.filter_nil, List.append_nil] at hout
  refine wp_seq ?_
  refine wp_seq ?_
  refine wp_region_lit ?_
  refine list_val F (wn rfl) rfl rfl (.int .i64 ((xs.length : Nat) : Int)) (ex_move _ rfl _ (F.e rfl)) ?_; clear F a; intro a F
  refine list_val F (wn rfl) rfl rfl (.slice A xs.length c) (ex_move _ rfl _ (F.e rfl)) ?_; clear F a; intro a F
  refine list_val F (wn rfl) rfl rfl (.int .i64 ((xs.length : Nat) : Int)) (ex_len _ _ rfl 19 s2_sl_57_19 _ _ _ (F.e rfl)) ?_; clear F a; intro a F
  refine list_val F (wn rfl) rfl rfl (.bool false) (ex_bin .lss _ _ _ _ rfl .i64 _ _ (F.e rfl) (F.e rfl) _ (b_lss (decide_eq_false (by omega)))) ?_; clear F a; intro a F
  refine wpList_nil ?_
  refine then_n ?_
  refine wp_cond_false (F.e rfl) ?_
  refine wp_exit ?_
  refine then_x ?_
  refine then_x ?_
  refine in_hit ?_
  refine then_n ?_
  refine wp_seq ?_
  refine wp_region_lit ?_
  refine list_val F (wn rfl) rfl rfl (.slice B out.length b) (ex_move _ rfl _ (F.e rfl)) ?_; clear F a; intro a F
  refine list_val F (wn rfl) rfl rfl (.int .u64 g) (ex_move _ rfl _ (F.e rfl)) ?_; clear F a; intro a F
  refine list_val F (wn rfl) rfl rfl (.int .i64 ee) (ex_move _ rfl _ (F.e rfl)) ?_; clear F a; intro a F
  refine list_val F (wn rfl) rfl rfl (.agg ((⟨true, g, (zBs 16), ee⟩ : Rv).arr)) (ex_build 85 _ rfl #[(0, .bool true), (1, .int .u64 g), (3, .int .i64 ee)] (parts3 rfl (F.e rfl) (F.e rfl)) (.agg ((⟨true, g, (zBs 16), ee⟩ : Rv).arr)) (build85_013 true g ee _)) ?_; clear F a; intro a F
  refine list_do (wn rfl) (fun K hK => ?_)
  refine ow_call rfl rfl F 37 #[.slice B out.length b, .agg ((⟨true, g, (zBs 16), ee⟩ : Rv).arr)] (ex_call 37 _ _ rfl rfl s2_ent_37 _ (map2 (F.e rfl) (F.e rfl))) (laid_any out _ _ (⟨true, g, (zBs 16), ee⟩ : Rv) _ O_x.rd.1 (by omega)) (fun e v hR => ?_)
  obtain ⟨A_48, c_48, he, O_y, hb⟩ := hR
  replace O_y := O_y.low M.bel.size
  refine ⟨.slice A_48 ((layF (⟨true, g, (zBs 16), ee⟩ : Rv) false out).length) c_48, he, ?_⟩; clear he F a; intro a F
  refine hK _ _ ?_
  clear hK K
  replace SB := Nat.le_trans SB hb.size
  replace O_x := O_x.below hb
  replace M := M.below hb; clear hb; try clear u
  refine list_val F (wn rfl) rfl rfl (.slice A_48 ((layF (⟨true, g, (zBs 16), ee⟩ : Rv) false out).length) c_48) (ex_assign _ rfl _ (F.e rfl)) ?_; clear F a; intro a F
  refine wpList_nil ?_
  refine then_n ?_
  refine wp_ret ?_
  rw [killN_yes hL, ← hL.kill_lay, ← hacc, ← hout]
  exact ret_tmp F rfl rfl ⟨_, _, rfl, O_y, M.bel⟩
 refine wp_region_lit ?_
 refine list_val F (wn rfl) rfl rfl (.slice A xs.length c) (ex_move _ rfl _ (F.e rfl)) ?_; clear F a; intro a F
 refine list_do (wn rfl) (fun K hK => ?_)
 refine ow_call rfl rfl F 18 #[.slice A xs.length c] (ex_call 18 _ _ rfl rfl s2_ent_18 _ (map1 (F.e rfl))) (refCheck_n xs _ c _ (Kd.C_below hr M.bel) hmx) (fun e v hR => ?_)
 obtain ⟨he, hb⟩ := hR
 rw [chN_no hL] at he
 refine ⟨.int .i64 140, he, ?_⟩; clear he F a; intro a F
 refine hK _ _ ?_
 clear hK K
 replace M := M.below hb; clear hb; try clear w
 refine list_val F (wn rfl) rfl rfl (.bool true) (ex_bin .neq _ _ _ _ rfl .i64 _ _ (F.e rfl) rfl _ (b_neq (by simp))) ?_; clear F a; intro a F
 refine wpList_nil ?_
 refine then_n ?_
 refine wp_cond_true (F.e rfl) ?_
 refine wp_seq ?_
 refine wp_region_lit ?_
 refine list_val F (wn rfl) rfl rfl (.slice none 0 0) (ex_assign _ rfl _ rfl) ?_; clear F a; intro a F
 refine wpList_nil ?_
 refine then_n ?_
 refine wp_ret ?_
 refine then_r ?_
 rw [killN_no hL]
 exact ret_tmp F rfl rfl ⟨none, 0, rfl, Ow.nil kRv 85 _ _, M.bel⟩
set_option maxHeartbeats 1000000 in
set_option maxRecDepth 100000 in
theorem refPrune_w (xs : List Rv) (A : Option Addr) (c : Nat) (ep : Int) (w : World) (hr : kRv.C w A xs.length xs) (hmx : xs.length ≤ 1000000) :
    Calls Tryz.prog 23 #[.slice A xs.length c, .int .i64 ep] w fun r w' => ∃ A' c', r = .returned (.slice A' (pruneN xs ep).length c') ∧ Ow kRv 85 w' w.heap.size (.slice A' (pruneN xs ep).length c') (pruneN xs ep) ∧ Below w.heap.size w w' := by
 refine calls_start Tryz.func23 rfl rfl rfl (fun a F => ?_)
 have M : Mm w w [] := Mm.nil w
 refine wp_seq ?_
 refine wp_region_lit ?_
 refine list_val F (wn rfl) rfl rfl (.slice none 0 0) (ex_assign _ rfl _ rfl) ?_; clear F a; intro a F
 refine wpList_nil ?_
 refine then_n ?_
 refine wp_seq ?_
 refine wp_seq ?_
 by_cases hL : IsL xs
 ·
  refine wp_region_lit ?_
  refine list_val F (wn rfl) rfl rfl (.slice A xs.length c) (ex_move _ rfl _ (F.e rfl)) ?_; clear F a; intro a F
  refine list_do (wn rfl) (fun K hK => ?_)
  refine ow_call rfl rfl F 18 #[.slice A xs.length c] (ex_call 18 _ _ rfl rfl s2_ent_18 _ (map1 (F.e rfl))) (refCheck_n xs _ c _ (Kd.C_below hr M.bel) hmx) (fun e v hR => ?_)
  obtain ⟨he, hb⟩ := hR
  rw [chN_yes hL] at he
  refine ⟨.int .i64 0, he, ?_⟩; clear he F a; intro a F
  refine hK _ _ ?_
  clear hK K
  replace M := M.below hb; clear hb; try clear w
  refine list_val F (wn rfl) rfl rfl (.bool false) (ex_bin .neq _ _ _ _ rfl .i64 _ _ (F.e rfl) rfl _ (b_neq (by simp))) ?_; clear F a; intro a F
  refine wpList_nil ?_
  refine then_n ?_
  refine wp_cond_false (F.e rfl) ?_
  refine wp_skip ?_
  refine then_n ?_
  refine wp_seq ?_
  obtain ⟨bs, hbs⟩ : ∃ bs, bs = w.heap.size := ⟨_, rfl⟩
  have hw0 : w.heap.size ≤ bs := by omega
  have hw1 : bs ≤ w.heap.size := by omega
  have SB : bs ≤ v.heap.size := by rw [hbs]; exact M.bel.size
  refine wp_region_lit ?_
  refine list_val F (wn rfl) rfl rfl (.slice none 0 0) (ex_assign _ rfl _ rfl) ?_; clear F a; intro a F
  refine wpList_nil ?_
  refine then_n ?_
  refine wp_seq ?_
  refine wp_seq ?_
  refine wp_region_lit ?_
  refine list_val F (wn rfl) rfl rfl (.int .i64 0) (ex_assign _ rfl _ rfl) ?_; clear F a; intro a F
  refine wpList_nil ?_
  refine then_n ?_
  refine wp_block ?_
  refine wp_loopN (fun mq ar wr => ∃ (i : Nat), ∃ (out : List Rv), ∃ (B : Option Addr), ∃ (b : Nat), Fr 31 ar [(0, .slice A xs.length c), (1, .int .i64 ep), (4, .slice none 0 0), (5, .slice B out.length b), (6, .int .i64 ((i : Nat) : Int)), (9, .bool false)] ∧ Mm w wr [] ∧ bs ≤ wr.heap.size ∧ Ow kRv 85 wr bs (.slice B out.length b) out ∧ i ≤ xs.length ∧ out ++ (xs.drop i).filter (fun y => !decide (y.exp ≤ ep)) = xs.filter (fun y => !decide (y.exp ≤ ep)) ∧ out.length ≤ i ∧ mq + i = xs.length) xs.length ?_ ?_
  ·
   exact ⟨0, [], none, 0, F.keep ⟨rfl, rfl, rfl, rfl, rfl, rfl, trivial⟩, M, SB, (Ow.nil kRv 85 _ _), (Nat.zero_le _), (by rw [List.drop_zero]; rfl), (Nat.zero_le _), (by omega)⟩
  clear F M a SB
  rintro mq a u ⟨i, out, B, b, F, M, SB, O_x, hi, hout, hol, hq⟩; try clear v
  by_cases hin : i < xs.length
  ·
   obtain ⟨x, hx⟩ : ∃ x, xs[i]? = some x := ⟨_, List.getElem?_eq_getElem (by omega)⟩
   obtain ⟨ad, hA, z⟩ := C_ix hr hx
   subst hA
   rw [drop_cons hx] at hout
   refine wp_seq ?_
   refine wp_seq ?_
   refine wp_region_lit ?_
   refine list_val F (wn rfl) rfl rfl (.int .i64 ((i : Nat) : Int)) (ex_move _ rfl _ (F.e rfl)) ?_; clear F a; intro a F
   refine list_val F (wn rfl) rfl rfl (.slice (some ad) xs.length c) (ex_move _ rfl _ (F.e rfl)) ?_; clear F a; intro a F
   refine list_val F (wn rfl) rfl rfl (.int .i64 ((xs.length : Nat) : Int)) (ex_len _ _ rfl 19 s2_sl_57_19 _ _ _ (F.e rfl)) ?_; clear F a; intro a F
   refine list_val F (wn rfl) rfl rfl (.bool true) (ex_bin .lss _ _ _ _ rfl .i64 _ _ (F.e rfl) (F.e rfl) _ (b_lss (decide_eq_true (by omega)))) ?_; clear F a; intro a F
   refine wpList_nil ?_
   refine then_n ?_
   refine wp_cond_true (F.e rfl) ?_
   refine wp_skip ?_
   refine then_n ?_
   refine wp_seq ?_
   refine wp_block ?_
   refine wp_seq ?_
   by_cases hg : ep < x.exp
   ·
    have hout2 := out_snoc hout (by simp; omega)
    refine wp_region_lit ?_
    refine list_val F (wn rfl) rfl rfl (.slice (some ad) xs.length c) (ex_move _ rfl _ (F.e rfl)) ?_; clear F a; intro a F
    refine list_val F (wn rfl) rfl rfl (.int .i64 ((i : Nat) : Int)) (ex_move _ rfl _ (F.e rfl)) ?_; clear F a; intro a F
    refine list_val F (wn rfl) rfl rfl (.pointer (some (ad.add (i * 19)))) (ex_ix _ _ _ rfl 19 s2_sl_57_19 ad _ _ (F.e rfl) .i64 _ (F.e rfl) i rfl (by omega) (ad.add (i * 19)) rfl) ?_; clear F a; intro a F
    refine list_val F (wn rfl) rfl rfl (.pointer (some ((ad.add (i * 19)).add 18))) (ex_fa _ _ _ rfl _ (F.e rfl) 18 s2_fa_85_3_18 ((ad.add (i * 19)).add 18) rfl) ?_; clear F a; intro a F
    refine list_val F (wn rfl) rfl rfl (.int .i64 x.exp) (ex_load _ _ rfl _ (F.e rfl) _ (lv1 s2_one_2 ((z.below M.bel).cell 18 _ (Rv.cs_18 _)))) ?_; clear F a; intro a F
    refine list_val F (wn rfl) rfl rfl (.int .i64 ep) (ex_move _ rfl _ (F.e rfl)) ?_; clear F a; intro a F
    refine list_val F (wn rfl) rfl rfl (.bool true) (ex_bin .gtr _ _ _ _ rfl .i64 _ _ (F.e rfl) (F.e rfl) _ (b_gtr (decide_eq_true hg))) ?_; clear F a; intro a F
    refine wpList_nil ?_
    refine then_n ?_
    refine wp_cond_true (F.e rfl) ?_
    refine wp_region_lit ?_
    refine list_val F (wn rfl) rfl rfl (.slice B out.length b) (ex_move _ rfl _ (F.e rfl)) ?_; clear F a; intro a F
    refine list_val F (wn rfl) rfl rfl (.slice (some ad) xs.length c) (ex_move _ rfl _ (F.e rfl)) ?_; clear F a; intro a F
    refine list_val F (wn rfl) rfl rfl (.int .i64 ((i : Nat) : Int)) (ex_move _ rfl _ (F.e rfl)) ?_; clear F a; intro a F
    refine list_val F (wn rfl) rfl rfl (.pointer (some (ad.add (i * 19)))) (ex_ix _ _ _ rfl 19 s2_sl_57_19 ad _ _ (F.e rfl) .i64 _ (F.e rfl) i rfl (by omega) (ad.add (i * 19)) rfl) ?_; clear F a; intro a F
    refine list_val F (wn rfl) rfl rfl (.agg x.arr) (ex_load _ _ rfl _ (F.e rfl) _ (lrow85 x ((z.below M.bel)))) ?_; clear F a; intro a F
    refine list_do (wn rfl) (fun K hK => ?_)
    refine ow_bslice F M rfl rfl 57 1 _ rfl #[(0, .agg x.arr)] (parts1 (F.e rfl)) x.arr 85 (newrow85 x _) ?_
    clear F M a; intro a g28 v F M hb hg
    refine hK _ _ ?_
    clear hK K
    replace SB := Nat.le_trans SB hb.size
    replace O_x := O_x.below hb
    clear hb hg; try clear u
    refine list_do (wn rfl) (fun K hK => ?_)
    have hxx := C_one (enc := Rv.cs) (hl := Rv.cs_len) (h1 := Rv.cs_one) (M.at (i := 0) rfl)
    replace M : Mm w v [] := (by refine M.pick' [] _ ?_ (by decide); exact trivial)
    refine og_app F M Tryz.underlying57 i85 z85s (by decide) (by decide) hw0 SB trivial rfl rfl rfl _ _ rfl (.slice B out.length b) out ([x]) (out ++ [x]) rfl (some ⟨g28, 0, none⟩) 1 1 (F.e rfl) (F.e rfl) O_x (hxx) (by omega) ?_
    clear F a; have Mo := M; clear M; intro a A_29 c_29 u F M Oz hgr
    refine hK _ _ ?_
    clear hK K
    replace SB := Nat.le_trans SB hgr.size
    clear O_x Mo hgr; have O_x := Oz; clear Oz; try clear v
    clear hxx
    refine list_val F (wn rfl) rfl rfl (.slice A_29 ((out ++ [x]).length) c_29) (ex_assign _ rfl _ (F.e rfl)) ?_; clear F a; intro a F
    refine wpList_nil ?_
    refine in_n ?_
    refine then_n ?_
    refine wp_region_lit ?_
    refine list_val F (wn rfl) rfl rfl (.int .i64 ((i : Nat) : Int)) (ex_move _ rfl _ (F.e rfl)) ?_; clear F a; intro a F
    refine list_val F (wn rfl) rfl rfl (.int .i64 ((i + 1 : Nat) : Int)) (ex_bin .add _ _ _ _ rfl .i64 _ _ (F.e rfl) rfl _ (b_add ((w_i64 (by omega) (by omega)).trans (by omega)))) ?_; clear F a; intro a F
    refine list_val F (wn rfl) rfl rfl (.int .i64 ((i + 1 : Nat) : Int)) (ex_assign _ rfl _ (F.e rfl)) ?_; clear F a; intro a F
    refine wpList_nil ?_
    refine then_n ?_
    exact ⟨xs.length - (i + 1), by omega, (i + 1), (out ++ [x]), A_29, c_29, F.keep ⟨rfl, rfl, rfl, rfl, rfl, rfl, trivial⟩, (by refine M.pick' [] _ ?_ (by decide); exact trivial), SB, O_x, (by omega), hout2, (by simp only [List.length_append, List.length_cons, List.length_nil]; omega), (by omega)⟩
   have hout2 := out_skip hout (by simp; omega)
   refine wp_region_lit ?_
   refine list_val F (wn rfl) rfl rfl (.slice (some ad) xs.length c) (ex_move _ rfl _ (F.e rfl)) ?_; clear F a; intro a F
   refine list_val F (wn rfl) rfl rfl (.int .i64 ((i : Nat) : Int)) (ex_move _ rfl _ (F.e rfl)) ?_; clear F a; intro a F
   refine list_val F (wn rfl) rfl rfl (.pointer (some (ad.add (i * 19)))) (ex_ix _ _ _ rfl 19 s2_sl_57_19 ad _ _ (F.e rfl) .i64 _ (F.e rfl) i rfl (by omega) (ad.add (i * 19)) rfl) ?_; clear F a; intro a F
   refine list_val F (wn rfl) rfl rfl (.pointer (some ((ad.add (i * 19)).add 18))) (ex_fa _ _ _ rfl _ (F.e rfl) 18 s2_fa_85_3_18 ((ad.add (i * 19)).add 18) rfl) ?_; clear F a; intro a F
   refine list_val F (wn rfl) rfl rfl (.int .i64 x.exp) (ex_load _ _ rfl _ (F.e rfl) _ (lv1 s2_one_2 ((z.below M.bel).cell 18 _ (Rv.cs_18 _)))) ?_; clear F a; intro a F
   refine list_val F (wn rfl) rfl rfl (.int .i64 ep) (ex_move _ rfl _ (F.e rfl)) ?_; clear F a; intro a F
   refine list_val F (wn rfl) rfl rfl (.bool false) (ex_bin .gtr _ _ _ _ rfl .i64 _ _ (F.e rfl) (F.e rfl) _ (b_gtr (decide_eq_false hg))) ?_; clear F a; intro a F
   refine wpList_nil ?_
   refine then_n ?_
   refine wp_cond_false (F.e rfl) ?_
   refine wp_skip ?_
   refine in_n ?_
   refine then_n ?_
   refine wp_region_lit ?_
   refine list_val F (wn rfl) rfl rfl (.int .i64 ((i : Nat) : Int)) (ex_move _ rfl _ (F.e rfl)) ?_; clear F a; intro a F
   refine list_val F (wn rfl) rfl rfl (.int .i64 ((i + 1 : Nat) : Int)) (ex_bin .add _ _ _ _ rfl .i64 _ _ (F.e rfl) rfl _ (b_add ((w_i64 (by omega) (by omega)).trans (by omega)))) ?_; clear F a; intro a F
   refine list_val F (wn rfl) rfl rfl (.int .i64 ((i + 1 : Nat) : Int)) (ex_assign _ rfl _ (F.e rfl)) ?_; clear F a; intro a F
   refine wpList_nil ?_
   refine then_n ?_
   exact ⟨xs.length - (i + 1), by omega, (i + 1), out, B, b, F.keep ⟨rfl, rfl, rfl, rfl, rfl, rfl, trivial⟩, (by refine M.pick' [] _ ?_ (by decide); exact trivial), SB, O_x, (by omega), hout2, (by omega), (by omega)⟩
  obtain rfl : i = xs.length := by omega
  rw [List.drop_length] at hout
  rw [List.filter_nil, List.append_nil] at hout
  refine wp_seq ?_
  refine wp_seq ?_
  refine wp_region_lit ?_
  refine list_val F (wn rfl) rfl rfl (.int .i64 ((xs.length : Nat) : Int)) (ex_move _ rfl _ (F.e rfl)) ?_; clear F a; intro a F
  refine list_val F (wn rfl) rfl rfl (.slice A xs.length c) (ex_move _ rfl _ (F.e rfl)) ?_; clear F a; intro a F
  refine list_val F (wn rfl) rfl rfl (.int .i64 ((xs.length : Nat) : Int)) (ex_len _ _ rfl 19 s2_sl_57_19 _ _ _ (F.e rfl)) ?_; clear F a; intro a F
  refine list_val F (wn rfl) rfl rfl (.bool false) (ex_bin .lss _ _ _ _ rfl .i64 _ _ (F.e rfl) (F.e rfl) _ (b_lss (decide_eq_false (by omega)))) ?_; clear F a; intro a F
  refine wpList_nil ?_
  refine then_n ?_
  refine wp_cond_false (F.e rfl) ?_
  refine wp_exit ?_
  refine then_x ?_
  refine then_x ?_
  refine in_hit ?_
  refine then_n ?_
  refine wp_seq ?_
  refine wp_region_lit ?_
  refine list_val F (wn rfl) rfl rfl (.slice B out.length b) (ex_move _ rfl _ (F.e rfl)) ?_; clear F a; intro a F
  refine list_val F (wn rfl) rfl rfl (.slice B out.length b) (ex_assign _ rfl _ (F.e rfl)) ?_; clear F a; intro a F
  refine wpList_nil ?_
  refine then_n ?_
  refine wp_ret ?_
  rw [pruneN_yes hL, show pruneF xs ep = xs.filter (fun y => !decide (y.exp ≤ ep)) from rfl, ← hout]
  exact ret_tmp F rfl rfl ⟨_, _, rfl, O_x.low hw0, M.bel⟩
 refine wp_region_lit ?_
 refine list_val F (wn rfl) rfl rfl (.slice A xs.length c) (ex_move _ rfl _ (F.e rfl)) ?_; clear F a; intro a F
 refine list_do (wn rfl) (fun K hK => ?_)
 refine ow_call rfl rfl F 18 #[.slice A xs.length c] (ex_call 18 _ _ rfl rfl s2_ent_18 _ (map1 (F.e rfl))) (refCheck_n xs _ c _ (Kd.C_below hr M.bel) hmx) (fun e v hR => ?_)
 obtain ⟨he, hb⟩ := hR
 rw [chN_no hL] at he
 refine ⟨.int .i64 140, he, ?_⟩; clear he F a; intro a F
 refine hK _ _ ?_
 clear hK K
 replace M := M.below hb; clear hb; try clear w
 refine list_val F (wn rfl) rfl rfl (.bool true) (ex_bin .neq _ _ _ _ rfl .i64 _ _ (F.e rfl) rfl _ (b_neq (by simp))) ?_; clear F a; intro a F
 refine wpList_nil ?_
 refine then_n ?_
 refine wp_cond_true (F.e rfl) ?_
 refine wp_seq ?_
 refine wp_region_lit ?_
 refine list_val F (wn rfl) rfl rfl (.slice none 0 0) (ex_assign _ rfl _ rfl) ?_; clear F a; intro a F
 refine wpList_nil ?_
 refine then_n ?_
 refine wp_ret ?_
 refine then_r ?_
 rw [pruneN_no hL]
 exact ret_tmp F rfl rfl ⟨none, 0, rfl, Ow.nil kRv 85 _ _, M.bel⟩
set_option maxHeartbeats 1000000 in
set_option maxRecDepth 100000 in
theorem refHas_w (xs : List Rv) (A : Option Addr) (c : Nat) (g : Int) (id : Bs 16) (w : World) (hr : kRv.C w A xs.length xs) (hmx : xs.length ≤ 1000000) :
    Calls Tryz.prog 20 #[.slice A xs.length c, .int .u64 g, .agg id.cs.toArray] w fun r w' => r = .returned (.bool (hasN xs g id)) ∧ Below w.heap.size w w' := by
 refine calls_start Tryz.func20 rfl rfl rfl (fun a F => ?_)
 have M : Mm w w [] := Mm.nil w
 refine wp_seq ?_
 refine wp_region_lit ?_
 refine list_do (wn rfl) (fun K hK => ?_)
 refine ow_box F M rfl rfl 69 _ rfl _ (F.e rfl) id.cs.toArray rfl ?_
 clear F M a; intro a g5 v F M hb hg
 refine hK _ _ ?_
 clear hK K
 clear hb hg; try clear w
 refine list_val F (wn rfl) rfl rfl (.bool false) (ex_assign _ rfl _ rfl) ?_; clear F a; intro a F
 refine wpList_nil ?_
 refine then_n ?_
 refine wp_seq ?_
 refine wp_seq ?_
 by_cases hL : IsL xs
 ·
  refine wp_region_lit ?_
  refine list_val F (wn rfl) rfl rfl (.slice A xs.length c) (ex_move _ rfl _ (F.e rfl)) ?_; clear F a; intro a F
  refine list_do (wn rfl) (fun K hK => ?_)
  refine ow_call rfl rfl F 18 #[.slice A xs.length c] (ex_call 18 _ _ rfl rfl s2_ent_18 _ (map1 (F.e rfl))) (refCheck_n xs _ c _ (Kd.C_below hr M.bel) hmx) (fun e u hR => ?_)
  obtain ⟨he, hb⟩ := hR
  rw [chN_yes hL] at he
  refine ⟨.int .i64 0, he, ?_⟩; clear he F a; intro a F
  refine hK _ _ ?_
  clear hK K
  replace M := M.below hb; clear hb; try clear v
  refine list_val F (wn rfl) rfl rfl (.bool false) (ex_bin .neq _ _ _ _ rfl .i64 _ _ (F.e rfl) rfl _ (b_neq (by simp))) ?_; clear F a; intro a F
  refine wpList_nil ?_
  refine then_n ?_
  refine wp_cond_false (F.e rfl) ?_
  refine wp_skip ?_
  refine then_n ?_
  refine wp_seq ?_
  refine wp_seq ?_
  refine wp_region_lit ?_
  refine list_val F (wn rfl) rfl rfl (.int .i64 0) (ex_assign _ rfl _ rfl) ?_; clear F a; intro a F
  refine wpList_nil ?_
  refine then_n ?_
  refine wp_block ?_
  refine wp_loopN (fun mq ar wr => ∃ (i : Nat), Fr 40 ar [(0, .slice A xs.length c), (1, .int .u64 g), (2, .agg id.cs.toArray), (5, .pointer (some ⟨g5, 0, none⟩)), (6, .bool false), (7, .int .i64 ((i : Nat) : Int)), (10, .bool false)] ∧ Mm w wr [⟨g5, id.cs.toArray, 69⟩] ∧ i ≤ xs.length ∧ (∀ (j : Nat), j < i → ∀ y, xs[j]? = some y → y.grant = g → y.whole = false ∧ y.id ≠ id) ∧ mq + i = xs.length) xs.length ?_ ?_
  ·
   exact ⟨0, F.keep ⟨rfl, rfl, rfl, rfl, rfl, rfl, rfl, trivial⟩, M, (Nat.zero_le _), (fun j hj => absurd hj (Nat.not_lt_zero j)), (by omega)⟩
  clear F M a
  rintro mq a v ⟨i, F, M, hi, hno, hq⟩; try clear u
  by_cases hin : i < xs.length
  ·
   obtain ⟨x, hx⟩ : ∃ x, xs[i]? = some x := ⟨_, List.getElem?_eq_getElem (by omega)⟩
   obtain ⟨ad, hA, z⟩ := C_ix hr hx
   subst hA
   refine wp_seq ?_
   refine wp_seq ?_
   refine wp_region_lit ?_
   refine list_val F (wn rfl) rfl rfl (.int .i64 ((i : Nat) : Int)) (ex_move _ rfl _ (F.e rfl)) ?_; clear F a; intro a F
   refine list_val F (wn rfl) rfl rfl (.slice (some ad) xs.length c) (ex_move _ rfl _ (F.e rfl)) ?_; clear F a; intro a F
   refine list_val F (wn rfl) rfl rfl (.int .i64 ((xs.length : Nat) : Int)) (ex_len _ _ rfl 19 s2_sl_57_19 _ _ _ (F.e rfl)) ?_; clear F a; intro a F
   refine list_val F (wn rfl) rfl rfl (.bool true) (ex_bin .lss _ _ _ _ rfl .i64 _ _ (F.e rfl) (F.e rfl) _ (b_lss (decide_eq_true (by omega)))) ?_; clear F a; intro a F
   refine wpList_nil ?_
   refine then_n ?_
   refine wp_cond_true (F.e rfl) ?_
   refine wp_skip ?_
   refine then_n ?_
   refine wp_seq ?_
   refine wp_block ?_
   refine wp_seq ?_
   by_cases hg : x.grant = g
   ·
    by_cases hw : x.whole = true
    ·
     refine region_tail 22 s2_follows_mixedOrders (by kernel_rfl) M ?_; clear M; intro u M hb
     clear hb; try clear v
     refine still_val F (wn rfl) rfl rfl (.slice (some ad) xs.length c) (ex_move _ rfl _ (F.e rfl)) ?_; clear F a; intro a F
     refine still_val F (wn rfl) rfl rfl (.int .i64 ((i : Nat) : Int)) (ex_move _ rfl _ (F.e rfl)) ?_; clear F a; intro a F
     refine still_val F (wn rfl) rfl rfl (.pointer (some (ad.add (i * 19)))) (ex_ix _ _ _ rfl 19 s2_sl_57_19 ad _ _ (F.e rfl) .i64 _ (F.e rfl) i rfl (by omega) (ad.add (i * 19)) rfl) ?_; clear F a; intro a F
     refine still_val F (wn rfl) rfl rfl (.pointer (some ((ad.add (i * 19)).add 1))) (ex_fa _ _ _ rfl _ (F.e rfl) 1 s2_fa_85_1_1 ((ad.add (i * 19)).add 1) rfl) ?_; clear F a; intro a F
     refine still_val F (wn rfl) rfl rfl (.int .u64 x.grant) (ex_load _ _ rfl _ (F.e rfl) _ (lv1 s2_one_67 ((z.below M.bel).cell 1 _ (Rv.cs_1 _)))) ?_; clear F a; intro a F
     refine still_val F (wn rfl) rfl rfl (.int .u64 g) (ex_move _ rfl _ (F.e rfl)) ?_; clear F a; intro a F
     refine still_val F (wn rfl) rfl rfl (.bool true) (ex_bin .eql _ _ _ _ rfl .u64 _ _ (F.e rfl) (F.e rfl) _ (b_eql (by simp [hg]))) ?_; clear F a; intro a F
     refine still_val F (wn rfl) rfl rfl (.bool true) (ex_move _ rfl _ (F.e rfl)) ?_; clear F a; intro a F
     refine still_val F (F.wants 24 true rfl (by kernel_rfl) rfl true rfl) rfl rfl (.slice (some ad) xs.length c) (ex_move _ rfl _ (F.e rfl)) ?_; clear F a; intro a F
     refine still_val F (F.wants 24 true rfl (by kernel_rfl) rfl true rfl) rfl rfl (.int .i64 ((i : Nat) : Int)) (ex_move _ rfl _ (F.e rfl)) ?_; clear F a; intro a F
     refine still_val F (F.wants 24 true rfl (by kernel_rfl) rfl true rfl) rfl rfl (.pointer (some (ad.add (i * 19)))) (ex_ix _ _ _ rfl 19 s2_sl_57_19 ad _ _ (F.e rfl) .i64 _ (F.e rfl) i rfl (by omega) (ad.add (i * 19)) rfl) ?_; clear F a; intro a F
     refine still_val F (F.wants 24 true rfl (by kernel_rfl) rfl true rfl) rfl rfl (.pointer (some (ad.add (i * 19)))) (ex_fa _ _ _ rfl _ (F.e rfl) 0 s2_fa_85_0_0 (ad.add (i * 19)) rfl) ?_; clear F a; intro a F
     refine still_val F (F.wants 24 true rfl (by kernel_rfl) rfl true rfl) rfl rfl (.bool true) (ex_load _ _ rfl _ (F.e rfl) _ (lv1 s2_one_4 ((z.below M.bel).cell 0 _ (Rv.cs_0e hw)))) ?_; clear F a; intro a F
     refine still_val F (F.wants 24 true rfl (by kernel_rfl) rfl true rfl) rfl rfl (.bool true) (ex_move _ rfl _ (F.e rfl)) ?_; clear F a; intro a F
     refine still_skip F (F.wants 30 true rfl (by kernel_rfl) rfl false rfl) rfl rfl ?_; clear F a; intro a F
     refine still_skip F (F.wants 30 true rfl (by kernel_rfl) rfl false rfl) rfl rfl ?_; clear F a; intro a F
     refine still_skip F (F.wants 30 true rfl (by kernel_rfl) rfl false rfl) rfl rfl ?_; clear F a; intro a F
     refine still_skip F (F.wants 30 true rfl (by kernel_rfl) rfl false rfl) rfl rfl ?_; clear F a; intro a F
     refine still_skip F (F.wants 30 true rfl (by kernel_rfl) rfl false rfl) rfl rfl ?_; clear F a; intro a F
     refine still_skip F (F.wants 30 true rfl (by kernel_rfl) rfl false rfl) rfl rfl ?_; clear F a; intro a F
     refine still_skip F (F.wants 30 true rfl (by kernel_rfl) rfl false rfl) rfl rfl ?_; clear F a; intro a F
     refine still_val F (F.wants 24 true rfl (by kernel_rfl) rfl true rfl) rfl rfl (.bool true) (ex_pick_t _ _ _ rfl (F.e rfl) _ rfl) ?_; clear F a; intro a F
     refine still_end ?_
     refine list_val F (wn rfl) rfl rfl (.bool true) (ex_pick_t _ _ _ rfl (F.e rfl) _ (F.e rfl)) ?_; clear F a; intro a F
     refine wpList_nil ?_
     refine then_n ?_
     refine wp_cond_true (F.e rfl) ?_
     refine wp_seq ?_
     refine wp_region_lit ?_
     refine list_val F (wn rfl) rfl rfl (.bool true) (ex_assign _ rfl _ rfl) ?_; clear F a; intro a F
     refine wpList_nil ?_
     refine then_n ?_
     refine wp_ret ?_
     refine in_r ?_
     refine then_r ?_
     refine then_r ?_
     refine in_r ?_
     refine then_r ?_
     exact ret_tmp F rfl rfl ⟨by rw [hasN_yes hL, has_at hx hg (.inl hw)], M.bel⟩
    by_cases hid : x.id = id
    ·
     refine region_tail 22 s2_follows_mixedOrders (by kernel_rfl) M ?_; clear M; intro u M hb
     clear hb; try clear v
     refine still_val F (wn rfl) rfl rfl (.slice (some ad) xs.length c) (ex_move _ rfl _ (F.e rfl)) ?_; clear F a; intro a F
     refine still_val F (wn rfl) rfl rfl (.int .i64 ((i : Nat) : Int)) (ex_move _ rfl _ (F.e rfl)) ?_; clear F a; intro a F
     refine still_val F (wn rfl) rfl rfl (.pointer (some (ad.add (i * 19)))) (ex_ix _ _ _ rfl 19 s2_sl_57_19 ad _ _ (F.e rfl) .i64 _ (F.e rfl) i rfl (by omega) (ad.add (i * 19)) rfl) ?_; clear F a; intro a F
     refine still_val F (wn rfl) rfl rfl (.pointer (some ((ad.add (i * 19)).add 1))) (ex_fa _ _ _ rfl _ (F.e rfl) 1 s2_fa_85_1_1 ((ad.add (i * 19)).add 1) rfl) ?_; clear F a; intro a F
     refine still_val F (wn rfl) rfl rfl (.int .u64 x.grant) (ex_load _ _ rfl _ (F.e rfl) _ (lv1 s2_one_67 ((z.below M.bel).cell 1 _ (Rv.cs_1 _)))) ?_; clear F a; intro a F
     refine still_val F (wn rfl) rfl rfl (.int .u64 g) (ex_move _ rfl _ (F.e rfl)) ?_; clear F a; intro a F
     refine still_val F (wn rfl) rfl rfl (.bool true) (ex_bin .eql _ _ _ _ rfl .u64 _ _ (F.e rfl) (F.e rfl) _ (b_eql (by simp [hg]))) ?_; clear F a; intro a F
     refine still_val F (wn rfl) rfl rfl (.bool true) (ex_move _ rfl _ (F.e rfl)) ?_; clear F a; intro a F
     refine still_val F (F.wants 24 true rfl (by kernel_rfl) rfl true rfl) rfl rfl (.slice (some ad) xs.length c) (ex_move _ rfl _ (F.e rfl)) ?_; clear F a; intro a F
     refine still_val F (F.wants 24 true rfl (by kernel_rfl) rfl true rfl) rfl rfl (.int .i64 ((i : Nat) : Int)) (ex_move _ rfl _ (F.e rfl)) ?_; clear F a; intro a F
     refine still_val F (F.wants 24 true rfl (by kernel_rfl) rfl true rfl) rfl rfl (.pointer (some (ad.add (i * 19)))) (ex_ix _ _ _ rfl 19 s2_sl_57_19 ad _ _ (F.e rfl) .i64 _ (F.e rfl) i rfl (by omega) (ad.add (i * 19)) rfl) ?_; clear F a; intro a F
     refine still_val F (F.wants 24 true rfl (by kernel_rfl) rfl true rfl) rfl rfl (.pointer (some (ad.add (i * 19)))) (ex_fa _ _ _ rfl _ (F.e rfl) 0 s2_fa_85_0_0 (ad.add (i * 19)) rfl) ?_; clear F a; intro a F
     refine still_val F (F.wants 24 true rfl (by kernel_rfl) rfl true rfl) rfl rfl (.bool false) (ex_load _ _ rfl _ (F.e rfl) _ (lv1 s2_one_4 ((z.below M.bel).cell 0 _ (Rv.cs_0e (Bool.eq_false_iff.2 hw))))) ?_; clear F a; intro a F
     refine still_val F (F.wants 24 true rfl (by kernel_rfl) rfl true rfl) rfl rfl (.bool false) (ex_move _ rfl _ (F.e rfl)) ?_; clear F a; intro a F
     refine still_val F (F.wants 30 false rfl (by kernel_rfl) rfl true rfl) rfl rfl (.slice (some ad) xs.length c) (ex_move _ rfl _ (F.e rfl)) ?_; clear F a; intro a F
     refine still_val F (F.wants 30 false rfl (by kernel_rfl) rfl true rfl) rfl rfl (.int .i64 ((i : Nat) : Int)) (ex_move _ rfl _ (F.e rfl)) ?_; clear F a; intro a F
     refine still_val F (F.wants 30 false rfl (by kernel_rfl) rfl true rfl) rfl rfl (.pointer (some (ad.add (i * 19)))) (ex_ix _ _ _ rfl 19 s2_sl_57_19 ad _ _ (F.e rfl) .i64 _ (F.e rfl) i rfl (by omega) (ad.add (i * 19)) rfl) ?_; clear F a; intro a F
     refine still_val F (F.wants 30 false rfl (by kernel_rfl) rfl true rfl) rfl rfl (.pointer (some ((ad.add (i * 19)).add 2))) (ex_fa _ _ _ rfl _ (F.e rfl) 2 s2_fa_85_2_2 ((ad.add (i * 19)).add 2) rfl) ?_; clear F a; intro a F
     refine still_val F (F.wants 30 false rfl (by kernel_rfl) rfl true rfl) rfl rfl (.agg x.id.cs.toArray) (ex_load _ _ rfl _ (F.e rfl) _ (lrow69 x.id (Rv.id_at ((z.below M.bel))))) ?_; clear F a; intro a F
     refine still_val F (F.wants 30 false rfl (by kernel_rfl) rfl true rfl) rfl rfl (.agg id.cs.toArray) (ex_load _ _ rfl _ (F.e rfl) _ (lrow69 id (M.at (i := 0) rfl))) ?_; clear F a; intro a F
     refine still_val F (F.wants 30 false rfl (by kernel_rfl) rfl true rfl) rfl rfl (.bool true) (ex_eq69 _ _ _ rfl x.id id (F.e rfl) (F.e rfl) true (decide_eq_true hid)) ?_; clear F a; intro a F
     refine still_val F (F.wants 24 true rfl (by kernel_rfl) rfl true rfl) rfl rfl (.bool true) (ex_pick_f _ _ _ rfl (F.e rfl) _ (F.e rfl)) ?_; clear F a; intro a F
     refine still_end ?_
     refine list_val F (wn rfl) rfl rfl (.bool true) (ex_pick_t _ _ _ rfl (F.e rfl) _ (F.e rfl)) ?_; clear F a; intro a F
     refine wpList_nil ?_
     refine then_n ?_
     refine wp_cond_true (F.e rfl) ?_
     refine wp_seq ?_
     refine wp_region_lit ?_
     refine list_val F (wn rfl) rfl rfl (.bool true) (ex_assign _ rfl _ rfl) ?_; clear F a; intro a F
     refine wpList_nil ?_
     refine then_n ?_
     refine wp_ret ?_
     refine in_r ?_
     refine then_r ?_
     refine then_r ?_
     refine in_r ?_
     refine then_r ?_
     exact ret_tmp F rfl rfl ⟨by rw [hasN_yes hL, has_at hx hg (.inr hid)], M.bel⟩
    refine region_tail 22 s2_follows_mixedOrders (by kernel_rfl) M ?_; clear M; intro u M hb
    clear hb; try clear v
    refine still_val F (wn rfl) rfl rfl (.slice (some ad) xs.length c) (ex_move _ rfl _ (F.e rfl)) ?_; clear F a; intro a F
    refine still_val F (wn rfl) rfl rfl (.int .i64 ((i : Nat) : Int)) (ex_move _ rfl _ (F.e rfl)) ?_; clear F a; intro a F
    refine still_val F (wn rfl) rfl rfl (.pointer (some (ad.add (i * 19)))) (ex_ix _ _ _ rfl 19 s2_sl_57_19 ad _ _ (F.e rfl) .i64 _ (F.e rfl) i rfl (by omega) (ad.add (i * 19)) rfl) ?_; clear F a; intro a F
    refine still_val F (wn rfl) rfl rfl (.pointer (some ((ad.add (i * 19)).add 1))) (ex_fa _ _ _ rfl _ (F.e rfl) 1 s2_fa_85_1_1 ((ad.add (i * 19)).add 1) rfl) ?_; clear F a; intro a F
    refine still_val F (wn rfl) rfl rfl (.int .u64 x.grant) (ex_load _ _ rfl _ (F.e rfl) _ (lv1 s2_one_67 ((z.below M.bel).cell 1 _ (Rv.cs_1 _)))) ?_; clear F a; intro a F
    refine still_val F (wn rfl) rfl rfl (.int .u64 g) (ex_move _ rfl _ (F.e rfl)) ?_; clear F a; intro a F
    refine still_val F (wn rfl) rfl rfl (.bool true) (ex_bin .eql _ _ _ _ rfl .u64 _ _ (F.e rfl) (F.e rfl) _ (b_eql (by simp [hg]))) ?_; clear F a; intro a F
    refine still_val F (wn rfl) rfl rfl (.bool true) (ex_move _ rfl _ (F.e rfl)) ?_; clear F a; intro a F
    refine still_val F (F.wants 24 true rfl (by kernel_rfl) rfl true rfl) rfl rfl (.slice (some ad) xs.length c) (ex_move _ rfl _ (F.e rfl)) ?_; clear F a; intro a F
    refine still_val F (F.wants 24 true rfl (by kernel_rfl) rfl true rfl) rfl rfl (.int .i64 ((i : Nat) : Int)) (ex_move _ rfl _ (F.e rfl)) ?_; clear F a; intro a F
    refine still_val F (F.wants 24 true rfl (by kernel_rfl) rfl true rfl) rfl rfl (.pointer (some (ad.add (i * 19)))) (ex_ix _ _ _ rfl 19 s2_sl_57_19 ad _ _ (F.e rfl) .i64 _ (F.e rfl) i rfl (by omega) (ad.add (i * 19)) rfl) ?_; clear F a; intro a F
    refine still_val F (F.wants 24 true rfl (by kernel_rfl) rfl true rfl) rfl rfl (.pointer (some (ad.add (i * 19)))) (ex_fa _ _ _ rfl _ (F.e rfl) 0 s2_fa_85_0_0 (ad.add (i * 19)) rfl) ?_; clear F a; intro a F
    refine still_val F (F.wants 24 true rfl (by kernel_rfl) rfl true rfl) rfl rfl (.bool false) (ex_load _ _ rfl _ (F.e rfl) _ (lv1 s2_one_4 ((z.below M.bel).cell 0 _ (Rv.cs_0e (Bool.eq_false_iff.2 hw))))) ?_; clear F a; intro a F
    refine still_val F (F.wants 24 true rfl (by kernel_rfl) rfl true rfl) rfl rfl (.bool false) (ex_move _ rfl _ (F.e rfl)) ?_; clear F a; intro a F
    refine still_val F (F.wants 30 false rfl (by kernel_rfl) rfl true rfl) rfl rfl (.slice (some ad) xs.length c) (ex_move _ rfl _ (F.e rfl)) ?_; clear F a; intro a F
    refine still_val F (F.wants 30 false rfl (by kernel_rfl) rfl true rfl) rfl rfl (.int .i64 ((i : Nat) : Int)) (ex_move _ rfl _ (F.e rfl)) ?_; clear F a; intro a F
    refine still_val F (F.wants 30 false rfl (by kernel_rfl) rfl true rfl) rfl rfl (.pointer (some (ad.add (i * 19)))) (ex_ix _ _ _ rfl 19 s2_sl_57_19 ad _ _ (F.e rfl) .i64 _ (F.e rfl) i rfl (by omega) (ad.add (i * 19)) rfl) ?_; clear F a; intro a F
    refine still_val F (F.wants 30 false rfl (by kernel_rfl) rfl true rfl) rfl rfl (.pointer (some ((ad.add (i * 19)).add 2))) (ex_fa _ _ _ rfl _ (F.e rfl) 2 s2_fa_85_2_2 ((ad.add (i * 19)).add 2) rfl) ?_; clear F a; intro a F
    refine still_val F (F.wants 30 false rfl (by kernel_rfl) rfl true rfl) rfl rfl (.agg x.id.cs.toArray) (ex_load _ _ rfl _ (F.e rfl) _ (lrow69 x.id (Rv.id_at ((z.below M.bel))))) ?_; clear F a; intro a F
    refine still_val F (F.wants 30 false rfl (by kernel_rfl) rfl true rfl) rfl rfl (.agg id.cs.toArray) (ex_load _ _ rfl _ (F.e rfl) _ (lrow69 id (M.at (i := 0) rfl))) ?_; clear F a; intro a F
    refine still_val F (F.wants 30 false rfl (by kernel_rfl) rfl true rfl) rfl rfl (.bool false) (ex_eq69 _ _ _ rfl x.id id (F.e rfl) (F.e rfl) false (decide_eq_false hid)) ?_; clear F a; intro a F
    refine still_val F (F.wants 24 true rfl (by kernel_rfl) rfl true rfl) rfl rfl (.bool false) (ex_pick_f _ _ _ rfl (F.e rfl) _ (F.e rfl)) ?_; clear F a; intro a F
    refine still_end ?_
    refine list_val F (wn rfl) rfl rfl (.bool false) (ex_pick_t _ _ _ rfl (F.e rfl) _ (F.e rfl)) ?_; clear F a; intro a F
    refine wpList_nil ?_
    replace F : Fr 40 a [(0, .slice (some ad) xs.length c), (1, .int .u64 g), (2, .agg id.cs.toArray), (5, .pointer (some ⟨g5, 0, none⟩)), (6, .bool false), (7, .int .i64 ((i : Nat) : Int)), (10, .bool false), (14, .bool true), (39, .bool false)] := F.keep ⟨rfl, rfl, rfl, rfl, rfl, rfl, rfl, rfl, rfl, trivial⟩
    refine then_n ?_
    refine wp_cond_false (F.e rfl) ?_
    refine wp_skip ?_
    refine in_n ?_
    refine then_n ?_
    refine wp_region_lit ?_
    refine list_val F (wn rfl) rfl rfl (.int .i64 ((i : Nat) : Int)) (ex_move _ rfl _ (F.e rfl)) ?_; clear F a; intro a F
    refine list_val F (wn rfl) rfl rfl (.int .i64 ((i + 1 : Nat) : Int)) (ex_bin .add _ _ _ _ rfl .i64 _ _ (F.e rfl) rfl _ (b_add ((w_i64 (by omega) (by omega)).trans (by omega)))) ?_; clear F a; intro a F
    refine list_val F (wn rfl) rfl rfl (.int .i64 ((i + 1 : Nat) : Int)) (ex_assign _ rfl _ (F.e rfl)) ?_; clear F a; intro a F
    refine wpList_nil ?_
    refine then_n ?_
    exact ⟨xs.length - (i + 1), by omega, (i + 1), F.keep ⟨rfl, rfl, rfl, rfl, rfl, rfl, rfl, trivial⟩, (by refine M.pick' [0] _ ?_ (by decide); exact ⟨rfl, trivial⟩), (by omega), (fun j hj => (Nat.lt_or_eq_of_le (Nat.le_of_lt_succ hj)).elim (fun h_ => hno j h_) (fun h_ => by subst h_; exact (fun y hy _ => by obtain rfl := Option.some.inj (hx.symm.trans hy); exact ⟨Bool.eq_false_iff.2 hw, hid⟩))), (by omega)⟩
   refine region_tail 22 s2_follows_mixedOrders (by kernel_rfl) M ?_; clear M; intro u M hb
   clear hb; try clear v
   refine still_val F (wn rfl) rfl rfl (.slice (some ad) xs.length c) (ex_move _ rfl _ (F.e rfl)) ?_; clear F a; intro a F
   refine still_val F (wn rfl) rfl rfl (.int .i64 ((i : Nat) : Int)) (ex_move _ rfl _ (F.e rfl)) ?_; clear F a; intro a F
   refine still_val F (wn rfl) rfl rfl (.pointer (some (ad.add (i * 19)))) (ex_ix _ _ _ rfl 19 s2_sl_57_19 ad _ _ (F.e rfl) .i64 _ (F.e rfl) i rfl (by omega) (ad.add (i * 19)) rfl) ?_; clear F a; intro a F
   refine still_val F (wn rfl) rfl rfl (.pointer (some ((ad.add (i * 19)).add 1))) (ex_fa _ _ _ rfl _ (F.e rfl) 1 s2_fa_85_1_1 ((ad.add (i * 19)).add 1) rfl) ?_; clear F a; intro a F
   refine still_val F (wn rfl) rfl rfl (.int .u64 x.grant) (ex_load _ _ rfl _ (F.e rfl) _ (lv1 s2_one_67 ((z.below M.bel).cell 1 _ (Rv.cs_1 _)))) ?_; clear F a; intro a F
   refine still_val F (wn rfl) rfl rfl (.int .u64 g) (ex_move _ rfl _ (F.e rfl)) ?_; clear F a; intro a F
   refine still_val F (wn rfl) rfl rfl (.bool false) (ex_bin .eql _ _ _ _ rfl .u64 _ _ (F.e rfl) (F.e rfl) _ (b_eql (by simp [hg]))) ?_; clear F a; intro a F
   refine still_val F (wn rfl) rfl rfl (.bool false) (ex_move _ rfl _ (F.e rfl)) ?_; clear F a; intro a F
   refine still_skip F (F.wants 24 false rfl (by kernel_rfl) rfl false rfl) rfl rfl ?_; clear F a; intro a F
   refine still_skip F (F.wants 24 false rfl (by kernel_rfl) rfl false rfl) rfl rfl ?_; clear F a; intro a F
   refine still_skip F (F.wants 24 false rfl (by kernel_rfl) rfl false rfl) rfl rfl ?_; clear F a; intro a F
   refine still_skip F (F.wants 24 false rfl (by kernel_rfl) rfl false rfl) rfl rfl ?_; clear F a; intro a F
   refine still_skip F (F.wants 24 false rfl (by kernel_rfl) rfl false rfl) rfl rfl ?_; clear F a; intro a F
   refine still_skip F (F.wants 24 false rfl (by kernel_rfl) rfl false rfl) rfl rfl ?_; clear F a; intro a F
   refine still_skip F (F.wants0 30 rfl (by kernel_rfl) rfl) rfl rfl ?_; clear F a; intro a F
   refine still_skip F (F.wants0 30 rfl (by kernel_rfl) rfl) rfl rfl ?_; clear F a; intro a F
   refine still_skip F (F.wants0 30 rfl (by kernel_rfl) rfl) rfl rfl ?_; clear F a; intro a F
   refine still_skip F (F.wants0 30 rfl (by kernel_rfl) rfl) rfl rfl ?_; clear F a; intro a F
   refine still_skip F (F.wants0 30 rfl (by kernel_rfl) rfl) rfl rfl ?_; clear F a; intro a F
   refine still_skip F (F.wants0 30 rfl (by kernel_rfl) rfl) rfl rfl ?_; clear F a; intro a F
   refine still_skip F (F.wants0 30 rfl (by kernel_rfl) rfl) rfl rfl ?_; clear F a; intro a F
   refine still_skip F (F.wants 24 false rfl (by kernel_rfl) rfl false rfl) rfl rfl ?_; clear F a; intro a F
   refine still_end ?_
   refine list_val F (wn rfl) rfl rfl (.bool false) (ex_pick_f _ _ _ rfl (F.e rfl) _ rfl) ?_; clear F a; intro a F
   refine wpList_nil ?_
   refine then_n ?_
   refine wp_cond_false (F.e rfl) ?_
   refine wp_skip ?_
   refine in_n ?_
   refine then_n ?_
   refine wp_region_lit ?_
   refine list_val F (wn rfl) rfl rfl (.int .i64 ((i : Nat) : Int)) (ex_move _ rfl _ (F.e rfl)) ?_; clear F a; intro a F
   refine list_val F (wn rfl) rfl rfl (.int .i64 ((i + 1 : Nat) : Int)) (ex_bin .add _ _ _ _ rfl .i64 _ _ (F.e rfl) rfl _ (b_add ((w_i64 (by omega) (by omega)).trans (by omega)))) ?_; clear F a; intro a F
   refine list_val F (wn rfl) rfl rfl (.int .i64 ((i + 1 : Nat) : Int)) (ex_assign _ rfl _ (F.e rfl)) ?_; clear F a; intro a F
   refine wpList_nil ?_
   refine then_n ?_
   exact ⟨xs.length - (i + 1), by omega, (i + 1), F.keep ⟨rfl, rfl, rfl, rfl, rfl, rfl, rfl, trivial⟩, (by refine M.pick' [0] _ ?_ (by decide); exact ⟨rfl, trivial⟩), (by omega), (fun j hj => (Nat.lt_or_eq_of_le (Nat.le_of_lt_succ hj)).elim (fun h_ => hno j h_) (fun h_ => by subst h_; exact (fun y hy hyg => by obtain rfl := Option.some.inj (hx.symm.trans hy); exact absurd hyg hg))), (by omega)⟩
  refine wp_seq ?_
  refine wp_seq ?_
  refine wp_region_lit ?_
  refine list_val F (wn rfl) rfl rfl (.int .i64 ((i : Nat) : Int)) (ex_move _ rfl _ (F.e rfl)) ?_; clear F a; intro a F
  refine list_val F (wn rfl) rfl rfl (.slice A xs.length c) (ex_move _ rfl _ (F.e rfl)) ?_; clear F a; intro a F
  refine list_val F (wn rfl) rfl rfl (.int .i64 ((xs.length : Nat) : Int)) (ex_len _ _ rfl 19 s2_sl_57_19 _ _ _ (F.e rfl)) ?_; clear F a; intro a F
  refine list_val F (wn rfl) rfl rfl (.bool false) (ex_bin .lss _ _ _ _ rfl .i64 _ _ (F.e rfl) (F.e rfl) _ (b_lss (decide_eq_false (by omega)))) ?_; clear F a; intro a F
  refine wpList_nil ?_
  refine then_n ?_
  refine wp_cond_false (F.e rfl) ?_
  refine wp_exit ?_
  refine then_x ?_
  refine then_x ?_
  refine in_hit ?_
  refine then_n ?_
  refine wp_seq ?_
  refine wp_region_lit ?_
  refine list_val F (wn rfl) rfl rfl (.bool false) (ex_assign _ rfl _ rfl) ?_; clear F a; intro a F
  refine wpList_nil ?_
  refine then_n ?_
  refine wp_ret ?_
  exact ret_tmp F rfl rfl ⟨by rw [hasN_yes hL, has_none (fun j hj => hno j (by omega))], M.bel⟩
 refine wp_region_lit ?_
 refine list_val F (wn rfl) rfl rfl (.slice A xs.length c) (ex_move _ rfl _ (F.e rfl)) ?_; clear F a; intro a F
 refine list_do (wn rfl) (fun K hK => ?_)
 refine ow_call rfl rfl F 18 #[.slice A xs.length c] (ex_call 18 _ _ rfl rfl s2_ent_18 _ (map1 (F.e rfl))) (refCheck_n xs _ c _ (Kd.C_below hr M.bel) hmx) (fun e u hR => ?_)
 obtain ⟨he, hb⟩ := hR
 rw [chN_no hL] at he
 refine ⟨.int .i64 140, he, ?_⟩; clear he F a; intro a F
 refine hK _ _ ?_
 clear hK K
 replace M := M.below hb; clear hb; try clear v
 refine list_val F (wn rfl) rfl rfl (.bool true) (ex_bin .neq _ _ _ _ rfl .i64 _ _ (F.e rfl) rfl _ (b_neq (by simp))) ?_; clear F a; intro a F
 refine wpList_nil ?_
 refine then_n ?_
 refine wp_cond_true (F.e rfl) ?_
 refine wp_seq ?_
 refine wp_region_lit ?_
 refine list_val F (wn rfl) rfl rfl (.bool false) (ex_assign _ rfl _ rfl) ?_; clear F a; intro a F
 refine wpList_nil ?_
 refine then_n ?_
 refine wp_ret ?_
 refine then_r ?_
 exact ret_tmp F rfl rfl ⟨by rw [hasN_no hL], M.bel⟩
end Go.Proofs.YtnjbjjmoglogeaaGreat
