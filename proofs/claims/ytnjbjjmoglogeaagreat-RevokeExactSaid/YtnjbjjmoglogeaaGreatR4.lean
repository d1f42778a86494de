/- The walks of Add (6), Kill (8). Conditions: the list is read, and is a list. -/
import Derived.Test.YtnjbjjmoglogeaaGreatR3
namespace Go.Proofs.YtnjbjjmoglogeaaGreat
open Go.RowKit Go.Proofs.YtnjbjjmoglogeaaGreatW.PrintWords KB WG RO
set_option linter.unusedVariables false
set_option linter.unusedSimpArgs false
set_option linter.unnecessarySimpa false
theorem ex_max {P : Program} {op : Oper} {ρ : Operand → Value} {w : World} (x y : Operand) (T T' : TypeId) (ho : op.op = .call { callee := .builtin .max, args := #[x, y], argTypes := #[T, T'] }) (k : IntKind) (m n : Int) (hx : ρ x = .int k m) (hy : ρ y = .int k n) : (execOp ρ op).run P w = .ok (.value (.int k (max m n))) w := by
  have e : max m n = (if m < n then n else m) := by rw [Int.max_def]; split <;> split <;> omega
  rw [e]
  unfold execOp
  simp only [ho, resolve, List.map_toArray, List.map_cons, List.map_nil, hx, hy, Sem.run_bind, Sem.run_pure, Result.andThen_ok, invoke, builtin, run_max_int2]
theorem mm_of_bel {w0 w : World} (h : Below w0.heap.size w0 w) : Mm w0 w [] := ⟨h, fun _ _ h => by simp at h, fun _ _ h => by simp at h, fun _ _ _ _ h => by simp at h⟩
theorem M_sole {w0 w : World} {H : List Blk} (M : Mm w0 w H) {g : Nat} {cs : Array Value} {t : TypeId} (hg : w0.heap.size ≤ g) (hh : w.heap[g]? = some (.cells cs t (0, 0))) : Mm w0 w [⟨g, cs, t⟩] where
  bel := M.bel
  blk := fun i b h => by
    match i, h with
    | 0, h => obtain rfl := Option.some.inj h; exact hh
    | i + 1, h => simp at h
  lo := fun i b h => by
    match i, h with
    | 0, h => obtain rfl := Option.some.inj h; exact hg
    | i + 1, h => simp at h
  nd := fun i j b c hi hj _ => by
    have h1 := (List.getElem?_eq_some_iff.1 hi).1
    have h2 := (List.getElem?_eq_some_iff.1 hj).1
    simp at h1 h2
    omega
theorem add_whole {l : List Rv} {g : Int} {id : Bs 16} {e : Int} (h : wholeF l g = true) : addF l g id e = l := by unfold addF; rw [if_pos h]
theorem IsL.kill_eq {l : List Rv} (h : IsL l) {g e e' : Int} (he : e' = if wholeF l g then maxE (mid l g) e else e) : l.take (nF l g) ++ [⟨true, g, zBs 16, e'⟩] ++ l.drop (nT l g) = killF l g e := by
  subst he
  unfold killF
  rw [(h.cF g).1, (h.cT g).2.1]
theorem IsL.nQ_at {l : List Rv} (h : IsL l) {g : Int} {id : Bs 16} {y : Rv} (hy : l[nQ l (kx g id)]? = some y) (hq : nQ l (kx g id) < nT l g) : y.grant = g := by
  have h1 := (h.cT g).2.2 _ _ hy
  have h2 := (h.cF g).2.2 _ _ hy
  have h3 := nF_nQ l g id
  unfold pT at h1
  unfold pF at h2
  rw [decide_eq_decide] at h1 h2
  omega
theorem IsL.nQ_end {l : List Rv} (h : IsL l) {g : Int} {id : Bs 16} {y : Rv} (hy : l[nQ l (kx g id)]? = some y) (hq : ¬ nQ l (kx g id) < nT l g) : y.grant ≠ g := by
  have h1 := (h.cT g).2.2 _ _ hy
  unfold pT at h1
  rw [decide_eq_decide] at h1
  omega
theorem r4_ent_17 : ent? Tryz.prog 17 = true := by kernel_rfl
theorem r4_ent_38 : ent? Tryz.prog 38 = true := by kernel_rfl
theorem r4_ent_33 : ent? Tryz.prog 33 = true := by kernel_rfl
theorem r4_sl_57_19 : sl? Tryz.prog 57 19 = true := by kernel_rfl
theorem r4_fa_85_0_0 : fa? Tryz.prog 85 0 0 = true := by kernel_rfl
theorem r4_one_4 : one? Tryz.prog 4 = true := by kernel_rfl
theorem r4_ent_39 : ent? Tryz.prog 39 = true := by kernel_rfl
theorem r4_follows_mixedOrders : Tryz.prog.follows .mixedOrders = true := by kernel_rfl
theorem r4_fa_85_2_2 : fa? Tryz.prog 85 2 2 = true := by kernel_rfl
theorem r4_fa_85_3_18 : fa? Tryz.prog 85 3 18 = true := by kernel_rfl
theorem r4_one_2 : one? Tryz.prog 2 = true := by kernel_rfl
theorem r4_info_2_map_size_some_1 : (Tryz.prog.info? 2).map (·.size) = some 1 := by kernel_rfl
theorem r4_ent_41 : ent? Tryz.prog 41 = true := by kernel_rfl
set_option maxHeartbeats 1000000 in
set_option maxRecDepth 100000 in
theorem add_any (xs : List Rv) (h : IsL xs) (A : Option Addr) (c : Nat) (g : Int) (id : Bs 16) (ep : Int) (w : World) (hr : kRv.C w A xs.length xs) (hc : xs.length ≤ c) (hmx : xs.length ≤ 1000000) :
    Calls Tryz.prog 24 #[.slice A xs.length c, .int .u64 g, .agg id.cs.toArray, .int .i64 ep] w fun r w' => ∃ A' c', r = .returned (.slice A' (addF xs g id ep).length c') ∧ Ow kRv 85 w' w.heap.size (.slice A' (addF xs g id ep).length c') (addF xs g id ep) ∧ Below w.heap.size w w' := by
 have hft := nF_le xs g
 have htl := nT_le xs g
 have hfq := nF_nQ xs g id
 have hqt0 := nQ_nT xs g id
 refine calls_start Tryz.func24 rfl rfl rfl (fun a F => ?_)
 have M : Mm w w [] := Mm.nil w
 refine wp_seq ?_
 refine wp_region_lit ?_
 refine list_do (wn rfl) (fun K hK => ?_)
 refine ow_box F M rfl rfl 69 _ rfl _ (F.e rfl) id.cs.toArray rfl ?_
 clear F M a; intro a g6 v F M hb hg
 refine hK _ _ ?_
 clear hK K
 clear hb hg; try clear w
 refine list_val F (wn rfl) rfl rfl (.slice none 0 0) (ex_assign _ rfl _ rfl) ?_; clear F a; intro a F
 refine wpList_nil ?_
 replace F : Fr 77 a [(0, .slice A xs.length c), (1, .int .u64 g), (2, .agg id.cs.toArray), (3, .int .i64 ep), (6, .pointer (some ⟨g6, 0, none⟩)), (8, .slice none 0 0)] := F.keep ⟨rfl, rfl, rfl, rfl, rfl, rfl, trivial⟩
 refine then_n ?_
 refine wp_seq ?_
 refine wp_seq ?_
 refine wp_region_lit ?_
 refine list_val F (wn rfl) rfl rfl (.slice A xs.length c) (ex_move _ rfl _ (F.e rfl)) ?_; clear F a; intro a F
 refine list_do (wn rfl) (fun K hK => ?_)
 refine ow_call rfl rfl F 17 #[.slice A xs.length c] (ex_call 17 _ _ rfl rfl r4_ent_17 _ (map1 (F.e rfl))) (check_any xs h A c _ ((Kd.C_below hr M.bel)) (by omega)) (fun e u hR => ?_)
 obtain ⟨he, hb⟩ := hR
 refine ⟨.int .i64 0, he, ?_⟩; clear he F a; intro a F
 refine hK _ _ ?_
 clear hK K
 replace M := M.below hb; clear hb; try clear v
 refine list_val F (wn rfl) rfl rfl (.bool false) (ex_bin .neq _ _ _ _ rfl .i64 _ _ (F.e rfl) rfl _ (b_neq (by decide))) ?_; clear F a; intro a F
 refine wpList_nil ?_
 replace F : Fr 77 a [(0, .slice A xs.length c), (1, .int .u64 g), (2, .agg id.cs.toArray), (3, .int .i64 ep), (6, .pointer (some ⟨g6, 0, none⟩)), (8, .slice none 0 0), (16, .bool false)] := F.keep ⟨rfl, rfl, rfl, rfl, rfl, rfl, rfl, trivial⟩
 refine then_n ?_
 refine wp_cond_false (F.e rfl) ?_
 refine wp_skip ?_
 refine then_n ?_
 refine wp_seq ?_
 refine wp_region_lit ?_
 refine list_val F (wn rfl) rfl rfl (.slice A xs.length c) (ex_move _ rfl _ (F.e rfl)) ?_; clear F a; intro a F
 refine list_do (wn rfl) (fun K hK => ?_)
 refine ow_call rfl rfl F 38 #[.slice A xs.length c] (ex_call 38 _ _ rfl rfl r4_ent_38 _ (map1 (F.e rfl))) (clone_any xs _ _ _ _ ((Kd.C_below hr M.bel)) (by omega)) (fun e v hR => ?_)
 obtain ⟨A_18, c_18, he, O_x, hb⟩ := hR
 replace O_x := O_x.low M.bel.size
 have hcl_18 := O_x.rd.2.2
 refine ⟨.slice A_18 xs.length c_18, he, ?_⟩; clear he F a; intro a F
 refine hK _ _ ?_
 clear hK K
 replace M := M.below hb; clear hb; try clear u
 refine list_val F (wn rfl) rfl rfl (.slice A_18 xs.length c_18) (ex_assign _ rfl _ (F.e rfl)) ?_; clear F a; intro a F
 refine wpList_nil ?_
 replace F : Fr 77 a [(0, .slice A xs.length c), (1, .int .u64 g), (2, .agg id.cs.toArray), (3, .int .i64 ep), (6, .pointer (some ⟨g6, 0, none⟩)), (8, .slice none 0 0), (9, .slice A_18 xs.length c_18), (16, .bool false)] := F.keep ⟨rfl, rfl, rfl, rfl, rfl, rfl, rfl, rfl, trivial⟩
 refine then_n ?_
 refine wp_seq ?_
 refine wp_region_lit ?_
 refine list_val F (wn rfl) rfl rfl (.slice A_18 xs.length c_18) (ex_move _ rfl _ (F.e rfl)) ?_; clear F a; intro a F
 refine list_val F (wn rfl) rfl rfl (.int .u64 g) (ex_move _ rfl _ (F.e rfl)) ?_; clear F a; intro a F
 refine list_do (wn rfl) (fun K hK => ?_)
 refine ow_call rfl rfl F 33 #[.slice A_18 xs.length c_18, .int .u64 g] (ex_call 33 _ _ rfl rfl r4_ent_33 _ (map2 (F.e rfl) (F.e rfl))) (grants_any xs h A_18 c_18 g _ (O_x.rd.1) O_x.rd.2.2 (by omega)) (fun e u hR => ?_)
 obtain ⟨he, hb⟩ := hR
 refine ⟨.tuple #[.int .i64 ((nF xs g : Nat) : Int), .int .i64 ((nT xs g : Nat) : Int)], he, ?_⟩; clear he F a; intro a F
 refine hK _ _ ?_
 clear hK K
 replace O_x := O_x.below hb
 replace M := M.below hb; clear hb; try clear v
 refine list_val F (wn rfl) rfl rfl (.tuple #[.int .i64 ((nF xs g : Nat) : Int), .int .i64 ((nT xs g : Nat) : Int)]) (ex_move _ rfl _ (F.e rfl)) ?_; clear F a; intro a F
 refine list_val F (wn rfl) rfl rfl (.int .i64 ((nF xs g : Nat) : Int)) (ex_extract _ _ rfl _ (F.e rfl) _ rfl) ?_; clear F a; intro a F
 refine list_val F (wn rfl) rfl rfl (.int .i64 ((nT xs g : Nat) : Int)) (ex_extract _ _ rfl _ (F.e rfl) _ rfl) ?_; clear F a; intro a F
 refine list_val F (wn rfl) rfl rfl (.int .i64 ((nF xs g : Nat) : Int)) (ex_assign _ rfl _ (F.e rfl)) ?_; clear F a; intro a F
 refine list_val F (wn rfl) rfl rfl (.int .i64 ((nT xs g : Nat) : Int)) (ex_assign _ rfl _ (F.e rfl)) ?_; clear F a; intro a F
 refine wpList_nil ?_
 replace F : Fr 77 a [(0, .slice A xs.length c), (1, .int .u64 g), (2, .agg id.cs.toArray), (3, .int .i64 ep), (6, .pointer (some ⟨g6, 0, none⟩)), (8, .slice none 0 0), (9, .slice A_18 xs.length c_18), (10, .int .i64 ((nF xs g : Nat) : Int)), (11, .int .i64 ((nT xs g : Nat) : Int)), (16, .bool false)] := F.keep ⟨rfl, rfl, rfl, rfl, rfl, rfl, rfl, rfl, rfl, rfl, trivial⟩
 refine then_n ?_
 refine wp_seq ?_
 refine wp_seq ?_
 by_cases hft2 : nF xs g < nT xs g
 ·
  obtain ⟨x, hx⟩ : ∃ x, xs[(nF xs g)]? = some x := ⟨_, List.getElem?_eq_getElem (by omega)⟩
  obtain ⟨ad, hA, z⟩ := C_ix O_x.rd.1 hx
  subst hA
  have hwa := h.whole_at hft2 hx
  by_cases hw : x.whole = true
  ·
   have hadd := add_whole (id := id) (e := ep) (hwa.2.1.trans hw)
   refine wp_region_lit ?_
   refine list_val F (wn rfl) rfl rfl (.int .i64 ((nT xs g : Nat) : Int)) (ex_move _ rfl _ (F.e rfl)) ?_; clear F a; intro a F
   refine list_val F (wn rfl) rfl rfl (.int .i64 ((nF xs g : Nat) : Int)) (ex_move _ rfl _ (F.e rfl)) ?_; clear F a; intro a F
   refine list_val F (wn rfl) rfl rfl (.bool true) (ex_bin .gtr _ _ _ _ rfl .i64 _ _ (F.e rfl) (F.e rfl) _ (b_gtr (decide_eq_true (by omega)))) ?_; clear F a; intro a F
   refine list_val F (wn rfl) rfl rfl (.bool true) (ex_move _ rfl _ (F.e rfl)) ?_; clear F a; intro a F
   refine list_val F (F.wants 28 true rfl (by kernel_rfl) rfl true rfl) rfl rfl (.slice (some ad) xs.length c_18) (ex_move _ rfl _ (F.e rfl)) ?_; clear F a; intro a F
   refine list_val F (F.wants 28 true rfl (by kernel_rfl) rfl true rfl) rfl rfl (.int .i64 ((nF xs g : Nat) : Int)) (ex_move _ rfl _ (F.e rfl)) ?_; clear F a; intro a F
   refine list_val F (F.wants 28 true rfl (by kernel_rfl) rfl true rfl) rfl rfl (.pointer (some (ad.add ((nF xs g) * 19)))) (ex_ix _ _ _ rfl 19 r4_sl_57_19 ad _ _ (F.e rfl) .i64 _ (F.e rfl) (nF xs g) rfl (by omega) (ad.add ((nF xs g) * 19)) rfl) ?_; clear F a; intro a F
   refine list_val F (F.wants 28 true rfl (by kernel_rfl) rfl true rfl) rfl rfl (.pointer (some (ad.add ((nF xs g) * 19)))) (ex_fa _ _ _ rfl _ (F.e rfl) 0 r4_fa_85_0_0 (ad.add ((nF xs g) * 19)) rfl) ?_; clear F a; intro a F
   refine list_val F (F.wants 28 true rfl (by kernel_rfl) rfl true rfl) rfl rfl (.bool true) (ex_load _ _ rfl _ (F.e rfl) _ (lv1 r4_one_4 (z.cell 0 _ (Rv.cs_0e hw)))) ?_; clear F a; intro a F
   refine list_val F (wn rfl) rfl rfl (.bool true) (ex_pick_t _ _ _ rfl (F.e rfl) _ (F.e rfl)) ?_; clear F a; intro a F
   refine wpList_nil ?_
   replace F : Fr 77 a [(0, .slice A xs.length c), (1, .int .u64 g), (2, .agg id.cs.toArray), (3, .int .i64 ep), (6, .pointer (some ⟨g6, 0, none⟩)), (8, .slice none 0 0), (9, .slice (some ad) xs.length c_18), (10, .int .i64 ((nF xs g : Nat) : Int)), (11, .int .i64 ((nT xs g : Nat) : Int)), (16, .bool false), (34, .bool true)] := F.keep ⟨rfl, rfl, rfl, rfl, rfl, rfl, rfl, rfl, rfl, rfl, rfl, trivial⟩
   refine then_n ?_
   refine wp_cond_true (F.e rfl) ?_
   refine wp_seq ?_
   refine wp_region_lit ?_
   refine list_val F (wn rfl) rfl rfl (.slice (some ad) xs.length c_18) (ex_move _ rfl _ (F.e rfl)) ?_; clear F a; intro a F
   refine list_val F (wn rfl) rfl rfl (.slice (some ad) xs.length c_18) (ex_assign _ rfl _ (F.e rfl)) ?_; clear F a; intro a F
   refine wpList_nil ?_
   replace F : Fr 77 a [(0, .slice A xs.length c), (1, .int .u64 g), (2, .agg id.cs.toArray), (3, .int .i64 ep), (6, .pointer (some ⟨g6, 0, none⟩)), (8, .slice (some ad) xs.length c_18), (9, .slice (some ad) xs.length c_18), (10, .int .i64 ((nF xs g : Nat) : Int)), (11, .int .i64 ((nT xs g : Nat) : Int)), (16, .bool false), (34, .bool true)] := F.keep ⟨rfl, rfl, rfl, rfl, rfl, rfl, rfl, rfl, rfl, rfl, rfl, trivial⟩
   refine then_n ?_
   refine wp_ret ?_
   refine then_r ?_
   rw [hadd]
   exact ret_tmp F rfl rfl ⟨_, _, rfl, O_x, M.bel⟩
  have hwf := hwa.2.1.trans (Bool.eq_false_iff.2 hw)
  refine wp_region_lit ?_
  refine list_val F (wn rfl) rfl rfl (.int .i64 ((nT xs g : Nat) : Int)) (ex_move _ rfl _ (F.e rfl)) ?_; clear F a; intro a F
  refine list_val F (wn rfl) rfl rfl (.int .i64 ((nF xs g : Nat) : Int)) (ex_move _ rfl _ (F.e rfl)) ?_; clear F a; intro a F
  refine list_val F (wn rfl) rfl rfl (.bool true) (ex_bin .gtr _ _ _ _ rfl .i64 _ _ (F.e rfl) (F.e rfl) _ (b_gtr (decide_eq_true (by omega)))) ?_; clear F a; intro a F
  refine list_val F (wn rfl) rfl rfl (.bool true) (ex_move _ rfl _ (F.e rfl)) ?_; clear F a; intro a F
  refine list_val F (F.wants 28 true rfl (by kernel_rfl) rfl true rfl) rfl rfl (.slice (some ad) xs.length c_18) (ex_move _ rfl _ (F.e rfl)) ?_; clear F a; intro a F
  refine list_val F (F.wants 28 true rfl (by kernel_rfl) rfl true rfl) rfl rfl (.int .i64 ((nF xs g : Nat) : Int)) (ex_move _ rfl _ (F.e rfl)) ?_; clear F a; intro a F
  refine list_val F (F.wants 28 true rfl (by kernel_rfl) rfl true rfl) rfl rfl (.pointer (some (ad.add ((nF xs g) * 19)))) (ex_ix _ _ _ rfl 19 r4_sl_57_19 ad _ _ (F.e rfl) .i64 _ (F.e rfl) (nF xs g) rfl (by omega) (ad.add ((nF xs g) * 19)) rfl) ?_; clear F a; intro a F
  refine list_val F (F.wants 28 true rfl (by kernel_rfl) rfl true rfl) rfl rfl (.pointer (some (ad.add ((nF xs g) * 19)))) (ex_fa _ _ _ rfl _ (F.e rfl) 0 r4_fa_85_0_0 (ad.add ((nF xs g) * 19)) rfl) ?_; clear F a; intro a F
  refine list_val F (F.wants 28 true rfl (by kernel_rfl) rfl true rfl) rfl rfl (.bool false) (ex_load _ _ rfl _ (F.e rfl) _ (lv1 r4_one_4 (z.cell 0 _ (Rv.cs_0e (Bool.eq_false_iff.2 hw))))) ?_; clear F a; intro a F
  refine list_val F (wn rfl) rfl rfl (.bool false) (ex_pick_t _ _ _ rfl (F.e rfl) _ (F.e rfl)) ?_; clear F a; intro a F
  refine wpList_nil ?_
  replace F : Fr 77 a [(0, .slice A xs.length c), (1, .int .u64 g), (2, .agg id.cs.toArray), (3, .int .i64 ep), (6, .pointer (some ⟨g6, 0, none⟩)), (8, .slice none 0 0), (9, .slice (some ad) xs.length c_18), (10, .int .i64 ((nF xs g : Nat) : Int)), (11, .int .i64 ((nT xs g : Nat) : Int)), (16, .bool false), (34, .bool false)] := F.keep ⟨rfl, rfl, rfl, rfl, rfl, rfl, rfl, rfl, rfl, rfl, rfl, trivial⟩
  refine then_n ?_
  refine wp_cond_false (F.e rfl) ?_
  refine wp_skip ?_
  refine then_n ?_
  refine wp_seq ?_
  clear z hx
  refine wp_region_lit ?_
  refine list_val F (wn rfl) rfl rfl (.int .u64 g) (ex_move _ rfl _ (F.e rfl)) ?_; clear F a; intro a F
  refine list_val F (wn rfl) rfl rfl (.agg id.cs.toArray) (ex_load _ _ rfl _ (F.e rfl) _ (lrow69 id (M.at (i := 0) rfl))) ?_; clear F a; intro a F
  refine list_val F (wn rfl) rfl rfl (.int .i64 ep) (ex_move _ rfl _ (F.e rfl)) ?_; clear F a; intro a F
  refine list_val F (wn rfl) rfl rfl (.agg ((⟨false, g, id, ep⟩ : Rv).arr)) (ex_build 85 _ rfl #[(1, .int .u64 g), (2, .agg id.cs.toArray), (3, .int .i64 ep)] (parts3 (F.e rfl) (F.e rfl) (F.e rfl)) (.agg ((⟨false, g, id, ep⟩ : Rv).arr)) (build85_123 g id ep _)) ?_; clear F a; intro a F
  refine list_do (wn rfl) (fun K hK => ?_)
  refine ow_alloc F M rfl rfl 85 rfl (.agg zRv.arr) zero85 zRv.arr rfl ?_
  clear F M a; intro a g12 v F M hb hg
  refine hK _ _ ?_
  clear hK K
  have hap_g12 : ∀ k, (Value.slice (some ad) xs.length c_18).ownBlock = some k → g12 ≠ k := fun k hk e => by have := (O_x.bound hk).2.1; omega
  replace O_x := O_x.below hb
  clear hb hg; try clear u
  refine list_do (wn rfl) (fun K hK => ?_)
  refine ow_put F M rfl 85 _ _ rfl 0 _ zRv.arr _ rfl (F.e rfl) ((⟨false, g, id, ep⟩ : Rv).arr) (F.e rfl) (sz85 _) (by simp only [Rv.arr_size]) (Rv.arr_one _) ?_
  clear F a; have Mo := M; clear M; intro a u F M hgr
  refine hK _ _ ?_
  clear hK K
  replace O_x := O_x.far hgr (fun k hk e2 => hap_g12 k hk (Option.some.inj e2).symm)
  clear Mo hgr; try clear v
  replace M : Mm w u [⟨g12, (⟨false, g, id, ep⟩ : Rv).arr, 85⟩, ⟨g6, id.cs.toArray, 69⟩] := M
  refine wpList_nil ?_
  replace F : Fr 77 a [(0, .slice A xs.length c), (1, .int .u64 g), (2, .agg id.cs.toArray), (3, .int .i64 ep), (6, .pointer (some ⟨g6, 0, none⟩)), (8, .slice none 0 0), (9, .slice (some ad) xs.length c_18), (10, .int .i64 ((nF xs g : Nat) : Int)), (11, .int .i64 ((nT xs g : Nat) : Int)), (12, .pointer (some ⟨g12, 0, none⟩)), (16, .bool false), (34, .bool false)] := F.keep ⟨rfl, rfl, rfl, rfl, rfl, rfl, rfl, rfl, rfl, rfl, rfl, rfl, trivial⟩
  refine then_n ?_
  refine wp_seq ?_
  refine wp_region_lit ?_
  refine list_val F (wn rfl) rfl rfl (.int .i64 ((nF xs g : Nat) : Int)) (ex_move _ rfl _ (F.e rfl)) ?_; clear F a; intro a F
  refine list_val F (wn rfl) rfl rfl (.slice (some ad) xs.length c_18) (ex_move _ rfl _ (F.e rfl)) ?_; clear F a; intro a F
  refine list_val F (wn rfl) rfl rfl (.int .i64 ((nF xs g : Nat) : Int)) (ex_move _ rfl _ (F.e rfl)) ?_; clear F a; intro a F
  refine list_val F (wn rfl) rfl rfl (.int .i64 ((nT xs g : Nat) : Int)) (ex_move _ rfl _ (F.e rfl)) ?_; clear F a; intro a F
  refine list_val F (wn rfl) rfl rfl (.slice (cutA 19 (some ad) (nF xs g) c_18) (nT xs g - nF xs g) (c_18 - nF xs g)) (ex_cutmid 57 85 19 Tryz.underlying57 s85 _ _ _ rfl (some ad) xs.length c_18 (F.e rfl) _ _ (F.e rfl) (F.e rfl) (nF xs g) (nT xs g) rfl rfl (by omega) (by omega)) ?_; clear F a; intro a F
  refine list_val F (wn rfl) rfl rfl (.func (.func 40) #[] #[.pointer (some ⟨g12, 0, none⟩)]) (ex_makeFunc _ _ _ rfl _ (by rw [map1 (F.e rfl), map0])) ?_; clear F a; intro a F
  refine list_do (wn rfl) (fun K hK => ?_)
  refine ow_call rfl rfl F 39 #[.slice (cutA 19 (some ad) (nF xs g) c_18) (nT xs g - nF xs g) (c_18 - nF xs g), .func (.func 40) #[] #[.pointer (some ⟨g12, 0, none⟩)]] (ex_call 39 _ _ rfl rfl r4_ent_39 _ (map2 (F.e rfl) (F.e rfl))) (place_any (fun x => decide (key x < key (⟨false, g, id, ep⟩ : Rv))) 40 _ ((xs.drop (nF xs g)).take (nT xs g - nF xs g)) _ _ _ (nQ xs (kx g id) - nF xs g) _ ((C_mid O_x.rd.1 (by omega) (by omega) O_x.rd.2.2)) (pays_clo_bef (M.at (i := 0) rfl)) (fun i x hx => h.posQ g id _ hx) (by omega) (by omega)) (fun e v hR => ?_)
  obtain ⟨he, hb⟩ := hR
  refine ⟨.int .i64 ((nQ xs (kx g id) - nF xs g : Nat) : Int), he, ?_⟩; clear he F a; intro a F
  refine hK _ _ ?_
  clear hK K
  replace O_x := O_x.below hb
  replace M := M.below hb; clear hb; try clear u
  refine list_val F (wn rfl) rfl rfl (.int .i64 ((nQ xs (kx g id) : Nat) : Int)) (ex_bin .add _ _ _ _ rfl .i64 _ _ (F.e rfl) (F.e rfl) _ (b_add ((w_i64 (by omega) (by omega)).trans (by omega)))) ?_; clear F a; intro a F
  refine list_val F (wn rfl) rfl rfl (.int .i64 ((nQ xs (kx g id) : Nat) : Int)) (ex_assign _ rfl _ (F.e rfl)) ?_; clear F a; intro a F
  refine wpList_nil ?_
  replace F : Fr 77 a [(0, .slice A xs.length c), (1, .int .u64 g), (2, .agg id.cs.toArray), (3, .int .i64 ep), (6, .pointer (some ⟨g6, 0, none⟩)), (8, .slice none 0 0), (9, .slice (some ad) xs.length c_18), (10, .int .i64 ((nF xs g : Nat) : Int)), (11, .int .i64 ((nT xs g : Nat) : Int)), (12, .pointer (some ⟨g12, 0, none⟩)), (13, .int .i64 ((nQ xs (kx g id) : Nat) : Int)), (16, .bool false), (34, .bool false)] := F.keep ⟨rfl, rfl, rfl, rfl, rfl, rfl, rfl, rfl, rfl, rfl, rfl, rfl, rfl, trivial⟩
  refine then_n ?_
  refine wp_seq ?_
  refine wp_seq ?_
  by_cases hqt : nQ xs (kx g id) < nT xs g
  ·
   obtain ⟨xy, hxy⟩ : ∃ x, xs[(nQ xs (kx g id))]? = some x := ⟨_, List.getElem?_eq_getElem (by omega)⟩
   obtain ⟨ady, hAy, zy⟩ := C_ix O_x.rd.1 hxy
   obtain ⟨y, rfl⟩ : ∃ y, y = xy := ⟨_, rfl⟩
   obtain rfl := Option.some.inj hAy
   by_cases heq : y.id = id
   ·
    refine region_tail 11 r4_follows_mixedOrders (by kernel_rfl) M ?_; clear M; intro u M hb
    replace O_x := O_x.below hb
    replace zy := zy.below hb
    clear hb; try clear v
    refine still_val F (wn rfl) rfl rfl (.int .i64 ((nQ xs (kx g id) : Nat) : Int)) (ex_move _ rfl _ (F.e rfl)) ?_; clear F a; intro a F
    refine still_val F (wn rfl) rfl rfl (.int .i64 ((nT xs g : Nat) : Int)) (ex_move _ rfl _ (F.e rfl)) ?_; clear F a; intro a F
    refine still_val F (wn rfl) rfl rfl (.bool true) (ex_bin .lss _ _ _ _ rfl .i64 _ _ (F.e rfl) (F.e rfl) _ (b_lss (decide_eq_true (by omega)))) ?_; clear F a; intro a F
    refine still_val F (wn rfl) rfl rfl (.bool true) (ex_move _ rfl _ (F.e rfl)) ?_; clear F a; intro a F
    refine still_val F (F.wants 51 true rfl (by kernel_rfl) rfl true rfl) rfl rfl (.slice (some ad) xs.length c_18) (ex_move _ rfl _ (F.e rfl)) ?_; clear F a; intro a F
    refine still_val F (F.wants 51 true rfl (by kernel_rfl) rfl true rfl) rfl rfl (.int .i64 ((nQ xs (kx g id) : Nat) : Int)) (ex_move _ rfl _ (F.e rfl)) ?_; clear F a; intro a F
    refine still_val F (F.wants 51 true rfl (by kernel_rfl) rfl true rfl) rfl rfl (.pointer (some (ad.add ((nQ xs (kx g id)) * 19)))) (ex_ix _ _ _ rfl 19 r4_sl_57_19 ad _ _ (F.e rfl) .i64 _ (F.e rfl) (nQ xs (kx g id)) rfl (by omega) (ad.add ((nQ xs (kx g id)) * 19)) rfl) ?_; clear F a; intro a F
    refine still_val F (F.wants 51 true rfl (by kernel_rfl) rfl true rfl) rfl rfl (.pointer (some ((ad.add ((nQ xs (kx g id)) * 19)).add 2))) (ex_fa _ _ _ rfl _ (F.e rfl) 2 r4_fa_85_2_2 ((ad.add ((nQ xs (kx g id)) * 19)).add 2) rfl) ?_; clear F a; intro a F
    refine still_val F (F.wants 51 true rfl (by kernel_rfl) rfl true rfl) rfl rfl (.agg y.id.cs.toArray) (ex_load _ _ rfl _ (F.e rfl) _ (lrow69 y.id (Rv.id_at (zy)))) ?_; clear F a; intro a F
    refine still_val F (F.wants 51 true rfl (by kernel_rfl) rfl true rfl) rfl rfl (.agg id.cs.toArray) (ex_load _ _ rfl _ (F.e rfl) _ (lrow69 id (M.at (i := 1) rfl))) ?_; clear F a; intro a F
    refine still_val F (F.wants 51 true rfl (by kernel_rfl) rfl true rfl) rfl rfl (.bool true) (ex_eq69 _ _ _ rfl y.id id (F.e rfl) (F.e rfl) true (decide_eq_true heq)) ?_; clear F a; intro a F
    refine still_end ?_
    refine list_val F (wn rfl) rfl rfl (.bool true) (ex_pick_t _ _ _ rfl (F.e rfl) _ (F.e rfl)) ?_; clear F a; intro a F
    refine wpList_nil ?_
    replace F : Fr 77 a [(0, .slice A xs.length c), (1, .int .u64 g), (2, .agg id.cs.toArray), (3, .int .i64 ep), (6, .pointer (some ⟨g6, 0, none⟩)), (8, .slice none 0 0), (9, .slice (some ad) xs.length c_18), (10, .int .i64 ((nF xs g : Nat) : Int)), (11, .int .i64 ((nT xs g : Nat) : Int)), (12, .pointer (some ⟨g12, 0, none⟩)), (13, .int .i64 ((nQ xs (kx g id) : Nat) : Int)), (16, .bool false), (34, .bool false), (59, .bool true)] := F.keep ⟨rfl, rfl, rfl, rfl, rfl, rfl, rfl, rfl, rfl, rfl, rfl, rfl, rfl, rfl, trivial⟩
    refine then_n ?_
    refine wp_cond_true (F.e rfl) ?_
    refine wp_seq ?_
    clear zy
    obtain ⟨g9, sp, hA9, _, hg9, hh9, hsz9, hc9, hcm9⟩ := O_x.open (by decide) (by omega)
    obtain rfl := Option.some.inj hA9
    replace M := M_sole M hg9 hh9
    clear O_x hh9
    have hadd := h.add_old (e := ep) hwf hxy (h.nQ_at hxy hqt) heq
    refine wp_region_lit ?_
    refine list_val F (wn rfl) rfl rfl (.slice (some ⟨g9, 0, none⟩) xs.length c_18) (ex_move _ rfl _ (F.e rfl)) ?_; clear F a; intro a F
    refine list_val F (wn rfl) rfl rfl (.int .i64 ((nQ xs (kx g id) : Nat) : Int)) (ex_move _ rfl _ (F.e rfl)) ?_; clear F a; intro a F
    refine list_val F (wn rfl) rfl rfl (.slice (some ⟨g9, 0, none⟩) xs.length c_18) (ex_move _ rfl _ (F.e rfl)) ?_; clear F a; intro a F
    refine list_val F (wn rfl) rfl rfl (.int .i64 ((nQ xs (kx g id) : Nat) : Int)) (ex_move _ rfl _ (F.e rfl)) ?_; clear F a; intro a F
    refine list_val F (wn rfl) rfl rfl (.pointer (some ⟨g9, (nQ xs (kx g id)) * 19, none⟩)) (ex_ix _ _ _ rfl 19 r4_sl_57_19 ⟨g9, 0, none⟩ _ _ (F.e rfl) .i64 _ (F.e rfl) (nQ xs (kx g id)) rfl (by omega) ⟨g9, (nQ xs (kx g id)) * 19, none⟩ ((addr_add _ _ _).trans (by rw [Nat.zero_add]))) ?_; clear F a; intro a F
    refine list_val F (wn rfl) rfl rfl (.pointer (some ⟨g9, (nQ xs (kx g id)) * 19 + 18, none⟩)) (ex_fa _ _ _ rfl _ (F.e rfl) 18 r4_fa_85_3_18 ⟨g9, (nQ xs (kx g id)) * 19 + 18, none⟩ rfl) ?_; clear F a; intro a F
    refine list_val F (wn rfl) rfl rfl (.int .i64 y.exp) (ex_load _ _ rfl _ (F.e rfl) _ (lv1 r4_one_2 (M.cell (i := 0) rfl (j := (nQ xs (kx g id)) * 19 + 18) (rows_arr Rv.cs_len hxy (Rv.cs_18 _))))) ?_; clear F a; intro a F
    refine list_val F (wn rfl) rfl rfl (.int .i64 ep) (ex_move _ rfl _ (F.e rfl)) ?_; clear F a; intro a F
    refine list_val F (wn rfl) rfl rfl (.int .i64 (max y.exp ep)) (ex_max _ _ _ _ rfl .i64 y.exp ep (F.e rfl) (F.e rfl)) ?_; clear F a; intro a F
    refine list_val F (wn rfl) rfl rfl (.pointer (some ⟨g9, (nQ xs (kx g id)) * 19, none⟩)) (ex_ix _ _ _ rfl 19 r4_sl_57_19 ⟨g9, 0, none⟩ _ _ (F.e rfl) .i64 _ (F.e rfl) (nQ xs (kx g id)) rfl (by omega) ⟨g9, (nQ xs (kx g id)) * 19, none⟩ ((addr_add _ _ _).trans (by rw [Nat.zero_add]))) ?_; clear F a; intro a F
    refine list_val F (wn rfl) rfl rfl (.pointer (some ⟨g9, (nQ xs (kx g id)) * 19 + 18, none⟩)) (ex_fa _ _ _ rfl _ (F.e rfl) 18 r4_fa_85_3_18 ⟨g9, (nQ xs (kx g id)) * 19 + 18, none⟩ rfl) ?_; clear F a; intro a F
    refine list_do (wn rfl) (fun K hK => ?_)
    refine ow_store F M rfl 2 _ _ rfl 0 g9 (xs.flatMap Rv.cs ++ sp).toArray _ rfl ((nQ xs (kx g id)) * 19 + 18) (F.e rfl) _ (F.e rfl) [.int .i64 (max y.exp ep)] rfl r4_info_2_map_size_some_1 (by rw [List.size_toArray, hsz9]; simp only [List.length_cons, List.length_nil]; omega) (by simp [Value.oneCell']) ((xs.set (nQ xs (kx g id)) ({ y with exp := (max y.exp ep) } : Rv)).flatMap Rv.cs ++ sp).toArray (congrArg List.toArray (rows_set (vs := [.int .i64 (max y.exp ep)]) Rv.cs_len hxy (by simp) (Rv.set_18 _ _))) ?_
    clear F a; have Mo := M; clear M; intro a v F M hgr
    refine hK _ _ ?_
    clear hK K
    clear Mo hgr; try clear u
    replace M : Mm w v [⟨g9, ((xs.set (nQ xs (kx g id)) ({ y with exp := (max y.exp ep) } : Rv)).flatMap Rv.cs ++ sp).toArray, 85⟩] := M
    refine wpList_nil ?_
    replace F : Fr 77 a [(0, .slice A xs.length c), (1, .int .u64 g), (2, .agg id.cs.toArray), (3, .int .i64 ep), (6, .pointer (some ⟨g6, 0, none⟩)), (8, .slice none 0 0), (9, .slice (some ⟨g9, 0, none⟩) xs.length c_18), (10, .int .i64 ((nF xs g : Nat) : Int)), (11, .int .i64 ((nT xs g : Nat) : Int)), (12, .pointer (some ⟨g12, 0, none⟩)), (13, .int .i64 ((nQ xs (kx g id) : Nat) : Int)), (16, .bool false), (34, .bool false), (59, .bool true)] := F.keep ⟨rfl, rfl, rfl, rfl, rfl, rfl, rfl, rfl, rfl, rfl, rfl, rfl, rfl, rfl, trivial⟩
    refine then_n ?_
    refine wp_seq ?_
    refine wp_region_lit ?_
    refine list_val F (wn rfl) rfl rfl (.slice (some ⟨g9, 0, none⟩) xs.length c_18) (ex_move _ rfl _ (F.e rfl)) ?_; clear F a; intro a F
    refine list_val F (wn rfl) rfl rfl (.slice (some ⟨g9, 0, none⟩) xs.length c_18) (ex_assign _ rfl _ (F.e rfl)) ?_; clear F a; intro a F
    refine wpList_nil ?_
    replace F : Fr 77 a [(0, .slice A xs.length c), (1, .int .u64 g), (2, .agg id.cs.toArray), (3, .int .i64 ep), (6, .pointer (some ⟨g6, 0, none⟩)), (8, .slice (some ⟨g9, 0, none⟩) xs.length c_18), (9, .slice (some ⟨g9, 0, none⟩) xs.length c_18), (10, .int .i64 ((nF xs g : Nat) : Int)), (11, .int .i64 ((nT xs g : Nat) : Int)), (12, .pointer (some ⟨g12, 0, none⟩)), (13, .int .i64 ((nQ xs (kx g id) : Nat) : Int)), (16, .bool false), (34, .bool false), (59, .bool true)] := F.keep ⟨rfl, rfl, rfl, rfl, rfl, rfl, rfl, rfl, rfl, rfl, rfl, rfl, rfl, rfl, trivial⟩
    refine then_n ?_
    refine wp_ret ?_
    refine then_r ?_
    rw [← hadd]
    exact ret_tmp F rfl rfl ⟨_, _, by rw [List.length_set], Ow.of_block (enc := Rv.cs) (m := 19) (sp := sp) (M.blk 0 _ rfl) (M.lo 0 _ rfl) rfl (by rw [List.length_set]; exact hc9) hcm9 (by simp only [List.length_append, flat_len, List.length_set] at hsz9 ⊢; exact hsz9), M.bel⟩
   have hadd := h.add_new (e := ep) hwf (fun q hq hg hi => heq (by obtain rfl := Option.some.inj (hxy.symm.trans hq); exact hi))
   refine region_tail 11 r4_follows_mixedOrders (by kernel_rfl) M ?_; clear M; intro u M hb
   replace O_x := O_x.below hb
   replace zy := zy.below hb
   clear hb; try clear v
   refine still_val F (wn rfl) rfl rfl (.int .i64 ((nQ xs (kx g id) : Nat) : Int)) (ex_move _ rfl _ (F.e rfl)) ?_; clear F a; intro a F
   refine still_val F (wn rfl) rfl rfl (.int .i64 ((nT xs g : Nat) : Int)) (ex_move _ rfl _ (F.e rfl)) ?_; clear F a; intro a F
   refine still_val F (wn rfl) rfl rfl (.bool true) (ex_bin .lss _ _ _ _ rfl .i64 _ _ (F.e rfl) (F.e rfl) _ (b_lss (decide_eq_true (by omega)))) ?_; clear F a; intro a F
   refine still_val F (wn rfl) rfl rfl (.bool true) (ex_move _ rfl _ (F.e rfl)) ?_; clear F a; intro a F
   refine still_val F (F.wants 51 true rfl (by kernel_rfl) rfl true rfl) rfl rfl (.slice (some ad) xs.length c_18) (ex_move _ rfl _ (F.e rfl)) ?_; clear F a; intro a F
   refine still_val F (F.wants 51 true rfl (by kernel_rfl) rfl true rfl) rfl rfl (.int .i64 ((nQ xs (kx g id) : Nat) : Int)) (ex_move _ rfl _ (F.e rfl)) ?_; clear F a; intro a F
   refine still_val F (F.wants 51 true rfl (by kernel_rfl) rfl true rfl) rfl rfl (.pointer (some (ad.add ((nQ xs (kx g id)) * 19)))) (ex_ix _ _ _ rfl 19 r4_sl_57_19 ad _ _ (F.e rfl) .i64 _ (F.e rfl) (nQ xs (kx g id)) rfl (by omega) (ad.add ((nQ xs (kx g id)) * 19)) rfl) ?_; clear F a; intro a F
   refine still_val F (F.wants 51 true rfl (by kernel_rfl) rfl true rfl) rfl rfl (.pointer (some ((ad.add ((nQ xs (kx g id)) * 19)).add 2))) (ex_fa _ _ _ rfl _ (F.e rfl) 2 r4_fa_85_2_2 ((ad.add ((nQ xs (kx g id)) * 19)).add 2) rfl) ?_; clear F a; intro a F
   refine still_val F (F.wants 51 true rfl (by kernel_rfl) rfl true rfl) rfl rfl (.agg y.id.cs.toArray) (ex_load _ _ rfl _ (F.e rfl) _ (lrow69 y.id (Rv.id_at (zy)))) ?_; clear F a; intro a F
   refine still_val F (F.wants 51 true rfl (by kernel_rfl) rfl true rfl) rfl rfl (.agg id.cs.toArray) (ex_load _ _ rfl _ (F.e rfl) _ (lrow69 id (M.at (i := 1) rfl))) ?_; clear F a; intro a F
   refine still_val F (F.wants 51 true rfl (by kernel_rfl) rfl true rfl) rfl rfl (.bool false) (ex_eq69 _ _ _ rfl y.id id (F.e rfl) (F.e rfl) false (decide_eq_false heq)) ?_; clear F a; intro a F
   refine still_end ?_
   refine list_val F (wn rfl) rfl rfl (.bool false) (ex_pick_t _ _ _ rfl (F.e rfl) _ (F.e rfl)) ?_; clear F a; intro a F
   refine wpList_nil ?_
   replace F : Fr 77 a [(0, .slice A xs.length c), (1, .int .u64 g), (2, .agg id.cs.toArray), (3, .int .i64 ep), (6, .pointer (some ⟨g6, 0, none⟩)), (8, .slice none 0 0), (9, .slice (some ad) xs.length c_18), (10, .int .i64 ((nF xs g : Nat) : Int)), (11, .int .i64 ((nT xs g : Nat) : Int)), (12, .pointer (some ⟨g12, 0, none⟩)), (13, .int .i64 ((nQ xs (kx g id) : Nat) : Int)), (16, .bool false), (34, .bool false), (59, .bool false)] := F.keep ⟨rfl, rfl, rfl, rfl, rfl, rfl, rfl, rfl, rfl, rfl, rfl, rfl, rfl, rfl, trivial⟩
   refine then_n ?_
   refine wp_cond_false (F.e rfl) ?_
   refine wp_skip ?_
   refine then_n ?_
   refine wp_seq ?_
   clear zy
   refine wp_region_lit ?_
   refine list_val F (wn rfl) rfl rfl (.slice (some ad) xs.length c_18) (ex_move _ rfl _ (F.e rfl)) ?_; clear F a; intro a F
   refine list_val F (wn rfl) rfl rfl (.int .i64 ((nQ xs (kx g id) : Nat) : Int)) (ex_move _ rfl _ (F.e rfl)) ?_; clear F a; intro a F
   refine list_val F (wn rfl) rfl rfl (.agg ((⟨false, g, id, ep⟩ : Rv).arr)) (ex_load _ _ rfl _ (F.e rfl) _ (lrow85 (⟨false, g, id, ep⟩ : Rv) (M.at (i := 0) rfl))) ?_; clear F a; intro a F
   refine list_do (wn rfl) (fun K hK => ?_)
   refine ow_bslice F M rfl rfl 57 1 _ rfl #[(0, .agg ((⟨false, g, id, ep⟩ : Rv).arr))] (parts1 (F.e rfl)) ((⟨false, g, id, ep⟩ : Rv).arr) 85 (newrow85 (⟨false, g, id, ep⟩ : Rv) _) ?_
   clear F M a; intro a g75 v F M hb hg
   refine hK _ _ ?_
   clear hK K
   have hap : ∀ k, (Value.slice (some ad) xs.length c_18).ownBlock = some k → g75 ≠ k := fun k hk e => by have := (O_x.bound hk).2.1; omega
   replace O_x := O_x.below hb
   clear hb hg; try clear u
   refine list_do (wn rfl) (fun K hK => ?_)
   refine ow_call rfl rfl F 41 #[.slice (some ad) xs.length c_18, .int .i64 ((nQ xs (kx g id) : Nat) : Int), .slice (some ⟨g75, 0, none⟩) 1 1] (ex_call 41 _ _ rfl rfl r4_ent_41 _ (map3 (F.e rfl) (F.e rfl) (F.e rfl))) (insert_any xs _ _ (nQ xs (kx g id)) (⟨false, g, id, ep⟩ : Rv) _ w _ _ M (i := 0) rfl O_x hap (by omega) hmx) (fun e u hR => ?_)
   obtain ⟨A_76, c_76, he, O_y, hbel⟩ := hR
   refine ⟨.slice A_76 (xs.length + 1) c_76, he, ?_⟩; clear he F a; intro a F
   refine hK _ _ ?_
   clear hK K
   replace M : Mm w u [] := mm_of_bel hbel; clear hbel O_x hap; try clear v
   refine list_val F (wn rfl) rfl rfl (.slice A_76 (xs.length + 1) c_76) (ex_assign _ rfl _ (F.e rfl)) ?_; clear F a; intro a F
   refine wpList_nil ?_
   replace F : Fr 77 a [(0, .slice A xs.length c), (1, .int .u64 g), (2, .agg id.cs.toArray), (3, .int .i64 ep), (6, .pointer (some ⟨g6, 0, none⟩)), (8, .slice A_76 (xs.length + 1) c_76), (9, .slice (some ad) xs.length c_18), (10, .int .i64 ((nF xs g : Nat) : Int)), (11, .int .i64 ((nT xs g : Nat) : Int)), (12, .pointer (some ⟨g12, 0, none⟩)), (13, .int .i64 ((nQ xs (kx g id) : Nat) : Int)), (16, .bool false), (34, .bool false), (59, .bool false)] := F.keep ⟨rfl, rfl, rfl, rfl, rfl, rfl, rfl, rfl, rfl, rfl, rfl, rfl, rfl, rfl, trivial⟩
   refine then_n ?_
   refine wp_ret ?_
   have hlen : (addF xs g id ep).length = xs.length + 1 := by rw [← hadd]; simp; omega
   exact ret_tmp F rfl rfl ⟨_, _, by rw [hlen], by rw [hlen, ← hadd]; exact O_y, M.bel⟩
  have hadd := h.add_new (e := ep) hwf (fun q hq hg => absurd hg (h.nQ_end hq hqt))
  refine region_tail 11 r4_follows_mixedOrders (by kernel_rfl) M ?_; clear M; intro u M hb
  replace O_x := O_x.below hb
  clear hb; try clear v
  refine still_val F (wn rfl) rfl rfl (.int .i64 ((nQ xs (kx g id) : Nat) : Int)) (ex_move _ rfl _ (F.e rfl)) ?_; clear F a; intro a F
  refine still_val F (wn rfl) rfl rfl (.int .i64 ((nT xs g : Nat) : Int)) (ex_move _ rfl _ (F.e rfl)) ?_; clear F a; intro a F
  refine still_val F (wn rfl) rfl rfl (.bool false) (ex_bin .lss _ _ _ _ rfl .i64 _ _ (F.e rfl) (F.e rfl) _ (b_lss (decide_eq_false (by omega)))) ?_; clear F a; intro a F
  refine still_val F (wn rfl) rfl rfl (.bool false) (ex_move _ rfl _ (F.e rfl)) ?_; clear F a; intro a F
  refine still_skip F (F.wants 51 false rfl (by kernel_rfl) rfl false rfl) rfl rfl ?_; clear F a; intro a F
  refine still_skip F (F.wants 51 false rfl (by kernel_rfl) rfl false rfl) rfl rfl ?_; clear F a; intro a F
  refine still_skip F (F.wants 51 false rfl (by kernel_rfl) rfl false rfl) rfl rfl ?_; clear F a; intro a F
  refine still_skip F (F.wants 51 false rfl (by kernel_rfl) rfl false rfl) rfl rfl ?_; clear F a; intro a F
  refine still_skip F (F.wants 51 false rfl (by kernel_rfl) rfl false rfl) rfl rfl ?_; clear F a; intro a F
  refine still_skip F (F.wants 51 false rfl (by kernel_rfl) rfl false rfl) rfl rfl ?_; clear F a; intro a F
  refine still_skip F (F.wants 51 false rfl (by kernel_rfl) rfl false rfl) rfl rfl ?_; clear F a; intro a F
  refine still_end ?_
  refine list_val F (wn rfl) rfl rfl (.bool false) (ex_pick_f _ _ _ rfl (F.e rfl) _ rfl) ?_; clear F a; intro a F
  refine wpList_nil ?_
  replace F : Fr 77 a [(0, .slice A xs.length c), (1, .int .u64 g), (2, .agg id.cs.toArray), (3, .int .i64 ep), (6, .pointer (some ⟨g6, 0, none⟩)), (8, .slice none 0 0), (9, .slice (some ad) xs.length c_18), (10, .int .i64 ((nF xs g : Nat) : Int)), (11, .int .i64 ((nT xs g : Nat) : Int)), (12, .pointer (some ⟨g12, 0, none⟩)), (13, .int .i64 ((nQ xs (kx g id) : Nat) : Int)), (16, .bool false), (34, .bool false), (59, .bool false)] := F.keep ⟨rfl, rfl, rfl, rfl, rfl, rfl, rfl, rfl, rfl, rfl, rfl, rfl, rfl, rfl, trivial⟩
  refine then_n ?_
  refine wp_cond_false (F.e rfl) ?_
  refine wp_skip ?_
  refine then_n ?_
  refine wp_seq ?_
  refine wp_region_lit ?_
  refine list_val F (wn rfl) rfl rfl (.slice (some ad) xs.length c_18) (ex_move _ rfl _ (F.e rfl)) ?_; clear F a; intro a F
  refine list_val F (wn rfl) rfl rfl (.int .i64 ((nQ xs (kx g id) : Nat) : Int)) (ex_move _ rfl _ (F.e rfl)) ?_; clear F a; intro a F
  refine list_val F (wn rfl) rfl rfl (.agg ((⟨false, g, id, ep⟩ : Rv).arr)) (ex_load _ _ rfl _ (F.e rfl) _ (lrow85 (⟨false, g, id, ep⟩ : Rv) (M.at (i := 0) rfl))) ?_; clear F a; intro a F
  refine list_do (wn rfl) (fun K hK => ?_)
  refine ow_bslice F M rfl rfl 57 1 _ rfl #[(0, .agg ((⟨false, g, id, ep⟩ : Rv).arr))] (parts1 (F.e rfl)) ((⟨false, g, id, ep⟩ : Rv).arr) 85 (newrow85 (⟨false, g, id, ep⟩ : Rv) _) ?_
  clear F M a; intro a g75 v F M hb hg
  refine hK _ _ ?_
  clear hK K
  have hap : ∀ k, (Value.slice (some ad) xs.length c_18).ownBlock = some k → g75 ≠ k := fun k hk e => by have := (O_x.bound hk).2.1; omega
  replace O_x := O_x.below hb
  clear hb hg; try clear u
  refine list_do (wn rfl) (fun K hK => ?_)
  refine ow_call rfl rfl F 41 #[.slice (some ad) xs.length c_18, .int .i64 ((nQ xs (kx g id) : Nat) : Int), .slice (some ⟨g75, 0, none⟩) 1 1] (ex_call 41 _ _ rfl rfl r4_ent_41 _ (map3 (F.e rfl) (F.e rfl) (F.e rfl))) (insert_any xs _ _ (nQ xs (kx g id)) (⟨false, g, id, ep⟩ : Rv) _ w _ _ M (i := 0) rfl O_x hap (by omega) hmx) (fun e u hR => ?_)
  obtain ⟨A_76, c_76, he, O_y, hbel⟩ := hR
  refine ⟨.slice A_76 (xs.length + 1) c_76, he, ?_⟩; clear he F a; intro a F
  refine hK _ _ ?_
  clear hK K
  replace M : Mm w u [] := mm_of_bel hbel; clear hbel O_x hap; try clear v
  refine list_val F (wn rfl) rfl rfl (.slice A_76 (xs.length + 1) c_76) (ex_assign _ rfl _ (F.e rfl)) ?_; clear F a; intro a F
  refine wpList_nil ?_
  replace F : Fr 77 a [(0, .slice A xs.length c), (1, .int .u64 g), (2, .agg id.cs.toArray), (3, .int .i64 ep), (6, .pointer (some ⟨g6, 0, none⟩)), (8, .slice A_76 (xs.length + 1) c_76), (9, .slice (some ad) xs.length c_18), (10, .int .i64 ((nF xs g : Nat) : Int)), (11, .int .i64 ((nT xs g : Nat) : Int)), (12, .pointer (some ⟨g12, 0, none⟩)), (13, .int .i64 ((nQ xs (kx g id) : Nat) : Int)), (16, .bool false), (34, .bool false), (59, .bool false)] := F.keep ⟨rfl, rfl, rfl, rfl, rfl, rfl, rfl, rfl, rfl, rfl, rfl, rfl, rfl, rfl, trivial⟩
  refine then_n ?_
  refine wp_ret ?_
  have hlen : (addF xs g id ep).length = xs.length + 1 := by rw [← hadd]; simp; omega
  exact ret_tmp F rfl rfl ⟨_, _, by rw [hlen], by rw [hlen, ← hadd]; exact O_y, M.bel⟩
 have hwf := (h.no_whole hft2).1
 refine wp_region_lit ?_
 refine list_val F (wn rfl) rfl rfl (.int .i64 ((nT xs g : Nat) : Int)) (ex_move _ rfl _ (F.e rfl)) ?_; clear F a; intro a F
 refine list_val F (wn rfl) rfl rfl (.int .i64 ((nF xs g : Nat) : Int)) (ex_move _ rfl _ (F.e rfl)) ?_; clear F a; intro a F
 refine list_val F (wn rfl) rfl rfl (.bool false) (ex_bin .gtr _ _ _ _ rfl .i64 _ _ (F.e rfl) (F.e rfl) _ (b_gtr (decide_eq_false (by omega)))) ?_; clear F a; intro a F
 refine list_val F (wn rfl) rfl rfl (.bool false) (ex_move _ rfl _ (F.e rfl)) ?_; clear F a; intro a F
 refine list_skip F (F.wants 28 false rfl (by kernel_rfl) rfl false rfl) rfl rfl ?_; clear F a; intro a F
 refine list_skip F (F.wants 28 false rfl (by kernel_rfl) rfl false rfl) rfl rfl ?_; clear F a; intro a F
 refine list_skip F (F.wants 28 false rfl (by kernel_rfl) rfl false rfl) rfl rfl ?_; clear F a; intro a F
 refine list_skip F (F.wants 28 false rfl (by kernel_rfl) rfl false rfl) rfl rfl ?_; clear F a; intro a F
 refine list_skip F (F.wants 28 false rfl (by kernel_rfl) rfl false rfl) rfl rfl ?_; clear F a; intro a F
 refine list_val F (wn rfl) rfl rfl (.bool false) (ex_pick_f _ _ _ rfl (F.e rfl) _ rfl) ?_; clear F a; intro a F
 refine wpList_nil ?_
 replace F : Fr 77 a [(0, .slice A xs.length c), (1, .int .u64 g), (2, .agg id.cs.toArray), (3, .int .i64 ep), (6, .pointer (some ⟨g6, 0, none⟩)), (8, .slice none 0 0), (9, .slice A_18 xs.length c_18), (10, .int .i64 ((nF xs g : Nat) : Int)), (11, .int .i64 ((nT xs g : Nat) : Int)), (16, .bool false), (34, .bool false)] := F.keep ⟨rfl, rfl, rfl, rfl, rfl, rfl, rfl, rfl, rfl, rfl, rfl, trivial⟩
 refine then_n ?_
 refine wp_cond_false (F.e rfl) ?_
 refine wp_skip ?_
 refine then_n ?_
 refine wp_seq ?_
 refine wp_region_lit ?_
 refine list_val F (wn rfl) rfl rfl (.int .u64 g) (ex_move _ rfl _ (F.e rfl)) ?_; clear F a; intro a F
 refine list_val F (wn rfl) rfl rfl (.agg id.cs.toArray) (ex_load _ _ rfl _ (F.e rfl) _ (lrow69 id (M.at (i := 0) rfl))) ?_; clear F a; intro a F
 refine list_val F (wn rfl) rfl rfl (.int .i64 ep) (ex_move _ rfl _ (F.e rfl)) ?_; clear F a; intro a F
 refine list_val F (wn rfl) rfl rfl (.agg ((⟨false, g, id, ep⟩ : Rv).arr)) (ex_build 85 _ rfl #[(1, .int .u64 g), (2, .agg id.cs.toArray), (3, .int .i64 ep)] (parts3 (F.e rfl) (F.e rfl) (F.e rfl)) (.agg ((⟨false, g, id, ep⟩ : Rv).arr)) (build85_123 g id ep _)) ?_; clear F a; intro a F
 refine list_do (wn rfl) (fun K hK => ?_)
 refine ow_alloc F M rfl rfl 85 rfl (.agg zRv.arr) zero85 zRv.arr rfl ?_
 clear F M a; intro a g12 v F M hb hg
 refine hK _ _ ?_
 clear hK K
 have hap_g12 : ∀ k, (Value.slice A_18 xs.length c_18).ownBlock = some k → g12 ≠ k := fun k hk e => by have := (O_x.bound hk).2.1; omega
 replace O_x := O_x.below hb
 clear hb hg; try clear u
 refine list_do (wn rfl) (fun K hK => ?_)
 refine ow_put F M rfl 85 _ _ rfl 0 _ zRv.arr _ rfl (F.e rfl) ((⟨false, g, id, ep⟩ : Rv).arr) (F.e rfl) (sz85 _) (by simp only [Rv.arr_size]) (Rv.arr_one _) ?_
 clear F a; have Mo := M; clear M; intro a u F M hgr
 refine hK _ _ ?_
 clear hK K
 replace O_x := O_x.far hgr (fun k hk e2 => hap_g12 k hk (Option.some.inj e2).symm)
 clear Mo hgr; try clear v
 replace M : Mm w u [⟨g12, (⟨false, g, id, ep⟩ : Rv).arr, 85⟩, ⟨g6, id.cs.toArray, 69⟩] := M
 refine wpList_nil ?_
 replace F : Fr 77 a [(0, .slice A xs.length c), (1, .int .u64 g), (2, .agg id.cs.toArray), (3, .int .i64 ep), (6, .pointer (some ⟨g6, 0, none⟩)), (8, .slice none 0 0), (9, .slice A_18 xs.length c_18), (10, .int .i64 ((nF xs g : Nat) : Int)), (11, .int .i64 ((nT xs g : Nat) : Int)), (12, .pointer (some ⟨g12, 0, none⟩)), (16, .bool false), (34, .bool false)] := F.keep ⟨rfl, rfl, rfl, rfl, rfl, rfl, rfl, rfl, rfl, rfl, rfl, rfl, trivial⟩
 refine then_n ?_
 refine wp_seq ?_
 refine wp_region_lit ?_
 refine list_val F (wn rfl) rfl rfl (.int .i64 ((nF xs g : Nat) : Int)) (ex_move _ rfl _ (F.e rfl)) ?_; clear F a; intro a F
 refine list_val F (wn rfl) rfl rfl (.slice A_18 xs.length c_18) (ex_move _ rfl _ (F.e rfl)) ?_; clear F a; intro a F
 refine list_val F (wn rfl) rfl rfl (.int .i64 ((nF xs g : Nat) : Int)) (ex_move _ rfl _ (F.e rfl)) ?_; clear F a; intro a F
 refine list_val F (wn rfl) rfl rfl (.int .i64 ((nT xs g : Nat) : Int)) (ex_move _ rfl _ (F.e rfl)) ?_; clear F a; intro a F
 refine list_val F (wn rfl) rfl rfl (.slice (cutA 19 A_18 (nF xs g) c_18) (nT xs g - nF xs g) (c_18 - nF xs g)) (ex_cutmid 57 85 19 Tryz.underlying57 s85 _ _ _ rfl A_18 xs.length c_18 (F.e rfl) _ _ (F.e rfl) (F.e rfl) (nF xs g) (nT xs g) rfl rfl (by omega) (by omega)) ?_; clear F a; intro a F
 refine list_val F (wn rfl) rfl rfl (.func (.func 40) #[] #[.pointer (some ⟨g12, 0, none⟩)]) (ex_makeFunc _ _ _ rfl _ (by rw [map1 (F.e rfl), map0])) ?_; clear F a; intro a F
 refine list_do (wn rfl) (fun K hK => ?_)
 refine ow_call rfl rfl F 39 #[.slice (cutA 19 A_18 (nF xs g) c_18) (nT xs g - nF xs g) (c_18 - nF xs g), .func (.func 40) #[] #[.pointer (some ⟨g12, 0, none⟩)]] (ex_call 39 _ _ rfl rfl r4_ent_39 _ (map2 (F.e rfl) (F.e rfl))) (place_any (fun x => decide (key x < key (⟨false, g, id, ep⟩ : Rv))) 40 _ ((xs.drop (nF xs g)).take (nT xs g - nF xs g)) _ _ _ (nQ xs (kx g id) - nF xs g) _ ((C_mid O_x.rd.1 (by omega) (by omega) O_x.rd.2.2)) (pays_clo_bef (M.at (i := 0) rfl)) (fun i x hx => h.posQ g id _ hx) (by omega) (by omega)) (fun e v hR => ?_)
 obtain ⟨he, hb⟩ := hR
 refine ⟨.int .i64 ((nQ xs (kx g id) - nF xs g : Nat) : Int), he, ?_⟩; clear he F a; intro a F
 refine hK _ _ ?_
 clear hK K
 replace O_x := O_x.below hb
 replace M := M.below hb; clear hb; try clear u
 refine list_val F (wn rfl) rfl rfl (.int .i64 ((nQ xs (kx g id) : Nat) : Int)) (ex_bin .add _ _ _ _ rfl .i64 _ _ (F.e rfl) (F.e rfl) _ (b_add ((w_i64 (by omega) (by omega)).trans (by omega)))) ?_; clear F a; intro a F
 refine list_val F (wn rfl) rfl rfl (.int .i64 ((nQ xs (kx g id) : Nat) : Int)) (ex_assign _ rfl _ (F.e rfl)) ?_; clear F a; intro a F
 refine wpList_nil ?_
 replace F : Fr 77 a [(0, .slice A xs.length c), (1, .int .u64 g), (2, .agg id.cs.toArray), (3, .int .i64 ep), (6, .pointer (some ⟨g6, 0, none⟩)), (8, .slice none 0 0), (9, .slice A_18 xs.length c_18), (10, .int .i64 ((nF xs g : Nat) : Int)), (11, .int .i64 ((nT xs g : Nat) : Int)), (12, .pointer (some ⟨g12, 0, none⟩)), (13, .int .i64 ((nQ xs (kx g id) : Nat) : Int)), (16, .bool false), (34, .bool false)] := F.keep ⟨rfl, rfl, rfl, rfl, rfl, rfl, rfl, rfl, rfl, rfl, rfl, rfl, rfl, trivial⟩
 refine then_n ?_
 refine wp_seq ?_
 refine wp_seq ?_
 by_cases hqt : nQ xs (kx g id) < nT xs g
 ·
  obtain ⟨xy, hxy⟩ : ∃ x, xs[(nQ xs (kx g id))]? = some x := ⟨_, List.getElem?_eq_getElem (by omega)⟩
  obtain ⟨ady, hAy, zy⟩ := C_ix O_x.rd.1 hxy
  obtain ⟨y, rfl⟩ : ∃ y, y = xy := ⟨_, rfl⟩
  subst hAy
  by_cases heq : y.id = id
  ·
   refine region_tail 11 r4_follows_mixedOrders (by kernel_rfl) M ?_; clear M; intro u M hb
   replace O_x := O_x.below hb
   replace zy := zy.below hb
   clear hb; try clear v
   refine still_val F (wn rfl) rfl rfl (.int .i64 ((nQ xs (kx g id) : Nat) : Int)) (ex_move _ rfl _ (F.e rfl)) ?_; clear F a; intro a F
   refine still_val F (wn rfl) rfl rfl (.int .i64 ((nT xs g : Nat) : Int)) (ex_move _ rfl _ (F.e rfl)) ?_; clear F a; intro a F
   refine still_val F (wn rfl) rfl rfl (.bool true) (ex_bin .lss _ _ _ _ rfl .i64 _ _ (F.e rfl) (F.e rfl) _ (b_lss (decide_eq_true (by omega)))) ?_; clear F a; intro a F
   refine still_val F (wn rfl) rfl rfl (.bool true) (ex_move _ rfl _ (F.e rfl)) ?_; clear F a; intro a F
   refine still_val F (F.wants 51 true rfl (by kernel_rfl) rfl true rfl) rfl rfl (.slice (some ady) xs.length c_18) (ex_move _ rfl _ (F.e rfl)) ?_; clear F a; intro a F
   refine still_val F (F.wants 51 true rfl (by kernel_rfl) rfl true rfl) rfl rfl (.int .i64 ((nQ xs (kx g id) : Nat) : Int)) (ex_move _ rfl _ (F.e rfl)) ?_; clear F a; intro a F
   refine still_val F (F.wants 51 true rfl (by kernel_rfl) rfl true rfl) rfl rfl (.pointer (some (ady.add ((nQ xs (kx g id)) * 19)))) (ex_ix _ _ _ rfl 19 r4_sl_57_19 ady _ _ (F.e rfl) .i64 _ (F.e rfl) (nQ xs (kx g id)) rfl (by omega) (ady.add ((nQ xs (kx g id)) * 19)) rfl) ?_; clear F a; intro a F
   refine still_val F (F.wants 51 true rfl (by kernel_rfl) rfl true rfl) rfl rfl (.pointer (some ((ady.add ((nQ xs (kx g id)) * 19)).add 2))) (ex_fa _ _ _ rfl _ (F.e rfl) 2 r4_fa_85_2_2 ((ady.add ((nQ xs (kx g id)) * 19)).add 2) rfl) ?_; clear F a; intro a F
   refine still_val F (F.wants 51 true rfl (by kernel_rfl) rfl true rfl) rfl rfl (.agg y.id.cs.toArray) (ex_load _ _ rfl _ (F.e rfl) _ (lrow69 y.id (Rv.id_at (zy)))) ?_; clear F a; intro a F
   refine still_val F (F.wants 51 true rfl (by kernel_rfl) rfl true rfl) rfl rfl (.agg id.cs.toArray) (ex_load _ _ rfl _ (F.e rfl) _ (lrow69 id (M.at (i := 1) rfl))) ?_; clear F a; intro a F
   refine still_val F (F.wants 51 true rfl (by kernel_rfl) rfl true rfl) rfl rfl (.bool true) (ex_eq69 _ _ _ rfl y.id id (F.e rfl) (F.e rfl) true (decide_eq_true heq)) ?_; clear F a; intro a F
   refine still_end ?_
   refine list_val F (wn rfl) rfl rfl (.bool true) (ex_pick_t _ _ _ rfl (F.e rfl) _ (F.e rfl)) ?_; clear F a; intro a F
   refine wpList_nil ?_
   replace F : Fr 77 a [(0, .slice A xs.length c), (1, .int .u64 g), (2, .agg id.cs.toArray), (3, .int .i64 ep), (6, .pointer (some ⟨g6, 0, none⟩)), (8, .slice none 0 0), (9, .slice (some ady) xs.length c_18), (10, .int .i64 ((nF xs g : Nat) : Int)), (11, .int .i64 ((nT xs g : Nat) : Int)), (12, .pointer (some ⟨g12, 0, none⟩)), (13, .int .i64 ((nQ xs (kx g id) : Nat) : Int)), (16, .bool false), (34, .bool false), (59, .bool true)] := F.keep ⟨rfl, rfl, rfl, rfl, rfl, rfl, rfl, rfl, rfl, rfl, rfl, rfl, rfl, rfl, trivial⟩
   refine then_n ?_
   refine wp_cond_true (F.e rfl) ?_
   refine wp_seq ?_
   clear zy
   obtain ⟨g9, sp, hA9, _, hg9, hh9, hsz9, hc9, hcm9⟩ := O_x.open (by decide) (by omega)
   obtain rfl := Option.some.inj hA9
   replace M := M_sole M hg9 hh9
   clear O_x hh9
   have hadd := h.add_old (e := ep) hwf hxy (h.nQ_at hxy hqt) heq
   refine wp_region_lit ?_
   refine list_val F (wn rfl) rfl rfl (.slice (some ⟨g9, 0, none⟩) xs.length c_18) (ex_move _ rfl _ (F.e rfl)) ?_; clear F a; intro a F
   refine list_val F (wn rfl) rfl rfl (.int .i64 ((nQ xs (kx g id) : Nat) : Int)) (ex_move _ rfl _ (F.e rfl)) ?_; clear F a; intro a F
   refine list_val F (wn rfl) rfl rfl (.slice (some ⟨g9, 0, none⟩) xs.length c_18) (ex_move _ rfl _ (F.e rfl)) ?_; clear F a; intro a F
   refine list_val F (wn rfl) rfl rfl (.int .i64 ((nQ xs (kx g id) : Nat) : Int)) (ex_move _ rfl _ (F.e rfl)) ?_; clear F a; intro a F
   refine list_val F (wn rfl) rfl rfl (.pointer (some ⟨g9, (nQ xs (kx g id)) * 19, none⟩)) (ex_ix _ _ _ rfl 19 r4_sl_57_19 ⟨g9, 0, none⟩ _ _ (F.e rfl) .i64 _ (F.e rfl) (nQ xs (kx g id)) rfl (by omega) ⟨g9, (nQ xs (kx g id)) * 19, none⟩ ((addr_add _ _ _).trans (by rw [Nat.zero_add]))) ?_; clear F a; intro a F
   refine list_val F (wn rfl) rfl rfl (.pointer (some ⟨g9, (nQ xs (kx g id)) * 19 + 18, none⟩)) (ex_fa _ _ _ rfl _ (F.e rfl) 18 r4_fa_85_3_18 ⟨g9, (nQ xs (kx g id)) * 19 + 18, none⟩ rfl) ?_; clear F a; intro a F
   refine list_val F (wn rfl) rfl rfl (.int .i64 y.exp) (ex_load _ _ rfl _ (F.e rfl) _ (lv1 r4_one_2 (M.cell (i := 0) rfl (j := (nQ xs (kx g id)) * 19 + 18) (rows_arr Rv.cs_len hxy (Rv.cs_18 _))))) ?_; clear F a; intro a F
   refine list_val F (wn rfl) rfl rfl (.int .i64 ep) (ex_move _ rfl _ (F.e rfl)) ?_; clear F a; intro a F
   refine list_val F (wn rfl) rfl rfl (.int .i64 (max y.exp ep)) (ex_max _ _ _ _ rfl .i64 y.exp ep (F.e rfl) (F.e rfl)) ?_; clear F a; intro a F
   refine list_val F (wn rfl) rfl rfl (.pointer (some ⟨g9, (nQ xs (kx g id)) * 19, none⟩)) (ex_ix _ _ _ rfl 19 r4_sl_57_19 ⟨g9, 0, none⟩ _ _ (F.e rfl) .i64 _ (F.e rfl) (nQ xs (kx g id)) rfl (by omega) ⟨g9, (nQ xs (kx g id)) * 19, none⟩ ((addr_add _ _ _).trans (by rw [Nat.zero_add]))) ?_; clear F a; intro a F
   refine list_val F (wn rfl) rfl rfl (.pointer (some ⟨g9, (nQ xs (kx g id)) * 19 + 18, none⟩)) (ex_fa _ _ _ rfl _ (F.e rfl) 18 r4_fa_85_3_18 ⟨g9, (nQ xs (kx g id)) * 19 + 18, none⟩ rfl) ?_; clear F a; intro a F
   refine list_do (wn rfl) (fun K hK => ?_)
   refine ow_store F M rfl 2 _ _ rfl 0 g9 (xs.flatMap Rv.cs ++ sp).toArray _ rfl ((nQ xs (kx g id)) * 19 + 18) (F.e rfl) _ (F.e rfl) [.int .i64 (max y.exp ep)] rfl r4_info_2_map_size_some_1 (by rw [List.size_toArray, hsz9]; simp only [List.length_cons, List.length_nil]; omega) (by simp [Value.oneCell']) ((xs.set (nQ xs (kx g id)) ({ y with exp := (max y.exp ep) } : Rv)).flatMap Rv.cs ++ sp).toArray (congrArg List.toArray (rows_set (vs := [.int .i64 (max y.exp ep)]) Rv.cs_len hxy (by simp) (Rv.set_18 _ _))) ?_
   clear F a; have Mo := M; clear M; intro a v F M hgr
   refine hK _ _ ?_
   clear hK K
   clear Mo hgr; try clear u
   replace M : Mm w v [⟨g9, ((xs.set (nQ xs (kx g id)) ({ y with exp := (max y.exp ep) } : Rv)).flatMap Rv.cs ++ sp).toArray, 85⟩] := M
   refine wpList_nil ?_
   replace F : Fr 77 a [(0, .slice A xs.length c), (1, .int .u64 g), (2, .agg id.cs.toArray), (3, .int .i64 ep), (6, .pointer (some ⟨g6, 0, none⟩)), (8, .slice none 0 0), (9, .slice (some ⟨g9, 0, none⟩) xs.length c_18), (10, .int .i64 ((nF xs g : Nat) : Int)), (11, .int .i64 ((nT xs g : Nat) : Int)), (12, .pointer (some ⟨g12, 0, none⟩)), (13, .int .i64 ((nQ xs (kx g id) : Nat) : Int)), (16, .bool false), (34, .bool false), (59, .bool true)] := F.keep ⟨rfl, rfl, rfl, rfl, rfl, rfl, rfl, rfl, rfl, rfl, rfl, rfl, rfl, rfl, trivial⟩
   refine then_n ?_
   refine wp_seq ?_
   refine wp_region_lit ?_
   refine list_val F (wn rfl) rfl rfl (.slice (some ⟨g9, 0, none⟩) xs.length c_18) (ex_move _ rfl _ (F.e rfl)) ?_; clear F a; intro a F
   refine list_val F (wn rfl) rfl rfl (.slice (some ⟨g9, 0, none⟩) xs.length c_18) (ex_assign _ rfl _ (F.e rfl)) ?_; clear F a; intro a F
   refine wpList_nil ?_
   replace F : Fr 77 a [(0, .slice A xs.length c), (1, .int .u64 g), (2, .agg id.cs.toArray), (3, .int .i64 ep), (6, .pointer (some ⟨g6, 0, none⟩)), (8, .slice (some ⟨g9, 0, none⟩) xs.length c_18), (9, .slice (some ⟨g9, 0, none⟩) xs.length c_18), (10, .int .i64 ((nF xs g : Nat) : Int)), (11, .int .i64 ((nT xs g : Nat) : Int)), (12, .pointer (some ⟨g12, 0, none⟩)), (13, .int .i64 ((nQ xs (kx g id) : Nat) : Int)), (16, .bool false), (34, .bool false), (59, .bool true)] := F.keep ⟨rfl, rfl, rfl, rfl, rfl, rfl, rfl, rfl, rfl, rfl, rfl, rfl, rfl, rfl, trivial⟩
   refine then_n ?_
   refine wp_ret ?_
   refine then_r ?_
   rw [← hadd]
   exact ret_tmp F rfl rfl ⟨_, _, by rw [List.length_set], Ow.of_block (enc := Rv.cs) (m := 19) (sp := sp) (M.blk 0 _ rfl) (M.lo 0 _ rfl) rfl (by rw [List.length_set]; exact hc9) hcm9 (by simp only [List.length_append, flat_len, List.length_set] at hsz9 ⊢; exact hsz9), M.bel⟩
  have hadd := h.add_new (e := ep) hwf (fun q hq hg hi => heq (by obtain rfl := Option.some.inj (hxy.symm.trans hq); exact hi))
  refine region_tail 11 r4_follows_mixedOrders (by kernel_rfl) M ?_; clear M; intro u M hb
  replace O_x := O_x.below hb
  replace zy := zy.below hb
  clear hb; try clear v
  refine still_val F (wn rfl) rfl rfl (.int .i64 ((nQ xs (kx g id) : Nat) : Int)) (ex_move _ rfl _ (F.e rfl)) ?_; clear F a; intro a F
  refine still_val F (wn rfl) rfl rfl (.int .i64 ((nT xs g : Nat) : Int)) (ex_move _ rfl _ (F.e rfl)) ?_; clear F a; intro a F
  refine still_val F (wn rfl) rfl rfl (.bool true) (ex_bin .lss _ _ _ _ rfl .i64 _ _ (F.e rfl) (F.e rfl) _ (b_lss (decide_eq_true (by omega)))) ?_; clear F a; intro a F
  refine still_val F (wn rfl) rfl rfl (.bool true) (ex_move _ rfl _ (F.e rfl)) ?_; clear F a; intro a F
  refine still_val F (F.wants 51 true rfl (by kernel_rfl) rfl true rfl) rfl rfl (.slice (some ady) xs.length c_18) (ex_move _ rfl _ (F.e rfl)) ?_; clear F a; intro a F
  refine still_val F (F.wants 51 true rfl (by kernel_rfl) rfl true rfl) rfl rfl (.int .i64 ((nQ xs (kx g id) : Nat) : Int)) (ex_move _ rfl _ (F.e rfl)) ?_; clear F a; intro a F
  refine still_val F (F.wants 51 true rfl (by kernel_rfl) rfl true rfl) rfl rfl (.pointer (some (ady.add ((nQ xs (kx g id)) * 19)))) (ex_ix _ _ _ rfl 19 r4_sl_57_19 ady _ _ (F.e rfl) .i64 _ (F.e rfl) (nQ xs (kx g id)) rfl (by omega) (ady.add ((nQ xs (kx g id)) * 19)) rfl) ?_; clear F a; intro a F
  refine still_val F (F.wants 51 true rfl (by kernel_rfl) rfl true rfl) rfl rfl (.pointer (some ((ady.add ((nQ xs (kx g id)) * 19)).add 2))) (ex_fa _ _ _ rfl _ (F.e rfl) 2 r4_fa_85_2_2 ((ady.add ((nQ xs (kx g id)) * 19)).add 2) rfl) ?_; clear F a; intro a F
  refine still_val F (F.wants 51 true rfl (by kernel_rfl) rfl true rfl) rfl rfl (.agg y.id.cs.toArray) (ex_load _ _ rfl _ (F.e rfl) _ (lrow69 y.id (Rv.id_at (zy)))) ?_; clear F a; intro a F
  refine still_val F (F.wants 51 true rfl (by kernel_rfl) rfl true rfl) rfl rfl (.agg id.cs.toArray) (ex_load _ _ rfl _ (F.e rfl) _ (lrow69 id (M.at (i := 1) rfl))) ?_; clear F a; intro a F
  refine still_val F (F.wants 51 true rfl (by kernel_rfl) rfl true rfl) rfl rfl (.bool false) (ex_eq69 _ _ _ rfl y.id id (F.e rfl) (F.e rfl) false (decide_eq_false heq)) ?_; clear F a; intro a F
  refine still_end ?_
  refine list_val F (wn rfl) rfl rfl (.bool false) (ex_pick_t _ _ _ rfl (F.e rfl) _ (F.e rfl)) ?_; clear F a; intro a F
  refine wpList_nil ?_
  replace F : Fr 77 a [(0, .slice A xs.length c), (1, .int .u64 g), (2, .agg id.cs.toArray), (3, .int .i64 ep), (6, .pointer (some ⟨g6, 0, none⟩)), (8, .slice none 0 0), (9, .slice (some ady) xs.length c_18), (10, .int .i64 ((nF xs g : Nat) : Int)), (11, .int .i64 ((nT xs g : Nat) : Int)), (12, .pointer (some ⟨g12, 0, none⟩)), (13, .int .i64 ((nQ xs (kx g id) : Nat) : Int)), (16, .bool false), (34, .bool false), (59, .bool false)] := F.keep ⟨rfl, rfl, rfl, rfl, rfl, rfl, rfl, rfl, rfl, rfl, rfl, rfl, rfl, rfl, trivial⟩
  refine then_n ?_
  refine wp_cond_false (F.e rfl) ?_
  refine wp_skip ?_
  refine then_n ?_
  refine wp_seq ?_
  clear zy
  refine wp_region_lit ?_
  refine list_val F (wn rfl) rfl rfl (.slice (some ady) xs.length c_18) (ex_move _ rfl _ (F.e rfl)) ?_; clear F a; intro a F
  refine list_val F (wn rfl) rfl rfl (.int .i64 ((nQ xs (kx g id) : Nat) : Int)) (ex_move _ rfl _ (F.e rfl)) ?_; clear F a; intro a F
  refine list_val F (wn rfl) rfl rfl (.agg ((⟨false, g, id, ep⟩ : Rv).arr)) (ex_load _ _ rfl _ (F.e rfl) _ (lrow85 (⟨false, g, id, ep⟩ : Rv) (M.at (i := 0) rfl))) ?_; clear F a; intro a F
  refine list_do (wn rfl) (fun K hK => ?_)
  refine ow_bslice F M rfl rfl 57 1 _ rfl #[(0, .agg ((⟨false, g, id, ep⟩ : Rv).arr))] (parts1 (F.e rfl)) ((⟨false, g, id, ep⟩ : Rv).arr) 85 (newrow85 (⟨false, g, id, ep⟩ : Rv) _) ?_
  clear F M a; intro a g75 v F M hb hg
  refine hK _ _ ?_
  clear hK K
  have hap : ∀ k, (Value.slice (some ady) xs.length c_18).ownBlock = some k → g75 ≠ k := fun k hk e => by have := (O_x.bound hk).2.1; omega
  replace O_x := O_x.below hb
  clear hb hg; try clear u
  refine list_do (wn rfl) (fun K hK => ?_)
  refine ow_call rfl rfl F 41 #[.slice (some ady) xs.length c_18, .int .i64 ((nQ xs (kx g id) : Nat) : Int), .slice (some ⟨g75, 0, none⟩) 1 1] (ex_call 41 _ _ rfl rfl r4_ent_41 _ (map3 (F.e rfl) (F.e rfl) (F.e rfl))) (insert_any xs _ _ (nQ xs (kx g id)) (⟨false, g, id, ep⟩ : Rv) _ w _ _ M (i := 0) rfl O_x hap (by omega) hmx) (fun e u hR => ?_)
  obtain ⟨A_76, c_76, he, O_y, hbel⟩ := hR
  refine ⟨.slice A_76 (xs.length + 1) c_76, he, ?_⟩; clear he F a; intro a F
  refine hK _ _ ?_
  clear hK K
  replace M : Mm w u [] := mm_of_bel hbel; clear hbel O_x hap; try clear v
  refine list_val F (wn rfl) rfl rfl (.slice A_76 (xs.length + 1) c_76) (ex_assign _ rfl _ (F.e rfl)) ?_; clear F a; intro a F
  refine wpList_nil ?_
  replace F : Fr 77 a [(0, .slice A xs.length c), (1, .int .u64 g), (2, .agg id.cs.toArray), (3, .int .i64 ep), (6, .pointer (some ⟨g6, 0, none⟩)), (8, .slice A_76 (xs.length + 1) c_76), (9, .slice (some ady) xs.length c_18), (10, .int .i64 ((nF xs g : Nat) : Int)), (11, .int .i64 ((nT xs g : Nat) : Int)), (12, .pointer (some ⟨g12, 0, none⟩)), (13, .int .i64 ((nQ xs (kx g id) : Nat) : Int)), (16, .bool false), (34, .bool false), (59, .bool false)] := F.keep ⟨rfl, rfl, rfl, rfl, rfl, rfl, rfl, rfl, rfl, rfl, rfl, rfl, rfl, rfl, trivial⟩
  refine then_n ?_
  refine wp_ret ?_
  have hlen : (addF xs g id ep).length = xs.length + 1 := by rw [← hadd]; simp; omega
  exact ret_tmp F rfl rfl ⟨_, _, by rw [hlen], by rw [hlen, ← hadd]; exact O_y, M.bel⟩
 have hadd := h.add_new (e := ep) hwf (fun q hq hg => absurd hg (h.nQ_end hq hqt))
 refine region_tail 11 r4_follows_mixedOrders (by kernel_rfl) M ?_; clear M; intro u M hb
 replace O_x := O_x.below hb
 clear hb; try clear v
 refine still_val F (wn rfl) rfl rfl (.int .i64 ((nQ xs (kx g id) : Nat) : Int)) (ex_move _ rfl _ (F.e rfl)) ?_; clear F a; intro a F
 refine still_val F (wn rfl) rfl rfl (.int .i64 ((nT xs g : Nat) : Int)) (ex_move _ rfl _ (F.e rfl)) ?_; clear F a; intro a F
 refine still_val F (wn rfl) rfl rfl (.bool false) (ex_bin .lss _ _ _ _ rfl .i64 _ _ (F.e rfl) (F.e rfl) _ (b_lss (decide_eq_false (by omega)))) ?_; clear F a; intro a F
 refine still_val F (wn rfl) rfl rfl (.bool false) (ex_move _ rfl _ (F.e rfl)) ?_; clear F a; intro a F
 refine still_skip F (F.wants 51 false rfl (by kernel_rfl) rfl false rfl) rfl rfl ?_; clear F a; intro a F
 refine still_skip F (F.wants 51 false rfl (by kernel_rfl) rfl false rfl) rfl rfl ?_; clear F a; intro a F
 refine still_skip F (F.wants 51 false rfl (by kernel_rfl) rfl false rfl) rfl rfl ?_; clear F a; intro a F
 refine still_skip F (F.wants 51 false rfl (by kernel_rfl) rfl false rfl) rfl rfl ?_; clear F a; intro a F
 refine still_skip F (F.wants 51 false rfl (by kernel_rfl) rfl false rfl) rfl rfl ?_; clear F a; intro a F
 refine still_skip F (F.wants 51 false rfl (by kernel_rfl) rfl false rfl) rfl rfl ?_; clear F a; intro a F
 refine still_skip F (F.wants 51 false rfl (by kernel_rfl) rfl false rfl) rfl rfl ?_; clear F a; intro a F
 refine still_end ?_
 refine list_val F (wn rfl) rfl rfl (.bool false) (ex_pick_f _ _ _ rfl (F.e rfl) _ rfl) ?_; clear F a; intro a F
 refine wpList_nil ?_
 replace F : Fr 77 a [(0, .slice A xs.length c), (1, .int .u64 g), (2, .agg id.cs.toArray), (3, .int .i64 ep), (6, .pointer (some ⟨g6, 0, none⟩)), (8, .slice none 0 0), (9, .slice A_18 xs.length c_18), (10, .int .i64 ((nF xs g : Nat) : Int)), (11, .int .i64 ((nT xs g : Nat) : Int)), (12, .pointer (some ⟨g12, 0, none⟩)), (13, .int .i64 ((nQ xs (kx g id) : Nat) : Int)), (16, .bool false), (34, .bool false), (59, .bool false)] := F.keep ⟨rfl, rfl, rfl, rfl, rfl, rfl, rfl, rfl, rfl, rfl, rfl, rfl, rfl, rfl, trivial⟩
 refine then_n ?_
 refine wp_cond_false (F.e rfl) ?_
 refine wp_skip ?_
 refine then_n ?_
 refine wp_seq ?_
 refine wp_region_lit ?_
 refine list_val F (wn rfl) rfl rfl (.slice A_18 xs.length c_18) (ex_move _ rfl _ (F.e rfl)) ?_; clear F a; intro a F
 refine list_val F (wn rfl) rfl rfl (.int .i64 ((nQ xs (kx g id) : Nat) : Int)) (ex_move _ rfl _ (F.e rfl)) ?_; clear F a; intro a F
 refine list_val F (wn rfl) rfl rfl (.agg ((⟨false, g, id, ep⟩ : Rv).arr)) (ex_load _ _ rfl _ (F.e rfl) _ (lrow85 (⟨false, g, id, ep⟩ : Rv) (M.at (i := 0) rfl))) ?_; clear F a; intro a F
 refine list_do (wn rfl) (fun K hK => ?_)
 refine ow_bslice F M rfl rfl 57 1 _ rfl #[(0, .agg ((⟨false, g, id, ep⟩ : Rv).arr))] (parts1 (F.e rfl)) ((⟨false, g, id, ep⟩ : Rv).arr) 85 (newrow85 (⟨false, g, id, ep⟩ : Rv) _) ?_
 clear F M a; intro a g75 v F M hb hg
 refine hK _ _ ?_
 clear hK K
 have hap : ∀ k, (Value.slice A_18 xs.length c_18).ownBlock = some k → g75 ≠ k := fun k hk e => by have := (O_x.bound hk).2.1; omega
 replace O_x := O_x.below hb
 clear hb hg; try clear u
 refine list_do (wn rfl) (fun K hK => ?_)
 refine ow_call rfl rfl F 41 #[.slice A_18 xs.length c_18, .int .i64 ((nQ xs (kx g id) : Nat) : Int), .slice (some ⟨g75, 0, none⟩) 1 1] (ex_call 41 _ _ rfl rfl r4_ent_41 _ (map3 (F.e rfl) (F.e rfl) (F.e rfl))) (insert_any xs _ _ (nQ xs (kx g id)) (⟨false, g, id, ep⟩ : Rv) _ w _ _ M (i := 0) rfl O_x hap (by omega) hmx) (fun e u hR => ?_)
 obtain ⟨A_76, c_76, he, O_y, hbel⟩ := hR
 refine ⟨.slice A_76 (xs.length + 1) c_76, he, ?_⟩; clear he F a; intro a F
 refine hK _ _ ?_
 clear hK K
 replace M : Mm w u [] := mm_of_bel hbel; clear hbel O_x hap; try clear v
 refine list_val F (wn rfl) rfl rfl (.slice A_76 (xs.length + 1) c_76) (ex_assign _ rfl _ (F.e rfl)) ?_; clear F a; intro a F
 refine wpList_nil ?_
 replace F : Fr 77 a [(0, .slice A xs.length c), (1, .int .u64 g), (2, .agg id.cs.toArray), (3, .int .i64 ep), (6, .pointer (some ⟨g6, 0, none⟩)), (8, .slice A_76 (xs.length + 1) c_76), (9, .slice A_18 xs.length c_18), (10, .int .i64 ((nF xs g : Nat) : Int)), (11, .int .i64 ((nT xs g : Nat) : Int)), (12, .pointer (some ⟨g12, 0, none⟩)), (13, .int .i64 ((nQ xs (kx g id) : Nat) : Int)), (16, .bool false), (34, .bool false), (59, .bool false)] := F.keep ⟨rfl, rfl, rfl, rfl, rfl, rfl, rfl, rfl, rfl, rfl, rfl, rfl, rfl, rfl, trivial⟩
 refine then_n ?_
 refine wp_ret ?_
 have hlen : (addF xs g id ep).length = xs.length + 1 := by rw [← hadd]; simp; omega
 exact ret_tmp F rfl rfl ⟨_, _, by rw [hlen], by rw [hlen, ← hadd]; exact O_y, M.bel⟩
set_option maxHeartbeats 1000000 in
set_option maxRecDepth 100000 in
theorem kill_any (xs : List Rv) (h : IsL xs) (A : Option Addr) (c : Nat) (g ep : Int) (w : World) (hr : kRv.C w A xs.length xs) (hc : xs.length ≤ c) (hmx : xs.length ≤ 1000000) :
    Calls Tryz.prog 25 #[.slice A xs.length c, .int .u64 g, .int .i64 ep] w fun r w' => ∃ A' c', r = .returned (.slice A' (killF xs g ep).length c') ∧ Ow kRv 85 w' w.heap.size (.slice A' (killF xs g ep).length c') (killF xs g ep) ∧ Below w.heap.size w w' := by
 have hft := nF_le xs g
 have htl := nT_le xs g
 refine calls_start Tryz.func25 rfl rfl rfl (fun a F => ?_)
 have M : Mm w w [] := Mm.nil w
 refine wp_seq ?_
 refine wp_region_lit ?_
 refine list_val F (wn rfl) rfl rfl (.slice none 0 0) (ex_assign _ rfl _ rfl) ?_; clear F a; intro a F
 refine wpList_nil ?_
 replace F : Fr 51 a [(0, .slice A xs.length c), (1, .int .u64 g), (2, .int .i64 ep), (6, .slice none 0 0)] := F.keep ⟨rfl, rfl, rfl, rfl, trivial⟩
 refine then_n ?_
 refine wp_seq ?_
 refine wp_seq ?_
 refine wp_region_lit ?_
 refine list_val F (wn rfl) rfl rfl (.slice A xs.length c) (ex_move _ rfl _ (F.e rfl)) ?_; clear F a; intro a F
 refine list_do (wn rfl) (fun K hK => ?_)
 refine ow_call rfl rfl F 17 #[.slice A xs.length c] (ex_call 17 _ _ rfl rfl r4_ent_17 _ (map1 (F.e rfl))) (check_any xs h A c _ ((Kd.C_below hr M.bel)) (by omega)) (fun e v hR => ?_)
 obtain ⟨he, hb⟩ := hR
 refine ⟨.int .i64 0, he, ?_⟩; clear he F a; intro a F
 refine hK _ _ ?_
 clear hK K
 replace M := M.below hb; clear hb; try clear w
 refine list_val F (wn rfl) rfl rfl (.bool false) (ex_bin .neq _ _ _ _ rfl .i64 _ _ (F.e rfl) rfl _ (b_neq (by decide))) ?_; clear F a; intro a F
 refine wpList_nil ?_
 replace F : Fr 51 a [(0, .slice A xs.length c), (1, .int .u64 g), (2, .int .i64 ep), (6, .slice none 0 0), (12, .bool false)] := F.keep ⟨rfl, rfl, rfl, rfl, rfl, trivial⟩
 refine then_n ?_
 refine wp_cond_false (F.e rfl) ?_
 refine wp_skip ?_
 refine then_n ?_
 refine wp_seq ?_
 refine wp_region_lit ?_
 refine list_val F (wn rfl) rfl rfl (.slice A xs.length c) (ex_move _ rfl _ (F.e rfl)) ?_; clear F a; intro a F
 refine list_val F (wn rfl) rfl rfl (.int .u64 g) (ex_move _ rfl _ (F.e rfl)) ?_; clear F a; intro a F
 refine list_do (wn rfl) (fun K hK => ?_)
 refine ow_call rfl rfl F 33 #[.slice A xs.length c, .int .u64 g] (ex_call 33 _ _ rfl rfl r4_ent_33 _ (map2 (F.e rfl) (F.e rfl))) (grants_any xs h A c g _ ((Kd.C_below hr M.bel)) hc (by omega)) (fun e u hR => ?_)
 obtain ⟨he, hb⟩ := hR
 refine ⟨.tuple #[.int .i64 ((nF xs g : Nat) : Int), .int .i64 ((nT xs g : Nat) : Int)], he, ?_⟩; clear he F a; intro a F
 refine hK _ _ ?_
 clear hK K
 replace M := M.below hb; clear hb; try clear v
 refine list_val F (wn rfl) rfl rfl (.tuple #[.int .i64 ((nF xs g : Nat) : Int), .int .i64 ((nT xs g : Nat) : Int)]) (ex_move _ rfl _ (F.e rfl)) ?_; clear F a; intro a F
 refine list_val F (wn rfl) rfl rfl (.int .i64 ((nF xs g : Nat) : Int)) (ex_extract _ _ rfl _ (F.e rfl) _ rfl) ?_; clear F a; intro a F
 refine list_val F (wn rfl) rfl rfl (.int .i64 ((nT xs g : Nat) : Int)) (ex_extract _ _ rfl _ (F.e rfl) _ rfl) ?_; clear F a; intro a F
 refine list_val F (wn rfl) rfl rfl (.int .i64 ((nF xs g : Nat) : Int)) (ex_assign _ rfl _ (F.e rfl)) ?_; clear F a; intro a F
 refine list_val F (wn rfl) rfl rfl (.int .i64 ((nT xs g : Nat) : Int)) (ex_assign _ rfl _ (F.e rfl)) ?_; clear F a; intro a F
 refine wpList_nil ?_
 replace F : Fr 51 a [(0, .slice A xs.length c), (1, .int .u64 g), (2, .int .i64 ep), (6, .slice none 0 0), (7, .int .i64 ((nF xs g : Nat) : Int)), (8, .int .i64 ((nT xs g : Nat) : Int)), (12, .bool false)] := F.keep ⟨rfl, rfl, rfl, rfl, rfl, rfl, rfl, trivial⟩
 refine then_n ?_
 refine wp_seq ?_
 refine wp_seq ?_
 by_cases hft2 : nF xs g < nT xs g
 ·
  obtain ⟨x, hx⟩ : ∃ x, xs[(nF xs g)]? = some x := ⟨_, List.getElem?_eq_getElem (by omega)⟩
  obtain ⟨ad, hA, z⟩ := C_ix hr hx
  subst hA
  have hwa := h.whole_at hft2 hx
  by_cases hw : x.whole = true
  ·
   have hkf := h.kill_eq (e := ep) (e' := max ep x.exp) (by rw [hwa.2.1, hw, hwa.2.2 hw]; rfl)
   refine wp_region_lit ?_
   refine list_val F (wn rfl) rfl rfl (.int .i64 ((nT xs g : Nat) : Int)) (ex_move _ rfl _ (F.e rfl)) ?_; clear F a; intro a F
   refine list_val F (wn rfl) rfl rfl (.int .i64 ((nF xs g : Nat) : Int)) (ex_move _ rfl _ (F.e rfl)) ?_; clear F a; intro a F
   refine list_val F (wn rfl) rfl rfl (.bool true) (ex_bin .gtr _ _ _ _ rfl .i64 _ _ (F.e rfl) (F.e rfl) _ (b_gtr (decide_eq_true (by omega)))) ?_; clear F a; intro a F
   refine list_val F (wn rfl) rfl rfl (.bool true) (ex_move _ rfl _ (F.e rfl)) ?_; clear F a; intro a F
   refine list_val F (F.wants 22 true rfl (by kernel_rfl) rfl true rfl) rfl rfl (.slice (some ad) xs.length c) (ex_move _ rfl _ (F.e rfl)) ?_; clear F a; intro a F
   refine list_val F (F.wants 22 true rfl (by kernel_rfl) rfl true rfl) rfl rfl (.int .i64 ((nF xs g : Nat) : Int)) (ex_move _ rfl _ (F.e rfl)) ?_; clear F a; intro a F
   refine list_val F (F.wants 22 true rfl (by kernel_rfl) rfl true rfl) rfl rfl (.pointer (some (ad.add ((nF xs g) * 19)))) (ex_ix _ _ _ rfl 19 r4_sl_57_19 ad _ _ (F.e rfl) .i64 _ (F.e rfl) (nF xs g) rfl (by omega) (ad.add ((nF xs g) * 19)) rfl) ?_; clear F a; intro a F
   refine list_val F (F.wants 22 true rfl (by kernel_rfl) rfl true rfl) rfl rfl (.pointer (some (ad.add ((nF xs g) * 19)))) (ex_fa _ _ _ rfl _ (F.e rfl) 0 r4_fa_85_0_0 (ad.add ((nF xs g) * 19)) rfl) ?_; clear F a; intro a F
   refine list_val F (F.wants 22 true rfl (by kernel_rfl) rfl true rfl) rfl rfl (.bool true) (ex_load _ _ rfl _ (F.e rfl) _ (lv1 r4_one_4 ((z.below M.bel).cell 0 _ (Rv.cs_0e hw)))) ?_; clear F a; intro a F
   refine list_val F (wn rfl) rfl rfl (.bool true) (ex_pick_t _ _ _ rfl (F.e rfl) _ (F.e rfl)) ?_; clear F a; intro a F
   refine wpList_nil ?_
   replace F : Fr 51 a [(0, .slice (some ad) xs.length c), (1, .int .u64 g), (2, .int .i64 ep), (6, .slice none 0 0), (7, .int .i64 ((nF xs g : Nat) : Int)), (8, .int .i64 ((nT xs g : Nat) : Int)), (12, .bool false), (28, .bool true)] := F.keep ⟨rfl, rfl, rfl, rfl, rfl, rfl, rfl, rfl, trivial⟩
   refine then_n ?_
   refine wp_cond_true (F.e rfl) ?_
   refine wp_region_lit ?_
   refine list_val F (wn rfl) rfl rfl (.int .i64 ep) (ex_move _ rfl _ (F.e rfl)) ?_; clear F a; intro a F
   refine list_val F (wn rfl) rfl rfl (.slice (some ad) xs.length c) (ex_move _ rfl _ (F.e rfl)) ?_; clear F a; intro a F
   refine list_val F (wn rfl) rfl rfl (.int .i64 ((nF xs g : Nat) : Int)) (ex_move _ rfl _ (F.e rfl)) ?_; clear F a; intro a F
   refine list_val F (wn rfl) rfl rfl (.pointer (some (ad.add ((nF xs g) * 19)))) (ex_ix _ _ _ rfl 19 r4_sl_57_19 ad _ _ (F.e rfl) .i64 _ (F.e rfl) (nF xs g) rfl (by omega) (ad.add ((nF xs g) * 19)) rfl) ?_; clear F a; intro a F
   refine list_val F (wn rfl) rfl rfl (.pointer (some ((ad.add ((nF xs g) * 19)).add 18))) (ex_fa _ _ _ rfl _ (F.e rfl) 18 r4_fa_85_3_18 ((ad.add ((nF xs g) * 19)).add 18) rfl) ?_; clear F a; intro a F
   refine list_val F (wn rfl) rfl rfl (.int .i64 x.exp) (ex_load _ _ rfl _ (F.e rfl) _ (lv1 r4_one_2 ((z.below M.bel).cell 18 _ (Rv.cs_18 _)))) ?_; clear F a; intro a F
   refine list_val F (wn rfl) rfl rfl (.int .i64 (max ep x.exp)) (ex_max _ _ _ _ rfl .i64 ep x.exp (F.e rfl) (F.e rfl)) ?_; clear F a; intro a F
   refine list_val F (wn rfl) rfl rfl (.int .i64 (max ep x.exp)) (ex_assign _ rfl _ (F.e rfl)) ?_; clear F a; intro a F
   refine wpList_nil ?_
   replace F : Fr 51 a [(0, .slice (some ad) xs.length c), (1, .int .u64 g), (2, .int .i64 (max ep x.exp)), (6, .slice none 0 0), (7, .int .i64 ((nF xs g : Nat) : Int)), (8, .int .i64 ((nT xs g : Nat) : Int)), (12, .bool false), (28, .bool true)] := F.keep ⟨rfl, rfl, rfl, rfl, rfl, rfl, rfl, rfl, trivial⟩
   refine then_n ?_
   refine wp_seq ?_
   refine wp_region_lit ?_
   refine list_val F (wn rfl) rfl rfl (.slice (some ad) xs.length c) (ex_move _ rfl _ (F.e rfl)) ?_; clear F a; intro a F
   refine list_val F (wn rfl) rfl rfl (.int .i64 ((nF xs g : Nat) : Int)) (ex_move _ rfl _ (F.e rfl)) ?_; clear F a; intro a F
   refine list_val F (wn rfl) rfl rfl (.slice (some ad) (nF xs g) c) (ex_cutto 57 85 19 Tryz.underlying57 s85 _ _ rfl (some ad) xs.length c (F.e rfl) _ (F.e rfl) (nF xs g) rfl (by omega)) ?_; clear F a; intro a F
   refine list_do (wn rfl) (fun K hK => ?_)
   refine ow_call rfl rfl F 38 #[.slice (some ad) (nF xs g) c] (ex_call 38 _ _ rfl rfl r4_ent_38 _ (map1 (F.e rfl))) (clone_any (xs.take (nF xs g)) _ _ _ _ ((C_fst (Kd.C_below hr M.bel) (by omega))) (by rw [List.length_take]; omega)) (fun e v hR => ?_)
   obtain ⟨A_39, c_39, he, O_x, hb⟩ := hR
   replace O_x := O_x.low M.bel.size
   have hcl_39 := O_x.rd.2.2
   refine ⟨.slice A_39 ((xs.take (nF xs g)).length) c_39, he, ?_⟩; clear he F a; intro a F
   refine hK _ _ ?_
   clear hK K
   replace M := M.below hb; clear hb; try clear u
   refine list_val F (wn rfl) rfl rfl (.slice A_39 ((xs.take (nF xs g)).length) c_39) (ex_assign _ rfl _ (F.e rfl)) ?_; clear F a; intro a F
   refine wpList_nil ?_
   replace F : Fr 51 a [(0, .slice (some ad) xs.length c), (1, .int .u64 g), (2, .int .i64 (max ep x.exp)), (6, .slice none 0 0), (7, .int .i64 ((nF xs g : Nat) : Int)), (8, .int .i64 ((nT xs g : Nat) : Int)), (9, .slice A_39 ((xs.take (nF xs g)).length) c_39), (12, .bool false), (28, .bool true)] := F.keep ⟨rfl, rfl, rfl, rfl, rfl, rfl, rfl, rfl, rfl, trivial⟩
   refine then_n ?_
   refine wp_seq ?_
   refine wp_region_lit ?_
   refine list_val F (wn rfl) rfl rfl (.slice A_39 ((xs.take (nF xs g)).length) c_39) (ex_move _ rfl _ (F.e rfl)) ?_; clear F a; intro a F
   refine list_val F (wn rfl) rfl rfl (.int .u64 g) (ex_move _ rfl _ (F.e rfl)) ?_; clear F a; intro a F
   refine list_val F (wn rfl) rfl rfl (.int .i64 (max ep x.exp)) (ex_move _ rfl _ (F.e rfl)) ?_; clear F a; intro a F
   refine list_val F (wn rfl) rfl rfl (.agg ((⟨true, g, (zBs 16), (max ep x.exp)⟩ : Rv).arr)) (ex_build 85 _ rfl #[(0, .bool true), (1, .int .u64 g), (3, .int .i64 (max ep x.exp))] (parts3 rfl (F.e rfl) (F.e rfl)) (.agg ((⟨true, g, (zBs 16), (max ep x.exp)⟩ : Rv).arr)) (build85_013 true g (max ep x.exp) _)) ?_; clear F a; intro a F
   refine list_do (wn rfl) (fun K hK => ?_)
   refine ow_bslice F M rfl rfl 57 1 _ rfl #[(0, .agg ((⟨true, g, (zBs 16), (max ep x.exp)⟩ : Rv).arr))] (parts1 (F.e rfl)) ((⟨true, g, (zBs 16), (max ep x.exp)⟩ : Rv).arr) 85 (newrow85 (⟨true, g, (zBs 16), (max ep x.exp)⟩ : Rv) _) ?_
   clear F M a; intro a g44 u F M hb hg
   refine hK _ _ ?_
   clear hK K
   replace O_x := O_x.below hb
   clear hb hg; try clear v
   refine list_do (wn rfl) (fun K hK => ?_)
   have hxx := C_one (enc := Rv.cs) (hl := Rv.cs_len) (h1 := Rv.cs_one) (M.at (i := 0) rfl)
   replace M : Mm w u [] := (by refine M.pick' [] _ ?_ (by decide); exact trivial)
   refine og_app F M Tryz.underlying57 i85 z85s (by decide) (by decide) (Nat.le_refl _) M.bel.size trivial rfl rfl rfl _ _ rfl (.slice A_39 ((xs.take (nF xs g)).length) c_39) (xs.take (nF xs g)) ([(⟨true, g, (zBs 16), (max ep x.exp)⟩ : Rv)]) (xs.take (nF xs g) ++ [(⟨true, g, (zBs 16), (max ep x.exp)⟩ : Rv)]) rfl (some ⟨g44, 0, none⟩) 1 1 (F.e rfl) (F.e rfl) O_x (hxx) (by rw [List.length_take]; omega) ?_
   clear F a; have Mo := M; clear M; intro a A_45 c_45 v F M Oz hgr
   refine hK _ _ ?_
   clear hK K
   clear O_x Mo hgr; have O_x := Oz; clear Oz; try clear u
   clear hxx
   refine list_val F (wn rfl) rfl rfl (.slice A_45 ((xs.take (nF xs g) ++ [(⟨true, g, (zBs 16), (max ep x.exp)⟩ : Rv)]).length) c_45) (ex_assign _ rfl _ (F.e rfl)) ?_; clear F a; intro a F
   refine wpList_nil ?_
   replace F : Fr 51 a [(0, .slice (some ad) xs.length c), (1, .int .u64 g), (2, .int .i64 (max ep x.exp)), (6, .slice none 0 0), (7, .int .i64 ((nF xs g : Nat) : Int)), (8, .int .i64 ((nT xs g : Nat) : Int)), (9, .slice A_45 ((xs.take (nF xs g) ++ [(⟨true, g, (zBs 16), (max ep x.exp)⟩ : Rv)]).length) c_45), (12, .bool false), (28, .bool true)] := F.keep ⟨rfl, rfl, rfl, rfl, rfl, rfl, rfl, rfl, rfl, trivial⟩
   refine then_n ?_
   refine wp_seq ?_
   refine wp_region_lit ?_
   refine list_val F (wn rfl) rfl rfl (.slice A_45 ((xs.take (nF xs g) ++ [(⟨true, g, (zBs 16), (max ep x.exp)⟩ : Rv)]).length) c_45) (ex_move _ rfl _ (F.e rfl)) ?_; clear F a; intro a F
   refine list_val F (wn rfl) rfl rfl (.slice (some ad) xs.length c) (ex_move _ rfl _ (F.e rfl)) ?_; clear F a; intro a F
   refine list_val F (wn rfl) rfl rfl (.int .i64 ((nT xs g : Nat) : Int)) (ex_move _ rfl _ (F.e rfl)) ?_; clear F a; intro a F
   refine list_val F (wn rfl) rfl rfl (.slice (cutA 19 (some ad) (nT xs g) c) (xs.length - nT xs g) (c - nT xs g)) (ex_cutend 57 85 19 Tryz.underlying57 s85 _ _ rfl (some ad) xs.length c (F.e rfl) _ (F.e rfl) (nT xs g) rfl (by omega)) ?_; clear F a; intro a F
   refine list_do (wn rfl) (fun K hK => ?_)
   replace M : Mm w v [] := (by refine M.pick' [] _ ?_ (by decide); exact trivial)
   refine og_app F M Tryz.underlying57 i85 z85s (by decide) (by decide) (Nat.le_refl _) M.bel.size trivial rfl rfl rfl _ _ rfl (.slice A_45 ((xs.take (nF xs g) ++ [(⟨true, g, (zBs 16), (max ep x.exp)⟩ : Rv)]).length) c_45) (xs.take (nF xs g) ++ [(⟨true, g, (zBs 16), (max ep x.exp)⟩ : Rv)]) (xs.drop (nT xs g)) (killF xs g ep) hkf (cutA 19 (some ad) (nT xs g) c) (xs.length - nT xs g) (c - nT xs g) (F.e rfl) (F.e rfl) O_x ((C_snd (Kd.C_below hr M.bel) (by omega) hc)) (by simp only [List.length_append, List.length_take, List.length_cons, List.length_nil]; omega) ?_
   clear F a; have Mo := M; clear M; intro a A_50 c_50 u F M Oz hgr
   refine hK _ _ ?_
   clear hK K
   clear O_x Mo hgr; have O_x := Oz; clear Oz; try clear v
   refine list_val F (wn rfl) rfl rfl (.slice A_50 ((killF xs g ep).length) c_50) (ex_assign _ rfl _ (F.e rfl)) ?_; clear F a; intro a F
   refine wpList_nil ?_
   replace F : Fr 51 a [(0, .slice (some ad) xs.length c), (1, .int .u64 g), (2, .int .i64 (max ep x.exp)), (6, .slice A_50 ((killF xs g ep).length) c_50), (7, .int .i64 ((nF xs g : Nat) : Int)), (8, .int .i64 ((nT xs g : Nat) : Int)), (9, .slice A_45 ((xs.take (nF xs g) ++ [(⟨true, g, (zBs 16), (max ep x.exp)⟩ : Rv)]).length) c_45), (12, .bool false), (28, .bool true)] := F.keep ⟨rfl, rfl, rfl, rfl, rfl, rfl, rfl, rfl, rfl, trivial⟩
   refine then_n ?_
   refine wp_ret ?_
   exact ret_tmp F rfl rfl ⟨_, _, rfl, O_x, M.bel⟩
  have hkf := h.kill_eq (e := ep) (e' := ep) (by rw [hwa.2.1, Bool.eq_false_iff.2 hw]; rfl)
  refine wp_region_lit ?_
  refine list_val F (wn rfl) rfl rfl (.int .i64 ((nT xs g : Nat) : Int)) (ex_move _ rfl _ (F.e rfl)) ?_; clear F a; intro a F
  refine list_val F (wn rfl) rfl rfl (.int .i64 ((nF xs g : Nat) : Int)) (ex_move _ rfl _ (F.e rfl)) ?_; clear F a; intro a F
  refine list_val F (wn rfl) rfl rfl (.bool true) (ex_bin .gtr _ _ _ _ rfl .i64 _ _ (F.e rfl) (F.e rfl) _ (b_gtr (decide_eq_true (by omega)))) ?_; clear F a; intro a F
  refine list_val F (wn rfl) rfl rfl (.bool true) (ex_move _ rfl _ (F.e rfl)) ?_; clear F a; intro a F
  refine list_val F (F.wants 22 true rfl (by kernel_rfl) rfl true rfl) rfl rfl (.slice (some ad) xs.length c) (ex_move _ rfl _ (F.e rfl)) ?_; clear F a; intro a F
  refine list_val F (F.wants 22 true rfl (by kernel_rfl) rfl true rfl) rfl rfl (.int .i64 ((nF xs g : Nat) : Int)) (ex_move _ rfl _ (F.e rfl)) ?_; clear F a; intro a F
  refine list_val F (F.wants 22 true rfl (by kernel_rfl) rfl true rfl) rfl rfl (.pointer (some (ad.add ((nF xs g) * 19)))) (ex_ix _ _ _ rfl 19 r4_sl_57_19 ad _ _ (F.e rfl) .i64 _ (F.e rfl) (nF xs g) rfl (by omega) (ad.add ((nF xs g) * 19)) rfl) ?_; clear F a; intro a F
  refine list_val F (F.wants 22 true rfl (by kernel_rfl) rfl true rfl) rfl rfl (.pointer (some (ad.add ((nF xs g) * 19)))) (ex_fa _ _ _ rfl _ (F.e rfl) 0 r4_fa_85_0_0 (ad.add ((nF xs g) * 19)) rfl) ?_; clear F a; intro a F
  refine list_val F (F.wants 22 true rfl (by kernel_rfl) rfl true rfl) rfl rfl (.bool false) (ex_load _ _ rfl _ (F.e rfl) _ (lv1 r4_one_4 ((z.below M.bel).cell 0 _ (Rv.cs_0e (Bool.eq_false_iff.2 hw))))) ?_; clear F a; intro a F
  refine list_val F (wn rfl) rfl rfl (.bool false) (ex_pick_t _ _ _ rfl (F.e rfl) _ (F.e rfl)) ?_; clear F a; intro a F
  refine wpList_nil ?_
  replace F : Fr 51 a [(0, .slice (some ad) xs.length c), (1, .int .u64 g), (2, .int .i64 ep), (6, .slice none 0 0), (7, .int .i64 ((nF xs g : Nat) : Int)), (8, .int .i64 ((nT xs g : Nat) : Int)), (12, .bool false), (28, .bool false)] := F.keep ⟨rfl, rfl, rfl, rfl, rfl, rfl, rfl, rfl, trivial⟩
  refine then_n ?_
  refine wp_cond_false (F.e rfl) ?_
  refine wp_skip ?_
  refine then_n ?_
  refine wp_seq ?_
  refine wp_region_lit ?_
  refine list_val F (wn rfl) rfl rfl (.slice (some ad) xs.length c) (ex_move _ rfl _ (F.e rfl)) ?_; clear F a; intro a F
  refine list_val F (wn rfl) rfl rfl (.int .i64 ((nF xs g : Nat) : Int)) (ex_move _ rfl _ (F.e rfl)) ?_; clear F a; intro a F
  refine list_val F (wn rfl) rfl rfl (.slice (some ad) (nF xs g) c) (ex_cutto 57 85 19 Tryz.underlying57 s85 _ _ rfl (some ad) xs.length c (F.e rfl) _ (F.e rfl) (nF xs g) rfl (by omega)) ?_; clear F a; intro a F
  refine list_do (wn rfl) (fun K hK => ?_)
  refine ow_call rfl rfl F 38 #[.slice (some ad) (nF xs g) c] (ex_call 38 _ _ rfl rfl r4_ent_38 _ (map1 (F.e rfl))) (clone_any (xs.take (nF xs g)) _ _ _ _ ((C_fst (Kd.C_below hr M.bel) (by omega))) (by rw [List.length_take]; omega)) (fun e v hR => ?_)
  obtain ⟨A_39, c_39, he, O_x, hb⟩ := hR
  replace O_x := O_x.low M.bel.size
  have hcl_39 := O_x.rd.2.2
  refine ⟨.slice A_39 ((xs.take (nF xs g)).length) c_39, he, ?_⟩; clear he F a; intro a F
  refine hK _ _ ?_
  clear hK K
  replace M := M.below hb; clear hb; try clear u
  refine list_val F (wn rfl) rfl rfl (.slice A_39 ((xs.take (nF xs g)).length) c_39) (ex_assign _ rfl _ (F.e rfl)) ?_; clear F a; intro a F
  refine wpList_nil ?_
  replace F : Fr 51 a [(0, .slice (some ad) xs.length c), (1, .int .u64 g), (2, .int .i64 ep), (6, .slice none 0 0), (7, .int .i64 ((nF xs g : Nat) : Int)), (8, .int .i64 ((nT xs g : Nat) : Int)), (9, .slice A_39 ((xs.take (nF xs g)).length) c_39), (12, .bool false), (28, .bool false)] := F.keep ⟨rfl, rfl, rfl, rfl, rfl, rfl, rfl, rfl, rfl, trivial⟩
  refine then_n ?_
  refine wp_seq ?_
  refine wp_region_lit ?_
  refine list_val F (wn rfl) rfl rfl (.slice A_39 ((xs.take (nF xs g)).length) c_39) (ex_move _ rfl _ (F.e rfl)) ?_; clear F a; intro a F
  refine list_val F (wn rfl) rfl rfl (.int .u64 g) (ex_move _ rfl _ (F.e rfl)) ?_; clear F a; intro a F
  refine list_val F (wn rfl) rfl rfl (.int .i64 ep) (ex_move _ rfl _ (F.e rfl)) ?_; clear F a; intro a F
  refine list_val F (wn rfl) rfl rfl (.agg ((⟨true, g, (zBs 16), ep⟩ : Rv).arr)) (ex_build 85 _ rfl #[(0, .bool true), (1, .int .u64 g), (3, .int .i64 ep)] (parts3 rfl (F.e rfl) (F.e rfl)) (.agg ((⟨true, g, (zBs 16), ep⟩ : Rv).arr)) (build85_013 true g ep _)) ?_; clear F a; intro a F
  refine list_do (wn rfl) (fun K hK => ?_)
  refine ow_bslice F M rfl rfl 57 1 _ rfl #[(0, .agg ((⟨true, g, (zBs 16), ep⟩ : Rv).arr))] (parts1 (F.e rfl)) ((⟨true, g, (zBs 16), ep⟩ : Rv).arr) 85 (newrow85 (⟨true, g, (zBs 16), ep⟩ : Rv) _) ?_
  clear F M a; intro a g44 u F M hb hg
  refine hK _ _ ?_
  clear hK K
  replace O_x := O_x.below hb
  clear hb hg; try clear v
  refine list_do (wn rfl) (fun K hK => ?_)
  have hxx := C_one (enc := Rv.cs) (hl := Rv.cs_len) (h1 := Rv.cs_one) (M.at (i := 0) rfl)
  replace M : Mm w u [] := (by refine M.pick' [] _ ?_ (by decide); exact trivial)
  refine og_app F M Tryz.underlying57 i85 z85s (by decide) (by decide) (Nat.le_refl _) M.bel.size trivial rfl rfl rfl _ _ rfl (.slice A_39 ((xs.take (nF xs g)).length) c_39) (xs.take (nF xs g)) ([(⟨true, g, (zBs 16), ep⟩ : Rv)]) (xs.take (nF xs g) ++ [(⟨true, g, (zBs 16), ep⟩ : Rv)]) rfl (some ⟨g44, 0, none⟩) 1 1 (F.e rfl) (F.e rfl) O_x (hxx) (by rw [List.length_take]; omega) ?_
  clear F a; have Mo := M; clear M; intro a A_45 c_45 v F M Oz hgr
  refine hK _ _ ?_
  clear hK K
  clear O_x Mo hgr; have O_x := Oz; clear Oz; try clear u
  clear hxx
  refine list_val F (wn rfl) rfl rfl (.slice A_45 ((xs.take (nF xs g) ++ [(⟨true, g, (zBs 16), ep⟩ : Rv)]).length) c_45) (ex_assign _ rfl _ (F.e rfl)) ?_; clear F a; intro a F
  refine wpList_nil ?_
  replace F : Fr 51 a [(0, .slice (some ad) xs.length c), (1, .int .u64 g), (2, .int .i64 ep), (6, .slice none 0 0), (7, .int .i64 ((nF xs g : Nat) : Int)), (8, .int .i64 ((nT xs g : Nat) : Int)), (9, .slice A_45 ((xs.take (nF xs g) ++ [(⟨true, g, (zBs 16), ep⟩ : Rv)]).length) c_45), (12, .bool false), (28, .bool false)] := F.keep ⟨rfl, rfl, rfl, rfl, rfl, rfl, rfl, rfl, rfl, trivial⟩
  refine then_n ?_
  refine wp_seq ?_
  refine wp_region_lit ?_
  refine list_val F (wn rfl) rfl rfl (.slice A_45 ((xs.take (nF xs g) ++ [(⟨true, g, (zBs 16), ep⟩ : Rv)]).length) c_45) (ex_move _ rfl _ (F.e rfl)) ?_; clear F a; intro a F
  refine list_val F (wn rfl) rfl rfl (.slice (some ad) xs.length c) (ex_move _ rfl _ (F.e rfl)) ?_; clear F a; intro a F
  refine list_val F (wn rfl) rfl rfl (.int .i64 ((nT xs g : Nat) : Int)) (ex_move _ rfl _ (F.e rfl)) ?_; clear F a; intro a F
  refine list_val F (wn rfl) rfl rfl (.slice (cutA 19 (some ad) (nT xs g) c) (xs.length - nT xs g) (c - nT xs g)) (ex_cutend 57 85 19 Tryz.underlying57 s85 _ _ rfl (some ad) xs.length c (F.e rfl) _ (F.e rfl) (nT xs g) rfl (by omega)) ?_; clear F a; intro a F
  refine list_do (wn rfl) (fun K hK => ?_)
  replace M : Mm w v [] := (by refine M.pick' [] _ ?_ (by decide); exact trivial)
  refine og_app F M Tryz.underlying57 i85 z85s (by decide) (by decide) (Nat.le_refl _) M.bel.size trivial rfl rfl rfl _ _ rfl (.slice A_45 ((xs.take (nF xs g) ++ [(⟨true, g, (zBs 16), ep⟩ : Rv)]).length) c_45) (xs.take (nF xs g) ++ [(⟨true, g, (zBs 16), ep⟩ : Rv)]) (xs.drop (nT xs g)) (killF xs g ep) hkf (cutA 19 (some ad) (nT xs g) c) (xs.length - nT xs g) (c - nT xs g) (F.e rfl) (F.e rfl) O_x ((C_snd (Kd.C_below hr M.bel) (by omega) hc)) (by simp only [List.length_append, List.length_take, List.length_cons, List.length_nil]; omega) ?_
  clear F a; have Mo := M; clear M; intro a A_50 c_50 u F M Oz hgr
  refine hK _ _ ?_
  clear hK K
  clear O_x Mo hgr; have O_x := Oz; clear Oz; try clear v
  refine list_val F (wn rfl) rfl rfl (.slice A_50 ((killF xs g ep).length) c_50) (ex_assign _ rfl _ (F.e rfl)) ?_; clear F a; intro a F
  refine wpList_nil ?_
  replace F : Fr 51 a [(0, .slice (some ad) xs.length c), (1, .int .u64 g), (2, .int .i64 ep), (6, .slice A_50 ((killF xs g ep).length) c_50), (7, .int .i64 ((nF xs g : Nat) : Int)), (8, .int .i64 ((nT xs g : Nat) : Int)), (9, .slice A_45 ((xs.take (nF xs g) ++ [(⟨true, g, (zBs 16), ep⟩ : Rv)]).length) c_45), (12, .bool false), (28, .bool false)] := F.keep ⟨rfl, rfl, rfl, rfl, rfl, rfl, rfl, rfl, rfl, trivial⟩
  refine then_n ?_
  refine wp_ret ?_
  exact ret_tmp F rfl rfl ⟨_, _, rfl, O_x, M.bel⟩
 have hkf := h.kill_eq (e := ep) (e' := ep) (by rw [(h.no_whole hft2).1]; rfl)
 refine wp_region_lit ?_
 refine list_val F (wn rfl) rfl rfl (.int .i64 ((nT xs g : Nat) : Int)) (ex_move _ rfl _ (F.e rfl)) ?_; clear F a; intro a F
 refine list_val F (wn rfl) rfl rfl (.int .i64 ((nF xs g : Nat) : Int)) (ex_move _ rfl _ (F.e rfl)) ?_; clear F a; intro a F
 refine list_val F (wn rfl) rfl rfl (.bool false) (ex_bin .gtr _ _ _ _ rfl .i64 _ _ (F.e rfl) (F.e rfl) _ (b_gtr (decide_eq_false (by omega)))) ?_; clear F a; intro a F
 refine list_val F (wn rfl) rfl rfl (.bool false) (ex_move _ rfl _ (F.e rfl)) ?_; clear F a; intro a F
 refine list_skip F (F.wants 22 false rfl (by kernel_rfl) rfl false rfl) rfl rfl ?_; clear F a; intro a F
 refine list_skip F (F.wants 22 false rfl (by kernel_rfl) rfl false rfl) rfl rfl ?_; clear F a; intro a F
 refine list_skip F (F.wants 22 false rfl (by kernel_rfl) rfl false rfl) rfl rfl ?_; clear F a; intro a F
 refine list_skip F (F.wants 22 false rfl (by kernel_rfl) rfl false rfl) rfl rfl ?_; clear F a; intro a F
 refine list_skip F (F.wants 22 false rfl (by kernel_rfl) rfl false rfl) rfl rfl ?_; clear F a; intro a F
 refine list_val F (wn rfl) rfl rfl (.bool false) (ex_pick_f _ _ _ rfl (F.e rfl) _ rfl) ?_; clear F a; intro a F
 refine wpList_nil ?_
 replace F : Fr 51 a [(0, .slice A xs.length c), (1, .int .u64 g), (2, .int .i64 ep), (6, .slice none 0 0), (7, .int .i64 ((nF xs g : Nat) : Int)), (8, .int .i64 ((nT xs g : Nat) : Int)), (12, .bool false), (28, .bool false)] := F.keep ⟨rfl, rfl, rfl, rfl, rfl, rfl, rfl, rfl, trivial⟩
 refine then_n ?_
 refine wp_cond_false (F.e rfl) ?_
 refine wp_skip ?_
 refine then_n ?_
 refine wp_seq ?_
 refine wp_region_lit ?_
 refine list_val F (wn rfl) rfl rfl (.slice A xs.length c) (ex_move _ rfl _ (F.e rfl)) ?_; clear F a; intro a F
 refine list_val F (wn rfl) rfl rfl (.int .i64 ((nF xs g : Nat) : Int)) (ex_move _ rfl _ (F.e rfl)) ?_; clear F a; intro a F
 refine list_val F (wn rfl) rfl rfl (.slice A (nF xs g) c) (ex_cutto 57 85 19 Tryz.underlying57 s85 _ _ rfl A xs.length c (F.e rfl) _ (F.e rfl) (nF xs g) rfl (by omega)) ?_; clear F a; intro a F
 refine list_do (wn rfl) (fun K hK => ?_)
 refine ow_call rfl rfl F 38 #[.slice A (nF xs g) c] (ex_call 38 _ _ rfl rfl r4_ent_38 _ (map1 (F.e rfl))) (clone_any (xs.take (nF xs g)) _ _ _ _ ((C_fst (Kd.C_below hr M.bel) (by omega))) (by rw [List.length_take]; omega)) (fun e v hR => ?_)
 obtain ⟨A_39, c_39, he, O_x, hb⟩ := hR
 replace O_x := O_x.low M.bel.size
 have hcl_39 := O_x.rd.2.2
 refine ⟨.slice A_39 ((xs.take (nF xs g)).length) c_39, he, ?_⟩; clear he F a; intro a F
 refine hK _ _ ?_
 clear hK K
 replace M := M.below hb; clear hb; try clear u
 refine list_val F (wn rfl) rfl rfl (.slice A_39 ((xs.take (nF xs g)).length) c_39) (ex_assign _ rfl _ (F.e rfl)) ?_; clear F a; intro a F
 refine wpList_nil ?_
 replace F : Fr 51 a [(0, .slice A xs.length c), (1, .int .u64 g), (2, .int .i64 ep), (6, .slice none 0 0), (7, .int .i64 ((nF xs g : Nat) : Int)), (8, .int .i64 ((nT xs g : Nat) : Int)), (9, .slice A_39 ((xs.take (nF xs g)).length) c_39), (12, .bool false), (28, .bool false)] := F.keep ⟨rfl, rfl, rfl, rfl, rfl, rfl, rfl, rfl, rfl, trivial⟩
 refine then_n ?_
 refine wp_seq ?_
 refine wp_region_lit ?_
 refine list_val F (wn rfl) rfl rfl (.slice A_39 ((xs.take (nF xs g)).length) c_39) (ex_move _ rfl _ (F.e rfl)) ?_; clear F a; intro a F
 refine list_val F (wn rfl) rfl rfl (.int .u64 g) (ex_move _ rfl _ (F.e rfl)) ?_; clear F a; intro a F
 refine list_val F (wn rfl) rfl rfl (.int .i64 ep) (ex_move _ rfl _ (F.e rfl)) ?_; clear F a; intro a F
 refine list_val F (wn rfl) rfl rfl (.agg ((⟨true, g, (zBs 16), ep⟩ : Rv).arr)) (ex_build 85 _ rfl #[(0, .bool true), (1, .int .u64 g), (3, .int .i64 ep)] (parts3 rfl (F.e rfl) (F.e rfl)) (.agg ((⟨true, g, (zBs 16), ep⟩ : Rv).arr)) (build85_013 true g ep _)) ?_; clear F a; intro a F
 refine list_do (wn rfl) (fun K hK => ?_)
 refine ow_bslice F M rfl rfl 57 1 _ rfl #[(0, .agg ((⟨true, g, (zBs 16), ep⟩ : Rv).arr))] (parts1 (F.e rfl)) ((⟨true, g, (zBs 16), ep⟩ : Rv).arr) 85 (newrow85 (⟨true, g, (zBs 16), ep⟩ : Rv) _) ?_
 clear F M a; intro a g44 u F M hb hg
 refine hK _ _ ?_
 clear hK K
 replace O_x := O_x.below hb
 clear hb hg; try clear v
 refine list_do (wn rfl) (fun K hK => ?_)
 have hxx := C_one (enc := Rv.cs) (hl := Rv.cs_len) (h1 := Rv.cs_one) (M.at (i := 0) rfl)
 replace M : Mm w u [] := (by refine M.pick' [] _ ?_ (by decide); exact trivial)
 refine og_app F M Tryz.underlying57 i85 z85s (by decide) (by decide) (Nat.le_refl _) M.bel.size trivial rfl rfl rfl _ _ rfl (.slice A_39 ((xs.take (nF xs g)).length) c_39) (xs.take (nF xs g)) ([(⟨true, g, (zBs 16), ep⟩ : Rv)]) (xs.take (nF xs g) ++ [(⟨true, g, (zBs 16), ep⟩ : Rv)]) rfl (some ⟨g44, 0, none⟩) 1 1 (F.e rfl) (F.e rfl) O_x (hxx) (by rw [List.length_take]; omega) ?_
 clear F a; have Mo := M; clear M; intro a A_45 c_45 v F M Oz hgr
 refine hK _ _ ?_
 clear hK K
 clear O_x Mo hgr; have O_x := Oz; clear Oz; try clear u
 clear hxx
 refine list_val F (wn rfl) rfl rfl (.slice A_45 ((xs.take (nF xs g) ++ [(⟨true, g, (zBs 16), ep⟩ : Rv)]).length) c_45) (ex_assign _ rfl _ (F.e rfl)) ?_; clear F a; intro a F
 refine wpList_nil ?_
 replace F : Fr 51 a [(0, .slice A xs.length c), (1, .int .u64 g), (2, .int .i64 ep), (6, .slice none 0 0), (7, .int .i64 ((nF xs g : Nat) : Int)), (8, .int .i64 ((nT xs g : Nat) : Int)), (9, .slice A_45 ((xs.take (nF xs g) ++ [(⟨true, g, (zBs 16), ep⟩ : Rv)]).length) c_45), (12, .bool false), (28, .bool false)] := F.keep ⟨rfl, rfl, rfl, rfl, rfl, rfl, rfl, rfl, rfl, trivial⟩
 refine then_n ?_
 refine wp_seq ?_
 refine wp_region_lit ?_
 refine list_val F (wn rfl) rfl rfl (.slice A_45 ((xs.take (nF xs g) ++ [(⟨true, g, (zBs 16), ep⟩ : Rv)]).length) c_45) (ex_move _ rfl _ (F.e rfl)) ?_; clear F a; intro a F
 refine list_val F (wn rfl) rfl rfl (.slice A xs.length c) (ex_move _ rfl _ (F.e rfl)) ?_; clear F a; intro a F
 refine list_val F (wn rfl) rfl rfl (.int .i64 ((nT xs g : Nat) : Int)) (ex_move _ rfl _ (F.e rfl)) ?_; clear F a; intro a F
 refine list_val F (wn rfl) rfl rfl (.slice (cutA 19 A (nT xs g) c) (xs.length - nT xs g) (c - nT xs g)) (ex_cutend 57 85 19 Tryz.underlying57 s85 _ _ rfl A xs.length c (F.e rfl) _ (F.e rfl) (nT xs g) rfl (by omega)) ?_; clear F a; intro a F
 refine list_do (wn rfl) (fun K hK => ?_)
 replace M : Mm w v [] := (by refine M.pick' [] _ ?_ (by decide); exact trivial)
 refine og_app F M Tryz.underlying57 i85 z85s (by decide) (by decide) (Nat.le_refl _) M.bel.size trivial rfl rfl rfl _ _ rfl (.slice A_45 ((xs.take (nF xs g) ++ [(⟨true, g, (zBs 16), ep⟩ : Rv)]).length) c_45) (xs.take (nF xs g) ++ [(⟨true, g, (zBs 16), ep⟩ : Rv)]) (xs.drop (nT xs g)) (killF xs g ep) hkf (cutA 19 A (nT xs g) c) (xs.length - nT xs g) (c - nT xs g) (F.e rfl) (F.e rfl) O_x ((C_snd (Kd.C_below hr M.bel) (by omega) hc)) (by simp only [List.length_append, List.length_take, List.length_cons, List.length_nil]; omega) ?_
 clear F a; have Mo := M; clear M; intro a A_50 c_50 u F M Oz hgr
 refine hK _ _ ?_
 clear hK K
 clear O_x Mo hgr; have O_x := Oz; clear Oz; try clear v
 refine list_val F (wn rfl) rfl rfl (.slice A_50 ((killF xs g ep).length) c_50) (ex_assign _ rfl _ (F.e rfl)) ?_; clear F a; intro a F
 refine wpList_nil ?_
 replace F : Fr 51 a [(0, .slice A xs.length c), (1, .int .u64 g), (2, .int .i64 ep), (6, .slice A_50 ((killF xs g ep).length) c_50), (7, .int .i64 ((nF xs g : Nat) : Int)), (8, .int .i64 ((nT xs g : Nat) : Int)), (9, .slice A_45 ((xs.take (nF xs g) ++ [(⟨true, g, (zBs 16), ep⟩ : Rv)]).length) c_45), (12, .bool false), (28, .bool false)] := F.keep ⟨rfl, rfl, rfl, rfl, rfl, rfl, rfl, rfl, rfl, trivial⟩
 refine then_n ?_
 refine wp_ret ?_
 exact ret_tmp F rfl rfl ⟨_, _, rfl, O_x, M.bel⟩
end Go.Proofs.YtnjbjjmoglogeaaGreat
