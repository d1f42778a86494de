/- posternlaw4.DigestExact. Conditions: the table is laid; the argument is read. -/
import Derived.Test.YtkppipeadibfkaaDoorL
import Derived.Test.YtkppipeadibfkaaDoorRL
namespace Go.Proofs.YtkppipeadibfkaaDoor
open Go.RowKit Go.Proofs.YtkppipeadibfkaaDoorW.PrintWords KB WG
set_option linter.unusedVariables false
set_option linter.unusedSimpArgs false
set_option linter.unnecessarySimpa false
theorem Rb.lent {w : World} {A : Option Addr} {n : Nat} {x : List By} (h : Rb w A (n + 70) (x ++ mks 70)) (hx : x.length = n) : Rb w A n x := by
  have := h.take (k := n) (by omega)
  rwa [take_app hx] at this
theorem Rs.apart {w0 w : World} {l : List Rw} (R : Rs w0 w l) {i j : Nat} {A : Option Addr} {n c : Nat} {bs cs : List By} {v : Value} (hi : l[i]? = some (.slice A n c, bs)) (hj : l[j]? = some (v, cs)) (hne : i ≠ j) : ∀ ad, A = some ad → some ad.block ≠ v.ownBlock := fun ad e e2 => by
  subst e
  exact hne (R.nd i j _ v bs cs ad.block hi hj rfl e2.symm)
theorem Rb.old {w0 w : World} {A : Option Addr} {n : Nat} {bs : List By} {l : List Rw} (h : Rb w0 A n bs) (R : Rs w0 w l) {j : Nat} {v : Value} {cs : List By} (hj : l[j]? = some (v, cs)) : 0 < n → ∀ ad, A = some ad → some ad.block ≠ v.ownBlock := fun hn ad e e2 => by
  have h1 := h.lt hn ad e
  have h2 := ((R.own j v cs hj).bound e2.symm).1
  omega
theorem over_lent {o b m : List By} {n : Nat} (ho : o.length = n) (hb : b.length = n) : over o (b ++ m) n = o ++ m := by
  unfold over
  rw [List.take_of_length_le (by omega), List.drop_left' hb]
theorem not_self {α : Type} [DecidableEq α] (x : α) : (!decide (x = x)) = false := by rw [decide_eq_true rfl]; rfl
theorem dm_sl_22_1 : sl? Tryd.prog 22 1 = true := by kernel_rfl
theorem dm_one_23 : one? Tryd.prog 23 = true := by kernel_rfl
theorem dm_sl_23_1 : sl? Tryd.prog 23 1 = true := by kernel_rfl
theorem dm_ent_19 : ent? Tryd.prog 19 = true := by kernel_rfl
theorem dm_ent_13 : ent? Tryd.prog 13 = true := by kernel_rfl
theorem dm_ent_14 : ent? Tryd.prog 14 = true := by kernel_rfl
theorem dm_follows_mixedOrders : Tryd.prog.follows .mixedOrders = true := by kernel_rfl
theorem dm_row_24_32 : row? Tryd.prog 24 32 = true := by kernel_rfl
theorem dm_ent_15 : ent? Tryd.prog 15 = true := by kernel_rfl
theorem dm_ab_24_32 : ab? Tryd.prog 24 32 = true := by kernel_rfl
theorem dm_ent_16 : ent? Tryd.prog 16 = true := by kernel_rfl
theorem dm_ent_17 : ent? Tryd.prog 17 = true := by kernel_rfl
theorem dm_ent_18 : ent? Tryd.prog 18 = true := by kernel_rfl
set_option maxHeartbeats 4000000 in
set_option maxRecDepth 100000 in
theorem exact_any (ls : List (List By)) (Ls : Option Addr) (n cl : Nat) (hn : n ≤ 5864062014805) (w : World) (hKt : At w ⟨0, 0, none⟩ (wcs kTab)) (hl : RowsB w Ls n ls) (hwf : wLs ls) :
    Calls Tryd.prog 3 #[.slice Ls n cl] w fun e w' => e = .returned (.bool true) ∧ Below w.heap.size w w' := by
 have R_ : Rs w w [] := Rs.nil w w
 refine calls_start Tryd.func3 rfl rfl rfl (fun a F => ?_)
 have M : Mm w w [] := Mm.nil w
 refine wp_seq ?_
 refine wp_region_lit ?_
 refine list_val F (wn rfl) rfl rfl (.bool false) (ex_assign _ rfl _ rfl) ?_; clear F a; intro a F
 refine wpList_nil ?_
 replace F : Fr 76 a [(0, .slice Ls n cl), (2, .bool false)] := F.keep ⟨rfl, rfl, trivial⟩
 refine then_n ?_
 refine wp_seq ?_
 refine wp_region_lit ?_
 refine list_val F (wn rfl) rfl rfl (.int .i64 0) (ex_assign _ rfl _ rfl) ?_; clear F a; intro a F
 refine wpList_nil ?_
 replace F : Fr 76 a [(0, .slice Ls n cl), (2, .bool false), (3, .int .i64 0)] := F.keep ⟨rfl, rfl, rfl, trivial⟩
 refine then_n ?_
 refine wp_seq ?_
 refine wp_seq ?_
 refine wp_region_lit ?_
 refine list_val F (wn rfl) rfl rfl (.int .i64 0) (ex_assign _ rfl _ rfl) ?_; clear F a; intro a F
 refine wpList_nil ?_
 replace F : Fr 76 a [(0, .slice Ls n cl), (2, .bool false), (3, .int .i64 0), (4, .int .i64 0)] := F.keep ⟨rfl, rfl, rfl, rfl, trivial⟩
 refine then_n ?_
 refine wp_block ?_
 refine wp_loopN (fun mq ar wr => ∃ (i : Nat), ∃ (q : Nat), Fr 76 ar [(0, .slice Ls n cl), (2, .bool false), (3, .int .i64 ((q : Nat) : Int)), (4, .int .i64 ((i : Nat) : Int))] ∧ Mm w wr [] ∧ Rs w wr [] ∧ i ≤ n ∧ q ≤ 1048576 ∧ mq + i = n) n ?_ ?_
 ·
  exact ⟨0, 0, F.keep ⟨rfl, rfl, rfl, rfl, trivial⟩, (by refine M.pick' [] _ ?_ (by decide); exact trivial), R_, (Nat.zero_le _), (Nat.zero_le _), (by omega)⟩
 clear F M a R_
 rintro mq a v ⟨i, q, F, M, R_, hi, hq0, hq⟩; try clear w
 by_cases hin : i < n
 ·
  obtain ⟨ad, B, c, hLs, hce, hrb, hmc⟩ := hl.row hin
  obtain ⟨b, hb⟩ : ∃ b, b = ls.getD i [] := ⟨_, rfl⟩
  have hbl := wLs_row hwf (i := i)
  rw [← hb] at hce hrb hmc hbl
  subst hLs
  refine wp_seq ?_
  refine wp_seq ?_
  refine wp_region_lit ?_
  refine list_val F (wn rfl) rfl rfl (.int .i64 ((i : Nat) : Int)) (ex_move _ rfl _ (F.e rfl)) ?_; clear F a; intro a F
  refine list_val F (wn rfl) rfl rfl (.slice (some ad) n cl) (ex_move _ rfl _ (F.e rfl)) ?_; clear F a; intro a F
  refine list_val F (wn rfl) rfl rfl (.int .i64 ((n : Nat) : Int)) (ex_len _ _ rfl 1 dm_sl_22_1 _ _ _ (F.e rfl)) ?_; clear F a; intro a F
  refine list_val F (wn rfl) rfl rfl (.bool true) (ex_bin .lss _ _ _ _ rfl .i64 _ _ (F.e rfl) (F.e rfl) _ (b_lss (decide_eq_true (by omega)))) ?_; clear F a; intro a F
  refine wpList_nil ?_
  replace F : Fr 76 a [(0, .slice (some ad) n cl), (2, .bool false), (3, .int .i64 ((q : Nat) : Int)), (4, .int .i64 ((i : Nat) : Int)), (11, .bool true)] := F.keep ⟨rfl, rfl, rfl, rfl, rfl, trivial⟩
  refine then_n ?_
  refine wp_cond_true (F.e rfl) ?_
  refine wp_skip ?_
  refine then_n ?_
  refine wp_seq ?_
  refine wp_block ?_
  refine wp_seq ?_
  refine wp_region_lit ?_
  refine list_val F (wn rfl) rfl rfl (.int .i64 ((q : Nat) : Int)) (ex_move _ rfl _ (F.e rfl)) ?_; clear F a; intro a F
  refine list_val F (wn rfl) rfl rfl (.slice (some ad) n cl) (ex_move _ rfl _ (F.e rfl)) ?_; clear F a; intro a F
  refine list_val F (wn rfl) rfl rfl (.int .i64 ((i : Nat) : Int)) (ex_move _ rfl _ (F.e rfl)) ?_; clear F a; intro a F
  refine list_val F (wn rfl) rfl rfl (.pointer (some (ad.add i))) (ex_ix _ _ _ rfl 1 dm_sl_22_1 ad _ _ (F.e rfl) .i64 _ (F.e rfl) i rfl (by omega) _ (congrArg _ (Nat.mul_one _))) ?_; clear F a; intro a F
  refine list_val F (wn rfl) rfl rfl (.slice B b.length c) (ex_load _ _ rfl _ (F.e rfl) _ (lv1 dm_one_23 (pw_cell_below M.bel hce))) ?_; clear F a; intro a F
  refine list_val F (wn rfl) rfl rfl (.int .i64 ((b.length : Nat) : Int)) (ex_len _ _ rfl 1 dm_sl_23_1 _ _ _ (F.e rfl)) ?_; clear F a; intro a F
  refine list_val F (wn rfl) rfl rfl (.int .i64 ((q + b.length : Nat) : Int)) (ex_bin .add _ _ _ _ rfl .i64 _ _ (F.e rfl) (F.e rfl) _ (b_add ((w_i64 (by omega) (by omega)).trans (by omega)))) ?_; clear F a; intro a F
  refine list_val F (wn rfl) rfl rfl (.int .i64 ((q + b.length : Nat) : Int)) (ex_assign _ rfl _ (F.e rfl)) ?_; clear F a; intro a F
  refine wpList_nil ?_
  replace F : Fr 76 a [(0, .slice (some ad) n cl), (2, .bool false), (3, .int .i64 ((q + b.length : Nat) : Int)), (4, .int .i64 ((i : Nat) : Int)), (11, .bool true)] := F.keep ⟨rfl, rfl, rfl, rfl, rfl, trivial⟩
  refine then_n ?_
  refine wp_seq ?_
  refine wp_seq ?_
  by_cases hbig : 1048576 < q + b.length
  ·
   refine wp_region_lit ?_
   refine list_val F (wn rfl) rfl rfl (.int .i64 ((q + b.length : Nat) : Int)) (ex_move _ rfl _ (F.e rfl)) ?_; clear F a; intro a F
   refine list_val F (wn rfl) rfl rfl (.bool true) (ex_bin .gtr _ _ _ _ rfl .i64 _ _ (F.e rfl) rfl _ (b_gtr (decide_eq_true (by omega)))) ?_; clear F a; intro a F
   refine wpList_nil ?_
   replace F : Fr 76 a [(0, .slice (some ad) n cl), (2, .bool false), (3, .int .i64 ((q + b.length : Nat) : Int)), (4, .int .i64 ((i : Nat) : Int)), (11, .bool true), (22, .bool true)] := F.keep ⟨rfl, rfl, rfl, rfl, rfl, rfl, trivial⟩
   refine then_n ?_
   refine wp_cond_true (F.e rfl) ?_
   refine wp_exit ?_
   refine then_x ?_
   refine in_miss rfl ?_
   refine then_x ?_
   refine then_x ?_
   refine in_hit ?_
   refine then_n ?_
   refine wp_seq ?_
   replace R_ := R_.pick [] [] trivial (by decide)
   refine wp_region_lit ?_
   refine list_do (wn rfl) (fun K hK => ?_)
   refine ow_call rfl rfl F 19 #[] (ex_call 19 _ _ rfl rfl dm_ent_19 _ (map0)) (wakes_any _ (hKt.below M.bel)) (fun e u hR => ?_)
   obtain ⟨he, hb⟩ := hR
   refine ⟨.bool true, he, ?_⟩; clear he F a; intro a F
   refine hK _ _ ?_
   clear hK K
   replace R_ := R_.below hb
   replace M := M.below hb; clear hb; try clear v
   refine list_val F (wn rfl) rfl rfl (.bool true) (ex_assign _ rfl _ (F.e rfl)) ?_; clear F a; intro a F
   refine wpList_nil ?_
   replace F : Fr 76 a [(0, .slice (some ad) n cl), (2, .bool true), (3, .int .i64 ((q + b.length : Nat) : Int)), (4, .int .i64 ((i : Nat) : Int)), (11, .bool true), (22, .bool true)] := F.keep ⟨rfl, rfl, rfl, rfl, rfl, rfl, trivial⟩
   refine then_n ?_
   refine wp_ret ?_
   exact ret_tmp F rfl rfl ⟨rfl, M.bel⟩
  refine wp_region_lit ?_
  refine list_val F (wn rfl) rfl rfl (.int .i64 ((q + b.length : Nat) : Int)) (ex_move _ rfl _ (F.e rfl)) ?_; clear F a; intro a F
  refine list_val F (wn rfl) rfl rfl (.bool false) (ex_bin .gtr _ _ _ _ rfl .i64 _ _ (F.e rfl) rfl _ (b_gtr (decide_eq_false (by omega)))) ?_; clear F a; intro a F
  refine wpList_nil ?_
  replace F : Fr 76 a [(0, .slice (some ad) n cl), (2, .bool false), (3, .int .i64 ((q + b.length : Nat) : Int)), (4, .int .i64 ((i : Nat) : Int)), (11, .bool true), (22, .bool false)] := F.keep ⟨rfl, rfl, rfl, rfl, rfl, rfl, trivial⟩
  refine then_n ?_
  refine wp_cond_false (F.e rfl) ?_
  refine wp_skip ?_
  refine then_n ?_
  refine wp_seq ?_
  refine wp_region_lit ?_
  refine list_val F (wn rfl) rfl rfl (.slice (some ad) n cl) (ex_move _ rfl _ (F.e rfl)) ?_; clear F a; intro a F
  refine list_val F (wn rfl) rfl rfl (.int .i64 ((i : Nat) : Int)) (ex_move _ rfl _ (F.e rfl)) ?_; clear F a; intro a F
  refine list_val F (wn rfl) rfl rfl (.pointer (some (ad.add i))) (ex_ix _ _ _ rfl 1 dm_sl_22_1 ad _ _ (F.e rfl) .i64 _ (F.e rfl) i rfl (by omega) _ (congrArg _ (Nat.mul_one _))) ?_; clear F a; intro a F
  refine list_val F (wn rfl) rfl rfl (.slice B b.length c) (ex_load _ _ rfl _ (F.e rfl) _ (lv1 dm_one_23 (pw_cell_below M.bel hce))) ?_; clear F a; intro a F
  refine list_do (wn rfl) (fun K hK => ?_)
  refine ow_call rfl rfl F 13 #[.slice B b.length c] (ex_call 13 _ _ rfl rfl dm_ent_13 _ (map1 (F.e rfl))) (refSum_any b _ b.length c (by omega) _ (hrb.below M.bel)) (fun e u hR => ?_)
  obtain ⟨he, hb⟩ := hR
  refine ⟨.agg ((bcs (sha b)).toArray), he, ?_⟩; clear he F a; intro a F
  refine hK _ _ ?_
  clear hK K
  replace R_ := R_.below hb
  replace M := M.below hb; clear hb; try clear v
  refine list_do (wn rfl) (fun K hK => ?_)
  refine ow_alloc F M rfl rfl 24 rfl (.agg (bcs (List.replicate 32 0)).toArray) z24 ((bcs (List.replicate 32 0)).toArray) rfl ?_
  clear F M a; intro a g5 v F M hb hg
  refine hK _ _ ?_
  clear hK K
  replace R_ := R_.below hb
  clear hb hg; try clear u
  refine list_do (wn rfl) (fun K hK => ?_)
  refine ow_put F M rfl 24 _ _ rfl 0 _ ((bcs (List.replicate 32 0)).toArray) _ rfl (F.e rfl) ((bcs (sha b)).toArray) (F.e rfl) (sz24 (sha_len _)) (sz_eqb 32 rfl (sha_len _)) (all_oneCell_toArray (bcs_one _)) ?_
  clear F a; have Mo := M; clear M; intro a u F M hgr
  refine hK _ _ ?_
  clear hK K
  replace R_ := R_.box (Mo.blk 0 _ rfl) (by show 5 ≠ 24; decide) hgr
  clear Mo hgr; try clear v
  replace M : Mm w u [⟨g5, (bcs (sha b)).toArray, 24⟩] := M
  refine wpList_nil ?_
  replace F : Fr 76 a [(0, .slice (some ad) n cl), (2, .bool false), (3, .int .i64 ((q + b.length : Nat) : Int)), (4, .int .i64 ((i : Nat) : Int)), (5, .pointer (some ⟨g5, 0, none⟩)), (11, .bool true), (22, .bool false)] := F.keep ⟨rfl, rfl, rfl, rfl, rfl, rfl, rfl, trivial⟩
  refine then_n ?_
  refine wp_seq ?_
  refine wp_region_lit ?_
  refine list_val F (wn rfl) rfl rfl (.slice (some ad) n cl) (ex_move _ rfl _ (F.e rfl)) ?_; clear F a; intro a F
  refine list_val F (wn rfl) rfl rfl (.int .i64 ((i : Nat) : Int)) (ex_move _ rfl _ (F.e rfl)) ?_; clear F a; intro a F
  refine list_val F (wn rfl) rfl rfl (.pointer (some (ad.add i))) (ex_ix _ _ _ rfl 1 dm_sl_22_1 ad _ _ (F.e rfl) .i64 _ (F.e rfl) i rfl (by omega) _ (congrArg _ (Nat.mul_one _))) ?_; clear F a; intro a F
  refine list_val F (wn rfl) rfl rfl (.slice B b.length c) (ex_load _ _ rfl _ (F.e rfl) _ (lv1 dm_one_23 (pw_cell_below M.bel hce))) ?_; clear F a; intro a F
  refine list_do (wn rfl) (fun K hK => ?_)
  refine ow_call rfl rfl F 14 #[.slice B b.length c] (ex_call 14 _ _ rfl rfl dm_ent_14 _ (map1 (F.e rfl))) (lend_any b _ b.length c (by omega) _ (hrb.below M.bel)) (fun e v hR => ?_)
  obtain ⟨A_32, c_32, he, O_n, hb⟩ := hR
  rw [show (b ++ mks 70).length = b.length + 70 by rw [List.length_append, mks_len]] at O_n
  have R1 := R_.new hb M.bel.size O_n
  have hcf32 := O_n.rb.2
  have hcx32 : b.length ≤ c_32 := by omega
  refine ⟨.slice A_32 b.length c_32, he, ?_⟩; clear he F a; intro a F
  refine hK _ _ ?_
  clear hK K
  replace R_ := R_.below hb
  replace M := M.below hb; clear hb; try clear u
  replace R_ := R1; clear R1 O_n
  refine list_val F (wn rfl) rfl rfl (.slice A_32 b.length c_32) (ex_assign _ rfl _ (F.e rfl)) ?_; clear F a; intro a F
  refine wpList_nil ?_
  replace F : Fr 76 a [(0, .slice (some ad) n cl), (2, .bool false), (3, .int .i64 ((q + b.length : Nat) : Int)), (4, .int .i64 ((i : Nat) : Int)), (5, .pointer (some ⟨g5, 0, none⟩)), (6, .slice A_32 b.length c_32), (11, .bool true), (22, .bool false)] := F.keep ⟨rfl, rfl, rfl, rfl, rfl, rfl, rfl, rfl, trivial⟩
  refine then_n ?_
  refine wp_seq ?_
  refine wp_seq ?_
  refine wp_only (fun ar wr => Fr 76 ar [(0, .slice (some ad) n cl), (2, .bool false), (3, .int .i64 ((q + b.length : Nat) : Int)), (4, .int .i64 ((i : Nat) : Int)), (5, .pointer (some ⟨g5, 0, none⟩)), (6, .slice A_32 b.length c_32), (11, .bool true), (22, .bool false), (51, .bool false)] ∧ Mm w wr [⟨g5, (bcs (sha b)).toArray, 24⟩] ∧ Rs w wr [(.slice A_32 (b.length + 70) c_32, (b ++ mks 70))]) ?_ ?_
  ·
   refine region_anyM dm_follows_mixedOrders M [⟨g5, (bcs (sha b)).toArray, 24⟩] (fun w' M => (by refine M.pick' [0] _ ?_ (by decide); exact ⟨rfl, trivial⟩)) ?_; clear M; intro wD M hb
   replace R_ := R_.below hb
   clear hb; try clear v
   have hS : Mm w wD [⟨g5, (bcs (sha b)).toArray, 24⟩] := (by refine M.pick' [0] _ ?_ (by decide); exact ⟨rfl, trivial⟩)
   refine any_val F 0 rfl (by kernel_rfl) (wn rfl) rfl rfl (.slice A_32 b.length c_32) (fun w' hS' => ex_move _ rfl _ (F.e rfl)) hS ?_; clear F a; intro a F
   refine any_val F 2 rfl (by kernel_rfl) (wn rfl) rfl rfl (.agg ((bcs (sha b)).toArray)) (fun w' hS' => ex_load _ _ rfl _ (F.e rfl) _ (lvr (cs := bcs (sha b)) (by rw [bcs_len, show _ = 32 from (sha_len _)]; exact dm_row_24_32) (hS'.at (i := 0) rfl))) hS ?_; clear F a; intro a F
   refine any_ready [1] (by kernel_rfl) (by simp) ?_
   refine ready_do rfl (wn rfl) (fun K hK => ?_) AllReadyH.nil
   refine ow_call rfl rfl F 15 #[.slice A_32 b.length c_32] (ex_call 15 _ _ rfl rfl dm_ent_15 _ (map1 (F.e rfl))) (sum_bytes b _ b.length c_32 _ (hKt.below M.bel) ((R_.rb (i := 0) rfl).lent rfl) hcx32) (fun e v hR => ?_)
   obtain ⟨he, hb⟩ := hR
   refine ⟨.agg ((bcs (sha b)).toArray), he, ?_⟩; clear he F a; intro a F
   replace hS : Mm w v [⟨g5, (bcs (sha b)).toArray, 24⟩] := (by refine (M.below hb).pick' [0] _ ?_ (by decide); exact ⟨rfl, trivial⟩)
   refine hK _ _ hS ?_
   clear hK K
   replace R_ := R_.below hb
   replace M := M.below hb; clear hb; try clear wD
   refine any_val F 3 rfl (by kernel_rfl) (wn rfl) rfl rfl (.bool false) (fun w' hS' => ex_neqA 24 _ _ _ rfl 32 dm_ab_24_32 (sha b) (sha b) (sha_len _) (sha_len _) (F.e rfl) (F.e rfl) false (not_self _)) hS ?_; clear F a; intro a F
   refine any_val F 4 rfl (by kernel_rfl) (wn rfl) rfl rfl (.bool false) (fun w' hS' => ex_move _ rfl _ (F.e rfl)) hS ?_; clear F a; intro a F
   refine any_val F 5 rfl (by kernel_rfl) (F.wants 37 false rfl (by kernel_rfl) rfl true rfl) rfl rfl (.slice A_32 b.length c_32) (fun w' hS' => ex_move _ rfl _ (F.e rfl)) hS ?_; clear F a; intro a F
   refine any_val F 7 rfl (by kernel_rfl) (F.wants 37 false rfl (by kernel_rfl) rfl true rfl) rfl rfl (.agg ((bcs (sha b)).toArray)) (fun w' hS' => ex_load _ _ rfl _ (F.e rfl) _ (lvr (cs := bcs (sha b)) (by rw [bcs_len, show _ = 32 from (sha_len _)]; exact dm_row_24_32) (hS'.at (i := 0) rfl))) hS ?_; clear F a; intro a F
   refine any_ready [6] (by kernel_rfl) (by simp) ?_
   refine ready_do rfl (F.wants 37 false rfl (by kernel_rfl) rfl true rfl) (fun K hK => ?_) AllReadyH.nil
   refine ow_call rfl rfl F 15 #[.slice A_32 b.length c_32] (ex_call 15 _ _ rfl rfl dm_ent_15 _ (map1 (F.e rfl))) (sum_bytes b _ b.length c_32 _ (hKt.below M.bel) ((R_.rb (i := 0) rfl).lent rfl) hcx32) (fun e u hR => ?_)
   obtain ⟨he, hb⟩ := hR
   refine ⟨.agg ((bcs (sha b)).toArray), he, ?_⟩; clear he F a; intro a F
   replace hS : Mm w u [⟨g5, (bcs (sha b)).toArray, 24⟩] := (by refine (M.below hb).pick' [0] _ ?_ (by decide); exact ⟨rfl, trivial⟩)
   refine hK _ _ hS ?_
   clear hK K
   replace R_ := R_.below hb
   replace M := M.below hb; clear hb; try clear v
   refine any_val F 8 rfl (by kernel_rfl) (F.wants 37 false rfl (by kernel_rfl) rfl true rfl) rfl rfl (.bool false) (fun w' hS' => ex_neqA 24 _ _ _ rfl 32 dm_ab_24_32 (sha b) (sha b) (sha_len _) (sha_len _) (F.e rfl) (F.e rfl) false (not_self _)) hS ?_; clear F a; intro a F
   refine any_val F 9 rfl (by kernel_rfl) (wn rfl) rfl rfl (.bool false) (fun w' hS' => ex_pick_f _ _ _ rfl (F.e rfl) _ (F.e rfl)) hS ?_; clear F a; intro a F
   refine any_val F 10 rfl (by kernel_rfl) (wn rfl) rfl rfl (.bool false) (fun w' hS' => ex_move _ rfl _ (F.e rfl)) hS ?_; clear F a; intro a F
   refine any_val F 11 rfl (by kernel_rfl) (F.wants 43 false rfl (by kernel_rfl) rfl true rfl) rfl rfl (.slice A_32 b.length c_32) (fun w' hS' => ex_move _ rfl _ (F.e rfl)) hS ?_; clear F a; intro a F
   refine any_val F 12 rfl (by kernel_rfl) (F.wants 43 false rfl (by kernel_rfl) rfl true rfl) rfl rfl (.slice (some ad) n cl) (fun w' hS' => ex_move _ rfl _ (F.e rfl)) hS ?_; clear F a; intro a F
   refine any_val F 13 rfl (by kernel_rfl) (F.wants 43 false rfl (by kernel_rfl) rfl true rfl) rfl rfl (.int .i64 ((i : Nat) : Int)) (fun w' hS' => ex_move _ rfl _ (F.e rfl)) hS ?_; clear F a; intro a F
   refine any_val F 14 rfl (by kernel_rfl) (F.wants 43 false rfl (by kernel_rfl) rfl true rfl) rfl rfl (.pointer (some (ad.add i))) (fun w' hS' => ex_ix _ _ _ rfl 1 dm_sl_22_1 ad _ _ (F.e rfl) .i64 _ (F.e rfl) i rfl (by omega) _ (congrArg _ (Nat.mul_one _))) hS ?_; clear F a; intro a F
   refine any_val F 15 rfl (by kernel_rfl) (F.wants 43 false rfl (by kernel_rfl) rfl true rfl) rfl rfl (.slice B b.length c) (fun w' hS' => ex_load _ _ rfl _ (F.e rfl) _ (lv1 dm_one_23 (pw_cell_below hS'.bel hce))) hS ?_; clear F a; intro a F
   refine any_ready [16] (by kernel_rfl) (by simp) ?_
   refine ready_do rfl (F.wants 43 false rfl (by kernel_rfl) rfl true rfl) (fun K hK => ?_) AllReadyH.nil
   refine ow_call rfl rfl F 16 #[.slice A_32 b.length c_32, .slice B b.length c] (ex_call 16 _ _ rfl rfl dm_ent_16 _ (map2 (F.e rfl) (F.e rfl))) (intact_any b b A_32 B b.length c_32 b.length c (by omega) _ rfl (R_.rb (i := 0) rfl) hcf32 (hrb.below M.bel)) (fun e v hR => ?_)
   obtain ⟨he, hb⟩ := hR
   rw [decide_eq_true rfl] at he
   refine ⟨.bool true, he, ?_⟩; clear he F a; intro a F
   replace hS : Mm w v [⟨g5, (bcs (sha b)).toArray, 24⟩] := (by refine (M.below hb).pick' [0] _ ?_ (by decide); exact ⟨rfl, trivial⟩)
   refine hK _ _ hS ?_
   clear hK K
   replace R_ := R_.below hb
   replace M := M.below hb; clear hb; try clear u
   refine any_val F 17 rfl (by kernel_rfl) (F.wants 43 false rfl (by kernel_rfl) rfl true rfl) rfl rfl (.bool false) (fun w' hS' => ex_not _ _ rfl _ (F.e rfl) _ rfl) hS ?_; clear F a; intro a F
   refine any_val F 18 rfl (by kernel_rfl) (wn rfl) rfl rfl (.bool false) (fun w' hS' => ex_pick_f _ _ _ rfl (F.e rfl) _ (F.e rfl)) hS ?_; clear F a; intro a F
   refine any_done (by kernel_rfl) ?_
   exact ⟨F.keep ⟨rfl, rfl, rfl, rfl, rfl, rfl, rfl, rfl, rfl, trivial⟩, (by refine M.pick' [0] _ ?_ (by decide); exact ⟨rfl, trivial⟩), R_⟩
  clear F M a R_
  intro a u hR; obtain ⟨F, M, R_⟩ := hR; try clear v
  refine then_n ?_
  refine wp_cond_false (F.e rfl) ?_
  refine wp_skip ?_
  refine then_n ?_
  refine wp_seq ?_
  refine wp_region_lit ?_
  refine list_val F (wn rfl) rfl rfl (.slice (some ad) n cl) (ex_move _ rfl _ (F.e rfl)) ?_; clear F a; intro a F
  refine list_val F (wn rfl) rfl rfl (.int .i64 ((i : Nat) : Int)) (ex_move _ rfl _ (F.e rfl)) ?_; clear F a; intro a F
  refine list_val F (wn rfl) rfl rfl (.pointer (some (ad.add i))) (ex_ix _ _ _ rfl 1 dm_sl_22_1 ad _ _ (F.e rfl) .i64 _ (F.e rfl) i rfl (by omega) _ (congrArg _ (Nat.mul_one _))) ?_; clear F a; intro a F
  refine list_val F (wn rfl) rfl rfl (.slice B b.length c) (ex_load _ _ rfl _ (F.e rfl) _ (lv1 dm_one_23 (pw_cell_below M.bel hce))) ?_; clear F a; intro a F
  refine list_do (wn rfl) (fun K hK => ?_)
  refine ow_call rfl rfl F 17 #[.slice B b.length c] (ex_call 17 _ _ rfl rfl dm_ent_17 _ (map1 (F.e rfl))) (other_any b _ b.length c (by omega) _ (hrb.below M.bel)) (fun e v hR => ?_)
  obtain ⟨A_56, c_56, o, hol, he, O_n, hb⟩ := hR
  have R1 := R_.new hb M.bel.size O_n
  refine ⟨.slice A_56 b.length c_56, he, ?_⟩; clear he F a; intro a F
  refine hK _ _ ?_
  clear hK K
  replace R_ := R_.below hb
  replace M := M.below hb; clear hb; try clear u
  replace R_ := R1; clear R1 O_n
  refine list_val F (wn rfl) rfl rfl (.slice A_56 b.length c_56) (ex_assign _ rfl _ (F.e rfl)) ?_; clear F a; intro a F
  refine wpList_nil ?_
  replace F : Fr 76 a [(0, .slice (some ad) n cl), (2, .bool false), (3, .int .i64 ((q + b.length : Nat) : Int)), (4, .int .i64 ((i : Nat) : Int)), (5, .pointer (some ⟨g5, 0, none⟩)), (6, .slice A_32 b.length c_32), (7, .slice A_56 b.length c_56), (11, .bool true), (22, .bool false), (51, .bool false)] := F.keep ⟨rfl, rfl, rfl, rfl, rfl, rfl, rfl, rfl, rfl, rfl, trivial⟩
  refine then_n ?_
  refine wp_seq ?_
  refine wp_region_lit ?_
  refine list_val F (wn rfl) rfl rfl (.slice A_32 b.length c_32) (ex_move _ rfl _ (F.e rfl)) ?_; clear F a; intro a F
  refine list_val F (wn rfl) rfl rfl (.slice A_56 b.length c_56) (ex_move _ rfl _ (F.e rfl)) ?_; clear F a; intro a F
  refine list_do (wn rfl) (fun K hK => ?_)
  refine ow_call rfl rfl F 18 #[.slice A_32 b.length c_32, .slice A_56 b.length c_56] (ex_call 18 _ _ rfl rfl dm_ent_18 _ (map2 (F.e rfl) (F.e rfl))) (into_any (b ++ mks 70) o A_32 A_56 (b.length + 70) c_32 b.length c_32 b.length c_56 w.heap.size _ M.bel.size (R_.own 1 _ _ rfl) (by omega) (R_.rb (i := 0) rfl) (by omega) (fun _ => R_.apart (i := 0) (j := 1) rfl rfl (by decide))) (fun e u hR => ?_)
  obtain ⟨he, hgr, O_n⟩ := hR
  refine ⟨.tuple #[], he, ?_⟩; clear he F a; intro a F
  refine hK _ _ ?_
  clear hK K
  rw [over_lent hol rfl] at O_n
  have M1 := M.grownB (R_.own 1 _ _ rfl) rfl hgr
  have R1 := R_.app (i := 1) rfl hgr O_n (.inl rfl)
  replace M := M1; replace R_ := R1; clear M1 R1 O_n hgr; try clear v
  refine wpList_nil ?_
  replace F : Fr 76 a [(0, .slice (some ad) n cl), (2, .bool false), (3, .int .i64 ((q + b.length : Nat) : Int)), (4, .int .i64 ((i : Nat) : Int)), (5, .pointer (some ⟨g5, 0, none⟩)), (6, .slice A_32 b.length c_32), (7, .slice A_56 b.length c_56), (11, .bool true), (22, .bool false), (51, .bool false)] := F.keep ⟨rfl, rfl, rfl, rfl, rfl, rfl, rfl, rfl, rfl, rfl, trivial⟩
  refine then_n ?_
  refine wp_seq ?_
  refine wp_seq ?_
  refine wp_region_lit ?_
  refine list_val F (wn rfl) rfl rfl (.slice A_32 b.length c_32) (ex_move _ rfl _ (F.e rfl)) ?_; clear F a; intro a F
  refine list_do (wn rfl) (fun K hK => ?_)
  refine ow_call rfl rfl F 15 #[.slice A_32 b.length c_32] (ex_call 15 _ _ rfl rfl dm_ent_15 _ (map1 (F.e rfl))) (sum_bytes o _ b.length c_32 _ (hKt.below M.bel) ((R_.rb (i := 1) rfl).lent hol) hcx32) (fun e v hR => ?_)
  obtain ⟨he, hb⟩ := hR
  refine ⟨.agg ((bcs (sha o)).toArray), he, ?_⟩; clear he F a; intro a F
  refine hK _ _ ?_
  clear hK K
  replace R_ := R_.below hb
  replace M := M.below hb; clear hb; try clear u
  refine list_val F (wn rfl) rfl rfl (.slice A_56 b.length c_56) (ex_move _ rfl _ (F.e rfl)) ?_; clear F a; intro a F
  refine list_do (wn rfl) (fun K hK => ?_)
  refine ow_call rfl rfl F 13 #[.slice A_56 b.length c_56] (ex_call 13 _ _ rfl rfl dm_ent_13 _ (map1 (F.e rfl))) (refSum_any o _ b.length c_56 (by omega) _ (R_.rb (i := 0) rfl)) (fun e u hR => ?_)
  obtain ⟨he, hb⟩ := hR
  refine ⟨.agg ((bcs (sha o)).toArray), he, ?_⟩; clear he F a; intro a F
  refine hK _ _ ?_
  clear hK K
  replace R_ := R_.below hb
  replace M := M.below hb; clear hb; try clear v
  refine list_val F (wn rfl) rfl rfl (.bool false) (ex_neqA 24 _ _ _ rfl 32 dm_ab_24_32 (sha o) (sha o) (sha_len _) (sha_len _) (F.e rfl) (F.e rfl) false (not_self _)) ?_; clear F a; intro a F
  refine wpList_nil ?_
  replace F : Fr 76 a [(0, .slice (some ad) n cl), (2, .bool false), (3, .int .i64 ((q + b.length : Nat) : Int)), (4, .int .i64 ((i : Nat) : Int)), (5, .pointer (some ⟨g5, 0, none⟩)), (6, .slice A_32 b.length c_32), (7, .slice A_56 b.length c_56), (11, .bool true), (22, .bool false), (51, .bool false), (64, .bool false)] := F.keep ⟨rfl, rfl, rfl, rfl, rfl, rfl, rfl, rfl, rfl, rfl, rfl, trivial⟩
  refine then_n ?_
  refine wp_cond_false (F.e rfl) ?_
  refine wp_skip ?_
  refine then_n ?_
  refine wp_seq ?_
  refine wp_region_lit ?_
  refine list_val F (wn rfl) rfl rfl (.slice A_32 b.length c_32) (ex_move _ rfl _ (F.e rfl)) ?_; clear F a; intro a F
  refine list_val F (wn rfl) rfl rfl (.slice (some ad) n cl) (ex_move _ rfl _ (F.e rfl)) ?_; clear F a; intro a F
  refine list_val F (wn rfl) rfl rfl (.int .i64 ((i : Nat) : Int)) (ex_move _ rfl _ (F.e rfl)) ?_; clear F a; intro a F
  refine list_val F (wn rfl) rfl rfl (.pointer (some (ad.add i))) (ex_ix _ _ _ rfl 1 dm_sl_22_1 ad _ _ (F.e rfl) .i64 _ (F.e rfl) i rfl (by omega) _ (congrArg _ (Nat.mul_one _))) ?_; clear F a; intro a F
  refine list_val F (wn rfl) rfl rfl (.slice B b.length c) (ex_load _ _ rfl _ (F.e rfl) _ (lv1 dm_one_23 (pw_cell_below M.bel hce))) ?_; clear F a; intro a F
  refine list_do (wn rfl) (fun K hK => ?_)
  refine ow_call rfl rfl F 18 #[.slice A_32 b.length c_32, .slice B b.length c] (ex_call 18 _ _ rfl rfl dm_ent_18 _ (map2 (F.e rfl) (F.e rfl))) (into_any (o ++ mks 70) b A_32 B (b.length + 70) c_32 b.length c_32 b.length c w.heap.size _ M.bel.size (R_.own 1 _ _ rfl) (by omega) (hrb.below M.bel) (by omega) (hrb.old R_ (j := 1) rfl)) (fun e v hR => ?_)
  obtain ⟨he, hgr, O_n⟩ := hR
  refine ⟨.tuple #[], he, ?_⟩; clear he F a; intro a F
  refine hK _ _ ?_
  clear hK K
  rw [over_lent rfl hol] at O_n
  have M1 := M.grownB (R_.own 1 _ _ rfl) rfl hgr
  have R1 := R_.app (i := 1) rfl hgr O_n (.inl rfl)
  replace M := M1; replace R_ := R1; clear M1 R1 O_n hgr; try clear u
  refine wpList_nil ?_
  replace F : Fr 76 a [(0, .slice (some ad) n cl), (2, .bool false), (3, .int .i64 ((q + b.length : Nat) : Int)), (4, .int .i64 ((i : Nat) : Int)), (5, .pointer (some ⟨g5, 0, none⟩)), (6, .slice A_32 b.length c_32), (7, .slice A_56 b.length c_56), (11, .bool true), (22, .bool false), (51, .bool false), (64, .bool false)] := F.keep ⟨rfl, rfl, rfl, rfl, rfl, rfl, rfl, rfl, rfl, rfl, rfl, trivial⟩
  refine then_n ?_
  refine wp_seq ?_
  refine wp_only (fun ar wr => Fr 76 ar [(0, .slice (some ad) n cl), (2, .bool false), (3, .int .i64 ((q + b.length : Nat) : Int)), (4, .int .i64 ((i : Nat) : Int)), (5, .pointer (some ⟨g5, 0, none⟩)), (6, .slice A_32 b.length c_32), (7, .slice A_56 b.length c_56), (11, .bool true), (22, .bool false), (51, .bool false), (64, .bool false), (74, .bool false)] ∧ Mm w wr [⟨g5, (bcs (sha b)).toArray, 24⟩] ∧ Rs w wr [(.slice A_56 b.length c_56, o), (.slice A_32 (b.length + 70) c_32, (b ++ mks 70))]) ?_ ?_
  ·
   refine region_anyM dm_follows_mixedOrders M [⟨g5, (bcs (sha b)).toArray, 24⟩] (fun w' M => (by refine M.pick' [0] _ ?_ (by decide); exact ⟨rfl, trivial⟩)) ?_; clear M; intro wD M hb
   replace R_ := R_.below hb
   clear hb; try clear v
   have hS : Mm w wD [⟨g5, (bcs (sha b)).toArray, 24⟩] := (by refine M.pick' [0] _ ?_ (by decide); exact ⟨rfl, trivial⟩)
   refine any_val F 0 rfl (by kernel_rfl) (wn rfl) rfl rfl (.slice A_32 b.length c_32) (fun w' hS' => ex_move _ rfl _ (F.e rfl)) hS ?_; clear F a; intro a F
   refine any_val F 2 rfl (by kernel_rfl) (wn rfl) rfl rfl (.agg ((bcs (sha b)).toArray)) (fun w' hS' => ex_load _ _ rfl _ (F.e rfl) _ (lvr (cs := bcs (sha b)) (by rw [bcs_len, show _ = 32 from (sha_len _)]; exact dm_row_24_32) (hS'.at (i := 0) rfl))) hS ?_; clear F a; intro a F
   refine any_ready [1] (by kernel_rfl) (by simp) ?_
   refine ready_do rfl (wn rfl) (fun K hK => ?_) AllReadyH.nil
   refine ow_call rfl rfl F 15 #[.slice A_32 b.length c_32] (ex_call 15 _ _ rfl rfl dm_ent_15 _ (map1 (F.e rfl))) (sum_bytes b _ b.length c_32 _ (hKt.below M.bel) ((R_.rb (i := 1) rfl).lent rfl) hcx32) (fun e v hR => ?_)
   obtain ⟨he, hb⟩ := hR
   refine ⟨.agg ((bcs (sha b)).toArray), he, ?_⟩; clear he F a; intro a F
   replace hS : Mm w v [⟨g5, (bcs (sha b)).toArray, 24⟩] := (by refine (M.below hb).pick' [0] _ ?_ (by decide); exact ⟨rfl, trivial⟩)
   refine hK _ _ hS ?_
   clear hK K
   replace R_ := R_.below hb
   replace M := M.below hb; clear hb; try clear wD
   refine any_val F 3 rfl (by kernel_rfl) (wn rfl) rfl rfl (.bool false) (fun w' hS' => ex_neqA 24 _ _ _ rfl 32 dm_ab_24_32 (sha b) (sha b) (sha_len _) (sha_len _) (F.e rfl) (F.e rfl) false (not_self _)) hS ?_; clear F a; intro a F
   refine any_done (by kernel_rfl) ?_
   exact ⟨F.keep ⟨rfl, rfl, rfl, rfl, rfl, rfl, rfl, rfl, rfl, rfl, rfl, rfl, trivial⟩, (by refine M.pick' [0] _ ?_ (by decide); exact ⟨rfl, trivial⟩), R_⟩
  clear F M a R_
  intro a u hR; obtain ⟨F, M, R_⟩ := hR; try clear v
  refine then_n ?_
  refine wp_cond_false (F.e rfl) ?_
  refine wp_skip ?_
  refine in_n ?_
  refine then_n ?_
  refine wp_region_lit ?_
  refine list_val F (wn rfl) rfl rfl (.int .i64 ((i : Nat) : Int)) (ex_move _ rfl _ (F.e rfl)) ?_; clear F a; intro a F
  refine list_val F (wn rfl) rfl rfl (.int .i64 ((i + 1 : Nat) : Int)) (ex_bin .add _ _ _ _ rfl .i64 _ _ (F.e rfl) rfl _ (b_add ((w_i64 (by omega) (by omega)).trans (by omega)))) ?_; clear F a; intro a F
  refine list_val F (wn rfl) rfl rfl (.int .i64 ((i + 1 : Nat) : Int)) (ex_assign _ rfl _ (F.e rfl)) ?_; clear F a; intro a F
  refine wpList_nil ?_
  replace F : Fr 76 a [(0, .slice (some ad) n cl), (2, .bool false), (3, .int .i64 ((q + b.length : Nat) : Int)), (4, .int .i64 ((i + 1 : Nat) : Int)), (5, .pointer (some ⟨g5, 0, none⟩)), (6, .slice A_32 b.length c_32), (7, .slice A_56 b.length c_56), (11, .bool true), (22, .bool false), (51, .bool false), (64, .bool false), (74, .bool false)] := F.keep ⟨rfl, rfl, rfl, rfl, rfl, rfl, rfl, rfl, rfl, rfl, rfl, rfl, trivial⟩
  refine then_n ?_
  replace R_ := R_.pick [] [] trivial (by decide)
  exact ⟨n - (i + 1), by omega, (i + 1), (q + b.length), F.keep ⟨rfl, rfl, rfl, rfl, trivial⟩, (by refine M.pick' [] _ ?_ (by decide); exact trivial), R_, (by omega), (by omega), (by omega)⟩
 refine wp_seq ?_
 refine wp_seq ?_
 refine wp_region_lit ?_
 refine list_val F (wn rfl) rfl rfl (.int .i64 ((i : Nat) : Int)) (ex_move _ rfl _ (F.e rfl)) ?_; clear F a; intro a F
 refine list_val F (wn rfl) rfl rfl (.slice Ls n cl) (ex_move _ rfl _ (F.e rfl)) ?_; clear F a; intro a F
 refine list_val F (wn rfl) rfl rfl (.int .i64 ((n : Nat) : Int)) (ex_len _ _ rfl 1 dm_sl_22_1 _ _ _ (F.e rfl)) ?_; clear F a; intro a F
 refine list_val F (wn rfl) rfl rfl (.bool false) (ex_bin .lss _ _ _ _ rfl .i64 _ _ (F.e rfl) (F.e rfl) _ (b_lss (decide_eq_false (by omega)))) ?_; clear F a; intro a F
 refine wpList_nil ?_
 replace F : Fr 76 a [(0, .slice Ls n cl), (2, .bool false), (3, .int .i64 ((q : Nat) : Int)), (4, .int .i64 ((i : Nat) : Int)), (11, .bool false)] := F.keep ⟨rfl, rfl, rfl, rfl, rfl, trivial⟩
 refine then_n ?_
 refine wp_cond_false (F.e rfl) ?_
 refine wp_exit ?_
 refine then_x ?_
 refine then_x ?_
 refine in_hit ?_
 refine then_n ?_
 refine wp_seq ?_
 replace R_ := R_.pick [] [] trivial (by decide)
 refine wp_region_lit ?_
 refine list_do (wn rfl) (fun K hK => ?_)
 refine ow_call rfl rfl F 19 #[] (ex_call 19 _ _ rfl rfl dm_ent_19 _ (map0)) (wakes_any _ (hKt.below M.bel)) (fun e u hR => ?_)
 obtain ⟨he, hb⟩ := hR
 refine ⟨.bool true, he, ?_⟩; clear he F a; intro a F
 refine hK _ _ ?_
 clear hK K
 replace R_ := R_.below hb
 replace M := M.below hb; clear hb; try clear v
 refine list_val F (wn rfl) rfl rfl (.bool true) (ex_assign _ rfl _ (F.e rfl)) ?_; clear F a; intro a F
 refine wpList_nil ?_
 replace F : Fr 76 a [(0, .slice Ls n cl), (2, .bool true), (3, .int .i64 ((q : Nat) : Int)), (4, .int .i64 ((i : Nat) : Int)), (11, .bool false)] := F.keep ⟨rfl, rfl, rfl, rfl, rfl, trivial⟩
 refine then_n ?_
 refine wp_ret ?_
 exact ret_tmp F rfl rfl ⟨rfl, M.bel⟩
end Go.Proofs.YtkppipeadibfkaaDoor
