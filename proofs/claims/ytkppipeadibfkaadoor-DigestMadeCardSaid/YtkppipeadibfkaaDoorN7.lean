/- posternlaw4.DigestMade (7). Conditions: the table is laid; what is handed in is read. -/
import Derived.Test.YtkppipeadibfkaaDoorN1
namespace Go.Proofs.YtkppipeadibfkaaDoor
open Go.RowKit Go.Proofs.YtkppipeadibfkaaDoorW.PrintWords KB WG
set_option linter.unusedVariables false
set_option linter.unusedSimpArgs false
set_option linter.unnecessarySimpa false
def xr (k : List By) (y : By) : List By := (key64 k).map (· ^^^ y)
theorem xr_len (k : List By) (y : By) : (xr k y).length = 64 := by unfold xr; rw [List.length_map, key64_len]
theorem dt7_fa_32_1_1 : fa? Tryd.prog 32 1 1 = true := by kernel_rfl
theorem dt7_one_22 : one? Tryd.prog 22 = true := by kernel_rfl
theorem dt7_sl_22_1 : sl? Tryd.prog 22 1 = true := by kernel_rfl
theorem dt7_fa_32_0_0 : fa? Tryd.prog 32 0 0 = true := by kernel_rfl
theorem dt7_follows_mixedOrders : Tryd.prog.follows .mixedOrders = true := by kernel_rfl
theorem dt7_one_23 : one? Tryd.prog 23 = true := by kernel_rfl
theorem dt7_sl_23_1 : sl? Tryd.prog 23 1 = true := by kernel_rfl
theorem dt7_ent_19 : ent? Tryd.prog 19 = true := by kernel_rfl
theorem dt7_ent_27 : ent? Tryd.prog 27 = true := by kernel_rfl
theorem dt7_ent_21 : ent? Tryd.prog 21 = true := by kernel_rfl
theorem dt7_ent_15 : ent? Tryd.prog 15 = true := by kernel_rfl
theorem dt7_sa_24_32 : sa? Tryd.prog 24 32 = true := by kernel_rfl
theorem dt7_ent_28 : ent? Tryd.prog 28 = true := by kernel_rfl
theorem dt7_row_24_32 : row? Tryd.prog 24 32 = true := by kernel_rfl
theorem dt7_ab_24_32 : ab? Tryd.prog 24 32 = true := by kernel_rfl
theorem dt7_ent_29 : ent? Tryd.prog 29 = true := by kernel_rfl
set_option maxHeartbeats 4000000 in
set_option maxRecDepth 100000 in
theorem dmade_any (la lb : List (List By)) (La Lb : Option Addr) (n cla m clb : Nat) (hn : n ≤ 5864062014805) (hm : m ≤ 5864062014805) (w : World) (hKt : At w ⟨0, 0, none⟩ (wcs kTab)) (ha : RowsB w La n la) (hwa : wLs la) (hb_ : RowsB w Lb m lb) (hwb : wLs lb) :
    Calls Tryd.prog 7 #[.agg #[.slice La n cla, .slice Lb m clb]] w fun e w' => e = .returned (.bool true) ∧ Below w.heap.size w w' := by
 have R_ : Rs w w [] := Rs.nil w w
 refine calls_start Tryd.func7 rfl rfl rfl (fun a F => ?_)
 have M : Mm w w [] := Mm.nil w
 refine wp_seq ?_
 refine wp_region_lit ?_
 refine list_do (wn rfl) (fun K hK => ?_)
 refine ow_box F M rfl rfl 32 _ rfl _ (F.e rfl) #[.slice La n cla, .slice Lb m clb] rfl ?_
 clear F M a; intro a g1 v F M hb hg
 refine hK _ _ ?_
 clear hK K
 replace R_ := R_.below hb
 clear hb hg; try clear w
 refine list_val F (wn rfl) rfl rfl (.bool false) (ex_assign _ rfl _ rfl) ?_; clear F a; intro a F
 refine wpList_nil ?_
 replace F : Fr 88 a [(0, .agg #[.slice La n cla, .slice Lb m clb]), (1, .pointer (some ⟨g1, 0, none⟩)), (2, .bool false)] := F.keep ⟨rfl, rfl, rfl, trivial⟩
 refine then_n ?_
 refine wp_seq ?_
 refine wp_region_lit ?_
 refine list_val F (wn rfl) rfl rfl (.int .i64 0) (ex_assign _ rfl _ rfl) ?_; clear F a; intro a F
 refine wpList_nil ?_
 replace F : Fr 88 a [(0, .agg #[.slice La n cla, .slice Lb m clb]), (1, .pointer (some ⟨g1, 0, none⟩)), (2, .bool false), (3, .int .i64 0)] := F.keep ⟨rfl, rfl, rfl, rfl, trivial⟩
 refine then_n ?_
 refine wp_seq ?_
 refine wp_seq ?_
 refine wp_region_lit ?_
 refine list_val F (wn rfl) rfl rfl (.int .i64 0) (ex_assign _ rfl _ rfl) ?_; clear F a; intro a F
 refine wpList_nil ?_
 replace F : Fr 88 a [(0, .agg #[.slice La n cla, .slice Lb m clb]), (1, .pointer (some ⟨g1, 0, none⟩)), (2, .bool false), (3, .int .i64 0), (4, .int .i64 0)] := F.keep ⟨rfl, rfl, rfl, rfl, rfl, trivial⟩
 refine then_n ?_
 refine wp_block ?_
 refine wp_loopN (fun mq ar wr => ∃ (i : Nat), ∃ (q : Nat), Fr 88 ar [(0, .agg #[.slice La n cla, .slice Lb m clb]), (1, .pointer (some ⟨g1, 0, none⟩)), (2, .bool false), (3, .int .i64 ((q : Nat) : Int)), (4, .int .i64 ((i : Nat) : Int))] ∧ Mm w wr [⟨g1, #[.slice La n cla, .slice Lb m clb], 32⟩] ∧ Rs w wr [] ∧ i ≤ m ∧ q ≤ 262144 ∧ mq + i = m) m ?_ ?_
 ·
  exact ⟨0, 0, F.keep ⟨rfl, rfl, rfl, rfl, rfl, trivial⟩, (by refine M.pick' [0] _ ?_ (by decide); exact ⟨rfl, trivial⟩), R_, (Nat.zero_le _), (Nat.zero_le _), (by omega)⟩
 clear F M a R_
 rintro mq a u ⟨i, q, F, M, R_, hi, hq0, hq⟩; try clear v
 by_cases him : i < m
 ·
  by_cases hn0 : 0 < n
  ·
   have hmod := Nat.mod_lt i hn0
   obtain ⟨ada, Ba, ca, hLsa, hcea, hrba, hmca⟩ := ha.row hmod
   obtain ⟨ba, hba⟩ : ∃ b, b = la.getD (i % n) [] := ⟨_, rfl⟩
   have hbla := wLs_row hwa (i := (i % n))
   rw [← hba] at hcea hrba hmca hbla
   obtain ⟨adb, Bb, cb, hLsb, hceb, hrbb, hmcb⟩ := hb_.row him
   obtain ⟨bb, hbb⟩ : ∃ b, b = lb.getD i [] := ⟨_, rfl⟩
   have hblb := wLs_row hwb (i := i)
   rw [← hbb] at hceb hrbb hmcb hblb
   refine wp_seq ?_
   refine wp_seq ?_
   refine wp_region_lit ?_
   refine list_val F (wn rfl) rfl rfl (.int .i64 ((i : Nat) : Int)) (ex_move _ rfl _ (F.e rfl)) ?_; clear F a; intro a F
   refine list_val F (wn rfl) rfl rfl (.pointer (some ⟨g1, 1, none⟩)) (ex_fa _ _ _ rfl _ (F.e rfl) 1 dt7_fa_32_1_1 ⟨g1, 1, none⟩ rfl) ?_; clear F a; intro a F
   refine list_val F (wn rfl) rfl rfl (.slice Lb m clb) (ex_load _ _ rfl _ (F.e rfl) _ (lv1 dt7_one_22 (M.cell (i := 0) rfl (j := 1) rfl))) ?_; clear F a; intro a F
   refine list_val F (wn rfl) rfl rfl (.int .i64 ((m : Nat) : Int)) (ex_len _ _ rfl 1 dt7_sl_22_1 _ _ _ (F.e rfl)) ?_; clear F a; intro a F
   refine list_val F (wn rfl) rfl rfl (.bool true) (ex_bin .lss _ _ _ _ rfl .i64 _ _ (F.e rfl) (F.e rfl) _ (b_lss (decide_eq_true (by omega)))) ?_; clear F a; intro a F
   refine list_val F (wn rfl) rfl rfl (.bool true) (ex_move _ rfl _ (F.e rfl)) ?_; clear F a; intro a F
   refine list_val F (F.wants 16 true rfl (by kernel_rfl) rfl true rfl) rfl rfl (.pointer (some ⟨g1, 0, none⟩)) (ex_fa _ _ _ rfl _ (F.e rfl) 0 dt7_fa_32_0_0 ⟨g1, 0, none⟩ rfl) ?_; clear F a; intro a F
   refine list_val F (F.wants 16 true rfl (by kernel_rfl) rfl true rfl) rfl rfl (.slice La n cla) (ex_load _ _ rfl _ (F.e rfl) _ (lv1 dt7_one_22 (M.cell (i := 0) rfl (j := 0) rfl))) ?_; clear F a; intro a F
   refine list_val F (F.wants 16 true rfl (by kernel_rfl) rfl true rfl) rfl rfl (.int .i64 ((n : Nat) : Int)) (ex_len _ _ rfl 1 dt7_sl_22_1 _ _ _ (F.e rfl)) ?_; clear F a; intro a F
   refine list_val F (F.wants 16 true rfl (by kernel_rfl) rfl true rfl) rfl rfl (.bool true) (ex_bin .gtr _ _ _ _ rfl .i64 _ _ (F.e rfl) rfl _ (b_gtr (decide_eq_true (by omega)))) ?_; clear F a; intro a F
   refine list_val F (wn rfl) rfl rfl (.bool true) (ex_pick_t _ _ _ rfl (F.e rfl) _ (F.e rfl)) ?_; clear F a; intro a F
   refine wpList_nil ?_
   replace F : Fr 88 a [(0, .agg #[.slice La n cla, .slice Lb m clb]), (1, .pointer (some ⟨g1, 0, none⟩)), (2, .bool false), (3, .int .i64 ((q : Nat) : Int)), (4, .int .i64 ((i : Nat) : Int)), (21, .bool true)] := F.keep ⟨rfl, rfl, rfl, rfl, rfl, rfl, trivial⟩
   refine then_n ?_
   refine wp_cond_true (F.e rfl) ?_
   refine wp_skip ?_
   refine then_n ?_
   refine wp_seq ?_
   refine wp_block ?_
   refine wp_seq ?_
   refine region_tail 9 dt7_follows_mixedOrders (by kernel_rfl) M ?_; clear M; intro v M hb
   replace R_ := R_.below hb
   clear hb; try clear u
   refine still_val F (wn rfl) rfl rfl (.pointer (some ⟨g1, 0, none⟩)) (ex_fa _ _ _ rfl _ (F.e rfl) 0 dt7_fa_32_0_0 ⟨g1, 0, none⟩ rfl) ?_; clear F a; intro a F
   refine still_val F (wn rfl) rfl rfl (.slice La n cla) (ex_load _ _ rfl _ (F.e rfl) _ (lv1 dt7_one_22 (M.cell (i := 0) rfl (j := 0) rfl))) ?_; clear F a; intro a F
   refine still_val F (wn rfl) rfl rfl (.int .i64 ((i : Nat) : Int)) (ex_move _ rfl _ (F.e rfl)) ?_; clear F a; intro a F
   refine still_val F (wn rfl) rfl rfl (.pointer (some ⟨g1, 0, none⟩)) (ex_fa _ _ _ rfl _ (F.e rfl) 0 dt7_fa_32_0_0 ⟨g1, 0, none⟩ rfl) ?_; clear F a; intro a F
   refine still_val F (wn rfl) rfl rfl (.slice La n cla) (ex_load _ _ rfl _ (F.e rfl) _ (lv1 dt7_one_22 (M.cell (i := 0) rfl (j := 0) rfl))) ?_; clear F a; intro a F
   refine still_val F (wn rfl) rfl rfl (.int .i64 ((n : Nat) : Int)) (ex_len _ _ rfl 1 dt7_sl_22_1 _ _ _ (F.e rfl)) ?_; clear F a; intro a F
   refine still_val F (wn rfl) rfl rfl (.int .i64 ((i % n : Nat) : Int)) (ex_bin .rem _ _ _ _ rfl .i64 _ _ (F.e rfl) (F.e rfl) _ (b_rem (by omega) (tmod_nat i n))) ?_; clear F a; intro a F
   refine still_val F (wn rfl) rfl rfl (.pointer (some (ada.add (i % n)))) (ex_ixE _ _ rfl dt7_sl_22_1 ada La hLsa n cla (F.e rfl) .i64 _ (F.e rfl) (i % n) rfl (by omega)) ?_; clear F a; intro a F
   refine still_val F (wn rfl) rfl rfl (.slice Ba ba.length ca) (ex_load _ _ rfl _ (F.e rfl) _ (lv1 dt7_one_23 (pw_cell_below M.bel hcea))) ?_; clear F a; intro a F
   refine still_end ?_
   refine list_val F (wn rfl) rfl rfl (.slice Ba ba.length ca) (ex_assign _ rfl _ (F.e rfl)) ?_; clear F a; intro a F
   refine wpList_nil ?_
   replace F : Fr 88 a [(0, .agg #[.slice La n cla, .slice Lb m clb]), (1, .pointer (some ⟨g1, 0, none⟩)), (2, .bool false), (3, .int .i64 ((q : Nat) : Int)), (4, .int .i64 ((i : Nat) : Int)), (5, .slice Ba ba.length ca), (21, .bool true)] := F.keep ⟨rfl, rfl, rfl, rfl, rfl, rfl, rfl, trivial⟩
   refine then_n ?_
   refine wp_seq ?_
   refine wp_region_lit ?_
   refine list_val F (wn rfl) rfl rfl (.pointer (some ⟨g1, 1, none⟩)) (ex_fa _ _ _ rfl _ (F.e rfl) 1 dt7_fa_32_1_1 ⟨g1, 1, none⟩ rfl) ?_; clear F a; intro a F
   refine list_val F (wn rfl) rfl rfl (.slice Lb m clb) (ex_load _ _ rfl _ (F.e rfl) _ (lv1 dt7_one_22 (M.cell (i := 0) rfl (j := 1) rfl))) ?_; clear F a; intro a F
   refine list_val F (wn rfl) rfl rfl (.int .i64 ((i : Nat) : Int)) (ex_move _ rfl _ (F.e rfl)) ?_; clear F a; intro a F
   refine list_val F (wn rfl) rfl rfl (.pointer (some (adb.add i))) (ex_ixE _ _ rfl dt7_sl_22_1 adb Lb hLsb m clb (F.e rfl) .i64 _ (F.e rfl) i rfl (by omega)) ?_; clear F a; intro a F
   refine list_val F (wn rfl) rfl rfl (.slice Bb bb.length cb) (ex_load _ _ rfl _ (F.e rfl) _ (lv1 dt7_one_23 (pw_cell_below M.bel hceb))) ?_; clear F a; intro a F
   refine list_val F (wn rfl) rfl rfl (.slice Bb bb.length cb) (ex_assign _ rfl _ (F.e rfl)) ?_; clear F a; intro a F
   refine wpList_nil ?_
   replace F : Fr 88 a [(0, .agg #[.slice La n cla, .slice Lb m clb]), (1, .pointer (some ⟨g1, 0, none⟩)), (2, .bool false), (3, .int .i64 ((q : Nat) : Int)), (4, .int .i64 ((i : Nat) : Int)), (5, .slice Ba ba.length ca), (6, .slice Bb bb.length cb), (21, .bool true)] := F.keep ⟨rfl, rfl, rfl, rfl, rfl, rfl, rfl, rfl, trivial⟩
   refine then_n ?_
   refine wp_seq ?_
   refine wp_region_lit ?_
   refine list_val F (wn rfl) rfl rfl (.int .i64 ((q : Nat) : Int)) (ex_move _ rfl _ (F.e rfl)) ?_; clear F a; intro a F
   refine list_val F (wn rfl) rfl rfl (.slice Ba ba.length ca) (ex_move _ rfl _ (F.e rfl)) ?_; clear F a; intro a F
   refine list_val F (wn rfl) rfl rfl (.int .i64 ((ba.length : Nat) : Int)) (ex_len _ _ rfl 1 dt7_sl_23_1 _ _ _ (F.e rfl)) ?_; clear F a; intro a F
   refine list_val F (wn rfl) rfl rfl (.int .i64 ((q + ba.length : Nat) : Int)) (ex_bin .add _ _ _ _ rfl .i64 _ _ (F.e rfl) (F.e rfl) _ (b_add ((w_i64 (by omega) (by omega)).trans (by omega)))) ?_; clear F a; intro a F
   refine list_val F (wn rfl) rfl rfl (.slice Bb bb.length cb) (ex_move _ rfl _ (F.e rfl)) ?_; clear F a; intro a F
   refine list_val F (wn rfl) rfl rfl (.int .i64 ((bb.length : Nat) : Int)) (ex_len _ _ rfl 1 dt7_sl_23_1 _ _ _ (F.e rfl)) ?_; clear F a; intro a F
   refine list_val F (wn rfl) rfl rfl (.int .i64 ((q + ba.length + bb.length : Nat) : Int)) (ex_bin .add _ _ _ _ rfl .i64 _ _ (F.e rfl) (F.e rfl) _ (b_add ((w_i64 (by omega) (by omega)).trans (by omega)))) ?_; clear F a; intro a F
   refine list_val F (wn rfl) rfl rfl (.int .i64 ((q + ba.length + bb.length : Nat) : Int)) (ex_assign _ rfl _ (F.e rfl)) ?_; clear F a; intro a F
   refine wpList_nil ?_
   replace F : Fr 88 a [(0, .agg #[.slice La n cla, .slice Lb m clb]), (1, .pointer (some ⟨g1, 0, none⟩)), (2, .bool false), (3, .int .i64 ((q + ba.length + bb.length : Nat) : Int)), (4, .int .i64 ((i : Nat) : Int)), (5, .slice Ba ba.length ca), (6, .slice Bb bb.length cb), (21, .bool true)] := F.keep ⟨rfl, rfl, rfl, rfl, rfl, rfl, rfl, rfl, trivial⟩
   refine then_n ?_
   refine wp_seq ?_
   refine wp_seq ?_
   by_cases hbig : 262144 < q + ba.length + bb.length
   ·
    refine wp_region_lit ?_
    refine list_val F (wn rfl) rfl rfl (.int .i64 ((q + ba.length + bb.length : Nat) : Int)) (ex_move _ rfl _ (F.e rfl)) ?_; clear F a; intro a F
    refine list_val F (wn rfl) rfl rfl (.bool true) (ex_bin .gtr _ _ _ _ rfl .i64 _ _ (F.e rfl) rfl _ (b_gtr (decide_eq_true (by omega)))) ?_; clear F a; intro a F
    refine wpList_nil ?_
    replace F : Fr 88 a [(0, .agg #[.slice La n cla, .slice Lb m clb]), (1, .pointer (some ⟨g1, 0, none⟩)), (2, .bool false), (3, .int .i64 ((q + ba.length + bb.length : Nat) : Int)), (4, .int .i64 ((i : Nat) : Int)), (5, .slice Ba ba.length ca), (6, .slice Bb bb.length cb), (21, .bool true), (46, .bool true)] := F.keep ⟨rfl, rfl, rfl, rfl, rfl, rfl, rfl, rfl, rfl, trivial⟩
    refine then_n ?_
    refine wp_cond_true (F.e rfl) ?_
    refine wp_exit ?_
    refine then_x ?_
    refine in_miss rfl ?_
    refine then_x ?_
    refine then_x ?_
    refine in_hit ?_
    refine then_n ?_
    refine wp_seq ?_
    replace R_ := R_.pick [] [] trivial (by decide)
    refine wp_region_lit ?_
    refine list_do (wn rfl) (fun K hK => ?_)
    refine ow_call rfl rfl F 19 #[] (ex_call 19 _ _ rfl rfl dt7_ent_19 _ (map0)) (wakes_any _ (hKt.below M.bel)) (fun e u hR => ?_)
    obtain ⟨he, hb⟩ := hR
    refine ⟨.bool true, he, ?_⟩; clear he F a; intro a F
    refine hK _ _ ?_
    clear hK K
    replace R_ := R_.below hb
    replace M := M.below hb; clear hb; try clear v
    refine list_val F (wn rfl) rfl rfl (.bool true) (ex_assign _ rfl _ (F.e rfl)) ?_; clear F a; intro a F
    refine wpList_nil ?_
    replace F : Fr 88 a [(0, .agg #[.slice La n cla, .slice Lb m clb]), (1, .pointer (some ⟨g1, 0, none⟩)), (2, .bool true), (3, .int .i64 ((q + ba.length + bb.length : Nat) : Int)), (4, .int .i64 ((i : Nat) : Int)), (5, .slice Ba ba.length ca), (6, .slice Bb bb.length cb), (21, .bool true), (46, .bool true)] := F.keep ⟨rfl, rfl, rfl, rfl, rfl, rfl, rfl, rfl, rfl, trivial⟩
    refine then_n ?_
    refine wp_ret ?_
    exact ret_tmp F rfl rfl ⟨rfl, M.bel⟩
   refine wp_region_lit ?_
   refine list_val F (wn rfl) rfl rfl (.int .i64 ((q + ba.length + bb.length : Nat) : Int)) (ex_move _ rfl _ (F.e rfl)) ?_; clear F a; intro a F
   refine list_val F (wn rfl) rfl rfl (.bool false) (ex_bin .gtr _ _ _ _ rfl .i64 _ _ (F.e rfl) rfl _ (b_gtr (decide_eq_false (by omega)))) ?_; clear F a; intro a F
   refine wpList_nil ?_
   replace F : Fr 88 a [(0, .agg #[.slice La n cla, .slice Lb m clb]), (1, .pointer (some ⟨g1, 0, none⟩)), (2, .bool false), (3, .int .i64 ((q + ba.length + bb.length : Nat) : Int)), (4, .int .i64 ((i : Nat) : Int)), (5, .slice Ba ba.length ca), (6, .slice Bb bb.length cb), (21, .bool true), (46, .bool false)] := F.keep ⟨rfl, rfl, rfl, rfl, rfl, rfl, rfl, rfl, rfl, trivial⟩
   refine then_n ?_
   refine wp_cond_false (F.e rfl) ?_
   refine wp_skip ?_
   refine then_n ?_
   refine wp_seq ?_
   refine wp_region_lit ?_
   refine list_val F (wn rfl) rfl rfl (.slice Ba ba.length ca) (ex_move _ rfl _ (F.e rfl)) ?_; clear F a; intro a F
   refine list_do (wn rfl) (fun K hK => ?_)
   refine ow_call rfl rfl F 27 #[.slice Ba ba.length ca] (ex_call 27 _ _ rfl rfl dt7_ent_27 _ (map1 (F.e rfl))) (copy_any ba _ ba.length ca (by (try simp only [sha_len]); omega) _ (hrba.below M.bel)) (fun e u hR => ?_)
   obtain ⟨A_48, c_48, he, O_n, hb⟩ := hR
   have R1 := R_.new hb M.bel.size O_n
   refine ⟨.slice A_48 ba.length c_48, he, ?_⟩; clear he F a; intro a F
   refine hK _ _ ?_
   clear hK K
   replace R_ := R_.below hb
   replace M := M.below hb; clear hb; try clear v
   replace R_ := R1; clear R1 O_n
   refine list_val F (wn rfl) rfl rfl (.slice Bb bb.length cb) (ex_move _ rfl _ (F.e rfl)) ?_; clear F a; intro a F
   refine list_do (wn rfl) (fun K hK => ?_)
   refine ow_call rfl rfl F 27 #[.slice Bb bb.length cb] (ex_call 27 _ _ rfl rfl dt7_ent_27 _ (map1 (F.e rfl))) (copy_any bb _ bb.length cb (by (try simp only [sha_len]); omega) _ (hrbb.below M.bel)) (fun e v hR => ?_)
   obtain ⟨A_50, c_50, he, O_n, hb⟩ := hR
   have R1 := R_.new hb M.bel.size O_n
   refine ⟨.slice A_50 bb.length c_50, he, ?_⟩; clear he F a; intro a F
   refine hK _ _ ?_
   clear hK K
   replace R_ := R_.below hb
   replace M := M.below hb; clear hb; try clear u
   replace R_ := R1; clear R1 O_n
   refine list_do (wn rfl) (fun K hK => ?_)
   refine ow_call rfl rfl F 21 #[.slice A_48 ba.length c_48, .slice A_50 bb.length c_50] (ex_call 21 _ _ rfl rfl dt7_ent_21 _ (map2 (F.e rfl) (F.e rfl))) (mac_any ba bb _ _ ba.length c_48 bb.length c_50 _ (hKt.below M.bel) (R_.rb (i := 1) rfl) (R_.cap (i := 1) rfl) (R_.rb (i := 0) rfl) (R_.cap (i := 0) rfl)) (fun e u hR => ?_)
   obtain ⟨he, hb⟩ := hR
   refine ⟨.agg ((bcs (mac ba bb)).toArray), he, ?_⟩; clear he F a; intro a F
   refine hK _ _ ?_
   clear hK K
   replace R_ := R_.below hb
   replace M := M.below hb; clear hb; try clear v
   refine list_do (wn rfl) (fun K hK => ?_)
   refine ow_alloc F M rfl rfl 24 rfl (.agg (bcs (List.replicate 32 0)).toArray) z24 ((bcs (List.replicate 32 0)).toArray) rfl ?_
   clear F M a; intro a g7 v F M hb hg
   refine hK _ _ ?_
   clear hK K
   replace R_ := R_.below hb
   clear hb hg; try clear u
   refine list_do (wn rfl) (fun K hK => ?_)
   refine ow_put F M rfl 24 _ _ rfl 0 _ ((bcs (List.replicate 32 0)).toArray) _ rfl (F.e rfl) ((bcs (mac ba bb)).toArray) (F.e rfl) (sz24 (mac_len _ _)) (sz_eqb 32 rfl (mac_len _ _)) (all_oneCell_toArray (bcs_one _)) ?_
   clear F a; have Mo := M; clear M; intro a u F M hgr
   refine hK _ _ ?_
   clear hK K
   replace R_ := R_.box (Mo.blk 0 _ rfl) (by show 5 ≠ 24; decide) hgr
   clear Mo hgr; try clear v
   replace M : Mm w u [⟨g7, (bcs (mac ba bb)).toArray, 24⟩, ⟨g1, #[.slice La n cla, .slice Lb m clb], 32⟩] := M
   refine wpList_nil ?_
   replace F : Fr 88 a [(0, .agg #[.slice La n cla, .slice Lb m clb]), (1, .pointer (some ⟨g1, 0, none⟩)), (2, .bool false), (3, .int .i64 ((q + ba.length + bb.length : Nat) : Int)), (4, .int .i64 ((i : Nat) : Int)), (5, .slice Ba ba.length ca), (6, .slice Bb bb.length cb), (7, .pointer (some ⟨g7, 0, none⟩)), (21, .bool true), (46, .bool false)] := F.keep ⟨rfl, rfl, rfl, rfl, rfl, rfl, rfl, rfl, rfl, rfl, trivial⟩
   refine then_n ?_
   refine wp_seq ?_
   refine wp_region_lit ?_
   refine list_val F (wn rfl) rfl rfl (.slice Ba ba.length ca) (ex_move _ rfl _ (F.e rfl)) ?_; clear F a; intro a F
   refine list_do (wn rfl) (fun K hK => ?_)
   refine ow_call rfl rfl F 27 #[.slice Ba ba.length ca] (ex_call 27 _ _ rfl rfl dt7_ent_27 _ (map1 (F.e rfl))) (copy_any ba _ ba.length ca (by (try simp only [sha_len]); omega) _ (hrba.below M.bel)) (fun e v hR => ?_)
   obtain ⟨A_53, c_53, he, O_n, hb⟩ := hR
   have R1 := R_.new hb M.bel.size O_n
   refine ⟨.slice A_53 ba.length c_53, he, ?_⟩; clear he F a; intro a F
   refine hK _ _ ?_
   clear hK K
   replace R_ := R_.below hb
   replace M := M.below hb; clear hb; try clear u
   replace R_ := R1; clear R1 O_n
   refine list_val F (wn rfl) rfl rfl (.slice A_53 ba.length c_53) (ex_assign _ rfl _ (F.e rfl)) ?_; clear F a; intro a F
   refine wpList_nil ?_
   replace F : Fr 88 a [(0, .agg #[.slice La n cla, .slice Lb m clb]), (1, .pointer (some ⟨g1, 0, none⟩)), (2, .bool false), (3, .int .i64 ((q + ba.length + bb.length : Nat) : Int)), (4, .int .i64 ((i : Nat) : Int)), (5, .slice Ba ba.length ca), (6, .slice Bb bb.length cb), (7, .pointer (some ⟨g7, 0, none⟩)), (8, .slice A_53 ba.length c_53), (21, .bool true), (46, .bool false)] := F.keep ⟨rfl, rfl, rfl, rfl, rfl, rfl, rfl, rfl, rfl, rfl, rfl, trivial⟩
   refine then_n ?_
   refine wp_seq ?_
   refine wp_seq ?_
   by_cases hk64 : 64 < ba.length
   ·
    have hkr : kRow ba = sha ba := if_pos (by omega)
    refine wp_region_lit ?_
    refine list_val F (wn rfl) rfl rfl (.slice Ba ba.length ca) (ex_move _ rfl _ (F.e rfl)) ?_; clear F a; intro a F
    refine list_val F (wn rfl) rfl rfl (.int .i64 ((ba.length : Nat) : Int)) (ex_len _ _ rfl 1 dt7_sl_23_1 _ _ _ (F.e rfl)) ?_; clear F a; intro a F
    refine list_val F (wn rfl) rfl rfl (.bool true) (ex_bin .gtr _ _ _ _ rfl .i64 _ _ (F.e rfl) rfl _ (b_gtr (decide_eq_true (by omega)))) ?_; clear F a; intro a F
    refine wpList_nil ?_
    replace F : Fr 88 a [(0, .agg #[.slice La n cla, .slice Lb m clb]), (1, .pointer (some ⟨g1, 0, none⟩)), (2, .bool false), (3, .int .i64 ((q + ba.length + bb.length : Nat) : Int)), (4, .int .i64 ((i : Nat) : Int)), (5, .slice Ba ba.length ca), (6, .slice Bb bb.length cb), (7, .pointer (some ⟨g7, 0, none⟩)), (8, .slice A_53 ba.length c_53), (21, .bool true), (46, .bool false), (56, .bool true)] := F.keep ⟨rfl, rfl, rfl, rfl, rfl, rfl, rfl, rfl, rfl, rfl, rfl, rfl, trivial⟩
    refine then_n ?_
    refine wp_cond_true (F.e rfl) ?_
    refine wp_seq ?_
    refine wp_region_lit ?_
    refine list_val F (wn rfl) rfl rfl (.slice Ba ba.length ca) (ex_move _ rfl _ (F.e rfl)) ?_; clear F a; intro a F
    refine list_do (wn rfl) (fun K hK => ?_)
    refine ow_call rfl rfl F 27 #[.slice Ba ba.length ca] (ex_call 27 _ _ rfl rfl dt7_ent_27 _ (map1 (F.e rfl))) (copy_any ba _ ba.length ca (by (try simp only [sha_len]); omega) _ (hrba.below M.bel)) (fun e u hR => ?_)
    obtain ⟨A_58, c_58, he, O_n, hb⟩ := hR
    have R1 := R_.new hb M.bel.size O_n
    refine ⟨.slice A_58 ba.length c_58, he, ?_⟩; clear he F a; intro a F
    refine hK _ _ ?_
    clear hK K
    replace R_ := R_.below hb
    replace M := M.below hb; clear hb; try clear v
    replace R_ := R1; clear R1 O_n
    refine list_do (wn rfl) (fun K hK => ?_)
    refine ow_call rfl rfl F 15 #[.slice A_58 ba.length c_58] (ex_call 15 _ _ rfl rfl dt7_ent_15 _ (map1 (F.e rfl))) (sum_bytes ba _ ba.length c_58 _ (hKt.below M.bel) (R_.rb (i := 0) rfl) (R_.cap (i := 0) rfl)) (fun e v hR => ?_)
    obtain ⟨he, hb⟩ := hR
    refine ⟨.agg ((bcs (sha ba)).toArray), he, ?_⟩; clear he F a; intro a F
    refine hK _ _ ?_
    clear hK K
    replace R_ := R_.below hb
    replace M := M.below hb; clear hb; try clear u
    refine list_do (wn rfl) (fun K hK => ?_)
    refine ow_alloc F M rfl rfl 24 rfl (.agg (bcs (List.replicate 32 0)).toArray) z24 ((bcs (List.replicate 32 0)).toArray) rfl ?_
    clear F M a; intro a g9 u F M hb hg
    refine hK _ _ ?_
    clear hK K
    replace R_ := R_.below hb
    clear hb hg; try clear v
    refine list_do (wn rfl) (fun K hK => ?_)
    refine ow_put F M rfl 24 _ _ rfl 0 _ ((bcs (List.replicate 32 0)).toArray) _ rfl (F.e rfl) ((bcs (sha ba)).toArray) (F.e rfl) (sz24 (sha_len _)) (sz_eqb 32 rfl (sha_len _)) (all_oneCell_toArray (bcs_one _)) ?_
    clear F a; have Mo := M; clear M; intro a v F M hgr
    refine hK _ _ ?_
    clear hK K
    replace R_ := R_.box (Mo.blk 0 _ rfl) (by show 5 ≠ 24; decide) hgr
    clear Mo hgr; try clear u
    replace M : Mm w v [⟨g9, (bcs (sha ba)).toArray, 24⟩, ⟨g7, (bcs (mac ba bb)).toArray, 24⟩, ⟨g1, #[.slice La n cla, .slice Lb m clb], 32⟩] := M
    refine wpList_nil ?_
    replace F : Fr 88 a [(0, .agg #[.slice La n cla, .slice Lb m clb]), (1, .pointer (some ⟨g1, 0, none⟩)), (2, .bool false), (3, .int .i64 ((q + ba.length + bb.length : Nat) : Int)), (4, .int .i64 ((i : Nat) : Int)), (5, .slice Ba ba.length ca), (6, .slice Bb bb.length cb), (7, .pointer (some ⟨g7, 0, none⟩)), (8, .slice A_53 ba.length c_53), (9, .pointer (some ⟨g9, 0, none⟩)), (21, .bool true), (46, .bool false), (56, .bool true)] := F.keep ⟨rfl, rfl, rfl, rfl, rfl, rfl, rfl, rfl, rfl, rfl, rfl, rfl, rfl, trivial⟩
    refine then_n ?_
    refine wp_region_lit ?_
    refine list_val F (wn rfl) rfl rfl (.slice (some ⟨g9, 0, none⟩) 32 32) (ex_all 24 _ rfl 32 dt7_sa_24_32 ⟨g9, 0, none⟩ (F.e rfl)) ?_; clear F a; intro a F
    refine list_do (wn rfl) (fun K hK => ?_)
    refine ow_call rfl rfl F 27 #[.slice (some ⟨g9, 0, none⟩) 32 32] (ex_call 27 _ _ rfl rfl dt7_ent_27 _ (map1 (F.e rfl))) (copy_any (sha ba) _ 32 32 (by (try simp only [sha_len]); omega) _ (Rb.mk' (M.at (i := 0) rfl) (sha_len _) (by decide))) (fun e u hR => ?_)
    obtain ⟨A_61, c_61, he, O_n, hb⟩ := hR
    have R1 := R_.new hb M.bel.size O_n
    refine ⟨.slice A_61 ((sha ba).length) c_61, he, ?_⟩; clear he F a; intro a F
    refine hK _ _ ?_
    clear hK K
    replace R_ := R_.below hb
    replace M := M.below hb; clear hb; try clear v
    replace R_ := R1; clear R1 O_n
    refine list_val F (wn rfl) rfl rfl (.slice A_61 ((sha ba).length) c_61) (ex_assign _ rfl _ (F.e rfl)) ?_; clear F a; intro a F
    refine wpList_nil ?_
    replace F : Fr 88 a [(0, .agg #[.slice La n cla, .slice Lb m clb]), (1, .pointer (some ⟨g1, 0, none⟩)), (2, .bool false), (3, .int .i64 ((q + ba.length + bb.length : Nat) : Int)), (4, .int .i64 ((i : Nat) : Int)), (5, .slice Ba ba.length ca), (6, .slice Bb bb.length cb), (7, .pointer (some ⟨g7, 0, none⟩)), (8, .slice A_61 ((sha ba).length) c_61), (9, .pointer (some ⟨g9, 0, none⟩)), (21, .bool true), (46, .bool false), (56, .bool true)] := F.keep ⟨rfl, rfl, rfl, rfl, rfl, rfl, rfl, rfl, rfl, rfl, rfl, rfl, rfl, trivial⟩
    refine then_n ?_
    refine wp_seq ?_
    have hf54 : flB (sha ba) 54 64 = xr ba 54 := (congrArg (fun z => flB z 54 64) hkr).symm.trans (flB_key ba 54)
    have hf92 : flB (sha ba) 92 64 = xr ba 92 := (congrArg (fun z => flB z 92 64) hkr).symm.trans (flB_key ba 92)
    have hf0 : flB (sha ba) 0 64 = key64 ba := (congrArg (fun z => flB z 0 64) hkr).symm.trans (flB_zero ba)
    have hmac : sha (xr ba 92 ++ sha (xr ba 54 ++ bb)) = mac ba bb := rfl
    have hl54 := xr_len ba 54
    have hl92 := xr_len ba 92
    refine wp_region_lit ?_
    refine list_val F (wn rfl) rfl rfl (.slice A_61 ((sha ba).length) c_61) (ex_move _ rfl _ (F.e rfl)) ?_; clear F a; intro a F
    refine list_do (wn rfl) (fun K hK => ?_)
    refine ow_call rfl rfl F 28 #[.slice A_61 ((sha ba).length) c_61, .int .u8 54] (ex_call 28 _ _ rfl rfl dt7_ent_28 _ (map2 (F.e rfl) rfl)) (filled_any (sha ba) 54 _ (sha ba).length c_61 (by (try simp only [sha_len]); omega) _ (R_.rb (i := 0) rfl)) (fun e v hR => ?_)
    obtain ⟨A_63, c_63, he, O_n, hb⟩ := hR
    rw [hf54] at he O_n
    have R1 := R_.new hb M.bel.size O_n
    refine ⟨.slice A_63 ((xr ba 54).length) c_63, he, ?_⟩; clear he F a; intro a F
    refine hK _ _ ?_
    clear hK K
    replace R_ := R_.below hb
    replace M := M.below hb; clear hb; try clear u
    replace R_ := R1; clear R1 O_n
    refine list_val F (wn rfl) rfl rfl (.slice Bb bb.length cb) (ex_move _ rfl _ (F.e rfl)) ?_; clear F a; intro a F
    refine list_do (wn rfl) (fun K hK => ?_)
    refine ow_appR F M R_ rfl rfl rfl rfl _ _ rfl 0 A_63 ((xr ba 54).length) c_63 (xr ba 54) bb ((xr ba 54) ++ bb) rfl rfl Bb bb.length cb (F.e rfl) (F.e rfl) (hrbb.below M.bel) (by omega) ?_
    clear F M R_; intro a A_65 c_65 u F M R_
    refine hK _ _ ?_
    clear hK K
    try clear v
    refine list_do (wn rfl) (fun K hK => ?_)
    refine ow_call rfl rfl F 15 #[.slice A_65 (((xr ba 54) ++ bb).length) c_65] (ex_call 15 _ _ rfl rfl dt7_ent_15 _ (map1 (F.e rfl))) (sum_bytes ((xr ba 54) ++ bb) _ ((xr ba 54) ++ bb).length c_65 _ (hKt.below M.bel) (R_.rb (i := 0) rfl) (R_.cap (i := 0) rfl)) (fun e v hR => ?_)
    obtain ⟨he, hb⟩ := hR
    refine ⟨.agg ((bcs (sha ((xr ba 54) ++ bb))).toArray), he, ?_⟩; clear he F a; intro a F
    refine hK _ _ ?_
    clear hK K
    replace R_ := R_.below hb
    replace M := M.below hb; clear hb; try clear u
    refine list_do (wn rfl) (fun K hK => ?_)
    refine ow_alloc F M rfl rfl 24 rfl (.agg (bcs (List.replicate 32 0)).toArray) z24 ((bcs (List.replicate 32 0)).toArray) rfl ?_
    clear F M a; intro a g10 u F M hb hg
    refine hK _ _ ?_
    clear hK K
    replace R_ := R_.below hb
    clear hb hg; try clear v
    refine list_do (wn rfl) (fun K hK => ?_)
    refine ow_put F M rfl 24 _ _ rfl 0 _ ((bcs (List.replicate 32 0)).toArray) _ rfl (F.e rfl) ((bcs (sha ((xr ba 54) ++ bb))).toArray) (F.e rfl) (sz24 (sha_len _)) (sz_eqb 32 rfl (sha_len _)) (all_oneCell_toArray (bcs_one _)) ?_
    clear F a; have Mo := M; clear M; intro a v F M hgr
    refine hK _ _ ?_
    clear hK K
    replace R_ := R_.box (Mo.blk 0 _ rfl) (by show 5 ≠ 24; decide) hgr
    clear Mo hgr; try clear u
    replace M : Mm w v [⟨g10, (bcs (sha ((xr ba 54) ++ bb))).toArray, 24⟩, ⟨g9, (bcs (sha ba)).toArray, 24⟩, ⟨g7, (bcs (mac ba bb)).toArray, 24⟩, ⟨g1, #[.slice La n cla, .slice Lb m clb], 32⟩] := M
    refine wpList_nil ?_
    replace F : Fr 88 a [(0, .agg #[.slice La n cla, .slice Lb m clb]), (1, .pointer (some ⟨g1, 0, none⟩)), (2, .bool false), (3, .int .i64 ((q + ba.length + bb.length : Nat) : Int)), (4, .int .i64 ((i : Nat) : Int)), (5, .slice Ba ba.length ca), (6, .slice Bb bb.length cb), (7, .pointer (some ⟨g7, 0, none⟩)), (8, .slice A_61 ((sha ba).length) c_61), (9, .pointer (some ⟨g9, 0, none⟩)), (10, .pointer (some ⟨g10, 0, none⟩)), (21, .bool true), (46, .bool false), (56, .bool true)] := F.keep ⟨rfl, rfl, rfl, rfl, rfl, rfl, rfl, rfl, rfl, rfl, rfl, rfl, rfl, rfl, trivial⟩
    refine then_n ?_
    refine wp_seq ?_
    refine wp_seq ?_
    refine wp_only (fun ar wr => ∃ (A_68 : Option Addr), ∃ (c_68 : Nat), ∃ (A_70 : Option Addr), ∃ (c_70 : Nat), ∃ (A_76 : Option Addr), ∃ (c_76 : Nat), ∃ (A_78 : Option Addr), ∃ (c_78 : Nat), Fr 88 ar [(0, .agg #[.slice La n cla, .slice Lb m clb]), (1, .pointer (some ⟨g1, 0, none⟩)), (2, .bool false), (3, .int .i64 ((q + ba.length + bb.length : Nat) : Int)), (4, .int .i64 ((i : Nat) : Int)), (5, .slice Ba ba.length ca), (6, .slice Bb bb.length cb), (7, .pointer (some ⟨g7, 0, none⟩)), (8, .slice A_61 ((sha ba).length) c_61), (9, .pointer (some ⟨g9, 0, none⟩)), (10, .pointer (some ⟨g10, 0, none⟩)), (21, .bool true), (46, .bool false), (56, .bool true), (82, .bool false)] ∧ Mm w wr [⟨g10, (bcs (sha ((xr ba 54) ++ bb))).toArray, 24⟩, ⟨g9, (bcs (sha ba)).toArray, 24⟩, ⟨g7, (bcs (mac ba bb)).toArray, 24⟩, ⟨g1, #[.slice La n cla, .slice Lb m clb], 32⟩] ∧ Rs w wr [(.slice A_78 bb.length c_78, bb), (.slice A_76 ((key64 ba).length) c_76, (key64 ba)), (.slice A_70 (((xr ba 92) ++ (sha ((xr ba 54) ++ bb))).length) c_70, ((xr ba 92) ++ (sha ((xr ba 54) ++ bb)))), (.slice A_65 (((xr ba 54) ++ bb).length) c_65, ((xr ba 54) ++ bb)), (.slice A_61 ((sha ba).length) c_61, (sha ba)), (.slice A_58 ba.length c_58, ba), (.slice A_53 ba.length c_53, ba), (.slice A_50 bb.length c_50, bb), (.slice A_48 ba.length c_48, ba)]) ?_ ?_
    ·
     refine region_anyM dt7_follows_mixedOrders M [⟨g7, (bcs (mac ba bb)).toArray, 24⟩] (fun w' M => (by refine M.pick' [2] _ ?_ (by decide); exact ⟨rfl, trivial⟩)) ?_; clear M; intro wD M hb
     replace R_ := R_.below hb
     clear hb; try clear v
     have hS : Mm w wD [⟨g7, (bcs (mac ba bb)).toArray, 24⟩] := (by refine M.pick' [2] _ ?_ (by decide); exact ⟨rfl, trivial⟩)
     refine any_val F 0 rfl (by kernel_rfl) (wn rfl) rfl rfl (.slice A_61 ((sha ba).length) c_61) (fun w' hS' => ex_move _ rfl _ (F.e rfl)) hS ?_; clear F a; intro a F
     refine any_val F 2 rfl (by kernel_rfl) (wn rfl) rfl rfl (.slice (some ⟨g10, 0, none⟩) 32 32) (fun w' hS' => ex_all 24 _ rfl 32 dt7_sa_24_32 ⟨g10, 0, none⟩ (F.e rfl)) hS ?_; clear F a; intro a F
     refine any_val F 5 rfl (by kernel_rfl) (wn rfl) rfl rfl (.agg ((bcs (mac ba bb)).toArray)) (fun w' hS' => ex_load _ _ rfl _ (F.e rfl) _ (lvr (cs := bcs (mac ba bb)) (by rw [bcs_len, show _ = 32 from (mac_len _ _)]; exact dt7_row_24_32) (hS'.at (i := 0) rfl))) hS ?_; clear F a; intro a F
     refine any_ready [1] (by kernel_rfl) (by simp) ?_
     refine ready_do rfl (wn rfl) (fun K hK => ?_) AllReadyH.nil
     refine ow_call rfl rfl F 28 #[.slice A_61 ((sha ba).length) c_61, .int .u8 92] (ex_call 28 _ _ rfl rfl dt7_ent_28 _ (map2 (F.e rfl) rfl)) (filled_any (sha ba) 92 _ (sha ba).length c_61 (by (try simp only [sha_len]); omega) _ (R_.rb (i := 1) rfl)) (fun e v hR => ?_)
     obtain ⟨A_68, c_68, he, O_n, hb⟩ := hR
     rw [hf92] at he O_n
     have R1 := R_.new hb M.bel.size O_n
     refine ⟨.slice A_68 ((xr ba 92).length) c_68, he, ?_⟩; clear he F a; intro a F
     replace hS : Mm w v [⟨g7, (bcs (mac ba bb)).toArray, 24⟩] := (by refine (M.below hb).pick' [2] _ ?_ (by decide); exact ⟨rfl, trivial⟩)
     refine hK _ _ hS ?_
     clear hK K
     replace R_ := R_.below hb
     replace M := M.below hb; clear hb; try clear wD
     replace R_ := R1; clear R1 O_n
     refine any_ready [3] (by kernel_rfl) (by simp) ?_
     refine ready_do rfl (wn rfl) (fun K hK => ?_) AllReadyH.nil
     refine ow_appR F M R_ rfl rfl rfl rfl _ _ rfl 0 A_68 ((xr ba 92).length) c_68 (xr ba 92) (sha ((xr ba 54) ++ bb)) ((xr ba 92) ++ (sha ((xr ba 54) ++ bb))) rfl rfl (some ⟨g10, 0, none⟩) 32 32 (F.e rfl) (F.e rfl) (Rb.mk' (M.at (i := 0) rfl) (sha_len _) (by decide)) (by omega) ?_
     clear F M R_; intro a A_70 c_70 u F M R_
     replace hS : Mm w u [⟨g7, (bcs (mac ba bb)).toArray, 24⟩] := (by refine M.pick' [2] _ ?_ (by decide); exact ⟨rfl, trivial⟩)
     refine hK _ _ hS ?_
     clear hK K
     try clear v
     refine any_ready [4] (by kernel_rfl) (by simp) ?_
     refine ready_do rfl (wn rfl) (fun K hK => ?_) AllReadyH.nil
     refine ow_call rfl rfl F 15 #[.slice A_70 (((xr ba 92) ++ (sha ((xr ba 54) ++ bb))).length) c_70] (ex_call 15 _ _ rfl rfl dt7_ent_15 _ (map1 (F.e rfl))) (sum_bytes ((xr ba 92) ++ (sha ((xr ba 54) ++ bb))) _ ((xr ba 92) ++ (sha ((xr ba 54) ++ bb))).length c_70 _ (hKt.below M.bel) (R_.rb (i := 0) rfl) (R_.cap (i := 0) rfl)) (fun e v hR => ?_)
     obtain ⟨he, hb⟩ := hR
     refine ⟨.agg ((bcs (sha ((xr ba 92) ++ (sha ((xr ba 54) ++ bb))))).toArray), he, ?_⟩; clear he F a; intro a F
     replace hS : Mm w v [⟨g7, (bcs (mac ba bb)).toArray, 24⟩] := (by refine (M.below hb).pick' [2] _ ?_ (by decide); exact ⟨rfl, trivial⟩)
     refine hK _ _ hS ?_
     clear hK K
     replace R_ := R_.below hb
     replace M := M.below hb; clear hb; try clear u
     refine any_val F 6 rfl (by kernel_rfl) (wn rfl) rfl rfl (.bool false) (fun w' hS' => ex_neqA 24 _ _ _ rfl 32 dt7_ab_24_32 (sha ((xr ba 92) ++ (sha ((xr ba 54) ++ bb)))) (mac ba bb) (sha_len _) (mac_len _ _) (F.e rfl) (F.e rfl) false (by rw [hmac]; exact not_self _)) hS ?_; clear F a; intro a F
     refine any_val F 7 rfl (by kernel_rfl) (wn rfl) rfl rfl (.bool false) (fun w' hS' => ex_move _ rfl _ (F.e rfl)) hS ?_; clear F a; intro a F
     refine any_val F 8 rfl (by kernel_rfl) (F.wants 74 false rfl (by kernel_rfl) rfl true rfl) rfl rfl (.slice A_61 ((sha ba).length) c_61) (fun w' hS' => ex_move _ rfl _ (F.e rfl)) hS ?_; clear F a; intro a F
     refine any_val F 10 rfl (by kernel_rfl) (F.wants 74 false rfl (by kernel_rfl) rfl true rfl) rfl rfl (.slice Bb bb.length cb) (fun w' hS' => ex_move _ rfl _ (F.e rfl)) hS ?_; clear F a; intro a F
     refine any_val F 13 rfl (by kernel_rfl) (F.wants 74 false rfl (by kernel_rfl) rfl true rfl) rfl rfl (.agg ((bcs (mac ba bb)).toArray)) (fun w' hS' => ex_load _ _ rfl _ (F.e rfl) _ (lvr (cs := bcs (mac ba bb)) (by rw [bcs_len, show _ = 32 from (mac_len _ _)]; exact dt7_row_24_32) (hS'.at (i := 0) rfl))) hS ?_; clear F a; intro a F
     refine any_ready [9] (by kernel_rfl) (by simp) ?_
     refine ready_do rfl (F.wants 74 false rfl (by kernel_rfl) rfl true rfl) (fun K hK => ?_) AllReadyH.nil
     refine ow_call rfl rfl F 28 #[.slice A_61 ((sha ba).length) c_61, .int .u8 0] (ex_call 28 _ _ rfl rfl dt7_ent_28 _ (map2 (F.e rfl) rfl)) (filled_any (sha ba) 0 _ (sha ba).length c_61 (by (try simp only [sha_len]); omega) _ (R_.rb (i := 2) rfl)) (fun e u hR => ?_)
     obtain ⟨A_76, c_76, he, O_n, hb⟩ := hR
     rw [hf0] at he O_n
     have R1 := R_.new hb M.bel.size O_n
     refine ⟨.slice A_76 ((key64 ba).length) c_76, he, ?_⟩; clear he F a; intro a F
     replace hS : Mm w u [⟨g7, (bcs (mac ba bb)).toArray, 24⟩] := (by refine (M.below hb).pick' [2] _ ?_ (by decide); exact ⟨rfl, trivial⟩)
     refine hK _ _ hS ?_
     clear hK K
     replace R_ := R_.below hb
     replace M := M.below hb; clear hb; try clear v
     replace R_ := R1; clear R1 O_n
     refine any_ready [11] (by kernel_rfl) (by simp) ?_
     refine ready_do rfl (F.wants 74 false rfl (by kernel_rfl) rfl true rfl) (fun K hK => ?_) AllReadyH.nil
     refine ow_call rfl rfl F 27 #[.slice Bb bb.length cb] (ex_call 27 _ _ rfl rfl dt7_ent_27 _ (map1 (F.e rfl))) (copy_any bb _ bb.length cb (by (try simp only [sha_len]); omega) _ (hrbb.below M.bel)) (fun e v hR => ?_)
     obtain ⟨A_78, c_78, he, O_n, hb⟩ := hR
     have R1 := R_.new hb M.bel.size O_n
     refine ⟨.slice A_78 bb.length c_78, he, ?_⟩; clear he F a; intro a F
     replace hS : Mm w v [⟨g7, (bcs (mac ba bb)).toArray, 24⟩] := (by refine (M.below hb).pick' [2] _ ?_ (by decide); exact ⟨rfl, trivial⟩)
     refine hK _ _ hS ?_
     clear hK K
     replace R_ := R_.below hb
     replace M := M.below hb; clear hb; try clear u
     replace R_ := R1; clear R1 O_n
     refine any_ready [12] (by kernel_rfl) (by simp) ?_
     refine ready_do rfl (F.wants 74 false rfl (by kernel_rfl) rfl true rfl) (fun K hK => ?_) AllReadyH.nil
     refine ow_call rfl rfl F 21 #[.slice A_76 ((key64 ba).length) c_76, .slice A_78 bb.length c_78] (ex_call 21 _ _ rfl rfl dt7_ent_21 _ (map2 (F.e rfl) (F.e rfl))) (mac_any (key64 ba) bb _ _ (key64 ba).length c_76 bb.length c_78 _ (hKt.below M.bel) (R_.rb (i := 1) rfl) (R_.cap (i := 1) rfl) (R_.rb (i := 0) rfl) (R_.cap (i := 0) rfl)) (fun e u hR => ?_)
     obtain ⟨he, hb⟩ := hR
     refine ⟨.agg ((bcs (mac (key64 ba) bb)).toArray), he, ?_⟩; clear he F a; intro a F
     replace hS : Mm w u [⟨g7, (bcs (mac ba bb)).toArray, 24⟩] := (by refine (M.below hb).pick' [2] _ ?_ (by decide); exact ⟨rfl, trivial⟩)
     refine hK _ _ hS ?_
     clear hK K
     replace R_ := R_.below hb
     replace M := M.below hb; clear hb; try clear v
     refine any_val F 14 rfl (by kernel_rfl) (F.wants 74 false rfl (by kernel_rfl) rfl true rfl) rfl rfl (.bool false) (fun w' hS' => ex_neqA 24 _ _ _ rfl 32 dt7_ab_24_32 (mac (key64 ba) bb) (mac ba bb) (mac_len _ _) (mac_len _ _) (F.e rfl) (F.e rfl) false (by rw [mac_key]; exact not_self _)) hS ?_; clear F a; intro a F
     refine any_val F 15 rfl (by kernel_rfl) (wn rfl) rfl rfl (.bool false) (fun w' hS' => ex_pick_f _ _ _ rfl (F.e rfl) _ (F.e rfl)) hS ?_; clear F a; intro a F
     refine any_done (by kernel_rfl) ?_
     exact ⟨A_68, c_68, A_70, c_70, A_76, c_76, A_78, c_78, F.keep ⟨rfl, rfl, rfl, rfl, rfl, rfl, rfl, rfl, rfl, rfl, rfl, rfl, rfl, rfl, rfl, trivial⟩, (by refine M.pick' [0, 1, 2, 3] _ ?_ (by decide); exact ⟨rfl, rfl, rfl, rfl, trivial⟩), R_⟩
    clear F M a R_
    intro a u hR; obtain ⟨A_68, c_68, A_70, c_70, A_76, c_76, A_78, c_78, F, M, R_⟩ := hR; try clear v
    refine then_n ?_
    refine wp_cond_false (F.e rfl) ?_
    refine wp_skip ?_
    refine then_n ?_
    refine wp_seq ?_
    refine wp_region_lit ?_
    refine list_val F (wn rfl) rfl rfl (.slice Ba ba.length ca) (ex_move _ rfl _ (F.e rfl)) ?_; clear F a; intro a F
    refine list_val F (wn rfl) rfl rfl (.slice Bb bb.length cb) (ex_move _ rfl _ (F.e rfl)) ?_; clear F a; intro a F
    refine list_do (wn rfl) (fun K hK => ?_)
    refine ow_call rfl rfl F 29 #[.slice Ba ba.length ca, .slice Bb bb.length cb] (ex_call 29 _ _ rfl rfl dt7_ent_29 _ (map2 (F.e rfl) (F.e rfl))) (wordB_any ba bb _ _ ba.length ca bb.length cb (by omega) _ (hKt.below M.bel) (hrba.below M.bel) (hrbb.below M.bel)) (fun e v hR => ?_)
    obtain ⟨he, hb⟩ := hR
    refine ⟨.bool true, he, ?_⟩; clear he F a; intro a F
    refine hK _ _ ?_
    clear hK K
    replace R_ := R_.below hb
    replace M := M.below hb; clear hb; try clear u
    refine list_val F (wn rfl) rfl rfl (.bool false) (ex_not _ _ rfl _ (F.e rfl) _ rfl) ?_; clear F a; intro a F
    refine wpList_nil ?_
    replace F : Fr 88 a [(0, .agg #[.slice La n cla, .slice Lb m clb]), (1, .pointer (some ⟨g1, 0, none⟩)), (2, .bool false), (3, .int .i64 ((q + ba.length + bb.length : Nat) : Int)), (4, .int .i64 ((i : Nat) : Int)), (5, .slice Ba ba.length ca), (6, .slice Bb bb.length cb), (7, .pointer (some ⟨g7, 0, none⟩)), (8, .slice A_61 ((sha ba).length) c_61), (9, .pointer (some ⟨g9, 0, none⟩)), (10, .pointer (some ⟨g10, 0, none⟩)), (21, .bool true), (46, .bool false), (56, .bool true), (82, .bool false), (86, .bool false)] := F.keep ⟨rfl, rfl, rfl, rfl, rfl, rfl, rfl, rfl, rfl, rfl, rfl, rfl, rfl, rfl, rfl, rfl, trivial⟩
    refine then_n ?_
    refine wp_cond_false (F.e rfl) ?_
    refine wp_skip ?_
    refine in_n ?_
    refine then_n ?_
    refine wp_region_lit ?_
    refine list_val F (wn rfl) rfl rfl (.int .i64 ((i : Nat) : Int)) (ex_move _ rfl _ (F.e rfl)) ?_; clear F a; intro a F
    refine list_val F (wn rfl) rfl rfl (.int .i64 ((i + 1 : Nat) : Int)) (ex_bin .add _ _ _ _ rfl .i64 _ _ (F.e rfl) rfl _ (b_add ((w_i64 (by omega) (by omega)).trans (by omega)))) ?_; clear F a; intro a F
    refine list_val F (wn rfl) rfl rfl (.int .i64 ((i + 1 : Nat) : Int)) (ex_assign _ rfl _ (F.e rfl)) ?_; clear F a; intro a F
    refine wpList_nil ?_
    replace F : Fr 88 a [(0, .agg #[.slice La n cla, .slice Lb m clb]), (1, .pointer (some ⟨g1, 0, none⟩)), (2, .bool false), (3, .int .i64 ((q + ba.length + bb.length : Nat) : Int)), (4, .int .i64 ((i + 1 : Nat) : Int)), (5, .slice Ba ba.length ca), (6, .slice Bb bb.length cb), (7, .pointer (some ⟨g7, 0, none⟩)), (8, .slice A_61 ((sha ba).length) c_61), (9, .pointer (some ⟨g9, 0, none⟩)), (10, .pointer (some ⟨g10, 0, none⟩)), (21, .bool true), (46, .bool false), (56, .bool true), (82, .bool false), (86, .bool false)] := F.keep ⟨rfl, rfl, rfl, rfl, rfl, rfl, rfl, rfl, rfl, rfl, rfl, rfl, rfl, rfl, rfl, rfl, trivial⟩
    refine then_n ?_
    replace R_ := R_.pick [] [] trivial (by decide)
    exact ⟨m - (i + 1), by omega, (i + 1), (q + ba.length + bb.length), F.keep ⟨rfl, rfl, rfl, rfl, rfl, trivial⟩, (by refine M.pick' [3] _ ?_ (by decide); exact ⟨rfl, trivial⟩), R_, (by omega), (by omega), (by omega)⟩
   have hkr : kRow ba = ba := if_neg (by omega)
   refine wp_region_lit ?_
   refine list_val F (wn rfl) rfl rfl (.slice Ba ba.length ca) (ex_move _ rfl _ (F.e rfl)) ?_; clear F a; intro a F
   refine list_val F (wn rfl) rfl rfl (.int .i64 ((ba.length : Nat) : Int)) (ex_len _ _ rfl 1 dt7_sl_23_1 _ _ _ (F.e rfl)) ?_; clear F a; intro a F
   refine list_val F (wn rfl) rfl rfl (.bool false) (ex_bin .gtr _ _ _ _ rfl .i64 _ _ (F.e rfl) rfl _ (b_gtr (decide_eq_false (by omega)))) ?_; clear F a; intro a F
   refine wpList_nil ?_
   replace F : Fr 88 a [(0, .agg #[.slice La n cla, .slice Lb m clb]), (1, .pointer (some ⟨g1, 0, none⟩)), (2, .bool false), (3, .int .i64 ((q + ba.length + bb.length : Nat) : Int)), (4, .int .i64 ((i : Nat) : Int)), (5, .slice Ba ba.length ca), (6, .slice Bb bb.length cb), (7, .pointer (some ⟨g7, 0, none⟩)), (8, .slice A_53 ba.length c_53), (21, .bool true), (46, .bool false), (56, .bool false)] := F.keep ⟨rfl, rfl, rfl, rfl, rfl, rfl, rfl, rfl, rfl, rfl, rfl, rfl, trivial⟩
   refine then_n ?_
   refine wp_cond_false (F.e rfl) ?_
   refine wp_skip ?_
   refine then_n ?_
   refine wp_seq ?_
   have hf54 : flB ba 54 64 = xr ba 54 := (congrArg (fun z => flB z 54 64) hkr).symm.trans (flB_key ba 54)
   have hf92 : flB ba 92 64 = xr ba 92 := (congrArg (fun z => flB z 92 64) hkr).symm.trans (flB_key ba 92)
   have hf0 : flB ba 0 64 = key64 ba := (congrArg (fun z => flB z 0 64) hkr).symm.trans (flB_zero ba)
   have hmac : sha (xr ba 92 ++ sha (xr ba 54 ++ bb)) = mac ba bb := rfl
   have hl54 := xr_len ba 54
   have hl92 := xr_len ba 92
   refine wp_region_lit ?_
   refine list_val F (wn rfl) rfl rfl (.slice A_53 ba.length c_53) (ex_move _ rfl _ (F.e rfl)) ?_; clear F a; intro a F
   refine list_do (wn rfl) (fun K hK => ?_)
   refine ow_call rfl rfl F 28 #[.slice A_53 ba.length c_53, .int .u8 54] (ex_call 28 _ _ rfl rfl dt7_ent_28 _ (map2 (F.e rfl) rfl)) (filled_any ba 54 _ ba.length c_53 (by (try simp only [sha_len]); omega) _ (R_.rb (i := 0) rfl)) (fun e u hR => ?_)
   obtain ⟨A_63, c_63, he, O_n, hb⟩ := hR
   rw [hf54] at he O_n
   have R1 := R_.new hb M.bel.size O_n
   refine ⟨.slice A_63 ((xr ba 54).length) c_63, he, ?_⟩; clear he F a; intro a F
   refine hK _ _ ?_
   clear hK K
   replace R_ := R_.below hb
   replace M := M.below hb; clear hb; try clear v
   replace R_ := R1; clear R1 O_n
   refine list_val F (wn rfl) rfl rfl (.slice Bb bb.length cb) (ex_move _ rfl _ (F.e rfl)) ?_; clear F a; intro a F
   refine list_do (wn rfl) (fun K hK => ?_)
   refine ow_appR F M R_ rfl rfl rfl rfl _ _ rfl 0 A_63 ((xr ba 54).length) c_63 (xr ba 54) bb ((xr ba 54) ++ bb) rfl rfl Bb bb.length cb (F.e rfl) (F.e rfl) (hrbb.below M.bel) (by omega) ?_
   clear F M R_; intro a A_65 c_65 v F M R_
   refine hK _ _ ?_
   clear hK K
   try clear u
   refine list_do (wn rfl) (fun K hK => ?_)
   refine ow_call rfl rfl F 15 #[.slice A_65 (((xr ba 54) ++ bb).length) c_65] (ex_call 15 _ _ rfl rfl dt7_ent_15 _ (map1 (F.e rfl))) (sum_bytes ((xr ba 54) ++ bb) _ ((xr ba 54) ++ bb).length c_65 _ (hKt.below M.bel) (R_.rb (i := 0) rfl) (R_.cap (i := 0) rfl)) (fun e u hR => ?_)
   obtain ⟨he, hb⟩ := hR
   refine ⟨.agg ((bcs (sha ((xr ba 54) ++ bb))).toArray), he, ?_⟩; clear he F a; intro a F
   refine hK _ _ ?_
   clear hK K
   replace R_ := R_.below hb
   replace M := M.below hb; clear hb; try clear v
   refine list_do (wn rfl) (fun K hK => ?_)
   refine ow_alloc F M rfl rfl 24 rfl (.agg (bcs (List.replicate 32 0)).toArray) z24 ((bcs (List.replicate 32 0)).toArray) rfl ?_
   clear F M a; intro a g10 v F M hb hg
   refine hK _ _ ?_
   clear hK K
   replace R_ := R_.below hb
   clear hb hg; try clear u
   refine list_do (wn rfl) (fun K hK => ?_)
   refine ow_put F M rfl 24 _ _ rfl 0 _ ((bcs (List.replicate 32 0)).toArray) _ rfl (F.e rfl) ((bcs (sha ((xr ba 54) ++ bb))).toArray) (F.e rfl) (sz24 (sha_len _)) (sz_eqb 32 rfl (sha_len _)) (all_oneCell_toArray (bcs_one _)) ?_
   clear F a; have Mo := M; clear M; intro a u F M hgr
   refine hK _ _ ?_
   clear hK K
   replace R_ := R_.box (Mo.blk 0 _ rfl) (by show 5 ≠ 24; decide) hgr
   clear Mo hgr; try clear v
   replace M : Mm w u [⟨g10, (bcs (sha ((xr ba 54) ++ bb))).toArray, 24⟩, ⟨g7, (bcs (mac ba bb)).toArray, 24⟩, ⟨g1, #[.slice La n cla, .slice Lb m clb], 32⟩] := M
   refine wpList_nil ?_
   replace F : Fr 88 a [(0, .agg #[.slice La n cla, .slice Lb m clb]), (1, .pointer (some ⟨g1, 0, none⟩)), (2, .bool false), (3, .int .i64 ((q + ba.length + bb.length : Nat) : Int)), (4, .int .i64 ((i : Nat) : Int)), (5, .slice Ba ba.length ca), (6, .slice Bb bb.length cb), (7, .pointer (some ⟨g7, 0, none⟩)), (8, .slice A_53 ba.length c_53), (10, .pointer (some ⟨g10, 0, none⟩)), (21, .bool true), (46, .bool false), (56, .bool false)] := F.keep ⟨rfl, rfl, rfl, rfl, rfl, rfl, rfl, rfl, rfl, rfl, rfl, rfl, rfl, trivial⟩
   refine then_n ?_
   refine wp_seq ?_
   refine wp_seq ?_
   refine wp_only (fun ar wr => ∃ (A_68 : Option Addr), ∃ (c_68 : Nat), ∃ (A_70 : Option Addr), ∃ (c_70 : Nat), ∃ (A_76 : Option Addr), ∃ (c_76 : Nat), ∃ (A_78 : Option Addr), ∃ (c_78 : Nat), Fr 88 ar [(0, .agg #[.slice La n cla, .slice Lb m clb]), (1, .pointer (some ⟨g1, 0, none⟩)), (2, .bool false), (3, .int .i64 ((q + ba.length + bb.length : Nat) : Int)), (4, .int .i64 ((i : Nat) : Int)), (5, .slice Ba ba.length ca), (6, .slice Bb bb.length cb), (7, .pointer (some ⟨g7, 0, none⟩)), (8, .slice A_53 ba.length c_53), (10, .pointer (some ⟨g10, 0, none⟩)), (21, .bool true), (46, .bool false), (56, .bool false), (82, .bool false)] ∧ Mm w wr [⟨g10, (bcs (sha ((xr ba 54) ++ bb))).toArray, 24⟩, ⟨g7, (bcs (mac ba bb)).toArray, 24⟩, ⟨g1, #[.slice La n cla, .slice Lb m clb], 32⟩] ∧ Rs w wr [(.slice A_78 bb.length c_78, bb), (.slice A_76 ((key64 ba).length) c_76, (key64 ba)), (.slice A_70 (((xr ba 92) ++ (sha ((xr ba 54) ++ bb))).length) c_70, ((xr ba 92) ++ (sha ((xr ba 54) ++ bb)))), (.slice A_65 (((xr ba 54) ++ bb).length) c_65, ((xr ba 54) ++ bb)), (.slice A_53 ba.length c_53, ba), (.slice A_50 bb.length c_50, bb), (.slice A_48 ba.length c_48, ba)]) ?_ ?_
   ·
    refine region_anyM dt7_follows_mixedOrders M [⟨g7, (bcs (mac ba bb)).toArray, 24⟩] (fun w' M => (by refine M.pick' [1] _ ?_ (by decide); exact ⟨rfl, trivial⟩)) ?_; clear M; intro wD M hb
    replace R_ := R_.below hb
    clear hb; try clear u
    have hS : Mm w wD [⟨g7, (bcs (mac ba bb)).toArray, 24⟩] := (by refine M.pick' [1] _ ?_ (by decide); exact ⟨rfl, trivial⟩)
    refine any_val F 0 rfl (by kernel_rfl) (wn rfl) rfl rfl (.slice A_53 ba.length c_53) (fun w' hS' => ex_move _ rfl _ (F.e rfl)) hS ?_; clear F a; intro a F
    refine any_val F 2 rfl (by kernel_rfl) (wn rfl) rfl rfl (.slice (some ⟨g10, 0, none⟩) 32 32) (fun w' hS' => ex_all 24 _ rfl 32 dt7_sa_24_32 ⟨g10, 0, none⟩ (F.e rfl)) hS ?_; clear F a; intro a F
    refine any_val F 5 rfl (by kernel_rfl) (wn rfl) rfl rfl (.agg ((bcs (mac ba bb)).toArray)) (fun w' hS' => ex_load _ _ rfl _ (F.e rfl) _ (lvr (cs := bcs (mac ba bb)) (by rw [bcs_len, show _ = 32 from (mac_len _ _)]; exact dt7_row_24_32) (hS'.at (i := 0) rfl))) hS ?_; clear F a; intro a F
    refine any_ready [1] (by kernel_rfl) (by simp) ?_
    refine ready_do rfl (wn rfl) (fun K hK => ?_) AllReadyH.nil
    refine ow_call rfl rfl F 28 #[.slice A_53 ba.length c_53, .int .u8 92] (ex_call 28 _ _ rfl rfl dt7_ent_28 _ (map2 (F.e rfl) rfl)) (filled_any ba 92 _ ba.length c_53 (by (try simp only [sha_len]); omega) _ (R_.rb (i := 1) rfl)) (fun e v hR => ?_)
    obtain ⟨A_68, c_68, he, O_n, hb⟩ := hR
    rw [hf92] at he O_n
    have R1 := R_.new hb M.bel.size O_n
    refine ⟨.slice A_68 ((xr ba 92).length) c_68, he, ?_⟩; clear he F a; intro a F
    replace hS : Mm w v [⟨g7, (bcs (mac ba bb)).toArray, 24⟩] := (by refine (M.below hb).pick' [1] _ ?_ (by decide); exact ⟨rfl, trivial⟩)
    refine hK _ _ hS ?_
    clear hK K
    replace R_ := R_.below hb
    replace M := M.below hb; clear hb; try clear wD
    replace R_ := R1; clear R1 O_n
    refine any_ready [3] (by kernel_rfl) (by simp) ?_
    refine ready_do rfl (wn rfl) (fun K hK => ?_) AllReadyH.nil
    refine ow_appR F M R_ rfl rfl rfl rfl _ _ rfl 0 A_68 ((xr ba 92).length) c_68 (xr ba 92) (sha ((xr ba 54) ++ bb)) ((xr ba 92) ++ (sha ((xr ba 54) ++ bb))) rfl rfl (some ⟨g10, 0, none⟩) 32 32 (F.e rfl) (F.e rfl) (Rb.mk' (M.at (i := 0) rfl) (sha_len _) (by decide)) (by omega) ?_
    clear F M R_; intro a A_70 c_70 u F M R_
    replace hS : Mm w u [⟨g7, (bcs (mac ba bb)).toArray, 24⟩] := (by refine M.pick' [1] _ ?_ (by decide); exact ⟨rfl, trivial⟩)
    refine hK _ _ hS ?_
    clear hK K
    try clear v
    refine any_ready [4] (by kernel_rfl) (by simp) ?_
    refine ready_do rfl (wn rfl) (fun K hK => ?_) AllReadyH.nil
    refine ow_call rfl rfl F 15 #[.slice A_70 (((xr ba 92) ++ (sha ((xr ba 54) ++ bb))).length) c_70] (ex_call 15 _ _ rfl rfl dt7_ent_15 _ (map1 (F.e rfl))) (sum_bytes ((xr ba 92) ++ (sha ((xr ba 54) ++ bb))) _ ((xr ba 92) ++ (sha ((xr ba 54) ++ bb))).length c_70 _ (hKt.below M.bel) (R_.rb (i := 0) rfl) (R_.cap (i := 0) rfl)) (fun e v hR => ?_)
    obtain ⟨he, hb⟩ := hR
    refine ⟨.agg ((bcs (sha ((xr ba 92) ++ (sha ((xr ba 54) ++ bb))))).toArray), he, ?_⟩; clear he F a; intro a F
    replace hS : Mm w v [⟨g7, (bcs (mac ba bb)).toArray, 24⟩] := (by refine (M.below hb).pick' [1] _ ?_ (by decide); exact ⟨rfl, trivial⟩)
    refine hK _ _ hS ?_
    clear hK K
    replace R_ := R_.below hb
    replace M := M.below hb; clear hb; try clear u
    refine any_val F 6 rfl (by kernel_rfl) (wn rfl) rfl rfl (.bool false) (fun w' hS' => ex_neqA 24 _ _ _ rfl 32 dt7_ab_24_32 (sha ((xr ba 92) ++ (sha ((xr ba 54) ++ bb)))) (mac ba bb) (sha_len _) (mac_len _ _) (F.e rfl) (F.e rfl) false (by rw [hmac]; exact not_self _)) hS ?_; clear F a; intro a F
    refine any_val F 7 rfl (by kernel_rfl) (wn rfl) rfl rfl (.bool false) (fun w' hS' => ex_move _ rfl _ (F.e rfl)) hS ?_; clear F a; intro a F
    refine any_val F 8 rfl (by kernel_rfl) (F.wants 74 false rfl (by kernel_rfl) rfl true rfl) rfl rfl (.slice A_53 ba.length c_53) (fun w' hS' => ex_move _ rfl _ (F.e rfl)) hS ?_; clear F a; intro a F
    refine any_val F 10 rfl (by kernel_rfl) (F.wants 74 false rfl (by kernel_rfl) rfl true rfl) rfl rfl (.slice Bb bb.length cb) (fun w' hS' => ex_move _ rfl _ (F.e rfl)) hS ?_; clear F a; intro a F
    refine any_val F 13 rfl (by kernel_rfl) (F.wants 74 false rfl (by kernel_rfl) rfl true rfl) rfl rfl (.agg ((bcs (mac ba bb)).toArray)) (fun w' hS' => ex_load _ _ rfl _ (F.e rfl) _ (lvr (cs := bcs (mac ba bb)) (by rw [bcs_len, show _ = 32 from (mac_len _ _)]; exact dt7_row_24_32) (hS'.at (i := 0) rfl))) hS ?_; clear F a; intro a F
    refine any_ready [9] (by kernel_rfl) (by simp) ?_
    refine ready_do rfl (F.wants 74 false rfl (by kernel_rfl) rfl true rfl) (fun K hK => ?_) AllReadyH.nil
    refine ow_call rfl rfl F 28 #[.slice A_53 ba.length c_53, .int .u8 0] (ex_call 28 _ _ rfl rfl dt7_ent_28 _ (map2 (F.e rfl) rfl)) (filled_any ba 0 _ ba.length c_53 (by (try simp only [sha_len]); omega) _ (R_.rb (i := 2) rfl)) (fun e u hR => ?_)
    obtain ⟨A_76, c_76, he, O_n, hb⟩ := hR
    rw [hf0] at he O_n
    have R1 := R_.new hb M.bel.size O_n
    refine ⟨.slice A_76 ((key64 ba).length) c_76, he, ?_⟩; clear he F a; intro a F
    replace hS : Mm w u [⟨g7, (bcs (mac ba bb)).toArray, 24⟩] := (by refine (M.below hb).pick' [1] _ ?_ (by decide); exact ⟨rfl, trivial⟩)
    refine hK _ _ hS ?_
    clear hK K
    replace R_ := R_.below hb
    replace M := M.below hb; clear hb; try clear v
    replace R_ := R1; clear R1 O_n
    refine any_ready [11] (by kernel_rfl) (by simp) ?_
    refine ready_do rfl (F.wants 74 false rfl (by kernel_rfl) rfl true rfl) (fun K hK => ?_) AllReadyH.nil
    refine ow_call rfl rfl F 27 #[.slice Bb bb.length cb] (ex_call 27 _ _ rfl rfl dt7_ent_27 _ (map1 (F.e rfl))) (copy_any bb _ bb.length cb (by (try simp only [sha_len]); omega) _ (hrbb.below M.bel)) (fun e v hR => ?_)
    obtain ⟨A_78, c_78, he, O_n, hb⟩ := hR
    have R1 := R_.new hb M.bel.size O_n
    refine ⟨.slice A_78 bb.length c_78, he, ?_⟩; clear he F a; intro a F
    replace hS : Mm w v [⟨g7, (bcs (mac ba bb)).toArray, 24⟩] := (by refine (M.below hb).pick' [1] _ ?_ (by decide); exact ⟨rfl, trivial⟩)
    refine hK _ _ hS ?_
    clear hK K
    replace R_ := R_.below hb
    replace M := M.below hb; clear hb; try clear u
    replace R_ := R1; clear R1 O_n
    refine any_ready [12] (by kernel_rfl) (by simp) ?_
    refine ready_do rfl (F.wants 74 false rfl (by kernel_rfl) rfl true rfl) (fun K hK => ?_) AllReadyH.nil
    refine ow_call rfl rfl F 21 #[.slice A_76 ((key64 ba).length) c_76, .slice A_78 bb.length c_78] (ex_call 21 _ _ rfl rfl dt7_ent_21 _ (map2 (F.e rfl) (F.e rfl))) (mac_any (key64 ba) bb _ _ (key64 ba).length c_76 bb.length c_78 _ (hKt.below M.bel) (R_.rb (i := 1) rfl) (R_.cap (i := 1) rfl) (R_.rb (i := 0) rfl) (R_.cap (i := 0) rfl)) (fun e u hR => ?_)
    obtain ⟨he, hb⟩ := hR
    refine ⟨.agg ((bcs (mac (key64 ba) bb)).toArray), he, ?_⟩; clear he F a; intro a F
    replace hS : Mm w u [⟨g7, (bcs (mac ba bb)).toArray, 24⟩] := (by refine (M.below hb).pick' [1] _ ?_ (by decide); exact ⟨rfl, trivial⟩)
    refine hK _ _ hS ?_
    clear hK K
    replace R_ := R_.below hb
    replace M := M.below hb; clear hb; try clear v
    refine any_val F 14 rfl (by kernel_rfl) (F.wants 74 false rfl (by kernel_rfl) rfl true rfl) rfl rfl (.bool false) (fun w' hS' => ex_neqA 24 _ _ _ rfl 32 dt7_ab_24_32 (mac (key64 ba) bb) (mac ba bb) (mac_len _ _) (mac_len _ _) (F.e rfl) (F.e rfl) false (by rw [mac_key]; exact not_self _)) hS ?_; clear F a; intro a F
    refine any_val F 15 rfl (by kernel_rfl) (wn rfl) rfl rfl (.bool false) (fun w' hS' => ex_pick_f _ _ _ rfl (F.e rfl) _ (F.e rfl)) hS ?_; clear F a; intro a F
    refine any_done (by kernel_rfl) ?_
    exact ⟨A_68, c_68, A_70, c_70, A_76, c_76, A_78, c_78, F.keep ⟨rfl, rfl, rfl, rfl, rfl, rfl, rfl, rfl, rfl, rfl, rfl, rfl, rfl, rfl, trivial⟩, (by refine M.pick' [0, 1, 2] _ ?_ (by decide); exact ⟨rfl, rfl, rfl, trivial⟩), R_⟩
   clear F M a R_
   intro a v hR; obtain ⟨A_68, c_68, A_70, c_70, A_76, c_76, A_78, c_78, F, M, R_⟩ := hR; try clear u
   refine then_n ?_
   refine wp_cond_false (F.e rfl) ?_
   refine wp_skip ?_
   refine then_n ?_
   refine wp_seq ?_
   refine wp_region_lit ?_
   refine list_val F (wn rfl) rfl rfl (.slice Ba ba.length ca) (ex_move _ rfl _ (F.e rfl)) ?_; clear F a; intro a F
   refine list_val F (wn rfl) rfl rfl (.slice Bb bb.length cb) (ex_move _ rfl _ (F.e rfl)) ?_; clear F a; intro a F
   refine list_do (wn rfl) (fun K hK => ?_)
   refine ow_call rfl rfl F 29 #[.slice Ba ba.length ca, .slice Bb bb.length cb] (ex_call 29 _ _ rfl rfl dt7_ent_29 _ (map2 (F.e rfl) (F.e rfl))) (wordB_any ba bb _ _ ba.length ca bb.length cb (by omega) _ (hKt.below M.bel) (hrba.below M.bel) (hrbb.below M.bel)) (fun e u hR => ?_)
   obtain ⟨he, hb⟩ := hR
   refine ⟨.bool true, he, ?_⟩; clear he F a; intro a F
   refine hK _ _ ?_
   clear hK K
   replace R_ := R_.below hb
   replace M := M.below hb; clear hb; try clear v
   refine list_val F (wn rfl) rfl rfl (.bool false) (ex_not _ _ rfl _ (F.e rfl) _ rfl) ?_; clear F a; intro a F
   refine wpList_nil ?_
   replace F : Fr 88 a [(0, .agg #[.slice La n cla, .slice Lb m clb]), (1, .pointer (some ⟨g1, 0, none⟩)), (2, .bool false), (3, .int .i64 ((q + ba.length + bb.length : Nat) : Int)), (4, .int .i64 ((i : Nat) : Int)), (5, .slice Ba ba.length ca), (6, .slice Bb bb.length cb), (7, .pointer (some ⟨g7, 0, none⟩)), (8, .slice A_53 ba.length c_53), (10, .pointer (some ⟨g10, 0, none⟩)), (21, .bool true), (46, .bool false), (56, .bool false), (82, .bool false), (86, .bool false)] := F.keep ⟨rfl, rfl, rfl, rfl, rfl, rfl, rfl, rfl, rfl, rfl, rfl, rfl, rfl, rfl, rfl, trivial⟩
   refine then_n ?_
   refine wp_cond_false (F.e rfl) ?_
   refine wp_skip ?_
   refine in_n ?_
   refine then_n ?_
   refine wp_region_lit ?_
   refine list_val F (wn rfl) rfl rfl (.int .i64 ((i : Nat) : Int)) (ex_move _ rfl _ (F.e rfl)) ?_; clear F a; intro a F
   refine list_val F (wn rfl) rfl rfl (.int .i64 ((i + 1 : Nat) : Int)) (ex_bin .add _ _ _ _ rfl .i64 _ _ (F.e rfl) rfl _ (b_add ((w_i64 (by omega) (by omega)).trans (by omega)))) ?_; clear F a; intro a F
   refine list_val F (wn rfl) rfl rfl (.int .i64 ((i + 1 : Nat) : Int)) (ex_assign _ rfl _ (F.e rfl)) ?_; clear F a; intro a F
   refine wpList_nil ?_
   replace F : Fr 88 a [(0, .agg #[.slice La n cla, .slice Lb m clb]), (1, .pointer (some ⟨g1, 0, none⟩)), (2, .bool false), (3, .int .i64 ((q + ba.length + bb.length : Nat) : Int)), (4, .int .i64 ((i + 1 : Nat) : Int)), (5, .slice Ba ba.length ca), (6, .slice Bb bb.length cb), (7, .pointer (some ⟨g7, 0, none⟩)), (8, .slice A_53 ba.length c_53), (10, .pointer (some ⟨g10, 0, none⟩)), (21, .bool true), (46, .bool false), (56, .bool false), (82, .bool false), (86, .bool false)] := F.keep ⟨rfl, rfl, rfl, rfl, rfl, rfl, rfl, rfl, rfl, rfl, rfl, rfl, rfl, rfl, rfl, trivial⟩
   refine then_n ?_
   replace R_ := R_.pick [] [] trivial (by decide)
   exact ⟨m - (i + 1), by omega, (i + 1), (q + ba.length + bb.length), F.keep ⟨rfl, rfl, rfl, rfl, rfl, trivial⟩, (by refine M.pick' [2] _ ?_ (by decide); exact ⟨rfl, trivial⟩), R_, (by omega), (by omega), (by omega)⟩
  refine wp_seq ?_
  refine wp_seq ?_
  refine wp_region_lit ?_
  refine list_val F (wn rfl) rfl rfl (.int .i64 ((i : Nat) : Int)) (ex_move _ rfl _ (F.e rfl)) ?_; clear F a; intro a F
  refine list_val F (wn rfl) rfl rfl (.pointer (some ⟨g1, 1, none⟩)) (ex_fa _ _ _ rfl _ (F.e rfl) 1 dt7_fa_32_1_1 ⟨g1, 1, none⟩ rfl) ?_; clear F a; intro a F
  refine list_val F (wn rfl) rfl rfl (.slice Lb m clb) (ex_load _ _ rfl _ (F.e rfl) _ (lv1 dt7_one_22 (M.cell (i := 0) rfl (j := 1) rfl))) ?_; clear F a; intro a F
  refine list_val F (wn rfl) rfl rfl (.int .i64 ((m : Nat) : Int)) (ex_len _ _ rfl 1 dt7_sl_22_1 _ _ _ (F.e rfl)) ?_; clear F a; intro a F
  refine list_val F (wn rfl) rfl rfl (.bool true) (ex_bin .lss _ _ _ _ rfl .i64 _ _ (F.e rfl) (F.e rfl) _ (b_lss (decide_eq_true (by omega)))) ?_; clear F a; intro a F
  refine list_val F (wn rfl) rfl rfl (.bool true) (ex_move _ rfl _ (F.e rfl)) ?_; clear F a; intro a F
  refine list_val F (F.wants 16 true rfl (by kernel_rfl) rfl true rfl) rfl rfl (.pointer (some ⟨g1, 0, none⟩)) (ex_fa _ _ _ rfl _ (F.e rfl) 0 dt7_fa_32_0_0 ⟨g1, 0, none⟩ rfl) ?_; clear F a; intro a F
  refine list_val F (F.wants 16 true rfl (by kernel_rfl) rfl true rfl) rfl rfl (.slice La n cla) (ex_load _ _ rfl _ (F.e rfl) _ (lv1 dt7_one_22 (M.cell (i := 0) rfl (j := 0) rfl))) ?_; clear F a; intro a F
  refine list_val F (F.wants 16 true rfl (by kernel_rfl) rfl true rfl) rfl rfl (.int .i64 ((n : Nat) : Int)) (ex_len _ _ rfl 1 dt7_sl_22_1 _ _ _ (F.e rfl)) ?_; clear F a; intro a F
  refine list_val F (F.wants 16 true rfl (by kernel_rfl) rfl true rfl) rfl rfl (.bool false) (ex_bin .gtr _ _ _ _ rfl .i64 _ _ (F.e rfl) rfl _ (b_gtr (decide_eq_false (by omega)))) ?_; clear F a; intro a F
  refine list_val F (wn rfl) rfl rfl (.bool false) (ex_pick_t _ _ _ rfl (F.e rfl) _ (F.e rfl)) ?_; clear F a; intro a F
  refine wpList_nil ?_
  replace F : Fr 88 a [(0, .agg #[.slice La n cla, .slice Lb m clb]), (1, .pointer (some ⟨g1, 0, none⟩)), (2, .bool false), (3, .int .i64 ((q : Nat) : Int)), (4, .int .i64 ((i : Nat) : Int)), (21, .bool false)] := F.keep ⟨rfl, rfl, rfl, rfl, rfl, rfl, trivial⟩
  refine then_n ?_
  refine wp_cond_false (F.e rfl) ?_
  refine wp_exit ?_
  refine then_x ?_
  refine then_x ?_
  refine in_hit ?_
  refine then_n ?_
  refine wp_seq ?_
  replace R_ := R_.pick [] [] trivial (by decide)
  refine wp_region_lit ?_
  refine list_do (wn rfl) (fun K hK => ?_)
  refine ow_call rfl rfl F 19 #[] (ex_call 19 _ _ rfl rfl dt7_ent_19 _ (map0)) (wakes_any _ (hKt.below M.bel)) (fun e v hR => ?_)
  obtain ⟨he, hb⟩ := hR
  refine ⟨.bool true, he, ?_⟩; clear he F a; intro a F
  refine hK _ _ ?_
  clear hK K
  replace R_ := R_.below hb
  replace M := M.below hb; clear hb; try clear u
  refine list_val F (wn rfl) rfl rfl (.bool true) (ex_assign _ rfl _ (F.e rfl)) ?_; clear F a; intro a F
  refine wpList_nil ?_
  replace F : Fr 88 a [(0, .agg #[.slice La n cla, .slice Lb m clb]), (1, .pointer (some ⟨g1, 0, none⟩)), (2, .bool true), (3, .int .i64 ((q : Nat) : Int)), (4, .int .i64 ((i : Nat) : Int)), (21, .bool false)] := F.keep ⟨rfl, rfl, rfl, rfl, rfl, rfl, trivial⟩
  refine then_n ?_
  refine wp_ret ?_
  exact ret_tmp F rfl rfl ⟨rfl, M.bel⟩
 refine wp_seq ?_
 refine wp_seq ?_
 refine wp_region_lit ?_
 refine list_val F (wn rfl) rfl rfl (.int .i64 ((i : Nat) : Int)) (ex_move _ rfl _ (F.e rfl)) ?_; clear F a; intro a F
 refine list_val F (wn rfl) rfl rfl (.pointer (some ⟨g1, 1, none⟩)) (ex_fa _ _ _ rfl _ (F.e rfl) 1 dt7_fa_32_1_1 ⟨g1, 1, none⟩ rfl) ?_; clear F a; intro a F
 refine list_val F (wn rfl) rfl rfl (.slice Lb m clb) (ex_load _ _ rfl _ (F.e rfl) _ (lv1 dt7_one_22 (M.cell (i := 0) rfl (j := 1) rfl))) ?_; clear F a; intro a F
 refine list_val F (wn rfl) rfl rfl (.int .i64 ((m : Nat) : Int)) (ex_len _ _ rfl 1 dt7_sl_22_1 _ _ _ (F.e rfl)) ?_; clear F a; intro a F
 refine list_val F (wn rfl) rfl rfl (.bool false) (ex_bin .lss _ _ _ _ rfl .i64 _ _ (F.e rfl) (F.e rfl) _ (b_lss (decide_eq_false (by omega)))) ?_; clear F a; intro a F
 refine list_val F (wn rfl) rfl rfl (.bool false) (ex_move _ rfl _ (F.e rfl)) ?_; clear F a; intro a F
 refine list_skip F (F.wants 16 false rfl (by kernel_rfl) rfl false rfl) rfl rfl ?_; clear F a; intro a F
 refine list_skip F (F.wants 16 false rfl (by kernel_rfl) rfl false rfl) rfl rfl ?_; clear F a; intro a F
 refine list_skip F (F.wants 16 false rfl (by kernel_rfl) rfl false rfl) rfl rfl ?_; clear F a; intro a F
 refine list_skip F (F.wants 16 false rfl (by kernel_rfl) rfl false rfl) rfl rfl ?_; clear F a; intro a F
 refine list_val F (wn rfl) rfl rfl (.bool false) (ex_pick_f _ _ _ rfl (F.e rfl) _ rfl) ?_; clear F a; intro a F
 refine wpList_nil ?_
 replace F : Fr 88 a [(0, .agg #[.slice La n cla, .slice Lb m clb]), (1, .pointer (some ⟨g1, 0, none⟩)), (2, .bool false), (3, .int .i64 ((q : Nat) : Int)), (4, .int .i64 ((i : Nat) : Int)), (21, .bool false)] := F.keep ⟨rfl, rfl, rfl, rfl, rfl, rfl, trivial⟩
 refine then_n ?_
 refine wp_cond_false (F.e rfl) ?_
 refine wp_exit ?_
 refine then_x ?_
 refine then_x ?_
 refine in_hit ?_
 refine then_n ?_
 refine wp_seq ?_
 replace R_ := R_.pick [] [] trivial (by decide)
 refine wp_region_lit ?_
 refine list_do (wn rfl) (fun K hK => ?_)
 refine ow_call rfl rfl F 19 #[] (ex_call 19 _ _ rfl rfl dt7_ent_19 _ (map0)) (wakes_any _ (hKt.below M.bel)) (fun e v hR => ?_)
 obtain ⟨he, hb⟩ := hR
 refine ⟨.bool true, he, ?_⟩; clear he F a; intro a F
 refine hK _ _ ?_
 clear hK K
 replace R_ := R_.below hb
 replace M := M.below hb; clear hb; try clear u
 refine list_val F (wn rfl) rfl rfl (.bool true) (ex_assign _ rfl _ (F.e rfl)) ?_; clear F a; intro a F
 refine wpList_nil ?_
 replace F : Fr 88 a [(0, .agg #[.slice La n cla, .slice Lb m clb]), (1, .pointer (some ⟨g1, 0, none⟩)), (2, .bool true), (3, .int .i64 ((q : Nat) : Int)), (4, .int .i64 ((i : Nat) : Int)), (21, .bool false)] := F.keep ⟨rfl, rfl, rfl, rfl, rfl, rfl, trivial⟩
 refine then_n ?_
 refine wp_ret ?_
 exact ret_tmp F rfl rfl ⟨rfl, M.bel⟩
end Go.Proofs.YtkppipeadibfkaaDoor
