/- posternlaw4.DigestSame. Conditions: the table is laid; the argument is read. -/
import Derived.Test.YtkppipeadibfkaaDoorM3
namespace Go.Proofs.YtkppipeadibfkaaDoor
open Go.RowKit Go.Proofs.YtkppipeadibfkaaDoorW.PrintWords KB WG
set_option linter.unusedVariables false
set_option linter.unusedSimpArgs false
set_option linter.unnecessarySimpa false
theorem bne_self_b (x : Bool) : (x != x) = false := by simp
theorem bne_sym (x y : List By) : (decide (y = x) != decide (x = y)) = false := by rw [show decide (y = x) = decide (x = y) from decide_eq_decide.2 ⟨Eq.symm, Eq.symm⟩]; simp
theorem ex_ixE {P : Program} {op : Oper} {ρ : Operand → Value} {w : World} {t : TypeId} (x y : Operand) (ho : op.op = .indexAddr t x y) (ht : sl? P t 1 = true) (ad : Addr) (A : Option Addr) (hA : A = some ad) (n c : Nat) (hx : ρ x = .slice A n c) (k : IntKind) (i : Int) (hy : ρ y = .int k i) (j : Nat) (hj : i = (j : Int)) (hlt : j < n) : (execOp ρ op).run P w = .ok (.value (.pointer (some (ad.add j)))) w := by
  subst hA
  exact ex_ix t x y ho 1 ht ad n c hx k i hy j hj hlt _ (congrArg _ (Nat.mul_one _))
theorem dn_fa_36_0_0 : fa? Tryd.prog 36 0 0 = true := by kernel_rfl
theorem dn_one_22 : one? Tryd.prog 22 = true := by kernel_rfl
theorem dn_sl_22_1 : sl? Tryd.prog 22 1 = true := by kernel_rfl
theorem dn_fa_36_1_1 : fa? Tryd.prog 36 1 1 = true := by kernel_rfl
theorem dn_one_23 : one? Tryd.prog 23 = true := by kernel_rfl
theorem dn_sl_23_1 : sl? Tryd.prog 23 1 = true := by kernel_rfl
theorem dn_ent_19 : ent? Tryd.prog 19 = true := by kernel_rfl
theorem dn_ent_14 : ent? Tryd.prog 14 = true := by kernel_rfl
theorem dn_follows_mixedOrders : Tryd.prog.follows .mixedOrders = true := by kernel_rfl
theorem dn_ent_22 : ent? Tryd.prog 22 = true := by kernel_rfl
theorem dn_ent_23 : ent? Tryd.prog 23 = true := by kernel_rfl
theorem dn_bool_4 : bool? Tryd.prog 4 = true := by kernel_rfl
theorem dn_ent_16 : ent? Tryd.prog 16 = true := by kernel_rfl
set_option maxHeartbeats 4000000 in
set_option maxRecDepth 100000 in
theorem dsame_any (la lb : List (List By)) (La Lb : Option Addr) (n cla m clb : Nat) (hn : n ≤ 5864062014805) (hm : m ≤ 5864062014805) (w : World) (hKt : At w ⟨0, 0, none⟩ (wcs kTab)) (ha : RowsB w La n la) (hwa : wLs la) (hb_ : RowsB w Lb m lb) (hwb : wLs lb) :
    Calls Tryd.prog 5 #[.agg #[.slice La n cla, .slice Lb m clb]] w fun e w' => e = .returned (.bool true) ∧ Below w.heap.size w w' := by
 have R_ : Rs w w [] := Rs.nil w w
 refine calls_start Tryd.func5 rfl rfl rfl (fun a F => ?_)
 have M : Mm w w [] := Mm.nil w
 refine wp_seq ?_
 refine wp_region_lit ?_
 refine list_do (wn rfl) (fun K hK => ?_)
 refine ow_box F M rfl rfl 36 _ rfl _ (F.e rfl) #[.slice La n cla, .slice Lb m clb] rfl ?_
 clear F M a; intro a g1 v F M hb hg
 refine hK _ _ ?_
 clear hK K
 replace R_ := R_.below hb
 clear hb hg; try clear w
 refine list_val F (wn rfl) rfl rfl (.bool false) (ex_assign _ rfl _ rfl) ?_; clear F a; intro a F
 refine wpList_nil ?_
 replace F : Fr 97 a [(0, .agg #[.slice La n cla, .slice Lb m clb]), (1, .pointer (some ⟨g1, 0, none⟩)), (2, .bool false)] := F.keep ⟨rfl, rfl, rfl, trivial⟩
 refine then_n ?_
 refine wp_seq ?_
 refine wp_region_lit ?_
 refine list_val F (wn rfl) rfl rfl (.int .i64 0) (ex_assign _ rfl _ rfl) ?_; clear F a; intro a F
 refine wpList_nil ?_
 replace F : Fr 97 a [(0, .agg #[.slice La n cla, .slice Lb m clb]), (1, .pointer (some ⟨g1, 0, none⟩)), (2, .bool false), (3, .int .i64 0)] := F.keep ⟨rfl, rfl, rfl, rfl, trivial⟩
 refine then_n ?_
 refine wp_seq ?_
 refine wp_seq ?_
 refine wp_region_lit ?_
 refine list_val F (wn rfl) rfl rfl (.int .i64 0) (ex_assign _ rfl _ rfl) ?_; clear F a; intro a F
 refine wpList_nil ?_
 replace F : Fr 97 a [(0, .agg #[.slice La n cla, .slice Lb m clb]), (1, .pointer (some ⟨g1, 0, none⟩)), (2, .bool false), (3, .int .i64 0), (4, .int .i64 0)] := F.keep ⟨rfl, rfl, rfl, rfl, rfl, trivial⟩
 refine then_n ?_
 refine wp_block ?_
 refine wp_loopN (fun mq ar wr => ∃ (i : Nat), ∃ (q : Nat), Fr 97 ar [(0, .agg #[.slice La n cla, .slice Lb m clb]), (1, .pointer (some ⟨g1, 0, none⟩)), (2, .bool false), (3, .int .i64 ((q : Nat) : Int)), (4, .int .i64 ((i : Nat) : Int))] ∧ Mm w wr [⟨g1, #[.slice La n cla, .slice Lb m clb], 36⟩] ∧ Rs w wr [] ∧ i ≤ n ∧ q ≤ 1048576 ∧ mq + i = n) n ?_ ?_
 ·
  exact ⟨0, 0, F.keep ⟨rfl, rfl, rfl, rfl, rfl, trivial⟩, (by refine M.pick' [0] _ ?_ (by decide); exact ⟨rfl, trivial⟩), R_, (Nat.zero_le _), (Nat.zero_le _), (by omega)⟩
 clear F M a R_
 rintro mq a u ⟨i, q, F, M, R_, hi, hq0, hq⟩; try clear v
 by_cases hin : i < n
 ·
  obtain ⟨ada, Ba, ca, hLsa, hcea, hrba, hmca⟩ := ha.row hin
  obtain ⟨ba, hba⟩ : ∃ b, b = la.getD i [] := ⟨_, rfl⟩
  have hbla := wLs_row hwa (i := i)
  rw [← hba] at hcea hrba hmca hbla
  refine wp_seq ?_
  refine wp_seq ?_
  refine wp_region_lit ?_
  refine list_val F (wn rfl) rfl rfl (.int .i64 ((i : Nat) : Int)) (ex_move _ rfl _ (F.e rfl)) ?_; clear F a; intro a F
  refine list_val F (wn rfl) rfl rfl (.pointer (some ⟨g1, 0, none⟩)) (ex_fa _ _ _ rfl _ (F.e rfl) 0 dn_fa_36_0_0 ⟨g1, 0, none⟩ rfl) ?_; clear F a; intro a F
  refine list_val F (wn rfl) rfl rfl (.slice La n cla) (ex_load _ _ rfl _ (F.e rfl) _ (lv1 dn_one_22 (M.cell (i := 0) rfl (j := 0) rfl))) ?_; clear F a; intro a F
  refine list_val F (wn rfl) rfl rfl (.int .i64 ((n : Nat) : Int)) (ex_len _ _ rfl 1 dn_sl_22_1 _ _ _ (F.e rfl)) ?_; clear F a; intro a F
  refine list_val F (wn rfl) rfl rfl (.bool true) (ex_bin .lss _ _ _ _ rfl .i64 _ _ (F.e rfl) (F.e rfl) _ (b_lss (decide_eq_true (by omega)))) ?_; clear F a; intro a F
  refine wpList_nil ?_
  replace F : Fr 97 a [(0, .agg #[.slice La n cla, .slice Lb m clb]), (1, .pointer (some ⟨g1, 0, none⟩)), (2, .bool false), (3, .int .i64 ((q : Nat) : Int)), (4, .int .i64 ((i : Nat) : Int)), (13, .bool true)] := F.keep ⟨rfl, rfl, rfl, rfl, rfl, rfl, trivial⟩
  refine then_n ?_
  refine wp_cond_true (F.e rfl) ?_
  refine wp_skip ?_
  refine then_n ?_
  refine wp_seq ?_
  refine wp_block ?_
  refine wp_seq ?_
  refine wp_region_lit ?_
  refine list_val F (wn rfl) rfl rfl (.int .i64 0) (ex_assign _ rfl _ rfl) ?_; clear F a; intro a F
  refine wpList_nil ?_
  replace F : Fr 97 a [(0, .agg #[.slice La n cla, .slice Lb m clb]), (1, .pointer (some ⟨g1, 0, none⟩)), (2, .bool false), (3, .int .i64 ((q : Nat) : Int)), (4, .int .i64 ((i : Nat) : Int)), (5, .int .i64 0), (13, .bool true)] := F.keep ⟨rfl, rfl, rfl, rfl, rfl, rfl, rfl, trivial⟩
  refine then_n ?_
  refine wp_block ?_
  refine wp_loopN (fun mq ar wr => ∃ (k : Nat), ∃ (q2 : Nat), Fr 97 ar [(0, .agg #[.slice La n cla, .slice Lb m clb]), (1, .pointer (some ⟨g1, 0, none⟩)), (2, .bool false), (3, .int .i64 ((q2 : Nat) : Int)), (4, .int .i64 ((i : Nat) : Int)), (5, .int .i64 ((k : Nat) : Int)), (13, .bool true)] ∧ Mm w wr [⟨g1, #[.slice La n cla, .slice Lb m clb], 36⟩] ∧ Rs w wr [] ∧ k ≤ m ∧ q2 ≤ 1048576 ∧ mq + k = m) m ?_ ?_
  ·
   exact ⟨0, q, F.keep ⟨rfl, rfl, rfl, rfl, rfl, rfl, rfl, trivial⟩, (by refine M.pick' [0] _ ?_ (by decide); exact ⟨rfl, trivial⟩), R_, (Nat.zero_le _), (by omega), (by omega)⟩
  clear F M a R_
  rintro mq a v ⟨k, q2, F, M, R_, hk, hq2, hq⟩; try clear u
  by_cases hkn : k < m
  ·
   obtain ⟨adb, Bb, cb, hLsb, hceb, hrbb, hmcb⟩ := hb_.row hkn
   obtain ⟨bb, hbb⟩ : ∃ b, b = lb.getD k [] := ⟨_, rfl⟩
   have hblb := wLs_row hwb (i := k)
   rw [← hbb] at hceb hrbb hmcb hblb
   refine wp_seq ?_
   refine wp_seq ?_
   refine wp_region_lit ?_
   refine list_val F (wn rfl) rfl rfl (.int .i64 ((k : Nat) : Int)) (ex_move _ rfl _ (F.e rfl)) ?_; clear F a; intro a F
   refine list_val F (wn rfl) rfl rfl (.pointer (some ⟨g1, 1, none⟩)) (ex_fa _ _ _ rfl _ (F.e rfl) 1 dn_fa_36_1_1 ⟨g1, 1, none⟩ rfl) ?_; clear F a; intro a F
   refine list_val F (wn rfl) rfl rfl (.slice Lb m clb) (ex_load _ _ rfl _ (F.e rfl) _ (lv1 dn_one_22 (M.cell (i := 0) rfl (j := 1) rfl))) ?_; clear F a; intro a F
   refine list_val F (wn rfl) rfl rfl (.int .i64 ((m : Nat) : Int)) (ex_len _ _ rfl 1 dn_sl_22_1 _ _ _ (F.e rfl)) ?_; clear F a; intro a F
   refine list_val F (wn rfl) rfl rfl (.bool true) (ex_bin .lss _ _ _ _ rfl .i64 _ _ (F.e rfl) (F.e rfl) _ (b_lss (decide_eq_true (by omega)))) ?_; clear F a; intro a F
   refine wpList_nil ?_
   replace F : Fr 97 a [(0, .agg #[.slice La n cla, .slice Lb m clb]), (1, .pointer (some ⟨g1, 0, none⟩)), (2, .bool false), (3, .int .i64 ((q2 : Nat) : Int)), (4, .int .i64 ((i : Nat) : Int)), (5, .int .i64 ((k : Nat) : Int)), (13, .bool true), (20, .bool true)] := F.keep ⟨rfl, rfl, rfl, rfl, rfl, rfl, rfl, rfl, trivial⟩
   refine then_n ?_
   refine wp_cond_true (F.e rfl) ?_
   refine wp_skip ?_
   refine then_n ?_
   refine wp_seq ?_
   refine wp_block ?_
   refine wp_seq ?_
   refine wp_region_lit ?_
   refine list_val F (wn rfl) rfl rfl (.int .i64 ((q2 : Nat) : Int)) (ex_move _ rfl _ (F.e rfl)) ?_; clear F a; intro a F
   refine list_val F (wn rfl) rfl rfl (.int .i64 ((q2 + 1 : Nat) : Int)) (ex_bin .add _ _ _ _ rfl .i64 _ _ (F.e rfl) rfl _ (b_add ((w_i64 (by omega) (by omega)).trans (by omega)))) ?_; clear F a; intro a F
   refine list_val F (wn rfl) rfl rfl (.pointer (some ⟨g1, 0, none⟩)) (ex_fa _ _ _ rfl _ (F.e rfl) 0 dn_fa_36_0_0 ⟨g1, 0, none⟩ rfl) ?_; clear F a; intro a F
   refine list_val F (wn rfl) rfl rfl (.slice La n cla) (ex_load _ _ rfl _ (F.e rfl) _ (lv1 dn_one_22 (M.cell (i := 0) rfl (j := 0) rfl))) ?_; clear F a; intro a F
   refine list_val F (wn rfl) rfl rfl (.int .i64 ((i : Nat) : Int)) (ex_move _ rfl _ (F.e rfl)) ?_; clear F a; intro a F
   refine list_val F (wn rfl) rfl rfl (.pointer (some (ada.add i))) (ex_ixE _ _ rfl dn_sl_22_1 ada La hLsa n cla (F.e rfl) .i64 _ (F.e rfl) i rfl (by omega)) ?_; clear F a; intro a F
   refine list_val F (wn rfl) rfl rfl (.slice Ba ba.length ca) (ex_load _ _ rfl _ (F.e rfl) _ (lv1 dn_one_23 (pw_cell_below M.bel hcea))) ?_; clear F a; intro a F
   refine list_val F (wn rfl) rfl rfl (.int .i64 ((ba.length : Nat) : Int)) (ex_len _ _ rfl 1 dn_sl_23_1 _ _ _ (F.e rfl)) ?_; clear F a; intro a F
   refine list_val F (wn rfl) rfl rfl (.int .i64 ((q2 + 1 + ba.length : Nat) : Int)) (ex_bin .add _ _ _ _ rfl .i64 _ _ (F.e rfl) (F.e rfl) _ (b_add ((w_i64 (by omega) (by omega)).trans (by omega)))) ?_; clear F a; intro a F
   refine list_val F (wn rfl) rfl rfl (.int .i64 ((q2 + 1 + ba.length : Nat) : Int)) (ex_assign _ rfl _ (F.e rfl)) ?_; clear F a; intro a F
   refine wpList_nil ?_
   replace F : Fr 97 a [(0, .agg #[.slice La n cla, .slice Lb m clb]), (1, .pointer (some ⟨g1, 0, none⟩)), (2, .bool false), (3, .int .i64 ((q2 + 1 + ba.length : Nat) : Int)), (4, .int .i64 ((i : Nat) : Int)), (5, .int .i64 ((k : Nat) : Int)), (13, .bool true), (20, .bool true)] := F.keep ⟨rfl, rfl, rfl, rfl, rfl, rfl, rfl, rfl, trivial⟩
   refine then_n ?_
   refine wp_seq ?_
   refine wp_seq ?_
   by_cases hbig : 1048576 < q2 + 1 + ba.length
   ·
    refine wp_region_lit ?_
    refine list_val F (wn rfl) rfl rfl (.int .i64 ((q2 + 1 + ba.length : Nat) : Int)) (ex_move _ rfl _ (F.e rfl)) ?_; clear F a; intro a F
    refine list_val F (wn rfl) rfl rfl (.bool true) (ex_bin .gtr _ _ _ _ rfl .i64 _ _ (F.e rfl) rfl _ (b_gtr (decide_eq_true (by omega)))) ?_; clear F a; intro a F
    refine wpList_nil ?_
    replace F : Fr 97 a [(0, .agg #[.slice La n cla, .slice Lb m clb]), (1, .pointer (some ⟨g1, 0, none⟩)), (2, .bool false), (3, .int .i64 ((q2 + 1 + ba.length : Nat) : Int)), (4, .int .i64 ((i : Nat) : Int)), (5, .int .i64 ((k : Nat) : Int)), (13, .bool true), (20, .bool true), (33, .bool true)] := F.keep ⟨rfl, rfl, rfl, rfl, rfl, rfl, rfl, rfl, rfl, trivial⟩
    refine then_n ?_
    refine wp_cond_true (F.e rfl) ?_
    refine wp_seq ?_
    refine wp_region_lit ?_
    refine list_do (wn rfl) (fun K hK => ?_)
    refine ow_call rfl rfl F 19 #[] (ex_call 19 _ _ rfl rfl dn_ent_19 _ (map0)) (wakes_any _ (hKt.below M.bel)) (fun e u hR => ?_)
    obtain ⟨he, hb⟩ := hR
    refine ⟨.bool true, he, ?_⟩; clear he F a; intro a F
    refine hK _ _ ?_
    clear hK K
    replace R_ := R_.below hb
    replace M := M.below hb; clear hb; try clear v
    refine list_val F (wn rfl) rfl rfl (.bool true) (ex_assign _ rfl _ (F.e rfl)) ?_; clear F a; intro a F
    refine wpList_nil ?_
    replace F : Fr 97 a [(0, .agg #[.slice La n cla, .slice Lb m clb]), (1, .pointer (some ⟨g1, 0, none⟩)), (2, .bool true), (3, .int .i64 ((q2 + 1 + ba.length : Nat) : Int)), (4, .int .i64 ((i : Nat) : Int)), (5, .int .i64 ((k : Nat) : Int)), (13, .bool true), (20, .bool true), (33, .bool true)] := F.keep ⟨rfl, rfl, rfl, rfl, rfl, rfl, rfl, rfl, rfl, trivial⟩
    refine then_n ?_
    refine wp_ret ?_
    refine then_r ?_
    refine in_r ?_
    refine then_r ?_
    refine then_r ?_
    refine in_r ?_
    refine in_r ?_
    refine then_r ?_
    refine then_r ?_
    refine in_r ?_
    refine then_r ?_
    exact ret_tmp F rfl rfl ⟨rfl, M.bel⟩
   refine wp_region_lit ?_
   refine list_val F (wn rfl) rfl rfl (.int .i64 ((q2 + 1 + ba.length : Nat) : Int)) (ex_move _ rfl _ (F.e rfl)) ?_; clear F a; intro a F
   refine list_val F (wn rfl) rfl rfl (.bool false) (ex_bin .gtr _ _ _ _ rfl .i64 _ _ (F.e rfl) rfl _ (b_gtr (decide_eq_false (by omega)))) ?_; clear F a; intro a F
   refine wpList_nil ?_
   replace F : Fr 97 a [(0, .agg #[.slice La n cla, .slice Lb m clb]), (1, .pointer (some ⟨g1, 0, none⟩)), (2, .bool false), (3, .int .i64 ((q2 + 1 + ba.length : Nat) : Int)), (4, .int .i64 ((i : Nat) : Int)), (5, .int .i64 ((k : Nat) : Int)), (13, .bool true), (20, .bool true), (33, .bool false)] := F.keep ⟨rfl, rfl, rfl, rfl, rfl, rfl, rfl, rfl, rfl, trivial⟩
   refine then_n ?_
   refine wp_cond_false (F.e rfl) ?_
   refine wp_skip ?_
   refine then_n ?_
   refine wp_seq ?_
   refine wp_region_lit ?_
   refine list_val F (wn rfl) rfl rfl (.pointer (some ⟨g1, 0, none⟩)) (ex_fa _ _ _ rfl _ (F.e rfl) 0 dn_fa_36_0_0 ⟨g1, 0, none⟩ rfl) ?_; clear F a; intro a F
   refine list_val F (wn rfl) rfl rfl (.slice La n cla) (ex_load _ _ rfl _ (F.e rfl) _ (lv1 dn_one_22 (M.cell (i := 0) rfl (j := 0) rfl))) ?_; clear F a; intro a F
   refine list_val F (wn rfl) rfl rfl (.int .i64 ((i : Nat) : Int)) (ex_move _ rfl _ (F.e rfl)) ?_; clear F a; intro a F
   refine list_val F (wn rfl) rfl rfl (.pointer (some (ada.add i))) (ex_ixE _ _ rfl dn_sl_22_1 ada La hLsa n cla (F.e rfl) .i64 _ (F.e rfl) i rfl (by omega)) ?_; clear F a; intro a F
   refine list_val F (wn rfl) rfl rfl (.slice Ba ba.length ca) (ex_load _ _ rfl _ (F.e rfl) _ (lv1 dn_one_23 (pw_cell_below M.bel hcea))) ?_; clear F a; intro a F
   refine list_do (wn rfl) (fun K hK => ?_)
   refine ow_call rfl rfl F 14 #[.slice Ba ba.length ca] (ex_call 14 _ _ rfl rfl dn_ent_14 _ (map1 (F.e rfl))) (lend_any ba _ ba.length ca (by omega) _ (hrba.below M.bel)) (fun e u hR => ?_)
   obtain ⟨A_40, c_40, he, O_n, hb⟩ := hR
   rw [show (ba ++ mks 70).length = ba.length + 70 by rw [List.length_append, mks_len]] at O_n
   have R1 := R_.new hb M.bel.size O_n
   have hcf40 := O_n.rb.2
   have hcx40 : ba.length ≤ c_40 := by omega
   refine ⟨.slice A_40 ba.length c_40, he, ?_⟩; clear he F a; intro a F
   refine hK _ _ ?_
   clear hK K
   replace R_ := R_.below hb
   replace M := M.below hb; clear hb; try clear v
   replace R_ := R1; clear R1 O_n
   refine list_val F (wn rfl) rfl rfl (.slice A_40 ba.length c_40) (ex_assign _ rfl _ (F.e rfl)) ?_; clear F a; intro a F
   refine wpList_nil ?_
   replace F : Fr 97 a [(0, .agg #[.slice La n cla, .slice Lb m clb]), (1, .pointer (some ⟨g1, 0, none⟩)), (2, .bool false), (3, .int .i64 ((q2 + 1 + ba.length : Nat) : Int)), (4, .int .i64 ((i : Nat) : Int)), (5, .int .i64 ((k : Nat) : Int)), (6, .slice A_40 ba.length c_40), (13, .bool true), (20, .bool true), (33, .bool false)] := F.keep ⟨rfl, rfl, rfl, rfl, rfl, rfl, rfl, rfl, rfl, rfl, trivial⟩
   refine then_n ?_
   refine wp_seq ?_
   refine wp_region_lit ?_
   refine list_val F (wn rfl) rfl rfl (.pointer (some ⟨g1, 1, none⟩)) (ex_fa _ _ _ rfl _ (F.e rfl) 1 dn_fa_36_1_1 ⟨g1, 1, none⟩ rfl) ?_; clear F a; intro a F
   refine list_val F (wn rfl) rfl rfl (.slice Lb m clb) (ex_load _ _ rfl _ (F.e rfl) _ (lv1 dn_one_22 (M.cell (i := 0) rfl (j := 1) rfl))) ?_; clear F a; intro a F
   refine list_val F (wn rfl) rfl rfl (.int .i64 ((k : Nat) : Int)) (ex_move _ rfl _ (F.e rfl)) ?_; clear F a; intro a F
   refine list_val F (wn rfl) rfl rfl (.pointer (some (adb.add k))) (ex_ixE _ _ rfl dn_sl_22_1 adb Lb hLsb m clb (F.e rfl) .i64 _ (F.e rfl) k rfl (by omega)) ?_; clear F a; intro a F
   refine list_val F (wn rfl) rfl rfl (.slice Bb bb.length cb) (ex_load _ _ rfl _ (F.e rfl) _ (lv1 dn_one_23 (pw_cell_below M.bel hceb))) ?_; clear F a; intro a F
   refine list_do (wn rfl) (fun K hK => ?_)
   refine ow_call rfl rfl F 14 #[.slice Bb bb.length cb] (ex_call 14 _ _ rfl rfl dn_ent_14 _ (map1 (F.e rfl))) (lend_any bb _ bb.length cb (by omega) _ (hrbb.below M.bel)) (fun e v hR => ?_)
   obtain ⟨A_46, c_46, he, O_n, hb⟩ := hR
   rw [show (bb ++ mks 70).length = bb.length + 70 by rw [List.length_append, mks_len]] at O_n
   have R1 := R_.new hb M.bel.size O_n
   have hcf46 := O_n.rb.2
   have hcx46 : bb.length ≤ c_46 := by omega
   refine ⟨.slice A_46 bb.length c_46, he, ?_⟩; clear he F a; intro a F
   refine hK _ _ ?_
   clear hK K
   replace R_ := R_.below hb
   replace M := M.below hb; clear hb; try clear u
   replace R_ := R1; clear R1 O_n
   refine list_val F (wn rfl) rfl rfl (.slice A_46 bb.length c_46) (ex_assign _ rfl _ (F.e rfl)) ?_; clear F a; intro a F
   refine wpList_nil ?_
   replace F : Fr 97 a [(0, .agg #[.slice La n cla, .slice Lb m clb]), (1, .pointer (some ⟨g1, 0, none⟩)), (2, .bool false), (3, .int .i64 ((q2 + 1 + ba.length : Nat) : Int)), (4, .int .i64 ((i : Nat) : Int)), (5, .int .i64 ((k : Nat) : Int)), (6, .slice A_40 ba.length c_40), (7, .slice A_46 bb.length c_46), (13, .bool true), (20, .bool true), (33, .bool false)] := F.keep ⟨rfl, rfl, rfl, rfl, rfl, rfl, rfl, rfl, rfl, rfl, rfl, trivial⟩
   refine then_n ?_
   refine wp_seq ?_
   refine region_tail 10 dn_follows_mixedOrders (by kernel_rfl) M ?_; clear M; intro u M hb
   replace R_ := R_.below hb
   clear hb; try clear v
   refine still_val F (wn rfl) rfl rfl (.pointer (some ⟨g1, 0, none⟩)) (ex_fa _ _ _ rfl _ (F.e rfl) 0 dn_fa_36_0_0 ⟨g1, 0, none⟩ rfl) ?_; clear F a; intro a F
   refine still_val F (wn rfl) rfl rfl (.slice La n cla) (ex_load _ _ rfl _ (F.e rfl) _ (lv1 dn_one_22 (M.cell (i := 0) rfl (j := 0) rfl))) ?_; clear F a; intro a F
   refine still_val F (wn rfl) rfl rfl (.int .i64 ((i : Nat) : Int)) (ex_move _ rfl _ (F.e rfl)) ?_; clear F a; intro a F
   refine still_val F (wn rfl) rfl rfl (.pointer (some (ada.add i))) (ex_ixE _ _ rfl dn_sl_22_1 ada La hLsa n cla (F.e rfl) .i64 _ (F.e rfl) i rfl (by omega)) ?_; clear F a; intro a F
   refine still_val F (wn rfl) rfl rfl (.slice Ba ba.length ca) (ex_load _ _ rfl _ (F.e rfl) _ (lv1 dn_one_23 (pw_cell_below M.bel hcea))) ?_; clear F a; intro a F
   refine still_val F (wn rfl) rfl rfl (.pointer (some ⟨g1, 1, none⟩)) (ex_fa _ _ _ rfl _ (F.e rfl) 1 dn_fa_36_1_1 ⟨g1, 1, none⟩ rfl) ?_; clear F a; intro a F
   refine still_val F (wn rfl) rfl rfl (.slice Lb m clb) (ex_load _ _ rfl _ (F.e rfl) _ (lv1 dn_one_22 (M.cell (i := 0) rfl (j := 1) rfl))) ?_; clear F a; intro a F
   refine still_val F (wn rfl) rfl rfl (.int .i64 ((k : Nat) : Int)) (ex_move _ rfl _ (F.e rfl)) ?_; clear F a; intro a F
   refine still_val F (wn rfl) rfl rfl (.pointer (some (adb.add k))) (ex_ixE _ _ rfl dn_sl_22_1 adb Lb hLsb m clb (F.e rfl) .i64 _ (F.e rfl) k rfl (by omega)) ?_; clear F a; intro a F
   refine still_val F (wn rfl) rfl rfl (.slice Bb bb.length cb) (ex_load _ _ rfl _ (F.e rfl) _ (lv1 dn_one_23 (pw_cell_below M.bel hceb))) ?_; clear F a; intro a F
   refine still_end ?_
   refine list_do (wn rfl) (fun K hK => ?_)
   refine ow_call rfl rfl F 22 #[.slice Ba ba.length ca, .slice Bb bb.length cb] (ex_call 22 _ _ rfl rfl dn_ent_22 _ (map2 (F.e rfl) (F.e rfl))) (eq_any ba bb _ _ ba.length ca bb.length cb _ (hrba.below M.bel) (hrbb.below M.bel)) (fun e v hR => ?_)
   obtain ⟨he, hb⟩ := hR
   refine ⟨.bool (decide (ba = bb)), he, ?_⟩; clear he F a; intro a F
   refine hK _ _ ?_
   clear hK K
   replace R_ := R_.below hb
   replace M := M.below hb; clear hb; try clear u
   refine list_val F (wn rfl) rfl rfl (.bool (decide (ba = bb))) (ex_assign _ rfl _ (F.e rfl)) ?_; clear F a; intro a F
   refine wpList_nil ?_
   replace F : Fr 97 a [(0, .agg #[.slice La n cla, .slice Lb m clb]), (1, .pointer (some ⟨g1, 0, none⟩)), (2, .bool false), (3, .int .i64 ((q2 + 1 + ba.length : Nat) : Int)), (4, .int .i64 ((i : Nat) : Int)), (5, .int .i64 ((k : Nat) : Int)), (6, .slice A_40 ba.length c_40), (7, .slice A_46 bb.length c_46), (8, .bool (decide (ba = bb))), (13, .bool true), (20, .bool true), (33, .bool false)] := F.keep ⟨rfl, rfl, rfl, rfl, rfl, rfl, rfl, rfl, rfl, rfl, rfl, rfl, trivial⟩
   refine then_n ?_
   refine wp_seq ?_
   refine wp_region_lit ?_
   refine list_val F (wn rfl) rfl rfl (.slice A_40 ba.length c_40) (ex_move _ rfl _ (F.e rfl)) ?_; clear F a; intro a F
   refine list_val F (wn rfl) rfl rfl (.slice A_46 bb.length c_46) (ex_move _ rfl _ (F.e rfl)) ?_; clear F a; intro a F
   refine list_do (wn rfl) (fun K hK => ?_)
   refine ow_call rfl rfl F 23 #[.slice A_40 ba.length c_40, .slice A_46 bb.length c_46] (ex_call 23 _ _ rfl rfl dn_ent_23 _ (map2 (F.e rfl) (F.e rfl))) (same_any ba bb _ _ ba.length c_40 bb.length c_46 _ ((R_.rb (i := 1) rfl).lent rfl) hcx40 ((R_.rb (i := 0) rfl).lent rfl) hcx46) (fun e u hR => ?_)
   obtain ⟨he, hb⟩ := hR
   refine ⟨.bool (decide (ba = bb)), he, ?_⟩; clear he F a; intro a F
   refine hK _ _ ?_
   clear hK K
   replace R_ := R_.below hb
   replace M := M.below hb; clear hb; try clear v
   refine list_val F (wn rfl) rfl rfl (.bool (decide (ba = bb))) (ex_move _ rfl _ (F.e rfl)) ?_; clear F a; intro a F
   refine list_val F (wn rfl) rfl rfl (.bool false) (WG.ex_neqb _ _ _ _ rfl dn_bool_4 (decide (ba = bb)) (decide (ba = bb)) (F.e rfl) (F.e rfl) false (bne_self_b _)) ?_; clear F a; intro a F
   refine list_val F (wn rfl) rfl rfl (.bool false) (ex_move _ rfl _ (F.e rfl)) ?_; clear F a; intro a F
   refine list_val F (F.wants 63 false rfl (by kernel_rfl) rfl true rfl) rfl rfl (.slice A_46 bb.length c_46) (ex_move _ rfl _ (F.e rfl)) ?_; clear F a; intro a F
   refine list_val F (F.wants 63 false rfl (by kernel_rfl) rfl true rfl) rfl rfl (.slice A_40 ba.length c_40) (ex_move _ rfl _ (F.e rfl)) ?_; clear F a; intro a F
   refine list_do (F.wants 63 false rfl (by kernel_rfl) rfl true rfl) (fun K hK => ?_)
   refine ow_call rfl rfl F 23 #[.slice A_46 bb.length c_46, .slice A_40 ba.length c_40] (ex_call 23 _ _ rfl rfl dn_ent_23 _ (map2 (F.e rfl) (F.e rfl))) (same_any bb ba _ _ bb.length c_46 ba.length c_40 _ ((R_.rb (i := 0) rfl).lent rfl) hcx46 ((R_.rb (i := 1) rfl).lent rfl) hcx40) (fun e v hR => ?_)
   obtain ⟨he, hb⟩ := hR
   refine ⟨.bool (decide (bb = ba)), he, ?_⟩; clear he F a; intro a F
   refine hK _ _ ?_
   clear hK K
   replace R_ := R_.below hb
   replace M := M.below hb; clear hb; try clear u
   refine list_val F (F.wants 63 false rfl (by kernel_rfl) rfl true rfl) rfl rfl (.bool (decide (ba = bb))) (ex_move _ rfl _ (F.e rfl)) ?_; clear F a; intro a F
   refine list_val F (F.wants 63 false rfl (by kernel_rfl) rfl true rfl) rfl rfl (.bool false) (WG.ex_neqb _ _ _ _ rfl dn_bool_4 (decide (bb = ba)) (decide (ba = bb)) (F.e rfl) (F.e rfl) false (bne_sym _ _)) ?_; clear F a; intro a F
   refine list_val F (wn rfl) rfl rfl (.bool false) (ex_pick_f _ _ _ rfl (F.e rfl) _ (F.e rfl)) ?_; clear F a; intro a F
   refine list_val F (wn rfl) rfl rfl (.bool false) (ex_move _ rfl _ (F.e rfl)) ?_; clear F a; intro a F
   refine list_val F (F.wants 70 false rfl (by kernel_rfl) rfl true rfl) rfl rfl (.slice A_40 ba.length c_40) (ex_move _ rfl _ (F.e rfl)) ?_; clear F a; intro a F
   refine list_val F (F.wants 70 false rfl (by kernel_rfl) rfl true rfl) rfl rfl (.slice A_40 ba.length c_40) (ex_move _ rfl _ (F.e rfl)) ?_; clear F a; intro a F
   refine list_do (F.wants 70 false rfl (by kernel_rfl) rfl true rfl) (fun K hK => ?_)
   refine ow_call rfl rfl F 23 #[.slice A_40 ba.length c_40, .slice A_40 ba.length c_40] (ex_call 23 _ _ rfl rfl dn_ent_23 _ (map2 (F.e rfl) (F.e rfl))) (same_any ba ba _ _ ba.length c_40 ba.length c_40 _ ((R_.rb (i := 1) rfl).lent rfl) hcx40 ((R_.rb (i := 1) rfl).lent rfl) hcx40) (fun e u hR => ?_)
   obtain ⟨he, hb⟩ := hR
   rw [decide_eq_true rfl] at he
   refine ⟨.bool true, he, ?_⟩; clear he F a; intro a F
   refine hK _ _ ?_
   clear hK K
   replace R_ := R_.below hb
   replace M := M.below hb; clear hb; try clear v
   refine list_val F (F.wants 70 false rfl (by kernel_rfl) rfl true rfl) rfl rfl (.bool false) (ex_not _ _ rfl _ (F.e rfl) _ rfl) ?_; clear F a; intro a F
   refine list_val F (wn rfl) rfl rfl (.bool false) (ex_pick_f _ _ _ rfl (F.e rfl) _ (F.e rfl)) ?_; clear F a; intro a F
   refine list_val F (wn rfl) rfl rfl (.bool false) (ex_move _ rfl _ (F.e rfl)) ?_; clear F a; intro a F
   refine list_val F (F.wants 76 false rfl (by kernel_rfl) rfl true rfl) rfl rfl (.slice A_40 ba.length c_40) (ex_move _ rfl _ (F.e rfl)) ?_; clear F a; intro a F
   refine list_val F (F.wants 76 false rfl (by kernel_rfl) rfl true rfl) rfl rfl (.pointer (some ⟨g1, 0, none⟩)) (ex_fa _ _ _ rfl _ (F.e rfl) 0 dn_fa_36_0_0 ⟨g1, 0, none⟩ rfl) ?_; clear F a; intro a F
   refine list_val F (F.wants 76 false rfl (by kernel_rfl) rfl true rfl) rfl rfl (.slice La n cla) (ex_load _ _ rfl _ (F.e rfl) _ (lv1 dn_one_22 (M.cell (i := 0) rfl (j := 0) rfl))) ?_; clear F a; intro a F
   refine list_val F (F.wants 76 false rfl (by kernel_rfl) rfl true rfl) rfl rfl (.int .i64 ((i : Nat) : Int)) (ex_move _ rfl _ (F.e rfl)) ?_; clear F a; intro a F
   refine list_val F (F.wants 76 false rfl (by kernel_rfl) rfl true rfl) rfl rfl (.pointer (some (ada.add i))) (ex_ixE _ _ rfl dn_sl_22_1 ada La hLsa n cla (F.e rfl) .i64 _ (F.e rfl) i rfl (by omega)) ?_; clear F a; intro a F
   refine list_val F (F.wants 76 false rfl (by kernel_rfl) rfl true rfl) rfl rfl (.slice Ba ba.length ca) (ex_load _ _ rfl _ (F.e rfl) _ (lv1 dn_one_23 (pw_cell_below M.bel hcea))) ?_; clear F a; intro a F
   refine list_do (F.wants 76 false rfl (by kernel_rfl) rfl true rfl) (fun K hK => ?_)
   refine ow_call rfl rfl F 16 #[.slice A_40 ba.length c_40, .slice Ba ba.length ca] (ex_call 16 _ _ rfl rfl dn_ent_16 _ (map2 (F.e rfl) (F.e rfl))) (intact_any ba ba A_40 Ba ba.length c_40 ba.length ca (by omega) _ rfl (R_.rb (i := 1) rfl) hcf40 (hrba.below M.bel)) (fun e v hR => ?_)
   obtain ⟨he, hb⟩ := hR
   rw [decide_eq_true rfl] at he
   refine ⟨.bool true, he, ?_⟩; clear he F a; intro a F
   refine hK _ _ ?_
   clear hK K
   replace R_ := R_.below hb
   replace M := M.below hb; clear hb; try clear u
   refine list_val F (F.wants 76 false rfl (by kernel_rfl) rfl true rfl) rfl rfl (.bool false) (ex_not _ _ rfl _ (F.e rfl) _ rfl) ?_; clear F a; intro a F
   refine list_val F (wn rfl) rfl rfl (.bool false) (ex_pick_f _ _ _ rfl (F.e rfl) _ (F.e rfl)) ?_; clear F a; intro a F
   refine list_val F (wn rfl) rfl rfl (.bool false) (ex_move _ rfl _ (F.e rfl)) ?_; clear F a; intro a F
   refine list_val F (F.wants 86 false rfl (by kernel_rfl) rfl true rfl) rfl rfl (.slice A_46 bb.length c_46) (ex_move _ rfl _ (F.e rfl)) ?_; clear F a; intro a F
   refine list_val F (F.wants 86 false rfl (by kernel_rfl) rfl true rfl) rfl rfl (.pointer (some ⟨g1, 1, none⟩)) (ex_fa _ _ _ rfl _ (F.e rfl) 1 dn_fa_36_1_1 ⟨g1, 1, none⟩ rfl) ?_; clear F a; intro a F
   refine list_val F (F.wants 86 false rfl (by kernel_rfl) rfl true rfl) rfl rfl (.slice Lb m clb) (ex_load _ _ rfl _ (F.e rfl) _ (lv1 dn_one_22 (M.cell (i := 0) rfl (j := 1) rfl))) ?_; clear F a; intro a F
   refine list_val F (F.wants 86 false rfl (by kernel_rfl) rfl true rfl) rfl rfl (.int .i64 ((k : Nat) : Int)) (ex_move _ rfl _ (F.e rfl)) ?_; clear F a; intro a F
   refine list_val F (F.wants 86 false rfl (by kernel_rfl) rfl true rfl) rfl rfl (.pointer (some (adb.add k))) (ex_ixE _ _ rfl dn_sl_22_1 adb Lb hLsb m clb (F.e rfl) .i64 _ (F.e rfl) k rfl (by omega)) ?_; clear F a; intro a F
   refine list_val F (F.wants 86 false rfl (by kernel_rfl) rfl true rfl) rfl rfl (.slice Bb bb.length cb) (ex_load _ _ rfl _ (F.e rfl) _ (lv1 dn_one_23 (pw_cell_below M.bel hceb))) ?_; clear F a; intro a F
   refine list_do (F.wants 86 false rfl (by kernel_rfl) rfl true rfl) (fun K hK => ?_)
   refine ow_call rfl rfl F 16 #[.slice A_46 bb.length c_46, .slice Bb bb.length cb] (ex_call 16 _ _ rfl rfl dn_ent_16 _ (map2 (F.e rfl) (F.e rfl))) (intact_any bb bb A_46 Bb bb.length c_46 bb.length cb (by omega) _ rfl (R_.rb (i := 0) rfl) hcf46 (hrbb.below M.bel)) (fun e u hR => ?_)
   obtain ⟨he, hb⟩ := hR
   rw [decide_eq_true rfl] at he
   refine ⟨.bool true, he, ?_⟩; clear he F a; intro a F
   refine hK _ _ ?_
   clear hK K
   replace R_ := R_.below hb
   replace M := M.below hb; clear hb; try clear v
   refine list_val F (F.wants 86 false rfl (by kernel_rfl) rfl true rfl) rfl rfl (.bool false) (ex_not _ _ rfl _ (F.e rfl) _ rfl) ?_; clear F a; intro a F
   refine list_val F (wn rfl) rfl rfl (.bool false) (ex_pick_f _ _ _ rfl (F.e rfl) _ (F.e rfl)) ?_; clear F a; intro a F
   refine wpList_nil ?_
   replace F : Fr 97 a [(0, .agg #[.slice La n cla, .slice Lb m clb]), (1, .pointer (some ⟨g1, 0, none⟩)), (2, .bool false), (3, .int .i64 ((q2 + 1 + ba.length : Nat) : Int)), (4, .int .i64 ((i : Nat) : Int)), (5, .int .i64 ((k : Nat) : Int)), (6, .slice A_40 ba.length c_40), (7, .slice A_46 bb.length c_46), (8, .bool (decide (ba = bb))), (13, .bool true), (20, .bool true), (33, .bool false), (95, .bool false)] := F.keep ⟨rfl, rfl, rfl, rfl, rfl, rfl, rfl, rfl, rfl, rfl, rfl, rfl, rfl, trivial⟩
   refine then_n ?_
   refine wp_cond_false (F.e rfl) ?_
   refine wp_skip ?_
   refine in_n ?_
   refine then_n ?_
   refine wp_region_lit ?_
   refine list_val F (wn rfl) rfl rfl (.int .i64 ((k : Nat) : Int)) (ex_move _ rfl _ (F.e rfl)) ?_; clear F a; intro a F
   refine list_val F (wn rfl) rfl rfl (.int .i64 ((k + 1 : Nat) : Int)) (ex_bin .add _ _ _ _ rfl .i64 _ _ (F.e rfl) rfl _ (b_add ((w_i64 (by omega) (by omega)).trans (by omega)))) ?_; clear F a; intro a F
   refine list_val F (wn rfl) rfl rfl (.int .i64 ((k + 1 : Nat) : Int)) (ex_assign _ rfl _ (F.e rfl)) ?_; clear F a; intro a F
   refine wpList_nil ?_
   replace F : Fr 97 a [(0, .agg #[.slice La n cla, .slice Lb m clb]), (1, .pointer (some ⟨g1, 0, none⟩)), (2, .bool false), (3, .int .i64 ((q2 + 1 + ba.length : Nat) : Int)), (4, .int .i64 ((i : Nat) : Int)), (5, .int .i64 ((k + 1 : Nat) : Int)), (6, .slice A_40 ba.length c_40), (7, .slice A_46 bb.length c_46), (8, .bool (decide (ba = bb))), (13, .bool true), (20, .bool true), (33, .bool false), (95, .bool false)] := F.keep ⟨rfl, rfl, rfl, rfl, rfl, rfl, rfl, rfl, rfl, rfl, rfl, rfl, rfl, trivial⟩
   refine then_n ?_
   replace R_ := R_.pick [] [] trivial (by decide)
   exact ⟨m - (k + 1), by omega, (k + 1), (q2 + 1 + ba.length), F.keep ⟨rfl, rfl, rfl, rfl, rfl, rfl, rfl, trivial⟩, (by refine M.pick' [0] _ ?_ (by decide); exact ⟨rfl, trivial⟩), R_, (by omega), (by omega), (by omega)⟩
  refine wp_seq ?_
  refine wp_seq ?_
  refine wp_region_lit ?_
  refine list_val F (wn rfl) rfl rfl (.int .i64 ((k : Nat) : Int)) (ex_move _ rfl _ (F.e rfl)) ?_; clear F a; intro a F
  refine list_val F (wn rfl) rfl rfl (.pointer (some ⟨g1, 1, none⟩)) (ex_fa _ _ _ rfl _ (F.e rfl) 1 dn_fa_36_1_1 ⟨g1, 1, none⟩ rfl) ?_; clear F a; intro a F
  refine list_val F (wn rfl) rfl rfl (.slice Lb m clb) (ex_load _ _ rfl _ (F.e rfl) _ (lv1 dn_one_22 (M.cell (i := 0) rfl (j := 1) rfl))) ?_; clear F a; intro a F
  refine list_val F (wn rfl) rfl rfl (.int .i64 ((m : Nat) : Int)) (ex_len _ _ rfl 1 dn_sl_22_1 _ _ _ (F.e rfl)) ?_; clear F a; intro a F
  refine list_val F (wn rfl) rfl rfl (.bool false) (ex_bin .lss _ _ _ _ rfl .i64 _ _ (F.e rfl) (F.e rfl) _ (b_lss (decide_eq_false (by omega)))) ?_; clear F a; intro a F
  refine wpList_nil ?_
  replace F : Fr 97 a [(0, .agg #[.slice La n cla, .slice Lb m clb]), (1, .pointer (some ⟨g1, 0, none⟩)), (2, .bool false), (3, .int .i64 ((q2 : Nat) : Int)), (4, .int .i64 ((i : Nat) : Int)), (5, .int .i64 ((k : Nat) : Int)), (13, .bool true), (20, .bool false)] := F.keep ⟨rfl, rfl, rfl, rfl, rfl, rfl, rfl, rfl, trivial⟩
  refine then_n ?_
  refine wp_cond_false (F.e rfl) ?_
  refine wp_exit ?_
  refine then_x ?_
  refine then_x ?_
  refine in_hit ?_
  refine in_n ?_
  refine then_n ?_
  refine wp_region_lit ?_
  refine list_val F (wn rfl) rfl rfl (.int .i64 ((i : Nat) : Int)) (ex_move _ rfl _ (F.e rfl)) ?_; clear F a; intro a F
  refine list_val F (wn rfl) rfl rfl (.int .i64 ((i + 1 : Nat) : Int)) (ex_bin .add _ _ _ _ rfl .i64 _ _ (F.e rfl) rfl _ (b_add ((w_i64 (by omega) (by omega)).trans (by omega)))) ?_; clear F a; intro a F
  refine list_val F (wn rfl) rfl rfl (.int .i64 ((i + 1 : Nat) : Int)) (ex_assign _ rfl _ (F.e rfl)) ?_; clear F a; intro a F
  refine wpList_nil ?_
  replace F : Fr 97 a [(0, .agg #[.slice La n cla, .slice Lb m clb]), (1, .pointer (some ⟨g1, 0, none⟩)), (2, .bool false), (3, .int .i64 ((q2 : Nat) : Int)), (4, .int .i64 ((i + 1 : Nat) : Int)), (5, .int .i64 ((k : Nat) : Int)), (13, .bool true), (20, .bool false)] := F.keep ⟨rfl, rfl, rfl, rfl, rfl, rfl, rfl, rfl, trivial⟩
  refine then_n ?_
  exact ⟨n - (i + 1), by omega, (i + 1), q2, F.keep ⟨rfl, rfl, rfl, rfl, rfl, trivial⟩, (by refine M.pick' [0] _ ?_ (by decide); exact ⟨rfl, trivial⟩), R_, (by omega), (by omega), (by omega)⟩
 refine wp_seq ?_
 refine wp_seq ?_
 refine wp_region_lit ?_
 refine list_val F (wn rfl) rfl rfl (.int .i64 ((i : Nat) : Int)) (ex_move _ rfl _ (F.e rfl)) ?_; clear F a; intro a F
 refine list_val F (wn rfl) rfl rfl (.pointer (some ⟨g1, 0, none⟩)) (ex_fa _ _ _ rfl _ (F.e rfl) 0 dn_fa_36_0_0 ⟨g1, 0, none⟩ rfl) ?_; clear F a; intro a F
 refine list_val F (wn rfl) rfl rfl (.slice La n cla) (ex_load _ _ rfl _ (F.e rfl) _ (lv1 dn_one_22 (M.cell (i := 0) rfl (j := 0) rfl))) ?_; clear F a; intro a F
 refine list_val F (wn rfl) rfl rfl (.int .i64 ((n : Nat) : Int)) (ex_len _ _ rfl 1 dn_sl_22_1 _ _ _ (F.e rfl)) ?_; clear F a; intro a F
 refine list_val F (wn rfl) rfl rfl (.bool false) (ex_bin .lss _ _ _ _ rfl .i64 _ _ (F.e rfl) (F.e rfl) _ (b_lss (decide_eq_false (by omega)))) ?_; clear F a; intro a F
 refine wpList_nil ?_
 replace F : Fr 97 a [(0, .agg #[.slice La n cla, .slice Lb m clb]), (1, .pointer (some ⟨g1, 0, none⟩)), (2, .bool false), (3, .int .i64 ((q : Nat) : Int)), (4, .int .i64 ((i : Nat) : Int)), (13, .bool false)] := F.keep ⟨rfl, rfl, rfl, rfl, rfl, rfl, trivial⟩
 refine then_n ?_
 refine wp_cond_false (F.e rfl) ?_
 refine wp_exit ?_
 refine then_x ?_
 refine then_x ?_
 refine in_hit ?_
 refine then_n ?_
 refine wp_seq ?_
 refine wp_region_lit ?_
 refine list_do (wn rfl) (fun K hK => ?_)
 refine ow_call rfl rfl F 19 #[] (ex_call 19 _ _ rfl rfl dn_ent_19 _ (map0)) (wakes_any _ (hKt.below M.bel)) (fun e v hR => ?_)
 obtain ⟨he, hb⟩ := hR
 refine ⟨.bool true, he, ?_⟩; clear he F a; intro a F
 refine hK _ _ ?_
 clear hK K
 replace R_ := R_.below hb
 replace M := M.below hb; clear hb; try clear u
 refine list_val F (wn rfl) rfl rfl (.bool true) (ex_assign _ rfl _ (F.e rfl)) ?_; clear F a; intro a F
 refine wpList_nil ?_
 replace F : Fr 97 a [(0, .agg #[.slice La n cla, .slice Lb m clb]), (1, .pointer (some ⟨g1, 0, none⟩)), (2, .bool true), (3, .int .i64 ((q : Nat) : Int)), (4, .int .i64 ((i : Nat) : Int)), (13, .bool false)] := F.keep ⟨rfl, rfl, rfl, rfl, rfl, rfl, trivial⟩
 refine then_n ?_
 refine wp_ret ?_
 exact ret_tmp F rfl rfl ⟨rfl, M.bel⟩
end Go.Proofs.YtkppipeadibfkaaDoor
