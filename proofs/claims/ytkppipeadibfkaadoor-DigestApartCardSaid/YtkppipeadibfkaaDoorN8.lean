/- posternlaw4.DigestApart. Conditions: the table is laid; the argument is read. -/
import Derived.Test.YtkppipeadibfkaaDoorN3
namespace Go.Proofs.YtkppipeadibfkaaDoor
open Go.RowKit Go.Proofs.YtkppipeadibfkaaDoorW.PrintWords KB WG
set_option linter.unusedVariables false
set_option linter.unusedSimpArgs false
set_option linter.unnecessarySimpa false
def fstB (s t : List By) : List By := s ++ be8 (BitVec.ofNat 64 t.length) ++ t
theorem fst_ne {s t s' t' : List By} (hs : s.length = 16) (hs' : s'.length = 16) (h : ¬ (s = s' ∧ t = t')) : fstB s t ≠ fstB s' t' := fun e => by
  unfold fstB at e
  have h1 := List.append_inj e (by rw [List.length_append, List.length_append, be8_len, be8_len, hs, hs'])
  have h2 := List.append_inj h1.1 (by rw [hs, hs'])
  exact h ⟨h2.1, h1.2⟩
theorem fst_len {s t : List By} (hs : s.length = 16) : (fstB s t).length = 24 + t.length := by unfold fstB; rw [List.length_append, List.length_append, be8_len, hs]
theorem app_ne {c d s s' : List By} (hc : c.length = 32) (hd : d.length = 32) (h : c ≠ d) : c ++ s ≠ d ++ s' := fun e => h (List.append_inj e (by rw [hc, hd])).1
theorem passF_fst {s t : List By} {n : Nat} (h : n ≤ 4) : passF s t ((n + 1 : Nat) : Int) = (passR s (sha (fstB s t)) n, 0) := passF_step h
theorem passR_step {x s d : List By} {j : Nat} (h : sha x = passR s d j) : sha (sha x ++ s) = passR s d (j + 1) := by rw [h]; rfl
theorem dr_sl_38_18 : sl? Tryd.prog 38 18 = true := by kernel_rfl
theorem dr_row_42_18 : row? Tryd.prog 42 18 = true := by kernel_rfl
theorem dr_fa_42_1_16 : fa? Tryd.prog 42 1 16 = true := by kernel_rfl
theorem dr_one_9 : one? Tryd.prog 9 = true := by kernel_rfl
theorem dr_fa_42_0_0 : fa? Tryd.prog 42 0 0 = true := by kernel_rfl
theorem dr_row_40_16 : row? Tryd.prog 40 16 = true := by kernel_rfl
theorem dr_ab_40_16 : ab? Tryd.prog 40 16 = true := by kernel_rfl
theorem dr_ent_30 : ent? Tryd.prog 30 = true := by kernel_rfl
theorem dr_ent_25 : ent? Tryd.prog 25 = true := by kernel_rfl
theorem dr_follows_mixedOrders : Tryd.prog.follows .mixedOrders = true := by kernel_rfl
theorem dr_ent_26 : ent? Tryd.prog 26 = true := by kernel_rfl
theorem dr_row_24_32 : row? Tryd.prog 24 32 = true := by kernel_rfl
theorem dr_ent_27 : ent? Tryd.prog 27 = true := by kernel_rfl
theorem dr_ent_15 : ent? Tryd.prog 15 = true := by kernel_rfl
theorem dr_ab_24_32 : ab? Tryd.prog 24 32 = true := by kernel_rfl
theorem dr_ent_22 : ent? Tryd.prog 22 = true := by kernel_rfl
theorem dr_ent_19 : ent? Tryd.prog 19 = true := by kernel_rfl
theorem dr_sa_24_32 : sa? Tryd.prog 24 32 = true := by kernel_rfl
theorem dr_sa_40_16 : sa? Tryd.prog 40 16 = true := by kernel_rfl
set_option maxHeartbeats 4000000 in
set_option maxRecDepth 100000 in
theorem apart_any (l : List WordT) (Ls : Option Addr) (n cl : Nat) (hn : n ≤ 5864062014805) (w : World) (hKt : At w ⟨0, 0, none⟩ (wcs kTab)) (hl : kWd.C w Ls n l) (hwf : ∀ x ∈ l, wWd x) :
    Calls Tryd.prog 8 #[.slice Ls n cl] w fun e w' => e = .returned (.bool true) ∧ Below w.heap.size w w' := by
 have R_ : Rs w w [] := Rs.nil w w
 refine calls_start Tryd.func8 rfl rfl rfl (fun a F => ?_)
 have M : Mm w w [] := Mm.nil w
 refine wp_seq ?_
 refine wp_region_lit ?_
 refine list_val F (wn rfl) rfl rfl (.bool false) (ex_assign _ rfl _ rfl) ?_; clear F a; intro a F
 refine wpList_nil ?_
 replace F : Fr 122 a [(0, .slice Ls n cl), (2, .bool false)] := F.keep ⟨rfl, rfl, trivial⟩
 refine then_n ?_
 refine wp_seq ?_
 refine wp_seq ?_
 refine wp_region_lit ?_
 refine list_val F (wn rfl) rfl rfl (.int .i64 1) (ex_assign _ rfl _ rfl) ?_; clear F a; intro a F
 refine wpList_nil ?_
 replace F : Fr 122 a [(0, .slice Ls n cl), (2, .bool false), (3, .int .i64 1)] := F.keep ⟨rfl, rfl, rfl, trivial⟩
 refine then_n ?_
 refine wp_block ?_
 refine wp_loopN (fun mq ar wr => ∃ (i : Nat), Fr 122 ar [(0, .slice Ls n cl), (2, .bool false), (3, .int .i64 ((i : Nat) : Int))] ∧ Mm w wr [] ∧ Rs w wr [] ∧ 1 ≤ i ∧ i ≤ 8 ∧ mq + (i - 1) = 7) 7 ?_ ?_
 ·
  exact ⟨1, F.keep ⟨rfl, rfl, rfl, trivial⟩, (by refine M.pick' [] _ ?_ (by decide); exact trivial), R_, (Nat.le_refl _), (by decide), (by omega)⟩
 clear F M a R_
 rintro mq a v ⟨i, F, M, R_, hi1, hi, hq⟩; try clear w
 by_cases hin : i < n
 ·
  by_cases hi8 : i < 8
  ·
   obtain ⟨adr, sa, ta, ra, hLs, hsa, za, hta, hra0, hra9⟩ := at_word hl (show i - 1 < n by omega) hwf
   obtain ⟨adr2, sb, tb, rb, hLs2, hsb, zb, htb, hrb0, hrb9⟩ := at_word hl hin hwf
   subst hLs
   obtain rfl : adr = adr2 := Option.some.inj hLs2
   refine wp_seq ?_
   refine wp_seq ?_
   refine wp_region_lit ?_
   refine list_val F (wn rfl) rfl rfl (.int .i64 ((i : Nat) : Int)) (ex_move _ rfl _ (F.e rfl)) ?_; clear F a; intro a F
   refine list_val F (wn rfl) rfl rfl (.slice (some adr) n cl) (ex_move _ rfl _ (F.e rfl)) ?_; clear F a; intro a F
   refine list_val F (wn rfl) rfl rfl (.int .i64 ((n : Nat) : Int)) (ex_len _ _ rfl 18 dr_sl_38_18 _ _ _ (F.e rfl)) ?_; clear F a; intro a F
   refine list_val F (wn rfl) rfl rfl (.bool true) (ex_bin .lss _ _ _ _ rfl .i64 _ _ (F.e rfl) (F.e rfl) _ (b_lss (decide_eq_true (by omega)))) ?_; clear F a; intro a F
   refine list_val F (wn rfl) rfl rfl (.bool true) (ex_move _ rfl _ (F.e rfl)) ?_; clear F a; intro a F
   refine list_val F (F.wants 17 true rfl (by kernel_rfl) rfl true rfl) rfl rfl (.int .i64 ((i : Nat) : Int)) (ex_move _ rfl _ (F.e rfl)) ?_; clear F a; intro a F
   refine list_val F (F.wants 17 true rfl (by kernel_rfl) rfl true rfl) rfl rfl (.bool true) (ex_bin .lss _ _ _ _ rfl .i64 _ _ (F.e rfl) rfl _ (b_lss (decide_eq_true (by omega)))) ?_; clear F a; intro a F
   refine list_val F (wn rfl) rfl rfl (.bool true) (ex_pick_t _ _ _ rfl (F.e rfl) _ (F.e rfl)) ?_; clear F a; intro a F
   refine wpList_nil ?_
   replace F : Fr 122 a [(0, .slice (some adr) n cl), (2, .bool false), (3, .int .i64 ((i : Nat) : Int)), (20, .bool true)] := F.keep ⟨rfl, rfl, rfl, rfl, trivial⟩
   refine then_n ?_
   refine wp_cond_true (F.e rfl) ?_
   refine wp_skip ?_
   refine then_n ?_
   refine wp_seq ?_
   refine wp_block ?_
   refine wp_seq ?_
   refine wp_region_lit ?_
   refine list_val F (wn rfl) rfl rfl (.slice (some adr) n cl) (ex_move _ rfl _ (F.e rfl)) ?_; clear F a; intro a F
   refine list_val F (wn rfl) rfl rfl (.int .i64 ((i : Nat) : Int)) (ex_move _ rfl _ (F.e rfl)) ?_; clear F a; intro a F
   refine list_val F (wn rfl) rfl rfl (.int .i64 ((i - 1 : Nat) : Int)) (ex_bin .sub _ _ _ _ rfl .i64 _ _ (F.e rfl) rfl _ (b_sub ((w_i64 (by omega) (by omega)).trans (by omega)))) ?_; clear F a; intro a F
   refine list_val F (wn rfl) rfl rfl (.pointer (some (adr.add ((i - 1) * 18)))) (ex_ix _ _ _ rfl 18 dr_sl_38_18 adr _ _ (F.e rfl) .i64 _ (F.e rfl) (i - 1) rfl (by omega) (adr.add ((i - 1) * 18)) rfl) ?_; clear F a; intro a F
   refine list_val F (wn rfl) rfl rfl (.agg ((wdCs sa ta ra).toArray)) (ex_load _ _ rfl _ (F.e rfl) _ (lvr (cs := wdCs sa ta ra) (by rw [wd_len hsa]; exact dr_row_42_18) ((za.below M.bel)))) ?_; clear F a; intro a F
   refine list_do (wn rfl) (fun K hK => ?_)
   refine ow_alloc F M rfl rfl 42 rfl (.agg (wdCs (List.replicate 16 0) [] 0).toArray) z42 ((wdCs (List.replicate 16 0) ([]) 0).toArray) rfl ?_
   clear F M a; intro a g4 u F M hb hg
   refine hK _ _ ?_
   clear hK K
   replace R_ := R_.below hb
   clear hb hg; try clear v
   refine list_do (wn rfl) (fun K hK => ?_)
   refine ow_put F M rfl 42 _ _ rfl 0 _ ((wdCs (List.replicate 16 0) ([]) 0).toArray) _ rfl (F.e rfl) ((wdCs sa ta ra).toArray) (F.e rfl) (sz42 hsa) (sz42_eq (show (List.replicate 16 (0 : By)).length = 16 from rfl) hsa) wd_one ?_
   clear F a; have Mo := M; clear M; intro a v F M hgr
   refine hK _ _ ?_
   clear hK K
   replace R_ := R_.box (Mo.blk 0 _ rfl) (by show 5 ≠ 42; decide) hgr
   clear Mo hgr; try clear u
   replace M : Mm w v [⟨g4, (wdCs sa ta ra).toArray, 42⟩] := M
   refine wpList_nil ?_
   replace F : Fr 122 a [(0, .slice (some adr) n cl), (2, .bool false), (3, .int .i64 ((i : Nat) : Int)), (4, .pointer (some ⟨g4, 0, none⟩)), (20, .bool true)] := F.keep ⟨rfl, rfl, rfl, rfl, rfl, trivial⟩
   refine then_n ?_
   refine wp_seq ?_
   refine wp_region_lit ?_
   refine list_val F (wn rfl) rfl rfl (.slice (some adr) n cl) (ex_move _ rfl _ (F.e rfl)) ?_; clear F a; intro a F
   refine list_val F (wn rfl) rfl rfl (.int .i64 ((i : Nat) : Int)) (ex_move _ rfl _ (F.e rfl)) ?_; clear F a; intro a F
   refine list_val F (wn rfl) rfl rfl (.pointer (some (adr.add (i * 18)))) (ex_ix _ _ _ rfl 18 dr_sl_38_18 adr _ _ (F.e rfl) .i64 _ (F.e rfl) i rfl (by omega) (adr.add (i * 18)) rfl) ?_; clear F a; intro a F
   refine list_val F (wn rfl) rfl rfl (.agg ((wdCs sb tb rb).toArray)) (ex_load _ _ rfl _ (F.e rfl) _ (lvr (cs := wdCs sb tb rb) (by rw [wd_len hsb]; exact dr_row_42_18) ((zb.below M.bel)))) ?_; clear F a; intro a F
   refine list_do (wn rfl) (fun K hK => ?_)
   refine ow_alloc F M rfl rfl 42 rfl (.agg (wdCs (List.replicate 16 0) [] 0).toArray) z42 ((wdCs (List.replicate 16 0) ([]) 0).toArray) rfl ?_
   clear F M a; intro a g5 u F M hb hg
   refine hK _ _ ?_
   clear hK K
   replace R_ := R_.below hb
   clear hb hg; try clear v
   refine list_do (wn rfl) (fun K hK => ?_)
   refine ow_put F M rfl 42 _ _ rfl 0 _ ((wdCs (List.replicate 16 0) ([]) 0).toArray) _ rfl (F.e rfl) ((wdCs sb tb rb).toArray) (F.e rfl) (sz42 hsb) (sz42_eq (show (List.replicate 16 (0 : By)).length = 16 from rfl) hsb) wd_one ?_
   clear F a; have Mo := M; clear M; intro a v F M hgr
   refine hK _ _ ?_
   clear hK K
   replace R_ := R_.box (Mo.blk 0 _ rfl) (by show 5 ≠ 42; decide) hgr
   clear Mo hgr; try clear u
   replace M : Mm w v [⟨g5, (wdCs sb tb rb).toArray, 42⟩, ⟨g4, (wdCs sa ta ra).toArray, 42⟩] := M
   refine wpList_nil ?_
   replace F : Fr 122 a [(0, .slice (some adr) n cl), (2, .bool false), (3, .int .i64 ((i : Nat) : Int)), (4, .pointer (some ⟨g4, 0, none⟩)), (5, .pointer (some ⟨g5, 0, none⟩)), (20, .bool true)] := F.keep ⟨rfl, rfl, rfl, rfl, rfl, rfl, trivial⟩
   refine then_n ?_
   refine wp_seq ?_
   refine wp_seq ?_
   by_cases hA4 : 4000 < ta.length
   ·
    refine wp_region_lit ?_
    refine list_val F (wn rfl) rfl rfl (.pointer (some ⟨g4, 16, none⟩)) (ex_fa _ _ _ rfl _ (F.e rfl) 16 dr_fa_42_1_16 ⟨g4, 16, none⟩ rfl) ?_; clear F a; intro a F
    refine list_val F (wn rfl) rfl rfl (.string (strB ta)) (ex_load _ _ rfl _ (F.e rfl) _ (lv1 dr_one_9 (M.cell (i := 1) rfl (j := 16) (wd_a16 hsa)))) ?_; clear F a; intro a F
    refine list_val F (wn rfl) rfl rfl (.int .i64 ((ta.length : Nat) : Int)) (ex_lens _ _ rfl (by kernel_rfl) ta (F.e rfl)) ?_; clear F a; intro a F
    refine list_val F (wn rfl) rfl rfl (.bool true) (ex_bin .gtr _ _ _ _ rfl .i64 _ _ (F.e rfl) rfl _ (b_gtr (decide_eq_true (by omega)))) ?_; clear F a; intro a F
    refine list_val F (wn rfl) rfl rfl (.bool true) (ex_move _ rfl _ (F.e rfl)) ?_; clear F a; intro a F
    refine list_skip F (F.wants 36 true rfl (by kernel_rfl) rfl false rfl) rfl rfl ?_; clear F a; intro a F
    refine list_skip F (F.wants 36 true rfl (by kernel_rfl) rfl false rfl) rfl rfl ?_; clear F a; intro a F
    refine list_skip F (F.wants 36 true rfl (by kernel_rfl) rfl false rfl) rfl rfl ?_; clear F a; intro a F
    refine list_skip F (F.wants 36 true rfl (by kernel_rfl) rfl false rfl) rfl rfl ?_; clear F a; intro a F
    refine list_val F (wn rfl) rfl rfl (.bool true) (ex_pick_t _ _ _ rfl (F.e rfl) _ rfl) ?_; clear F a; intro a F
    refine list_val F (wn rfl) rfl rfl (.bool true) (ex_move _ rfl _ (F.e rfl)) ?_; clear F a; intro a F
    refine list_skip F (F.wants 42 true rfl (by kernel_rfl) rfl false rfl) rfl rfl ?_; clear F a; intro a F
    refine list_skip F (F.wants 42 true rfl (by kernel_rfl) rfl false rfl) rfl rfl ?_; clear F a; intro a F
    refine list_skip F (F.wants 42 true rfl (by kernel_rfl) rfl false rfl) rfl rfl ?_; clear F a; intro a F
    refine list_skip F (F.wants 42 true rfl (by kernel_rfl) rfl false rfl) rfl rfl ?_; clear F a; intro a F
    refine list_skip F (F.wants 42 true rfl (by kernel_rfl) rfl false rfl) rfl rfl ?_; clear F a; intro a F
    refine list_skip F (F.wants 42 true rfl (by kernel_rfl) rfl false rfl) rfl rfl ?_; clear F a; intro a F
    refine list_skip F (F.wants0 48 rfl (by kernel_rfl) rfl) rfl rfl ?_; clear F a; intro a F
    refine list_skip F (F.wants0 48 rfl (by kernel_rfl) rfl) rfl rfl ?_; clear F a; intro a F
    refine list_skip F (F.wants0 48 rfl (by kernel_rfl) rfl) rfl rfl ?_; clear F a; intro a F
    refine list_skip F (F.wants0 48 rfl (by kernel_rfl) rfl) rfl rfl ?_; clear F a; intro a F
    refine list_skip F (F.wants0 48 rfl (by kernel_rfl) rfl) rfl rfl ?_; clear F a; intro a F
    refine list_skip F (F.wants 42 true rfl (by kernel_rfl) rfl false rfl) rfl rfl ?_; clear F a; intro a F
    refine list_val F (wn rfl) rfl rfl (.bool true) (ex_pick_t _ _ _ rfl (F.e rfl) _ rfl) ?_; clear F a; intro a F
    refine wpList_nil ?_
    replace F : Fr 122 a [(0, .slice (some adr) n cl), (2, .bool false), (3, .int .i64 ((i : Nat) : Int)), (4, .pointer (some ⟨g4, 0, none⟩)), (5, .pointer (some ⟨g5, 0, none⟩)), (20, .bool true), (55, .bool true)] := F.keep ⟨rfl, rfl, rfl, rfl, rfl, rfl, rfl, trivial⟩
    refine then_n ?_
    refine wp_cond_true (F.e rfl) ?_
    refine wp_exit ?_
    refine then_x ?_
    refine in_hit ?_
    refine then_n ?_
    refine wp_region_lit ?_
    refine list_val F (wn rfl) rfl rfl (.int .i64 ((i : Nat) : Int)) (ex_move _ rfl _ (F.e rfl)) ?_; clear F a; intro a F
    refine list_val F (wn rfl) rfl rfl (.int .i64 ((i + 1 : Nat) : Int)) (ex_bin .add _ _ _ _ rfl .i64 _ _ (F.e rfl) rfl _ (b_add ((w_i64 (by omega) (by omega)).trans (by omega)))) ?_; clear F a; intro a F
    refine list_val F (wn rfl) rfl rfl (.int .i64 ((i + 1 : Nat) : Int)) (ex_assign _ rfl _ (F.e rfl)) ?_; clear F a; intro a F
    refine wpList_nil ?_
    replace F : Fr 122 a [(0, .slice (some adr) n cl), (2, .bool false), (3, .int .i64 ((i + 1 : Nat) : Int)), (4, .pointer (some ⟨g4, 0, none⟩)), (5, .pointer (some ⟨g5, 0, none⟩)), (20, .bool true), (55, .bool true)] := F.keep ⟨rfl, rfl, rfl, rfl, rfl, rfl, rfl, trivial⟩
    refine then_n ?_
    replace R_ := R_.pick [] [] trivial (by decide)
    exact ⟨7 - ((i - 1) + 1), by omega, (i + 1), F.keep ⟨rfl, rfl, rfl, trivial⟩, (by refine M.pick' [] _ ?_ (by decide); exact trivial), R_, (by omega), (by omega), (by omega)⟩
   by_cases hB4 : 4000 < tb.length
   ·
    refine wp_region_lit ?_
    refine list_val F (wn rfl) rfl rfl (.pointer (some ⟨g4, 16, none⟩)) (ex_fa _ _ _ rfl _ (F.e rfl) 16 dr_fa_42_1_16 ⟨g4, 16, none⟩ rfl) ?_; clear F a; intro a F
    refine list_val F (wn rfl) rfl rfl (.string (strB ta)) (ex_load _ _ rfl _ (F.e rfl) _ (lv1 dr_one_9 (M.cell (i := 1) rfl (j := 16) (wd_a16 hsa)))) ?_; clear F a; intro a F
    refine list_val F (wn rfl) rfl rfl (.int .i64 ((ta.length : Nat) : Int)) (ex_lens _ _ rfl (by kernel_rfl) ta (F.e rfl)) ?_; clear F a; intro a F
    refine list_val F (wn rfl) rfl rfl (.bool false) (ex_bin .gtr _ _ _ _ rfl .i64 _ _ (F.e rfl) rfl _ (b_gtr (decide_eq_false (by omega)))) ?_; clear F a; intro a F
    refine list_val F (wn rfl) rfl rfl (.bool false) (ex_move _ rfl _ (F.e rfl)) ?_; clear F a; intro a F
    refine list_val F (F.wants 36 false rfl (by kernel_rfl) rfl true rfl) rfl rfl (.pointer (some ⟨g5, 16, none⟩)) (ex_fa _ _ _ rfl _ (F.e rfl) 16 dr_fa_42_1_16 ⟨g5, 16, none⟩ rfl) ?_; clear F a; intro a F
    refine list_val F (F.wants 36 false rfl (by kernel_rfl) rfl true rfl) rfl rfl (.string (strB tb)) (ex_load _ _ rfl _ (F.e rfl) _ (lv1 dr_one_9 (M.cell (i := 0) rfl (j := 16) (wd_a16 hsb)))) ?_; clear F a; intro a F
    refine list_val F (F.wants 36 false rfl (by kernel_rfl) rfl true rfl) rfl rfl (.int .i64 ((tb.length : Nat) : Int)) (ex_lens _ _ rfl (by kernel_rfl) tb (F.e rfl)) ?_; clear F a; intro a F
    refine list_val F (F.wants 36 false rfl (by kernel_rfl) rfl true rfl) rfl rfl (.bool true) (ex_bin .gtr _ _ _ _ rfl .i64 _ _ (F.e rfl) rfl _ (b_gtr (decide_eq_true (by omega)))) ?_; clear F a; intro a F
    refine list_val F (wn rfl) rfl rfl (.bool true) (ex_pick_f _ _ _ rfl (F.e rfl) _ (F.e rfl)) ?_; clear F a; intro a F
    refine list_val F (wn rfl) rfl rfl (.bool true) (ex_move _ rfl _ (F.e rfl)) ?_; clear F a; intro a F
    refine list_skip F (F.wants 42 true rfl (by kernel_rfl) rfl false rfl) rfl rfl ?_; clear F a; intro a F
    refine list_skip F (F.wants 42 true rfl (by kernel_rfl) rfl false rfl) rfl rfl ?_; clear F a; intro a F
    refine list_skip F (F.wants 42 true rfl (by kernel_rfl) rfl false rfl) rfl rfl ?_; clear F a; intro a F
    refine list_skip F (F.wants 42 true rfl (by kernel_rfl) rfl false rfl) rfl rfl ?_; clear F a; intro a F
    refine list_skip F (F.wants 42 true rfl (by kernel_rfl) rfl false rfl) rfl rfl ?_; clear F a; intro a F
    refine list_skip F (F.wants 42 true rfl (by kernel_rfl) rfl false rfl) rfl rfl ?_; clear F a; intro a F
    refine list_skip F (F.wants0 48 rfl (by kernel_rfl) rfl) rfl rfl ?_; clear F a; intro a F
    refine list_skip F (F.wants0 48 rfl (by kernel_rfl) rfl) rfl rfl ?_; clear F a; intro a F
    refine list_skip F (F.wants0 48 rfl (by kernel_rfl) rfl) rfl rfl ?_; clear F a; intro a F
    refine list_skip F (F.wants0 48 rfl (by kernel_rfl) rfl) rfl rfl ?_; clear F a; intro a F
    refine list_skip F (F.wants0 48 rfl (by kernel_rfl) rfl) rfl rfl ?_; clear F a; intro a F
    refine list_skip F (F.wants 42 true rfl (by kernel_rfl) rfl false rfl) rfl rfl ?_; clear F a; intro a F
    refine list_val F (wn rfl) rfl rfl (.bool true) (ex_pick_t _ _ _ rfl (F.e rfl) _ rfl) ?_; clear F a; intro a F
    refine wpList_nil ?_
    replace F : Fr 122 a [(0, .slice (some adr) n cl), (2, .bool false), (3, .int .i64 ((i : Nat) : Int)), (4, .pointer (some ⟨g4, 0, none⟩)), (5, .pointer (some ⟨g5, 0, none⟩)), (20, .bool true), (55, .bool true)] := F.keep ⟨rfl, rfl, rfl, rfl, rfl, rfl, rfl, trivial⟩
    refine then_n ?_
    refine wp_cond_true (F.e rfl) ?_
    refine wp_exit ?_
    refine then_x ?_
    refine in_hit ?_
    refine then_n ?_
    refine wp_region_lit ?_
    refine list_val F (wn rfl) rfl rfl (.int .i64 ((i : Nat) : Int)) (ex_move _ rfl _ (F.e rfl)) ?_; clear F a; intro a F
    refine list_val F (wn rfl) rfl rfl (.int .i64 ((i + 1 : Nat) : Int)) (ex_bin .add _ _ _ _ rfl .i64 _ _ (F.e rfl) rfl _ (b_add ((w_i64 (by omega) (by omega)).trans (by omega)))) ?_; clear F a; intro a F
    refine list_val F (wn rfl) rfl rfl (.int .i64 ((i + 1 : Nat) : Int)) (ex_assign _ rfl _ (F.e rfl)) ?_; clear F a; intro a F
    refine wpList_nil ?_
    replace F : Fr 122 a [(0, .slice (some adr) n cl), (2, .bool false), (3, .int .i64 ((i + 1 : Nat) : Int)), (4, .pointer (some ⟨g4, 0, none⟩)), (5, .pointer (some ⟨g5, 0, none⟩)), (20, .bool true), (55, .bool true)] := F.keep ⟨rfl, rfl, rfl, rfl, rfl, rfl, rfl, trivial⟩
    refine then_n ?_
    replace R_ := R_.pick [] [] trivial (by decide)
    exact ⟨7 - ((i - 1) + 1), by omega, (i + 1), F.keep ⟨rfl, rfl, rfl, trivial⟩, (by refine M.pick' [] _ ?_ (by decide); exact trivial), R_, (by omega), (by omega), (by omega)⟩
   by_cases hss : sa = sb
   ·
    by_cases htt : ta = tb
    ·
     refine wp_region_lit ?_
     refine list_val F (wn rfl) rfl rfl (.pointer (some ⟨g4, 16, none⟩)) (ex_fa _ _ _ rfl _ (F.e rfl) 16 dr_fa_42_1_16 ⟨g4, 16, none⟩ rfl) ?_; clear F a; intro a F
     refine list_val F (wn rfl) rfl rfl (.string (strB ta)) (ex_load _ _ rfl _ (F.e rfl) _ (lv1 dr_one_9 (M.cell (i := 1) rfl (j := 16) (wd_a16 hsa)))) ?_; clear F a; intro a F
     refine list_val F (wn rfl) rfl rfl (.int .i64 ((ta.length : Nat) : Int)) (ex_lens _ _ rfl (by kernel_rfl) ta (F.e rfl)) ?_; clear F a; intro a F
     refine list_val F (wn rfl) rfl rfl (.bool false) (ex_bin .gtr _ _ _ _ rfl .i64 _ _ (F.e rfl) rfl _ (b_gtr (decide_eq_false (by omega)))) ?_; clear F a; intro a F
     refine list_val F (wn rfl) rfl rfl (.bool false) (ex_move _ rfl _ (F.e rfl)) ?_; clear F a; intro a F
     refine list_val F (F.wants 36 false rfl (by kernel_rfl) rfl true rfl) rfl rfl (.pointer (some ⟨g5, 16, none⟩)) (ex_fa _ _ _ rfl _ (F.e rfl) 16 dr_fa_42_1_16 ⟨g5, 16, none⟩ rfl) ?_; clear F a; intro a F
     refine list_val F (F.wants 36 false rfl (by kernel_rfl) rfl true rfl) rfl rfl (.string (strB tb)) (ex_load _ _ rfl _ (F.e rfl) _ (lv1 dr_one_9 (M.cell (i := 0) rfl (j := 16) (wd_a16 hsb)))) ?_; clear F a; intro a F
     refine list_val F (F.wants 36 false rfl (by kernel_rfl) rfl true rfl) rfl rfl (.int .i64 ((tb.length : Nat) : Int)) (ex_lens _ _ rfl (by kernel_rfl) tb (F.e rfl)) ?_; clear F a; intro a F
     refine list_val F (F.wants 36 false rfl (by kernel_rfl) rfl true rfl) rfl rfl (.bool false) (ex_bin .gtr _ _ _ _ rfl .i64 _ _ (F.e rfl) rfl _ (b_gtr (decide_eq_false (by omega)))) ?_; clear F a; intro a F
     refine list_val F (wn rfl) rfl rfl (.bool false) (ex_pick_f _ _ _ rfl (F.e rfl) _ (F.e rfl)) ?_; clear F a; intro a F
     refine list_val F (wn rfl) rfl rfl (.bool false) (ex_move _ rfl _ (F.e rfl)) ?_; clear F a; intro a F
     refine list_val F (F.wants 42 false rfl (by kernel_rfl) rfl true rfl) rfl rfl (.pointer (some ⟨g4, 0, none⟩)) (ex_fa _ _ _ rfl _ (F.e rfl) 0 dr_fa_42_0_0 ⟨g4, 0, none⟩ rfl) ?_; clear F a; intro a F
     refine list_val F (F.wants 42 false rfl (by kernel_rfl) rfl true rfl) rfl rfl (.agg ((bcs sa).toArray)) (ex_load _ _ rfl _ (F.e rfl) _ (lvr (cs := bcs sa) (by rw [bcs_len, show _ = 16 from hsa]; exact dr_row_40_16) (wd_salt (M.at (i := 1) rfl)))) ?_; clear F a; intro a F
     refine list_val F (F.wants 42 false rfl (by kernel_rfl) rfl true rfl) rfl rfl (.pointer (some ⟨g5, 0, none⟩)) (ex_fa _ _ _ rfl _ (F.e rfl) 0 dr_fa_42_0_0 ⟨g5, 0, none⟩ rfl) ?_; clear F a; intro a F
     refine list_val F (F.wants 42 false rfl (by kernel_rfl) rfl true rfl) rfl rfl (.agg ((bcs sb).toArray)) (ex_load _ _ rfl _ (F.e rfl) _ (lvr (cs := bcs sb) (by rw [bcs_len, show _ = 16 from hsb]; exact dr_row_40_16) (wd_salt (M.at (i := 0) rfl)))) ?_; clear F a; intro a F
     refine list_val F (F.wants 42 false rfl (by kernel_rfl) rfl true rfl) rfl rfl (.bool true) (ex_eqlA 40 _ _ _ rfl 16 dr_ab_40_16 sa sb hsa hsb (F.e rfl) (F.e rfl) true (decide_eq_true hss)) ?_; clear F a; intro a F
     refine list_val F (F.wants 42 false rfl (by kernel_rfl) rfl true rfl) rfl rfl (.bool true) (ex_move _ rfl _ (F.e rfl)) ?_; clear F a; intro a F
     refine list_val F (F.wants 48 true rfl (by kernel_rfl) rfl true rfl) rfl rfl (.pointer (some ⟨g4, 16, none⟩)) (ex_fa _ _ _ rfl _ (F.e rfl) 16 dr_fa_42_1_16 ⟨g4, 16, none⟩ rfl) ?_; clear F a; intro a F
     refine list_val F (F.wants 48 true rfl (by kernel_rfl) rfl true rfl) rfl rfl (.string (strB ta)) (ex_load _ _ rfl _ (F.e rfl) _ (lv1 dr_one_9 (M.cell (i := 1) rfl (j := 16) (wd_a16 hsa)))) ?_; clear F a; intro a F
     refine list_val F (F.wants 48 true rfl (by kernel_rfl) rfl true rfl) rfl rfl (.pointer (some ⟨g5, 16, none⟩)) (ex_fa _ _ _ rfl _ (F.e rfl) 16 dr_fa_42_1_16 ⟨g5, 16, none⟩ rfl) ?_; clear F a; intro a F
     refine list_val F (F.wants 48 true rfl (by kernel_rfl) rfl true rfl) rfl rfl (.string (strB tb)) (ex_load _ _ rfl _ (F.e rfl) _ (lv1 dr_one_9 (M.cell (i := 0) rfl (j := 16) (wd_a16 hsb)))) ?_; clear F a; intro a F
     refine list_val F (F.wants 48 true rfl (by kernel_rfl) rfl true rfl) rfl rfl (.bool true) (ex_eqls _ _ _ rfl ta tb (F.e rfl) (F.e rfl) true (decide_eq_true htt)) ?_; clear F a; intro a F
     refine list_val F (F.wants 42 false rfl (by kernel_rfl) rfl true rfl) rfl rfl (.bool true) (ex_pick_t _ _ _ rfl (F.e rfl) _ (F.e rfl)) ?_; clear F a; intro a F
     refine list_val F (wn rfl) rfl rfl (.bool true) (ex_pick_f _ _ _ rfl (F.e rfl) _ (F.e rfl)) ?_; clear F a; intro a F
     refine wpList_nil ?_
     replace F : Fr 122 a [(0, .slice (some adr) n cl), (2, .bool false), (3, .int .i64 ((i : Nat) : Int)), (4, .pointer (some ⟨g4, 0, none⟩)), (5, .pointer (some ⟨g5, 0, none⟩)), (20, .bool true), (55, .bool true)] := F.keep ⟨rfl, rfl, rfl, rfl, rfl, rfl, rfl, trivial⟩
     refine then_n ?_
     refine wp_cond_true (F.e rfl) ?_
     refine wp_exit ?_
     refine then_x ?_
     refine in_hit ?_
     refine then_n ?_
     refine wp_region_lit ?_
     refine list_val F (wn rfl) rfl rfl (.int .i64 ((i : Nat) : Int)) (ex_move _ rfl _ (F.e rfl)) ?_; clear F a; intro a F
     refine list_val F (wn rfl) rfl rfl (.int .i64 ((i + 1 : Nat) : Int)) (ex_bin .add _ _ _ _ rfl .i64 _ _ (F.e rfl) rfl _ (b_add ((w_i64 (by omega) (by omega)).trans (by omega)))) ?_; clear F a; intro a F
     refine list_val F (wn rfl) rfl rfl (.int .i64 ((i + 1 : Nat) : Int)) (ex_assign _ rfl _ (F.e rfl)) ?_; clear F a; intro a F
     refine wpList_nil ?_
     replace F : Fr 122 a [(0, .slice (some adr) n cl), (2, .bool false), (3, .int .i64 ((i + 1 : Nat) : Int)), (4, .pointer (some ⟨g4, 0, none⟩)), (5, .pointer (some ⟨g5, 0, none⟩)), (20, .bool true), (55, .bool true)] := F.keep ⟨rfl, rfl, rfl, rfl, rfl, rfl, rfl, trivial⟩
     refine then_n ?_
     replace R_ := R_.pick [] [] trivial (by decide)
     exact ⟨7 - ((i - 1) + 1), by omega, (i + 1), F.keep ⟨rfl, rfl, rfl, trivial⟩, (by refine M.pick' [] _ ?_ (by decide); exact trivial), R_, (by omega), (by omega), (by omega)⟩
    have hxy := fst_ne (t := ta) (t' := tb) hsa hsb (fun h => htt h.2)
    refine wp_region_lit ?_
    refine list_val F (wn rfl) rfl rfl (.pointer (some ⟨g4, 16, none⟩)) (ex_fa _ _ _ rfl _ (F.e rfl) 16 dr_fa_42_1_16 ⟨g4, 16, none⟩ rfl) ?_; clear F a; intro a F
    refine list_val F (wn rfl) rfl rfl (.string (strB ta)) (ex_load _ _ rfl _ (F.e rfl) _ (lv1 dr_one_9 (M.cell (i := 1) rfl (j := 16) (wd_a16 hsa)))) ?_; clear F a; intro a F
    refine list_val F (wn rfl) rfl rfl (.int .i64 ((ta.length : Nat) : Int)) (ex_lens _ _ rfl (by kernel_rfl) ta (F.e rfl)) ?_; clear F a; intro a F
    refine list_val F (wn rfl) rfl rfl (.bool false) (ex_bin .gtr _ _ _ _ rfl .i64 _ _ (F.e rfl) rfl _ (b_gtr (decide_eq_false (by omega)))) ?_; clear F a; intro a F
    refine list_val F (wn rfl) rfl rfl (.bool false) (ex_move _ rfl _ (F.e rfl)) ?_; clear F a; intro a F
    refine list_val F (F.wants 36 false rfl (by kernel_rfl) rfl true rfl) rfl rfl (.pointer (some ⟨g5, 16, none⟩)) (ex_fa _ _ _ rfl _ (F.e rfl) 16 dr_fa_42_1_16 ⟨g5, 16, none⟩ rfl) ?_; clear F a; intro a F
    refine list_val F (F.wants 36 false rfl (by kernel_rfl) rfl true rfl) rfl rfl (.string (strB tb)) (ex_load _ _ rfl _ (F.e rfl) _ (lv1 dr_one_9 (M.cell (i := 0) rfl (j := 16) (wd_a16 hsb)))) ?_; clear F a; intro a F
    refine list_val F (F.wants 36 false rfl (by kernel_rfl) rfl true rfl) rfl rfl (.int .i64 ((tb.length : Nat) : Int)) (ex_lens _ _ rfl (by kernel_rfl) tb (F.e rfl)) ?_; clear F a; intro a F
    refine list_val F (F.wants 36 false rfl (by kernel_rfl) rfl true rfl) rfl rfl (.bool false) (ex_bin .gtr _ _ _ _ rfl .i64 _ _ (F.e rfl) rfl _ (b_gtr (decide_eq_false (by omega)))) ?_; clear F a; intro a F
    refine list_val F (wn rfl) rfl rfl (.bool false) (ex_pick_f _ _ _ rfl (F.e rfl) _ (F.e rfl)) ?_; clear F a; intro a F
    refine list_val F (wn rfl) rfl rfl (.bool false) (ex_move _ rfl _ (F.e rfl)) ?_; clear F a; intro a F
    refine list_val F (F.wants 42 false rfl (by kernel_rfl) rfl true rfl) rfl rfl (.pointer (some ⟨g4, 0, none⟩)) (ex_fa _ _ _ rfl _ (F.e rfl) 0 dr_fa_42_0_0 ⟨g4, 0, none⟩ rfl) ?_; clear F a; intro a F
    refine list_val F (F.wants 42 false rfl (by kernel_rfl) rfl true rfl) rfl rfl (.agg ((bcs sa).toArray)) (ex_load _ _ rfl _ (F.e rfl) _ (lvr (cs := bcs sa) (by rw [bcs_len, show _ = 16 from hsa]; exact dr_row_40_16) (wd_salt (M.at (i := 1) rfl)))) ?_; clear F a; intro a F
    refine list_val F (F.wants 42 false rfl (by kernel_rfl) rfl true rfl) rfl rfl (.pointer (some ⟨g5, 0, none⟩)) (ex_fa _ _ _ rfl _ (F.e rfl) 0 dr_fa_42_0_0 ⟨g5, 0, none⟩ rfl) ?_; clear F a; intro a F
    refine list_val F (F.wants 42 false rfl (by kernel_rfl) rfl true rfl) rfl rfl (.agg ((bcs sb).toArray)) (ex_load _ _ rfl _ (F.e rfl) _ (lvr (cs := bcs sb) (by rw [bcs_len, show _ = 16 from hsb]; exact dr_row_40_16) (wd_salt (M.at (i := 0) rfl)))) ?_; clear F a; intro a F
    refine list_val F (F.wants 42 false rfl (by kernel_rfl) rfl true rfl) rfl rfl (.bool true) (ex_eqlA 40 _ _ _ rfl 16 dr_ab_40_16 sa sb hsa hsb (F.e rfl) (F.e rfl) true (decide_eq_true hss)) ?_; clear F a; intro a F
    refine list_val F (F.wants 42 false rfl (by kernel_rfl) rfl true rfl) rfl rfl (.bool true) (ex_move _ rfl _ (F.e rfl)) ?_; clear F a; intro a F
    refine list_val F (F.wants 48 true rfl (by kernel_rfl) rfl true rfl) rfl rfl (.pointer (some ⟨g4, 16, none⟩)) (ex_fa _ _ _ rfl _ (F.e rfl) 16 dr_fa_42_1_16 ⟨g4, 16, none⟩ rfl) ?_; clear F a; intro a F
    refine list_val F (F.wants 48 true rfl (by kernel_rfl) rfl true rfl) rfl rfl (.string (strB ta)) (ex_load _ _ rfl _ (F.e rfl) _ (lv1 dr_one_9 (M.cell (i := 1) rfl (j := 16) (wd_a16 hsa)))) ?_; clear F a; intro a F
    refine list_val F (F.wants 48 true rfl (by kernel_rfl) rfl true rfl) rfl rfl (.pointer (some ⟨g5, 16, none⟩)) (ex_fa _ _ _ rfl _ (F.e rfl) 16 dr_fa_42_1_16 ⟨g5, 16, none⟩ rfl) ?_; clear F a; intro a F
    refine list_val F (F.wants 48 true rfl (by kernel_rfl) rfl true rfl) rfl rfl (.string (strB tb)) (ex_load _ _ rfl _ (F.e rfl) _ (lv1 dr_one_9 (M.cell (i := 0) rfl (j := 16) (wd_a16 hsb)))) ?_; clear F a; intro a F
    refine list_val F (F.wants 48 true rfl (by kernel_rfl) rfl true rfl) rfl rfl (.bool false) (ex_eqls _ _ _ rfl ta tb (F.e rfl) (F.e rfl) false (decide_eq_false htt)) ?_; clear F a; intro a F
    refine list_val F (F.wants 42 false rfl (by kernel_rfl) rfl true rfl) rfl rfl (.bool false) (ex_pick_t _ _ _ rfl (F.e rfl) _ (F.e rfl)) ?_; clear F a; intro a F
    refine list_val F (wn rfl) rfl rfl (.bool false) (ex_pick_f _ _ _ rfl (F.e rfl) _ (F.e rfl)) ?_; clear F a; intro a F
    refine wpList_nil ?_
    replace F : Fr 122 a [(0, .slice (some adr) n cl), (2, .bool false), (3, .int .i64 ((i : Nat) : Int)), (4, .pointer (some ⟨g4, 0, none⟩)), (5, .pointer (some ⟨g5, 0, none⟩)), (20, .bool true), (55, .bool false)] := F.keep ⟨rfl, rfl, rfl, rfl, rfl, rfl, rfl, trivial⟩
    refine then_n ?_
    refine wp_cond_false (F.e rfl) ?_
    refine wp_skip ?_
    refine then_n ?_
    refine wp_seq ?_
    refine wp_region_lit ?_
    refine list_val F (wn rfl) rfl rfl (.agg ((wdCs sa ta ra).toArray)) (ex_load _ _ rfl _ (F.e rfl) _ (lvr (cs := wdCs sa ta ra) (by rw [wd_len hsa]; exact dr_row_42_18) (M.at (i := 1) rfl))) ?_; clear F a; intro a F
    refine list_do (wn rfl) (fun K hK => ?_)
    refine ow_call rfl rfl F 30 #[.agg ((wdCs sa ta ra).toArray)] (ex_call 30 _ _ rfl rfl dr_ent_30 _ (map1 (F.e rfl))) (first_any sa ta ra hsa (by omega) _) (fun e u hR => ?_)
    obtain ⟨A_57, c_57, he, O_n, hb⟩ := hR
    have R1 := R_.new hb M.bel.size O_n
    refine ⟨.slice A_57 ((fstB sa ta).length) c_57, he, ?_⟩; clear he F a; intro a F
    refine hK _ _ ?_
    clear hK K
    replace R_ := R_.below hb
    replace M := M.below hb; clear hb; try clear v
    replace R_ := R1; clear R1 O_n
    refine list_val F (wn rfl) rfl rfl (.slice A_57 ((fstB sa ta).length) c_57) (ex_assign _ rfl _ (F.e rfl)) ?_; clear F a; intro a F
    refine wpList_nil ?_
    replace F : Fr 122 a [(0, .slice (some adr) n cl), (2, .bool false), (3, .int .i64 ((i : Nat) : Int)), (4, .pointer (some ⟨g4, 0, none⟩)), (5, .pointer (some ⟨g5, 0, none⟩)), (6, .slice A_57 ((fstB sa ta).length) c_57), (20, .bool true), (55, .bool false)] := F.keep ⟨rfl, rfl, rfl, rfl, rfl, rfl, rfl, rfl, trivial⟩
    refine then_n ?_
    refine wp_seq ?_
    refine wp_region_lit ?_
    refine list_val F (wn rfl) rfl rfl (.agg ((wdCs sb tb rb).toArray)) (ex_load _ _ rfl _ (F.e rfl) _ (lvr (cs := wdCs sb tb rb) (by rw [wd_len hsb]; exact dr_row_42_18) (M.at (i := 0) rfl))) ?_; clear F a; intro a F
    refine list_do (wn rfl) (fun K hK => ?_)
    refine ow_call rfl rfl F 30 #[.agg ((wdCs sb tb rb).toArray)] (ex_call 30 _ _ rfl rfl dr_ent_30 _ (map1 (F.e rfl))) (first_any sb tb rb hsb (by omega) _) (fun e v hR => ?_)
    obtain ⟨A_59, c_59, he, O_n, hb⟩ := hR
    have R1 := R_.new hb M.bel.size O_n
    refine ⟨.slice A_59 ((fstB sb tb).length) c_59, he, ?_⟩; clear he F a; intro a F
    refine hK _ _ ?_
    clear hK K
    replace R_ := R_.below hb
    replace M := M.below hb; clear hb; try clear u
    replace R_ := R1; clear R1 O_n
    refine list_val F (wn rfl) rfl rfl (.slice A_59 ((fstB sb tb).length) c_59) (ex_assign _ rfl _ (F.e rfl)) ?_; clear F a; intro a F
    refine wpList_nil ?_
    replace F : Fr 122 a [(0, .slice (some adr) n cl), (2, .bool false), (3, .int .i64 ((i : Nat) : Int)), (4, .pointer (some ⟨g4, 0, none⟩)), (5, .pointer (some ⟨g5, 0, none⟩)), (6, .slice A_57 ((fstB sa ta).length) c_57), (7, .slice A_59 ((fstB sb tb).length) c_59), (20, .bool true), (55, .bool false)] := F.keep ⟨rfl, rfl, rfl, rfl, rfl, rfl, rfl, rfl, rfl, trivial⟩
    refine then_n ?_
    refine wp_seq ?_
    have hl1 := fst_len (t := ta) hsa; have hl2 := fst_len (t := tb) hsb
    refine wp_region_lit ?_
    refine list_val F (wn rfl) rfl rfl (.int .i64 1) (ex_assign _ rfl _ rfl) ?_; clear F a; intro a F
    refine wpList_nil ?_
    replace F : Fr 122 a [(0, .slice (some adr) n cl), (2, .bool false), (3, .int .i64 ((i : Nat) : Int)), (4, .pointer (some ⟨g4, 0, none⟩)), (5, .pointer (some ⟨g5, 0, none⟩)), (6, .slice A_57 ((fstB sa ta).length) c_57), (7, .slice A_59 ((fstB sb tb).length) c_59), (8, .int .i64 1), (20, .bool true), (55, .bool false)] := F.keep ⟨rfl, rfl, rfl, rfl, rfl, rfl, rfl, rfl, rfl, rfl, trivial⟩
    refine then_n ?_
    refine wp_block ?_
    refine wp_loopN (fun mq ar wr => ∃ (j : Nat), ∃ (x : List By), ∃ (y : List By), ∃ (A6 : Option Addr), ∃ (c6 : Nat), ∃ (A7 : Option Addr), ∃ (c7 : Nat), Fr 122 ar [(0, .slice (some adr) n cl), (2, .bool false), (3, .int .i64 ((i : Nat) : Int)), (4, .pointer (some ⟨g4, 0, none⟩)), (5, .pointer (some ⟨g5, 0, none⟩)), (6, .slice A6 x.length c6), (7, .slice A7 y.length c7), (8, .int .i64 ((j + 1 : Nat) : Int)), (20, .bool true), (55, .bool false)] ∧ Mm w wr [⟨g5, (wdCs sb tb rb).toArray, 42⟩, ⟨g4, (wdCs sa ta ra).toArray, 42⟩] ∧ Rs w wr [(.slice A6 x.length c6, x), (.slice A7 y.length c7, y)] ∧ j ≤ 5 ∧ sha x = passR sa (sha (fstB sa ta)) j ∧ sha y = passR sb (sha (fstB sb tb)) j ∧ x ≠ y ∧ x.length ≤ 5000 ∧ y.length ≤ 5000 ∧ mq + j = 5) 5 ?_ ?_
    ·
     exact ⟨0, (fstB sa ta), (fstB sb tb), A_57, c_57, A_59, c_59, F.keep ⟨rfl, rfl, rfl, rfl, rfl, rfl, rfl, rfl, rfl, rfl, trivial⟩, (by refine M.pick' [0, 1] _ ?_ (by decide); exact ⟨rfl, rfl, trivial⟩), (R_.pick [1, 0] [_, _] ⟨rfl, rfl, trivial⟩ (by decide)), (Nat.zero_le _), rfl, rfl, hxy, (by omega), (by omega), (by omega)⟩
    clear F M a R_
    rintro mq a u ⟨j, x, y, A6, c6, A7, c7, F, M, R_, hj5, hcx, hcy, hxy, hx5, hy5, hq⟩; try clear v
    by_cases hj5' : j < 5
    ·
     have hj4 : j ≤ 4 := by omega
     refine wp_seq ?_
     refine wp_seq ?_
     refine wp_region_lit ?_
     refine list_val F (wn rfl) rfl rfl (.int .i64 ((j + 1 : Nat) : Int)) (ex_move _ rfl _ (F.e rfl)) ?_; clear F a; intro a F
     refine list_val F (wn rfl) rfl rfl (.bool true) (ex_bin .leq _ _ _ _ rfl .i64 _ _ (F.e rfl) rfl _ (b_leq (decide_eq_true (by omega)))) ?_; clear F a; intro a F
     refine wpList_nil ?_
     replace F : Fr 122 a [(0, .slice (some adr) n cl), (2, .bool false), (3, .int .i64 ((i : Nat) : Int)), (4, .pointer (some ⟨g4, 0, none⟩)), (5, .pointer (some ⟨g5, 0, none⟩)), (6, .slice A6 x.length c6), (7, .slice A7 y.length c7), (8, .int .i64 ((j + 1 : Nat) : Int)), (20, .bool true), (55, .bool false), (61, .bool true)] := F.keep ⟨rfl, rfl, rfl, rfl, rfl, rfl, rfl, rfl, rfl, rfl, rfl, trivial⟩
     refine then_n ?_
     refine wp_cond_true (F.e rfl) ?_
     refine wp_skip ?_
     refine then_n ?_
     refine wp_seq ?_
     refine wp_block ?_
     refine wp_seq ?_
     refine wp_region_lit ?_
     refine list_val F (wn rfl) rfl rfl (.pointer (some ⟨g4, 0, none⟩)) (ex_fa _ _ _ rfl _ (F.e rfl) 0 dr_fa_42_0_0 ⟨g4, 0, none⟩ rfl) ?_; clear F a; intro a F
     refine list_val F (wn rfl) rfl rfl (.agg ((bcs sa).toArray)) (ex_load _ _ rfl _ (F.e rfl) _ (lvr (cs := bcs sa) (by rw [bcs_len, show _ = 16 from hsa]; exact dr_row_40_16) (wd_salt (M.at (i := 1) rfl)))) ?_; clear F a; intro a F
     refine list_val F (wn rfl) rfl rfl (.pointer (some ⟨g4, 16, none⟩)) (ex_fa _ _ _ rfl _ (F.e rfl) 16 dr_fa_42_1_16 ⟨g4, 16, none⟩ rfl) ?_; clear F a; intro a F
     refine list_val F (wn rfl) rfl rfl (.string (strB ta)) (ex_load _ _ rfl _ (F.e rfl) _ (lv1 dr_one_9 (M.cell (i := 1) rfl (j := 16) (wd_a16 hsa)))) ?_; clear F a; intro a F
     refine list_val F (wn rfl) rfl rfl (.int .i64 ((j + 1 : Nat) : Int)) (ex_move _ rfl _ (F.e rfl)) ?_; clear F a; intro a F
     refine list_do (wn rfl) (fun K hK => ?_)
     refine ow_call rfl rfl F 25 #[.agg ((bcs sa).toArray), .string (strB ta), .int .i64 ((j + 1 : Nat) : Int)] (ex_call 25 _ _ rfl rfl dr_ent_25 _ (map3 (F.e rfl) (F.e rfl) (F.e rfl))) (pass_any sa ta hsa (by simp only [maxLen]; omega) ((j + 1 : Nat) : Int) _ (hKt.below M.bel)) (fun e v hR => ?_)
     obtain ⟨he, hb⟩ := hR
     rw [passF_fst hj4, ← hcx] at he
     refine ⟨.tuple #[.agg ((bcs (sha x)).toArray), .int .i64 0], he, ?_⟩; clear he F a; intro a F
     refine hK _ _ ?_
     clear hK K
     replace R_ := R_.below hb
     replace M := M.below hb; clear hb; try clear u
     refine list_val F (wn rfl) rfl rfl (.tuple #[.agg ((bcs (sha x)).toArray), .int .i64 0]) (ex_move _ rfl _ (F.e rfl)) ?_; clear F a; intro a F
     refine list_val F (wn rfl) rfl rfl (.agg ((bcs (sha x)).toArray)) (ex_extract _ _ rfl _ (F.e rfl) _ rfl) ?_; clear F a; intro a F
     refine list_val F (wn rfl) rfl rfl (.int .i64 0) (ex_extract _ _ rfl _ (F.e rfl) _ rfl) ?_; clear F a; intro a F
     refine list_do (wn rfl) (fun K hK => ?_)
     refine ow_alloc F M rfl rfl 24 rfl (.agg (bcs (List.replicate 32 0)).toArray) z24 ((bcs (List.replicate 32 0)).toArray) rfl ?_
     clear F M a; intro a g9 u F M hb hg
     refine hK _ _ ?_
     clear hK K
     replace R_ := R_.below hb
     clear hb hg; try clear v
     refine list_do (wn rfl) (fun K hK => ?_)
     refine ow_put F M rfl 24 _ _ rfl 0 _ ((bcs (List.replicate 32 0)).toArray) _ rfl (F.e rfl) ((bcs (sha x)).toArray) (F.e rfl) (sz24 (sha_len _)) (sz_eqb 32 rfl (sha_len _)) (all_oneCell_toArray (bcs_one _)) ?_
     clear F a; have Mo := M; clear M; intro a v F M hgr
     refine hK _ _ ?_
     clear hK K
     replace R_ := R_.box (Mo.blk 0 _ rfl) (by show 5 ≠ 24; decide) hgr
     clear Mo hgr; try clear u
     replace M : Mm w v [⟨g9, (bcs (sha x)).toArray, 24⟩, ⟨g5, (wdCs sb tb rb).toArray, 42⟩, ⟨g4, (wdCs sa ta ra).toArray, 42⟩] := M
     refine list_val F (wn rfl) rfl rfl (.int .i64 0) (ex_assign _ rfl _ (F.e rfl)) ?_; clear F a; intro a F
     refine wpList_nil ?_
     replace F : Fr 122 a [(0, .slice (some adr) n cl), (2, .bool false), (3, .int .i64 ((i : Nat) : Int)), (4, .pointer (some ⟨g4, 0, none⟩)), (5, .pointer (some ⟨g5, 0, none⟩)), (6, .slice A6 x.length c6), (7, .slice A7 y.length c7), (8, .int .i64 ((j + 1 : Nat) : Int)), (9, .pointer (some ⟨g9, 0, none⟩)), (10, .int .i64 0), (20, .bool true), (55, .bool false), (61, .bool true)] := F.keep ⟨rfl, rfl, rfl, rfl, rfl, rfl, rfl, rfl, rfl, rfl, rfl, rfl, rfl, trivial⟩
     refine then_n ?_
     refine wp_seq ?_
     refine wp_region_lit ?_
     refine list_val F (wn rfl) rfl rfl (.pointer (some ⟨g5, 0, none⟩)) (ex_fa _ _ _ rfl _ (F.e rfl) 0 dr_fa_42_0_0 ⟨g5, 0, none⟩ rfl) ?_; clear F a; intro a F
     refine list_val F (wn rfl) rfl rfl (.agg ((bcs sb).toArray)) (ex_load _ _ rfl _ (F.e rfl) _ (lvr (cs := bcs sb) (by rw [bcs_len, show _ = 16 from hsb]; exact dr_row_40_16) (wd_salt (M.at (i := 1) rfl)))) ?_; clear F a; intro a F
     refine list_val F (wn rfl) rfl rfl (.pointer (some ⟨g5, 16, none⟩)) (ex_fa _ _ _ rfl _ (F.e rfl) 16 dr_fa_42_1_16 ⟨g5, 16, none⟩ rfl) ?_; clear F a; intro a F
     refine list_val F (wn rfl) rfl rfl (.string (strB tb)) (ex_load _ _ rfl _ (F.e rfl) _ (lv1 dr_one_9 (M.cell (i := 1) rfl (j := 16) (wd_a16 hsb)))) ?_; clear F a; intro a F
     refine list_val F (wn rfl) rfl rfl (.int .i64 ((j + 1 : Nat) : Int)) (ex_move _ rfl _ (F.e rfl)) ?_; clear F a; intro a F
     refine list_do (wn rfl) (fun K hK => ?_)
     refine ow_call rfl rfl F 25 #[.agg ((bcs sb).toArray), .string (strB tb), .int .i64 ((j + 1 : Nat) : Int)] (ex_call 25 _ _ rfl rfl dr_ent_25 _ (map3 (F.e rfl) (F.e rfl) (F.e rfl))) (pass_any sb tb hsb (by simp only [maxLen]; omega) ((j + 1 : Nat) : Int) _ (hKt.below M.bel)) (fun e u hR => ?_)
     obtain ⟨he, hb⟩ := hR
     rw [passF_fst hj4, ← hcy] at he
     refine ⟨.tuple #[.agg ((bcs (sha y)).toArray), .int .i64 0], he, ?_⟩; clear he F a; intro a F
     refine hK _ _ ?_
     clear hK K
     replace R_ := R_.below hb
     replace M := M.below hb; clear hb; try clear v
     refine list_val F (wn rfl) rfl rfl (.tuple #[.agg ((bcs (sha y)).toArray), .int .i64 0]) (ex_move _ rfl _ (F.e rfl)) ?_; clear F a; intro a F
     refine list_val F (wn rfl) rfl rfl (.agg ((bcs (sha y)).toArray)) (ex_extract _ _ rfl _ (F.e rfl) _ rfl) ?_; clear F a; intro a F
     refine list_val F (wn rfl) rfl rfl (.int .i64 0) (ex_extract _ _ rfl _ (F.e rfl) _ rfl) ?_; clear F a; intro a F
     refine list_do (wn rfl) (fun K hK => ?_)
     refine ow_alloc F M rfl rfl 24 rfl (.agg (bcs (List.replicate 32 0)).toArray) z24 ((bcs (List.replicate 32 0)).toArray) rfl ?_
     clear F M a; intro a g11 v F M hb hg
     refine hK _ _ ?_
     clear hK K
     replace R_ := R_.below hb
     clear hb hg; try clear u
     refine list_do (wn rfl) (fun K hK => ?_)
     refine ow_put F M rfl 24 _ _ rfl 0 _ ((bcs (List.replicate 32 0)).toArray) _ rfl (F.e rfl) ((bcs (sha y)).toArray) (F.e rfl) (sz24 (sha_len _)) (sz_eqb 32 rfl (sha_len _)) (all_oneCell_toArray (bcs_one _)) ?_
     clear F a; have Mo := M; clear M; intro a u F M hgr
     refine hK _ _ ?_
     clear hK K
     replace R_ := R_.box (Mo.blk 0 _ rfl) (by show 5 ≠ 24; decide) hgr
     clear Mo hgr; try clear v
     replace M : Mm w u [⟨g11, (bcs (sha y)).toArray, 24⟩, ⟨g9, (bcs (sha x)).toArray, 24⟩, ⟨g5, (wdCs sb tb rb).toArray, 42⟩, ⟨g4, (wdCs sa ta ra).toArray, 42⟩] := M
     refine list_val F (wn rfl) rfl rfl (.int .i64 0) (ex_assign _ rfl _ (F.e rfl)) ?_; clear F a; intro a F
     refine wpList_nil ?_
     replace F : Fr 122 a [(0, .slice (some adr) n cl), (2, .bool false), (3, .int .i64 ((i : Nat) : Int)), (4, .pointer (some ⟨g4, 0, none⟩)), (5, .pointer (some ⟨g5, 0, none⟩)), (6, .slice A6 x.length c6), (7, .slice A7 y.length c7), (8, .int .i64 ((j + 1 : Nat) : Int)), (9, .pointer (some ⟨g9, 0, none⟩)), (10, .int .i64 0), (11, .pointer (some ⟨g11, 0, none⟩)), (12, .int .i64 0), (20, .bool true), (55, .bool false), (61, .bool true)] := F.keep ⟨rfl, rfl, rfl, rfl, rfl, rfl, rfl, rfl, rfl, rfl, rfl, rfl, rfl, rfl, rfl, trivial⟩
     refine then_n ?_
     refine wp_seq ?_
     refine wp_seq ?_
     refine wp_only (fun ar wr => ∃ (A_93 : Option Addr), ∃ (c_93 : Nat), ∃ (A_100 : Option Addr), ∃ (c_100 : Nat), Fr 122 ar [(0, .slice (some adr) n cl), (2, .bool false), (3, .int .i64 ((i : Nat) : Int)), (4, .pointer (some ⟨g4, 0, none⟩)), (5, .pointer (some ⟨g5, 0, none⟩)), (6, .slice A6 x.length c6), (7, .slice A7 y.length c7), (8, .int .i64 ((j + 1 : Nat) : Int)), (9, .pointer (some ⟨g9, 0, none⟩)), (10, .int .i64 0), (11, .pointer (some ⟨g11, 0, none⟩)), (12, .int .i64 0), (20, .bool true), (55, .bool false), (61, .bool true), (103, .bool false)] ∧ Mm w wr [⟨g11, (bcs (sha y)).toArray, 24⟩, ⟨g9, (bcs (sha x)).toArray, 24⟩, ⟨g5, (wdCs sb tb rb).toArray, 42⟩, ⟨g4, (wdCs sa ta ra).toArray, 42⟩] ∧ Rs w wr [(.slice A_100 y.length c_100, y), (.slice A_93 x.length c_93, x), (.slice A6 x.length c6, x), (.slice A7 y.length c7, y)]) ?_ ?_
     ·
      refine region_anyM dr_follows_mixedOrders M [⟨g9, (bcs (sha x)).toArray, 24⟩, ⟨g11, (bcs (sha y)).toArray, 24⟩] (fun w' M => (by refine M.pick' [1, 0] _ ?_ (by decide); exact ⟨rfl, rfl, trivial⟩)) ?_; clear M; intro wD M hb
      replace R_ := R_.below hb
      clear hb; try clear u
      have hS : Mm w wD [⟨g9, (bcs (sha x)).toArray, 24⟩, ⟨g11, (bcs (sha y)).toArray, 24⟩] := (by refine M.pick' [1, 0] _ ?_ (by decide); exact ⟨rfl, rfl, trivial⟩)
      refine any_val F 0 rfl (by kernel_rfl) (wn rfl) rfl rfl (.int .i64 0) (fun w' hS' => ex_move _ rfl _ (F.e rfl)) hS ?_; clear F a; intro a F
      refine any_ready [1] (by kernel_rfl) (by simp) ?_
      refine ready_do rfl (wn rfl) (fun K hK => ?_) AllReadyH.nil
      refine ow_call rfl rfl F 26 #[.int .i64 0] (ex_call 26 _ _ rfl rfl dr_ent_26 _ (map1 (F.e rfl))) (num_any _ _) (fun e v hR => ?_)
      obtain ⟨he, hw⟩ := hR
      refine ⟨.int .i64 0, he, ?_⟩; clear he F a; intro a F
      replace hw := hw.symm; subst hw
      replace hS : Mm w wD [⟨g9, (bcs (sha x)).toArray, 24⟩, ⟨g11, (bcs (sha y)).toArray, 24⟩] := (by refine M.pick' [1, 0] _ ?_ (by decide); exact ⟨rfl, rfl, trivial⟩)
      refine hK _ _ hS ?_
      clear hK K
      refine any_val F 2 rfl (by kernel_rfl) (wn rfl) rfl rfl (.bool false) (fun w' hS' => ex_bin .neq _ _ _ _ rfl .i64 _ _ (F.e rfl) rfl _ (b_neq (by decide))) hS ?_; clear F a; intro a F
      refine any_val F 3 rfl (by kernel_rfl) (wn rfl) rfl rfl (.bool false) (fun w' hS' => ex_move _ rfl _ (F.e rfl)) hS ?_; clear F a; intro a F
      refine any_val F 4 rfl (by kernel_rfl) (F.wants 85 false rfl (by kernel_rfl) rfl true rfl) rfl rfl (.int .i64 0) (fun w' hS' => ex_move _ rfl _ (F.e rfl)) hS ?_; clear F a; intro a F
      refine any_ready [5] (by kernel_rfl) (by simp) ?_
      refine ready_do rfl (F.wants 85 false rfl (by kernel_rfl) rfl true rfl) (fun K hK => ?_) AllReadyH.nil
      refine ow_call rfl rfl F 26 #[.int .i64 0] (ex_call 26 _ _ rfl rfl dr_ent_26 _ (map1 (F.e rfl))) (num_any _ _) (fun e v hR => ?_)
      obtain ⟨he, hw⟩ := hR
      refine ⟨.int .i64 0, he, ?_⟩; clear he F a; intro a F
      replace hw := hw.symm; subst hw
      replace hS : Mm w wD [⟨g9, (bcs (sha x)).toArray, 24⟩, ⟨g11, (bcs (sha y)).toArray, 24⟩] := (by refine M.pick' [1, 0] _ ?_ (by decide); exact ⟨rfl, rfl, trivial⟩)
      refine hK _ _ hS ?_
      clear hK K
      refine any_val F 6 rfl (by kernel_rfl) (F.wants 85 false rfl (by kernel_rfl) rfl true rfl) rfl rfl (.bool false) (fun w' hS' => ex_bin .neq _ _ _ _ rfl .i64 _ _ (F.e rfl) rfl _ (b_neq (by decide))) hS ?_; clear F a; intro a F
      refine any_val F 7 rfl (by kernel_rfl) (wn rfl) rfl rfl (.bool false) (fun w' hS' => ex_pick_f _ _ _ rfl (F.e rfl) _ (F.e rfl)) hS ?_; clear F a; intro a F
      refine any_val F 8 rfl (by kernel_rfl) (wn rfl) rfl rfl (.bool false) (fun w' hS' => ex_move _ rfl _ (F.e rfl)) hS ?_; clear F a; intro a F
      refine any_val F 9 rfl (by kernel_rfl) (F.wants 90 false rfl (by kernel_rfl) rfl true rfl) rfl rfl (.agg ((bcs (sha x)).toArray)) (fun w' hS' => ex_load _ _ rfl _ (F.e rfl) _ (lvr (cs := bcs (sha x)) (by rw [bcs_len, show _ = 32 from (sha_len _)]; exact dr_row_24_32) (hS'.at (i := 0) rfl))) hS ?_; clear F a; intro a F
      refine any_val F 10 rfl (by kernel_rfl) (F.wants 90 false rfl (by kernel_rfl) rfl true rfl) rfl rfl (.slice A6 x.length c6) (fun w' hS' => ex_move _ rfl _ (F.e rfl)) hS ?_; clear F a; intro a F
      refine any_ready [11] (by kernel_rfl) (by simp) ?_
      refine ready_do rfl (F.wants 90 false rfl (by kernel_rfl) rfl true rfl) (fun K hK => ?_) AllReadyH.nil
      refine ow_call rfl rfl F 27 #[.slice A6 x.length c6] (ex_call 27 _ _ rfl rfl dr_ent_27 _ (map1 (F.e rfl))) (copy_any x _ x.length c6 (by omega) _ (R_.rb (i := 0) rfl)) (fun e v hR => ?_)
      obtain ⟨A_93, c_93, he, O_n, hb⟩ := hR
      have R1 := R_.new hb M.bel.size O_n
      refine ⟨.slice A_93 x.length c_93, he, ?_⟩; clear he F a; intro a F
      replace hS : Mm w v [⟨g9, (bcs (sha x)).toArray, 24⟩, ⟨g11, (bcs (sha y)).toArray, 24⟩] := (by refine (M.below hb).pick' [1, 0] _ ?_ (by decide); exact ⟨rfl, rfl, trivial⟩)
      refine hK _ _ hS ?_
      clear hK K
      replace R_ := R_.below hb
      replace M := M.below hb; clear hb; try clear wD
      replace R_ := R1; clear R1 O_n
      refine any_ready [12] (by kernel_rfl) (by simp) ?_
      refine ready_do rfl (F.wants 90 false rfl (by kernel_rfl) rfl true rfl) (fun K hK => ?_) AllReadyH.nil
      refine ow_call rfl rfl F 15 #[.slice A_93 x.length c_93] (ex_call 15 _ _ rfl rfl dr_ent_15 _ (map1 (F.e rfl))) (sum_bytes x _ x.length c_93 _ (hKt.below M.bel) (R_.rb (i := 0) rfl) (R_.cap (i := 0) rfl)) (fun e u hR => ?_)
      obtain ⟨he, hb⟩ := hR
      refine ⟨.agg ((bcs (sha x)).toArray), he, ?_⟩; clear he F a; intro a F
      replace hS : Mm w u [⟨g9, (bcs (sha x)).toArray, 24⟩, ⟨g11, (bcs (sha y)).toArray, 24⟩] := (by refine (M.below hb).pick' [1, 0] _ ?_ (by decide); exact ⟨rfl, rfl, trivial⟩)
      refine hK _ _ hS ?_
      clear hK K
      replace R_ := R_.below hb
      replace M := M.below hb; clear hb; try clear v
      refine any_val F 13 rfl (by kernel_rfl) (F.wants 90 false rfl (by kernel_rfl) rfl true rfl) rfl rfl (.bool false) (fun w' hS' => ex_neqA 24 _ _ _ rfl 32 dr_ab_24_32 (sha x) (sha x) (sha_len _) (sha_len _) (F.e rfl) (F.e rfl) false (not_self _)) hS ?_; clear F a; intro a F
      refine any_val F 14 rfl (by kernel_rfl) (wn rfl) rfl rfl (.bool false) (fun w' hS' => ex_pick_f _ _ _ rfl (F.e rfl) _ (F.e rfl)) hS ?_; clear F a; intro a F
      refine any_val F 15 rfl (by kernel_rfl) (wn rfl) rfl rfl (.bool false) (fun w' hS' => ex_move _ rfl _ (F.e rfl)) hS ?_; clear F a; intro a F
      refine any_val F 16 rfl (by kernel_rfl) (F.wants 97 false rfl (by kernel_rfl) rfl true rfl) rfl rfl (.agg ((bcs (sha y)).toArray)) (fun w' hS' => ex_load _ _ rfl _ (F.e rfl) _ (lvr (cs := bcs (sha y)) (by rw [bcs_len, show _ = 32 from (sha_len _)]; exact dr_row_24_32) (hS'.at (i := 1) rfl))) hS ?_; clear F a; intro a F
      refine any_val F 17 rfl (by kernel_rfl) (F.wants 97 false rfl (by kernel_rfl) rfl true rfl) rfl rfl (.slice A7 y.length c7) (fun w' hS' => ex_move _ rfl _ (F.e rfl)) hS ?_; clear F a; intro a F
      refine any_ready [18] (by kernel_rfl) (by simp) ?_
      refine ready_do rfl (F.wants 97 false rfl (by kernel_rfl) rfl true rfl) (fun K hK => ?_) AllReadyH.nil
      refine ow_call rfl rfl F 27 #[.slice A7 y.length c7] (ex_call 27 _ _ rfl rfl dr_ent_27 _ (map1 (F.e rfl))) (copy_any y _ y.length c7 (by omega) _ (R_.rb (i := 2) rfl)) (fun e v hR => ?_)
      obtain ⟨A_100, c_100, he, O_n, hb⟩ := hR
      have R1 := R_.new hb M.bel.size O_n
      refine ⟨.slice A_100 y.length c_100, he, ?_⟩; clear he F a; intro a F
      replace hS : Mm w v [⟨g9, (bcs (sha x)).toArray, 24⟩, ⟨g11, (bcs (sha y)).toArray, 24⟩] := (by refine (M.below hb).pick' [1, 0] _ ?_ (by decide); exact ⟨rfl, rfl, trivial⟩)
      refine hK _ _ hS ?_
      clear hK K
      replace R_ := R_.below hb
      replace M := M.below hb; clear hb; try clear u
      replace R_ := R1; clear R1 O_n
      refine any_ready [19] (by kernel_rfl) (by simp) ?_
      refine ready_do rfl (F.wants 97 false rfl (by kernel_rfl) rfl true rfl) (fun K hK => ?_) AllReadyH.nil
      refine ow_call rfl rfl F 15 #[.slice A_100 y.length c_100] (ex_call 15 _ _ rfl rfl dr_ent_15 _ (map1 (F.e rfl))) (sum_bytes y _ y.length c_100 _ (hKt.below M.bel) (R_.rb (i := 0) rfl) (R_.cap (i := 0) rfl)) (fun e u hR => ?_)
      obtain ⟨he, hb⟩ := hR
      refine ⟨.agg ((bcs (sha y)).toArray), he, ?_⟩; clear he F a; intro a F
      replace hS : Mm w u [⟨g9, (bcs (sha x)).toArray, 24⟩, ⟨g11, (bcs (sha y)).toArray, 24⟩] := (by refine (M.below hb).pick' [1, 0] _ ?_ (by decide); exact ⟨rfl, rfl, trivial⟩)
      refine hK _ _ hS ?_
      clear hK K
      replace R_ := R_.below hb
      replace M := M.below hb; clear hb; try clear v
      refine any_val F 20 rfl (by kernel_rfl) (F.wants 97 false rfl (by kernel_rfl) rfl true rfl) rfl rfl (.bool false) (fun w' hS' => ex_neqA 24 _ _ _ rfl 32 dr_ab_24_32 (sha y) (sha y) (sha_len _) (sha_len _) (F.e rfl) (F.e rfl) false (not_self _)) hS ?_; clear F a; intro a F
      refine any_val F 21 rfl (by kernel_rfl) (wn rfl) rfl rfl (.bool false) (fun w' hS' => ex_pick_f _ _ _ rfl (F.e rfl) _ (F.e rfl)) hS ?_; clear F a; intro a F
      refine any_done (by kernel_rfl) ?_
      exact ⟨A_93, c_93, A_100, c_100, F.keep ⟨rfl, rfl, rfl, rfl, rfl, rfl, rfl, rfl, rfl, rfl, rfl, rfl, rfl, rfl, rfl, rfl, trivial⟩, (by refine M.pick' [0, 1, 2, 3] _ ?_ (by decide); exact ⟨rfl, rfl, rfl, rfl, trivial⟩), R_⟩
     clear F M a R_
     intro a v hR; obtain ⟨A_93, c_93, A_100, c_100, F, M, R_⟩ := hR; try clear u
     refine then_n ?_
     refine wp_cond_false (F.e rfl) ?_
     refine wp_skip ?_
     refine then_n ?_
     refine wp_seq ?_
     refine wp_seq ?_
     by_cases hcd : sha x = sha y
     ·
      refine wp_region_lit ?_
      refine list_val F (wn rfl) rfl rfl (.agg ((bcs (sha x)).toArray)) (ex_load _ _ rfl _ (F.e rfl) _ (lvr (cs := bcs (sha x)) (by rw [bcs_len, show _ = 32 from (sha_len _)]; exact dr_row_24_32) (M.at (i := 1) rfl))) ?_; clear F a; intro a F
      refine list_val F (wn rfl) rfl rfl (.agg ((bcs (sha y)).toArray)) (ex_load _ _ rfl _ (F.e rfl) _ (lvr (cs := bcs (sha y)) (by rw [bcs_len, show _ = 32 from (sha_len _)]; exact dr_row_24_32) (M.at (i := 0) rfl))) ?_; clear F a; intro a F
      refine list_val F (wn rfl) rfl rfl (.bool true) (ex_eqlA 24 _ _ _ rfl 32 dr_ab_24_32 (sha x) (sha y) (sha_len _) (sha_len _) (F.e rfl) (F.e rfl) true (decide_eq_true hcd)) ?_; clear F a; intro a F
      refine wpList_nil ?_
      replace F : Fr 122 a [(0, .slice (some adr) n cl), (2, .bool false), (3, .int .i64 ((i : Nat) : Int)), (4, .pointer (some ⟨g4, 0, none⟩)), (5, .pointer (some ⟨g5, 0, none⟩)), (6, .slice A6 x.length c6), (7, .slice A7 y.length c7), (8, .int .i64 ((j + 1 : Nat) : Int)), (9, .pointer (some ⟨g9, 0, none⟩)), (10, .int .i64 0), (11, .pointer (some ⟨g11, 0, none⟩)), (12, .int .i64 0), (20, .bool true), (55, .bool false), (61, .bool true), (103, .bool false), (106, .bool true)] := F.keep ⟨rfl, rfl, rfl, rfl, rfl, rfl, rfl, rfl, rfl, rfl, rfl, rfl, rfl, rfl, rfl, rfl, rfl, trivial⟩
      refine then_n ?_
      refine wp_cond_true (F.e rfl) ?_
      refine wp_seq ?_
      refine wp_seq ?_
      refine wp_region_lit ?_
      refine list_val F (wn rfl) rfl rfl (.slice A6 x.length c6) (ex_move _ rfl _ (F.e rfl)) ?_; clear F a; intro a F
      refine list_val F (wn rfl) rfl rfl (.slice A7 y.length c7) (ex_move _ rfl _ (F.e rfl)) ?_; clear F a; intro a F
      refine list_do (wn rfl) (fun K hK => ?_)
      refine ow_call rfl rfl F 22 #[.slice A6 x.length c6, .slice A7 y.length c7] (ex_call 22 _ _ rfl rfl dr_ent_22 _ (map2 (F.e rfl) (F.e rfl))) (eq_any x y _ _ x.length c6 y.length c7 _ (R_.rb (i := 2) rfl) (R_.rb (i := 3) rfl)) (fun e u hR => ?_)
      obtain ⟨he, hb⟩ := hR
      rw [decide_eq_false hxy] at he
      refine ⟨.bool false, he, ?_⟩; clear he F a; intro a F
      refine hK _ _ ?_
      clear hK K
      replace R_ := R_.below hb
      replace M := M.below hb; clear hb; try clear v
      refine wpList_nil ?_
      replace F : Fr 122 a [(0, .slice (some adr) n cl), (2, .bool false), (3, .int .i64 ((i : Nat) : Int)), (4, .pointer (some ⟨g4, 0, none⟩)), (5, .pointer (some ⟨g5, 0, none⟩)), (6, .slice A6 x.length c6), (7, .slice A7 y.length c7), (8, .int .i64 ((j + 1 : Nat) : Int)), (9, .pointer (some ⟨g9, 0, none⟩)), (10, .int .i64 0), (11, .pointer (some ⟨g11, 0, none⟩)), (12, .int .i64 0), (20, .bool true), (55, .bool false), (61, .bool true), (103, .bool false), (106, .bool true), (109, .bool false)] := F.keep ⟨rfl, rfl, rfl, rfl, rfl, rfl, rfl, rfl, rfl, rfl, rfl, rfl, rfl, rfl, rfl, rfl, rfl, rfl, trivial⟩
      refine then_n ?_
      refine wp_cond_false (F.e rfl) ?_
      refine wp_skip ?_
      refine then_n ?_
      refine wp_seq ?_
      refine wp_region_lit ?_
      refine list_do (wn rfl) (fun K hK => ?_)
      refine ow_call rfl rfl F 19 #[] (ex_call 19 _ _ rfl rfl dr_ent_19 _ (map0)) (wakes_any _ (hKt.below M.bel)) (fun e v hR => ?_)
      obtain ⟨he, hb⟩ := hR
      refine ⟨.bool true, he, ?_⟩; clear he F a; intro a F
      refine hK _ _ ?_
      clear hK K
      replace R_ := R_.below hb
      replace M := M.below hb; clear hb; try clear u
      refine list_val F (wn rfl) rfl rfl (.bool true) (ex_assign _ rfl _ (F.e rfl)) ?_; clear F a; intro a F
      refine wpList_nil ?_
      replace F : Fr 122 a [(0, .slice (some adr) n cl), (2, .bool true), (3, .int .i64 ((i : Nat) : Int)), (4, .pointer (some ⟨g4, 0, none⟩)), (5, .pointer (some ⟨g5, 0, none⟩)), (6, .slice A6 x.length c6), (7, .slice A7 y.length c7), (8, .int .i64 ((j + 1 : Nat) : Int)), (9, .pointer (some ⟨g9, 0, none⟩)), (10, .int .i64 0), (11, .pointer (some ⟨g11, 0, none⟩)), (12, .int .i64 0), (20, .bool true), (55, .bool false), (61, .bool true), (103, .bool false), (106, .bool true), (109, .bool false)] := F.keep ⟨rfl, rfl, rfl, rfl, rfl, rfl, rfl, rfl, rfl, rfl, rfl, rfl, rfl, rfl, rfl, rfl, rfl, rfl, trivial⟩
      refine then_n ?_
      refine wp_ret ?_
      refine then_r ?_
      refine in_r ?_
      refine then_r ?_
      refine then_r ?_
      refine in_r ?_
      refine in_r ?_
      refine then_r ?_
      refine then_r ?_
      refine in_r ?_
      refine then_r ?_
      exact ret_tmp F rfl rfl ⟨rfl, M.bel⟩
     refine wp_region_lit ?_
     refine list_val F (wn rfl) rfl rfl (.agg ((bcs (sha x)).toArray)) (ex_load _ _ rfl _ (F.e rfl) _ (lvr (cs := bcs (sha x)) (by rw [bcs_len, show _ = 32 from (sha_len _)]; exact dr_row_24_32) (M.at (i := 1) rfl))) ?_; clear F a; intro a F
     refine list_val F (wn rfl) rfl rfl (.agg ((bcs (sha y)).toArray)) (ex_load _ _ rfl _ (F.e rfl) _ (lvr (cs := bcs (sha y)) (by rw [bcs_len, show _ = 32 from (sha_len _)]; exact dr_row_24_32) (M.at (i := 0) rfl))) ?_; clear F a; intro a F
     refine list_val F (wn rfl) rfl rfl (.bool false) (ex_eqlA 24 _ _ _ rfl 32 dr_ab_24_32 (sha x) (sha y) (sha_len _) (sha_len _) (F.e rfl) (F.e rfl) false (decide_eq_false hcd)) ?_; clear F a; intro a F
     refine wpList_nil ?_
     replace F : Fr 122 a [(0, .slice (some adr) n cl), (2, .bool false), (3, .int .i64 ((i : Nat) : Int)), (4, .pointer (some ⟨g4, 0, none⟩)), (5, .pointer (some ⟨g5, 0, none⟩)), (6, .slice A6 x.length c6), (7, .slice A7 y.length c7), (8, .int .i64 ((j + 1 : Nat) : Int)), (9, .pointer (some ⟨g9, 0, none⟩)), (10, .int .i64 0), (11, .pointer (some ⟨g11, 0, none⟩)), (12, .int .i64 0), (20, .bool true), (55, .bool false), (61, .bool true), (103, .bool false), (106, .bool false)] := F.keep ⟨rfl, rfl, rfl, rfl, rfl, rfl, rfl, rfl, rfl, rfl, rfl, rfl, rfl, rfl, rfl, rfl, rfl, trivial⟩
     refine then_n ?_
     refine wp_cond_false (F.e rfl) ?_
     refine wp_skip ?_
     refine then_n ?_
     refine wp_seq ?_
     have hlx := sha_len x; have hly := sha_len y
     refine wp_only (fun ar wr => ∃ (A_112 : Option Addr), ∃ (c_112 : Nat), ∃ (A_115 : Option Addr), ∃ (c_115 : Nat), Fr 122 ar [(0, .slice (some adr) n cl), (2, .bool false), (3, .int .i64 ((i : Nat) : Int)), (4, .pointer (some ⟨g4, 0, none⟩)), (5, .pointer (some ⟨g5, 0, none⟩)), (6, .slice A_115 (((sha x) ++ sa).length) c_115), (7, .slice A7 y.length c7), (8, .int .i64 ((j + 1 : Nat) : Int)), (9, .pointer (some ⟨g9, 0, none⟩)), (10, .int .i64 0), (11, .pointer (some ⟨g11, 0, none⟩)), (12, .int .i64 0), (20, .bool true), (55, .bool false), (61, .bool true), (103, .bool false), (106, .bool false)] ∧ Mm w wr [⟨g11, (bcs (sha y)).toArray, 24⟩, ⟨g9, (bcs (sha x)).toArray, 24⟩, ⟨g5, (wdCs sb tb rb).toArray, 42⟩, ⟨g4, (wdCs sa ta ra).toArray, 42⟩] ∧ Rs w wr [(.slice A_115 (((sha x) ++ sa).length) c_115, ((sha x) ++ sa)), (.slice A_100 y.length c_100, y), (.slice A_93 x.length c_93, x), (.slice A6 x.length c6, x), (.slice A7 y.length c7, y)]) ?_ ?_
     ·
      refine region_anyM dr_follows_mixedOrders M [] (fun w' M => (by refine M.pick' [] _ ?_ (by decide); exact trivial)) ?_; clear M; intro wD M hb
      replace R_ := R_.below hb
      clear hb; try clear v
      have hS : Mm w wD [] := (by refine M.pick' [] _ ?_ (by decide); exact trivial)
      refine any_val F 0 rfl (by kernel_rfl) (wn rfl) rfl rfl (.slice (some ⟨g9, 0, none⟩) 32 32) (fun w' hS' => ex_all 24 _ rfl 32 dr_sa_24_32 ⟨g9, 0, none⟩ (F.e rfl)) hS ?_; clear F a; intro a F
      refine any_val F 2 rfl (by kernel_rfl) (wn rfl) rfl rfl (.pointer (some ⟨g4, 0, none⟩)) (fun w' hS' => ex_fa _ _ _ rfl _ (F.e rfl) 0 dr_fa_42_0_0 ⟨g4, 0, none⟩ rfl) hS ?_; clear F a; intro a F
      refine any_val F 3 rfl (by kernel_rfl) (wn rfl) rfl rfl (.slice (some ⟨g4, 0, none⟩) 16 16) (fun w' hS' => ex_all 40 _ rfl 16 dr_sa_40_16 ⟨g4, 0, none⟩ (F.e rfl)) hS ?_; clear F a; intro a F
      refine any_ready [1] (by kernel_rfl) (by simp) ?_
      refine ready_do rfl (wn rfl) (fun K hK => ?_) AllReadyH.nil
      refine ow_call rfl rfl F 27 #[.slice (some ⟨g9, 0, none⟩) 32 32] (ex_call 27 _ _ rfl rfl dr_ent_27 _ (map1 (F.e rfl))) (copy_any (sha x) _ 32 32 (by omega) _ (Rb.mk' (M.at (i := 1) rfl) (sha_len _) (by decide))) (fun e v hR => ?_)
      obtain ⟨A_112, c_112, he, O_n, hb⟩ := hR
      have R1 := R_.new hb M.bel.size O_n
      refine ⟨.slice A_112 ((sha x).length) c_112, he, ?_⟩; clear he F a; intro a F
      replace hS : Mm w v [] := (by refine (M.below hb).pick' [] _ ?_ (by decide); exact trivial)
      refine hK _ _ hS ?_
      clear hK K
      replace R_ := R_.below hb
      replace M := M.below hb; clear hb; try clear wD
      replace R_ := R1; clear R1 O_n
      refine any_ready [4] (by kernel_rfl) (by simp) ?_
      refine ready_do rfl (wn rfl) (fun K hK => ?_) AllReadyH.nil
      refine ow_appR F M R_ rfl rfl rfl rfl _ _ rfl 0 A_112 ((sha x).length) c_112 (sha x) sa ((sha x) ++ sa) rfl rfl (some ⟨g4, 0, none⟩) 16 16 (F.e rfl) (F.e rfl) (Rb.mk' (wd_salt (M.at (i := 3) rfl)) hsa (by decide)) (by omega) ?_
      clear F M R_; intro a A_115 c_115 u F M R_
      replace hS : Mm w u [] := (by refine M.pick' [] _ ?_ (by decide); exact trivial)
      refine hK _ _ hS ?_
      clear hK K
      try clear v
      refine any_val F 5 rfl (by kernel_rfl) (wn rfl) rfl rfl (.slice A_115 (((sha x) ++ sa).length) c_115) (fun w' hS' => ex_assign _ rfl _ (F.e rfl)) hS ?_; clear F a; intro a F
      refine any_done (by kernel_rfl) ?_
      exact ⟨A_112, c_112, A_115, c_115, F.keep ⟨rfl, rfl, rfl, rfl, rfl, rfl, rfl, rfl, rfl, rfl, rfl, rfl, rfl, rfl, rfl, rfl, rfl, trivial⟩, (by refine M.pick' [0, 1, 2, 3] _ ?_ (by decide); exact ⟨rfl, rfl, rfl, rfl, trivial⟩), R_⟩
     clear F M a R_
     intro a u hR; obtain ⟨A_112, c_112, A_115, c_115, F, M, R_⟩ := hR; try clear v
     refine then_n ?_
     refine wp_only (fun ar wr => ∃ (A_117 : Option Addr), ∃ (c_117 : Nat), ∃ (A_120 : Option Addr), ∃ (c_120 : Nat), Fr 122 ar [(0, .slice (some adr) n cl), (2, .bool false), (3, .int .i64 ((i : Nat) : Int)), (4, .pointer (some ⟨g4, 0, none⟩)), (5, .pointer (some ⟨g5, 0, none⟩)), (6, .slice A_115 (((sha x) ++ sa).length) c_115), (7, .slice A_120 (((sha y) ++ sb).length) c_120), (8, .int .i64 ((j + 1 : Nat) : Int)), (9, .pointer (some ⟨g9, 0, none⟩)), (10, .int .i64 0), (11, .pointer (some ⟨g11, 0, none⟩)), (12, .int .i64 0), (20, .bool true), (55, .bool false), (61, .bool true), (103, .bool false), (106, .bool false)] ∧ Mm w wr [⟨g11, (bcs (sha y)).toArray, 24⟩, ⟨g9, (bcs (sha x)).toArray, 24⟩, ⟨g5, (wdCs sb tb rb).toArray, 42⟩, ⟨g4, (wdCs sa ta ra).toArray, 42⟩] ∧ Rs w wr [(.slice A_120 (((sha y) ++ sb).length) c_120, ((sha y) ++ sb)), (.slice A_115 (((sha x) ++ sa).length) c_115, ((sha x) ++ sa)), (.slice A_100 y.length c_100, y), (.slice A_93 x.length c_93, x), (.slice A6 x.length c6, x), (.slice A7 y.length c7, y)]) ?_ ?_
     ·
      refine region_anyM dr_follows_mixedOrders M [] (fun w' M => (by refine M.pick' [] _ ?_ (by decide); exact trivial)) ?_; clear M; intro wD M hb
      replace R_ := R_.below hb
      clear hb; try clear u
      have hS : Mm w wD [] := (by refine M.pick' [] _ ?_ (by decide); exact trivial)
      refine any_val F 0 rfl (by kernel_rfl) (wn rfl) rfl rfl (.slice (some ⟨g11, 0, none⟩) 32 32) (fun w' hS' => ex_all 24 _ rfl 32 dr_sa_24_32 ⟨g11, 0, none⟩ (F.e rfl)) hS ?_; clear F a; intro a F
      refine any_val F 2 rfl (by kernel_rfl) (wn rfl) rfl rfl (.pointer (some ⟨g5, 0, none⟩)) (fun w' hS' => ex_fa _ _ _ rfl _ (F.e rfl) 0 dr_fa_42_0_0 ⟨g5, 0, none⟩ rfl) hS ?_; clear F a; intro a F
      refine any_val F 3 rfl (by kernel_rfl) (wn rfl) rfl rfl (.slice (some ⟨g5, 0, none⟩) 16 16) (fun w' hS' => ex_all 40 _ rfl 16 dr_sa_40_16 ⟨g5, 0, none⟩ (F.e rfl)) hS ?_; clear F a; intro a F
      refine any_ready [1] (by kernel_rfl) (by simp) ?_
      refine ready_do rfl (wn rfl) (fun K hK => ?_) AllReadyH.nil
      refine ow_call rfl rfl F 27 #[.slice (some ⟨g11, 0, none⟩) 32 32] (ex_call 27 _ _ rfl rfl dr_ent_27 _ (map1 (F.e rfl))) (copy_any (sha y) _ 32 32 (by omega) _ (Rb.mk' (M.at (i := 0) rfl) (sha_len _) (by decide))) (fun e v hR => ?_)
      obtain ⟨A_117, c_117, he, O_n, hb⟩ := hR
      have R1 := R_.new hb M.bel.size O_n
      refine ⟨.slice A_117 ((sha y).length) c_117, he, ?_⟩; clear he F a; intro a F
      replace hS : Mm w v [] := (by refine (M.below hb).pick' [] _ ?_ (by decide); exact trivial)
      refine hK _ _ hS ?_
      clear hK K
      replace R_ := R_.below hb
      replace M := M.below hb; clear hb; try clear wD
      replace R_ := R1; clear R1 O_n
      refine any_ready [4] (by kernel_rfl) (by simp) ?_
      refine ready_do rfl (wn rfl) (fun K hK => ?_) AllReadyH.nil
      refine ow_appR F M R_ rfl rfl rfl rfl _ _ rfl 0 A_117 ((sha y).length) c_117 (sha y) sb ((sha y) ++ sb) rfl rfl (some ⟨g5, 0, none⟩) 16 16 (F.e rfl) (F.e rfl) (Rb.mk' (wd_salt (M.at (i := 2) rfl)) hsb (by decide)) (by omega) ?_
      clear F M R_; intro a A_120 c_120 u F M R_
      replace hS : Mm w u [] := (by refine M.pick' [] _ ?_ (by decide); exact trivial)
      refine hK _ _ hS ?_
      clear hK K
      try clear v
      refine any_val F 5 rfl (by kernel_rfl) (wn rfl) rfl rfl (.slice A_120 (((sha y) ++ sb).length) c_120) (fun w' hS' => ex_assign _ rfl _ (F.e rfl)) hS ?_; clear F a; intro a F
      refine any_done (by kernel_rfl) ?_
      exact ⟨A_117, c_117, A_120, c_120, F.keep ⟨rfl, rfl, rfl, rfl, rfl, rfl, rfl, rfl, rfl, rfl, rfl, rfl, rfl, rfl, rfl, rfl, rfl, trivial⟩, (by refine M.pick' [0, 1, 2, 3] _ ?_ (by decide); exact ⟨rfl, rfl, rfl, rfl, trivial⟩), R_⟩
     clear F M a R_
     intro a v hR; obtain ⟨A_117, c_117, A_120, c_120, F, M, R_⟩ := hR; try clear u
     refine in_n ?_
     refine then_n ?_
     refine wp_region_lit ?_
     refine list_val F (wn rfl) rfl rfl (.int .i64 ((j + 1 : Nat) : Int)) (ex_move _ rfl _ (F.e rfl)) ?_; clear F a; intro a F
     refine list_val F (wn rfl) rfl rfl (.int .i64 ((j + 1 + 1 : Nat) : Int)) (ex_bin .add _ _ _ _ rfl .i64 _ _ (F.e rfl) rfl _ (b_add ((w_i64 (by omega) (by omega)).trans (by omega)))) ?_; clear F a; intro a F
     refine list_val F (wn rfl) rfl rfl (.int .i64 ((j + 1 + 1 : Nat) : Int)) (ex_assign _ rfl _ (F.e rfl)) ?_; clear F a; intro a F
     refine wpList_nil ?_
     replace F : Fr 122 a [(0, .slice (some adr) n cl), (2, .bool false), (3, .int .i64 ((i : Nat) : Int)), (4, .pointer (some ⟨g4, 0, none⟩)), (5, .pointer (some ⟨g5, 0, none⟩)), (6, .slice A_115 (((sha x) ++ sa).length) c_115), (7, .slice A_120 (((sha y) ++ sb).length) c_120), (8, .int .i64 ((j + 1 + 1 : Nat) : Int)), (9, .pointer (some ⟨g9, 0, none⟩)), (10, .int .i64 0), (11, .pointer (some ⟨g11, 0, none⟩)), (12, .int .i64 0), (20, .bool true), (55, .bool false), (61, .bool true), (103, .bool false), (106, .bool false)] := F.keep ⟨rfl, rfl, rfl, rfl, rfl, rfl, rfl, rfl, rfl, rfl, rfl, rfl, rfl, rfl, rfl, rfl, rfl, trivial⟩
     refine then_n ?_
     replace R_ := R_.pick [1, 0] [_, _] ⟨rfl, rfl, trivial⟩ (by decide)
     exact ⟨5 - (j + 1), by omega, (j + 1), (sha x ++ sa), (sha y ++ sb), A_115, c_115, A_120, c_120, F.keep ⟨rfl, rfl, rfl, rfl, rfl, rfl, rfl, rfl, rfl, rfl, trivial⟩, (by refine M.pick' [2, 3] _ ?_ (by decide); exact ⟨rfl, rfl, trivial⟩), R_, (by omega), (passR_step hcx), (passR_step hcy), (app_ne hlx hly hcd), (by rw [List.length_append]; omega), (by rw [List.length_append]; omega), (by omega)⟩
    refine wp_seq ?_
    refine wp_seq ?_
    refine wp_region_lit ?_
    refine list_val F (wn rfl) rfl rfl (.int .i64 ((j + 1 : Nat) : Int)) (ex_move _ rfl _ (F.e rfl)) ?_; clear F a; intro a F
    refine list_val F (wn rfl) rfl rfl (.bool false) (ex_bin .leq _ _ _ _ rfl .i64 _ _ (F.e rfl) rfl _ (b_leq (decide_eq_false (by omega)))) ?_; clear F a; intro a F
    refine wpList_nil ?_
    replace F : Fr 122 a [(0, .slice (some adr) n cl), (2, .bool false), (3, .int .i64 ((i : Nat) : Int)), (4, .pointer (some ⟨g4, 0, none⟩)), (5, .pointer (some ⟨g5, 0, none⟩)), (6, .slice A6 x.length c6), (7, .slice A7 y.length c7), (8, .int .i64 ((j + 1 : Nat) : Int)), (20, .bool true), (55, .bool false), (61, .bool false)] := F.keep ⟨rfl, rfl, rfl, rfl, rfl, rfl, rfl, rfl, rfl, rfl, rfl, trivial⟩
    refine then_n ?_
    refine wp_cond_false (F.e rfl) ?_
    refine wp_exit ?_
    refine then_x ?_
    refine then_x ?_
    refine in_hit ?_
    refine in_n ?_
    refine then_n ?_
    refine wp_region_lit ?_
    refine list_val F (wn rfl) rfl rfl (.int .i64 ((i : Nat) : Int)) (ex_move _ rfl _ (F.e rfl)) ?_; clear F a; intro a F
    refine list_val F (wn rfl) rfl rfl (.int .i64 ((i + 1 : Nat) : Int)) (ex_bin .add _ _ _ _ rfl .i64 _ _ (F.e rfl) rfl _ (b_add ((w_i64 (by omega) (by omega)).trans (by omega)))) ?_; clear F a; intro a F
    refine list_val F (wn rfl) rfl rfl (.int .i64 ((i + 1 : Nat) : Int)) (ex_assign _ rfl _ (F.e rfl)) ?_; clear F a; intro a F
    refine wpList_nil ?_
    replace F : Fr 122 a [(0, .slice (some adr) n cl), (2, .bool false), (3, .int .i64 ((i + 1 : Nat) : Int)), (4, .pointer (some ⟨g4, 0, none⟩)), (5, .pointer (some ⟨g5, 0, none⟩)), (6, .slice A6 x.length c6), (7, .slice A7 y.length c7), (8, .int .i64 ((j + 1 : Nat) : Int)), (20, .bool true), (55, .bool false), (61, .bool false)] := F.keep ⟨rfl, rfl, rfl, rfl, rfl, rfl, rfl, rfl, rfl, rfl, rfl, trivial⟩
    refine then_n ?_
    replace R_ := R_.pick [] [] trivial (by decide)
    exact ⟨7 - ((i - 1) + 1), by omega, (i + 1), F.keep ⟨rfl, rfl, rfl, trivial⟩, (by refine M.pick' [] _ ?_ (by decide); exact trivial), R_, (by omega), (by omega), (by omega)⟩
   have hxy := fst_ne (t := ta) (t' := tb) hsa hsb (fun h => hss h.1)
   refine wp_region_lit ?_
   refine list_val F (wn rfl) rfl rfl (.pointer (some ⟨g4, 16, none⟩)) (ex_fa _ _ _ rfl _ (F.e rfl) 16 dr_fa_42_1_16 ⟨g4, 16, none⟩ rfl) ?_; clear F a; intro a F
   refine list_val F (wn rfl) rfl rfl (.string (strB ta)) (ex_load _ _ rfl _ (F.e rfl) _ (lv1 dr_one_9 (M.cell (i := 1) rfl (j := 16) (wd_a16 hsa)))) ?_; clear F a; intro a F
   refine list_val F (wn rfl) rfl rfl (.int .i64 ((ta.length : Nat) : Int)) (ex_lens _ _ rfl (by kernel_rfl) ta (F.e rfl)) ?_; clear F a; intro a F
   refine list_val F (wn rfl) rfl rfl (.bool false) (ex_bin .gtr _ _ _ _ rfl .i64 _ _ (F.e rfl) rfl _ (b_gtr (decide_eq_false (by omega)))) ?_; clear F a; intro a F
   refine list_val F (wn rfl) rfl rfl (.bool false) (ex_move _ rfl _ (F.e rfl)) ?_; clear F a; intro a F
   refine list_val F (F.wants 36 false rfl (by kernel_rfl) rfl true rfl) rfl rfl (.pointer (some ⟨g5, 16, none⟩)) (ex_fa _ _ _ rfl _ (F.e rfl) 16 dr_fa_42_1_16 ⟨g5, 16, none⟩ rfl) ?_; clear F a; intro a F
   refine list_val F (F.wants 36 false rfl (by kernel_rfl) rfl true rfl) rfl rfl (.string (strB tb)) (ex_load _ _ rfl _ (F.e rfl) _ (lv1 dr_one_9 (M.cell (i := 0) rfl (j := 16) (wd_a16 hsb)))) ?_; clear F a; intro a F
   refine list_val F (F.wants 36 false rfl (by kernel_rfl) rfl true rfl) rfl rfl (.int .i64 ((tb.length : Nat) : Int)) (ex_lens _ _ rfl (by kernel_rfl) tb (F.e rfl)) ?_; clear F a; intro a F
   refine list_val F (F.wants 36 false rfl (by kernel_rfl) rfl true rfl) rfl rfl (.bool false) (ex_bin .gtr _ _ _ _ rfl .i64 _ _ (F.e rfl) rfl _ (b_gtr (decide_eq_false (by omega)))) ?_; clear F a; intro a F
   refine list_val F (wn rfl) rfl rfl (.bool false) (ex_pick_f _ _ _ rfl (F.e rfl) _ (F.e rfl)) ?_; clear F a; intro a F
   refine list_val F (wn rfl) rfl rfl (.bool false) (ex_move _ rfl _ (F.e rfl)) ?_; clear F a; intro a F
   refine list_val F (F.wants 42 false rfl (by kernel_rfl) rfl true rfl) rfl rfl (.pointer (some ⟨g4, 0, none⟩)) (ex_fa _ _ _ rfl _ (F.e rfl) 0 dr_fa_42_0_0 ⟨g4, 0, none⟩ rfl) ?_; clear F a; intro a F
   refine list_val F (F.wants 42 false rfl (by kernel_rfl) rfl true rfl) rfl rfl (.agg ((bcs sa).toArray)) (ex_load _ _ rfl _ (F.e rfl) _ (lvr (cs := bcs sa) (by rw [bcs_len, show _ = 16 from hsa]; exact dr_row_40_16) (wd_salt (M.at (i := 1) rfl)))) ?_; clear F a; intro a F
   refine list_val F (F.wants 42 false rfl (by kernel_rfl) rfl true rfl) rfl rfl (.pointer (some ⟨g5, 0, none⟩)) (ex_fa _ _ _ rfl _ (F.e rfl) 0 dr_fa_42_0_0 ⟨g5, 0, none⟩ rfl) ?_; clear F a; intro a F
   refine list_val F (F.wants 42 false rfl (by kernel_rfl) rfl true rfl) rfl rfl (.agg ((bcs sb).toArray)) (ex_load _ _ rfl _ (F.e rfl) _ (lvr (cs := bcs sb) (by rw [bcs_len, show _ = 16 from hsb]; exact dr_row_40_16) (wd_salt (M.at (i := 0) rfl)))) ?_; clear F a; intro a F
   refine list_val F (F.wants 42 false rfl (by kernel_rfl) rfl true rfl) rfl rfl (.bool false) (ex_eqlA 40 _ _ _ rfl 16 dr_ab_40_16 sa sb hsa hsb (F.e rfl) (F.e rfl) false (decide_eq_false hss)) ?_; clear F a; intro a F
   refine list_val F (F.wants 42 false rfl (by kernel_rfl) rfl true rfl) rfl rfl (.bool false) (ex_move _ rfl _ (F.e rfl)) ?_; clear F a; intro a F
   refine list_skip F (F.wants 48 false rfl (by kernel_rfl) rfl false rfl) rfl rfl ?_; clear F a; intro a F
   refine list_skip F (F.wants 48 false rfl (by kernel_rfl) rfl false rfl) rfl rfl ?_; clear F a; intro a F
   refine list_skip F (F.wants 48 false rfl (by kernel_rfl) rfl false rfl) rfl rfl ?_; clear F a; intro a F
   refine list_skip F (F.wants 48 false rfl (by kernel_rfl) rfl false rfl) rfl rfl ?_; clear F a; intro a F
   refine list_skip F (F.wants 48 false rfl (by kernel_rfl) rfl false rfl) rfl rfl ?_; clear F a; intro a F
   refine list_val F (F.wants 42 false rfl (by kernel_rfl) rfl true rfl) rfl rfl (.bool false) (ex_pick_f _ _ _ rfl (F.e rfl) _ rfl) ?_; clear F a; intro a F
   refine list_val F (wn rfl) rfl rfl (.bool false) (ex_pick_f _ _ _ rfl (F.e rfl) _ (F.e rfl)) ?_; clear F a; intro a F
   refine wpList_nil ?_
   replace F : Fr 122 a [(0, .slice (some adr) n cl), (2, .bool false), (3, .int .i64 ((i : Nat) : Int)), (4, .pointer (some ⟨g4, 0, none⟩)), (5, .pointer (some ⟨g5, 0, none⟩)), (20, .bool true), (55, .bool false)] := F.keep ⟨rfl, rfl, rfl, rfl, rfl, rfl, rfl, trivial⟩
   refine then_n ?_
   refine wp_cond_false (F.e rfl) ?_
   refine wp_skip ?_
   refine then_n ?_
   refine wp_seq ?_
   refine wp_region_lit ?_
   refine list_val F (wn rfl) rfl rfl (.agg ((wdCs sa ta ra).toArray)) (ex_load _ _ rfl _ (F.e rfl) _ (lvr (cs := wdCs sa ta ra) (by rw [wd_len hsa]; exact dr_row_42_18) (M.at (i := 1) rfl))) ?_; clear F a; intro a F
   refine list_do (wn rfl) (fun K hK => ?_)
   refine ow_call rfl rfl F 30 #[.agg ((wdCs sa ta ra).toArray)] (ex_call 30 _ _ rfl rfl dr_ent_30 _ (map1 (F.e rfl))) (first_any sa ta ra hsa (by omega) _) (fun e u hR => ?_)
   obtain ⟨A_57, c_57, he, O_n, hb⟩ := hR
   have R1 := R_.new hb M.bel.size O_n
   refine ⟨.slice A_57 ((fstB sa ta).length) c_57, he, ?_⟩; clear he F a; intro a F
   refine hK _ _ ?_
   clear hK K
   replace R_ := R_.below hb
   replace M := M.below hb; clear hb; try clear v
   replace R_ := R1; clear R1 O_n
   refine list_val F (wn rfl) rfl rfl (.slice A_57 ((fstB sa ta).length) c_57) (ex_assign _ rfl _ (F.e rfl)) ?_; clear F a; intro a F
   refine wpList_nil ?_
   replace F : Fr 122 a [(0, .slice (some adr) n cl), (2, .bool false), (3, .int .i64 ((i : Nat) : Int)), (4, .pointer (some ⟨g4, 0, none⟩)), (5, .pointer (some ⟨g5, 0, none⟩)), (6, .slice A_57 ((fstB sa ta).length) c_57), (20, .bool true), (55, .bool false)] := F.keep ⟨rfl, rfl, rfl, rfl, rfl, rfl, rfl, rfl, trivial⟩
   refine then_n ?_
   refine wp_seq ?_
   refine wp_region_lit ?_
   refine list_val F (wn rfl) rfl rfl (.agg ((wdCs sb tb rb).toArray)) (ex_load _ _ rfl _ (F.e rfl) _ (lvr (cs := wdCs sb tb rb) (by rw [wd_len hsb]; exact dr_row_42_18) (M.at (i := 0) rfl))) ?_; clear F a; intro a F
   refine list_do (wn rfl) (fun K hK => ?_)
   refine ow_call rfl rfl F 30 #[.agg ((wdCs sb tb rb).toArray)] (ex_call 30 _ _ rfl rfl dr_ent_30 _ (map1 (F.e rfl))) (first_any sb tb rb hsb (by omega) _) (fun e v hR => ?_)
   obtain ⟨A_59, c_59, he, O_n, hb⟩ := hR
   have R1 := R_.new hb M.bel.size O_n
   refine ⟨.slice A_59 ((fstB sb tb).length) c_59, he, ?_⟩; clear he F a; intro a F
   refine hK _ _ ?_
   clear hK K
   replace R_ := R_.below hb
   replace M := M.below hb; clear hb; try clear u
   replace R_ := R1; clear R1 O_n
   refine list_val F (wn rfl) rfl rfl (.slice A_59 ((fstB sb tb).length) c_59) (ex_assign _ rfl _ (F.e rfl)) ?_; clear F a; intro a F
   refine wpList_nil ?_
   replace F : Fr 122 a [(0, .slice (some adr) n cl), (2, .bool false), (3, .int .i64 ((i : Nat) : Int)), (4, .pointer (some ⟨g4, 0, none⟩)), (5, .pointer (some ⟨g5, 0, none⟩)), (6, .slice A_57 ((fstB sa ta).length) c_57), (7, .slice A_59 ((fstB sb tb).length) c_59), (20, .bool true), (55, .bool false)] := F.keep ⟨rfl, rfl, rfl, rfl, rfl, rfl, rfl, rfl, rfl, trivial⟩
   refine then_n ?_
   refine wp_seq ?_
   have hl1 := fst_len (t := ta) hsa; have hl2 := fst_len (t := tb) hsb
   refine wp_region_lit ?_
   refine list_val F (wn rfl) rfl rfl (.int .i64 1) (ex_assign _ rfl _ rfl) ?_; clear F a; intro a F
   refine wpList_nil ?_
   replace F : Fr 122 a [(0, .slice (some adr) n cl), (2, .bool false), (3, .int .i64 ((i : Nat) : Int)), (4, .pointer (some ⟨g4, 0, none⟩)), (5, .pointer (some ⟨g5, 0, none⟩)), (6, .slice A_57 ((fstB sa ta).length) c_57), (7, .slice A_59 ((fstB sb tb).length) c_59), (8, .int .i64 1), (20, .bool true), (55, .bool false)] := F.keep ⟨rfl, rfl, rfl, rfl, rfl, rfl, rfl, rfl, rfl, rfl, trivial⟩
   refine then_n ?_
   refine wp_block ?_
   refine wp_loopN (fun mq ar wr => ∃ (j : Nat), ∃ (x : List By), ∃ (y : List By), ∃ (A6 : Option Addr), ∃ (c6 : Nat), ∃ (A7 : Option Addr), ∃ (c7 : Nat), Fr 122 ar [(0, .slice (some adr) n cl), (2, .bool false), (3, .int .i64 ((i : Nat) : Int)), (4, .pointer (some ⟨g4, 0, none⟩)), (5, .pointer (some ⟨g5, 0, none⟩)), (6, .slice A6 x.length c6), (7, .slice A7 y.length c7), (8, .int .i64 ((j + 1 : Nat) : Int)), (20, .bool true), (55, .bool false)] ∧ Mm w wr [⟨g5, (wdCs sb tb rb).toArray, 42⟩, ⟨g4, (wdCs sa ta ra).toArray, 42⟩] ∧ Rs w wr [(.slice A6 x.length c6, x), (.slice A7 y.length c7, y)] ∧ j ≤ 5 ∧ sha x = passR sa (sha (fstB sa ta)) j ∧ sha y = passR sb (sha (fstB sb tb)) j ∧ x ≠ y ∧ x.length ≤ 5000 ∧ y.length ≤ 5000 ∧ mq + j = 5) 5 ?_ ?_
   ·
    exact ⟨0, (fstB sa ta), (fstB sb tb), A_57, c_57, A_59, c_59, F.keep ⟨rfl, rfl, rfl, rfl, rfl, rfl, rfl, rfl, rfl, rfl, trivial⟩, (by refine M.pick' [0, 1] _ ?_ (by decide); exact ⟨rfl, rfl, trivial⟩), (R_.pick [1, 0] [_, _] ⟨rfl, rfl, trivial⟩ (by decide)), (Nat.zero_le _), rfl, rfl, hxy, (by omega), (by omega), (by omega)⟩
   clear F M a R_
   rintro mq a u ⟨j, x, y, A6, c6, A7, c7, F, M, R_, hj5, hcx, hcy, hxy, hx5, hy5, hq⟩; try clear v
   by_cases hj5' : j < 5
   ·
    have hj4 : j ≤ 4 := by omega
    refine wp_seq ?_
    refine wp_seq ?_
    refine wp_region_lit ?_
    refine list_val F (wn rfl) rfl rfl (.int .i64 ((j + 1 : Nat) : Int)) (ex_move _ rfl _ (F.e rfl)) ?_; clear F a; intro a F
    refine list_val F (wn rfl) rfl rfl (.bool true) (ex_bin .leq _ _ _ _ rfl .i64 _ _ (F.e rfl) rfl _ (b_leq (decide_eq_true (by omega)))) ?_; clear F a; intro a F
    refine wpList_nil ?_
    replace F : Fr 122 a [(0, .slice (some adr) n cl), (2, .bool false), (3, .int .i64 ((i : Nat) : Int)), (4, .pointer (some ⟨g4, 0, none⟩)), (5, .pointer (some ⟨g5, 0, none⟩)), (6, .slice A6 x.length c6), (7, .slice A7 y.length c7), (8, .int .i64 ((j + 1 : Nat) : Int)), (20, .bool true), (55, .bool false), (61, .bool true)] := F.keep ⟨rfl, rfl, rfl, rfl, rfl, rfl, rfl, rfl, rfl, rfl, rfl, trivial⟩
    refine then_n ?_
    refine wp_cond_true (F.e rfl) ?_
    refine wp_skip ?_
    refine then_n ?_
    refine wp_seq ?_
    refine wp_block ?_
    refine wp_seq ?_
    refine wp_region_lit ?_
    refine list_val F (wn rfl) rfl rfl (.pointer (some ⟨g4, 0, none⟩)) (ex_fa _ _ _ rfl _ (F.e rfl) 0 dr_fa_42_0_0 ⟨g4, 0, none⟩ rfl) ?_; clear F a; intro a F
    refine list_val F (wn rfl) rfl rfl (.agg ((bcs sa).toArray)) (ex_load _ _ rfl _ (F.e rfl) _ (lvr (cs := bcs sa) (by rw [bcs_len, show _ = 16 from hsa]; exact dr_row_40_16) (wd_salt (M.at (i := 1) rfl)))) ?_; clear F a; intro a F
    refine list_val F (wn rfl) rfl rfl (.pointer (some ⟨g4, 16, none⟩)) (ex_fa _ _ _ rfl _ (F.e rfl) 16 dr_fa_42_1_16 ⟨g4, 16, none⟩ rfl) ?_; clear F a; intro a F
    refine list_val F (wn rfl) rfl rfl (.string (strB ta)) (ex_load _ _ rfl _ (F.e rfl) _ (lv1 dr_one_9 (M.cell (i := 1) rfl (j := 16) (wd_a16 hsa)))) ?_; clear F a; intro a F
    refine list_val F (wn rfl) rfl rfl (.int .i64 ((j + 1 : Nat) : Int)) (ex_move _ rfl _ (F.e rfl)) ?_; clear F a; intro a F
    refine list_do (wn rfl) (fun K hK => ?_)
    refine ow_call rfl rfl F 25 #[.agg ((bcs sa).toArray), .string (strB ta), .int .i64 ((j + 1 : Nat) : Int)] (ex_call 25 _ _ rfl rfl dr_ent_25 _ (map3 (F.e rfl) (F.e rfl) (F.e rfl))) (pass_any sa ta hsa (by simp only [maxLen]; omega) ((j + 1 : Nat) : Int) _ (hKt.below M.bel)) (fun e v hR => ?_)
    obtain ⟨he, hb⟩ := hR
    rw [passF_fst hj4, ← hcx] at he
    refine ⟨.tuple #[.agg ((bcs (sha x)).toArray), .int .i64 0], he, ?_⟩; clear he F a; intro a F
    refine hK _ _ ?_
    clear hK K
    replace R_ := R_.below hb
    replace M := M.below hb; clear hb; try clear u
    refine list_val F (wn rfl) rfl rfl (.tuple #[.agg ((bcs (sha x)).toArray), .int .i64 0]) (ex_move _ rfl _ (F.e rfl)) ?_; clear F a; intro a F
    refine list_val F (wn rfl) rfl rfl (.agg ((bcs (sha x)).toArray)) (ex_extract _ _ rfl _ (F.e rfl) _ rfl) ?_; clear F a; intro a F
    refine list_val F (wn rfl) rfl rfl (.int .i64 0) (ex_extract _ _ rfl _ (F.e rfl) _ rfl) ?_; clear F a; intro a F
    refine list_do (wn rfl) (fun K hK => ?_)
    refine ow_alloc F M rfl rfl 24 rfl (.agg (bcs (List.replicate 32 0)).toArray) z24 ((bcs (List.replicate 32 0)).toArray) rfl ?_
    clear F M a; intro a g9 u F M hb hg
    refine hK _ _ ?_
    clear hK K
    replace R_ := R_.below hb
    clear hb hg; try clear v
    refine list_do (wn rfl) (fun K hK => ?_)
    refine ow_put F M rfl 24 _ _ rfl 0 _ ((bcs (List.replicate 32 0)).toArray) _ rfl (F.e rfl) ((bcs (sha x)).toArray) (F.e rfl) (sz24 (sha_len _)) (sz_eqb 32 rfl (sha_len _)) (all_oneCell_toArray (bcs_one _)) ?_
    clear F a; have Mo := M; clear M; intro a v F M hgr
    refine hK _ _ ?_
    clear hK K
    replace R_ := R_.box (Mo.blk 0 _ rfl) (by show 5 ≠ 24; decide) hgr
    clear Mo hgr; try clear u
    replace M : Mm w v [⟨g9, (bcs (sha x)).toArray, 24⟩, ⟨g5, (wdCs sb tb rb).toArray, 42⟩, ⟨g4, (wdCs sa ta ra).toArray, 42⟩] := M
    refine list_val F (wn rfl) rfl rfl (.int .i64 0) (ex_assign _ rfl _ (F.e rfl)) ?_; clear F a; intro a F
    refine wpList_nil ?_
    replace F : Fr 122 a [(0, .slice (some adr) n cl), (2, .bool false), (3, .int .i64 ((i : Nat) : Int)), (4, .pointer (some ⟨g4, 0, none⟩)), (5, .pointer (some ⟨g5, 0, none⟩)), (6, .slice A6 x.length c6), (7, .slice A7 y.length c7), (8, .int .i64 ((j + 1 : Nat) : Int)), (9, .pointer (some ⟨g9, 0, none⟩)), (10, .int .i64 0), (20, .bool true), (55, .bool false), (61, .bool true)] := F.keep ⟨rfl, rfl, rfl, rfl, rfl, rfl, rfl, rfl, rfl, rfl, rfl, rfl, rfl, trivial⟩
    refine then_n ?_
    refine wp_seq ?_
    refine wp_region_lit ?_
    refine list_val F (wn rfl) rfl rfl (.pointer (some ⟨g5, 0, none⟩)) (ex_fa _ _ _ rfl _ (F.e rfl) 0 dr_fa_42_0_0 ⟨g5, 0, none⟩ rfl) ?_; clear F a; intro a F
    refine list_val F (wn rfl) rfl rfl (.agg ((bcs sb).toArray)) (ex_load _ _ rfl _ (F.e rfl) _ (lvr (cs := bcs sb) (by rw [bcs_len, show _ = 16 from hsb]; exact dr_row_40_16) (wd_salt (M.at (i := 1) rfl)))) ?_; clear F a; intro a F
    refine list_val F (wn rfl) rfl rfl (.pointer (some ⟨g5, 16, none⟩)) (ex_fa _ _ _ rfl _ (F.e rfl) 16 dr_fa_42_1_16 ⟨g5, 16, none⟩ rfl) ?_; clear F a; intro a F
    refine list_val F (wn rfl) rfl rfl (.string (strB tb)) (ex_load _ _ rfl _ (F.e rfl) _ (lv1 dr_one_9 (M.cell (i := 1) rfl (j := 16) (wd_a16 hsb)))) ?_; clear F a; intro a F
    refine list_val F (wn rfl) rfl rfl (.int .i64 ((j + 1 : Nat) : Int)) (ex_move _ rfl _ (F.e rfl)) ?_; clear F a; intro a F
    refine list_do (wn rfl) (fun K hK => ?_)
    refine ow_call rfl rfl F 25 #[.agg ((bcs sb).toArray), .string (strB tb), .int .i64 ((j + 1 : Nat) : Int)] (ex_call 25 _ _ rfl rfl dr_ent_25 _ (map3 (F.e rfl) (F.e rfl) (F.e rfl))) (pass_any sb tb hsb (by simp only [maxLen]; omega) ((j + 1 : Nat) : Int) _ (hKt.below M.bel)) (fun e u hR => ?_)
    obtain ⟨he, hb⟩ := hR
    rw [passF_fst hj4, ← hcy] at he
    refine ⟨.tuple #[.agg ((bcs (sha y)).toArray), .int .i64 0], he, ?_⟩; clear he F a; intro a F
    refine hK _ _ ?_
    clear hK K
    replace R_ := R_.below hb
    replace M := M.below hb; clear hb; try clear v
    refine list_val F (wn rfl) rfl rfl (.tuple #[.agg ((bcs (sha y)).toArray), .int .i64 0]) (ex_move _ rfl _ (F.e rfl)) ?_; clear F a; intro a F
    refine list_val F (wn rfl) rfl rfl (.agg ((bcs (sha y)).toArray)) (ex_extract _ _ rfl _ (F.e rfl) _ rfl) ?_; clear F a; intro a F
    refine list_val F (wn rfl) rfl rfl (.int .i64 0) (ex_extract _ _ rfl _ (F.e rfl) _ rfl) ?_; clear F a; intro a F
    refine list_do (wn rfl) (fun K hK => ?_)
    refine ow_alloc F M rfl rfl 24 rfl (.agg (bcs (List.replicate 32 0)).toArray) z24 ((bcs (List.replicate 32 0)).toArray) rfl ?_
    clear F M a; intro a g11 v F M hb hg
    refine hK _ _ ?_
    clear hK K
    replace R_ := R_.below hb
    clear hb hg; try clear u
    refine list_do (wn rfl) (fun K hK => ?_)
    refine ow_put F M rfl 24 _ _ rfl 0 _ ((bcs (List.replicate 32 0)).toArray) _ rfl (F.e rfl) ((bcs (sha y)).toArray) (F.e rfl) (sz24 (sha_len _)) (sz_eqb 32 rfl (sha_len _)) (all_oneCell_toArray (bcs_one _)) ?_
    clear F a; have Mo := M; clear M; intro a u F M hgr
    refine hK _ _ ?_
    clear hK K
    replace R_ := R_.box (Mo.blk 0 _ rfl) (by show 5 ≠ 24; decide) hgr
    clear Mo hgr; try clear v
    replace M : Mm w u [⟨g11, (bcs (sha y)).toArray, 24⟩, ⟨g9, (bcs (sha x)).toArray, 24⟩, ⟨g5, (wdCs sb tb rb).toArray, 42⟩, ⟨g4, (wdCs sa ta ra).toArray, 42⟩] := M
    refine list_val F (wn rfl) rfl rfl (.int .i64 0) (ex_assign _ rfl _ (F.e rfl)) ?_; clear F a; intro a F
    refine wpList_nil ?_
    replace F : Fr 122 a [(0, .slice (some adr) n cl), (2, .bool false), (3, .int .i64 ((i : Nat) : Int)), (4, .pointer (some ⟨g4, 0, none⟩)), (5, .pointer (some ⟨g5, 0, none⟩)), (6, .slice A6 x.length c6), (7, .slice A7 y.length c7), (8, .int .i64 ((j + 1 : Nat) : Int)), (9, .pointer (some ⟨g9, 0, none⟩)), (10, .int .i64 0), (11, .pointer (some ⟨g11, 0, none⟩)), (12, .int .i64 0), (20, .bool true), (55, .bool false), (61, .bool true)] := F.keep ⟨rfl, rfl, rfl, rfl, rfl, rfl, rfl, rfl, rfl, rfl, rfl, rfl, rfl, rfl, rfl, trivial⟩
    refine then_n ?_
    refine wp_seq ?_
    refine wp_seq ?_
    refine wp_only (fun ar wr => ∃ (A_93 : Option Addr), ∃ (c_93 : Nat), ∃ (A_100 : Option Addr), ∃ (c_100 : Nat), Fr 122 ar [(0, .slice (some adr) n cl), (2, .bool false), (3, .int .i64 ((i : Nat) : Int)), (4, .pointer (some ⟨g4, 0, none⟩)), (5, .pointer (some ⟨g5, 0, none⟩)), (6, .slice A6 x.length c6), (7, .slice A7 y.length c7), (8, .int .i64 ((j + 1 : Nat) : Int)), (9, .pointer (some ⟨g9, 0, none⟩)), (10, .int .i64 0), (11, .pointer (some ⟨g11, 0, none⟩)), (12, .int .i64 0), (20, .bool true), (55, .bool false), (61, .bool true), (103, .bool false)] ∧ Mm w wr [⟨g11, (bcs (sha y)).toArray, 24⟩, ⟨g9, (bcs (sha x)).toArray, 24⟩, ⟨g5, (wdCs sb tb rb).toArray, 42⟩, ⟨g4, (wdCs sa ta ra).toArray, 42⟩] ∧ Rs w wr [(.slice A_100 y.length c_100, y), (.slice A_93 x.length c_93, x), (.slice A6 x.length c6, x), (.slice A7 y.length c7, y)]) ?_ ?_
    ·
     refine region_anyM dr_follows_mixedOrders M [⟨g9, (bcs (sha x)).toArray, 24⟩, ⟨g11, (bcs (sha y)).toArray, 24⟩] (fun w' M => (by refine M.pick' [1, 0] _ ?_ (by decide); exact ⟨rfl, rfl, trivial⟩)) ?_; clear M; intro wD M hb
     replace R_ := R_.below hb
     clear hb; try clear u
     have hS : Mm w wD [⟨g9, (bcs (sha x)).toArray, 24⟩, ⟨g11, (bcs (sha y)).toArray, 24⟩] := (by refine M.pick' [1, 0] _ ?_ (by decide); exact ⟨rfl, rfl, trivial⟩)
     refine any_val F 0 rfl (by kernel_rfl) (wn rfl) rfl rfl (.int .i64 0) (fun w' hS' => ex_move _ rfl _ (F.e rfl)) hS ?_; clear F a; intro a F
     refine any_ready [1] (by kernel_rfl) (by simp) ?_
     refine ready_do rfl (wn rfl) (fun K hK => ?_) AllReadyH.nil
     refine ow_call rfl rfl F 26 #[.int .i64 0] (ex_call 26 _ _ rfl rfl dr_ent_26 _ (map1 (F.e rfl))) (num_any _ _) (fun e v hR => ?_)
     obtain ⟨he, hw⟩ := hR
     refine ⟨.int .i64 0, he, ?_⟩; clear he F a; intro a F
     replace hw := hw.symm; subst hw
     replace hS : Mm w wD [⟨g9, (bcs (sha x)).toArray, 24⟩, ⟨g11, (bcs (sha y)).toArray, 24⟩] := (by refine M.pick' [1, 0] _ ?_ (by decide); exact ⟨rfl, rfl, trivial⟩)
     refine hK _ _ hS ?_
     clear hK K
     refine any_val F 2 rfl (by kernel_rfl) (wn rfl) rfl rfl (.bool false) (fun w' hS' => ex_bin .neq _ _ _ _ rfl .i64 _ _ (F.e rfl) rfl _ (b_neq (by decide))) hS ?_; clear F a; intro a F
     refine any_val F 3 rfl (by kernel_rfl) (wn rfl) rfl rfl (.bool false) (fun w' hS' => ex_move _ rfl _ (F.e rfl)) hS ?_; clear F a; intro a F
     refine any_val F 4 rfl (by kernel_rfl) (F.wants 85 false rfl (by kernel_rfl) rfl true rfl) rfl rfl (.int .i64 0) (fun w' hS' => ex_move _ rfl _ (F.e rfl)) hS ?_; clear F a; intro a F
     refine any_ready [5] (by kernel_rfl) (by simp) ?_
     refine ready_do rfl (F.wants 85 false rfl (by kernel_rfl) rfl true rfl) (fun K hK => ?_) AllReadyH.nil
     refine ow_call rfl rfl F 26 #[.int .i64 0] (ex_call 26 _ _ rfl rfl dr_ent_26 _ (map1 (F.e rfl))) (num_any _ _) (fun e v hR => ?_)
     obtain ⟨he, hw⟩ := hR
     refine ⟨.int .i64 0, he, ?_⟩; clear he F a; intro a F
     replace hw := hw.symm; subst hw
     replace hS : Mm w wD [⟨g9, (bcs (sha x)).toArray, 24⟩, ⟨g11, (bcs (sha y)).toArray, 24⟩] := (by refine M.pick' [1, 0] _ ?_ (by decide); exact ⟨rfl, rfl, trivial⟩)
     refine hK _ _ hS ?_
     clear hK K
     refine any_val F 6 rfl (by kernel_rfl) (F.wants 85 false rfl (by kernel_rfl) rfl true rfl) rfl rfl (.bool false) (fun w' hS' => ex_bin .neq _ _ _ _ rfl .i64 _ _ (F.e rfl) rfl _ (b_neq (by decide))) hS ?_; clear F a; intro a F
     refine any_val F 7 rfl (by kernel_rfl) (wn rfl) rfl rfl (.bool false) (fun w' hS' => ex_pick_f _ _ _ rfl (F.e rfl) _ (F.e rfl)) hS ?_; clear F a; intro a F
     refine any_val F 8 rfl (by kernel_rfl) (wn rfl) rfl rfl (.bool false) (fun w' hS' => ex_move _ rfl _ (F.e rfl)) hS ?_; clear F a; intro a F
     refine any_val F 9 rfl (by kernel_rfl) (F.wants 90 false rfl (by kernel_rfl) rfl true rfl) rfl rfl (.agg ((bcs (sha x)).toArray)) (fun w' hS' => ex_load _ _ rfl _ (F.e rfl) _ (lvr (cs := bcs (sha x)) (by rw [bcs_len, show _ = 32 from (sha_len _)]; exact dr_row_24_32) (hS'.at (i := 0) rfl))) hS ?_; clear F a; intro a F
     refine any_val F 10 rfl (by kernel_rfl) (F.wants 90 false rfl (by kernel_rfl) rfl true rfl) rfl rfl (.slice A6 x.length c6) (fun w' hS' => ex_move _ rfl _ (F.e rfl)) hS ?_; clear F a; intro a F
     refine any_ready [11] (by kernel_rfl) (by simp) ?_
     refine ready_do rfl (F.wants 90 false rfl (by kernel_rfl) rfl true rfl) (fun K hK => ?_) AllReadyH.nil
     refine ow_call rfl rfl F 27 #[.slice A6 x.length c6] (ex_call 27 _ _ rfl rfl dr_ent_27 _ (map1 (F.e rfl))) (copy_any x _ x.length c6 (by omega) _ (R_.rb (i := 0) rfl)) (fun e v hR => ?_)
     obtain ⟨A_93, c_93, he, O_n, hb⟩ := hR
     have R1 := R_.new hb M.bel.size O_n
     refine ⟨.slice A_93 x.length c_93, he, ?_⟩; clear he F a; intro a F
     replace hS : Mm w v [⟨g9, (bcs (sha x)).toArray, 24⟩, ⟨g11, (bcs (sha y)).toArray, 24⟩] := (by refine (M.below hb).pick' [1, 0] _ ?_ (by decide); exact ⟨rfl, rfl, trivial⟩)
     refine hK _ _ hS ?_
     clear hK K
     replace R_ := R_.below hb
     replace M := M.below hb; clear hb; try clear wD
     replace R_ := R1; clear R1 O_n
     refine any_ready [12] (by kernel_rfl) (by simp) ?_
     refine ready_do rfl (F.wants 90 false rfl (by kernel_rfl) rfl true rfl) (fun K hK => ?_) AllReadyH.nil
     refine ow_call rfl rfl F 15 #[.slice A_93 x.length c_93] (ex_call 15 _ _ rfl rfl dr_ent_15 _ (map1 (F.e rfl))) (sum_bytes x _ x.length c_93 _ (hKt.below M.bel) (R_.rb (i := 0) rfl) (R_.cap (i := 0) rfl)) (fun e u hR => ?_)
     obtain ⟨he, hb⟩ := hR
     refine ⟨.agg ((bcs (sha x)).toArray), he, ?_⟩; clear he F a; intro a F
     replace hS : Mm w u [⟨g9, (bcs (sha x)).toArray, 24⟩, ⟨g11, (bcs (sha y)).toArray, 24⟩] := (by refine (M.below hb).pick' [1, 0] _ ?_ (by decide); exact ⟨rfl, rfl, trivial⟩)
     refine hK _ _ hS ?_
     clear hK K
     replace R_ := R_.below hb
     replace M := M.below hb; clear hb; try clear v
     refine any_val F 13 rfl (by kernel_rfl) (F.wants 90 false rfl (by kernel_rfl) rfl true rfl) rfl rfl (.bool false) (fun w' hS' => ex_neqA 24 _ _ _ rfl 32 dr_ab_24_32 (sha x) (sha x) (sha_len _) (sha_len _) (F.e rfl) (F.e rfl) false (not_self _)) hS ?_; clear F a; intro a F
     refine any_val F 14 rfl (by kernel_rfl) (wn rfl) rfl rfl (.bool false) (fun w' hS' => ex_pick_f _ _ _ rfl (F.e rfl) _ (F.e rfl)) hS ?_; clear F a; intro a F
     refine any_val F 15 rfl (by kernel_rfl) (wn rfl) rfl rfl (.bool false) (fun w' hS' => ex_move _ rfl _ (F.e rfl)) hS ?_; clear F a; intro a F
     refine any_val F 16 rfl (by kernel_rfl) (F.wants 97 false rfl (by kernel_rfl) rfl true rfl) rfl rfl (.agg ((bcs (sha y)).toArray)) (fun w' hS' => ex_load _ _ rfl _ (F.e rfl) _ (lvr (cs := bcs (sha y)) (by rw [bcs_len, show _ = 32 from (sha_len _)]; exact dr_row_24_32) (hS'.at (i := 1) rfl))) hS ?_; clear F a; intro a F
     refine any_val F 17 rfl (by kernel_rfl) (F.wants 97 false rfl (by kernel_rfl) rfl true rfl) rfl rfl (.slice A7 y.length c7) (fun w' hS' => ex_move _ rfl _ (F.e rfl)) hS ?_; clear F a; intro a F
     refine any_ready [18] (by kernel_rfl) (by simp) ?_
     refine ready_do rfl (F.wants 97 false rfl (by kernel_rfl) rfl true rfl) (fun K hK => ?_) AllReadyH.nil
     refine ow_call rfl rfl F 27 #[.slice A7 y.length c7] (ex_call 27 _ _ rfl rfl dr_ent_27 _ (map1 (F.e rfl))) (copy_any y _ y.length c7 (by omega) _ (R_.rb (i := 2) rfl)) (fun e v hR => ?_)
     obtain ⟨A_100, c_100, he, O_n, hb⟩ := hR
     have R1 := R_.new hb M.bel.size O_n
     refine ⟨.slice A_100 y.length c_100, he, ?_⟩; clear he F a; intro a F
     replace hS : Mm w v [⟨g9, (bcs (sha x)).toArray, 24⟩, ⟨g11, (bcs (sha y)).toArray, 24⟩] := (by refine (M.below hb).pick' [1, 0] _ ?_ (by decide); exact ⟨rfl, rfl, trivial⟩)
     refine hK _ _ hS ?_
     clear hK K
     replace R_ := R_.below hb
     replace M := M.below hb; clear hb; try clear u
     replace R_ := R1; clear R1 O_n
     refine any_ready [19] (by kernel_rfl) (by simp) ?_
     refine ready_do rfl (F.wants 97 false rfl (by kernel_rfl) rfl true rfl) (fun K hK => ?_) AllReadyH.nil
     refine ow_call rfl rfl F 15 #[.slice A_100 y.length c_100] (ex_call 15 _ _ rfl rfl dr_ent_15 _ (map1 (F.e rfl))) (sum_bytes y _ y.length c_100 _ (hKt.below M.bel) (R_.rb (i := 0) rfl) (R_.cap (i := 0) rfl)) (fun e u hR => ?_)
     obtain ⟨he, hb⟩ := hR
     refine ⟨.agg ((bcs (sha y)).toArray), he, ?_⟩; clear he F a; intro a F
     replace hS : Mm w u [⟨g9, (bcs (sha x)).toArray, 24⟩, ⟨g11, (bcs (sha y)).toArray, 24⟩] := (by refine (M.below hb).pick' [1, 0] _ ?_ (by decide); exact ⟨rfl, rfl, trivial⟩)
     refine hK _ _ hS ?_
     clear hK K
     replace R_ := R_.below hb
     replace M := M.below hb; clear hb; try clear v
     refine any_val F 20 rfl (by kernel_rfl) (F.wants 97 false rfl (by kernel_rfl) rfl true rfl) rfl rfl (.bool false) (fun w' hS' => ex_neqA 24 _ _ _ rfl 32 dr_ab_24_32 (sha y) (sha y) (sha_len _) (sha_len _) (F.e rfl) (F.e rfl) false (not_self _)) hS ?_; clear F a; intro a F
     refine any_val F 21 rfl (by kernel_rfl) (wn rfl) rfl rfl (.bool false) (fun w' hS' => ex_pick_f _ _ _ rfl (F.e rfl) _ (F.e rfl)) hS ?_; clear F a; intro a F
     refine any_done (by kernel_rfl) ?_
     exact ⟨A_93, c_93, A_100, c_100, F.keep ⟨rfl, rfl, rfl, rfl, rfl, rfl, rfl, rfl, rfl, rfl, rfl, rfl, rfl, rfl, rfl, rfl, trivial⟩, (by refine M.pick' [0, 1, 2, 3] _ ?_ (by decide); exact ⟨rfl, rfl, rfl, rfl, trivial⟩), R_⟩
    clear F M a R_
    intro a v hR; obtain ⟨A_93, c_93, A_100, c_100, F, M, R_⟩ := hR; try clear u
    refine then_n ?_
    refine wp_cond_false (F.e rfl) ?_
    refine wp_skip ?_
    refine then_n ?_
    refine wp_seq ?_
    refine wp_seq ?_
    by_cases hcd : sha x = sha y
    ·
     refine wp_region_lit ?_
     refine list_val F (wn rfl) rfl rfl (.agg ((bcs (sha x)).toArray)) (ex_load _ _ rfl _ (F.e rfl) _ (lvr (cs := bcs (sha x)) (by rw [bcs_len, show _ = 32 from (sha_len _)]; exact dr_row_24_32) (M.at (i := 1) rfl))) ?_; clear F a; intro a F
     refine list_val F (wn rfl) rfl rfl (.agg ((bcs (sha y)).toArray)) (ex_load _ _ rfl _ (F.e rfl) _ (lvr (cs := bcs (sha y)) (by rw [bcs_len, show _ = 32 from (sha_len _)]; exact dr_row_24_32) (M.at (i := 0) rfl))) ?_; clear F a; intro a F
     refine list_val F (wn rfl) rfl rfl (.bool true) (ex_eqlA 24 _ _ _ rfl 32 dr_ab_24_32 (sha x) (sha y) (sha_len _) (sha_len _) (F.e rfl) (F.e rfl) true (decide_eq_true hcd)) ?_; clear F a; intro a F
     refine wpList_nil ?_
     replace F : Fr 122 a [(0, .slice (some adr) n cl), (2, .bool false), (3, .int .i64 ((i : Nat) : Int)), (4, .pointer (some ⟨g4, 0, none⟩)), (5, .pointer (some ⟨g5, 0, none⟩)), (6, .slice A6 x.length c6), (7, .slice A7 y.length c7), (8, .int .i64 ((j + 1 : Nat) : Int)), (9, .pointer (some ⟨g9, 0, none⟩)), (10, .int .i64 0), (11, .pointer (some ⟨g11, 0, none⟩)), (12, .int .i64 0), (20, .bool true), (55, .bool false), (61, .bool true), (103, .bool false), (106, .bool true)] := F.keep ⟨rfl, rfl, rfl, rfl, rfl, rfl, rfl, rfl, rfl, rfl, rfl, rfl, rfl, rfl, rfl, rfl, rfl, trivial⟩
     refine then_n ?_
     refine wp_cond_true (F.e rfl) ?_
     refine wp_seq ?_
     refine wp_seq ?_
     refine wp_region_lit ?_
     refine list_val F (wn rfl) rfl rfl (.slice A6 x.length c6) (ex_move _ rfl _ (F.e rfl)) ?_; clear F a; intro a F
     refine list_val F (wn rfl) rfl rfl (.slice A7 y.length c7) (ex_move _ rfl _ (F.e rfl)) ?_; clear F a; intro a F
     refine list_do (wn rfl) (fun K hK => ?_)
     refine ow_call rfl rfl F 22 #[.slice A6 x.length c6, .slice A7 y.length c7] (ex_call 22 _ _ rfl rfl dr_ent_22 _ (map2 (F.e rfl) (F.e rfl))) (eq_any x y _ _ x.length c6 y.length c7 _ (R_.rb (i := 2) rfl) (R_.rb (i := 3) rfl)) (fun e u hR => ?_)
     obtain ⟨he, hb⟩ := hR
     rw [decide_eq_false hxy] at he
     refine ⟨.bool false, he, ?_⟩; clear he F a; intro a F
     refine hK _ _ ?_
     clear hK K
     replace R_ := R_.below hb
     replace M := M.below hb; clear hb; try clear v
     refine wpList_nil ?_
     replace F : Fr 122 a [(0, .slice (some adr) n cl), (2, .bool false), (3, .int .i64 ((i : Nat) : Int)), (4, .pointer (some ⟨g4, 0, none⟩)), (5, .pointer (some ⟨g5, 0, none⟩)), (6, .slice A6 x.length c6), (7, .slice A7 y.length c7), (8, .int .i64 ((j + 1 : Nat) : Int)), (9, .pointer (some ⟨g9, 0, none⟩)), (10, .int .i64 0), (11, .pointer (some ⟨g11, 0, none⟩)), (12, .int .i64 0), (20, .bool true), (55, .bool false), (61, .bool true), (103, .bool false), (106, .bool true), (109, .bool false)] := F.keep ⟨rfl, rfl, rfl, rfl, rfl, rfl, rfl, rfl, rfl, rfl, rfl, rfl, rfl, rfl, rfl, rfl, rfl, rfl, trivial⟩
     refine then_n ?_
     refine wp_cond_false (F.e rfl) ?_
     refine wp_skip ?_
     refine then_n ?_
     refine wp_seq ?_
     refine wp_region_lit ?_
     refine list_do (wn rfl) (fun K hK => ?_)
     refine ow_call rfl rfl F 19 #[] (ex_call 19 _ _ rfl rfl dr_ent_19 _ (map0)) (wakes_any _ (hKt.below M.bel)) (fun e v hR => ?_)
     obtain ⟨he, hb⟩ := hR
     refine ⟨.bool true, he, ?_⟩; clear he F a; intro a F
     refine hK _ _ ?_
     clear hK K
     replace R_ := R_.below hb
     replace M := M.below hb; clear hb; try clear u
     refine list_val F (wn rfl) rfl rfl (.bool true) (ex_assign _ rfl _ (F.e rfl)) ?_; clear F a; intro a F
     refine wpList_nil ?_
     replace F : Fr 122 a [(0, .slice (some adr) n cl), (2, .bool true), (3, .int .i64 ((i : Nat) : Int)), (4, .pointer (some ⟨g4, 0, none⟩)), (5, .pointer (some ⟨g5, 0, none⟩)), (6, .slice A6 x.length c6), (7, .slice A7 y.length c7), (8, .int .i64 ((j + 1 : Nat) : Int)), (9, .pointer (some ⟨g9, 0, none⟩)), (10, .int .i64 0), (11, .pointer (some ⟨g11, 0, none⟩)), (12, .int .i64 0), (20, .bool true), (55, .bool false), (61, .bool true), (103, .bool false), (106, .bool true), (109, .bool false)] := F.keep ⟨rfl, rfl, rfl, rfl, rfl, rfl, rfl, rfl, rfl, rfl, rfl, rfl, rfl, rfl, rfl, rfl, rfl, rfl, trivial⟩
     refine then_n ?_
     refine wp_ret ?_
     refine then_r ?_
     refine in_r ?_
     refine then_r ?_
     refine then_r ?_
     refine in_r ?_
     refine in_r ?_
     refine then_r ?_
     refine then_r ?_
     refine in_r ?_
     refine then_r ?_
     exact ret_tmp F rfl rfl ⟨rfl, M.bel⟩
    refine wp_region_lit ?_
    refine list_val F (wn rfl) rfl rfl (.agg ((bcs (sha x)).toArray)) (ex_load _ _ rfl _ (F.e rfl) _ (lvr (cs := bcs (sha x)) (by rw [bcs_len, show _ = 32 from (sha_len _)]; exact dr_row_24_32) (M.at (i := 1) rfl))) ?_; clear F a; intro a F
    refine list_val F (wn rfl) rfl rfl (.agg ((bcs (sha y)).toArray)) (ex_load _ _ rfl _ (F.e rfl) _ (lvr (cs := bcs (sha y)) (by rw [bcs_len, show _ = 32 from (sha_len _)]; exact dr_row_24_32) (M.at (i := 0) rfl))) ?_; clear F a; intro a F
    refine list_val F (wn rfl) rfl rfl (.bool false) (ex_eqlA 24 _ _ _ rfl 32 dr_ab_24_32 (sha x) (sha y) (sha_len _) (sha_len _) (F.e rfl) (F.e rfl) false (decide_eq_false hcd)) ?_; clear F a; intro a F
    refine wpList_nil ?_
    replace F : Fr 122 a [(0, .slice (some adr) n cl), (2, .bool false), (3, .int .i64 ((i : Nat) : Int)), (4, .pointer (some ⟨g4, 0, none⟩)), (5, .pointer (some ⟨g5, 0, none⟩)), (6, .slice A6 x.length c6), (7, .slice A7 y.length c7), (8, .int .i64 ((j + 1 : Nat) : Int)), (9, .pointer (some ⟨g9, 0, none⟩)), (10, .int .i64 0), (11, .pointer (some ⟨g11, 0, none⟩)), (12, .int .i64 0), (20, .bool true), (55, .bool false), (61, .bool true), (103, .bool false), (106, .bool false)] := F.keep ⟨rfl, rfl, rfl, rfl, rfl, rfl, rfl, rfl, rfl, rfl, rfl, rfl, rfl, rfl, rfl, rfl, rfl, trivial⟩
    refine then_n ?_
    refine wp_cond_false (F.e rfl) ?_
    refine wp_skip ?_
    refine then_n ?_
    refine wp_seq ?_
    have hlx := sha_len x; have hly := sha_len y
    refine wp_only (fun ar wr => ∃ (A_112 : Option Addr), ∃ (c_112 : Nat), ∃ (A_115 : Option Addr), ∃ (c_115 : Nat), Fr 122 ar [(0, .slice (some adr) n cl), (2, .bool false), (3, .int .i64 ((i : Nat) : Int)), (4, .pointer (some ⟨g4, 0, none⟩)), (5, .pointer (some ⟨g5, 0, none⟩)), (6, .slice A_115 (((sha x) ++ sa).length) c_115), (7, .slice A7 y.length c7), (8, .int .i64 ((j + 1 : Nat) : Int)), (9, .pointer (some ⟨g9, 0, none⟩)), (10, .int .i64 0), (11, .pointer (some ⟨g11, 0, none⟩)), (12, .int .i64 0), (20, .bool true), (55, .bool false), (61, .bool true), (103, .bool false), (106, .bool false)] ∧ Mm w wr [⟨g11, (bcs (sha y)).toArray, 24⟩, ⟨g9, (bcs (sha x)).toArray, 24⟩, ⟨g5, (wdCs sb tb rb).toArray, 42⟩, ⟨g4, (wdCs sa ta ra).toArray, 42⟩] ∧ Rs w wr [(.slice A_115 (((sha x) ++ sa).length) c_115, ((sha x) ++ sa)), (.slice A_100 y.length c_100, y), (.slice A_93 x.length c_93, x), (.slice A6 x.length c6, x), (.slice A7 y.length c7, y)]) ?_ ?_
    ·
     refine region_anyM dr_follows_mixedOrders M [] (fun w' M => (by refine M.pick' [] _ ?_ (by decide); exact trivial)) ?_; clear M; intro wD M hb
     replace R_ := R_.below hb
     clear hb; try clear v
     have hS : Mm w wD [] := (by refine M.pick' [] _ ?_ (by decide); exact trivial)
     refine any_val F 0 rfl (by kernel_rfl) (wn rfl) rfl rfl (.slice (some ⟨g9, 0, none⟩) 32 32) (fun w' hS' => ex_all 24 _ rfl 32 dr_sa_24_32 ⟨g9, 0, none⟩ (F.e rfl)) hS ?_; clear F a; intro a F
     refine any_val F 2 rfl (by kernel_rfl) (wn rfl) rfl rfl (.pointer (some ⟨g4, 0, none⟩)) (fun w' hS' => ex_fa _ _ _ rfl _ (F.e rfl) 0 dr_fa_42_0_0 ⟨g4, 0, none⟩ rfl) hS ?_; clear F a; intro a F
     refine any_val F 3 rfl (by kernel_rfl) (wn rfl) rfl rfl (.slice (some ⟨g4, 0, none⟩) 16 16) (fun w' hS' => ex_all 40 _ rfl 16 dr_sa_40_16 ⟨g4, 0, none⟩ (F.e rfl)) hS ?_; clear F a; intro a F
     refine any_ready [1] (by kernel_rfl) (by simp) ?_
     refine ready_do rfl (wn rfl) (fun K hK => ?_) AllReadyH.nil
     refine ow_call rfl rfl F 27 #[.slice (some ⟨g9, 0, none⟩) 32 32] (ex_call 27 _ _ rfl rfl dr_ent_27 _ (map1 (F.e rfl))) (copy_any (sha x) _ 32 32 (by omega) _ (Rb.mk' (M.at (i := 1) rfl) (sha_len _) (by decide))) (fun e v hR => ?_)
     obtain ⟨A_112, c_112, he, O_n, hb⟩ := hR
     have R1 := R_.new hb M.bel.size O_n
     refine ⟨.slice A_112 ((sha x).length) c_112, he, ?_⟩; clear he F a; intro a F
     replace hS : Mm w v [] := (by refine (M.below hb).pick' [] _ ?_ (by decide); exact trivial)
     refine hK _ _ hS ?_
     clear hK K
     replace R_ := R_.below hb
     replace M := M.below hb; clear hb; try clear wD
     replace R_ := R1; clear R1 O_n
     refine any_ready [4] (by kernel_rfl) (by simp) ?_
     refine ready_do rfl (wn rfl) (fun K hK => ?_) AllReadyH.nil
     refine ow_appR F M R_ rfl rfl rfl rfl _ _ rfl 0 A_112 ((sha x).length) c_112 (sha x) sa ((sha x) ++ sa) rfl rfl (some ⟨g4, 0, none⟩) 16 16 (F.e rfl) (F.e rfl) (Rb.mk' (wd_salt (M.at (i := 3) rfl)) hsa (by decide)) (by omega) ?_
     clear F M R_; intro a A_115 c_115 u F M R_
     replace hS : Mm w u [] := (by refine M.pick' [] _ ?_ (by decide); exact trivial)
     refine hK _ _ hS ?_
     clear hK K
     try clear v
     refine any_val F 5 rfl (by kernel_rfl) (wn rfl) rfl rfl (.slice A_115 (((sha x) ++ sa).length) c_115) (fun w' hS' => ex_assign _ rfl _ (F.e rfl)) hS ?_; clear F a; intro a F
     refine any_done (by kernel_rfl) ?_
     exact ⟨A_112, c_112, A_115, c_115, F.keep ⟨rfl, rfl, rfl, rfl, rfl, rfl, rfl, rfl, rfl, rfl, rfl, rfl, rfl, rfl, rfl, rfl, rfl, trivial⟩, (by refine M.pick' [0, 1, 2, 3] _ ?_ (by decide); exact ⟨rfl, rfl, rfl, rfl, trivial⟩), R_⟩
    clear F M a R_
    intro a u hR; obtain ⟨A_112, c_112, A_115, c_115, F, M, R_⟩ := hR; try clear v
    refine then_n ?_
    refine wp_only (fun ar wr => ∃ (A_117 : Option Addr), ∃ (c_117 : Nat), ∃ (A_120 : Option Addr), ∃ (c_120 : Nat), Fr 122 ar [(0, .slice (some adr) n cl), (2, .bool false), (3, .int .i64 ((i : Nat) : Int)), (4, .pointer (some ⟨g4, 0, none⟩)), (5, .pointer (some ⟨g5, 0, none⟩)), (6, .slice A_115 (((sha x) ++ sa).length) c_115), (7, .slice A_120 (((sha y) ++ sb).length) c_120), (8, .int .i64 ((j + 1 : Nat) : Int)), (9, .pointer (some ⟨g9, 0, none⟩)), (10, .int .i64 0), (11, .pointer (some ⟨g11, 0, none⟩)), (12, .int .i64 0), (20, .bool true), (55, .bool false), (61, .bool true), (103, .bool false), (106, .bool false)] ∧ Mm w wr [⟨g11, (bcs (sha y)).toArray, 24⟩, ⟨g9, (bcs (sha x)).toArray, 24⟩, ⟨g5, (wdCs sb tb rb).toArray, 42⟩, ⟨g4, (wdCs sa ta ra).toArray, 42⟩] ∧ Rs w wr [(.slice A_120 (((sha y) ++ sb).length) c_120, ((sha y) ++ sb)), (.slice A_115 (((sha x) ++ sa).length) c_115, ((sha x) ++ sa)), (.slice A_100 y.length c_100, y), (.slice A_93 x.length c_93, x), (.slice A6 x.length c6, x), (.slice A7 y.length c7, y)]) ?_ ?_
    ·
     refine region_anyM dr_follows_mixedOrders M [] (fun w' M => (by refine M.pick' [] _ ?_ (by decide); exact trivial)) ?_; clear M; intro wD M hb
     replace R_ := R_.below hb
     clear hb; try clear u
     have hS : Mm w wD [] := (by refine M.pick' [] _ ?_ (by decide); exact trivial)
     refine any_val F 0 rfl (by kernel_rfl) (wn rfl) rfl rfl (.slice (some ⟨g11, 0, none⟩) 32 32) (fun w' hS' => ex_all 24 _ rfl 32 dr_sa_24_32 ⟨g11, 0, none⟩ (F.e rfl)) hS ?_; clear F a; intro a F
     refine any_val F 2 rfl (by kernel_rfl) (wn rfl) rfl rfl (.pointer (some ⟨g5, 0, none⟩)) (fun w' hS' => ex_fa _ _ _ rfl _ (F.e rfl) 0 dr_fa_42_0_0 ⟨g5, 0, none⟩ rfl) hS ?_; clear F a; intro a F
     refine any_val F 3 rfl (by kernel_rfl) (wn rfl) rfl rfl (.slice (some ⟨g5, 0, none⟩) 16 16) (fun w' hS' => ex_all 40 _ rfl 16 dr_sa_40_16 ⟨g5, 0, none⟩ (F.e rfl)) hS ?_; clear F a; intro a F
     refine any_ready [1] (by kernel_rfl) (by simp) ?_
     refine ready_do rfl (wn rfl) (fun K hK => ?_) AllReadyH.nil
     refine ow_call rfl rfl F 27 #[.slice (some ⟨g11, 0, none⟩) 32 32] (ex_call 27 _ _ rfl rfl dr_ent_27 _ (map1 (F.e rfl))) (copy_any (sha y) _ 32 32 (by omega) _ (Rb.mk' (M.at (i := 0) rfl) (sha_len _) (by decide))) (fun e v hR => ?_)
     obtain ⟨A_117, c_117, he, O_n, hb⟩ := hR
     have R1 := R_.new hb M.bel.size O_n
     refine ⟨.slice A_117 ((sha y).length) c_117, he, ?_⟩; clear he F a; intro a F
     replace hS : Mm w v [] := (by refine (M.below hb).pick' [] _ ?_ (by decide); exact trivial)
     refine hK _ _ hS ?_
     clear hK K
     replace R_ := R_.below hb
     replace M := M.below hb; clear hb; try clear wD
     replace R_ := R1; clear R1 O_n
     refine any_ready [4] (by kernel_rfl) (by simp) ?_
     refine ready_do rfl (wn rfl) (fun K hK => ?_) AllReadyH.nil
     refine ow_appR F M R_ rfl rfl rfl rfl _ _ rfl 0 A_117 ((sha y).length) c_117 (sha y) sb ((sha y) ++ sb) rfl rfl (some ⟨g5, 0, none⟩) 16 16 (F.e rfl) (F.e rfl) (Rb.mk' (wd_salt (M.at (i := 2) rfl)) hsb (by decide)) (by omega) ?_
     clear F M R_; intro a A_120 c_120 u F M R_
     replace hS : Mm w u [] := (by refine M.pick' [] _ ?_ (by decide); exact trivial)
     refine hK _ _ hS ?_
     clear hK K
     try clear v
     refine any_val F 5 rfl (by kernel_rfl) (wn rfl) rfl rfl (.slice A_120 (((sha y) ++ sb).length) c_120) (fun w' hS' => ex_assign _ rfl _ (F.e rfl)) hS ?_; clear F a; intro a F
     refine any_done (by kernel_rfl) ?_
     exact ⟨A_117, c_117, A_120, c_120, F.keep ⟨rfl, rfl, rfl, rfl, rfl, rfl, rfl, rfl, rfl, rfl, rfl, rfl, rfl, rfl, rfl, rfl, rfl, trivial⟩, (by refine M.pick' [0, 1, 2, 3] _ ?_ (by decide); exact ⟨rfl, rfl, rfl, rfl, trivial⟩), R_⟩
    clear F M a R_
    intro a v hR; obtain ⟨A_117, c_117, A_120, c_120, F, M, R_⟩ := hR; try clear u
    refine in_n ?_
    refine then_n ?_
    refine wp_region_lit ?_
    refine list_val F (wn rfl) rfl rfl (.int .i64 ((j + 1 : Nat) : Int)) (ex_move _ rfl _ (F.e rfl)) ?_; clear F a; intro a F
    refine list_val F (wn rfl) rfl rfl (.int .i64 ((j + 1 + 1 : Nat) : Int)) (ex_bin .add _ _ _ _ rfl .i64 _ _ (F.e rfl) rfl _ (b_add ((w_i64 (by omega) (by omega)).trans (by omega)))) ?_; clear F a; intro a F
    refine list_val F (wn rfl) rfl rfl (.int .i64 ((j + 1 + 1 : Nat) : Int)) (ex_assign _ rfl _ (F.e rfl)) ?_; clear F a; intro a F
    refine wpList_nil ?_
    replace F : Fr 122 a [(0, .slice (some adr) n cl), (2, .bool false), (3, .int .i64 ((i : Nat) : Int)), (4, .pointer (some ⟨g4, 0, none⟩)), (5, .pointer (some ⟨g5, 0, none⟩)), (6, .slice A_115 (((sha x) ++ sa).length) c_115), (7, .slice A_120 (((sha y) ++ sb).length) c_120), (8, .int .i64 ((j + 1 + 1 : Nat) : Int)), (9, .pointer (some ⟨g9, 0, none⟩)), (10, .int .i64 0), (11, .pointer (some ⟨g11, 0, none⟩)), (12, .int .i64 0), (20, .bool true), (55, .bool false), (61, .bool true), (103, .bool false), (106, .bool false)] := F.keep ⟨rfl, rfl, rfl, rfl, rfl, rfl, rfl, rfl, rfl, rfl, rfl, rfl, rfl, rfl, rfl, rfl, rfl, trivial⟩
    refine then_n ?_
    replace R_ := R_.pick [1, 0] [_, _] ⟨rfl, rfl, trivial⟩ (by decide)
    exact ⟨5 - (j + 1), by omega, (j + 1), (sha x ++ sa), (sha y ++ sb), A_115, c_115, A_120, c_120, F.keep ⟨rfl, rfl, rfl, rfl, rfl, rfl, rfl, rfl, rfl, rfl, trivial⟩, (by refine M.pick' [2, 3] _ ?_ (by decide); exact ⟨rfl, rfl, trivial⟩), R_, (by omega), (passR_step hcx), (passR_step hcy), (app_ne hlx hly hcd), (by rw [List.length_append]; omega), (by rw [List.length_append]; omega), (by omega)⟩
   refine wp_seq ?_
   refine wp_seq ?_
   refine wp_region_lit ?_
   refine list_val F (wn rfl) rfl rfl (.int .i64 ((j + 1 : Nat) : Int)) (ex_move _ rfl _ (F.e rfl)) ?_; clear F a; intro a F
   refine list_val F (wn rfl) rfl rfl (.bool false) (ex_bin .leq _ _ _ _ rfl .i64 _ _ (F.e rfl) rfl _ (b_leq (decide_eq_false (by omega)))) ?_; clear F a; intro a F
   refine wpList_nil ?_
   replace F : Fr 122 a [(0, .slice (some adr) n cl), (2, .bool false), (3, .int .i64 ((i : Nat) : Int)), (4, .pointer (some ⟨g4, 0, none⟩)), (5, .pointer (some ⟨g5, 0, none⟩)), (6, .slice A6 x.length c6), (7, .slice A7 y.length c7), (8, .int .i64 ((j + 1 : Nat) : Int)), (20, .bool true), (55, .bool false), (61, .bool false)] := F.keep ⟨rfl, rfl, rfl, rfl, rfl, rfl, rfl, rfl, rfl, rfl, rfl, trivial⟩
   refine then_n ?_
   refine wp_cond_false (F.e rfl) ?_
   refine wp_exit ?_
   refine then_x ?_
   refine then_x ?_
   refine in_hit ?_
   refine in_n ?_
   refine then_n ?_
   refine wp_region_lit ?_
   refine list_val F (wn rfl) rfl rfl (.int .i64 ((i : Nat) : Int)) (ex_move _ rfl _ (F.e rfl)) ?_; clear F a; intro a F
   refine list_val F (wn rfl) rfl rfl (.int .i64 ((i + 1 : Nat) : Int)) (ex_bin .add _ _ _ _ rfl .i64 _ _ (F.e rfl) rfl _ (b_add ((w_i64 (by omega) (by omega)).trans (by omega)))) ?_; clear F a; intro a F
   refine list_val F (wn rfl) rfl rfl (.int .i64 ((i + 1 : Nat) : Int)) (ex_assign _ rfl _ (F.e rfl)) ?_; clear F a; intro a F
   refine wpList_nil ?_
   replace F : Fr 122 a [(0, .slice (some adr) n cl), (2, .bool false), (3, .int .i64 ((i + 1 : Nat) : Int)), (4, .pointer (some ⟨g4, 0, none⟩)), (5, .pointer (some ⟨g5, 0, none⟩)), (6, .slice A6 x.length c6), (7, .slice A7 y.length c7), (8, .int .i64 ((j + 1 : Nat) : Int)), (20, .bool true), (55, .bool false), (61, .bool false)] := F.keep ⟨rfl, rfl, rfl, rfl, rfl, rfl, rfl, rfl, rfl, rfl, rfl, trivial⟩
   refine then_n ?_
   replace R_ := R_.pick [] [] trivial (by decide)
   exact ⟨7 - ((i - 1) + 1), by omega, (i + 1), F.keep ⟨rfl, rfl, rfl, trivial⟩, (by refine M.pick' [] _ ?_ (by decide); exact trivial), R_, (by omega), (by omega), (by omega)⟩
  refine wp_seq ?_
  refine wp_seq ?_
  refine wp_region_lit ?_
  refine list_val F (wn rfl) rfl rfl (.int .i64 ((i : Nat) : Int)) (ex_move _ rfl _ (F.e rfl)) ?_; clear F a; intro a F
  refine list_val F (wn rfl) rfl rfl (.slice Ls n cl) (ex_move _ rfl _ (F.e rfl)) ?_; clear F a; intro a F
  refine list_val F (wn rfl) rfl rfl (.int .i64 ((n : Nat) : Int)) (ex_len _ _ rfl 18 dr_sl_38_18 _ _ _ (F.e rfl)) ?_; clear F a; intro a F
  refine list_val F (wn rfl) rfl rfl (.bool true) (ex_bin .lss _ _ _ _ rfl .i64 _ _ (F.e rfl) (F.e rfl) _ (b_lss (decide_eq_true (by omega)))) ?_; clear F a; intro a F
  refine list_val F (wn rfl) rfl rfl (.bool true) (ex_move _ rfl _ (F.e rfl)) ?_; clear F a; intro a F
  refine list_val F (F.wants 17 true rfl (by kernel_rfl) rfl true rfl) rfl rfl (.int .i64 ((i : Nat) : Int)) (ex_move _ rfl _ (F.e rfl)) ?_; clear F a; intro a F
  refine list_val F (F.wants 17 true rfl (by kernel_rfl) rfl true rfl) rfl rfl (.bool false) (ex_bin .lss _ _ _ _ rfl .i64 _ _ (F.e rfl) rfl _ (b_lss (decide_eq_false (by omega)))) ?_; clear F a; intro a F
  refine list_val F (wn rfl) rfl rfl (.bool false) (ex_pick_t _ _ _ rfl (F.e rfl) _ (F.e rfl)) ?_; clear F a; intro a F
  refine wpList_nil ?_
  replace F : Fr 122 a [(0, .slice Ls n cl), (2, .bool false), (3, .int .i64 ((i : Nat) : Int)), (20, .bool false)] := F.keep ⟨rfl, rfl, rfl, rfl, trivial⟩
  refine then_n ?_
  refine wp_cond_false (F.e rfl) ?_
  refine wp_exit ?_
  refine then_x ?_
  refine then_x ?_
  refine in_hit ?_
  refine then_n ?_
  refine wp_seq ?_
  replace R_ := R_.pick [] [] trivial (by decide)
  refine wp_region_lit ?_
  refine list_do (wn rfl) (fun K hK => ?_)
  refine ow_call rfl rfl F 19 #[] (ex_call 19 _ _ rfl rfl dr_ent_19 _ (map0)) (wakes_any _ (hKt.below M.bel)) (fun e u hR => ?_)
  obtain ⟨he, hb⟩ := hR
  refine ⟨.bool true, he, ?_⟩; clear he F a; intro a F
  refine hK _ _ ?_
  clear hK K
  replace R_ := R_.below hb
  replace M := M.below hb; clear hb; try clear v
  refine list_val F (wn rfl) rfl rfl (.bool true) (ex_assign _ rfl _ (F.e rfl)) ?_; clear F a; intro a F
  refine wpList_nil ?_
  replace F : Fr 122 a [(0, .slice Ls n cl), (2, .bool true), (3, .int .i64 ((i : Nat) : Int)), (20, .bool false)] := F.keep ⟨rfl, rfl, rfl, rfl, trivial⟩
  refine then_n ?_
  refine wp_ret ?_
  exact ret_tmp F rfl rfl ⟨rfl, M.bel⟩
 refine wp_seq ?_
 refine wp_seq ?_
 refine wp_region_lit ?_
 refine list_val F (wn rfl) rfl rfl (.int .i64 ((i : Nat) : Int)) (ex_move _ rfl _ (F.e rfl)) ?_; clear F a; intro a F
 refine list_val F (wn rfl) rfl rfl (.slice Ls n cl) (ex_move _ rfl _ (F.e rfl)) ?_; clear F a; intro a F
 refine list_val F (wn rfl) rfl rfl (.int .i64 ((n : Nat) : Int)) (ex_len _ _ rfl 18 dr_sl_38_18 _ _ _ (F.e rfl)) ?_; clear F a; intro a F
 refine list_val F (wn rfl) rfl rfl (.bool false) (ex_bin .lss _ _ _ _ rfl .i64 _ _ (F.e rfl) (F.e rfl) _ (b_lss (decide_eq_false (by omega)))) ?_; clear F a; intro a F
 refine list_val F (wn rfl) rfl rfl (.bool false) (ex_move _ rfl _ (F.e rfl)) ?_; clear F a; intro a F
 refine list_skip F (F.wants 17 false rfl (by kernel_rfl) rfl false rfl) rfl rfl ?_; clear F a; intro a F
 refine list_skip F (F.wants 17 false rfl (by kernel_rfl) rfl false rfl) rfl rfl ?_; clear F a; intro a F
 refine list_val F (wn rfl) rfl rfl (.bool false) (ex_pick_f _ _ _ rfl (F.e rfl) _ rfl) ?_; clear F a; intro a F
 refine wpList_nil ?_
 replace F : Fr 122 a [(0, .slice Ls n cl), (2, .bool false), (3, .int .i64 ((i : Nat) : Int)), (20, .bool false)] := F.keep ⟨rfl, rfl, rfl, rfl, trivial⟩
 refine then_n ?_
 refine wp_cond_false (F.e rfl) ?_
 refine wp_exit ?_
 refine then_x ?_
 refine then_x ?_
 refine in_hit ?_
 refine then_n ?_
 refine wp_seq ?_
 replace R_ := R_.pick [] [] trivial (by decide)
 refine wp_region_lit ?_
 refine list_do (wn rfl) (fun K hK => ?_)
 refine ow_call rfl rfl F 19 #[] (ex_call 19 _ _ rfl rfl dr_ent_19 _ (map0)) (wakes_any _ (hKt.below M.bel)) (fun e u hR => ?_)
 obtain ⟨he, hb⟩ := hR
 refine ⟨.bool true, he, ?_⟩; clear he F a; intro a F
 refine hK _ _ ?_
 clear hK K
 replace R_ := R_.below hb
 replace M := M.below hb; clear hb; try clear v
 refine list_val F (wn rfl) rfl rfl (.bool true) (ex_assign _ rfl _ (F.e rfl)) ?_; clear F a; intro a F
 refine wpList_nil ?_
 replace F : Fr 122 a [(0, .slice Ls n cl), (2, .bool true), (3, .int .i64 ((i : Nat) : Int)), (20, .bool false)] := F.keep ⟨rfl, rfl, rfl, rfl, trivial⟩
 refine then_n ?_
 refine wp_ret ?_
 exact ret_tmp F rfl rfl ⟨rfl, M.bel⟩
end Go.Proofs.YtkppipeadibfkaaDoor
