/- The walks of posternref0.Less (76), posternref14.ahead (32), greater (36), revoke.Check (17) and posternref14.Check (18) of any row. Conditions: the row is read. -/
import Derived.Test.YtnjbjjmoglogeaaGreatS0
namespace Go.Proofs.YtnjbjjmoglogeaaGreat
open Go.RowKit Go.Proofs.YtnjbjjmoglogeaaGreatW.PrintWords KB WG RO
set_option linter.unusedVariables false
set_option linter.unusedSimpArgs false
set_option linter.unnecessarySimpa false
theorem at_byte {w : World} {p : Addr} {x : Bs 16} {i : Nat} {b : BitVec 8} (h : At w p x.cs) (hb : x.1[i]? = some b) : At w (p.add (i * 1)) [.int .u8 (b.toNat : Int)] := fun j v hv => by
  have hj : j = 0 := by have := (List.getElem?_eq_some_iff.1 hv).1; simp at this; omega
  subst hj
  have h2 := h i (.int .u8 (b.toNat : Int)) (by
    show (((x.1.map (fun x : BitVec 8 => (x.toNat : Int))).map (Value.int .u8)))[i]? = _
    rw [List.getElem?_map, List.getElem?_map, hb]; rfl)
  obtain rfl : Value.int .u8 (b.toNat : Int) = v := by simpa using hv
  rw [Addr.add_add, Nat.mul_one, Nat.add_zero]
  exact h2
theorem by_lt {a b : BitVec 8} : decide ((a.toNat : Int) < (b.toNat : Int)) = decide (a.toNat < b.toNat) := decide_eq_decide.2 (by omega)
theorem s1_sl_52_1 : sl? Tryz.prog 52 1 = true := by kernel_rfl
theorem s1_follows_mixedOrders : Tryz.prog.follows .mixedOrders = true := by kernel_rfl
theorem s1_one_5 : one? Tryz.prog 5 = true := by kernel_rfl
set_option maxHeartbeats 1000000 in
set_option maxRecDepth 100000 in
theorem less_any (x y : Bs 16) (p q : Addr) (c d : Nat) (w : World) (ha : At w p x.cs) (hb : At w q y.cs) :
    Calls Tryz.prog 76 #[.slice (some p) 16 c, .slice (some q) 16 d] w fun e w' => e = .returned (.bool (decide (num x.1 < num y.1))) ∧ Below w.heap.size w w' := by
 refine calls_start Tryz.func76 rfl rfl rfl (fun a F => ?_)
 have M : Mm w w [] := Mm.nil w
 refine wp_seq ?_
 refine wp_region_lit ?_
 refine list_val F (wn rfl) rfl rfl (.bool false) (ex_assign _ rfl _ rfl) ?_; clear F a; intro a F
 refine wpList_nil ?_
 replace F : Fr 41 a [(0, .slice (some p) 16 c), (1, .slice (some q) 16 d), (4, .bool false)] := F.keep ⟨rfl, rfl, rfl, trivial⟩
 refine then_n ?_
 refine wp_seq ?_
 refine wp_seq ?_
 refine wp_region_lit ?_
 refine list_val F (wn rfl) rfl rfl (.int .i64 0) (ex_assign _ rfl _ rfl) ?_; clear F a; intro a F
 refine wpList_nil ?_
 replace F : Fr 41 a [(0, .slice (some p) 16 c), (1, .slice (some q) 16 d), (4, .bool false), (5, .int .i64 0)] := F.keep ⟨rfl, rfl, rfl, rfl, trivial⟩
 refine then_n ?_
 refine wp_block ?_
 refine wp_loopN (fun mq ar wr => ∃ (i : Nat), Fr 41 ar [(0, .slice (some p) 16 c), (1, .slice (some q) 16 d), (4, .bool false), (5, .int .i64 ((i : Nat) : Int))] ∧ Mm w wr [] ∧ i ≤ 16 ∧ (∀ (j : Nat), j < i → x.1[j]? = y.1[j]?) ∧ mq + i = 16) 16 ?_ ?_
 ·
  exact ⟨0, F.keep ⟨rfl, rfl, rfl, rfl, trivial⟩, M, (Nat.zero_le _), (fun j hj => absurd hj (Nat.not_lt_zero j)), (by omega)⟩
 clear F M a
 rintro mq a v ⟨i, F, M, hi, hs, hq⟩; try clear w
 by_cases hin : i < 16
 ·
  obtain ⟨bx, hbx⟩ : ∃ b, x.1[i]? = some b := ⟨_, List.getElem?_eq_getElem (by rw [x.2]; omega)⟩
  obtain ⟨by_, hby⟩ : ∃ b, y.1[i]? = some b := ⟨_, List.getElem?_eq_getElem (by rw [y.2]; omega)⟩
  have zx := at_byte ha hbx
  have zy := at_byte hb hby
  refine wp_seq ?_
  refine wp_seq ?_
  refine wp_region_lit ?_
  refine list_val F (wn rfl) rfl rfl (.int .i64 ((i : Nat) : Int)) (ex_move _ rfl _ (F.e rfl)) ?_; clear F a; intro a F
  refine list_val F (wn rfl) rfl rfl (.slice (some p) 16 c) (ex_move _ rfl _ (F.e rfl)) ?_; clear F a; intro a F
  refine list_val F (wn rfl) rfl rfl (.int .i64 16) (ex_len _ _ rfl 1 s1_sl_52_1 _ _ _ (F.e rfl)) ?_; clear F a; intro a F
  refine list_val F (wn rfl) rfl rfl (.bool true) (ex_bin .lss _ _ _ _ rfl .i64 _ _ (F.e rfl) (F.e rfl) _ (b_lss (decide_eq_true (by omega)))) ?_; clear F a; intro a F
  refine list_val F (wn rfl) rfl rfl (.bool true) (ex_move _ rfl _ (F.e rfl)) ?_; clear F a; intro a F
  refine list_val F (F.wants 10 true rfl (by kernel_rfl) rfl true rfl) rfl rfl (.int .i64 ((i : Nat) : Int)) (ex_move _ rfl _ (F.e rfl)) ?_; clear F a; intro a F
  refine list_val F (F.wants 10 true rfl (by kernel_rfl) rfl true rfl) rfl rfl (.slice (some q) 16 d) (ex_move _ rfl _ (F.e rfl)) ?_; clear F a; intro a F
  refine list_val F (F.wants 10 true rfl (by kernel_rfl) rfl true rfl) rfl rfl (.int .i64 16) (ex_len _ _ rfl 1 s1_sl_52_1 _ _ _ (F.e rfl)) ?_; clear F a; intro a F
  refine list_val F (F.wants 10 true rfl (by kernel_rfl) rfl true rfl) rfl rfl (.bool true) (ex_bin .lss _ _ _ _ rfl .i64 _ _ (F.e rfl) (F.e rfl) _ (b_lss (decide_eq_true (by omega)))) ?_; clear F a; intro a F
  refine list_val F (wn rfl) rfl rfl (.bool true) (ex_pick_t _ _ _ rfl (F.e rfl) _ (F.e rfl)) ?_; clear F a; intro a F
  refine wpList_nil ?_
  replace F : Fr 41 a [(0, .slice (some p) 16 c), (1, .slice (some q) 16 d), (4, .bool false), (5, .int .i64 ((i : Nat) : Int)), (15, .bool true)] := F.keep ⟨rfl, rfl, rfl, rfl, rfl, trivial⟩
  refine then_n ?_
  refine wp_cond_true (F.e rfl) ?_
  refine wp_skip ?_
  refine then_n ?_
  refine wp_seq ?_
  refine wp_block ?_
  refine wp_seq ?_
  by_cases heq : bx = by_
  ·
   refine region_tail 8 s1_follows_mixedOrders (by kernel_rfl) M ?_; clear M; intro u M hb
   clear hb; try clear v
   refine still_val F (wn rfl) rfl rfl (.slice (some p) 16 c) (ex_move _ rfl _ (F.e rfl)) ?_; clear F a; intro a F
   refine still_val F (wn rfl) rfl rfl (.int .i64 ((i : Nat) : Int)) (ex_move _ rfl _ (F.e rfl)) ?_; clear F a; intro a F
   refine still_val F (wn rfl) rfl rfl (.pointer (some (p.add (i * 1)))) (ex_ix _ _ _ rfl 1 s1_sl_52_1 p _ _ (F.e rfl) .i64 _ (F.e rfl) i rfl (by omega) (p.add (i * 1)) rfl) ?_; clear F a; intro a F
   refine still_val F (wn rfl) rfl rfl (.int .u8 (bx.toNat : Int)) (ex_load _ _ rfl _ (F.e rfl) _ (lv1 s1_one_5 ((zx.below M.bel).cell 0 _ rfl))) ?_; clear F a; intro a F
   refine still_val F (wn rfl) rfl rfl (.slice (some q) 16 d) (ex_move _ rfl _ (F.e rfl)) ?_; clear F a; intro a F
   refine still_val F (wn rfl) rfl rfl (.int .i64 ((i : Nat) : Int)) (ex_move _ rfl _ (F.e rfl)) ?_; clear F a; intro a F
   refine still_val F (wn rfl) rfl rfl (.pointer (some (q.add (i * 1)))) (ex_ix _ _ _ rfl 1 s1_sl_52_1 q _ _ (F.e rfl) .i64 _ (F.e rfl) i rfl (by omega) (q.add (i * 1)) rfl) ?_; clear F a; intro a F
   refine still_val F (wn rfl) rfl rfl (.int .u8 (by_.toNat : Int)) (ex_load _ _ rfl _ (F.e rfl) _ (lv1 s1_one_5 ((zy.below M.bel).cell 0 _ rfl))) ?_; clear F a; intro a F
   refine still_end ?_
   refine list_val F (wn rfl) rfl rfl (.bool false) (ex_bin .neq _ _ _ _ rfl .u8 _ _ (F.e rfl) (F.e rfl) _ (b_neq (by rw [heq]; simp))) ?_; clear F a; intro a F
   refine wpList_nil ?_
   replace F : Fr 41 a [(0, .slice (some p) 16 c), (1, .slice (some q) 16 d), (4, .bool false), (5, .int .i64 ((i : Nat) : Int)), (15, .bool true), (26, .bool false)] := F.keep ⟨rfl, rfl, rfl, rfl, rfl, rfl, trivial⟩
   refine then_n ?_
   refine wp_cond_false (F.e rfl) ?_
   refine wp_skip ?_
   refine in_n ?_
   refine then_n ?_
   refine wp_region_lit ?_
   refine list_val F (wn rfl) rfl rfl (.int .i64 ((i : Nat) : Int)) (ex_move _ rfl _ (F.e rfl)) ?_; clear F a; intro a F
   refine list_val F (wn rfl) rfl rfl (.int .i64 ((i + 1 : Nat) : Int)) (ex_bin .add _ _ _ _ rfl .i64 _ _ (F.e rfl) rfl _ (b_add ((w_i64 (by omega) (by omega)).trans (by omega)))) ?_; clear F a; intro a F
   refine list_val F (wn rfl) rfl rfl (.int .i64 ((i + 1 : Nat) : Int)) (ex_assign _ rfl _ (F.e rfl)) ?_; clear F a; intro a F
   refine wpList_nil ?_
   replace F : Fr 41 a [(0, .slice (some p) 16 c), (1, .slice (some q) 16 d), (4, .bool false), (5, .int .i64 ((i + 1 : Nat) : Int)), (15, .bool true), (26, .bool false)] := F.keep ⟨rfl, rfl, rfl, rfl, rfl, rfl, trivial⟩
   refine then_n ?_
   exact ⟨16 - (i + 1), by omega, (i + 1), F.keep ⟨rfl, rfl, rfl, rfl, trivial⟩, (by refine M.pick' [] _ ?_ (by decide); exact trivial), (by omega), (fun j hj => (Nat.lt_or_eq_of_le (Nat.le_of_lt_succ hj)).elim (fun h_ => hs j h_) (fun h_ => by subst h_; rw [hbx, hby, heq])), (by omega)⟩
  refine region_tail 8 s1_follows_mixedOrders (by kernel_rfl) M ?_; clear M; intro u M hb
  clear hb; try clear v
  refine still_val F (wn rfl) rfl rfl (.slice (some p) 16 c) (ex_move _ rfl _ (F.e rfl)) ?_; clear F a; intro a F
  refine still_val F (wn rfl) rfl rfl (.int .i64 ((i : Nat) : Int)) (ex_move _ rfl _ (F.e rfl)) ?_; clear F a; intro a F
  refine still_val F (wn rfl) rfl rfl (.pointer (some (p.add (i * 1)))) (ex_ix _ _ _ rfl 1 s1_sl_52_1 p _ _ (F.e rfl) .i64 _ (F.e rfl) i rfl (by omega) (p.add (i * 1)) rfl) ?_; clear F a; intro a F
  refine still_val F (wn rfl) rfl rfl (.int .u8 (bx.toNat : Int)) (ex_load _ _ rfl _ (F.e rfl) _ (lv1 s1_one_5 ((zx.below M.bel).cell 0 _ rfl))) ?_; clear F a; intro a F
  refine still_val F (wn rfl) rfl rfl (.slice (some q) 16 d) (ex_move _ rfl _ (F.e rfl)) ?_; clear F a; intro a F
  refine still_val F (wn rfl) rfl rfl (.int .i64 ((i : Nat) : Int)) (ex_move _ rfl _ (F.e rfl)) ?_; clear F a; intro a F
  refine still_val F (wn rfl) rfl rfl (.pointer (some (q.add (i * 1)))) (ex_ix _ _ _ rfl 1 s1_sl_52_1 q _ _ (F.e rfl) .i64 _ (F.e rfl) i rfl (by omega) (q.add (i * 1)) rfl) ?_; clear F a; intro a F
  refine still_val F (wn rfl) rfl rfl (.int .u8 (by_.toNat : Int)) (ex_load _ _ rfl _ (F.e rfl) _ (lv1 s1_one_5 ((zy.below M.bel).cell 0 _ rfl))) ?_; clear F a; intro a F
  refine still_end ?_
  refine list_val F (wn rfl) rfl rfl (.bool true) (ex_bin .neq _ _ _ _ rfl .u8 _ _ (F.e rfl) (F.e rfl) _ (b_neq (by rw [bne_iff_ne]; intro h_; exact heq (BitVec.eq_of_toNat_eq (by omega))))) ?_; clear F a; intro a F
  refine wpList_nil ?_
  replace F : Fr 41 a [(0, .slice (some p) 16 c), (1, .slice (some q) 16 d), (4, .bool false), (5, .int .i64 ((i : Nat) : Int)), (15, .bool true), (26, .bool true)] := F.keep ⟨rfl, rfl, rfl, rfl, rfl, rfl, trivial⟩
  refine then_n ?_
  refine wp_cond_true (F.e rfl) ?_
  refine wp_seq ?_
  refine region_tail 9 s1_follows_mixedOrders (by kernel_rfl) M ?_; clear M; intro v M hb
  clear hb; try clear u
  refine still_val F (wn rfl) rfl rfl (.slice (some p) 16 c) (ex_move _ rfl _ (F.e rfl)) ?_; clear F a; intro a F
  refine still_val F (wn rfl) rfl rfl (.int .i64 ((i : Nat) : Int)) (ex_move _ rfl _ (F.e rfl)) ?_; clear F a; intro a F
  refine still_val F (wn rfl) rfl rfl (.pointer (some (p.add (i * 1)))) (ex_ix _ _ _ rfl 1 s1_sl_52_1 p _ _ (F.e rfl) .i64 _ (F.e rfl) i rfl (by omega) (p.add (i * 1)) rfl) ?_; clear F a; intro a F
  refine still_val F (wn rfl) rfl rfl (.int .u8 (bx.toNat : Int)) (ex_load _ _ rfl _ (F.e rfl) _ (lv1 s1_one_5 ((zx.below M.bel).cell 0 _ rfl))) ?_; clear F a; intro a F
  refine still_val F (wn rfl) rfl rfl (.slice (some q) 16 d) (ex_move _ rfl _ (F.e rfl)) ?_; clear F a; intro a F
  refine still_val F (wn rfl) rfl rfl (.int .i64 ((i : Nat) : Int)) (ex_move _ rfl _ (F.e rfl)) ?_; clear F a; intro a F
  refine still_val F (wn rfl) rfl rfl (.pointer (some (q.add (i * 1)))) (ex_ix _ _ _ rfl 1 s1_sl_52_1 q _ _ (F.e rfl) .i64 _ (F.e rfl) i rfl (by omega) (q.add (i * 1)) rfl) ?_; clear F a; intro a F
  refine still_val F (wn rfl) rfl rfl (.int .u8 (by_.toNat : Int)) (ex_load _ _ rfl _ (F.e rfl) _ (lv1 s1_one_5 ((zy.below M.bel).cell 0 _ rfl))) ?_; clear F a; intro a F
  refine still_val F (wn rfl) rfl rfl (.bool (decide (num x.1 < num y.1))) (ex_bin .lss _ _ _ _ rfl .u8 _ _ (F.e rfl) (F.e rfl) _ (b_lss (by_lt.trans (num_first (x.2.trans y.2.symm) (fun j hj => hs j hj) hbx hby heq)))) ?_; clear F a; intro a F
  refine still_end ?_
  refine list_val F (wn rfl) rfl rfl (.bool (decide (num x.1 < num y.1))) (ex_assign _ rfl _ (F.e rfl)) ?_; clear F a; intro a F
  refine wpList_nil ?_
  replace F : Fr 41 a [(0, .slice (some p) 16 c), (1, .slice (some q) 16 d), (4, .bool (decide (num x.1 < num y.1))), (5, .int .i64 ((i : Nat) : Int)), (15, .bool true), (26, .bool true)] := F.keep ⟨rfl, rfl, rfl, rfl, rfl, rfl, trivial⟩
  refine then_n ?_
  refine wp_ret ?_
  refine in_r ?_
  refine then_r ?_
  refine then_r ?_
  refine in_r ?_
  refine then_r ?_
  exact ret_tmp F rfl rfl ⟨rfl, M.bel⟩
 refine wp_seq ?_
 refine wp_seq ?_
 refine wp_region_lit ?_
 refine list_val F (wn rfl) rfl rfl (.int .i64 ((i : Nat) : Int)) (ex_move _ rfl _ (F.e rfl)) ?_; clear F a; intro a F
 refine list_val F (wn rfl) rfl rfl (.slice (some p) 16 c) (ex_move _ rfl _ (F.e rfl)) ?_; clear F a; intro a F
 refine list_val F (wn rfl) rfl rfl (.int .i64 16) (ex_len _ _ rfl 1 s1_sl_52_1 _ _ _ (F.e rfl)) ?_; clear F a; intro a F
 refine list_val F (wn rfl) rfl rfl (.bool false) (ex_bin .lss _ _ _ _ rfl .i64 _ _ (F.e rfl) (F.e rfl) _ (b_lss (decide_eq_false (by omega)))) ?_; clear F a; intro a F
 refine list_val F (wn rfl) rfl rfl (.bool false) (ex_move _ rfl _ (F.e rfl)) ?_; clear F a; intro a F
 refine list_skip F (F.wants 10 false rfl (by kernel_rfl) rfl false rfl) rfl rfl ?_; clear F a; intro a F
 refine list_skip F (F.wants 10 false rfl (by kernel_rfl) rfl false rfl) rfl rfl ?_; clear F a; intro a F
 refine list_skip F (F.wants 10 false rfl (by kernel_rfl) rfl false rfl) rfl rfl ?_; clear F a; intro a F
 refine list_skip F (F.wants 10 false rfl (by kernel_rfl) rfl false rfl) rfl rfl ?_; clear F a; intro a F
 refine list_val F (wn rfl) rfl rfl (.bool false) (ex_pick_f _ _ _ rfl (F.e rfl) _ rfl) ?_; clear F a; intro a F
 refine wpList_nil ?_
 replace F : Fr 41 a [(0, .slice (some p) 16 c), (1, .slice (some q) 16 d), (4, .bool false), (5, .int .i64 ((i : Nat) : Int)), (15, .bool false)] := F.keep ⟨rfl, rfl, rfl, rfl, rfl, trivial⟩
 refine then_n ?_
 refine wp_cond_false (F.e rfl) ?_
 refine wp_exit ?_
 refine then_x ?_
 refine then_x ?_
 refine in_hit ?_
 refine then_n ?_
 refine wp_seq ?_
 obtain rfl : x = y := bytes_ext fun j hj => hs j (by omega)
 refine wp_region_lit ?_
 refine list_val F (wn rfl) rfl rfl (.slice (some p) 16 c) (ex_move _ rfl _ (F.e rfl)) ?_; clear F a; intro a F
 refine list_val F (wn rfl) rfl rfl (.int .i64 16) (ex_len _ _ rfl 1 s1_sl_52_1 _ _ _ (F.e rfl)) ?_; clear F a; intro a F
 refine list_val F (wn rfl) rfl rfl (.slice (some q) 16 d) (ex_move _ rfl _ (F.e rfl)) ?_; clear F a; intro a F
 refine list_val F (wn rfl) rfl rfl (.int .i64 16) (ex_len _ _ rfl 1 s1_sl_52_1 _ _ _ (F.e rfl)) ?_; clear F a; intro a F
 refine list_val F (wn rfl) rfl rfl (.bool (decide (num x.1 < num x.1))) (ex_bin .lss _ _ _ _ rfl .i64 _ _ (F.e rfl) (F.e rfl) _ (b_lss (by simp))) ?_; clear F a; intro a F
 refine list_val F (wn rfl) rfl rfl (.bool (decide (num x.1 < num x.1))) (ex_assign _ rfl _ (F.e rfl)) ?_; clear F a; intro a F
 refine wpList_nil ?_
 replace F : Fr 41 a [(0, .slice (some p) 16 c), (1, .slice (some q) 16 d), (4, .bool (decide (num x.1 < num x.1))), (5, .int .i64 ((i : Nat) : Int)), (15, .bool false)] := F.keep ⟨rfl, rfl, rfl, rfl, rfl, trivial⟩
 refine then_n ?_
 refine wp_ret ?_
 exact ret_tmp F rfl rfl ⟨rfl, M.bel⟩
theorem s1_fa_85_1_1 : fa? Tryz.prog 85 1 1 = true := by kernel_rfl
theorem s1_one_67 : one? Tryz.prog 67 = true := by kernel_rfl
theorem s1_fa_85_2_2 : fa? Tryz.prog 85 2 2 = true := by kernel_rfl
theorem s1_sa_69_16 : sa? Tryz.prog 69 16 = true := by kernel_rfl
theorem s1_ent_76 : ent? Tryz.prog 76 = true := by kernel_rfl
set_option maxHeartbeats 1000000 in
set_option maxRecDepth 100000 in
theorem ahead_any (x y : Rv) (w : World) : Calls Tryz.prog 32 #[.agg x.arr, .agg y.arr] w fun e w' => e = .returned (.bool (decide (key x < key y))) ∧ Below w.heap.size w w' := by
 refine calls_start Tryz.func32 rfl rfl rfl (fun a F => ?_)
 have M : Mm w w [] := Mm.nil w
 refine wp_seq ?_
 refine wp_region_lit ?_
 refine list_do (wn rfl) (fun K hK => ?_)
 refine ow_box F M rfl rfl 85 _ rfl _ (F.e rfl) x.arr rfl ?_
 clear F M a; intro a g2 v F M hb hg
 refine hK _ _ ?_
 clear hK K
 clear hb hg; try clear w
 refine list_do (wn rfl) (fun K hK => ?_)
 refine ow_box F M rfl rfl 85 _ rfl _ (F.e rfl) y.arr rfl ?_
 clear F M a; intro a g3 u F M hb hg
 refine hK _ _ ?_
 clear hK K
 clear hb hg; try clear v
 refine list_val F (wn rfl) rfl rfl (.bool false) (ex_assign _ rfl _ rfl) ?_; clear F a; intro a F
 refine wpList_nil ?_
 replace F : Fr 20 a [(0, .agg x.arr), (1, .agg y.arr), (2, .pointer (some ⟨g2, 0, none⟩)), (3, .pointer (some ⟨g3, 0, none⟩)), (4, .bool false)] := F.keep ⟨rfl, rfl, rfl, rfl, rfl, trivial⟩
 refine then_n ?_
 refine wp_seq ?_
 refine wp_seq ?_
 by_cases hgr : x.grant = y.grant
 ·
  refine wp_region_lit ?_
  refine list_val F (wn rfl) rfl rfl (.pointer (some ⟨g2, 1, none⟩)) (ex_fa _ _ _ rfl _ (F.e rfl) 1 s1_fa_85_1_1 ⟨g2, 1, none⟩ rfl) ?_; clear F a; intro a F
  refine list_val F (wn rfl) rfl rfl (.int .u64 x.grant) (ex_load _ _ rfl _ (F.e rfl) _ (lv1 s1_one_67 (M.cell (i := 1) rfl (j := 1) (Rv.arr_1 _)))) ?_; clear F a; intro a F
  refine list_val F (wn rfl) rfl rfl (.pointer (some ⟨g3, 1, none⟩)) (ex_fa _ _ _ rfl _ (F.e rfl) 1 s1_fa_85_1_1 ⟨g3, 1, none⟩ rfl) ?_; clear F a; intro a F
  refine list_val F (wn rfl) rfl rfl (.int .u64 y.grant) (ex_load _ _ rfl _ (F.e rfl) _ (lv1 s1_one_67 (M.cell (i := 0) rfl (j := 1) (Rv.arr_1 _)))) ?_; clear F a; intro a F
  refine list_val F (wn rfl) rfl rfl (.bool false) (ex_bin .neq _ _ _ _ rfl .u64 _ _ (F.e rfl) (F.e rfl) _ (b_neq (by simp [hgr]))) ?_; clear F a; intro a F
  refine wpList_nil ?_
  replace F : Fr 20 a [(0, .agg x.arr), (1, .agg y.arr), (2, .pointer (some ⟨g2, 0, none⟩)), (3, .pointer (some ⟨g3, 0, none⟩)), (4, .bool false), (9, .bool false)] := F.keep ⟨rfl, rfl, rfl, rfl, rfl, rfl, trivial⟩
  refine then_n ?_
  refine wp_cond_false (F.e rfl) ?_
  refine wp_skip ?_
  refine then_n ?_
  refine wp_seq ?_
  refine region_tail 4 s1_follows_mixedOrders (by kernel_rfl) M ?_; clear M; intro v M hb
  clear hb; try clear u
  refine still_val F (wn rfl) rfl rfl (.pointer (some ⟨g2, 2, none⟩)) (ex_fa _ _ _ rfl _ (F.e rfl) 2 s1_fa_85_2_2 ⟨g2, 2, none⟩ rfl) ?_; clear F a; intro a F
  refine still_val F (wn rfl) rfl rfl (.slice (some ⟨g2, 2, none⟩) 16 16) (ex_all 69 _ rfl 16 s1_sa_69_16 ⟨g2, 2, none⟩ (F.e rfl)) ?_; clear F a; intro a F
  refine still_val F (wn rfl) rfl rfl (.pointer (some ⟨g3, 2, none⟩)) (ex_fa _ _ _ rfl _ (F.e rfl) 2 s1_fa_85_2_2 ⟨g3, 2, none⟩ rfl) ?_; clear F a; intro a F
  refine still_val F (wn rfl) rfl rfl (.slice (some ⟨g3, 2, none⟩) 16 16) (ex_all 69 _ rfl 16 s1_sa_69_16 ⟨g3, 2, none⟩ (F.e rfl)) ?_; clear F a; intro a F
  refine still_end ?_
  refine list_do (wn rfl) (fun K hK => ?_)
  refine ow_call rfl rfl F 76 #[.slice (some ⟨g2, 2, none⟩) 16 16, .slice (some ⟨g3, 2, none⟩) 16 16] (ex_call 76 _ _ rfl rfl s1_ent_76 _ (map2 (F.e rfl) (F.e rfl))) (less_any x.id y.id _ _ _ _ _ (Rv.id_at (M.at (i := 1) rfl)) (Rv.id_at (M.at (i := 0) rfl))) (fun e u hR => ?_)
  obtain ⟨he, hb⟩ := hR
  rw [key_less hgr] at he
  refine ⟨.bool (decide (key x < key y)), he, ?_⟩; clear he F a; intro a F
  refine hK _ _ ?_
  clear hK K
  replace M := M.below hb; clear hb; try clear v
  refine list_val F (wn rfl) rfl rfl (.bool (decide (key x < key y))) (ex_assign _ rfl _ (F.e rfl)) ?_; clear F a; intro a F
  refine wpList_nil ?_
  replace F : Fr 20 a [(0, .agg x.arr), (1, .agg y.arr), (2, .pointer (some ⟨g2, 0, none⟩)), (3, .pointer (some ⟨g3, 0, none⟩)), (4, .bool (decide (key x < key y))), (9, .bool false)] := F.keep ⟨rfl, rfl, rfl, rfl, rfl, rfl, trivial⟩
  refine then_n ?_
  refine wp_ret ?_
  exact ret_tmp F rfl rfl ⟨rfl, M.bel⟩
 refine wp_region_lit ?_
 refine list_val F (wn rfl) rfl rfl (.pointer (some ⟨g2, 1, none⟩)) (ex_fa _ _ _ rfl _ (F.e rfl) 1 s1_fa_85_1_1 ⟨g2, 1, none⟩ rfl) ?_; clear F a; intro a F
 refine list_val F (wn rfl) rfl rfl (.int .u64 x.grant) (ex_load _ _ rfl _ (F.e rfl) _ (lv1 s1_one_67 (M.cell (i := 1) rfl (j := 1) (Rv.arr_1 _)))) ?_; clear F a; intro a F
 refine list_val F (wn rfl) rfl rfl (.pointer (some ⟨g3, 1, none⟩)) (ex_fa _ _ _ rfl _ (F.e rfl) 1 s1_fa_85_1_1 ⟨g3, 1, none⟩ rfl) ?_; clear F a; intro a F
 refine list_val F (wn rfl) rfl rfl (.int .u64 y.grant) (ex_load _ _ rfl _ (F.e rfl) _ (lv1 s1_one_67 (M.cell (i := 0) rfl (j := 1) (Rv.arr_1 _)))) ?_; clear F a; intro a F
 refine list_val F (wn rfl) rfl rfl (.bool true) (ex_bin .neq _ _ _ _ rfl .u64 _ _ (F.e rfl) (F.e rfl) _ (b_neq (by simp [hgr]))) ?_; clear F a; intro a F
 refine wpList_nil ?_
 replace F : Fr 20 a [(0, .agg x.arr), (1, .agg y.arr), (2, .pointer (some ⟨g2, 0, none⟩)), (3, .pointer (some ⟨g3, 0, none⟩)), (4, .bool false), (9, .bool true)] := F.keep ⟨rfl, rfl, rfl, rfl, rfl, rfl, trivial⟩
 refine then_n ?_
 refine wp_cond_true (F.e rfl) ?_
 refine wp_seq ?_
 refine wp_region_lit ?_
 refine list_val F (wn rfl) rfl rfl (.pointer (some ⟨g2, 1, none⟩)) (ex_fa _ _ _ rfl _ (F.e rfl) 1 s1_fa_85_1_1 ⟨g2, 1, none⟩ rfl) ?_; clear F a; intro a F
 refine list_val F (wn rfl) rfl rfl (.int .u64 x.grant) (ex_load _ _ rfl _ (F.e rfl) _ (lv1 s1_one_67 (M.cell (i := 1) rfl (j := 1) (Rv.arr_1 _)))) ?_; clear F a; intro a F
 refine list_val F (wn rfl) rfl rfl (.pointer (some ⟨g3, 1, none⟩)) (ex_fa _ _ _ rfl _ (F.e rfl) 1 s1_fa_85_1_1 ⟨g3, 1, none⟩ rfl) ?_; clear F a; intro a F
 refine list_val F (wn rfl) rfl rfl (.int .u64 y.grant) (ex_load _ _ rfl _ (F.e rfl) _ (lv1 s1_one_67 (M.cell (i := 0) rfl (j := 1) (Rv.arr_1 _)))) ?_; clear F a; intro a F
 refine list_val F (wn rfl) rfl rfl (.bool (decide (key x < key y))) (ex_bin .lss _ _ _ _ rfl .u64 _ _ (F.e rfl) (F.e rfl) _ (b_lss (key_grant hgr))) ?_; clear F a; intro a F
 refine list_val F (wn rfl) rfl rfl (.bool (decide (key x < key y))) (ex_assign _ rfl _ (F.e rfl)) ?_; clear F a; intro a F
 refine wpList_nil ?_
 replace F : Fr 20 a [(0, .agg x.arr), (1, .agg y.arr), (2, .pointer (some ⟨g2, 0, none⟩)), (3, .pointer (some ⟨g3, 0, none⟩)), (4, .bool (decide (key x < key y))), (9, .bool true)] := F.keep ⟨rfl, rfl, rfl, rfl, rfl, rfl, trivial⟩
 refine then_n ?_
 refine wp_ret ?_
 refine then_r ?_
 exact ret_tmp F rfl rfl ⟨rfl, M.bel⟩
set_option maxHeartbeats 1000000 in
set_option maxRecDepth 100000 in
theorem greater_any (z b : Int) (w : World) : Calls Tryz.prog 36 #[.int .i64 z, .int .i64 b] w fun e w' => e = .returned (.int .i64 (max z b)) ∧ Below w.heap.size w w' := by
 refine calls_start Tryz.func36 rfl rfl rfl (fun a F => ?_)
 have M : Mm w w [] := Mm.nil w
 refine wp_seq ?_
 refine wp_region_lit ?_
 refine list_val F (wn rfl) rfl rfl (.int .i64 0) (ex_assign _ rfl _ rfl) ?_; clear F a; intro a F
 refine wpList_nil ?_
 replace F : Fr 10 a [(0, .int .i64 z), (1, .int .i64 b), (4, .int .i64 0)] := F.keep ⟨rfl, rfl, rfl, trivial⟩
 refine then_n ?_
 refine wp_seq ?_
 refine wp_seq ?_
 by_cases hg : b < z
 ·
  refine wp_region_lit ?_
  refine list_val F (wn rfl) rfl rfl (.int .i64 z) (ex_move _ rfl _ (F.e rfl)) ?_; clear F a; intro a F
  refine list_val F (wn rfl) rfl rfl (.int .i64 b) (ex_move _ rfl _ (F.e rfl)) ?_; clear F a; intro a F
  refine list_val F (wn rfl) rfl rfl (.bool true) (ex_bin .gtr _ _ _ _ rfl .i64 _ _ (F.e rfl) (F.e rfl) _ (b_gtr (decide_eq_true hg))) ?_; clear F a; intro a F
  refine wpList_nil ?_
  replace F : Fr 10 a [(0, .int .i64 z), (1, .int .i64 b), (4, .int .i64 0), (7, .bool true)] := F.keep ⟨rfl, rfl, rfl, rfl, trivial⟩
  refine then_n ?_
  refine wp_cond_true (F.e rfl) ?_
  refine wp_seq ?_
  refine wp_region_lit ?_
  refine list_val F (wn rfl) rfl rfl (.int .i64 z) (ex_move _ rfl _ (F.e rfl)) ?_; clear F a; intro a F
  refine list_val F (wn rfl) rfl rfl (.int .i64 z) (ex_assign _ rfl _ (F.e rfl)) ?_; clear F a; intro a F
  refine wpList_nil ?_
  replace F : Fr 10 a [(0, .int .i64 z), (1, .int .i64 b), (4, .int .i64 z), (7, .bool true)] := F.keep ⟨rfl, rfl, rfl, rfl, trivial⟩
  refine then_n ?_
  refine wp_ret ?_
  refine then_r ?_
  exact ret_tmp F rfl rfl ⟨by rw [Int.max_eq_left (by omega)], M.bel⟩
 refine wp_region_lit ?_
 refine list_val F (wn rfl) rfl rfl (.int .i64 z) (ex_move _ rfl _ (F.e rfl)) ?_; clear F a; intro a F
 refine list_val F (wn rfl) rfl rfl (.int .i64 b) (ex_move _ rfl _ (F.e rfl)) ?_; clear F a; intro a F
 refine list_val F (wn rfl) rfl rfl (.bool false) (ex_bin .gtr _ _ _ _ rfl .i64 _ _ (F.e rfl) (F.e rfl) _ (b_gtr (decide_eq_false hg))) ?_; clear F a; intro a F
 refine wpList_nil ?_
 replace F : Fr 10 a [(0, .int .i64 z), (1, .int .i64 b), (4, .int .i64 0), (7, .bool false)] := F.keep ⟨rfl, rfl, rfl, rfl, trivial⟩
 refine then_n ?_
 refine wp_cond_false (F.e rfl) ?_
 refine wp_skip ?_
 refine then_n ?_
 refine wp_seq ?_
 refine wp_region_lit ?_
 refine list_val F (wn rfl) rfl rfl (.int .i64 b) (ex_move _ rfl _ (F.e rfl)) ?_; clear F a; intro a F
 refine list_val F (wn rfl) rfl rfl (.int .i64 b) (ex_assign _ rfl _ (F.e rfl)) ?_; clear F a; intro a F
 refine wpList_nil ?_
 replace F : Fr 10 a [(0, .int .i64 z), (1, .int .i64 b), (4, .int .i64 b), (7, .bool false)] := F.keep ⟨rfl, rfl, rfl, rfl, trivial⟩
 refine then_n ?_
 refine wp_ret ?_
 exact ret_tmp F rfl rfl ⟨by rw [Int.max_eq_right (by omega)], M.bel⟩
theorem s1_sl_57_19 : sl? Tryz.prog 57 19 = true := by kernel_rfl
theorem s1_fa_85_0_0 : fa? Tryz.prog 85 0 0 = true := by kernel_rfl
theorem s1_one_4 : one? Tryz.prog 4 = true := by kernel_rfl
theorem s1_ent_31 : ent? Tryz.prog 31 = true := by kernel_rfl
set_option maxHeartbeats 1000000 in
set_option maxRecDepth 100000 in
theorem check_n (xs : List Rv) (A : Option Addr) (c : Nat) (w : World) (hr : kRv.C w A xs.length xs) (hmx : xs.length ≤ 1000000) :
    Calls Tryz.prog 17 #[.slice A xs.length c] w fun e w' => e = .returned (.int .i64 (chN xs)) ∧ Below w.heap.size w w' := by
 refine calls_start Tryz.func17 rfl rfl rfl (fun a F => ?_)
 have M : Mm w w [] := Mm.nil w
 refine wp_seq ?_
 refine wp_region_lit ?_
 refine list_val F (wn rfl) rfl rfl (.int .i64 0) (ex_assign _ rfl _ rfl) ?_; clear F a; intro a F
 refine wpList_nil ?_
 refine then_n ?_
 refine wp_seq ?_
 refine wp_seq ?_
 refine wp_region_lit ?_
 refine list_val F (wn rfl) rfl rfl (.slice A xs.length c) (ex_move _ rfl _ (F.e rfl)) ?_; clear F a; intro a F
 refine list_val F (wn rfl) rfl rfl (.int .i64 ((xs.length : Nat) : Int)) (ex_len _ _ rfl 19 s1_sl_57_19 _ _ _ (F.e rfl)) ?_; clear F a; intro a F
 refine list_val F (wn rfl) rfl rfl (.int .i64 0) (ex_move _ rfl _ rfl) ?_; clear F a; intro a F
 refine wpList_nil ?_
 refine then_n ?_
 refine wp_block ?_
 refine wp_loopN (fun mq ar wr => ∃ (i : Nat), Fr 56 ar [(0, .slice A xs.length c), (2, .int .i64 0), (5, .slice A xs.length c), (6, .int .i64 ((xs.length : Nat) : Int)), (7, .int .i64 ((i : Nat) : Int))] ∧ Mm w wr [] ∧ i ≤ xs.length ∧ (∀ (j : Nat), j < i → OkAt xs j) ∧ mq + i = xs.length) xs.length ?_ ?_
 ·
  exact ⟨0, F.keep ⟨rfl, rfl, rfl, rfl, rfl, trivial⟩, M, (Nat.zero_le _), (fun j hj => absurd hj (Nat.not_lt_zero j)), (by omega)⟩
 clear F M a
 rintro mq a v ⟨i, F, M, hi, hok, hq⟩; try clear w
 by_cases hin : i < xs.length
 ·
  obtain ⟨x, hx⟩ : ∃ x, xs[i]? = some x := ⟨_, List.getElem?_eq_getElem (by omega)⟩
  obtain ⟨ad, hA, z⟩ := C_ix hr hx
  subst hA
  refine wp_seq ?_
  refine wp_region_lit ?_
  refine list_val F (wn rfl) rfl rfl (.bool true) (ex_bin .lss _ _ _ _ rfl .i64 _ _ (F.e rfl) (F.e rfl) _ (b_lss (decide_eq_true (by omega)))) ?_; clear F a; intro a F
  refine wpList_nil ?_
  refine then_n ?_
  refine wp_seq ?_
  refine wp_cond_true (F.e rfl) ?_
  refine wp_skip ?_
  refine then_n ?_
  refine wp_seq ?_
  refine wp_block ?_
  refine wp_seq ?_
  refine wp_region_lit ?_
  refine list_val F (wn rfl) rfl rfl (.int .i64 ((i : Nat) : Int)) (ex_move _ rfl _ (F.e rfl)) ?_; clear F a; intro a F
  refine list_val F (wn rfl) rfl rfl (.pointer (some (ad.add (i * 19)))) (ex_ix _ _ _ rfl 19 s1_sl_57_19 ad _ _ (F.e rfl) .i64 _ (F.e rfl) i rfl (by omega) (ad.add (i * 19)) rfl) ?_; clear F a; intro a F
  refine list_val F (wn rfl) rfl rfl (.agg x.arr) (ex_load _ _ rfl _ (F.e rfl) _ (lrow85 x ((z.below M.bel)))) ?_; clear F a; intro a F
  refine list_do (wn rfl) (fun K hK => ?_)
  refine ow_alloc F M rfl rfl 85 rfl (.agg zRv.arr) zero85 zRv.arr rfl ?_
  clear F M a; intro a g4 u F M hb hg
  refine hK _ _ ?_
  clear hK K
  clear hb hg; try clear v
  refine list_val F (wn rfl) rfl rfl (.int .i64 ((i : Nat) : Int)) (ex_assign _ rfl _ (F.e rfl)) ?_; clear F a; intro a F
  refine list_do (wn rfl) (fun K hK => ?_)
  refine ow_put F M rfl 85 _ _ rfl 0 _ zRv.arr _ rfl (F.e rfl) x.arr (F.e rfl) (sz85 _) (by simp only [Rv.arr_size]) (Rv.arr_one _) ?_
  clear F a; have Mo := M; clear M; intro a v F M hgr
  refine hK _ _ ?_
  clear hK K
  clear Mo hgr; try clear u
  replace M : Mm w v [⟨g4, x.arr, 85⟩] := M
  refine wpList_nil ?_
  refine then_n ?_
  refine wp_seq ?_
  refine wp_seq ?_
  by_cases hw : x.whole = true
  ·
   by_cases hz : x.id = zBs 16
   ·
    have hz0 : x.whole = true → x.id = zBs 16 := fun _ => hz
    refine wp_region_lit ?_
    refine list_val F (wn rfl) rfl rfl (.pointer (some ⟨g4, 0, none⟩)) (ex_fa _ _ _ rfl _ (F.e rfl) 0 s1_fa_85_0_0 ⟨g4, 0, none⟩ rfl) ?_; clear F a; intro a F
    refine list_val F (wn rfl) rfl rfl (.bool true) (ex_load _ _ rfl _ (F.e rfl) _ (lv1 s1_one_4 (M.cell (i := 0) rfl (j := 0) (Rv.arr_0e hw)))) ?_; clear F a; intro a F
    refine list_val F (wn rfl) rfl rfl (.bool true) (ex_move _ rfl _ (F.e rfl)) ?_; clear F a; intro a F
    refine list_val F (F.wants 14 true rfl (by kernel_rfl) rfl true rfl) rfl rfl (.pointer (some ⟨g4, 2, none⟩)) (ex_fa _ _ _ rfl _ (F.e rfl) 2 s1_fa_85_2_2 ⟨g4, 2, none⟩ rfl) ?_; clear F a; intro a F
    refine list_val F (F.wants 14 true rfl (by kernel_rfl) rfl true rfl) rfl rfl (.agg x.id.cs.toArray) (ex_load _ _ rfl _ (F.e rfl) _ (lrow69 x.id (Rv.id_at (M.at (i := 0) rfl)))) ?_; clear F a; intro a F
    refine list_val F (F.wants 14 true rfl (by kernel_rfl) rfl true rfl) rfl rfl (.agg ((zBs 16).cs.toArray)) (ex_build69 rfl) ?_; clear F a; intro a F
    refine list_val F (F.wants 14 true rfl (by kernel_rfl) rfl true rfl) rfl rfl (.bool false) (ex_ne69 _ _ _ rfl x.id (zBs 16) (F.e rfl) (F.e rfl) false (by rw [hz]; simp)) ?_; clear F a; intro a F
    refine list_val F (wn rfl) rfl rfl (.bool false) (ex_pick_t _ _ _ rfl (F.e rfl) _ (F.e rfl)) ?_; clear F a; intro a F
    refine wpList_nil ?_
    refine then_n ?_
    refine wp_cond_false (F.e rfl) ?_
    refine wp_skip ?_
    refine then_n ?_
    refine wp_seq ?_
    by_cases hi0 : 0 < i
    ·
     obtain ⟨y, hy⟩ : ∃ y, xs[i - 1]? = some y := ⟨_, List.getElem?_eq_getElem (by omega)⟩
     obtain ⟨_, had, zy⟩ := C_ix hr hy
     obtain rfl := Option.some.inj had
     clear had
     by_cases hlt : key y < key x
     ·
      by_cases hgr : y.grant = x.grant
      ·
       by_cases hyw : y.whole = true
       ·
        refine wp_only (fun ar wr => Fr 56 ar [(0, .slice (some ad) xs.length c), (2, .int .i64 0), (3, .int .i64 ((i : Nat) : Int)), (4, .pointer (some ⟨g4, 0, none⟩)), (5, .slice (some ad) xs.length c), (6, .int .i64 ((xs.length : Nat) : Int)), (7, .int .i64 ((i : Nat) : Int)), (8, .bool true), (19, .bool false), (54, .bool true)] ∧ Mm w wr [⟨g4, x.arr, 85⟩]) ?_ ?_
        ·
         refine region_anyM s1_follows_mixedOrders M [⟨g4, x.arr, 85⟩] (fun w' M => (by refine M.pick' [0] _ ?_ (by decide); exact ⟨rfl, trivial⟩)) ?_; clear M; intro wD M hb
         clear hb; try clear v
         have hS : Mm w wD [⟨g4, x.arr, 85⟩] := (by refine M.pick' [0] _ ?_ (by decide); exact ⟨rfl, trivial⟩)
         refine any_val F 0 rfl (by kernel_rfl) (wn rfl) rfl rfl (.int .i64 ((i : Nat) : Int)) (fun w' hS' => ex_move _ rfl _ (F.e rfl)) hS ?_; clear F a; intro a F
         refine any_val F 1 rfl (by kernel_rfl) (wn rfl) rfl rfl (.bool true) (fun w' hS' => ex_bin .gtr _ _ _ _ rfl .i64 _ _ (F.e rfl) rfl _ (b_gtr (decide_eq_true (by omega)))) hS ?_; clear F a; intro a F
         refine any_val F 2 rfl (by kernel_rfl) (wn rfl) rfl rfl (.bool true) (fun w' hS' => ex_move _ rfl _ (F.e rfl)) hS ?_; clear F a; intro a F
         refine any_val F 3 rfl (by kernel_rfl) (F.wants 22 true rfl (by kernel_rfl) rfl true rfl) rfl rfl (.slice (some ad) xs.length c) (fun w' hS' => ex_move _ rfl _ (F.e rfl)) hS ?_; clear F a; intro a F
         refine any_val F 4 rfl (by kernel_rfl) (F.wants 22 true rfl (by kernel_rfl) rfl true rfl) rfl rfl (.int .i64 ((i : Nat) : Int)) (fun w' hS' => ex_move _ rfl _ (F.e rfl)) hS ?_; clear F a; intro a F
         refine any_val F 5 rfl (by kernel_rfl) (F.wants 22 true rfl (by kernel_rfl) rfl true rfl) rfl rfl (.int .i64 ((i - 1 : Nat) : Int)) (fun w' hS' => ex_bin .sub _ _ _ _ rfl .i64 _ _ (F.e rfl) rfl _ (b_sub ((w_i64 (by omega) (by omega)).trans (by omega)))) hS ?_; clear F a; intro a F
         refine any_val F 6 rfl (by kernel_rfl) (F.wants 22 true rfl (by kernel_rfl) rfl true rfl) rfl rfl (.pointer (some (ad.add ((i - 1) * 19)))) (fun w' hS' => ex_ix _ _ _ rfl 19 s1_sl_57_19 ad _ _ (F.e rfl) .i64 _ (F.e rfl) (i - 1) rfl (by omega) (ad.add ((i - 1) * 19)) rfl) hS ?_; clear F a; intro a F
         refine any_val F 7 rfl (by kernel_rfl) (F.wants 22 true rfl (by kernel_rfl) rfl true rfl) rfl rfl (.agg y.arr) (fun w' hS' => ex_load _ _ rfl _ (F.e rfl) _ (lrow85 y ((zy.below hS'.bel)))) hS ?_; clear F a; intro a F
         refine any_val F 8 rfl (by kernel_rfl) (F.wants 22 true rfl (by kernel_rfl) rfl true rfl) rfl rfl (.agg x.arr) (fun w' hS' => ex_load _ _ rfl _ (F.e rfl) _ (lrow85 x (hS'.at (i := 0) rfl))) hS ?_; clear F a; intro a F
         refine any_ready [9] (by kernel_rfl) (by simp) ?_
         refine ready_do rfl (F.wants 22 true rfl (by kernel_rfl) rfl true rfl) (fun K hK => ?_) AllReadyH.nil
         refine ow_call rfl rfl F 31 #[.agg y.arr, .agg x.arr] (ex_call 31 _ _ rfl rfl s1_ent_31 _ (map2 (F.e rfl) (F.e rfl))) (before_any y x _) (fun e v hR => ?_)
         obtain ⟨he, hb⟩ := hR
         rw [decide_eq_true hlt] at he
         refine ⟨.bool true, he, ?_⟩; clear he F a; intro a F
         replace hS : Mm w v [⟨g4, x.arr, 85⟩] := (by refine (M.below hb).pick' [0] _ ?_ (by decide); exact ⟨rfl, trivial⟩)
         refine hK _ _ hS ?_
         clear hK K
         replace M := M.below hb; clear hb; try clear wD
         refine any_val F 10 rfl (by kernel_rfl) (F.wants 22 true rfl (by kernel_rfl) rfl true rfl) rfl rfl (.bool false) (fun w' hS' => ex_not _ _ rfl _ (F.e rfl) _ rfl) hS ?_; clear F a; intro a F
         refine any_val F 11 rfl (by kernel_rfl) (F.wants 22 true rfl (by kernel_rfl) rfl true rfl) rfl rfl (.bool false) (fun w' hS' => ex_move _ rfl _ (F.e rfl)) hS ?_; clear F a; intro a F
         refine any_val F 12 rfl (by kernel_rfl) (F.wants 31 false rfl (by kernel_rfl) rfl true rfl) rfl rfl (.slice (some ad) xs.length c) (fun w' hS' => ex_move _ rfl _ (F.e rfl)) hS ?_; clear F a; intro a F
         refine any_val F 13 rfl (by kernel_rfl) (F.wants 31 false rfl (by kernel_rfl) rfl true rfl) rfl rfl (.int .i64 ((i : Nat) : Int)) (fun w' hS' => ex_move _ rfl _ (F.e rfl)) hS ?_; clear F a; intro a F
         refine any_val F 14 rfl (by kernel_rfl) (F.wants 31 false rfl (by kernel_rfl) rfl true rfl) rfl rfl (.int .i64 ((i - 1 : Nat) : Int)) (fun w' hS' => ex_bin .sub _ _ _ _ rfl .i64 _ _ (F.e rfl) rfl _ (b_sub ((w_i64 (by omega) (by omega)).trans (by omega)))) hS ?_; clear F a; intro a F
         refine any_val F 15 rfl (by kernel_rfl) (F.wants 31 false rfl (by kernel_rfl) rfl true rfl) rfl rfl (.pointer (some (ad.add ((i - 1) * 19)))) (fun w' hS' => ex_ix _ _ _ rfl 19 s1_sl_57_19 ad _ _ (F.e rfl) .i64 _ (F.e rfl) (i - 1) rfl (by omega) (ad.add ((i - 1) * 19)) rfl) hS ?_; clear F a; intro a F
         refine any_val F 16 rfl (by kernel_rfl) (F.wants 31 false rfl (by kernel_rfl) rfl true rfl) rfl rfl (.pointer (some ((ad.add ((i - 1) * 19)).add 1))) (fun w' hS' => ex_fa _ _ _ rfl _ (F.e rfl) 1 s1_fa_85_1_1 ((ad.add ((i - 1) * 19)).add 1) rfl) hS ?_; clear F a; intro a F
         refine any_val F 17 rfl (by kernel_rfl) (F.wants 31 false rfl (by kernel_rfl) rfl true rfl) rfl rfl (.int .u64 y.grant) (fun w' hS' => ex_load _ _ rfl _ (F.e rfl) _ (lv1 s1_one_67 ((zy.below hS'.bel).cell 1 _ (Rv.cs_1 _)))) hS ?_; clear F a; intro a F
         refine any_val F 18 rfl (by kernel_rfl) (F.wants 31 false rfl (by kernel_rfl) rfl true rfl) rfl rfl (.pointer (some ⟨g4, 1, none⟩)) (fun w' hS' => ex_fa _ _ _ rfl _ (F.e rfl) 1 s1_fa_85_1_1 ⟨g4, 1, none⟩ rfl) hS ?_; clear F a; intro a F
         refine any_val F 19 rfl (by kernel_rfl) (F.wants 31 false rfl (by kernel_rfl) rfl true rfl) rfl rfl (.int .u64 x.grant) (fun w' hS' => ex_load _ _ rfl _ (F.e rfl) _ (lv1 s1_one_67 (hS'.cell (i := 0) rfl (j := 1) (Rv.arr_1 _)))) hS ?_; clear F a; intro a F
         refine any_val F 20 rfl (by kernel_rfl) (F.wants 31 false rfl (by kernel_rfl) rfl true rfl) rfl rfl (.bool true) (fun w' hS' => ex_bin .eql _ _ _ _ rfl .u64 _ _ (F.e rfl) (F.e rfl) _ (b_eql (by simp [hgr]))) hS ?_; clear F a; intro a F
         refine any_val F 21 rfl (by kernel_rfl) (F.wants 31 false rfl (by kernel_rfl) rfl true rfl) rfl rfl (.bool true) (fun w' hS' => ex_move _ rfl _ (F.e rfl)) hS ?_; clear F a; intro a F
         refine any_val F 22 rfl (by kernel_rfl) (F.wants 41 true rfl (by kernel_rfl) rfl true rfl) rfl rfl (.slice (some ad) xs.length c) (fun w' hS' => ex_move _ rfl _ (F.e rfl)) hS ?_; clear F a; intro a F
         refine any_val F 23 rfl (by kernel_rfl) (F.wants 41 true rfl (by kernel_rfl) rfl true rfl) rfl rfl (.int .i64 ((i : Nat) : Int)) (fun w' hS' => ex_move _ rfl _ (F.e rfl)) hS ?_; clear F a; intro a F
         refine any_val F 24 rfl (by kernel_rfl) (F.wants 41 true rfl (by kernel_rfl) rfl true rfl) rfl rfl (.int .i64 ((i - 1 : Nat) : Int)) (fun w' hS' => ex_bin .sub _ _ _ _ rfl .i64 _ _ (F.e rfl) rfl _ (b_sub ((w_i64 (by omega) (by omega)).trans (by omega)))) hS ?_; clear F a; intro a F
         refine any_val F 25 rfl (by kernel_rfl) (F.wants 41 true rfl (by kernel_rfl) rfl true rfl) rfl rfl (.pointer (some (ad.add ((i - 1) * 19)))) (fun w' hS' => ex_ix _ _ _ rfl 19 s1_sl_57_19 ad _ _ (F.e rfl) .i64 _ (F.e rfl) (i - 1) rfl (by omega) (ad.add ((i - 1) * 19)) rfl) hS ?_; clear F a; intro a F
         refine any_val F 26 rfl (by kernel_rfl) (F.wants 41 true rfl (by kernel_rfl) rfl true rfl) rfl rfl (.pointer (some (ad.add ((i - 1) * 19)))) (fun w' hS' => ex_fa _ _ _ rfl _ (F.e rfl) 0 s1_fa_85_0_0 (ad.add ((i - 1) * 19)) rfl) hS ?_; clear F a; intro a F
         refine any_val F 27 rfl (by kernel_rfl) (F.wants 41 true rfl (by kernel_rfl) rfl true rfl) rfl rfl (.bool true) (fun w' hS' => ex_load _ _ rfl _ (F.e rfl) _ (lv1 s1_one_4 ((zy.below hS'.bel).cell 0 _ (Rv.cs_0e hyw)))) hS ?_; clear F a; intro a F
         refine any_val F 28 rfl (by kernel_rfl) (F.wants 41 true rfl (by kernel_rfl) rfl true rfl) rfl rfl (.bool true) (fun w' hS' => ex_move _ rfl _ (F.e rfl)) hS ?_; clear F a; intro a F
         refine any_pass F 29 rfl (by kernel_rfl) (F.wants 48 true rfl (by kernel_rfl) rfl false rfl) rfl rfl hS ?_; clear F a; intro a F
         refine any_pass F 30 rfl (by kernel_rfl) (F.wants 48 true rfl (by kernel_rfl) rfl false rfl) rfl rfl hS ?_; clear F a; intro a F
         refine any_val F 31 rfl (by kernel_rfl) (F.wants 41 true rfl (by kernel_rfl) rfl true rfl) rfl rfl (.bool true) (fun w' hS' => ex_pick_t _ _ _ rfl (F.e rfl) _ rfl) hS ?_; clear F a; intro a F
         refine any_val F 32 rfl (by kernel_rfl) (F.wants 31 false rfl (by kernel_rfl) rfl true rfl) rfl rfl (.bool true) (fun w' hS' => ex_pick_t _ _ _ rfl (F.e rfl) _ (F.e rfl)) hS ?_; clear F a; intro a F
         refine any_val F 33 rfl (by kernel_rfl) (F.wants 22 true rfl (by kernel_rfl) rfl true rfl) rfl rfl (.bool true) (fun w' hS' => ex_pick_f _ _ _ rfl (F.e rfl) _ (F.e rfl)) hS ?_; clear F a; intro a F
         refine any_val F 34 rfl (by kernel_rfl) (wn rfl) rfl rfl (.bool true) (fun w' hS' => ex_pick_t _ _ _ rfl (F.e rfl) _ (F.e rfl)) hS ?_; clear F a; intro a F
         refine any_done (by kernel_rfl) ?_
         exact ⟨F.keep ⟨rfl, rfl, rfl, rfl, rfl, rfl, rfl, rfl, rfl, rfl, trivial⟩, (by refine M.pick' [0] _ ?_ (by decide); exact ⟨rfl, trivial⟩)⟩
        clear F M a
        intro a u hR; obtain ⟨F, M⟩ := hR; try clear v
        refine then_n ?_
        refine wp_cond_true (F.e rfl) ?_
        refine wp_seq ?_
        refine wp_region_lit ?_
        refine list_val F (wn rfl) rfl rfl (.int .i64 140) (ex_assign _ rfl _ rfl) ?_; clear F a; intro a F
        refine wpList_nil ?_
        refine then_n ?_
        refine wp_ret ?_
        refine in_r ?_
        refine then_r ?_
        refine then_r ?_
        refine in_r ?_
        refine then_r ?_
        exact ret_tmp F rfl rfl ⟨by rw [chN_rise hx hi0 hy (fun h_ => by rw [(h_.2 hgr).1] at hyw; exact absurd hyw (by decide))], M.bel⟩
       refine wp_only (fun ar wr => Fr 56 ar [(0, .slice (some ad) xs.length c), (2, .int .i64 0), (3, .int .i64 ((i : Nat) : Int)), (4, .pointer (some ⟨g4, 0, none⟩)), (5, .slice (some ad) xs.length c), (6, .int .i64 ((xs.length : Nat) : Int)), (7, .int .i64 ((i : Nat) : Int)), (8, .bool true), (19, .bool false), (54, .bool true)] ∧ Mm w wr [⟨g4, x.arr, 85⟩]) ?_ ?_
       ·
        refine region_anyM s1_follows_mixedOrders M [⟨g4, x.arr, 85⟩] (fun w' M => (by refine M.pick' [0] _ ?_ (by decide); exact ⟨rfl, trivial⟩)) ?_; clear M; intro wD M hb
        clear hb; try clear v
        have hS : Mm w wD [⟨g4, x.arr, 85⟩] := (by refine M.pick' [0] _ ?_ (by decide); exact ⟨rfl, trivial⟩)
        refine any_val F 0 rfl (by kernel_rfl) (wn rfl) rfl rfl (.int .i64 ((i : Nat) : Int)) (fun w' hS' => ex_move _ rfl _ (F.e rfl)) hS ?_; clear F a; intro a F
        refine any_val F 1 rfl (by kernel_rfl) (wn rfl) rfl rfl (.bool true) (fun w' hS' => ex_bin .gtr _ _ _ _ rfl .i64 _ _ (F.e rfl) rfl _ (b_gtr (decide_eq_true (by omega)))) hS ?_; clear F a; intro a F
        refine any_val F 2 rfl (by kernel_rfl) (wn rfl) rfl rfl (.bool true) (fun w' hS' => ex_move _ rfl _ (F.e rfl)) hS ?_; clear F a; intro a F
        refine any_val F 3 rfl (by kernel_rfl) (F.wants 22 true rfl (by kernel_rfl) rfl true rfl) rfl rfl (.slice (some ad) xs.length c) (fun w' hS' => ex_move _ rfl _ (F.e rfl)) hS ?_; clear F a; intro a F
        refine any_val F 4 rfl (by kernel_rfl) (F.wants 22 true rfl (by kernel_rfl) rfl true rfl) rfl rfl (.int .i64 ((i : Nat) : Int)) (fun w' hS' => ex_move _ rfl _ (F.e rfl)) hS ?_; clear F a; intro a F
        refine any_val F 5 rfl (by kernel_rfl) (F.wants 22 true rfl (by kernel_rfl) rfl true rfl) rfl rfl (.int .i64 ((i - 1 : Nat) : Int)) (fun w' hS' => ex_bin .sub _ _ _ _ rfl .i64 _ _ (F.e rfl) rfl _ (b_sub ((w_i64 (by omega) (by omega)).trans (by omega)))) hS ?_; clear F a; intro a F
        refine any_val F 6 rfl (by kernel_rfl) (F.wants 22 true rfl (by kernel_rfl) rfl true rfl) rfl rfl (.pointer (some (ad.add ((i - 1) * 19)))) (fun w' hS' => ex_ix _ _ _ rfl 19 s1_sl_57_19 ad _ _ (F.e rfl) .i64 _ (F.e rfl) (i - 1) rfl (by omega) (ad.add ((i - 1) * 19)) rfl) hS ?_; clear F a; intro a F
        refine any_val F 7 rfl (by kernel_rfl) (F.wants 22 true rfl (by kernel_rfl) rfl true rfl) rfl rfl (.agg y.arr) (fun w' hS' => ex_load _ _ rfl _ (F.e rfl) _ (lrow85 y ((zy.below hS'.bel)))) hS ?_; clear F a; intro a F
        refine any_val F 8 rfl (by kernel_rfl) (F.wants 22 true rfl (by kernel_rfl) rfl true rfl) rfl rfl (.agg x.arr) (fun w' hS' => ex_load _ _ rfl _ (F.e rfl) _ (lrow85 x (hS'.at (i := 0) rfl))) hS ?_; clear F a; intro a F
        refine any_ready [9] (by kernel_rfl) (by simp) ?_
        refine ready_do rfl (F.wants 22 true rfl (by kernel_rfl) rfl true rfl) (fun K hK => ?_) AllReadyH.nil
        refine ow_call rfl rfl F 31 #[.agg y.arr, .agg x.arr] (ex_call 31 _ _ rfl rfl s1_ent_31 _ (map2 (F.e rfl) (F.e rfl))) (before_any y x _) (fun e v hR => ?_)
        obtain ⟨he, hb⟩ := hR
        rw [decide_eq_true hlt] at he
        refine ⟨.bool true, he, ?_⟩; clear he F a; intro a F
        replace hS : Mm w v [⟨g4, x.arr, 85⟩] := (by refine (M.below hb).pick' [0] _ ?_ (by decide); exact ⟨rfl, trivial⟩)
        refine hK _ _ hS ?_
        clear hK K
        replace M := M.below hb; clear hb; try clear wD
        refine any_val F 10 rfl (by kernel_rfl) (F.wants 22 true rfl (by kernel_rfl) rfl true rfl) rfl rfl (.bool false) (fun w' hS' => ex_not _ _ rfl _ (F.e rfl) _ rfl) hS ?_; clear F a; intro a F
        refine any_val F 11 rfl (by kernel_rfl) (F.wants 22 true rfl (by kernel_rfl) rfl true rfl) rfl rfl (.bool false) (fun w' hS' => ex_move _ rfl _ (F.e rfl)) hS ?_; clear F a; intro a F
        refine any_val F 12 rfl (by kernel_rfl) (F.wants 31 false rfl (by kernel_rfl) rfl true rfl) rfl rfl (.slice (some ad) xs.length c) (fun w' hS' => ex_move _ rfl _ (F.e rfl)) hS ?_; clear F a; intro a F
        refine any_val F 13 rfl (by kernel_rfl) (F.wants 31 false rfl (by kernel_rfl) rfl true rfl) rfl rfl (.int .i64 ((i : Nat) : Int)) (fun w' hS' => ex_move _ rfl _ (F.e rfl)) hS ?_; clear F a; intro a F
        refine any_val F 14 rfl (by kernel_rfl) (F.wants 31 false rfl (by kernel_rfl) rfl true rfl) rfl rfl (.int .i64 ((i - 1 : Nat) : Int)) (fun w' hS' => ex_bin .sub _ _ _ _ rfl .i64 _ _ (F.e rfl) rfl _ (b_sub ((w_i64 (by omega) (by omega)).trans (by omega)))) hS ?_; clear F a; intro a F
        refine any_val F 15 rfl (by kernel_rfl) (F.wants 31 false rfl (by kernel_rfl) rfl true rfl) rfl rfl (.pointer (some (ad.add ((i - 1) * 19)))) (fun w' hS' => ex_ix _ _ _ rfl 19 s1_sl_57_19 ad _ _ (F.e rfl) .i64 _ (F.e rfl) (i - 1) rfl (by omega) (ad.add ((i - 1) * 19)) rfl) hS ?_; clear F a; intro a F
        refine any_val F 16 rfl (by kernel_rfl) (F.wants 31 false rfl (by kernel_rfl) rfl true rfl) rfl rfl (.pointer (some ((ad.add ((i - 1) * 19)).add 1))) (fun w' hS' => ex_fa _ _ _ rfl _ (F.e rfl) 1 s1_fa_85_1_1 ((ad.add ((i - 1) * 19)).add 1) rfl) hS ?_; clear F a; intro a F
        refine any_val F 17 rfl (by kernel_rfl) (F.wants 31 false rfl (by kernel_rfl) rfl true rfl) rfl rfl (.int .u64 y.grant) (fun w' hS' => ex_load _ _ rfl _ (F.e rfl) _ (lv1 s1_one_67 ((zy.below hS'.bel).cell 1 _ (Rv.cs_1 _)))) hS ?_; clear F a; intro a F
        refine any_val F 18 rfl (by kernel_rfl) (F.wants 31 false rfl (by kernel_rfl) rfl true rfl) rfl rfl (.pointer (some ⟨g4, 1, none⟩)) (fun w' hS' => ex_fa _ _ _ rfl _ (F.e rfl) 1 s1_fa_85_1_1 ⟨g4, 1, none⟩ rfl) hS ?_; clear F a; intro a F
        refine any_val F 19 rfl (by kernel_rfl) (F.wants 31 false rfl (by kernel_rfl) rfl true rfl) rfl rfl (.int .u64 x.grant) (fun w' hS' => ex_load _ _ rfl _ (F.e rfl) _ (lv1 s1_one_67 (hS'.cell (i := 0) rfl (j := 1) (Rv.arr_1 _)))) hS ?_; clear F a; intro a F
        refine any_val F 20 rfl (by kernel_rfl) (F.wants 31 false rfl (by kernel_rfl) rfl true rfl) rfl rfl (.bool true) (fun w' hS' => ex_bin .eql _ _ _ _ rfl .u64 _ _ (F.e rfl) (F.e rfl) _ (b_eql (by simp [hgr]))) hS ?_; clear F a; intro a F
        refine any_val F 21 rfl (by kernel_rfl) (F.wants 31 false rfl (by kernel_rfl) rfl true rfl) rfl rfl (.bool true) (fun w' hS' => ex_move _ rfl _ (F.e rfl)) hS ?_; clear F a; intro a F
        refine any_val F 22 rfl (by kernel_rfl) (F.wants 41 true rfl (by kernel_rfl) rfl true rfl) rfl rfl (.slice (some ad) xs.length c) (fun w' hS' => ex_move _ rfl _ (F.e rfl)) hS ?_; clear F a; intro a F
        refine any_val F 23 rfl (by kernel_rfl) (F.wants 41 true rfl (by kernel_rfl) rfl true rfl) rfl rfl (.int .i64 ((i : Nat) : Int)) (fun w' hS' => ex_move _ rfl _ (F.e rfl)) hS ?_; clear F a; intro a F
        refine any_val F 24 rfl (by kernel_rfl) (F.wants 41 true rfl (by kernel_rfl) rfl true rfl) rfl rfl (.int .i64 ((i - 1 : Nat) : Int)) (fun w' hS' => ex_bin .sub _ _ _ _ rfl .i64 _ _ (F.e rfl) rfl _ (b_sub ((w_i64 (by omega) (by omega)).trans (by omega)))) hS ?_; clear F a; intro a F
        refine any_val F 25 rfl (by kernel_rfl) (F.wants 41 true rfl (by kernel_rfl) rfl true rfl) rfl rfl (.pointer (some (ad.add ((i - 1) * 19)))) (fun w' hS' => ex_ix _ _ _ rfl 19 s1_sl_57_19 ad _ _ (F.e rfl) .i64 _ (F.e rfl) (i - 1) rfl (by omega) (ad.add ((i - 1) * 19)) rfl) hS ?_; clear F a; intro a F
        refine any_val F 26 rfl (by kernel_rfl) (F.wants 41 true rfl (by kernel_rfl) rfl true rfl) rfl rfl (.pointer (some (ad.add ((i - 1) * 19)))) (fun w' hS' => ex_fa _ _ _ rfl _ (F.e rfl) 0 s1_fa_85_0_0 (ad.add ((i - 1) * 19)) rfl) hS ?_; clear F a; intro a F
        refine any_val F 27 rfl (by kernel_rfl) (F.wants 41 true rfl (by kernel_rfl) rfl true rfl) rfl rfl (.bool false) (fun w' hS' => ex_load _ _ rfl _ (F.e rfl) _ (lv1 s1_one_4 ((zy.below hS'.bel).cell 0 _ (Rv.cs_0e (Bool.eq_false_iff.2 hyw))))) hS ?_; clear F a; intro a F
        refine any_val F 28 rfl (by kernel_rfl) (F.wants 41 true rfl (by kernel_rfl) rfl true rfl) rfl rfl (.bool false) (fun w' hS' => ex_move _ rfl _ (F.e rfl)) hS ?_; clear F a; intro a F
        refine any_val F 29 rfl (by kernel_rfl) (F.wants 48 false rfl (by kernel_rfl) rfl true rfl) rfl rfl (.pointer (some ⟨g4, 0, none⟩)) (fun w' hS' => ex_fa _ _ _ rfl _ (F.e rfl) 0 s1_fa_85_0_0 ⟨g4, 0, none⟩ rfl) hS ?_; clear F a; intro a F
        refine any_val F 30 rfl (by kernel_rfl) (F.wants 48 false rfl (by kernel_rfl) rfl true rfl) rfl rfl (.bool true) (fun w' hS' => ex_load _ _ rfl _ (F.e rfl) _ (lv1 s1_one_4 (hS'.cell (i := 0) rfl (j := 0) (Rv.arr_0e hw)))) hS ?_; clear F a; intro a F
        refine any_val F 31 rfl (by kernel_rfl) (F.wants 41 true rfl (by kernel_rfl) rfl true rfl) rfl rfl (.bool true) (fun w' hS' => ex_pick_f _ _ _ rfl (F.e rfl) _ (F.e rfl)) hS ?_; clear F a; intro a F
        refine any_val F 32 rfl (by kernel_rfl) (F.wants 31 false rfl (by kernel_rfl) rfl true rfl) rfl rfl (.bool true) (fun w' hS' => ex_pick_t _ _ _ rfl (F.e rfl) _ (F.e rfl)) hS ?_; clear F a; intro a F
        refine any_val F 33 rfl (by kernel_rfl) (F.wants 22 true rfl (by kernel_rfl) rfl true rfl) rfl rfl (.bool true) (fun w' hS' => ex_pick_f _ _ _ rfl (F.e rfl) _ (F.e rfl)) hS ?_; clear F a; intro a F
        refine any_val F 34 rfl (by kernel_rfl) (wn rfl) rfl rfl (.bool true) (fun w' hS' => ex_pick_t _ _ _ rfl (F.e rfl) _ (F.e rfl)) hS ?_; clear F a; intro a F
        refine any_done (by kernel_rfl) ?_
        exact ⟨F.keep ⟨rfl, rfl, rfl, rfl, rfl, rfl, rfl, rfl, rfl, rfl, trivial⟩, (by refine M.pick' [0] _ ?_ (by decide); exact ⟨rfl, trivial⟩)⟩
       clear F M a
       intro a u hR; obtain ⟨F, M⟩ := hR; try clear v
       refine then_n ?_
       refine wp_cond_true (F.e rfl) ?_
       refine wp_seq ?_
       refine wp_region_lit ?_
       refine list_val F (wn rfl) rfl rfl (.int .i64 140) (ex_assign _ rfl _ rfl) ?_; clear F a; intro a F
       refine wpList_nil ?_
       replace F : Fr 56 a [(0, .slice (some ad) xs.length c), (2, .int .i64 140), (3, .int .i64 ((i : Nat) : Int)), (4, .pointer (some ⟨g4, 0, none⟩)), (5, .slice (some ad) xs.length c), (6, .int .i64 ((xs.length : Nat) : Int)), (7, .int .i64 ((i : Nat) : Int)), (8, .bool true), (19, .bool false), (54, .bool true)] := F.keep ⟨rfl, rfl, rfl, rfl, rfl, rfl, rfl, rfl, rfl, rfl, trivial⟩
       refine then_n ?_
       refine wp_ret ?_
       refine in_r ?_
       refine then_r ?_
       refine then_r ?_
       refine in_r ?_
       refine then_r ?_
       exact ret_tmp F rfl rfl ⟨by rw [chN_rise hx hi0 hy (fun h_ => by rw [(h_.2 hgr).2] at hw; exact absurd hw (by decide))], M.bel⟩
      have hoki : OkAt xs i := fun x2 hx2 => by
        obtain rfl := Option.some.inj (hx.symm.trans hx2)
        refine ⟨hz0, fun y2 h2 hy2 => ?_⟩
        obtain rfl := Option.some.inj (hy.symm.trans hy2)
        exact ⟨hlt, fun h_ => absurd h_ hgr⟩
      refine wp_only (fun ar wr => Fr 56 ar [(0, .slice (some ad) xs.length c), (2, .int .i64 0), (3, .int .i64 ((i : Nat) : Int)), (4, .pointer (some ⟨g4, 0, none⟩)), (5, .slice (some ad) xs.length c), (6, .int .i64 ((xs.length : Nat) : Int)), (7, .int .i64 ((i : Nat) : Int)), (8, .bool true), (19, .bool false), (54, .bool false)] ∧ Mm w wr [⟨g4, x.arr, 85⟩]) ?_ ?_
      ·
       refine region_anyM s1_follows_mixedOrders M [⟨g4, x.arr, 85⟩] (fun w' M => (by refine M.pick' [0] _ ?_ (by decide); exact ⟨rfl, trivial⟩)) ?_; clear M; intro wD M hb
       clear hb; try clear v
       have hS : Mm w wD [⟨g4, x.arr, 85⟩] := (by refine M.pick' [0] _ ?_ (by decide); exact ⟨rfl, trivial⟩)
       refine any_val F 0 rfl (by kernel_rfl) (wn rfl) rfl rfl (.int .i64 ((i : Nat) : Int)) (fun w' hS' => ex_move _ rfl _ (F.e rfl)) hS ?_; clear F a; intro a F
       refine any_val F 1 rfl (by kernel_rfl) (wn rfl) rfl rfl (.bool true) (fun w' hS' => ex_bin .gtr _ _ _ _ rfl .i64 _ _ (F.e rfl) rfl _ (b_gtr (decide_eq_true (by omega)))) hS ?_; clear F a; intro a F
       refine any_val F 2 rfl (by kernel_rfl) (wn rfl) rfl rfl (.bool true) (fun w' hS' => ex_move _ rfl _ (F.e rfl)) hS ?_; clear F a; intro a F
       refine any_val F 3 rfl (by kernel_rfl) (F.wants 22 true rfl (by kernel_rfl) rfl true rfl) rfl rfl (.slice (some ad) xs.length c) (fun w' hS' => ex_move _ rfl _ (F.e rfl)) hS ?_; clear F a; intro a F
       refine any_val F 4 rfl (by kernel_rfl) (F.wants 22 true rfl (by kernel_rfl) rfl true rfl) rfl rfl (.int .i64 ((i : Nat) : Int)) (fun w' hS' => ex_move _ rfl _ (F.e rfl)) hS ?_; clear F a; intro a F
       refine any_val F 5 rfl (by kernel_rfl) (F.wants 22 true rfl (by kernel_rfl) rfl true rfl) rfl rfl (.int .i64 ((i - 1 : Nat) : Int)) (fun w' hS' => ex_bin .sub _ _ _ _ rfl .i64 _ _ (F.e rfl) rfl _ (b_sub ((w_i64 (by omega) (by omega)).trans (by omega)))) hS ?_; clear F a; intro a F
       refine any_val F 6 rfl (by kernel_rfl) (F.wants 22 true rfl (by kernel_rfl) rfl true rfl) rfl rfl (.pointer (some (ad.add ((i - 1) * 19)))) (fun w' hS' => ex_ix _ _ _ rfl 19 s1_sl_57_19 ad _ _ (F.e rfl) .i64 _ (F.e rfl) (i - 1) rfl (by omega) (ad.add ((i - 1) * 19)) rfl) hS ?_; clear F a; intro a F
       refine any_val F 7 rfl (by kernel_rfl) (F.wants 22 true rfl (by kernel_rfl) rfl true rfl) rfl rfl (.agg y.arr) (fun w' hS' => ex_load _ _ rfl _ (F.e rfl) _ (lrow85 y ((zy.below hS'.bel)))) hS ?_; clear F a; intro a F
       refine any_val F 8 rfl (by kernel_rfl) (F.wants 22 true rfl (by kernel_rfl) rfl true rfl) rfl rfl (.agg x.arr) (fun w' hS' => ex_load _ _ rfl _ (F.e rfl) _ (lrow85 x (hS'.at (i := 0) rfl))) hS ?_; clear F a; intro a F
       refine any_ready [9] (by kernel_rfl) (by simp) ?_
       refine ready_do rfl (F.wants 22 true rfl (by kernel_rfl) rfl true rfl) (fun K hK => ?_) AllReadyH.nil
       refine ow_call rfl rfl F 31 #[.agg y.arr, .agg x.arr] (ex_call 31 _ _ rfl rfl s1_ent_31 _ (map2 (F.e rfl) (F.e rfl))) (before_any y x _) (fun e v hR => ?_)
       obtain ⟨he, hb⟩ := hR
       rw [decide_eq_true hlt] at he
       refine ⟨.bool true, he, ?_⟩; clear he F a; intro a F
       replace hS : Mm w v [⟨g4, x.arr, 85⟩] := (by refine (M.below hb).pick' [0] _ ?_ (by decide); exact ⟨rfl, trivial⟩)
       refine hK _ _ hS ?_
       clear hK K
       replace M := M.below hb; clear hb; try clear wD
       refine any_val F 10 rfl (by kernel_rfl) (F.wants 22 true rfl (by kernel_rfl) rfl true rfl) rfl rfl (.bool false) (fun w' hS' => ex_not _ _ rfl _ (F.e rfl) _ rfl) hS ?_; clear F a; intro a F
       refine any_val F 11 rfl (by kernel_rfl) (F.wants 22 true rfl (by kernel_rfl) rfl true rfl) rfl rfl (.bool false) (fun w' hS' => ex_move _ rfl _ (F.e rfl)) hS ?_; clear F a; intro a F
       refine any_val F 12 rfl (by kernel_rfl) (F.wants 31 false rfl (by kernel_rfl) rfl true rfl) rfl rfl (.slice (some ad) xs.length c) (fun w' hS' => ex_move _ rfl _ (F.e rfl)) hS ?_; clear F a; intro a F
       refine any_val F 13 rfl (by kernel_rfl) (F.wants 31 false rfl (by kernel_rfl) rfl true rfl) rfl rfl (.int .i64 ((i : Nat) : Int)) (fun w' hS' => ex_move _ rfl _ (F.e rfl)) hS ?_; clear F a; intro a F
       refine any_val F 14 rfl (by kernel_rfl) (F.wants 31 false rfl (by kernel_rfl) rfl true rfl) rfl rfl (.int .i64 ((i - 1 : Nat) : Int)) (fun w' hS' => ex_bin .sub _ _ _ _ rfl .i64 _ _ (F.e rfl) rfl _ (b_sub ((w_i64 (by omega) (by omega)).trans (by omega)))) hS ?_; clear F a; intro a F
       refine any_val F 15 rfl (by kernel_rfl) (F.wants 31 false rfl (by kernel_rfl) rfl true rfl) rfl rfl (.pointer (some (ad.add ((i - 1) * 19)))) (fun w' hS' => ex_ix _ _ _ rfl 19 s1_sl_57_19 ad _ _ (F.e rfl) .i64 _ (F.e rfl) (i - 1) rfl (by omega) (ad.add ((i - 1) * 19)) rfl) hS ?_; clear F a; intro a F
       refine any_val F 16 rfl (by kernel_rfl) (F.wants 31 false rfl (by kernel_rfl) rfl true rfl) rfl rfl (.pointer (some ((ad.add ((i - 1) * 19)).add 1))) (fun w' hS' => ex_fa _ _ _ rfl _ (F.e rfl) 1 s1_fa_85_1_1 ((ad.add ((i - 1) * 19)).add 1) rfl) hS ?_; clear F a; intro a F
       refine any_val F 17 rfl (by kernel_rfl) (F.wants 31 false rfl (by kernel_rfl) rfl true rfl) rfl rfl (.int .u64 y.grant) (fun w' hS' => ex_load _ _ rfl _ (F.e rfl) _ (lv1 s1_one_67 ((zy.below hS'.bel).cell 1 _ (Rv.cs_1 _)))) hS ?_; clear F a; intro a F
       refine any_val F 18 rfl (by kernel_rfl) (F.wants 31 false rfl (by kernel_rfl) rfl true rfl) rfl rfl (.pointer (some ⟨g4, 1, none⟩)) (fun w' hS' => ex_fa _ _ _ rfl _ (F.e rfl) 1 s1_fa_85_1_1 ⟨g4, 1, none⟩ rfl) hS ?_; clear F a; intro a F
       refine any_val F 19 rfl (by kernel_rfl) (F.wants 31 false rfl (by kernel_rfl) rfl true rfl) rfl rfl (.int .u64 x.grant) (fun w' hS' => ex_load _ _ rfl _ (F.e rfl) _ (lv1 s1_one_67 (hS'.cell (i := 0) rfl (j := 1) (Rv.arr_1 _)))) hS ?_; clear F a; intro a F
       refine any_val F 20 rfl (by kernel_rfl) (F.wants 31 false rfl (by kernel_rfl) rfl true rfl) rfl rfl (.bool false) (fun w' hS' => ex_bin .eql _ _ _ _ rfl .u64 _ _ (F.e rfl) (F.e rfl) _ (b_eql (by simp [hgr]))) hS ?_; clear F a; intro a F
       refine any_val F 21 rfl (by kernel_rfl) (F.wants 31 false rfl (by kernel_rfl) rfl true rfl) rfl rfl (.bool false) (fun w' hS' => ex_move _ rfl _ (F.e rfl)) hS ?_; clear F a; intro a F
       refine any_pass F 22 rfl (by kernel_rfl) (F.wants 41 false rfl (by kernel_rfl) rfl false rfl) rfl rfl hS ?_; clear F a; intro a F
       refine any_pass F 23 rfl (by kernel_rfl) (F.wants 41 false rfl (by kernel_rfl) rfl false rfl) rfl rfl hS ?_; clear F a; intro a F
       refine any_pass F 24 rfl (by kernel_rfl) (F.wants 41 false rfl (by kernel_rfl) rfl false rfl) rfl rfl hS ?_; clear F a; intro a F
       refine any_pass F 25 rfl (by kernel_rfl) (F.wants 41 false rfl (by kernel_rfl) rfl false rfl) rfl rfl hS ?_; clear F a; intro a F
       refine any_pass F 26 rfl (by kernel_rfl) (F.wants 41 false rfl (by kernel_rfl) rfl false rfl) rfl rfl hS ?_; clear F a; intro a F
       refine any_pass F 27 rfl (by kernel_rfl) (F.wants 41 false rfl (by kernel_rfl) rfl false rfl) rfl rfl hS ?_; clear F a; intro a F
       refine any_pass F 28 rfl (by kernel_rfl) (F.wants 41 false rfl (by kernel_rfl) rfl false rfl) rfl rfl hS ?_; clear F a; intro a F
       refine any_pass F 29 rfl (by kernel_rfl) (F.wants0 48 rfl (by kernel_rfl) rfl) rfl rfl hS ?_; clear F a; intro a F
       refine any_pass F 30 rfl (by kernel_rfl) (F.wants0 48 rfl (by kernel_rfl) rfl) rfl rfl hS ?_; clear F a; intro a F
       refine any_pass F 31 rfl (by kernel_rfl) (F.wants 41 false rfl (by kernel_rfl) rfl false rfl) rfl rfl hS ?_; clear F a; intro a F
       refine any_val F 32 rfl (by kernel_rfl) (F.wants 31 false rfl (by kernel_rfl) rfl true rfl) rfl rfl (.bool false) (fun w' hS' => ex_pick_f _ _ _ rfl (F.e rfl) _ rfl) hS ?_; clear F a; intro a F
       refine any_val F 33 rfl (by kernel_rfl) (F.wants 22 true rfl (by kernel_rfl) rfl true rfl) rfl rfl (.bool false) (fun w' hS' => ex_pick_f _ _ _ rfl (F.e rfl) _ (F.e rfl)) hS ?_; clear F a; intro a F
       refine any_val F 34 rfl (by kernel_rfl) (wn rfl) rfl rfl (.bool false) (fun w' hS' => ex_pick_t _ _ _ rfl (F.e rfl) _ (F.e rfl)) hS ?_; clear F a; intro a F
       refine any_done (by kernel_rfl) ?_
       exact ⟨F.keep ⟨rfl, rfl, rfl, rfl, rfl, rfl, rfl, rfl, rfl, rfl, trivial⟩, (by refine M.pick' [0] _ ?_ (by decide); exact ⟨rfl, trivial⟩)⟩
      clear F M a
      intro a u hR; obtain ⟨F, M⟩ := hR; try clear v
      refine then_n ?_
      refine wp_cond_false (F.e rfl) ?_
      refine wp_skip ?_
      refine in_n ?_
      refine then_n ?_
      refine wp_region_lit ?_
      refine list_val F (wn rfl) rfl rfl (.int .i64 ((i + 1 : Nat) : Int)) (ex_bin .add _ _ _ _ rfl .i64 _ _ (F.e rfl) rfl _ (b_add ((w_i64 (by omega) (by omega)).trans (by omega)))) ?_; clear F a; intro a F
      refine list_val F (wn rfl) rfl rfl (.int .i64 ((i + 1 : Nat) : Int)) (ex_move _ rfl _ (F.e rfl)) ?_; clear F a; intro a F
      refine wpList_nil ?_
      refine then_n ?_
      exact ⟨xs.length - (i + 1), by omega, (i + 1), F.keep ⟨rfl, rfl, rfl, rfl, rfl, trivial⟩, (by refine M.pick' [] _ ?_ (by decide); exact trivial), (by omega), (fun j hj => (Nat.lt_or_eq_of_le (Nat.le_of_lt_succ hj)).elim (fun h_ => hok j h_) (fun h_ => by subst h_; exact hoki)), (by omega)⟩
     refine wp_only (fun ar wr => Fr 56 ar [(0, .slice (some ad) xs.length c), (2, .int .i64 0), (3, .int .i64 ((i : Nat) : Int)), (4, .pointer (some ⟨g4, 0, none⟩)), (5, .slice (some ad) xs.length c), (6, .int .i64 ((xs.length : Nat) : Int)), (7, .int .i64 ((i : Nat) : Int)), (8, .bool true), (19, .bool false), (54, .bool true)] ∧ Mm w wr [⟨g4, x.arr, 85⟩]) ?_ ?_
     ·
      refine region_anyM s1_follows_mixedOrders M [⟨g4, x.arr, 85⟩] (fun w' M => (by refine M.pick' [0] _ ?_ (by decide); exact ⟨rfl, trivial⟩)) ?_; clear M; intro wD M hb
      clear hb; try clear v
      have hS : Mm w wD [⟨g4, x.arr, 85⟩] := (by refine M.pick' [0] _ ?_ (by decide); exact ⟨rfl, trivial⟩)
      refine any_val F 0 rfl (by kernel_rfl) (wn rfl) rfl rfl (.int .i64 ((i : Nat) : Int)) (fun w' hS' => ex_move _ rfl _ (F.e rfl)) hS ?_; clear F a; intro a F
      refine any_val F 1 rfl (by kernel_rfl) (wn rfl) rfl rfl (.bool true) (fun w' hS' => ex_bin .gtr _ _ _ _ rfl .i64 _ _ (F.e rfl) rfl _ (b_gtr (decide_eq_true (by omega)))) hS ?_; clear F a; intro a F
      refine any_val F 2 rfl (by kernel_rfl) (wn rfl) rfl rfl (.bool true) (fun w' hS' => ex_move _ rfl _ (F.e rfl)) hS ?_; clear F a; intro a F
      refine any_val F 3 rfl (by kernel_rfl) (F.wants 22 true rfl (by kernel_rfl) rfl true rfl) rfl rfl (.slice (some ad) xs.length c) (fun w' hS' => ex_move _ rfl _ (F.e rfl)) hS ?_; clear F a; intro a F
      refine any_val F 4 rfl (by kernel_rfl) (F.wants 22 true rfl (by kernel_rfl) rfl true rfl) rfl rfl (.int .i64 ((i : Nat) : Int)) (fun w' hS' => ex_move _ rfl _ (F.e rfl)) hS ?_; clear F a; intro a F
      refine any_val F 5 rfl (by kernel_rfl) (F.wants 22 true rfl (by kernel_rfl) rfl true rfl) rfl rfl (.int .i64 ((i - 1 : Nat) : Int)) (fun w' hS' => ex_bin .sub _ _ _ _ rfl .i64 _ _ (F.e rfl) rfl _ (b_sub ((w_i64 (by omega) (by omega)).trans (by omega)))) hS ?_; clear F a; intro a F
      refine any_val F 6 rfl (by kernel_rfl) (F.wants 22 true rfl (by kernel_rfl) rfl true rfl) rfl rfl (.pointer (some (ad.add ((i - 1) * 19)))) (fun w' hS' => ex_ix _ _ _ rfl 19 s1_sl_57_19 ad _ _ (F.e rfl) .i64 _ (F.e rfl) (i - 1) rfl (by omega) (ad.add ((i - 1) * 19)) rfl) hS ?_; clear F a; intro a F
      refine any_val F 7 rfl (by kernel_rfl) (F.wants 22 true rfl (by kernel_rfl) rfl true rfl) rfl rfl (.agg y.arr) (fun w' hS' => ex_load _ _ rfl _ (F.e rfl) _ (lrow85 y ((zy.below hS'.bel)))) hS ?_; clear F a; intro a F
      refine any_val F 8 rfl (by kernel_rfl) (F.wants 22 true rfl (by kernel_rfl) rfl true rfl) rfl rfl (.agg x.arr) (fun w' hS' => ex_load _ _ rfl _ (F.e rfl) _ (lrow85 x (hS'.at (i := 0) rfl))) hS ?_; clear F a; intro a F
      refine any_ready [9] (by kernel_rfl) (by simp) ?_
      refine ready_do rfl (F.wants 22 true rfl (by kernel_rfl) rfl true rfl) (fun K hK => ?_) AllReadyH.nil
      refine ow_call rfl rfl F 31 #[.agg y.arr, .agg x.arr] (ex_call 31 _ _ rfl rfl s1_ent_31 _ (map2 (F.e rfl) (F.e rfl))) (before_any y x _) (fun e v hR => ?_)
      obtain ⟨he, hb⟩ := hR
      rw [decide_eq_false hlt] at he
      refine ⟨.bool false, he, ?_⟩; clear he F a; intro a F
      replace hS : Mm w v [⟨g4, x.arr, 85⟩] := (by refine (M.below hb).pick' [0] _ ?_ (by decide); exact ⟨rfl, trivial⟩)
      refine hK _ _ hS ?_
      clear hK K
      replace M := M.below hb; clear hb; try clear wD
      refine any_val F 10 rfl (by kernel_rfl) (F.wants 22 true rfl (by kernel_rfl) rfl true rfl) rfl rfl (.bool true) (fun w' hS' => ex_not _ _ rfl _ (F.e rfl) _ rfl) hS ?_; clear F a; intro a F
      refine any_val F 11 rfl (by kernel_rfl) (F.wants 22 true rfl (by kernel_rfl) rfl true rfl) rfl rfl (.bool true) (fun w' hS' => ex_move _ rfl _ (F.e rfl)) hS ?_; clear F a; intro a F
      refine any_pass F 12 rfl (by kernel_rfl) (F.wants 31 true rfl (by kernel_rfl) rfl false rfl) rfl rfl hS ?_; clear F a; intro a F
      refine any_pass F 13 rfl (by kernel_rfl) (F.wants 31 true rfl (by kernel_rfl) rfl false rfl) rfl rfl hS ?_; clear F a; intro a F
      refine any_pass F 14 rfl (by kernel_rfl) (F.wants 31 true rfl (by kernel_rfl) rfl false rfl) rfl rfl hS ?_; clear F a; intro a F
      refine any_pass F 15 rfl (by kernel_rfl) (F.wants 31 true rfl (by kernel_rfl) rfl false rfl) rfl rfl hS ?_; clear F a; intro a F
      refine any_pass F 16 rfl (by kernel_rfl) (F.wants 31 true rfl (by kernel_rfl) rfl false rfl) rfl rfl hS ?_; clear F a; intro a F
      refine any_pass F 17 rfl (by kernel_rfl) (F.wants 31 true rfl (by kernel_rfl) rfl false rfl) rfl rfl hS ?_; clear F a; intro a F
      refine any_pass F 18 rfl (by kernel_rfl) (F.wants 31 true rfl (by kernel_rfl) rfl false rfl) rfl rfl hS ?_; clear F a; intro a F
      refine any_pass F 19 rfl (by kernel_rfl) (F.wants 31 true rfl (by kernel_rfl) rfl false rfl) rfl rfl hS ?_; clear F a; intro a F
      refine any_pass F 20 rfl (by kernel_rfl) (F.wants 31 true rfl (by kernel_rfl) rfl false rfl) rfl rfl hS ?_; clear F a; intro a F
      refine any_pass F 21 rfl (by kernel_rfl) (F.wants 31 true rfl (by kernel_rfl) rfl false rfl) rfl rfl hS ?_; clear F a; intro a F
      refine any_pass F 22 rfl (by kernel_rfl) (F.wants0 41 rfl (by kernel_rfl) rfl) rfl rfl hS ?_; clear F a; intro a F
      refine any_pass F 23 rfl (by kernel_rfl) (F.wants0 41 rfl (by kernel_rfl) rfl) rfl rfl hS ?_; clear F a; intro a F
      refine any_pass F 24 rfl (by kernel_rfl) (F.wants0 41 rfl (by kernel_rfl) rfl) rfl rfl hS ?_; clear F a; intro a F
      refine any_pass F 25 rfl (by kernel_rfl) (F.wants0 41 rfl (by kernel_rfl) rfl) rfl rfl hS ?_; clear F a; intro a F
      refine any_pass F 26 rfl (by kernel_rfl) (F.wants0 41 rfl (by kernel_rfl) rfl) rfl rfl hS ?_; clear F a; intro a F
      refine any_pass F 27 rfl (by kernel_rfl) (F.wants0 41 rfl (by kernel_rfl) rfl) rfl rfl hS ?_; clear F a; intro a F
      refine any_pass F 28 rfl (by kernel_rfl) (F.wants0 41 rfl (by kernel_rfl) rfl) rfl rfl hS ?_; clear F a; intro a F
      refine any_pass F 29 rfl (by kernel_rfl) (F.wants0 48 rfl (by kernel_rfl) rfl) rfl rfl hS ?_; clear F a; intro a F
      refine any_pass F 30 rfl (by kernel_rfl) (F.wants0 48 rfl (by kernel_rfl) rfl) rfl rfl hS ?_; clear F a; intro a F
      refine any_pass F 31 rfl (by kernel_rfl) (F.wants0 41 rfl (by kernel_rfl) rfl) rfl rfl hS ?_; clear F a; intro a F
      refine any_pass F 32 rfl (by kernel_rfl) (F.wants 31 true rfl (by kernel_rfl) rfl false rfl) rfl rfl hS ?_; clear F a; intro a F
      refine any_val F 33 rfl (by kernel_rfl) (F.wants 22 true rfl (by kernel_rfl) rfl true rfl) rfl rfl (.bool true) (fun w' hS' => ex_pick_t _ _ _ rfl (F.e rfl) _ rfl) hS ?_; clear F a; intro a F
      refine any_val F 34 rfl (by kernel_rfl) (wn rfl) rfl rfl (.bool true) (fun w' hS' => ex_pick_t _ _ _ rfl (F.e rfl) _ (F.e rfl)) hS ?_; clear F a; intro a F
      refine any_done (by kernel_rfl) ?_
      exact ⟨F.keep ⟨rfl, rfl, rfl, rfl, rfl, rfl, rfl, rfl, rfl, rfl, trivial⟩, (by refine M.pick' [0] _ ?_ (by decide); exact ⟨rfl, trivial⟩)⟩
     clear F M a
     intro a u hR; obtain ⟨F, M⟩ := hR; try clear v
     refine then_n ?_
     refine wp_cond_true (F.e rfl) ?_
     refine wp_seq ?_
     refine wp_region_lit ?_
     refine list_val F (wn rfl) rfl rfl (.int .i64 140) (ex_assign _ rfl _ rfl) ?_; clear F a; intro a F
     refine wpList_nil ?_
     replace F : Fr 56 a [(0, .slice (some ad) xs.length c), (2, .int .i64 140), (3, .int .i64 ((i : Nat) : Int)), (4, .pointer (some ⟨g4, 0, none⟩)), (5, .slice (some ad) xs.length c), (6, .int .i64 ((xs.length : Nat) : Int)), (7, .int .i64 ((i : Nat) : Int)), (8, .bool true), (19, .bool false), (54, .bool true)] := F.keep ⟨rfl, rfl, rfl, rfl, rfl, rfl, rfl, rfl, rfl, rfl, trivial⟩
     refine then_n ?_
     refine wp_ret ?_
     refine in_r ?_
     refine then_r ?_
     refine then_r ?_
     refine in_r ?_
     refine then_r ?_
     exact ret_tmp F rfl rfl ⟨by rw [chN_rise hx hi0 hy (fun h_ => hlt h_.1)], M.bel⟩
    have hoki : OkAt xs i := fun x2 hx2 => by
      obtain rfl := Option.some.inj (hx.symm.trans hx2)
      exact ⟨hz0, fun y2 h2 => absurd h2 hi0⟩
    refine wp_only (fun ar wr => Fr 56 ar [(0, .slice (some ad) xs.length c), (2, .int .i64 0), (3, .int .i64 ((i : Nat) : Int)), (4, .pointer (some ⟨g4, 0, none⟩)), (5, .slice (some ad) xs.length c), (6, .int .i64 ((xs.length : Nat) : Int)), (7, .int .i64 ((i : Nat) : Int)), (8, .bool true), (19, .bool false), (54, .bool false)] ∧ Mm w wr [⟨g4, x.arr, 85⟩]) ?_ ?_
    ·
     refine region_anyM s1_follows_mixedOrders M [⟨g4, x.arr, 85⟩] (fun w' M => (by refine M.pick' [0] _ ?_ (by decide); exact ⟨rfl, trivial⟩)) ?_; clear M; intro wD M hb
     clear hb; try clear v
     have hS : Mm w wD [⟨g4, x.arr, 85⟩] := (by refine M.pick' [0] _ ?_ (by decide); exact ⟨rfl, trivial⟩)
     refine any_val F 0 rfl (by kernel_rfl) (wn rfl) rfl rfl (.int .i64 ((i : Nat) : Int)) (fun w' hS' => ex_move _ rfl _ (F.e rfl)) hS ?_; clear F a; intro a F
     refine any_val F 1 rfl (by kernel_rfl) (wn rfl) rfl rfl (.bool false) (fun w' hS' => ex_bin .gtr _ _ _ _ rfl .i64 _ _ (F.e rfl) rfl _ (b_gtr (decide_eq_false (by omega)))) hS ?_; clear F a; intro a F
     refine any_val F 2 rfl (by kernel_rfl) (wn rfl) rfl rfl (.bool false) (fun w' hS' => ex_move _ rfl _ (F.e rfl)) hS ?_; clear F a; intro a F
     refine any_pass F 3 rfl (by kernel_rfl) (F.wants 22 false rfl (by kernel_rfl) rfl false rfl) rfl rfl hS ?_; clear F a; intro a F
     refine any_pass F 4 rfl (by kernel_rfl) (F.wants 22 false rfl (by kernel_rfl) rfl false rfl) rfl rfl hS ?_; clear F a; intro a F
     refine any_pass F 5 rfl (by kernel_rfl) (F.wants 22 false rfl (by kernel_rfl) rfl false rfl) rfl rfl hS ?_; clear F a; intro a F
     refine any_pass F 6 rfl (by kernel_rfl) (F.wants 22 false rfl (by kernel_rfl) rfl false rfl) rfl rfl hS ?_; clear F a; intro a F
     refine any_pass F 7 rfl (by kernel_rfl) (F.wants 22 false rfl (by kernel_rfl) rfl false rfl) rfl rfl hS ?_; clear F a; intro a F
     refine any_pass F 8 rfl (by kernel_rfl) (F.wants 22 false rfl (by kernel_rfl) rfl false rfl) rfl rfl hS ?_; clear F a; intro a F
     refine any_pass F 9 rfl (by kernel_rfl) (F.wants 22 false rfl (by kernel_rfl) rfl false rfl) rfl rfl hS ?_; clear F a; intro a F
     refine any_pass F 10 rfl (by kernel_rfl) (F.wants 22 false rfl (by kernel_rfl) rfl false rfl) rfl rfl hS ?_; clear F a; intro a F
     refine any_pass F 11 rfl (by kernel_rfl) (F.wants 22 false rfl (by kernel_rfl) rfl false rfl) rfl rfl hS ?_; clear F a; intro a F
     refine any_pass F 12 rfl (by kernel_rfl) (F.wants0 31 rfl (by kernel_rfl) rfl) rfl rfl hS ?_; clear F a; intro a F
     refine any_pass F 13 rfl (by kernel_rfl) (F.wants0 31 rfl (by kernel_rfl) rfl) rfl rfl hS ?_; clear F a; intro a F
     refine any_pass F 14 rfl (by kernel_rfl) (F.wants0 31 rfl (by kernel_rfl) rfl) rfl rfl hS ?_; clear F a; intro a F
     refine any_pass F 15 rfl (by kernel_rfl) (F.wants0 31 rfl (by kernel_rfl) rfl) rfl rfl hS ?_; clear F a; intro a F
     refine any_pass F 16 rfl (by kernel_rfl) (F.wants0 31 rfl (by kernel_rfl) rfl) rfl rfl hS ?_; clear F a; intro a F
     refine any_pass F 17 rfl (by kernel_rfl) (F.wants0 31 rfl (by kernel_rfl) rfl) rfl rfl hS ?_; clear F a; intro a F
     refine any_pass F 18 rfl (by kernel_rfl) (F.wants0 31 rfl (by kernel_rfl) rfl) rfl rfl hS ?_; clear F a; intro a F
     refine any_pass F 19 rfl (by kernel_rfl) (F.wants0 31 rfl (by kernel_rfl) rfl) rfl rfl hS ?_; clear F a; intro a F
     refine any_pass F 20 rfl (by kernel_rfl) (F.wants0 31 rfl (by kernel_rfl) rfl) rfl rfl hS ?_; clear F a; intro a F
     refine any_pass F 21 rfl (by kernel_rfl) (F.wants0 31 rfl (by kernel_rfl) rfl) rfl rfl hS ?_; clear F a; intro a F
     refine any_pass F 22 rfl (by kernel_rfl) (F.wants0 41 rfl (by kernel_rfl) rfl) rfl rfl hS ?_; clear F a; intro a F
     refine any_pass F 23 rfl (by kernel_rfl) (F.wants0 41 rfl (by kernel_rfl) rfl) rfl rfl hS ?_; clear F a; intro a F
     refine any_pass F 24 rfl (by kernel_rfl) (F.wants0 41 rfl (by kernel_rfl) rfl) rfl rfl hS ?_; clear F a; intro a F
     refine any_pass F 25 rfl (by kernel_rfl) (F.wants0 41 rfl (by kernel_rfl) rfl) rfl rfl hS ?_; clear F a; intro a F
     refine any_pass F 26 rfl (by kernel_rfl) (F.wants0 41 rfl (by kernel_rfl) rfl) rfl rfl hS ?_; clear F a; intro a F
     refine any_pass F 27 rfl (by kernel_rfl) (F.wants0 41 rfl (by kernel_rfl) rfl) rfl rfl hS ?_; clear F a; intro a F
     refine any_pass F 28 rfl (by kernel_rfl) (F.wants0 41 rfl (by kernel_rfl) rfl) rfl rfl hS ?_; clear F a; intro a F
     refine any_pass F 29 rfl (by kernel_rfl) (F.wants0 48 rfl (by kernel_rfl) rfl) rfl rfl hS ?_; clear F a; intro a F
     refine any_pass F 30 rfl (by kernel_rfl) (F.wants0 48 rfl (by kernel_rfl) rfl) rfl rfl hS ?_; clear F a; intro a F
     refine any_pass F 31 rfl (by kernel_rfl) (F.wants0 41 rfl (by kernel_rfl) rfl) rfl rfl hS ?_; clear F a; intro a F
     refine any_pass F 32 rfl (by kernel_rfl) (F.wants0 31 rfl (by kernel_rfl) rfl) rfl rfl hS ?_; clear F a; intro a F
     refine any_pass F 33 rfl (by kernel_rfl) (F.wants 22 false rfl (by kernel_rfl) rfl false rfl) rfl rfl hS ?_; clear F a; intro a F
     refine any_val F 34 rfl (by kernel_rfl) (wn rfl) rfl rfl (.bool false) (fun w' hS' => ex_pick_f _ _ _ rfl (F.e rfl) _ rfl) hS ?_; clear F a; intro a F
     refine any_done (by kernel_rfl) ?_
     exact ⟨F.keep ⟨rfl, rfl, rfl, rfl, rfl, rfl, rfl, rfl, rfl, rfl, trivial⟩, (by refine M.pick' [0] _ ?_ (by decide); exact ⟨rfl, trivial⟩)⟩
    clear F M a
    intro a u hR; obtain ⟨F, M⟩ := hR; try clear v
    refine then_n ?_
    refine wp_cond_false (F.e rfl) ?_
    refine wp_skip ?_
    refine in_n ?_
    refine then_n ?_
    refine wp_region_lit ?_
    refine list_val F (wn rfl) rfl rfl (.int .i64 ((i + 1 : Nat) : Int)) (ex_bin .add _ _ _ _ rfl .i64 _ _ (F.e rfl) rfl _ (b_add ((w_i64 (by omega) (by omega)).trans (by omega)))) ?_; clear F a; intro a F
    refine list_val F (wn rfl) rfl rfl (.int .i64 ((i + 1 : Nat) : Int)) (ex_move _ rfl _ (F.e rfl)) ?_; clear F a; intro a F
    refine wpList_nil ?_
    refine then_n ?_
    exact ⟨xs.length - (i + 1), by omega, (i + 1), F.keep ⟨rfl, rfl, rfl, rfl, rfl, trivial⟩, (by refine M.pick' [] _ ?_ (by decide); exact trivial), (by omega), (fun j hj => (Nat.lt_or_eq_of_le (Nat.le_of_lt_succ hj)).elim (fun h_ => hok j h_) (fun h_ => by subst h_; exact hoki)), (by omega)⟩
   refine wp_region_lit ?_
   refine list_val F (wn rfl) rfl rfl (.pointer (some ⟨g4, 0, none⟩)) (ex_fa _ _ _ rfl _ (F.e rfl) 0 s1_fa_85_0_0 ⟨g4, 0, none⟩ rfl) ?_; clear F a; intro a F
   refine list_val F (wn rfl) rfl rfl (.bool true) (ex_load _ _ rfl _ (F.e rfl) _ (lv1 s1_one_4 (M.cell (i := 0) rfl (j := 0) (Rv.arr_0e hw)))) ?_; clear F a; intro a F
   refine list_val F (wn rfl) rfl rfl (.bool true) (ex_move _ rfl _ (F.e rfl)) ?_; clear F a; intro a F
   refine list_val F (F.wants 14 true rfl (by kernel_rfl) rfl true rfl) rfl rfl (.pointer (some ⟨g4, 2, none⟩)) (ex_fa _ _ _ rfl _ (F.e rfl) 2 s1_fa_85_2_2 ⟨g4, 2, none⟩ rfl) ?_; clear F a; intro a F
   refine list_val F (F.wants 14 true rfl (by kernel_rfl) rfl true rfl) rfl rfl (.agg x.id.cs.toArray) (ex_load _ _ rfl _ (F.e rfl) _ (lrow69 x.id (Rv.id_at (M.at (i := 0) rfl)))) ?_; clear F a; intro a F
   refine list_val F (F.wants 14 true rfl (by kernel_rfl) rfl true rfl) rfl rfl (.agg ((zBs 16).cs.toArray)) (ex_build69 rfl) ?_; clear F a; intro a F
   refine list_val F (F.wants 14 true rfl (by kernel_rfl) rfl true rfl) rfl rfl (.bool true) (ex_ne69 _ _ _ rfl x.id (zBs 16) (F.e rfl) (F.e rfl) true (by simp [hz])) ?_; clear F a; intro a F
   refine list_val F (wn rfl) rfl rfl (.bool true) (ex_pick_t _ _ _ rfl (F.e rfl) _ (F.e rfl)) ?_; clear F a; intro a F
   refine wpList_nil ?_
   refine then_n ?_
   refine wp_cond_true (F.e rfl) ?_
   refine wp_seq ?_
   refine wp_region_lit ?_
   refine list_val F (wn rfl) rfl rfl (.int .i64 140) (ex_assign _ rfl _ rfl) ?_; clear F a; intro a F
   refine wpList_nil ?_
   refine then_n ?_
   refine wp_ret ?_
   refine then_r ?_
   refine in_r ?_
   refine then_r ?_
   refine then_r ?_
   refine in_r ?_
   refine then_r ?_
   exact ret_tmp F rfl rfl ⟨by rw [chN_zero hx hw hz], M.bel⟩
  have hz0 : x.whole = true → x.id = zBs 16 := fun h_ => absurd h_ hw
  refine wp_region_lit ?_
  refine list_val F (wn rfl) rfl rfl (.pointer (some ⟨g4, 0, none⟩)) (ex_fa _ _ _ rfl _ (F.e rfl) 0 s1_fa_85_0_0 ⟨g4, 0, none⟩ rfl) ?_; clear F a; intro a F
  refine list_val F (wn rfl) rfl rfl (.bool false) (ex_load _ _ rfl _ (F.e rfl) _ (lv1 s1_one_4 (M.cell (i := 0) rfl (j := 0) (Rv.arr_0e (Bool.eq_false_iff.2 hw))))) ?_; clear F a; intro a F
  refine list_val F (wn rfl) rfl rfl (.bool false) (ex_move _ rfl _ (F.e rfl)) ?_; clear F a; intro a F
  refine list_skip F (F.wants 14 false rfl (by kernel_rfl) rfl false rfl) rfl rfl ?_; clear F a; intro a F
  refine list_skip F (F.wants 14 false rfl (by kernel_rfl) rfl false rfl) rfl rfl ?_; clear F a; intro a F
  refine list_skip F (F.wants 14 false rfl (by kernel_rfl) rfl false rfl) rfl rfl ?_; clear F a; intro a F
  refine list_skip F (F.wants 14 false rfl (by kernel_rfl) rfl false rfl) rfl rfl ?_; clear F a; intro a F
  refine list_val F (wn rfl) rfl rfl (.bool false) (ex_pick_f _ _ _ rfl (F.e rfl) _ rfl) ?_; clear F a; intro a F
  refine wpList_nil ?_
  replace F : Fr 56 a [(0, .slice (some ad) xs.length c), (2, .int .i64 0), (3, .int .i64 ((i : Nat) : Int)), (4, .pointer (some ⟨g4, 0, none⟩)), (5, .slice (some ad) xs.length c), (6, .int .i64 ((xs.length : Nat) : Int)), (7, .int .i64 ((i : Nat) : Int)), (8, .bool true), (19, .bool false)] := F.keep ⟨rfl, rfl, rfl, rfl, rfl, rfl, rfl, rfl, rfl, trivial⟩
  refine then_n ?_
  refine wp_cond_false (F.e rfl) ?_
  refine wp_skip ?_
  refine then_n ?_
  refine wp_seq ?_
  by_cases hi0 : 0 < i
  ·
   obtain ⟨y, hy⟩ : ∃ y, xs[i - 1]? = some y := ⟨_, List.getElem?_eq_getElem (by omega)⟩
   obtain ⟨_, had, zy⟩ := C_ix hr hy
   obtain rfl := Option.some.inj had
   clear had
   by_cases hlt : key y < key x
   ·
    by_cases hgr : y.grant = x.grant
    ·
     by_cases hyw : y.whole = true
     ·
      refine wp_only (fun ar wr => Fr 56 ar [(0, .slice (some ad) xs.length c), (2, .int .i64 0), (3, .int .i64 ((i : Nat) : Int)), (4, .pointer (some ⟨g4, 0, none⟩)), (5, .slice (some ad) xs.length c), (6, .int .i64 ((xs.length : Nat) : Int)), (7, .int .i64 ((i : Nat) : Int)), (8, .bool true), (19, .bool false), (54, .bool true)] ∧ Mm w wr [⟨g4, x.arr, 85⟩]) ?_ ?_
      ·
       refine region_anyM s1_follows_mixedOrders M [⟨g4, x.arr, 85⟩] (fun w' M => (by refine M.pick' [0] _ ?_ (by decide); exact ⟨rfl, trivial⟩)) ?_; clear M; intro wD M hb
       clear hb; try clear v
       have hS : Mm w wD [⟨g4, x.arr, 85⟩] := (by refine M.pick' [0] _ ?_ (by decide); exact ⟨rfl, trivial⟩)
       refine any_val F 0 rfl (by kernel_rfl) (wn rfl) rfl rfl (.int .i64 ((i : Nat) : Int)) (fun w' hS' => ex_move _ rfl _ (F.e rfl)) hS ?_; clear F a; intro a F
       refine any_val F 1 rfl (by kernel_rfl) (wn rfl) rfl rfl (.bool true) (fun w' hS' => ex_bin .gtr _ _ _ _ rfl .i64 _ _ (F.e rfl) rfl _ (b_gtr (decide_eq_true (by omega)))) hS ?_; clear F a; intro a F
       refine any_val F 2 rfl (by kernel_rfl) (wn rfl) rfl rfl (.bool true) (fun w' hS' => ex_move _ rfl _ (F.e rfl)) hS ?_; clear F a; intro a F
       refine any_val F 3 rfl (by kernel_rfl) (F.wants 22 true rfl (by kernel_rfl) rfl true rfl) rfl rfl (.slice (some ad) xs.length c) (fun w' hS' => ex_move _ rfl _ (F.e rfl)) hS ?_; clear F a; intro a F
       refine any_val F 4 rfl (by kernel_rfl) (F.wants 22 true rfl (by kernel_rfl) rfl true rfl) rfl rfl (.int .i64 ((i : Nat) : Int)) (fun w' hS' => ex_move _ rfl _ (F.e rfl)) hS ?_; clear F a; intro a F
       refine any_val F 5 rfl (by kernel_rfl) (F.wants 22 true rfl (by kernel_rfl) rfl true rfl) rfl rfl (.int .i64 ((i - 1 : Nat) : Int)) (fun w' hS' => ex_bin .sub _ _ _ _ rfl .i64 _ _ (F.e rfl) rfl _ (b_sub ((w_i64 (by omega) (by omega)).trans (by omega)))) hS ?_; clear F a; intro a F
       refine any_val F 6 rfl (by kernel_rfl) (F.wants 22 true rfl (by kernel_rfl) rfl true rfl) rfl rfl (.pointer (some (ad.add ((i - 1) * 19)))) (fun w' hS' => ex_ix _ _ _ rfl 19 s1_sl_57_19 ad _ _ (F.e rfl) .i64 _ (F.e rfl) (i - 1) rfl (by omega) (ad.add ((i - 1) * 19)) rfl) hS ?_; clear F a; intro a F
       refine any_val F 7 rfl (by kernel_rfl) (F.wants 22 true rfl (by kernel_rfl) rfl true rfl) rfl rfl (.agg y.arr) (fun w' hS' => ex_load _ _ rfl _ (F.e rfl) _ (lrow85 y ((zy.below hS'.bel)))) hS ?_; clear F a; intro a F
       refine any_val F 8 rfl (by kernel_rfl) (F.wants 22 true rfl (by kernel_rfl) rfl true rfl) rfl rfl (.agg x.arr) (fun w' hS' => ex_load _ _ rfl _ (F.e rfl) _ (lrow85 x (hS'.at (i := 0) rfl))) hS ?_; clear F a; intro a F
       refine any_ready [9] (by kernel_rfl) (by simp) ?_
       refine ready_do rfl (F.wants 22 true rfl (by kernel_rfl) rfl true rfl) (fun K hK => ?_) AllReadyH.nil
       refine ow_call rfl rfl F 31 #[.agg y.arr, .agg x.arr] (ex_call 31 _ _ rfl rfl s1_ent_31 _ (map2 (F.e rfl) (F.e rfl))) (before_any y x _) (fun e v hR => ?_)
       obtain ⟨he, hb⟩ := hR
       rw [decide_eq_true hlt] at he
       refine ⟨.bool true, he, ?_⟩; clear he F a; intro a F
       replace hS : Mm w v [⟨g4, x.arr, 85⟩] := (by refine (M.below hb).pick' [0] _ ?_ (by decide); exact ⟨rfl, trivial⟩)
       refine hK _ _ hS ?_
       clear hK K
       replace M := M.below hb; clear hb; try clear wD
       refine any_val F 10 rfl (by kernel_rfl) (F.wants 22 true rfl (by kernel_rfl) rfl true rfl) rfl rfl (.bool false) (fun w' hS' => ex_not _ _ rfl _ (F.e rfl) _ rfl) hS ?_; clear F a; intro a F
       refine any_val F 11 rfl (by kernel_rfl) (F.wants 22 true rfl (by kernel_rfl) rfl true rfl) rfl rfl (.bool false) (fun w' hS' => ex_move _ rfl _ (F.e rfl)) hS ?_; clear F a; intro a F
       refine any_val F 12 rfl (by kernel_rfl) (F.wants 31 false rfl (by kernel_rfl) rfl true rfl) rfl rfl (.slice (some ad) xs.length c) (fun w' hS' => ex_move _ rfl _ (F.e rfl)) hS ?_; clear F a; intro a F
       refine any_val F 13 rfl (by kernel_rfl) (F.wants 31 false rfl (by kernel_rfl) rfl true rfl) rfl rfl (.int .i64 ((i : Nat) : Int)) (fun w' hS' => ex_move _ rfl _ (F.e rfl)) hS ?_; clear F a; intro a F
       refine any_val F 14 rfl (by kernel_rfl) (F.wants 31 false rfl (by kernel_rfl) rfl true rfl) rfl rfl (.int .i64 ((i - 1 : Nat) : Int)) (fun w' hS' => ex_bin .sub _ _ _ _ rfl .i64 _ _ (F.e rfl) rfl _ (b_sub ((w_i64 (by omega) (by omega)).trans (by omega)))) hS ?_; clear F a; intro a F
       refine any_val F 15 rfl (by kernel_rfl) (F.wants 31 false rfl (by kernel_rfl) rfl true rfl) rfl rfl (.pointer (some (ad.add ((i - 1) * 19)))) (fun w' hS' => ex_ix _ _ _ rfl 19 s1_sl_57_19 ad _ _ (F.e rfl) .i64 _ (F.e rfl) (i - 1) rfl (by omega) (ad.add ((i - 1) * 19)) rfl) hS ?_; clear F a; intro a F
       refine any_val F 16 rfl (by kernel_rfl) (F.wants 31 false rfl (by kernel_rfl) rfl true rfl) rfl rfl (.pointer (some ((ad.add ((i - 1) * 19)).add 1))) (fun w' hS' => ex_fa _ _ _ rfl _ (F.e rfl) 1 s1_fa_85_1_1 ((ad.add ((i - 1) * 19)).add 1) rfl) hS ?_; clear F a; intro a F
       refine any_val F 17 rfl (by kernel_rfl) (F.wants 31 false rfl (by kernel_rfl) rfl true rfl) rfl rfl (.int .u64 y.grant) (fun w' hS' => ex_load _ _ rfl _ (F.e rfl) _ (lv1 s1_one_67 ((zy.below hS'.bel).cell 1 _ (Rv.cs_1 _)))) hS ?_; clear F a; intro a F
       refine any_val F 18 rfl (by kernel_rfl) (F.wants 31 false rfl (by kernel_rfl) rfl true rfl) rfl rfl (.pointer (some ⟨g4, 1, none⟩)) (fun w' hS' => ex_fa _ _ _ rfl _ (F.e rfl) 1 s1_fa_85_1_1 ⟨g4, 1, none⟩ rfl) hS ?_; clear F a; intro a F
       refine any_val F 19 rfl (by kernel_rfl) (F.wants 31 false rfl (by kernel_rfl) rfl true rfl) rfl rfl (.int .u64 x.grant) (fun w' hS' => ex_load _ _ rfl _ (F.e rfl) _ (lv1 s1_one_67 (hS'.cell (i := 0) rfl (j := 1) (Rv.arr_1 _)))) hS ?_; clear F a; intro a F
       refine any_val F 20 rfl (by kernel_rfl) (F.wants 31 false rfl (by kernel_rfl) rfl true rfl) rfl rfl (.bool true) (fun w' hS' => ex_bin .eql _ _ _ _ rfl .u64 _ _ (F.e rfl) (F.e rfl) _ (b_eql (by simp [hgr]))) hS ?_; clear F a; intro a F
       refine any_val F 21 rfl (by kernel_rfl) (F.wants 31 false rfl (by kernel_rfl) rfl true rfl) rfl rfl (.bool true) (fun w' hS' => ex_move _ rfl _ (F.e rfl)) hS ?_; clear F a; intro a F
       refine any_val F 22 rfl (by kernel_rfl) (F.wants 41 true rfl (by kernel_rfl) rfl true rfl) rfl rfl (.slice (some ad) xs.length c) (fun w' hS' => ex_move _ rfl _ (F.e rfl)) hS ?_; clear F a; intro a F
       refine any_val F 23 rfl (by kernel_rfl) (F.wants 41 true rfl (by kernel_rfl) rfl true rfl) rfl rfl (.int .i64 ((i : Nat) : Int)) (fun w' hS' => ex_move _ rfl _ (F.e rfl)) hS ?_; clear F a; intro a F
       refine any_val F 24 rfl (by kernel_rfl) (F.wants 41 true rfl (by kernel_rfl) rfl true rfl) rfl rfl (.int .i64 ((i - 1 : Nat) : Int)) (fun w' hS' => ex_bin .sub _ _ _ _ rfl .i64 _ _ (F.e rfl) rfl _ (b_sub ((w_i64 (by omega) (by omega)).trans (by omega)))) hS ?_; clear F a; intro a F
       refine any_val F 25 rfl (by kernel_rfl) (F.wants 41 true rfl (by kernel_rfl) rfl true rfl) rfl rfl (.pointer (some (ad.add ((i - 1) * 19)))) (fun w' hS' => ex_ix _ _ _ rfl 19 s1_sl_57_19 ad _ _ (F.e rfl) .i64 _ (F.e rfl) (i - 1) rfl (by omega) (ad.add ((i - 1) * 19)) rfl) hS ?_; clear F a; intro a F
       refine any_val F 26 rfl (by kernel_rfl) (F.wants 41 true rfl (by kernel_rfl) rfl true rfl) rfl rfl (.pointer (some (ad.add ((i - 1) * 19)))) (fun w' hS' => ex_fa _ _ _ rfl _ (F.e rfl) 0 s1_fa_85_0_0 (ad.add ((i - 1) * 19)) rfl) hS ?_; clear F a; intro a F
       refine any_val F 27 rfl (by kernel_rfl) (F.wants 41 true rfl (by kernel_rfl) rfl true rfl) rfl rfl (.bool true) (fun w' hS' => ex_load _ _ rfl _ (F.e rfl) _ (lv1 s1_one_4 ((zy.below hS'.bel).cell 0 _ (Rv.cs_0e hyw)))) hS ?_; clear F a; intro a F
       refine any_val F 28 rfl (by kernel_rfl) (F.wants 41 true rfl (by kernel_rfl) rfl true rfl) rfl rfl (.bool true) (fun w' hS' => ex_move _ rfl _ (F.e rfl)) hS ?_; clear F a; intro a F
       refine any_pass F 29 rfl (by kernel_rfl) (F.wants 48 true rfl (by kernel_rfl) rfl false rfl) rfl rfl hS ?_; clear F a; intro a F
       refine any_pass F 30 rfl (by kernel_rfl) (F.wants 48 true rfl (by kernel_rfl) rfl false rfl) rfl rfl hS ?_; clear F a; intro a F
       refine any_val F 31 rfl (by kernel_rfl) (F.wants 41 true rfl (by kernel_rfl) rfl true rfl) rfl rfl (.bool true) (fun w' hS' => ex_pick_t _ _ _ rfl (F.e rfl) _ rfl) hS ?_; clear F a; intro a F
       refine any_val F 32 rfl (by kernel_rfl) (F.wants 31 false rfl (by kernel_rfl) rfl true rfl) rfl rfl (.bool true) (fun w' hS' => ex_pick_t _ _ _ rfl (F.e rfl) _ (F.e rfl)) hS ?_; clear F a; intro a F
       refine any_val F 33 rfl (by kernel_rfl) (F.wants 22 true rfl (by kernel_rfl) rfl true rfl) rfl rfl (.bool true) (fun w' hS' => ex_pick_f _ _ _ rfl (F.e rfl) _ (F.e rfl)) hS ?_; clear F a; intro a F
       refine any_val F 34 rfl (by kernel_rfl) (wn rfl) rfl rfl (.bool true) (fun w' hS' => ex_pick_t _ _ _ rfl (F.e rfl) _ (F.e rfl)) hS ?_; clear F a; intro a F
       refine any_done (by kernel_rfl) ?_
       exact ⟨F.keep ⟨rfl, rfl, rfl, rfl, rfl, rfl, rfl, rfl, rfl, rfl, trivial⟩, (by refine M.pick' [0] _ ?_ (by decide); exact ⟨rfl, trivial⟩)⟩
      clear F M a
      intro a u hR; obtain ⟨F, M⟩ := hR; try clear v
      refine then_n ?_
      refine wp_cond_true (F.e rfl) ?_
      refine wp_seq ?_
      refine wp_region_lit ?_
      refine list_val F (wn rfl) rfl rfl (.int .i64 140) (ex_assign _ rfl _ rfl) ?_; clear F a; intro a F
      refine wpList_nil ?_
      refine then_n ?_
      refine wp_ret ?_
      refine in_r ?_
      refine then_r ?_
      refine then_r ?_
      refine in_r ?_
      refine then_r ?_
      exact ret_tmp F rfl rfl ⟨by rw [chN_rise hx hi0 hy (fun h_ => by rw [(h_.2 hgr).1] at hyw; exact absurd hyw (by decide))], M.bel⟩
     have hoki : OkAt xs i := fun x2 hx2 => by
       obtain rfl := Option.some.inj (hx.symm.trans hx2)
       refine ⟨hz0, fun y2 h2 hy2 => ?_⟩
       obtain rfl := Option.some.inj (hy.symm.trans hy2)
       exact ⟨hlt, fun _ => ⟨Bool.eq_false_iff.2 hyw, Bool.eq_false_iff.2 hw⟩⟩
     refine wp_only (fun ar wr => Fr 56 ar [(0, .slice (some ad) xs.length c), (2, .int .i64 0), (3, .int .i64 ((i : Nat) : Int)), (4, .pointer (some ⟨g4, 0, none⟩)), (5, .slice (some ad) xs.length c), (6, .int .i64 ((xs.length : Nat) : Int)), (7, .int .i64 ((i : Nat) : Int)), (8, .bool true), (19, .bool false), (54, .bool false)] ∧ Mm w wr [⟨g4, x.arr, 85⟩]) ?_ ?_
     ·
      refine region_anyM s1_follows_mixedOrders M [⟨g4, x.arr, 85⟩] (fun w' M => (by refine M.pick' [0] _ ?_ (by decide); exact ⟨rfl, trivial⟩)) ?_; clear M; intro wD M hb
      clear hb; try clear v
      have hS : Mm w wD [⟨g4, x.arr, 85⟩] := (by refine M.pick' [0] _ ?_ (by decide); exact ⟨rfl, trivial⟩)
      refine any_val F 0 rfl (by kernel_rfl) (wn rfl) rfl rfl (.int .i64 ((i : Nat) : Int)) (fun w' hS' => ex_move _ rfl _ (F.e rfl)) hS ?_; clear F a; intro a F
      refine any_val F 1 rfl (by kernel_rfl) (wn rfl) rfl rfl (.bool true) (fun w' hS' => ex_bin .gtr _ _ _ _ rfl .i64 _ _ (F.e rfl) rfl _ (b_gtr (decide_eq_true (by omega)))) hS ?_; clear F a; intro a F
      refine any_val F 2 rfl (by kernel_rfl) (wn rfl) rfl rfl (.bool true) (fun w' hS' => ex_move _ rfl _ (F.e rfl)) hS ?_; clear F a; intro a F
      refine any_val F 3 rfl (by kernel_rfl) (F.wants 22 true rfl (by kernel_rfl) rfl true rfl) rfl rfl (.slice (some ad) xs.length c) (fun w' hS' => ex_move _ rfl _ (F.e rfl)) hS ?_; clear F a; intro a F
      refine any_val F 4 rfl (by kernel_rfl) (F.wants 22 true rfl (by kernel_rfl) rfl true rfl) rfl rfl (.int .i64 ((i : Nat) : Int)) (fun w' hS' => ex_move _ rfl _ (F.e rfl)) hS ?_; clear F a; intro a F
      refine any_val F 5 rfl (by kernel_rfl) (F.wants 22 true rfl (by kernel_rfl) rfl true rfl) rfl rfl (.int .i64 ((i - 1 : Nat) : Int)) (fun w' hS' => ex_bin .sub _ _ _ _ rfl .i64 _ _ (F.e rfl) rfl _ (b_sub ((w_i64 (by omega) (by omega)).trans (by omega)))) hS ?_; clear F a; intro a F
      refine any_val F 6 rfl (by kernel_rfl) (F.wants 22 true rfl (by kernel_rfl) rfl true rfl) rfl rfl (.pointer (some (ad.add ((i - 1) * 19)))) (fun w' hS' => ex_ix _ _ _ rfl 19 s1_sl_57_19 ad _ _ (F.e rfl) .i64 _ (F.e rfl) (i - 1) rfl (by omega) (ad.add ((i - 1) * 19)) rfl) hS ?_; clear F a; intro a F
      refine any_val F 7 rfl (by kernel_rfl) (F.wants 22 true rfl (by kernel_rfl) rfl true rfl) rfl rfl (.agg y.arr) (fun w' hS' => ex_load _ _ rfl _ (F.e rfl) _ (lrow85 y ((zy.below hS'.bel)))) hS ?_; clear F a; intro a F
      refine any_val F 8 rfl (by kernel_rfl) (F.wants 22 true rfl (by kernel_rfl) rfl true rfl) rfl rfl (.agg x.arr) (fun w' hS' => ex_load _ _ rfl _ (F.e rfl) _ (lrow85 x (hS'.at (i := 0) rfl))) hS ?_; clear F a; intro a F
      refine any_ready [9] (by kernel_rfl) (by simp) ?_
      refine ready_do rfl (F.wants 22 true rfl (by kernel_rfl) rfl true rfl) (fun K hK => ?_) AllReadyH.nil
      refine ow_call rfl rfl F 31 #[.agg y.arr, .agg x.arr] (ex_call 31 _ _ rfl rfl s1_ent_31 _ (map2 (F.e rfl) (F.e rfl))) (before_any y x _) (fun e v hR => ?_)
      obtain ⟨he, hb⟩ := hR
      rw [decide_eq_true hlt] at he
      refine ⟨.bool true, he, ?_⟩; clear he F a; intro a F
      replace hS : Mm w v [⟨g4, x.arr, 85⟩] := (by refine (M.below hb).pick' [0] _ ?_ (by decide); exact ⟨rfl, trivial⟩)
      refine hK _ _ hS ?_
      clear hK K
      replace M := M.below hb; clear hb; try clear wD
      refine any_val F 10 rfl (by kernel_rfl) (F.wants 22 true rfl (by kernel_rfl) rfl true rfl) rfl rfl (.bool false) (fun w' hS' => ex_not _ _ rfl _ (F.e rfl) _ rfl) hS ?_; clear F a; intro a F
      refine any_val F 11 rfl (by kernel_rfl) (F.wants 22 true rfl (by kernel_rfl) rfl true rfl) rfl rfl (.bool false) (fun w' hS' => ex_move _ rfl _ (F.e rfl)) hS ?_; clear F a; intro a F
      refine any_val F 12 rfl (by kernel_rfl) (F.wants 31 false rfl (by kernel_rfl) rfl true rfl) rfl rfl (.slice (some ad) xs.length c) (fun w' hS' => ex_move _ rfl _ (F.e rfl)) hS ?_; clear F a; intro a F
      refine any_val F 13 rfl (by kernel_rfl) (F.wants 31 false rfl (by kernel_rfl) rfl true rfl) rfl rfl (.int .i64 ((i : Nat) : Int)) (fun w' hS' => ex_move _ rfl _ (F.e rfl)) hS ?_; clear F a; intro a F
      refine any_val F 14 rfl (by kernel_rfl) (F.wants 31 false rfl (by kernel_rfl) rfl true rfl) rfl rfl (.int .i64 ((i - 1 : Nat) : Int)) (fun w' hS' => ex_bin .sub _ _ _ _ rfl .i64 _ _ (F.e rfl) rfl _ (b_sub ((w_i64 (by omega) (by omega)).trans (by omega)))) hS ?_; clear F a; intro a F
      refine any_val F 15 rfl (by kernel_rfl) (F.wants 31 false rfl (by kernel_rfl) rfl true rfl) rfl rfl (.pointer (some (ad.add ((i - 1) * 19)))) (fun w' hS' => ex_ix _ _ _ rfl 19 s1_sl_57_19 ad _ _ (F.e rfl) .i64 _ (F.e rfl) (i - 1) rfl (by omega) (ad.add ((i - 1) * 19)) rfl) hS ?_; clear F a; intro a F
      refine any_val F 16 rfl (by kernel_rfl) (F.wants 31 false rfl (by kernel_rfl) rfl true rfl) rfl rfl (.pointer (some ((ad.add ((i - 1) * 19)).add 1))) (fun w' hS' => ex_fa _ _ _ rfl _ (F.e rfl) 1 s1_fa_85_1_1 ((ad.add ((i - 1) * 19)).add 1) rfl) hS ?_; clear F a; intro a F
      refine any_val F 17 rfl (by kernel_rfl) (F.wants 31 false rfl (by kernel_rfl) rfl true rfl) rfl rfl (.int .u64 y.grant) (fun w' hS' => ex_load _ _ rfl _ (F.e rfl) _ (lv1 s1_one_67 ((zy.below hS'.bel).cell 1 _ (Rv.cs_1 _)))) hS ?_; clear F a; intro a F
      refine any_val F 18 rfl (by kernel_rfl) (F.wants 31 false rfl (by kernel_rfl) rfl true rfl) rfl rfl (.pointer (some ⟨g4, 1, none⟩)) (fun w' hS' => ex_fa _ _ _ rfl _ (F.e rfl) 1 s1_fa_85_1_1 ⟨g4, 1, none⟩ rfl) hS ?_; clear F a; intro a F
      refine any_val F 19 rfl (by kernel_rfl) (F.wants 31 false rfl (by kernel_rfl) rfl true rfl) rfl rfl (.int .u64 x.grant) (fun w' hS' => ex_load _ _ rfl _ (F.e rfl) _ (lv1 s1_one_67 (hS'.cell (i := 0) rfl (j := 1) (Rv.arr_1 _)))) hS ?_; clear F a; intro a F
      refine any_val F 20 rfl (by kernel_rfl) (F.wants 31 false rfl (by kernel_rfl) rfl true rfl) rfl rfl (.bool true) (fun w' hS' => ex_bin .eql _ _ _ _ rfl .u64 _ _ (F.e rfl) (F.e rfl) _ (b_eql (by simp [hgr]))) hS ?_; clear F a; intro a F
      refine any_val F 21 rfl (by kernel_rfl) (F.wants 31 false rfl (by kernel_rfl) rfl true rfl) rfl rfl (.bool true) (fun w' hS' => ex_move _ rfl _ (F.e rfl)) hS ?_; clear F a; intro a F
      refine any_val F 22 rfl (by kernel_rfl) (F.wants 41 true rfl (by kernel_rfl) rfl true rfl) rfl rfl (.slice (some ad) xs.length c) (fun w' hS' => ex_move _ rfl _ (F.e rfl)) hS ?_; clear F a; intro a F
      refine any_val F 23 rfl (by kernel_rfl) (F.wants 41 true rfl (by kernel_rfl) rfl true rfl) rfl rfl (.int .i64 ((i : Nat) : Int)) (fun w' hS' => ex_move _ rfl _ (F.e rfl)) hS ?_; clear F a; intro a F
      refine any_val F 24 rfl (by kernel_rfl) (F.wants 41 true rfl (by kernel_rfl) rfl true rfl) rfl rfl (.int .i64 ((i - 1 : Nat) : Int)) (fun w' hS' => ex_bin .sub _ _ _ _ rfl .i64 _ _ (F.e rfl) rfl _ (b_sub ((w_i64 (by omega) (by omega)).trans (by omega)))) hS ?_; clear F a; intro a F
      refine any_val F 25 rfl (by kernel_rfl) (F.wants 41 true rfl (by kernel_rfl) rfl true rfl) rfl rfl (.pointer (some (ad.add ((i - 1) * 19)))) (fun w' hS' => ex_ix _ _ _ rfl 19 s1_sl_57_19 ad _ _ (F.e rfl) .i64 _ (F.e rfl) (i - 1) rfl (by omega) (ad.add ((i - 1) * 19)) rfl) hS ?_; clear F a; intro a F
      refine any_val F 26 rfl (by kernel_rfl) (F.wants 41 true rfl (by kernel_rfl) rfl true rfl) rfl rfl (.pointer (some (ad.add ((i - 1) * 19)))) (fun w' hS' => ex_fa _ _ _ rfl _ (F.e rfl) 0 s1_fa_85_0_0 (ad.add ((i - 1) * 19)) rfl) hS ?_; clear F a; intro a F
      refine any_val F 27 rfl (by kernel_rfl) (F.wants 41 true rfl (by kernel_rfl) rfl true rfl) rfl rfl (.bool false) (fun w' hS' => ex_load _ _ rfl _ (F.e rfl) _ (lv1 s1_one_4 ((zy.below hS'.bel).cell 0 _ (Rv.cs_0e (Bool.eq_false_iff.2 hyw))))) hS ?_; clear F a; intro a F
      refine any_val F 28 rfl (by kernel_rfl) (F.wants 41 true rfl (by kernel_rfl) rfl true rfl) rfl rfl (.bool false) (fun w' hS' => ex_move _ rfl _ (F.e rfl)) hS ?_; clear F a; intro a F
      refine any_val F 29 rfl (by kernel_rfl) (F.wants 48 false rfl (by kernel_rfl) rfl true rfl) rfl rfl (.pointer (some ⟨g4, 0, none⟩)) (fun w' hS' => ex_fa _ _ _ rfl _ (F.e rfl) 0 s1_fa_85_0_0 ⟨g4, 0, none⟩ rfl) hS ?_; clear F a; intro a F
      refine any_val F 30 rfl (by kernel_rfl) (F.wants 48 false rfl (by kernel_rfl) rfl true rfl) rfl rfl (.bool false) (fun w' hS' => ex_load _ _ rfl _ (F.e rfl) _ (lv1 s1_one_4 (hS'.cell (i := 0) rfl (j := 0) (Rv.arr_0e (Bool.eq_false_iff.2 hw))))) hS ?_; clear F a; intro a F
      refine any_val F 31 rfl (by kernel_rfl) (F.wants 41 true rfl (by kernel_rfl) rfl true rfl) rfl rfl (.bool false) (fun w' hS' => ex_pick_f _ _ _ rfl (F.e rfl) _ (F.e rfl)) hS ?_; clear F a; intro a F
      refine any_val F 32 rfl (by kernel_rfl) (F.wants 31 false rfl (by kernel_rfl) rfl true rfl) rfl rfl (.bool false) (fun w' hS' => ex_pick_t _ _ _ rfl (F.e rfl) _ (F.e rfl)) hS ?_; clear F a; intro a F
      refine any_val F 33 rfl (by kernel_rfl) (F.wants 22 true rfl (by kernel_rfl) rfl true rfl) rfl rfl (.bool false) (fun w' hS' => ex_pick_f _ _ _ rfl (F.e rfl) _ (F.e rfl)) hS ?_; clear F a; intro a F
      refine any_val F 34 rfl (by kernel_rfl) (wn rfl) rfl rfl (.bool false) (fun w' hS' => ex_pick_t _ _ _ rfl (F.e rfl) _ (F.e rfl)) hS ?_; clear F a; intro a F
      refine any_done (by kernel_rfl) ?_
      exact ⟨F.keep ⟨rfl, rfl, rfl, rfl, rfl, rfl, rfl, rfl, rfl, rfl, trivial⟩, (by refine M.pick' [0] _ ?_ (by decide); exact ⟨rfl, trivial⟩)⟩
     clear F M a
     intro a u hR; obtain ⟨F, M⟩ := hR; try clear v
     refine then_n ?_
     refine wp_cond_false (F.e rfl) ?_
     refine wp_skip ?_
     refine in_n ?_
     refine then_n ?_
     refine wp_region_lit ?_
     refine list_val F (wn rfl) rfl rfl (.int .i64 ((i + 1 : Nat) : Int)) (ex_bin .add _ _ _ _ rfl .i64 _ _ (F.e rfl) rfl _ (b_add ((w_i64 (by omega) (by omega)).trans (by omega)))) ?_; clear F a; intro a F
     refine list_val F (wn rfl) rfl rfl (.int .i64 ((i + 1 : Nat) : Int)) (ex_move _ rfl _ (F.e rfl)) ?_; clear F a; intro a F
     refine wpList_nil ?_
     replace F : Fr 56 a [(0, .slice (some ad) xs.length c), (2, .int .i64 0), (3, .int .i64 ((i : Nat) : Int)), (4, .pointer (some ⟨g4, 0, none⟩)), (5, .slice (some ad) xs.length c), (6, .int .i64 ((xs.length : Nat) : Int)), (7, .int .i64 ((i + 1 : Nat) : Int)), (8, .bool true), (19, .bool false), (54, .bool false)] := F.keep ⟨rfl, rfl, rfl, rfl, rfl, rfl, rfl, rfl, rfl, rfl, trivial⟩
     refine then_n ?_
     exact ⟨xs.length - (i + 1), by omega, (i + 1), F.keep ⟨rfl, rfl, rfl, rfl, rfl, trivial⟩, (by refine M.pick' [] _ ?_ (by decide); exact trivial), (by omega), (fun j hj => (Nat.lt_or_eq_of_le (Nat.le_of_lt_succ hj)).elim (fun h_ => hok j h_) (fun h_ => by subst h_; exact hoki)), (by omega)⟩
    have hoki : OkAt xs i := fun x2 hx2 => by
      obtain rfl := Option.some.inj (hx.symm.trans hx2)
      refine ⟨hz0, fun y2 h2 hy2 => ?_⟩
      obtain rfl := Option.some.inj (hy.symm.trans hy2)
      exact ⟨hlt, fun h_ => absurd h_ hgr⟩
    refine wp_only (fun ar wr => Fr 56 ar [(0, .slice (some ad) xs.length c), (2, .int .i64 0), (3, .int .i64 ((i : Nat) : Int)), (4, .pointer (some ⟨g4, 0, none⟩)), (5, .slice (some ad) xs.length c), (6, .int .i64 ((xs.length : Nat) : Int)), (7, .int .i64 ((i : Nat) : Int)), (8, .bool true), (19, .bool false), (54, .bool false)] ∧ Mm w wr [⟨g4, x.arr, 85⟩]) ?_ ?_
    ·
     refine region_anyM s1_follows_mixedOrders M [⟨g4, x.arr, 85⟩] (fun w' M => (by refine M.pick' [0] _ ?_ (by decide); exact ⟨rfl, trivial⟩)) ?_; clear M; intro wD M hb
     clear hb; try clear v
     have hS : Mm w wD [⟨g4, x.arr, 85⟩] := (by refine M.pick' [0] _ ?_ (by decide); exact ⟨rfl, trivial⟩)
     refine any_val F 0 rfl (by kernel_rfl) (wn rfl) rfl rfl (.int .i64 ((i : Nat) : Int)) (fun w' hS' => ex_move _ rfl _ (F.e rfl)) hS ?_; clear F a; intro a F
     refine any_val F 1 rfl (by kernel_rfl) (wn rfl) rfl rfl (.bool true) (fun w' hS' => ex_bin .gtr _ _ _ _ rfl .i64 _ _ (F.e rfl) rfl _ (b_gtr (decide_eq_true (by omega)))) hS ?_; clear F a; intro a F
     refine any_val F 2 rfl (by kernel_rfl) (wn rfl) rfl rfl (.bool true) (fun w' hS' => ex_move _ rfl _ (F.e rfl)) hS ?_; clear F a; intro a F
     refine any_val F 3 rfl (by kernel_rfl) (F.wants 22 true rfl (by kernel_rfl) rfl true rfl) rfl rfl (.slice (some ad) xs.length c) (fun w' hS' => ex_move _ rfl _ (F.e rfl)) hS ?_; clear F a; intro a F
     refine any_val F 4 rfl (by kernel_rfl) (F.wants 22 true rfl (by kernel_rfl) rfl true rfl) rfl rfl (.int .i64 ((i : Nat) : Int)) (fun w' hS' => ex_move _ rfl _ (F.e rfl)) hS ?_; clear F a; intro a F
     refine any_val F 5 rfl (by kernel_rfl) (F.wants 22 true rfl (by kernel_rfl) rfl true rfl) rfl rfl (.int .i64 ((i - 1 : Nat) : Int)) (fun w' hS' => ex_bin .sub _ _ _ _ rfl .i64 _ _ (F.e rfl) rfl _ (b_sub ((w_i64 (by omega) (by omega)).trans (by omega)))) hS ?_; clear F a; intro a F
     refine any_val F 6 rfl (by kernel_rfl) (F.wants 22 true rfl (by kernel_rfl) rfl true rfl) rfl rfl (.pointer (some (ad.add ((i - 1) * 19)))) (fun w' hS' => ex_ix _ _ _ rfl 19 s1_sl_57_19 ad _ _ (F.e rfl) .i64 _ (F.e rfl) (i - 1) rfl (by omega) (ad.add ((i - 1) * 19)) rfl) hS ?_; clear F a; intro a F
     refine any_val F 7 rfl (by kernel_rfl) (F.wants 22 true rfl (by kernel_rfl) rfl true rfl) rfl rfl (.agg y.arr) (fun w' hS' => ex_load _ _ rfl _ (F.e rfl) _ (lrow85 y ((zy.below hS'.bel)))) hS ?_; clear F a; intro a F
     refine any_val F 8 rfl (by kernel_rfl) (F.wants 22 true rfl (by kernel_rfl) rfl true rfl) rfl rfl (.agg x.arr) (fun w' hS' => ex_load _ _ rfl _ (F.e rfl) _ (lrow85 x (hS'.at (i := 0) rfl))) hS ?_; clear F a; intro a F
     refine any_ready [9] (by kernel_rfl) (by simp) ?_
     refine ready_do rfl (F.wants 22 true rfl (by kernel_rfl) rfl true rfl) (fun K hK => ?_) AllReadyH.nil
     refine ow_call rfl rfl F 31 #[.agg y.arr, .agg x.arr] (ex_call 31 _ _ rfl rfl s1_ent_31 _ (map2 (F.e rfl) (F.e rfl))) (before_any y x _) (fun e v hR => ?_)
     obtain ⟨he, hb⟩ := hR
     rw [decide_eq_true hlt] at he
     refine ⟨.bool true, he, ?_⟩; clear he F a; intro a F
     replace hS : Mm w v [⟨g4, x.arr, 85⟩] := (by refine (M.below hb).pick' [0] _ ?_ (by decide); exact ⟨rfl, trivial⟩)
     refine hK _ _ hS ?_
     clear hK K
     replace M := M.below hb; clear hb; try clear wD
     refine any_val F 10 rfl (by kernel_rfl) (F.wants 22 true rfl (by kernel_rfl) rfl true rfl) rfl rfl (.bool false) (fun w' hS' => ex_not _ _ rfl _ (F.e rfl) _ rfl) hS ?_; clear F a; intro a F
     refine any_val F 11 rfl (by kernel_rfl) (F.wants 22 true rfl (by kernel_rfl) rfl true rfl) rfl rfl (.bool false) (fun w' hS' => ex_move _ rfl _ (F.e rfl)) hS ?_; clear F a; intro a F
     refine any_val F 12 rfl (by kernel_rfl) (F.wants 31 false rfl (by kernel_rfl) rfl true rfl) rfl rfl (.slice (some ad) xs.length c) (fun w' hS' => ex_move _ rfl _ (F.e rfl)) hS ?_; clear F a; intro a F
     refine any_val F 13 rfl (by kernel_rfl) (F.wants 31 false rfl (by kernel_rfl) rfl true rfl) rfl rfl (.int .i64 ((i : Nat) : Int)) (fun w' hS' => ex_move _ rfl _ (F.e rfl)) hS ?_; clear F a; intro a F
     refine any_val F 14 rfl (by kernel_rfl) (F.wants 31 false rfl (by kernel_rfl) rfl true rfl) rfl rfl (.int .i64 ((i - 1 : Nat) : Int)) (fun w' hS' => ex_bin .sub _ _ _ _ rfl .i64 _ _ (F.e rfl) rfl _ (b_sub ((w_i64 (by omega) (by omega)).trans (by omega)))) hS ?_; clear F a; intro a F
     refine any_val F 15 rfl (by kernel_rfl) (F.wants 31 false rfl (by kernel_rfl) rfl true rfl) rfl rfl (.pointer (some (ad.add ((i - 1) * 19)))) (fun w' hS' => ex_ix _ _ _ rfl 19 s1_sl_57_19 ad _ _ (F.e rfl) .i64 _ (F.e rfl) (i - 1) rfl (by omega) (ad.add ((i - 1) * 19)) rfl) hS ?_; clear F a; intro a F
     refine any_val F 16 rfl (by kernel_rfl) (F.wants 31 false rfl (by kernel_rfl) rfl true rfl) rfl rfl (.pointer (some ((ad.add ((i - 1) * 19)).add 1))) (fun w' hS' => ex_fa _ _ _ rfl _ (F.e rfl) 1 s1_fa_85_1_1 ((ad.add ((i - 1) * 19)).add 1) rfl) hS ?_; clear F a; intro a F
     refine any_val F 17 rfl (by kernel_rfl) (F.wants 31 false rfl (by kernel_rfl) rfl true rfl) rfl rfl (.int .u64 y.grant) (fun w' hS' => ex_load _ _ rfl _ (F.e rfl) _ (lv1 s1_one_67 ((zy.below hS'.bel).cell 1 _ (Rv.cs_1 _)))) hS ?_; clear F a; intro a F
     refine any_val F 18 rfl (by kernel_rfl) (F.wants 31 false rfl (by kernel_rfl) rfl true rfl) rfl rfl (.pointer (some ⟨g4, 1, none⟩)) (fun w' hS' => ex_fa _ _ _ rfl _ (F.e rfl) 1 s1_fa_85_1_1 ⟨g4, 1, none⟩ rfl) hS ?_; clear F a; intro a F
     refine any_val F 19 rfl (by kernel_rfl) (F.wants 31 false rfl (by kernel_rfl) rfl true rfl) rfl rfl (.int .u64 x.grant) (fun w' hS' => ex_load _ _ rfl _ (F.e rfl) _ (lv1 s1_one_67 (hS'.cell (i := 0) rfl (j := 1) (Rv.arr_1 _)))) hS ?_; clear F a; intro a F
     refine any_val F 20 rfl (by kernel_rfl) (F.wants 31 false rfl (by kernel_rfl) rfl true rfl) rfl rfl (.bool false) (fun w' hS' => ex_bin .eql _ _ _ _ rfl .u64 _ _ (F.e rfl) (F.e rfl) _ (b_eql (by simp [hgr]))) hS ?_; clear F a; intro a F
     refine any_val F 21 rfl (by kernel_rfl) (F.wants 31 false rfl (by kernel_rfl) rfl true rfl) rfl rfl (.bool false) (fun w' hS' => ex_move _ rfl _ (F.e rfl)) hS ?_; clear F a; intro a F
     refine any_pass F 22 rfl (by kernel_rfl) (F.wants 41 false rfl (by kernel_rfl) rfl false rfl) rfl rfl hS ?_; clear F a; intro a F
     refine any_pass F 23 rfl (by kernel_rfl) (F.wants 41 false rfl (by kernel_rfl) rfl false rfl) rfl rfl hS ?_; clear F a; intro a F
     refine any_pass F 24 rfl (by kernel_rfl) (F.wants 41 false rfl (by kernel_rfl) rfl false rfl) rfl rfl hS ?_; clear F a; intro a F
     refine any_pass F 25 rfl (by kernel_rfl) (F.wants 41 false rfl (by kernel_rfl) rfl false rfl) rfl rfl hS ?_; clear F a; intro a F
     refine any_pass F 26 rfl (by kernel_rfl) (F.wants 41 false rfl (by kernel_rfl) rfl false rfl) rfl rfl hS ?_; clear F a; intro a F
     refine any_pass F 27 rfl (by kernel_rfl) (F.wants 41 false rfl (by kernel_rfl) rfl false rfl) rfl rfl hS ?_; clear F a; intro a F
     refine any_pass F 28 rfl (by kernel_rfl) (F.wants 41 false rfl (by kernel_rfl) rfl false rfl) rfl rfl hS ?_; clear F a; intro a F
     refine any_pass F 29 rfl (by kernel_rfl) (F.wants0 48 rfl (by kernel_rfl) rfl) rfl rfl hS ?_; clear F a; intro a F
     refine any_pass F 30 rfl (by kernel_rfl) (F.wants0 48 rfl (by kernel_rfl) rfl) rfl rfl hS ?_; clear F a; intro a F
     refine any_pass F 31 rfl (by kernel_rfl) (F.wants 41 false rfl (by kernel_rfl) rfl false rfl) rfl rfl hS ?_; clear F a; intro a F
     refine any_val F 32 rfl (by kernel_rfl) (F.wants 31 false rfl (by kernel_rfl) rfl true rfl) rfl rfl (.bool false) (fun w' hS' => ex_pick_f _ _ _ rfl (F.e rfl) _ rfl) hS ?_; clear F a; intro a F
     refine any_val F 33 rfl (by kernel_rfl) (F.wants 22 true rfl (by kernel_rfl) rfl true rfl) rfl rfl (.bool false) (fun w' hS' => ex_pick_f _ _ _ rfl (F.e rfl) _ (F.e rfl)) hS ?_; clear F a; intro a F
     refine any_val F 34 rfl (by kernel_rfl) (wn rfl) rfl rfl (.bool false) (fun w' hS' => ex_pick_t _ _ _ rfl (F.e rfl) _ (F.e rfl)) hS ?_; clear F a; intro a F
     refine any_done (by kernel_rfl) ?_
     exact ⟨F.keep ⟨rfl, rfl, rfl, rfl, rfl, rfl, rfl, rfl, rfl, rfl, trivial⟩, (by refine M.pick' [0] _ ?_ (by decide); exact ⟨rfl, trivial⟩)⟩
    clear F M a
    intro a u hR; obtain ⟨F, M⟩ := hR; try clear v
    refine then_n ?_
    refine wp_cond_false (F.e rfl) ?_
    refine wp_skip ?_
    refine in_n ?_
    refine then_n ?_
    refine wp_region_lit ?_
    refine list_val F (wn rfl) rfl rfl (.int .i64 ((i + 1 : Nat) : Int)) (ex_bin .add _ _ _ _ rfl .i64 _ _ (F.e rfl) rfl _ (b_add ((w_i64 (by omega) (by omega)).trans (by omega)))) ?_; clear F a; intro a F
    refine list_val F (wn rfl) rfl rfl (.int .i64 ((i + 1 : Nat) : Int)) (ex_move _ rfl _ (F.e rfl)) ?_; clear F a; intro a F
    refine wpList_nil ?_
    refine then_n ?_
    exact ⟨xs.length - (i + 1), by omega, (i + 1), F.keep ⟨rfl, rfl, rfl, rfl, rfl, trivial⟩, (by refine M.pick' [] _ ?_ (by decide); exact trivial), (by omega), (fun j hj => (Nat.lt_or_eq_of_le (Nat.le_of_lt_succ hj)).elim (fun h_ => hok j h_) (fun h_ => by subst h_; exact hoki)), (by omega)⟩
   refine wp_only (fun ar wr => Fr 56 ar [(0, .slice (some ad) xs.length c), (2, .int .i64 0), (3, .int .i64 ((i : Nat) : Int)), (4, .pointer (some ⟨g4, 0, none⟩)), (5, .slice (some ad) xs.length c), (6, .int .i64 ((xs.length : Nat) : Int)), (7, .int .i64 ((i : Nat) : Int)), (8, .bool true), (19, .bool false), (54, .bool true)] ∧ Mm w wr [⟨g4, x.arr, 85⟩]) ?_ ?_
   ·
    refine region_anyM s1_follows_mixedOrders M [⟨g4, x.arr, 85⟩] (fun w' M => (by refine M.pick' [0] _ ?_ (by decide); exact ⟨rfl, trivial⟩)) ?_; clear M; intro wD M hb
    clear hb; try clear v
    have hS : Mm w wD [⟨g4, x.arr, 85⟩] := (by refine M.pick' [0] _ ?_ (by decide); exact ⟨rfl, trivial⟩)
    refine any_val F 0 rfl (by kernel_rfl) (wn rfl) rfl rfl (.int .i64 ((i : Nat) : Int)) (fun w' hS' => ex_move _ rfl _ (F.e rfl)) hS ?_; clear F a; intro a F
    refine any_val F 1 rfl (by kernel_rfl) (wn rfl) rfl rfl (.bool true) (fun w' hS' => ex_bin .gtr _ _ _ _ rfl .i64 _ _ (F.e rfl) rfl _ (b_gtr (decide_eq_true (by omega)))) hS ?_; clear F a; intro a F
    refine any_val F 2 rfl (by kernel_rfl) (wn rfl) rfl rfl (.bool true) (fun w' hS' => ex_move _ rfl _ (F.e rfl)) hS ?_; clear F a; intro a F
    refine any_val F 3 rfl (by kernel_rfl) (F.wants 22 true rfl (by kernel_rfl) rfl true rfl) rfl rfl (.slice (some ad) xs.length c) (fun w' hS' => ex_move _ rfl _ (F.e rfl)) hS ?_; clear F a; intro a F
    refine any_val F 4 rfl (by kernel_rfl) (F.wants 22 true rfl (by kernel_rfl) rfl true rfl) rfl rfl (.int .i64 ((i : Nat) : Int)) (fun w' hS' => ex_move _ rfl _ (F.e rfl)) hS ?_; clear F a; intro a F
    refine any_val F 5 rfl (by kernel_rfl) (F.wants 22 true rfl (by kernel_rfl) rfl true rfl) rfl rfl (.int .i64 ((i - 1 : Nat) : Int)) (fun w' hS' => ex_bin .sub _ _ _ _ rfl .i64 _ _ (F.e rfl) rfl _ (b_sub ((w_i64 (by omega) (by omega)).trans (by omega)))) hS ?_; clear F a; intro a F
    refine any_val F 6 rfl (by kernel_rfl) (F.wants 22 true rfl (by kernel_rfl) rfl true rfl) rfl rfl (.pointer (some (ad.add ((i - 1) * 19)))) (fun w' hS' => ex_ix _ _ _ rfl 19 s1_sl_57_19 ad _ _ (F.e rfl) .i64 _ (F.e rfl) (i - 1) rfl (by omega) (ad.add ((i - 1) * 19)) rfl) hS ?_; clear F a; intro a F
    refine any_val F 7 rfl (by kernel_rfl) (F.wants 22 true rfl (by kernel_rfl) rfl true rfl) rfl rfl (.agg y.arr) (fun w' hS' => ex_load _ _ rfl _ (F.e rfl) _ (lrow85 y ((zy.below hS'.bel)))) hS ?_; clear F a; intro a F
    refine any_val F 8 rfl (by kernel_rfl) (F.wants 22 true rfl (by kernel_rfl) rfl true rfl) rfl rfl (.agg x.arr) (fun w' hS' => ex_load _ _ rfl _ (F.e rfl) _ (lrow85 x (hS'.at (i := 0) rfl))) hS ?_; clear F a; intro a F
    refine any_ready [9] (by kernel_rfl) (by simp) ?_
    refine ready_do rfl (F.wants 22 true rfl (by kernel_rfl) rfl true rfl) (fun K hK => ?_) AllReadyH.nil
    refine ow_call rfl rfl F 31 #[.agg y.arr, .agg x.arr] (ex_call 31 _ _ rfl rfl s1_ent_31 _ (map2 (F.e rfl) (F.e rfl))) (before_any y x _) (fun e v hR => ?_)
    obtain ⟨he, hb⟩ := hR
    rw [decide_eq_false hlt] at he
    refine ⟨.bool false, he, ?_⟩; clear he F a; intro a F
    replace hS : Mm w v [⟨g4, x.arr, 85⟩] := (by refine (M.below hb).pick' [0] _ ?_ (by decide); exact ⟨rfl, trivial⟩)
    refine hK _ _ hS ?_
    clear hK K
    replace M := M.below hb; clear hb; try clear wD
    refine any_val F 10 rfl (by kernel_rfl) (F.wants 22 true rfl (by kernel_rfl) rfl true rfl) rfl rfl (.bool true) (fun w' hS' => ex_not _ _ rfl _ (F.e rfl) _ rfl) hS ?_; clear F a; intro a F
    refine any_val F 11 rfl (by kernel_rfl) (F.wants 22 true rfl (by kernel_rfl) rfl true rfl) rfl rfl (.bool true) (fun w' hS' => ex_move _ rfl _ (F.e rfl)) hS ?_; clear F a; intro a F
    refine any_pass F 12 rfl (by kernel_rfl) (F.wants 31 true rfl (by kernel_rfl) rfl false rfl) rfl rfl hS ?_; clear F a; intro a F
    refine any_pass F 13 rfl (by kernel_rfl) (F.wants 31 true rfl (by kernel_rfl) rfl false rfl) rfl rfl hS ?_; clear F a; intro a F
    refine any_pass F 14 rfl (by kernel_rfl) (F.wants 31 true rfl (by kernel_rfl) rfl false rfl) rfl rfl hS ?_; clear F a; intro a F
    refine any_pass F 15 rfl (by kernel_rfl) (F.wants 31 true rfl (by kernel_rfl) rfl false rfl) rfl rfl hS ?_; clear F a; intro a F
    refine any_pass F 16 rfl (by kernel_rfl) (F.wants 31 true rfl (by kernel_rfl) rfl false rfl) rfl rfl hS ?_; clear F a; intro a F
    refine any_pass F 17 rfl (by kernel_rfl) (F.wants 31 true rfl (by kernel_rfl) rfl false rfl) rfl rfl hS ?_; clear F a; intro a F
    refine any_pass F 18 rfl (by kernel_rfl) (F.wants 31 true rfl (by kernel_rfl) rfl false rfl) rfl rfl hS ?_; clear F a; intro a F
    refine any_pass F 19 rfl (by kernel_rfl) (F.wants 31 true rfl (by kernel_rfl) rfl false rfl) rfl rfl hS ?_; clear F a; intro a F
    refine any_pass F 20 rfl (by kernel_rfl) (F.wants 31 true rfl (by kernel_rfl) rfl false rfl) rfl rfl hS ?_; clear F a; intro a F
    refine any_pass F 21 rfl (by kernel_rfl) (F.wants 31 true rfl (by kernel_rfl) rfl false rfl) rfl rfl hS ?_; clear F a; intro a F
    refine any_pass F 22 rfl (by kernel_rfl) (F.wants0 41 rfl (by kernel_rfl) rfl) rfl rfl hS ?_; clear F a; intro a F
    refine any_pass F 23 rfl (by kernel_rfl) (F.wants0 41 rfl (by kernel_rfl) rfl) rfl rfl hS ?_; clear F a; intro a F
    refine any_pass F 24 rfl (by kernel_rfl) (F.wants0 41 rfl (by kernel_rfl) rfl) rfl rfl hS ?_; clear F a; intro a F
    refine any_pass F 25 rfl (by kernel_rfl) (F.wants0 41 rfl (by kernel_rfl) rfl) rfl rfl hS ?_; clear F a; intro a F
    refine any_pass F 26 rfl (by kernel_rfl) (F.wants0 41 rfl (by kernel_rfl) rfl) rfl rfl hS ?_; clear F a; intro a F
    refine any_pass F 27 rfl (by kernel_rfl) (F.wants0 41 rfl (by kernel_rfl) rfl) rfl rfl hS ?_; clear F a; intro a F
    refine any_pass F 28 rfl (by kernel_rfl) (F.wants0 41 rfl (by kernel_rfl) rfl) rfl rfl hS ?_; clear F a; intro a F
    refine any_pass F 29 rfl (by kernel_rfl) (F.wants0 48 rfl (by kernel_rfl) rfl) rfl rfl hS ?_; clear F a; intro a F
    refine any_pass F 30 rfl (by kernel_rfl) (F.wants0 48 rfl (by kernel_rfl) rfl) rfl rfl hS ?_; clear F a; intro a F
    refine any_pass F 31 rfl (by kernel_rfl) (F.wants0 41 rfl (by kernel_rfl) rfl) rfl rfl hS ?_; clear F a; intro a F
    refine any_pass F 32 rfl (by kernel_rfl) (F.wants 31 true rfl (by kernel_rfl) rfl false rfl) rfl rfl hS ?_; clear F a; intro a F
    refine any_val F 33 rfl (by kernel_rfl) (F.wants 22 true rfl (by kernel_rfl) rfl true rfl) rfl rfl (.bool true) (fun w' hS' => ex_pick_t _ _ _ rfl (F.e rfl) _ rfl) hS ?_; clear F a; intro a F
    refine any_val F 34 rfl (by kernel_rfl) (wn rfl) rfl rfl (.bool true) (fun w' hS' => ex_pick_t _ _ _ rfl (F.e rfl) _ (F.e rfl)) hS ?_; clear F a; intro a F
    refine any_done (by kernel_rfl) ?_
    exact ⟨F.keep ⟨rfl, rfl, rfl, rfl, rfl, rfl, rfl, rfl, rfl, rfl, trivial⟩, (by refine M.pick' [0] _ ?_ (by decide); exact ⟨rfl, trivial⟩)⟩
   clear F M a
   intro a u hR; obtain ⟨F, M⟩ := hR; try clear v
   refine then_n ?_
   refine wp_cond_true (F.e rfl) ?_
   refine wp_seq ?_
   refine wp_region_lit ?_
   refine list_val F (wn rfl) rfl rfl (.int .i64 140) (ex_assign _ rfl _ rfl) ?_; clear F a; intro a F
   refine wpList_nil ?_
   replace F : Fr 56 a [(0, .slice (some ad) xs.length c), (2, .int .i64 140), (3, .int .i64 ((i : Nat) : Int)), (4, .pointer (some ⟨g4, 0, none⟩)), (5, .slice (some ad) xs.length c), (6, .int .i64 ((xs.length : Nat) : Int)), (7, .int .i64 ((i : Nat) : Int)), (8, .bool true), (19, .bool false), (54, .bool true)] := F.keep ⟨rfl, rfl, rfl, rfl, rfl, rfl, rfl, rfl, rfl, rfl, trivial⟩
   refine then_n ?_
   refine wp_ret ?_
   refine in_r ?_
   refine then_r ?_
   refine then_r ?_
   refine in_r ?_
   refine then_r ?_
   exact ret_tmp F rfl rfl ⟨by rw [chN_rise hx hi0 hy (fun h_ => hlt h_.1)], M.bel⟩
  have hoki : OkAt xs i := fun x2 hx2 => by
    obtain rfl := Option.some.inj (hx.symm.trans hx2)
    exact ⟨hz0, fun y2 h2 => absurd h2 hi0⟩
  refine wp_only (fun ar wr => Fr 56 ar [(0, .slice (some ad) xs.length c), (2, .int .i64 0), (3, .int .i64 ((i : Nat) : Int)), (4, .pointer (some ⟨g4, 0, none⟩)), (5, .slice (some ad) xs.length c), (6, .int .i64 ((xs.length : Nat) : Int)), (7, .int .i64 ((i : Nat) : Int)), (8, .bool true), (19, .bool false), (54, .bool false)] ∧ Mm w wr [⟨g4, x.arr, 85⟩]) ?_ ?_
  ·
   refine region_anyM s1_follows_mixedOrders M [⟨g4, x.arr, 85⟩] (fun w' M => (by refine M.pick' [0] _ ?_ (by decide); exact ⟨rfl, trivial⟩)) ?_; clear M; intro wD M hb
   clear hb; try clear v
   have hS : Mm w wD [⟨g4, x.arr, 85⟩] := (by refine M.pick' [0] _ ?_ (by decide); exact ⟨rfl, trivial⟩)
   refine any_val F 0 rfl (by kernel_rfl) (wn rfl) rfl rfl (.int .i64 ((i : Nat) : Int)) (fun w' hS' => ex_move _ rfl _ (F.e rfl)) hS ?_; clear F a; intro a F
   refine any_val F 1 rfl (by kernel_rfl) (wn rfl) rfl rfl (.bool false) (fun w' hS' => ex_bin .gtr _ _ _ _ rfl .i64 _ _ (F.e rfl) rfl _ (b_gtr (decide_eq_false (by omega)))) hS ?_; clear F a; intro a F
   refine any_val F 2 rfl (by kernel_rfl) (wn rfl) rfl rfl (.bool false) (fun w' hS' => ex_move _ rfl _ (F.e rfl)) hS ?_; clear F a; intro a F
   refine any_pass F 3 rfl (by kernel_rfl) (F.wants 22 false rfl (by kernel_rfl) rfl false rfl) rfl rfl hS ?_; clear F a; intro a F
   refine any_pass F 4 rfl (by kernel_rfl) (F.wants 22 false rfl (by kernel_rfl) rfl false rfl) rfl rfl hS ?_; clear F a; intro a F
   refine any_pass F 5 rfl (by kernel_rfl) (F.wants 22 false rfl (by kernel_rfl) rfl false rfl) rfl rfl hS ?_; clear F a; intro a F
   refine any_pass F 6 rfl (by kernel_rfl) (F.wants 22 false rfl (by kernel_rfl) rfl false rfl) rfl rfl hS ?_; clear F a; intro a F
   refine any_pass F 7 rfl (by kernel_rfl) (F.wants 22 false rfl (by kernel_rfl) rfl false rfl) rfl rfl hS ?_; clear F a; intro a F
   refine any_pass F 8 rfl (by kernel_rfl) (F.wants 22 false rfl (by kernel_rfl) rfl false rfl) rfl rfl hS ?_; clear F a; intro a F
   refine any_pass F 9 rfl (by kernel_rfl) (F.wants 22 false rfl (by kernel_rfl) rfl false rfl) rfl rfl hS ?_; clear F a; intro a F
   refine any_pass F 10 rfl (by kernel_rfl) (F.wants 22 false rfl (by kernel_rfl) rfl false rfl) rfl rfl hS ?_; clear F a; intro a F
   refine any_pass F 11 rfl (by kernel_rfl) (F.wants 22 false rfl (by kernel_rfl) rfl false rfl) rfl rfl hS ?_; clear F a; intro a F
   refine any_pass F 12 rfl (by kernel_rfl) (F.wants0 31 rfl (by kernel_rfl) rfl) rfl rfl hS ?_; clear F a; intro a F
   refine any_pass F 13 rfl (by kernel_rfl) (F.wants0 31 rfl (by kernel_rfl) rfl) rfl rfl hS ?_; clear F a; intro a F
   refine any_pass F 14 rfl (by kernel_rfl) (F.wants0 31 rfl (by kernel_rfl) rfl) rfl rfl hS ?_; clear F a; intro a F
   refine any_pass F 15 rfl (by kernel_rfl) (F.wants0 31 rfl (by kernel_rfl) rfl) rfl rfl hS ?_; clear F a; intro a F
   refine any_pass F 16 rfl (by kernel_rfl) (F.wants0 31 rfl (by kernel_rfl) rfl) rfl rfl hS ?_; clear F a; intro a F
   refine any_pass F 17 rfl (by kernel_rfl) (F.wants0 31 rfl (by kernel_rfl) rfl) rfl rfl hS ?_; clear F a; intro a F
   refine any_pass F 18 rfl (by kernel_rfl) (F.wants0 31 rfl (by kernel_rfl) rfl) rfl rfl hS ?_; clear F a; intro a F
   refine any_pass F 19 rfl (by kernel_rfl) (F.wants0 31 rfl (by kernel_rfl) rfl) rfl rfl hS ?_; clear F a; intro a F
   refine any_pass F 20 rfl (by kernel_rfl) (F.wants0 31 rfl (by kernel_rfl) rfl) rfl rfl hS ?_; clear F a; intro a F
   refine any_pass F 21 rfl (by kernel_rfl) (F.wants0 31 rfl (by kernel_rfl) rfl) rfl rfl hS ?_; clear F a; intro a F
   refine any_pass F 22 rfl (by kernel_rfl) (F.wants0 41 rfl (by kernel_rfl) rfl) rfl rfl hS ?_; clear F a; intro a F
   refine any_pass F 23 rfl (by kernel_rfl) (F.wants0 41 rfl (by kernel_rfl) rfl) rfl rfl hS ?_; clear F a; intro a F
   refine any_pass F 24 rfl (by kernel_rfl) (F.wants0 41 rfl (by kernel_rfl) rfl) rfl rfl hS ?_; clear F a; intro a F
   refine any_pass F 25 rfl (by kernel_rfl) (F.wants0 41 rfl (by kernel_rfl) rfl) rfl rfl hS ?_; clear F a; intro a F
   refine any_pass F 26 rfl (by kernel_rfl) (F.wants0 41 rfl (by kernel_rfl) rfl) rfl rfl hS ?_; clear F a; intro a F
   refine any_pass F 27 rfl (by kernel_rfl) (F.wants0 41 rfl (by kernel_rfl) rfl) rfl rfl hS ?_; clear F a; intro a F
   refine any_pass F 28 rfl (by kernel_rfl) (F.wants0 41 rfl (by kernel_rfl) rfl) rfl rfl hS ?_; clear F a; intro a F
   refine any_pass F 29 rfl (by kernel_rfl) (F.wants0 48 rfl (by kernel_rfl) rfl) rfl rfl hS ?_; clear F a; intro a F
   refine any_pass F 30 rfl (by kernel_rfl) (F.wants0 48 rfl (by kernel_rfl) rfl) rfl rfl hS ?_; clear F a; intro a F
   refine any_pass F 31 rfl (by kernel_rfl) (F.wants0 41 rfl (by kernel_rfl) rfl) rfl rfl hS ?_; clear F a; intro a F
   refine any_pass F 32 rfl (by kernel_rfl) (F.wants0 31 rfl (by kernel_rfl) rfl) rfl rfl hS ?_; clear F a; intro a F
   refine any_pass F 33 rfl (by kernel_rfl) (F.wants 22 false rfl (by kernel_rfl) rfl false rfl) rfl rfl hS ?_; clear F a; intro a F
   refine any_val F 34 rfl (by kernel_rfl) (wn rfl) rfl rfl (.bool false) (fun w' hS' => ex_pick_f _ _ _ rfl (F.e rfl) _ rfl) hS ?_; clear F a; intro a F
   refine any_done (by kernel_rfl) ?_
   exact ⟨F.keep ⟨rfl, rfl, rfl, rfl, rfl, rfl, rfl, rfl, rfl, rfl, trivial⟩, (by refine M.pick' [0] _ ?_ (by decide); exact ⟨rfl, trivial⟩)⟩
  clear F M a
  intro a u hR; obtain ⟨F, M⟩ := hR; try clear v
  refine then_n ?_
  refine wp_cond_false (F.e rfl) ?_
  refine wp_skip ?_
  refine in_n ?_
  refine then_n ?_
  refine wp_region_lit ?_
  refine list_val F (wn rfl) rfl rfl (.int .i64 ((i + 1 : Nat) : Int)) (ex_bin .add _ _ _ _ rfl .i64 _ _ (F.e rfl) rfl _ (b_add ((w_i64 (by omega) (by omega)).trans (by omega)))) ?_; clear F a; intro a F
  refine list_val F (wn rfl) rfl rfl (.int .i64 ((i + 1 : Nat) : Int)) (ex_move _ rfl _ (F.e rfl)) ?_; clear F a; intro a F
  refine wpList_nil ?_
  refine then_n ?_
  exact ⟨xs.length - (i + 1), by omega, (i + 1), F.keep ⟨rfl, rfl, rfl, rfl, rfl, trivial⟩, (by refine M.pick' [] _ ?_ (by decide); exact trivial), (by omega), (fun j hj => (Nat.lt_or_eq_of_le (Nat.le_of_lt_succ hj)).elim (fun h_ => hok j h_) (fun h_ => by subst h_; exact hoki)), (by omega)⟩
 refine wp_seq ?_
 refine wp_region_lit ?_
 refine list_val F (wn rfl) rfl rfl (.bool false) (ex_bin .lss _ _ _ _ rfl .i64 _ _ (F.e rfl) (F.e rfl) _ (b_lss (decide_eq_false (by omega)))) ?_; clear F a; intro a F
 refine wpList_nil ?_
 refine then_n ?_
 refine wp_seq ?_
 refine wp_cond_false (F.e rfl) ?_
 refine wp_exit ?_
 refine then_x ?_
 refine then_x ?_
 refine in_hit ?_
 refine then_n ?_
 refine wp_seq ?_
 refine wp_region_lit ?_
 refine list_val F (wn rfl) rfl rfl (.int .i64 0) (ex_assign _ rfl _ rfl) ?_; clear F a; intro a F
 refine wpList_nil ?_
 refine then_n ?_
 refine wp_ret ?_
 exact ret_tmp F rfl rfl ⟨by rw [chN_all (fun j hj => hok j (by omega))], M.bel⟩
theorem s1_ent_32 : ent? Tryz.prog 32 = true := by kernel_rfl
set_option maxHeartbeats 1000000 in
set_option maxRecDepth 100000 in
theorem refCheck_n (xs : List Rv) (A : Option Addr) (c : Nat) (w : World) (hr : kRv.C w A xs.length xs) (hmx : xs.length ≤ 1000000) :
    Calls Tryz.prog 18 #[.slice A xs.length c] w fun e w' => e = .returned (.int .i64 (chN xs)) ∧ Below w.heap.size w w' := by
 refine calls_start Tryz.func18 rfl rfl rfl (fun a F => ?_)
 have M : Mm w w [] := Mm.nil w
 refine wp_seq ?_
 refine wp_region_lit ?_
 refine list_val F (wn rfl) rfl rfl (.int .i64 0) (ex_assign _ rfl _ rfl) ?_; clear F a; intro a F
 refine wpList_nil ?_
 refine then_n ?_
 refine wp_seq ?_
 refine wp_seq ?_
 refine wp_region_lit ?_
 refine list_val F (wn rfl) rfl rfl (.int .i64 0) (ex_assign _ rfl _ rfl) ?_; clear F a; intro a F
 refine wpList_nil ?_
 refine then_n ?_
 refine wp_block ?_
 refine wp_loopN (fun mq ar wr => ∃ (i : Nat), Fr 70 ar [(0, .slice A xs.length c), (2, .int .i64 0), (3, .int .i64 ((i : Nat) : Int))] ∧ Mm w wr [] ∧ i ≤ xs.length ∧ (∀ (j : Nat), j < i → OkAt xs j) ∧ mq + i = xs.length) xs.length ?_ ?_
 ·
  exact ⟨0, F.keep ⟨rfl, rfl, rfl, trivial⟩, M, (Nat.zero_le _), (fun j hj => absurd hj (Nat.not_lt_zero j)), (by omega)⟩
 clear F M a
 rintro mq a v ⟨i, F, M, hi, hok, hq⟩; try clear w
 by_cases hin : i < xs.length
 ·
  obtain ⟨x, hx⟩ : ∃ x, xs[i]? = some x := ⟨_, List.getElem?_eq_getElem (by omega)⟩
  obtain ⟨ad, hA, z⟩ := C_ix hr hx
  subst hA
  refine wp_seq ?_
  refine wp_seq ?_
  refine wp_region_lit ?_
  refine list_val F (wn rfl) rfl rfl (.int .i64 ((i : Nat) : Int)) (ex_move _ rfl _ (F.e rfl)) ?_; clear F a; intro a F
  refine list_val F (wn rfl) rfl rfl (.slice (some ad) xs.length c) (ex_move _ rfl _ (F.e rfl)) ?_; clear F a; intro a F
  refine list_val F (wn rfl) rfl rfl (.int .i64 ((xs.length : Nat) : Int)) (ex_len _ _ rfl 19 s1_sl_57_19 _ _ _ (F.e rfl)) ?_; clear F a; intro a F
  refine list_val F (wn rfl) rfl rfl (.bool true) (ex_bin .lss _ _ _ _ rfl .i64 _ _ (F.e rfl) (F.e rfl) _ (b_lss (decide_eq_true (by omega)))) ?_; clear F a; intro a F
  refine wpList_nil ?_
  refine then_n ?_
  refine wp_cond_true (F.e rfl) ?_
  refine wp_skip ?_
  refine then_n ?_
  refine wp_seq ?_
  refine wp_block ?_
  refine wp_seq ?_
  refine wp_seq ?_
  by_cases hw : x.whole = true
  ·
   by_cases hz : x.id = zBs 16
   ·
    have hz0 : x.whole = true → x.id = zBs 16 := fun _ => hz
    refine wp_region_lit ?_
    refine list_val F (wn rfl) rfl rfl (.slice (some ad) xs.length c) (ex_move _ rfl _ (F.e rfl)) ?_; clear F a; intro a F
    refine list_val F (wn rfl) rfl rfl (.int .i64 ((i : Nat) : Int)) (ex_move _ rfl _ (F.e rfl)) ?_; clear F a; intro a F
    refine list_val F (wn rfl) rfl rfl (.pointer (some (ad.add (i * 19)))) (ex_ix _ _ _ rfl 19 s1_sl_57_19 ad _ _ (F.e rfl) .i64 _ (F.e rfl) i rfl (by omega) (ad.add (i * 19)) rfl) ?_; clear F a; intro a F
    refine list_val F (wn rfl) rfl rfl (.pointer (some (ad.add (i * 19)))) (ex_fa _ _ _ rfl _ (F.e rfl) 0 s1_fa_85_0_0 (ad.add (i * 19)) rfl) ?_; clear F a; intro a F
    refine list_val F (wn rfl) rfl rfl (.bool true) (ex_load _ _ rfl _ (F.e rfl) _ (lv1 s1_one_4 ((z.below M.bel).cell 0 _ (Rv.cs_0e hw)))) ?_; clear F a; intro a F
    refine list_val F (wn rfl) rfl rfl (.bool true) (ex_move _ rfl _ (F.e rfl)) ?_; clear F a; intro a F
    refine list_val F (F.wants 15 true rfl (by kernel_rfl) rfl true rfl) rfl rfl (.slice (some ad) xs.length c) (ex_move _ rfl _ (F.e rfl)) ?_; clear F a; intro a F
    refine list_val F (F.wants 15 true rfl (by kernel_rfl) rfl true rfl) rfl rfl (.int .i64 ((i : Nat) : Int)) (ex_move _ rfl _ (F.e rfl)) ?_; clear F a; intro a F
    refine list_val F (F.wants 15 true rfl (by kernel_rfl) rfl true rfl) rfl rfl (.pointer (some (ad.add (i * 19)))) (ex_ix _ _ _ rfl 19 s1_sl_57_19 ad _ _ (F.e rfl) .i64 _ (F.e rfl) i rfl (by omega) (ad.add (i * 19)) rfl) ?_; clear F a; intro a F
    refine list_val F (F.wants 15 true rfl (by kernel_rfl) rfl true rfl) rfl rfl (.pointer (some ((ad.add (i * 19)).add 2))) (ex_fa _ _ _ rfl _ (F.e rfl) 2 s1_fa_85_2_2 ((ad.add (i * 19)).add 2) rfl) ?_; clear F a; intro a F
    refine list_val F (F.wants 15 true rfl (by kernel_rfl) rfl true rfl) rfl rfl (.agg x.id.cs.toArray) (ex_load _ _ rfl _ (F.e rfl) _ (lrow69 x.id (Rv.id_at ((z.below M.bel))))) ?_; clear F a; intro a F
    refine list_val F (F.wants 15 true rfl (by kernel_rfl) rfl true rfl) rfl rfl (.agg ((zBs 16).cs.toArray)) (ex_build69 rfl) ?_; clear F a; intro a F
    refine list_val F (F.wants 15 true rfl (by kernel_rfl) rfl true rfl) rfl rfl (.bool false) (ex_ne69 _ _ _ rfl x.id (zBs 16) (F.e rfl) (F.e rfl) false (by rw [hz]; simp)) ?_; clear F a; intro a F
    refine list_val F (wn rfl) rfl rfl (.bool false) (ex_pick_t _ _ _ rfl (F.e rfl) _ (F.e rfl)) ?_; clear F a; intro a F
    refine wpList_nil ?_
    refine then_n ?_
    refine wp_cond_false (F.e rfl) ?_
    refine wp_skip ?_
    refine then_n ?_
    refine wp_seq ?_
    refine wp_seq ?_
    by_cases hi0 : 0 < i
    ·
     obtain ⟨y, hy⟩ : ∃ y, xs[i - 1]? = some y := ⟨_, List.getElem?_eq_getElem (by omega)⟩
     obtain ⟨_, had, zy⟩ := C_ix hr hy
     obtain rfl := Option.some.inj had
     clear had
     by_cases hlt : key y < key x
     ·
      refine region_tail 12 s1_follows_mixedOrders (by kernel_rfl) M ?_; clear M; intro u M hb
      clear hb; try clear v
      refine still_val F (wn rfl) rfl rfl (.int .i64 ((i : Nat) : Int)) (ex_move _ rfl _ (F.e rfl)) ?_; clear F a; intro a F
      refine still_val F (wn rfl) rfl rfl (.bool true) (ex_bin .gtr _ _ _ _ rfl .i64 _ _ (F.e rfl) rfl _ (b_gtr (decide_eq_true (by omega)))) ?_; clear F a; intro a F
      refine still_val F (wn rfl) rfl rfl (.bool true) (ex_move _ rfl _ (F.e rfl)) ?_; clear F a; intro a F
      refine still_val F (F.wants 26 true rfl (by kernel_rfl) rfl true rfl) rfl rfl (.slice (some ad) xs.length c) (ex_move _ rfl _ (F.e rfl)) ?_; clear F a; intro a F
      refine still_val F (F.wants 26 true rfl (by kernel_rfl) rfl true rfl) rfl rfl (.int .i64 ((i : Nat) : Int)) (ex_move _ rfl _ (F.e rfl)) ?_; clear F a; intro a F
      refine still_val F (F.wants 26 true rfl (by kernel_rfl) rfl true rfl) rfl rfl (.int .i64 ((i - 1 : Nat) : Int)) (ex_bin .sub _ _ _ _ rfl .i64 _ _ (F.e rfl) rfl _ (b_sub ((w_i64 (by omega) (by omega)).trans (by omega)))) ?_; clear F a; intro a F
      refine still_val F (F.wants 26 true rfl (by kernel_rfl) rfl true rfl) rfl rfl (.pointer (some (ad.add ((i - 1) * 19)))) (ex_ix _ _ _ rfl 19 s1_sl_57_19 ad _ _ (F.e rfl) .i64 _ (F.e rfl) (i - 1) rfl (by omega) (ad.add ((i - 1) * 19)) rfl) ?_; clear F a; intro a F
      refine still_val F (F.wants 26 true rfl (by kernel_rfl) rfl true rfl) rfl rfl (.agg y.arr) (ex_load _ _ rfl _ (F.e rfl) _ (lrow85 y ((zy.below M.bel)))) ?_; clear F a; intro a F
      refine still_val F (F.wants 26 true rfl (by kernel_rfl) rfl true rfl) rfl rfl (.slice (some ad) xs.length c) (ex_move _ rfl _ (F.e rfl)) ?_; clear F a; intro a F
      refine still_val F (F.wants 26 true rfl (by kernel_rfl) rfl true rfl) rfl rfl (.int .i64 ((i : Nat) : Int)) (ex_move _ rfl _ (F.e rfl)) ?_; clear F a; intro a F
      refine still_val F (F.wants 26 true rfl (by kernel_rfl) rfl true rfl) rfl rfl (.pointer (some (ad.add (i * 19)))) (ex_ix _ _ _ rfl 19 s1_sl_57_19 ad _ _ (F.e rfl) .i64 _ (F.e rfl) i rfl (by omega) (ad.add (i * 19)) rfl) ?_; clear F a; intro a F
      refine still_val F (F.wants 26 true rfl (by kernel_rfl) rfl true rfl) rfl rfl (.agg x.arr) (ex_load _ _ rfl _ (F.e rfl) _ (lrow85 x ((z.below M.bel)))) ?_; clear F a; intro a F
      refine still_end ?_
      refine list_do (F.wants 26 true rfl (by kernel_rfl) rfl true rfl) (fun K hK => ?_)
      refine ow_call rfl rfl F 32 #[.agg y.arr, .agg x.arr] (ex_call 32 _ _ rfl rfl s1_ent_32 _ (map2 (F.e rfl) (F.e rfl))) (ahead_any y x _) (fun e v hR => ?_)
      obtain ⟨he, hb⟩ := hR
      rw [decide_eq_true hlt] at he
      refine ⟨.bool true, he, ?_⟩; clear he F a; intro a F
      refine hK _ _ ?_
      clear hK K
      replace M := M.below hb; clear hb; try clear u
      refine list_val F (F.wants 26 true rfl (by kernel_rfl) rfl true rfl) rfl rfl (.bool false) (ex_not _ _ rfl _ (F.e rfl) _ rfl) ?_; clear F a; intro a F
      refine list_val F (wn rfl) rfl rfl (.bool false) (ex_pick_t _ _ _ rfl (F.e rfl) _ (F.e rfl)) ?_; clear F a; intro a F
      refine wpList_nil ?_
      refine then_n ?_
      refine wp_cond_false (F.e rfl) ?_
      refine wp_skip ?_
      refine then_n ?_
      refine wp_seq ?_
      by_cases hgr : y.grant = x.grant
      ·
       by_cases hyw : y.whole = true
       ·
        refine region_tail 30 s1_follows_mixedOrders (by kernel_rfl) M ?_; clear M; intro u M hb
        clear hb; try clear v
        refine still_val F (wn rfl) rfl rfl (.int .i64 ((i : Nat) : Int)) (ex_move _ rfl _ (F.e rfl)) ?_; clear F a; intro a F
        refine still_val F (wn rfl) rfl rfl (.bool true) (ex_bin .gtr _ _ _ _ rfl .i64 _ _ (F.e rfl) rfl _ (b_gtr (decide_eq_true (by omega)))) ?_; clear F a; intro a F
        refine still_val F (wn rfl) rfl rfl (.bool true) (ex_move _ rfl _ (F.e rfl)) ?_; clear F a; intro a F
        refine still_val F (F.wants 41 true rfl (by kernel_rfl) rfl true rfl) rfl rfl (.slice (some ad) xs.length c) (ex_move _ rfl _ (F.e rfl)) ?_; clear F a; intro a F
        refine still_val F (F.wants 41 true rfl (by kernel_rfl) rfl true rfl) rfl rfl (.int .i64 ((i : Nat) : Int)) (ex_move _ rfl _ (F.e rfl)) ?_; clear F a; intro a F
        refine still_val F (F.wants 41 true rfl (by kernel_rfl) rfl true rfl) rfl rfl (.int .i64 ((i - 1 : Nat) : Int)) (ex_bin .sub _ _ _ _ rfl .i64 _ _ (F.e rfl) rfl _ (b_sub ((w_i64 (by omega) (by omega)).trans (by omega)))) ?_; clear F a; intro a F
        refine still_val F (F.wants 41 true rfl (by kernel_rfl) rfl true rfl) rfl rfl (.pointer (some (ad.add ((i - 1) * 19)))) (ex_ix _ _ _ rfl 19 s1_sl_57_19 ad _ _ (F.e rfl) .i64 _ (F.e rfl) (i - 1) rfl (by omega) (ad.add ((i - 1) * 19)) rfl) ?_; clear F a; intro a F
        refine still_val F (F.wants 41 true rfl (by kernel_rfl) rfl true rfl) rfl rfl (.pointer (some ((ad.add ((i - 1) * 19)).add 1))) (ex_fa _ _ _ rfl _ (F.e rfl) 1 s1_fa_85_1_1 ((ad.add ((i - 1) * 19)).add 1) rfl) ?_; clear F a; intro a F
        refine still_val F (F.wants 41 true rfl (by kernel_rfl) rfl true rfl) rfl rfl (.int .u64 y.grant) (ex_load _ _ rfl _ (F.e rfl) _ (lv1 s1_one_67 ((zy.below M.bel).cell 1 _ (Rv.cs_1 _)))) ?_; clear F a; intro a F
        refine still_val F (F.wants 41 true rfl (by kernel_rfl) rfl true rfl) rfl rfl (.slice (some ad) xs.length c) (ex_move _ rfl _ (F.e rfl)) ?_; clear F a; intro a F
        refine still_val F (F.wants 41 true rfl (by kernel_rfl) rfl true rfl) rfl rfl (.int .i64 ((i : Nat) : Int)) (ex_move _ rfl _ (F.e rfl)) ?_; clear F a; intro a F
        refine still_val F (F.wants 41 true rfl (by kernel_rfl) rfl true rfl) rfl rfl (.pointer (some (ad.add (i * 19)))) (ex_ix _ _ _ rfl 19 s1_sl_57_19 ad _ _ (F.e rfl) .i64 _ (F.e rfl) i rfl (by omega) (ad.add (i * 19)) rfl) ?_; clear F a; intro a F
        refine still_val F (F.wants 41 true rfl (by kernel_rfl) rfl true rfl) rfl rfl (.pointer (some ((ad.add (i * 19)).add 1))) (ex_fa _ _ _ rfl _ (F.e rfl) 1 s1_fa_85_1_1 ((ad.add (i * 19)).add 1) rfl) ?_; clear F a; intro a F
        refine still_val F (F.wants 41 true rfl (by kernel_rfl) rfl true rfl) rfl rfl (.int .u64 x.grant) (ex_load _ _ rfl _ (F.e rfl) _ (lv1 s1_one_67 ((z.below M.bel).cell 1 _ (Rv.cs_1 _)))) ?_; clear F a; intro a F
        refine still_val F (F.wants 41 true rfl (by kernel_rfl) rfl true rfl) rfl rfl (.bool true) (ex_bin .eql _ _ _ _ rfl .u64 _ _ (F.e rfl) (F.e rfl) _ (b_eql (by simp [hgr]))) ?_; clear F a; intro a F
        refine still_val F (wn rfl) rfl rfl (.bool true) (ex_pick_t _ _ _ rfl (F.e rfl) _ (F.e rfl)) ?_; clear F a; intro a F
        refine still_val F (wn rfl) rfl rfl (.bool true) (ex_move _ rfl _ (F.e rfl)) ?_; clear F a; intro a F
        refine still_val F (F.wants 55 true rfl (by kernel_rfl) rfl true rfl) rfl rfl (.slice (some ad) xs.length c) (ex_move _ rfl _ (F.e rfl)) ?_; clear F a; intro a F
        refine still_val F (F.wants 55 true rfl (by kernel_rfl) rfl true rfl) rfl rfl (.int .i64 ((i : Nat) : Int)) (ex_move _ rfl _ (F.e rfl)) ?_; clear F a; intro a F
        refine still_val F (F.wants 55 true rfl (by kernel_rfl) rfl true rfl) rfl rfl (.int .i64 ((i - 1 : Nat) : Int)) (ex_bin .sub _ _ _ _ rfl .i64 _ _ (F.e rfl) rfl _ (b_sub ((w_i64 (by omega) (by omega)).trans (by omega)))) ?_; clear F a; intro a F
        refine still_val F (F.wants 55 true rfl (by kernel_rfl) rfl true rfl) rfl rfl (.pointer (some (ad.add ((i - 1) * 19)))) (ex_ix _ _ _ rfl 19 s1_sl_57_19 ad _ _ (F.e rfl) .i64 _ (F.e rfl) (i - 1) rfl (by omega) (ad.add ((i - 1) * 19)) rfl) ?_; clear F a; intro a F
        refine still_val F (F.wants 55 true rfl (by kernel_rfl) rfl true rfl) rfl rfl (.pointer (some (ad.add ((i - 1) * 19)))) (ex_fa _ _ _ rfl _ (F.e rfl) 0 s1_fa_85_0_0 (ad.add ((i - 1) * 19)) rfl) ?_; clear F a; intro a F
        refine still_val F (F.wants 55 true rfl (by kernel_rfl) rfl true rfl) rfl rfl (.bool true) (ex_load _ _ rfl _ (F.e rfl) _ (lv1 s1_one_4 ((zy.below M.bel).cell 0 _ (Rv.cs_0e hyw)))) ?_; clear F a; intro a F
        refine still_val F (F.wants 55 true rfl (by kernel_rfl) rfl true rfl) rfl rfl (.bool true) (ex_move _ rfl _ (F.e rfl)) ?_; clear F a; intro a F
        refine still_skip F (F.wants 62 true rfl (by kernel_rfl) rfl false rfl) rfl rfl ?_; clear F a; intro a F
        refine still_skip F (F.wants 62 true rfl (by kernel_rfl) rfl false rfl) rfl rfl ?_; clear F a; intro a F
        refine still_skip F (F.wants 62 true rfl (by kernel_rfl) rfl false rfl) rfl rfl ?_; clear F a; intro a F
        refine still_skip F (F.wants 62 true rfl (by kernel_rfl) rfl false rfl) rfl rfl ?_; clear F a; intro a F
        refine still_skip F (F.wants 62 true rfl (by kernel_rfl) rfl false rfl) rfl rfl ?_; clear F a; intro a F
        refine still_val F (F.wants 55 true rfl (by kernel_rfl) rfl true rfl) rfl rfl (.bool true) (ex_pick_t _ _ _ rfl (F.e rfl) _ rfl) ?_; clear F a; intro a F
        refine still_end ?_
        refine list_val F (wn rfl) rfl rfl (.bool true) (ex_pick_t _ _ _ rfl (F.e rfl) _ (F.e rfl)) ?_; clear F a; intro a F
        refine wpList_nil ?_
        replace F : Fr 70 a [(0, .slice (some ad) xs.length c), (2, .int .i64 0), (3, .int .i64 ((i : Nat) : Int)), (7, .bool true), (23, .bool false), (38, .bool false), (69, .bool true)] := F.keep ⟨rfl, rfl, rfl, rfl, rfl, rfl, rfl, trivial⟩
        refine then_n ?_
        refine wp_cond_true (F.e rfl) ?_
        refine wp_seq ?_
        refine wp_region_lit ?_
        refine list_val F (wn rfl) rfl rfl (.int .i64 140) (ex_assign _ rfl _ rfl) ?_; clear F a; intro a F
        refine wpList_nil ?_
        refine then_n ?_
        refine wp_ret ?_
        refine in_r ?_
        refine then_r ?_
        refine then_r ?_
        refine in_r ?_
        refine then_r ?_
        exact ret_tmp F rfl rfl ⟨by rw [chN_rise hx hi0 hy (fun h_ => by rw [(h_.2 hgr).1] at hyw; exact absurd hyw (by decide))], M.bel⟩
       refine region_tail 30 s1_follows_mixedOrders (by kernel_rfl) M ?_; clear M; intro u M hb
       clear hb; try clear v
       refine still_val F (wn rfl) rfl rfl (.int .i64 ((i : Nat) : Int)) (ex_move _ rfl _ (F.e rfl)) ?_; clear F a; intro a F
       refine still_val F (wn rfl) rfl rfl (.bool true) (ex_bin .gtr _ _ _ _ rfl .i64 _ _ (F.e rfl) rfl _ (b_gtr (decide_eq_true (by omega)))) ?_; clear F a; intro a F
       refine still_val F (wn rfl) rfl rfl (.bool true) (ex_move _ rfl _ (F.e rfl)) ?_; clear F a; intro a F
       refine still_val F (F.wants 41 true rfl (by kernel_rfl) rfl true rfl) rfl rfl (.slice (some ad) xs.length c) (ex_move _ rfl _ (F.e rfl)) ?_; clear F a; intro a F
       refine still_val F (F.wants 41 true rfl (by kernel_rfl) rfl true rfl) rfl rfl (.int .i64 ((i : Nat) : Int)) (ex_move _ rfl _ (F.e rfl)) ?_; clear F a; intro a F
       refine still_val F (F.wants 41 true rfl (by kernel_rfl) rfl true rfl) rfl rfl (.int .i64 ((i - 1 : Nat) : Int)) (ex_bin .sub _ _ _ _ rfl .i64 _ _ (F.e rfl) rfl _ (b_sub ((w_i64 (by omega) (by omega)).trans (by omega)))) ?_; clear F a; intro a F
       refine still_val F (F.wants 41 true rfl (by kernel_rfl) rfl true rfl) rfl rfl (.pointer (some (ad.add ((i - 1) * 19)))) (ex_ix _ _ _ rfl 19 s1_sl_57_19 ad _ _ (F.e rfl) .i64 _ (F.e rfl) (i - 1) rfl (by omega) (ad.add ((i - 1) * 19)) rfl) ?_; clear F a; intro a F
       refine still_val F (F.wants 41 true rfl (by kernel_rfl) rfl true rfl) rfl rfl (.pointer (some ((ad.add ((i - 1) * 19)).add 1))) (ex_fa _ _ _ rfl _ (F.e rfl) 1 s1_fa_85_1_1 ((ad.add ((i - 1) * 19)).add 1) rfl) ?_; clear F a; intro a F
       refine still_val F (F.wants 41 true rfl (by kernel_rfl) rfl true rfl) rfl rfl (.int .u64 y.grant) (ex_load _ _ rfl _ (F.e rfl) _ (lv1 s1_one_67 ((zy.below M.bel).cell 1 _ (Rv.cs_1 _)))) ?_; clear F a; intro a F
       refine still_val F (F.wants 41 true rfl (by kernel_rfl) rfl true rfl) rfl rfl (.slice (some ad) xs.length c) (ex_move _ rfl _ (F.e rfl)) ?_; clear F a; intro a F
       refine still_val F (F.wants 41 true rfl (by kernel_rfl) rfl true rfl) rfl rfl (.int .i64 ((i : Nat) : Int)) (ex_move _ rfl _ (F.e rfl)) ?_; clear F a; intro a F
       refine still_val F (F.wants 41 true rfl (by kernel_rfl) rfl true rfl) rfl rfl (.pointer (some (ad.add (i * 19)))) (ex_ix _ _ _ rfl 19 s1_sl_57_19 ad _ _ (F.e rfl) .i64 _ (F.e rfl) i rfl (by omega) (ad.add (i * 19)) rfl) ?_; clear F a; intro a F
       refine still_val F (F.wants 41 true rfl (by kernel_rfl) rfl true rfl) rfl rfl (.pointer (some ((ad.add (i * 19)).add 1))) (ex_fa _ _ _ rfl _ (F.e rfl) 1 s1_fa_85_1_1 ((ad.add (i * 19)).add 1) rfl) ?_; clear F a; intro a F
       refine still_val F (F.wants 41 true rfl (by kernel_rfl) rfl true rfl) rfl rfl (.int .u64 x.grant) (ex_load _ _ rfl _ (F.e rfl) _ (lv1 s1_one_67 ((z.below M.bel).cell 1 _ (Rv.cs_1 _)))) ?_; clear F a; intro a F
       refine still_val F (F.wants 41 true rfl (by kernel_rfl) rfl true rfl) rfl rfl (.bool true) (ex_bin .eql _ _ _ _ rfl .u64 _ _ (F.e rfl) (F.e rfl) _ (b_eql (by simp [hgr]))) ?_; clear F a; intro a F
       refine still_val F (wn rfl) rfl rfl (.bool true) (ex_pick_t _ _ _ rfl (F.e rfl) _ (F.e rfl)) ?_; clear F a; intro a F
       refine still_val F (wn rfl) rfl rfl (.bool true) (ex_move _ rfl _ (F.e rfl)) ?_; clear F a; intro a F
       refine still_val F (F.wants 55 true rfl (by kernel_rfl) rfl true rfl) rfl rfl (.slice (some ad) xs.length c) (ex_move _ rfl _ (F.e rfl)) ?_; clear F a; intro a F
       refine still_val F (F.wants 55 true rfl (by kernel_rfl) rfl true rfl) rfl rfl (.int .i64 ((i : Nat) : Int)) (ex_move _ rfl _ (F.e rfl)) ?_; clear F a; intro a F
       refine still_val F (F.wants 55 true rfl (by kernel_rfl) rfl true rfl) rfl rfl (.int .i64 ((i - 1 : Nat) : Int)) (ex_bin .sub _ _ _ _ rfl .i64 _ _ (F.e rfl) rfl _ (b_sub ((w_i64 (by omega) (by omega)).trans (by omega)))) ?_; clear F a; intro a F
       refine still_val F (F.wants 55 true rfl (by kernel_rfl) rfl true rfl) rfl rfl (.pointer (some (ad.add ((i - 1) * 19)))) (ex_ix _ _ _ rfl 19 s1_sl_57_19 ad _ _ (F.e rfl) .i64 _ (F.e rfl) (i - 1) rfl (by omega) (ad.add ((i - 1) * 19)) rfl) ?_; clear F a; intro a F
       refine still_val F (F.wants 55 true rfl (by kernel_rfl) rfl true rfl) rfl rfl (.pointer (some (ad.add ((i - 1) * 19)))) (ex_fa _ _ _ rfl _ (F.e rfl) 0 s1_fa_85_0_0 (ad.add ((i - 1) * 19)) rfl) ?_; clear F a; intro a F
       refine still_val F (F.wants 55 true rfl (by kernel_rfl) rfl true rfl) rfl rfl (.bool false) (ex_load _ _ rfl _ (F.e rfl) _ (lv1 s1_one_4 ((zy.below M.bel).cell 0 _ (Rv.cs_0e (Bool.eq_false_iff.2 hyw))))) ?_; clear F a; intro a F
       refine still_val F (F.wants 55 true rfl (by kernel_rfl) rfl true rfl) rfl rfl (.bool false) (ex_move _ rfl _ (F.e rfl)) ?_; clear F a; intro a F
       refine still_val F (F.wants 62 false rfl (by kernel_rfl) rfl true rfl) rfl rfl (.slice (some ad) xs.length c) (ex_move _ rfl _ (F.e rfl)) ?_; clear F a; intro a F
       refine still_val F (F.wants 62 false rfl (by kernel_rfl) rfl true rfl) rfl rfl (.int .i64 ((i : Nat) : Int)) (ex_move _ rfl _ (F.e rfl)) ?_; clear F a; intro a F
       refine still_val F (F.wants 62 false rfl (by kernel_rfl) rfl true rfl) rfl rfl (.pointer (some (ad.add (i * 19)))) (ex_ix _ _ _ rfl 19 s1_sl_57_19 ad _ _ (F.e rfl) .i64 _ (F.e rfl) i rfl (by omega) (ad.add (i * 19)) rfl) ?_; clear F a; intro a F
       refine still_val F (F.wants 62 false rfl (by kernel_rfl) rfl true rfl) rfl rfl (.pointer (some (ad.add (i * 19)))) (ex_fa _ _ _ rfl _ (F.e rfl) 0 s1_fa_85_0_0 (ad.add (i * 19)) rfl) ?_; clear F a; intro a F
       refine still_val F (F.wants 62 false rfl (by kernel_rfl) rfl true rfl) rfl rfl (.bool true) (ex_load _ _ rfl _ (F.e rfl) _ (lv1 s1_one_4 ((z.below M.bel).cell 0 _ (Rv.cs_0e hw)))) ?_; clear F a; intro a F
       refine still_val F (F.wants 55 true rfl (by kernel_rfl) rfl true rfl) rfl rfl (.bool true) (ex_pick_f _ _ _ rfl (F.e rfl) _ (F.e rfl)) ?_; clear F a; intro a F
       refine still_end ?_
       refine list_val F (wn rfl) rfl rfl (.bool true) (ex_pick_t _ _ _ rfl (F.e rfl) _ (F.e rfl)) ?_; clear F a; intro a F
       refine wpList_nil ?_
       refine then_n ?_
       refine wp_cond_true (F.e rfl) ?_
       refine wp_seq ?_
       refine wp_region_lit ?_
       refine list_val F (wn rfl) rfl rfl (.int .i64 140) (ex_assign _ rfl _ rfl) ?_; clear F a; intro a F
       refine wpList_nil ?_
       refine then_n ?_
       refine wp_ret ?_
       refine in_r ?_
       refine then_r ?_
       refine then_r ?_
       refine in_r ?_
       refine then_r ?_
       exact ret_tmp F rfl rfl ⟨by rw [chN_rise hx hi0 hy (fun h_ => by rw [(h_.2 hgr).2] at hw; exact absurd hw (by decide))], M.bel⟩
      have hoki : OkAt xs i := fun x2 hx2 => by
        obtain rfl := Option.some.inj (hx.symm.trans hx2)
        refine ⟨hz0, fun y2 h2 hy2 => ?_⟩
        obtain rfl := Option.some.inj (hy.symm.trans hy2)
        exact ⟨hlt, fun h_ => absurd h_ hgr⟩
      refine region_tail 30 s1_follows_mixedOrders (by kernel_rfl) M ?_; clear M; intro u M hb
      clear hb; try clear v
      refine still_val F (wn rfl) rfl rfl (.int .i64 ((i : Nat) : Int)) (ex_move _ rfl _ (F.e rfl)) ?_; clear F a; intro a F
      refine still_val F (wn rfl) rfl rfl (.bool true) (ex_bin .gtr _ _ _ _ rfl .i64 _ _ (F.e rfl) rfl _ (b_gtr (decide_eq_true (by omega)))) ?_; clear F a; intro a F
      refine still_val F (wn rfl) rfl rfl (.bool true) (ex_move _ rfl _ (F.e rfl)) ?_; clear F a; intro a F
      refine still_val F (F.wants 41 true rfl (by kernel_rfl) rfl true rfl) rfl rfl (.slice (some ad) xs.length c) (ex_move _ rfl _ (F.e rfl)) ?_; clear F a; intro a F
      refine still_val F (F.wants 41 true rfl (by kernel_rfl) rfl true rfl) rfl rfl (.int .i64 ((i : Nat) : Int)) (ex_move _ rfl _ (F.e rfl)) ?_; clear F a; intro a F
      refine still_val F (F.wants 41 true rfl (by kernel_rfl) rfl true rfl) rfl rfl (.int .i64 ((i - 1 : Nat) : Int)) (ex_bin .sub _ _ _ _ rfl .i64 _ _ (F.e rfl) rfl _ (b_sub ((w_i64 (by omega) (by omega)).trans (by omega)))) ?_; clear F a; intro a F
      refine still_val F (F.wants 41 true rfl (by kernel_rfl) rfl true rfl) rfl rfl (.pointer (some (ad.add ((i - 1) * 19)))) (ex_ix _ _ _ rfl 19 s1_sl_57_19 ad _ _ (F.e rfl) .i64 _ (F.e rfl) (i - 1) rfl (by omega) (ad.add ((i - 1) * 19)) rfl) ?_; clear F a; intro a F
      refine still_val F (F.wants 41 true rfl (by kernel_rfl) rfl true rfl) rfl rfl (.pointer (some ((ad.add ((i - 1) * 19)).add 1))) (ex_fa _ _ _ rfl _ (F.e rfl) 1 s1_fa_85_1_1 ((ad.add ((i - 1) * 19)).add 1) rfl) ?_; clear F a; intro a F
      refine still_val F (F.wants 41 true rfl (by kernel_rfl) rfl true rfl) rfl rfl (.int .u64 y.grant) (ex_load _ _ rfl _ (F.e rfl) _ (lv1 s1_one_67 ((zy.below M.bel).cell 1 _ (Rv.cs_1 _)))) ?_; clear F a; intro a F
      refine still_val F (F.wants 41 true rfl (by kernel_rfl) rfl true rfl) rfl rfl (.slice (some ad) xs.length c) (ex_move _ rfl _ (F.e rfl)) ?_; clear F a; intro a F
      refine still_val F (F.wants 41 true rfl (by kernel_rfl) rfl true rfl) rfl rfl (.int .i64 ((i : Nat) : Int)) (ex_move _ rfl _ (F.e rfl)) ?_; clear F a; intro a F
      refine still_val F (F.wants 41 true rfl (by kernel_rfl) rfl true rfl) rfl rfl (.pointer (some (ad.add (i * 19)))) (ex_ix _ _ _ rfl 19 s1_sl_57_19 ad _ _ (F.e rfl) .i64 _ (F.e rfl) i rfl (by omega) (ad.add (i * 19)) rfl) ?_; clear F a; intro a F
      refine still_val F (F.wants 41 true rfl (by kernel_rfl) rfl true rfl) rfl rfl (.pointer (some ((ad.add (i * 19)).add 1))) (ex_fa _ _ _ rfl _ (F.e rfl) 1 s1_fa_85_1_1 ((ad.add (i * 19)).add 1) rfl) ?_; clear F a; intro a F
      refine still_val F (F.wants 41 true rfl (by kernel_rfl) rfl true rfl) rfl rfl (.int .u64 x.grant) (ex_load _ _ rfl _ (F.e rfl) _ (lv1 s1_one_67 ((z.below M.bel).cell 1 _ (Rv.cs_1 _)))) ?_; clear F a; intro a F
      refine still_val F (F.wants 41 true rfl (by kernel_rfl) rfl true rfl) rfl rfl (.bool false) (ex_bin .eql _ _ _ _ rfl .u64 _ _ (F.e rfl) (F.e rfl) _ (b_eql (by simp [hgr]))) ?_; clear F a; intro a F
      refine still_val F (wn rfl) rfl rfl (.bool false) (ex_pick_t _ _ _ rfl (F.e rfl) _ (F.e rfl)) ?_; clear F a; intro a F
      refine still_val F (wn rfl) rfl rfl (.bool false) (ex_move _ rfl _ (F.e rfl)) ?_; clear F a; intro a F
      refine still_skip F (F.wants 55 false rfl (by kernel_rfl) rfl false rfl) rfl rfl ?_; clear F a; intro a F
      refine still_skip F (F.wants 55 false rfl (by kernel_rfl) rfl false rfl) rfl rfl ?_; clear F a; intro a F
      refine still_skip F (F.wants 55 false rfl (by kernel_rfl) rfl false rfl) rfl rfl ?_; clear F a; intro a F
      refine still_skip F (F.wants 55 false rfl (by kernel_rfl) rfl false rfl) rfl rfl ?_; clear F a; intro a F
      refine still_skip F (F.wants 55 false rfl (by kernel_rfl) rfl false rfl) rfl rfl ?_; clear F a; intro a F
      refine still_skip F (F.wants 55 false rfl (by kernel_rfl) rfl false rfl) rfl rfl ?_; clear F a; intro a F
      refine still_skip F (F.wants 55 false rfl (by kernel_rfl) rfl false rfl) rfl rfl ?_; clear F a; intro a F
      refine still_skip F (F.wants0 62 rfl (by kernel_rfl) rfl) rfl rfl ?_; clear F a; intro a F
      refine still_skip F (F.wants0 62 rfl (by kernel_rfl) rfl) rfl rfl ?_; clear F a; intro a F
      refine still_skip F (F.wants0 62 rfl (by kernel_rfl) rfl) rfl rfl ?_; clear F a; intro a F
      refine still_skip F (F.wants0 62 rfl (by kernel_rfl) rfl) rfl rfl ?_; clear F a; intro a F
      refine still_skip F (F.wants0 62 rfl (by kernel_rfl) rfl) rfl rfl ?_; clear F a; intro a F
      refine still_skip F (F.wants 55 false rfl (by kernel_rfl) rfl false rfl) rfl rfl ?_; clear F a; intro a F
      refine still_end ?_
      refine list_val F (wn rfl) rfl rfl (.bool false) (ex_pick_f _ _ _ rfl (F.e rfl) _ rfl) ?_; clear F a; intro a F
      refine wpList_nil ?_
      replace F : Fr 70 a [(0, .slice (some ad) xs.length c), (2, .int .i64 0), (3, .int .i64 ((i : Nat) : Int)), (7, .bool true), (23, .bool false), (38, .bool false), (69, .bool false)] := F.keep ⟨rfl, rfl, rfl, rfl, rfl, rfl, rfl, trivial⟩
      refine then_n ?_
      refine wp_cond_false (F.e rfl) ?_
      refine wp_skip ?_
      refine in_n ?_
      refine then_n ?_
      refine wp_region_lit ?_
      refine list_val F (wn rfl) rfl rfl (.int .i64 ((i : Nat) : Int)) (ex_move _ rfl _ (F.e rfl)) ?_; clear F a; intro a F
      refine list_val F (wn rfl) rfl rfl (.int .i64 ((i + 1 : Nat) : Int)) (ex_bin .add _ _ _ _ rfl .i64 _ _ (F.e rfl) rfl _ (b_add ((w_i64 (by omega) (by omega)).trans (by omega)))) ?_; clear F a; intro a F
      refine list_val F (wn rfl) rfl rfl (.int .i64 ((i + 1 : Nat) : Int)) (ex_assign _ rfl _ (F.e rfl)) ?_; clear F a; intro a F
      refine wpList_nil ?_
      refine then_n ?_
      exact ⟨xs.length - (i + 1), by omega, (i + 1), F.keep ⟨rfl, rfl, rfl, trivial⟩, (by refine M.pick' [] _ ?_ (by decide); exact trivial), (by omega), (fun j hj => (Nat.lt_or_eq_of_le (Nat.le_of_lt_succ hj)).elim (fun h_ => hok j h_) (fun h_ => by subst h_; exact hoki)), (by omega)⟩
     refine region_tail 12 s1_follows_mixedOrders (by kernel_rfl) M ?_; clear M; intro u M hb
     clear hb; try clear v
     refine still_val F (wn rfl) rfl rfl (.int .i64 ((i : Nat) : Int)) (ex_move _ rfl _ (F.e rfl)) ?_; clear F a; intro a F
     refine still_val F (wn rfl) rfl rfl (.bool true) (ex_bin .gtr _ _ _ _ rfl .i64 _ _ (F.e rfl) rfl _ (b_gtr (decide_eq_true (by omega)))) ?_; clear F a; intro a F
     refine still_val F (wn rfl) rfl rfl (.bool true) (ex_move _ rfl _ (F.e rfl)) ?_; clear F a; intro a F
     refine still_val F (F.wants 26 true rfl (by kernel_rfl) rfl true rfl) rfl rfl (.slice (some ad) xs.length c) (ex_move _ rfl _ (F.e rfl)) ?_; clear F a; intro a F
     refine still_val F (F.wants 26 true rfl (by kernel_rfl) rfl true rfl) rfl rfl (.int .i64 ((i : Nat) : Int)) (ex_move _ rfl _ (F.e rfl)) ?_; clear F a; intro a F
     refine still_val F (F.wants 26 true rfl (by kernel_rfl) rfl true rfl) rfl rfl (.int .i64 ((i - 1 : Nat) : Int)) (ex_bin .sub _ _ _ _ rfl .i64 _ _ (F.e rfl) rfl _ (b_sub ((w_i64 (by omega) (by omega)).trans (by omega)))) ?_; clear F a; intro a F
     refine still_val F (F.wants 26 true rfl (by kernel_rfl) rfl true rfl) rfl rfl (.pointer (some (ad.add ((i - 1) * 19)))) (ex_ix _ _ _ rfl 19 s1_sl_57_19 ad _ _ (F.e rfl) .i64 _ (F.e rfl) (i - 1) rfl (by omega) (ad.add ((i - 1) * 19)) rfl) ?_; clear F a; intro a F
     refine still_val F (F.wants 26 true rfl (by kernel_rfl) rfl true rfl) rfl rfl (.agg y.arr) (ex_load _ _ rfl _ (F.e rfl) _ (lrow85 y ((zy.below M.bel)))) ?_; clear F a; intro a F
     refine still_val F (F.wants 26 true rfl (by kernel_rfl) rfl true rfl) rfl rfl (.slice (some ad) xs.length c) (ex_move _ rfl _ (F.e rfl)) ?_; clear F a; intro a F
     refine still_val F (F.wants 26 true rfl (by kernel_rfl) rfl true rfl) rfl rfl (.int .i64 ((i : Nat) : Int)) (ex_move _ rfl _ (F.e rfl)) ?_; clear F a; intro a F
     refine still_val F (F.wants 26 true rfl (by kernel_rfl) rfl true rfl) rfl rfl (.pointer (some (ad.add (i * 19)))) (ex_ix _ _ _ rfl 19 s1_sl_57_19 ad _ _ (F.e rfl) .i64 _ (F.e rfl) i rfl (by omega) (ad.add (i * 19)) rfl) ?_; clear F a; intro a F
     refine still_val F (F.wants 26 true rfl (by kernel_rfl) rfl true rfl) rfl rfl (.agg x.arr) (ex_load _ _ rfl _ (F.e rfl) _ (lrow85 x ((z.below M.bel)))) ?_; clear F a; intro a F
     refine still_end ?_
     refine list_do (F.wants 26 true rfl (by kernel_rfl) rfl true rfl) (fun K hK => ?_)
     refine ow_call rfl rfl F 32 #[.agg y.arr, .agg x.arr] (ex_call 32 _ _ rfl rfl s1_ent_32 _ (map2 (F.e rfl) (F.e rfl))) (ahead_any y x _) (fun e v hR => ?_)
     obtain ⟨he, hb⟩ := hR
     rw [decide_eq_false hlt] at he
     refine ⟨.bool false, he, ?_⟩; clear he F a; intro a F
     refine hK _ _ ?_
     clear hK K
     replace M := M.below hb; clear hb; try clear u
     refine list_val F (F.wants 26 true rfl (by kernel_rfl) rfl true rfl) rfl rfl (.bool true) (ex_not _ _ rfl _ (F.e rfl) _ rfl) ?_; clear F a; intro a F
     refine list_val F (wn rfl) rfl rfl (.bool true) (ex_pick_t _ _ _ rfl (F.e rfl) _ (F.e rfl)) ?_; clear F a; intro a F
     refine wpList_nil ?_
     refine then_n ?_
     refine wp_cond_true (F.e rfl) ?_
     refine wp_seq ?_
     refine wp_region_lit ?_
     refine list_val F (wn rfl) rfl rfl (.int .i64 140) (ex_assign _ rfl _ rfl) ?_; clear F a; intro a F
     refine wpList_nil ?_
     refine then_n ?_
     refine wp_ret ?_
     refine then_r ?_
     refine in_r ?_
     refine then_r ?_
     refine then_r ?_
     refine in_r ?_
     refine then_r ?_
     exact ret_tmp F rfl rfl ⟨by rw [chN_rise hx hi0 hy (fun h_ => hlt h_.1)], M.bel⟩
    have hoki : OkAt xs i := fun x2 hx2 => by
      obtain rfl := Option.some.inj (hx.symm.trans hx2)
      exact ⟨hz0, fun y2 h2 => absurd h2 hi0⟩
    refine region_tail 12 s1_follows_mixedOrders (by kernel_rfl) M ?_; clear M; intro u M hb
    clear hb; try clear v
    refine still_val F (wn rfl) rfl rfl (.int .i64 ((i : Nat) : Int)) (ex_move _ rfl _ (F.e rfl)) ?_; clear F a; intro a F
    refine still_val F (wn rfl) rfl rfl (.bool false) (ex_bin .gtr _ _ _ _ rfl .i64 _ _ (F.e rfl) rfl _ (b_gtr (decide_eq_false (by omega)))) ?_; clear F a; intro a F
    refine still_val F (wn rfl) rfl rfl (.bool false) (ex_move _ rfl _ (F.e rfl)) ?_; clear F a; intro a F
    refine still_skip F (F.wants 26 false rfl (by kernel_rfl) rfl false rfl) rfl rfl ?_; clear F a; intro a F
    refine still_skip F (F.wants 26 false rfl (by kernel_rfl) rfl false rfl) rfl rfl ?_; clear F a; intro a F
    refine still_skip F (F.wants 26 false rfl (by kernel_rfl) rfl false rfl) rfl rfl ?_; clear F a; intro a F
    refine still_skip F (F.wants 26 false rfl (by kernel_rfl) rfl false rfl) rfl rfl ?_; clear F a; intro a F
    refine still_skip F (F.wants 26 false rfl (by kernel_rfl) rfl false rfl) rfl rfl ?_; clear F a; intro a F
    refine still_skip F (F.wants 26 false rfl (by kernel_rfl) rfl false rfl) rfl rfl ?_; clear F a; intro a F
    refine still_skip F (F.wants 26 false rfl (by kernel_rfl) rfl false rfl) rfl rfl ?_; clear F a; intro a F
    refine still_skip F (F.wants 26 false rfl (by kernel_rfl) rfl false rfl) rfl rfl ?_; clear F a; intro a F
    refine still_skip F (F.wants 26 false rfl (by kernel_rfl) rfl false rfl) rfl rfl ?_; clear F a; intro a F
    refine still_end ?_
    refine list_skip F (F.wants 26 false rfl (by kernel_rfl) rfl false rfl) rfl rfl ?_; clear F a; intro a F
    refine list_skip F (F.wants 26 false rfl (by kernel_rfl) rfl false rfl) rfl rfl ?_; clear F a; intro a F
    refine list_val F (wn rfl) rfl rfl (.bool false) (ex_pick_f _ _ _ rfl (F.e rfl) _ rfl) ?_; clear F a; intro a F
    refine wpList_nil ?_
    refine then_n ?_
    refine wp_cond_false (F.e rfl) ?_
    refine wp_skip ?_
    refine then_n ?_
    refine wp_seq ?_
    refine region_tail 30 s1_follows_mixedOrders (by kernel_rfl) M ?_; clear M; intro v M hb
    clear hb; try clear u
    refine still_val F (wn rfl) rfl rfl (.int .i64 ((i : Nat) : Int)) (ex_move _ rfl _ (F.e rfl)) ?_; clear F a; intro a F
    refine still_val F (wn rfl) rfl rfl (.bool false) (ex_bin .gtr _ _ _ _ rfl .i64 _ _ (F.e rfl) rfl _ (b_gtr (decide_eq_false (by omega)))) ?_; clear F a; intro a F
    refine still_val F (wn rfl) rfl rfl (.bool false) (ex_move _ rfl _ (F.e rfl)) ?_; clear F a; intro a F
    refine still_skip F (F.wants 41 false rfl (by kernel_rfl) rfl false rfl) rfl rfl ?_; clear F a; intro a F
    refine still_skip F (F.wants 41 false rfl (by kernel_rfl) rfl false rfl) rfl rfl ?_; clear F a; intro a F
    refine still_skip F (F.wants 41 false rfl (by kernel_rfl) rfl false rfl) rfl rfl ?_; clear F a; intro a F
    refine still_skip F (F.wants 41 false rfl (by kernel_rfl) rfl false rfl) rfl rfl ?_; clear F a; intro a F
    refine still_skip F (F.wants 41 false rfl (by kernel_rfl) rfl false rfl) rfl rfl ?_; clear F a; intro a F
    refine still_skip F (F.wants 41 false rfl (by kernel_rfl) rfl false rfl) rfl rfl ?_; clear F a; intro a F
    refine still_skip F (F.wants 41 false rfl (by kernel_rfl) rfl false rfl) rfl rfl ?_; clear F a; intro a F
    refine still_skip F (F.wants 41 false rfl (by kernel_rfl) rfl false rfl) rfl rfl ?_; clear F a; intro a F
    refine still_skip F (F.wants 41 false rfl (by kernel_rfl) rfl false rfl) rfl rfl ?_; clear F a; intro a F
    refine still_skip F (F.wants 41 false rfl (by kernel_rfl) rfl false rfl) rfl rfl ?_; clear F a; intro a F
    refine still_skip F (F.wants 41 false rfl (by kernel_rfl) rfl false rfl) rfl rfl ?_; clear F a; intro a F
    refine still_skip F (F.wants 41 false rfl (by kernel_rfl) rfl false rfl) rfl rfl ?_; clear F a; intro a F
    refine still_val F (wn rfl) rfl rfl (.bool false) (ex_pick_f _ _ _ rfl (F.e rfl) _ rfl) ?_; clear F a; intro a F
    refine still_val F (wn rfl) rfl rfl (.bool false) (ex_move _ rfl _ (F.e rfl)) ?_; clear F a; intro a F
    refine still_skip F (F.wants 55 false rfl (by kernel_rfl) rfl false rfl) rfl rfl ?_; clear F a; intro a F
    refine still_skip F (F.wants 55 false rfl (by kernel_rfl) rfl false rfl) rfl rfl ?_; clear F a; intro a F
    refine still_skip F (F.wants 55 false rfl (by kernel_rfl) rfl false rfl) rfl rfl ?_; clear F a; intro a F
    refine still_skip F (F.wants 55 false rfl (by kernel_rfl) rfl false rfl) rfl rfl ?_; clear F a; intro a F
    refine still_skip F (F.wants 55 false rfl (by kernel_rfl) rfl false rfl) rfl rfl ?_; clear F a; intro a F
    refine still_skip F (F.wants 55 false rfl (by kernel_rfl) rfl false rfl) rfl rfl ?_; clear F a; intro a F
    refine still_skip F (F.wants 55 false rfl (by kernel_rfl) rfl false rfl) rfl rfl ?_; clear F a; intro a F
    refine still_skip F (F.wants0 62 rfl (by kernel_rfl) rfl) rfl rfl ?_; clear F a; intro a F
    refine still_skip F (F.wants0 62 rfl (by kernel_rfl) rfl) rfl rfl ?_; clear F a; intro a F
    refine still_skip F (F.wants0 62 rfl (by kernel_rfl) rfl) rfl rfl ?_; clear F a; intro a F
    refine still_skip F (F.wants0 62 rfl (by kernel_rfl) rfl) rfl rfl ?_; clear F a; intro a F
    refine still_skip F (F.wants0 62 rfl (by kernel_rfl) rfl) rfl rfl ?_; clear F a; intro a F
    refine still_skip F (F.wants 55 false rfl (by kernel_rfl) rfl false rfl) rfl rfl ?_; clear F a; intro a F
    refine still_end ?_
    refine list_val F (wn rfl) rfl rfl (.bool false) (ex_pick_f _ _ _ rfl (F.e rfl) _ rfl) ?_; clear F a; intro a F
    refine wpList_nil ?_
    replace F : Fr 70 a [(0, .slice (some ad) xs.length c), (2, .int .i64 0), (3, .int .i64 ((i : Nat) : Int)), (7, .bool true), (23, .bool false), (38, .bool false), (69, .bool false)] := F.keep ⟨rfl, rfl, rfl, rfl, rfl, rfl, rfl, trivial⟩
    refine then_n ?_
    refine wp_cond_false (F.e rfl) ?_
    refine wp_skip ?_
    refine in_n ?_
    refine then_n ?_
    refine wp_region_lit ?_
    refine list_val F (wn rfl) rfl rfl (.int .i64 ((i : Nat) : Int)) (ex_move _ rfl _ (F.e rfl)) ?_; clear F a; intro a F
    refine list_val F (wn rfl) rfl rfl (.int .i64 ((i + 1 : Nat) : Int)) (ex_bin .add _ _ _ _ rfl .i64 _ _ (F.e rfl) rfl _ (b_add ((w_i64 (by omega) (by omega)).trans (by omega)))) ?_; clear F a; intro a F
    refine list_val F (wn rfl) rfl rfl (.int .i64 ((i + 1 : Nat) : Int)) (ex_assign _ rfl _ (F.e rfl)) ?_; clear F a; intro a F
    refine wpList_nil ?_
    refine then_n ?_
    exact ⟨xs.length - (i + 1), by omega, (i + 1), F.keep ⟨rfl, rfl, rfl, trivial⟩, (by refine M.pick' [] _ ?_ (by decide); exact trivial), (by omega), (fun j hj => (Nat.lt_or_eq_of_le (Nat.le_of_lt_succ hj)).elim (fun h_ => hok j h_) (fun h_ => by subst h_; exact hoki)), (by omega)⟩
   refine wp_region_lit ?_
   refine list_val F (wn rfl) rfl rfl (.slice (some ad) xs.length c) (ex_move _ rfl _ (F.e rfl)) ?_; clear F a; intro a F
   refine list_val F (wn rfl) rfl rfl (.int .i64 ((i : Nat) : Int)) (ex_move _ rfl _ (F.e rfl)) ?_; clear F a; intro a F
   refine list_val F (wn rfl) rfl rfl (.pointer (some (ad.add (i * 19)))) (ex_ix _ _ _ rfl 19 s1_sl_57_19 ad _ _ (F.e rfl) .i64 _ (F.e rfl) i rfl (by omega) (ad.add (i * 19)) rfl) ?_; clear F a; intro a F
   refine list_val F (wn rfl) rfl rfl (.pointer (some (ad.add (i * 19)))) (ex_fa _ _ _ rfl _ (F.e rfl) 0 s1_fa_85_0_0 (ad.add (i * 19)) rfl) ?_; clear F a; intro a F
   refine list_val F (wn rfl) rfl rfl (.bool true) (ex_load _ _ rfl _ (F.e rfl) _ (lv1 s1_one_4 ((z.below M.bel).cell 0 _ (Rv.cs_0e hw)))) ?_; clear F a; intro a F
   refine list_val F (wn rfl) rfl rfl (.bool true) (ex_move _ rfl _ (F.e rfl)) ?_; clear F a; intro a F
   refine list_val F (F.wants 15 true rfl (by kernel_rfl) rfl true rfl) rfl rfl (.slice (some ad) xs.length c) (ex_move _ rfl _ (F.e rfl)) ?_; clear F a; intro a F
   refine list_val F (F.wants 15 true rfl (by kernel_rfl) rfl true rfl) rfl rfl (.int .i64 ((i : Nat) : Int)) (ex_move _ rfl _ (F.e rfl)) ?_; clear F a; intro a F
   refine list_val F (F.wants 15 true rfl (by kernel_rfl) rfl true rfl) rfl rfl (.pointer (some (ad.add (i * 19)))) (ex_ix _ _ _ rfl 19 s1_sl_57_19 ad _ _ (F.e rfl) .i64 _ (F.e rfl) i rfl (by omega) (ad.add (i * 19)) rfl) ?_; clear F a; intro a F
   refine list_val F (F.wants 15 true rfl (by kernel_rfl) rfl true rfl) rfl rfl (.pointer (some ((ad.add (i * 19)).add 2))) (ex_fa _ _ _ rfl _ (F.e rfl) 2 s1_fa_85_2_2 ((ad.add (i * 19)).add 2) rfl) ?_; clear F a; intro a F
   refine list_val F (F.wants 15 true rfl (by kernel_rfl) rfl true rfl) rfl rfl (.agg x.id.cs.toArray) (ex_load _ _ rfl _ (F.e rfl) _ (lrow69 x.id (Rv.id_at ((z.below M.bel))))) ?_; clear F a; intro a F
   refine list_val F (F.wants 15 true rfl (by kernel_rfl) rfl true rfl) rfl rfl (.agg ((zBs 16).cs.toArray)) (ex_build69 rfl) ?_; clear F a; intro a F
   refine list_val F (F.wants 15 true rfl (by kernel_rfl) rfl true rfl) rfl rfl (.bool true) (ex_ne69 _ _ _ rfl x.id (zBs 16) (F.e rfl) (F.e rfl) true (by simp [hz])) ?_; clear F a; intro a F
   refine list_val F (wn rfl) rfl rfl (.bool true) (ex_pick_t _ _ _ rfl (F.e rfl) _ (F.e rfl)) ?_; clear F a; intro a F
   refine wpList_nil ?_
   refine then_n ?_
   refine wp_cond_true (F.e rfl) ?_
   refine wp_seq ?_
   refine wp_region_lit ?_
   refine list_val F (wn rfl) rfl rfl (.int .i64 140) (ex_assign _ rfl _ rfl) ?_; clear F a; intro a F
   refine wpList_nil ?_
   refine then_n ?_
   refine wp_ret ?_
   refine then_r ?_
   refine in_r ?_
   refine then_r ?_
   refine then_r ?_
   refine in_r ?_
   refine then_r ?_
   exact ret_tmp F rfl rfl ⟨by rw [chN_zero hx hw hz], M.bel⟩
  have hz0 : x.whole = true → x.id = zBs 16 := fun h_ => absurd h_ hw
  refine wp_region_lit ?_
  refine list_val F (wn rfl) rfl rfl (.slice (some ad) xs.length c) (ex_move _ rfl _ (F.e rfl)) ?_; clear F a; intro a F
  refine list_val F (wn rfl) rfl rfl (.int .i64 ((i : Nat) : Int)) (ex_move _ rfl _ (F.e rfl)) ?_; clear F a; intro a F
  refine list_val F (wn rfl) rfl rfl (.pointer (some (ad.add (i * 19)))) (ex_ix _ _ _ rfl 19 s1_sl_57_19 ad _ _ (F.e rfl) .i64 _ (F.e rfl) i rfl (by omega) (ad.add (i * 19)) rfl) ?_; clear F a; intro a F
  refine list_val F (wn rfl) rfl rfl (.pointer (some (ad.add (i * 19)))) (ex_fa _ _ _ rfl _ (F.e rfl) 0 s1_fa_85_0_0 (ad.add (i * 19)) rfl) ?_; clear F a; intro a F
  refine list_val F (wn rfl) rfl rfl (.bool false) (ex_load _ _ rfl _ (F.e rfl) _ (lv1 s1_one_4 ((z.below M.bel).cell 0 _ (Rv.cs_0e (Bool.eq_false_iff.2 hw))))) ?_; clear F a; intro a F
  refine list_val F (wn rfl) rfl rfl (.bool false) (ex_move _ rfl _ (F.e rfl)) ?_; clear F a; intro a F
  refine list_skip F (F.wants 15 false rfl (by kernel_rfl) rfl false rfl) rfl rfl ?_; clear F a; intro a F
  refine list_skip F (F.wants 15 false rfl (by kernel_rfl) rfl false rfl) rfl rfl ?_; clear F a; intro a F
  refine list_skip F (F.wants 15 false rfl (by kernel_rfl) rfl false rfl) rfl rfl ?_; clear F a; intro a F
  refine list_skip F (F.wants 15 false rfl (by kernel_rfl) rfl false rfl) rfl rfl ?_; clear F a; intro a F
  refine list_skip F (F.wants 15 false rfl (by kernel_rfl) rfl false rfl) rfl rfl ?_; clear F a; intro a F
  refine list_skip F (F.wants 15 false rfl (by kernel_rfl) rfl false rfl) rfl rfl ?_; clear F a; intro a F
  refine list_skip F (F.wants 15 false rfl (by kernel_rfl) rfl false rfl) rfl rfl ?_; clear F a; intro a F
  refine list_val F (wn rfl) rfl rfl (.bool false) (ex_pick_f _ _ _ rfl (F.e rfl) _ rfl) ?_; clear F a; intro a F
  refine wpList_nil ?_
  refine then_n ?_
  refine wp_cond_false (F.e rfl) ?_
  refine wp_skip ?_
  refine then_n ?_
  refine wp_seq ?_
  refine wp_seq ?_
  by_cases hi0 : 0 < i
  ·
   obtain ⟨y, hy⟩ : ∃ y, xs[i - 1]? = some y := ⟨_, List.getElem?_eq_getElem (by omega)⟩
   obtain ⟨_, had, zy⟩ := C_ix hr hy
   obtain rfl := Option.some.inj had
   clear had
   by_cases hlt : key y < key x
   ·
    refine region_tail 12 s1_follows_mixedOrders (by kernel_rfl) M ?_; clear M; intro u M hb
    clear hb; try clear v
    refine still_val F (wn rfl) rfl rfl (.int .i64 ((i : Nat) : Int)) (ex_move _ rfl _ (F.e rfl)) ?_; clear F a; intro a F
    refine still_val F (wn rfl) rfl rfl (.bool true) (ex_bin .gtr _ _ _ _ rfl .i64 _ _ (F.e rfl) rfl _ (b_gtr (decide_eq_true (by omega)))) ?_; clear F a; intro a F
    refine still_val F (wn rfl) rfl rfl (.bool true) (ex_move _ rfl _ (F.e rfl)) ?_; clear F a; intro a F
    refine still_val F (F.wants 26 true rfl (by kernel_rfl) rfl true rfl) rfl rfl (.slice (some ad) xs.length c) (ex_move _ rfl _ (F.e rfl)) ?_; clear F a; intro a F
    refine still_val F (F.wants 26 true rfl (by kernel_rfl) rfl true rfl) rfl rfl (.int .i64 ((i : Nat) : Int)) (ex_move _ rfl _ (F.e rfl)) ?_; clear F a; intro a F
    refine still_val F (F.wants 26 true rfl (by kernel_rfl) rfl true rfl) rfl rfl (.int .i64 ((i - 1 : Nat) : Int)) (ex_bin .sub _ _ _ _ rfl .i64 _ _ (F.e rfl) rfl _ (b_sub ((w_i64 (by omega) (by omega)).trans (by omega)))) ?_; clear F a; intro a F
    refine still_val F (F.wants 26 true rfl (by kernel_rfl) rfl true rfl) rfl rfl (.pointer (some (ad.add ((i - 1) * 19)))) (ex_ix _ _ _ rfl 19 s1_sl_57_19 ad _ _ (F.e rfl) .i64 _ (F.e rfl) (i - 1) rfl (by omega) (ad.add ((i - 1) * 19)) rfl) ?_; clear F a; intro a F
    refine still_val F (F.wants 26 true rfl (by kernel_rfl) rfl true rfl) rfl rfl (.agg y.arr) (ex_load _ _ rfl _ (F.e rfl) _ (lrow85 y ((zy.below M.bel)))) ?_; clear F a; intro a F
    refine still_val F (F.wants 26 true rfl (by kernel_rfl) rfl true rfl) rfl rfl (.slice (some ad) xs.length c) (ex_move _ rfl _ (F.e rfl)) ?_; clear F a; intro a F
    refine still_val F (F.wants 26 true rfl (by kernel_rfl) rfl true rfl) rfl rfl (.int .i64 ((i : Nat) : Int)) (ex_move _ rfl _ (F.e rfl)) ?_; clear F a; intro a F
    refine still_val F (F.wants 26 true rfl (by kernel_rfl) rfl true rfl) rfl rfl (.pointer (some (ad.add (i * 19)))) (ex_ix _ _ _ rfl 19 s1_sl_57_19 ad _ _ (F.e rfl) .i64 _ (F.e rfl) i rfl (by omega) (ad.add (i * 19)) rfl) ?_; clear F a; intro a F
    refine still_val F (F.wants 26 true rfl (by kernel_rfl) rfl true rfl) rfl rfl (.agg x.arr) (ex_load _ _ rfl _ (F.e rfl) _ (lrow85 x ((z.below M.bel)))) ?_; clear F a; intro a F
    refine still_end ?_
    refine list_do (F.wants 26 true rfl (by kernel_rfl) rfl true rfl) (fun K hK => ?_)
    refine ow_call rfl rfl F 32 #[.agg y.arr, .agg x.arr] (ex_call 32 _ _ rfl rfl s1_ent_32 _ (map2 (F.e rfl) (F.e rfl))) (ahead_any y x _) (fun e v hR => ?_)
    obtain ⟨he, hb⟩ := hR
    rw [decide_eq_true hlt] at he
    refine ⟨.bool true, he, ?_⟩; clear he F a; intro a F
    refine hK _ _ ?_
    clear hK K
    replace M := M.below hb; clear hb; try clear u
    refine list_val F (F.wants 26 true rfl (by kernel_rfl) rfl true rfl) rfl rfl (.bool false) (ex_not _ _ rfl _ (F.e rfl) _ rfl) ?_; clear F a; intro a F
    refine list_val F (wn rfl) rfl rfl (.bool false) (ex_pick_t _ _ _ rfl (F.e rfl) _ (F.e rfl)) ?_; clear F a; intro a F
    refine wpList_nil ?_
    refine then_n ?_
    refine wp_cond_false (F.e rfl) ?_
    refine wp_skip ?_
    refine then_n ?_
    refine wp_seq ?_
    by_cases hgr : y.grant = x.grant
    ·
     by_cases hyw : y.whole = true
     ·
      refine region_tail 30 s1_follows_mixedOrders (by kernel_rfl) M ?_; clear M; intro u M hb
      clear hb; try clear v
      refine still_val F (wn rfl) rfl rfl (.int .i64 ((i : Nat) : Int)) (ex_move _ rfl _ (F.e rfl)) ?_; clear F a; intro a F
      refine still_val F (wn rfl) rfl rfl (.bool true) (ex_bin .gtr _ _ _ _ rfl .i64 _ _ (F.e rfl) rfl _ (b_gtr (decide_eq_true (by omega)))) ?_; clear F a; intro a F
      refine still_val F (wn rfl) rfl rfl (.bool true) (ex_move _ rfl _ (F.e rfl)) ?_; clear F a; intro a F
      refine still_val F (F.wants 41 true rfl (by kernel_rfl) rfl true rfl) rfl rfl (.slice (some ad) xs.length c) (ex_move _ rfl _ (F.e rfl)) ?_; clear F a; intro a F
      refine still_val F (F.wants 41 true rfl (by kernel_rfl) rfl true rfl) rfl rfl (.int .i64 ((i : Nat) : Int)) (ex_move _ rfl _ (F.e rfl)) ?_; clear F a; intro a F
      refine still_val F (F.wants 41 true rfl (by kernel_rfl) rfl true rfl) rfl rfl (.int .i64 ((i - 1 : Nat) : Int)) (ex_bin .sub _ _ _ _ rfl .i64 _ _ (F.e rfl) rfl _ (b_sub ((w_i64 (by omega) (by omega)).trans (by omega)))) ?_; clear F a; intro a F
      refine still_val F (F.wants 41 true rfl (by kernel_rfl) rfl true rfl) rfl rfl (.pointer (some (ad.add ((i - 1) * 19)))) (ex_ix _ _ _ rfl 19 s1_sl_57_19 ad _ _ (F.e rfl) .i64 _ (F.e rfl) (i - 1) rfl (by omega) (ad.add ((i - 1) * 19)) rfl) ?_; clear F a; intro a F
      refine still_val F (F.wants 41 true rfl (by kernel_rfl) rfl true rfl) rfl rfl (.pointer (some ((ad.add ((i - 1) * 19)).add 1))) (ex_fa _ _ _ rfl _ (F.e rfl) 1 s1_fa_85_1_1 ((ad.add ((i - 1) * 19)).add 1) rfl) ?_; clear F a; intro a F
      refine still_val F (F.wants 41 true rfl (by kernel_rfl) rfl true rfl) rfl rfl (.int .u64 y.grant) (ex_load _ _ rfl _ (F.e rfl) _ (lv1 s1_one_67 ((zy.below M.bel).cell 1 _ (Rv.cs_1 _)))) ?_; clear F a; intro a F
      refine still_val F (F.wants 41 true rfl (by kernel_rfl) rfl true rfl) rfl rfl (.slice (some ad) xs.length c) (ex_move _ rfl _ (F.e rfl)) ?_; clear F a; intro a F
      refine still_val F (F.wants 41 true rfl (by kernel_rfl) rfl true rfl) rfl rfl (.int .i64 ((i : Nat) : Int)) (ex_move _ rfl _ (F.e rfl)) ?_; clear F a; intro a F
      refine still_val F (F.wants 41 true rfl (by kernel_rfl) rfl true rfl) rfl rfl (.pointer (some (ad.add (i * 19)))) (ex_ix _ _ _ rfl 19 s1_sl_57_19 ad _ _ (F.e rfl) .i64 _ (F.e rfl) i rfl (by omega) (ad.add (i * 19)) rfl) ?_; clear F a; intro a F
      refine still_val F (F.wants 41 true rfl (by kernel_rfl) rfl true rfl) rfl rfl (.pointer (some ((ad.add (i * 19)).add 1))) (ex_fa _ _ _ rfl _ (F.e rfl) 1 s1_fa_85_1_1 ((ad.add (i * 19)).add 1) rfl) ?_; clear F a; intro a F
      refine still_val F (F.wants 41 true rfl (by kernel_rfl) rfl true rfl) rfl rfl (.int .u64 x.grant) (ex_load _ _ rfl _ (F.e rfl) _ (lv1 s1_one_67 ((z.below M.bel).cell 1 _ (Rv.cs_1 _)))) ?_; clear F a; intro a F
      refine still_val F (F.wants 41 true rfl (by kernel_rfl) rfl true rfl) rfl rfl (.bool true) (ex_bin .eql _ _ _ _ rfl .u64 _ _ (F.e rfl) (F.e rfl) _ (b_eql (by simp [hgr]))) ?_; clear F a; intro a F
      refine still_val F (wn rfl) rfl rfl (.bool true) (ex_pick_t _ _ _ rfl (F.e rfl) _ (F.e rfl)) ?_; clear F a; intro a F
      refine still_val F (wn rfl) rfl rfl (.bool true) (ex_move _ rfl _ (F.e rfl)) ?_; clear F a; intro a F
      refine still_val F (F.wants 55 true rfl (by kernel_rfl) rfl true rfl) rfl rfl (.slice (some ad) xs.length c) (ex_move _ rfl _ (F.e rfl)) ?_; clear F a; intro a F
      refine still_val F (F.wants 55 true rfl (by kernel_rfl) rfl true rfl) rfl rfl (.int .i64 ((i : Nat) : Int)) (ex_move _ rfl _ (F.e rfl)) ?_; clear F a; intro a F
      refine still_val F (F.wants 55 true rfl (by kernel_rfl) rfl true rfl) rfl rfl (.int .i64 ((i - 1 : Nat) : Int)) (ex_bin .sub _ _ _ _ rfl .i64 _ _ (F.e rfl) rfl _ (b_sub ((w_i64 (by omega) (by omega)).trans (by omega)))) ?_; clear F a; intro a F
      refine still_val F (F.wants 55 true rfl (by kernel_rfl) rfl true rfl) rfl rfl (.pointer (some (ad.add ((i - 1) * 19)))) (ex_ix _ _ _ rfl 19 s1_sl_57_19 ad _ _ (F.e rfl) .i64 _ (F.e rfl) (i - 1) rfl (by omega) (ad.add ((i - 1) * 19)) rfl) ?_; clear F a; intro a F
      refine still_val F (F.wants 55 true rfl (by kernel_rfl) rfl true rfl) rfl rfl (.pointer (some (ad.add ((i - 1) * 19)))) (ex_fa _ _ _ rfl _ (F.e rfl) 0 s1_fa_85_0_0 (ad.add ((i - 1) * 19)) rfl) ?_; clear F a; intro a F
      refine still_val F (F.wants 55 true rfl (by kernel_rfl) rfl true rfl) rfl rfl (.bool true) (ex_load _ _ rfl _ (F.e rfl) _ (lv1 s1_one_4 ((zy.below M.bel).cell 0 _ (Rv.cs_0e hyw)))) ?_; clear F a; intro a F
      refine still_val F (F.wants 55 true rfl (by kernel_rfl) rfl true rfl) rfl rfl (.bool true) (ex_move _ rfl _ (F.e rfl)) ?_; clear F a; intro a F
      refine still_skip F (F.wants 62 true rfl (by kernel_rfl) rfl false rfl) rfl rfl ?_; clear F a; intro a F
      refine still_skip F (F.wants 62 true rfl (by kernel_rfl) rfl false rfl) rfl rfl ?_; clear F a; intro a F
      refine still_skip F (F.wants 62 true rfl (by kernel_rfl) rfl false rfl) rfl rfl ?_; clear F a; intro a F
      refine still_skip F (F.wants 62 true rfl (by kernel_rfl) rfl false rfl) rfl rfl ?_; clear F a; intro a F
      refine still_skip F (F.wants 62 true rfl (by kernel_rfl) rfl false rfl) rfl rfl ?_; clear F a; intro a F
      refine still_val F (F.wants 55 true rfl (by kernel_rfl) rfl true rfl) rfl rfl (.bool true) (ex_pick_t _ _ _ rfl (F.e rfl) _ rfl) ?_; clear F a; intro a F
      refine still_end ?_
      refine list_val F (wn rfl) rfl rfl (.bool true) (ex_pick_t _ _ _ rfl (F.e rfl) _ (F.e rfl)) ?_; clear F a; intro a F
      refine wpList_nil ?_
      replace F : Fr 70 a [(0, .slice (some ad) xs.length c), (2, .int .i64 0), (3, .int .i64 ((i : Nat) : Int)), (7, .bool true), (23, .bool false), (38, .bool false), (69, .bool true)] := F.keep ⟨rfl, rfl, rfl, rfl, rfl, rfl, rfl, trivial⟩
      refine then_n ?_
      refine wp_cond_true (F.e rfl) ?_
      refine wp_seq ?_
      refine wp_region_lit ?_
      refine list_val F (wn rfl) rfl rfl (.int .i64 140) (ex_assign _ rfl _ rfl) ?_; clear F a; intro a F
      refine wpList_nil ?_
      refine then_n ?_
      refine wp_ret ?_
      refine in_r ?_
      refine then_r ?_
      refine then_r ?_
      refine in_r ?_
      refine then_r ?_
      exact ret_tmp F rfl rfl ⟨by rw [chN_rise hx hi0 hy (fun h_ => by rw [(h_.2 hgr).1] at hyw; exact absurd hyw (by decide))], M.bel⟩
     have hoki : OkAt xs i := fun x2 hx2 => by
       obtain rfl := Option.some.inj (hx.symm.trans hx2)
       refine ⟨hz0, fun y2 h2 hy2 => ?_⟩
       obtain rfl := Option.some.inj (hy.symm.trans hy2)
       exact ⟨hlt, fun _ => ⟨Bool.eq_false_iff.2 hyw, Bool.eq_false_iff.2 hw⟩⟩
     refine region_tail 30 s1_follows_mixedOrders (by kernel_rfl) M ?_; clear M; intro u M hb
     clear hb; try clear v
     refine still_val F (wn rfl) rfl rfl (.int .i64 ((i : Nat) : Int)) (ex_move _ rfl _ (F.e rfl)) ?_; clear F a; intro a F
     refine still_val F (wn rfl) rfl rfl (.bool true) (ex_bin .gtr _ _ _ _ rfl .i64 _ _ (F.e rfl) rfl _ (b_gtr (decide_eq_true (by omega)))) ?_; clear F a; intro a F
     refine still_val F (wn rfl) rfl rfl (.bool true) (ex_move _ rfl _ (F.e rfl)) ?_; clear F a; intro a F
     refine still_val F (F.wants 41 true rfl (by kernel_rfl) rfl true rfl) rfl rfl (.slice (some ad) xs.length c) (ex_move _ rfl _ (F.e rfl)) ?_; clear F a; intro a F
     refine still_val F (F.wants 41 true rfl (by kernel_rfl) rfl true rfl) rfl rfl (.int .i64 ((i : Nat) : Int)) (ex_move _ rfl _ (F.e rfl)) ?_; clear F a; intro a F
     refine still_val F (F.wants 41 true rfl (by kernel_rfl) rfl true rfl) rfl rfl (.int .i64 ((i - 1 : Nat) : Int)) (ex_bin .sub _ _ _ _ rfl .i64 _ _ (F.e rfl) rfl _ (b_sub ((w_i64 (by omega) (by omega)).trans (by omega)))) ?_; clear F a; intro a F
     refine still_val F (F.wants 41 true rfl (by kernel_rfl) rfl true rfl) rfl rfl (.pointer (some (ad.add ((i - 1) * 19)))) (ex_ix _ _ _ rfl 19 s1_sl_57_19 ad _ _ (F.e rfl) .i64 _ (F.e rfl) (i - 1) rfl (by omega) (ad.add ((i - 1) * 19)) rfl) ?_; clear F a; intro a F
     refine still_val F (F.wants 41 true rfl (by kernel_rfl) rfl true rfl) rfl rfl (.pointer (some ((ad.add ((i - 1) * 19)).add 1))) (ex_fa _ _ _ rfl _ (F.e rfl) 1 s1_fa_85_1_1 ((ad.add ((i - 1) * 19)).add 1) rfl) ?_; clear F a; intro a F
     refine still_val F (F.wants 41 true rfl (by kernel_rfl) rfl true rfl) rfl rfl (.int .u64 y.grant) (ex_load _ _ rfl _ (F.e rfl) _ (lv1 s1_one_67 ((zy.below M.bel).cell 1 _ (Rv.cs_1 _)))) ?_; clear F a; intro a F
     refine still_val F (F.wants 41 true rfl (by kernel_rfl) rfl true rfl) rfl rfl (.slice (some ad) xs.length c) (ex_move _ rfl _ (F.e rfl)) ?_; clear F a; intro a F
     refine still_val F (F.wants 41 true rfl (by kernel_rfl) rfl true rfl) rfl rfl (.int .i64 ((i : Nat) : Int)) (ex_move _ rfl _ (F.e rfl)) ?_; clear F a; intro a F
     refine still_val F (F.wants 41 true rfl (by kernel_rfl) rfl true rfl) rfl rfl (.pointer (some (ad.add (i * 19)))) (ex_ix _ _ _ rfl 19 s1_sl_57_19 ad _ _ (F.e rfl) .i64 _ (F.e rfl) i rfl (by omega) (ad.add (i * 19)) rfl) ?_; clear F a; intro a F
     refine still_val F (F.wants 41 true rfl (by kernel_rfl) rfl true rfl) rfl rfl (.pointer (some ((ad.add (i * 19)).add 1))) (ex_fa _ _ _ rfl _ (F.e rfl) 1 s1_fa_85_1_1 ((ad.add (i * 19)).add 1) rfl) ?_; clear F a; intro a F
     refine still_val F (F.wants 41 true rfl (by kernel_rfl) rfl true rfl) rfl rfl (.int .u64 x.grant) (ex_load _ _ rfl _ (F.e rfl) _ (lv1 s1_one_67 ((z.below M.bel).cell 1 _ (Rv.cs_1 _)))) ?_; clear F a; intro a F
     refine still_val F (F.wants 41 true rfl (by kernel_rfl) rfl true rfl) rfl rfl (.bool true) (ex_bin .eql _ _ _ _ rfl .u64 _ _ (F.e rfl) (F.e rfl) _ (b_eql (by simp [hgr]))) ?_; clear F a; intro a F
     refine still_val F (wn rfl) rfl rfl (.bool true) (ex_pick_t _ _ _ rfl (F.e rfl) _ (F.e rfl)) ?_; clear F a; intro a F
     refine still_val F (wn rfl) rfl rfl (.bool true) (ex_move _ rfl _ (F.e rfl)) ?_; clear F a; intro a F
     refine still_val F (F.wants 55 true rfl (by kernel_rfl) rfl true rfl) rfl rfl (.slice (some ad) xs.length c) (ex_move _ rfl _ (F.e rfl)) ?_; clear F a; intro a F
     refine still_val F (F.wants 55 true rfl (by kernel_rfl) rfl true rfl) rfl rfl (.int .i64 ((i : Nat) : Int)) (ex_move _ rfl _ (F.e rfl)) ?_; clear F a; intro a F
     refine still_val F (F.wants 55 true rfl (by kernel_rfl) rfl true rfl) rfl rfl (.int .i64 ((i - 1 : Nat) : Int)) (ex_bin .sub _ _ _ _ rfl .i64 _ _ (F.e rfl) rfl _ (b_sub ((w_i64 (by omega) (by omega)).trans (by omega)))) ?_; clear F a; intro a F
     refine still_val F (F.wants 55 true rfl (by kernel_rfl) rfl true rfl) rfl rfl (.pointer (some (ad.add ((i - 1) * 19)))) (ex_ix _ _ _ rfl 19 s1_sl_57_19 ad _ _ (F.e rfl) .i64 _ (F.e rfl) (i - 1) rfl (by omega) (ad.add ((i - 1) * 19)) rfl) ?_; clear F a; intro a F
     refine still_val F (F.wants 55 true rfl (by kernel_rfl) rfl true rfl) rfl rfl (.pointer (some (ad.add ((i - 1) * 19)))) (ex_fa _ _ _ rfl _ (F.e rfl) 0 s1_fa_85_0_0 (ad.add ((i - 1) * 19)) rfl) ?_; clear F a; intro a F
     refine still_val F (F.wants 55 true rfl (by kernel_rfl) rfl true rfl) rfl rfl (.bool false) (ex_load _ _ rfl _ (F.e rfl) _ (lv1 s1_one_4 ((zy.below M.bel).cell 0 _ (Rv.cs_0e (Bool.eq_false_iff.2 hyw))))) ?_; clear F a; intro a F
     refine still_val F (F.wants 55 true rfl (by kernel_rfl) rfl true rfl) rfl rfl (.bool false) (ex_move _ rfl _ (F.e rfl)) ?_; clear F a; intro a F
     refine still_val F (F.wants 62 false rfl (by kernel_rfl) rfl true rfl) rfl rfl (.slice (some ad) xs.length c) (ex_move _ rfl _ (F.e rfl)) ?_; clear F a; intro a F
     refine still_val F (F.wants 62 false rfl (by kernel_rfl) rfl true rfl) rfl rfl (.int .i64 ((i : Nat) : Int)) (ex_move _ rfl _ (F.e rfl)) ?_; clear F a; intro a F
     refine still_val F (F.wants 62 false rfl (by kernel_rfl) rfl true rfl) rfl rfl (.pointer (some (ad.add (i * 19)))) (ex_ix _ _ _ rfl 19 s1_sl_57_19 ad _ _ (F.e rfl) .i64 _ (F.e rfl) i rfl (by omega) (ad.add (i * 19)) rfl) ?_; clear F a; intro a F
     refine still_val F (F.wants 62 false rfl (by kernel_rfl) rfl true rfl) rfl rfl (.pointer (some (ad.add (i * 19)))) (ex_fa _ _ _ rfl _ (F.e rfl) 0 s1_fa_85_0_0 (ad.add (i * 19)) rfl) ?_; clear F a; intro a F
     refine still_val F (F.wants 62 false rfl (by kernel_rfl) rfl true rfl) rfl rfl (.bool false) (ex_load _ _ rfl _ (F.e rfl) _ (lv1 s1_one_4 ((z.below M.bel).cell 0 _ (Rv.cs_0e (Bool.eq_false_iff.2 hw))))) ?_; clear F a; intro a F
     refine still_val F (F.wants 55 true rfl (by kernel_rfl) rfl true rfl) rfl rfl (.bool false) (ex_pick_f _ _ _ rfl (F.e rfl) _ (F.e rfl)) ?_; clear F a; intro a F
     refine still_end ?_
     refine list_val F (wn rfl) rfl rfl (.bool false) (ex_pick_t _ _ _ rfl (F.e rfl) _ (F.e rfl)) ?_; clear F a; intro a F
     refine wpList_nil ?_
     refine then_n ?_
     refine wp_cond_false (F.e rfl) ?_
     refine wp_skip ?_
     refine in_n ?_
     refine then_n ?_
     refine wp_region_lit ?_
     refine list_val F (wn rfl) rfl rfl (.int .i64 ((i : Nat) : Int)) (ex_move _ rfl _ (F.e rfl)) ?_; clear F a; intro a F
     refine list_val F (wn rfl) rfl rfl (.int .i64 ((i + 1 : Nat) : Int)) (ex_bin .add _ _ _ _ rfl .i64 _ _ (F.e rfl) rfl _ (b_add ((w_i64 (by omega) (by omega)).trans (by omega)))) ?_; clear F a; intro a F
     refine list_val F (wn rfl) rfl rfl (.int .i64 ((i + 1 : Nat) : Int)) (ex_assign _ rfl _ (F.e rfl)) ?_; clear F a; intro a F
     refine wpList_nil ?_
     refine then_n ?_
     exact ⟨xs.length - (i + 1), by omega, (i + 1), F.keep ⟨rfl, rfl, rfl, trivial⟩, (by refine M.pick' [] _ ?_ (by decide); exact trivial), (by omega), (fun j hj => (Nat.lt_or_eq_of_le (Nat.le_of_lt_succ hj)).elim (fun h_ => hok j h_) (fun h_ => by subst h_; exact hoki)), (by omega)⟩
    have hoki : OkAt xs i := fun x2 hx2 => by
      obtain rfl := Option.some.inj (hx.symm.trans hx2)
      refine ⟨hz0, fun y2 h2 hy2 => ?_⟩
      obtain rfl := Option.some.inj (hy.symm.trans hy2)
      exact ⟨hlt, fun h_ => absurd h_ hgr⟩
    refine region_tail 30 s1_follows_mixedOrders (by kernel_rfl) M ?_; clear M; intro u M hb
    clear hb; try clear v
    refine still_val F (wn rfl) rfl rfl (.int .i64 ((i : Nat) : Int)) (ex_move _ rfl _ (F.e rfl)) ?_; clear F a; intro a F
    refine still_val F (wn rfl) rfl rfl (.bool true) (ex_bin .gtr _ _ _ _ rfl .i64 _ _ (F.e rfl) rfl _ (b_gtr (decide_eq_true (by omega)))) ?_; clear F a; intro a F
    refine still_val F (wn rfl) rfl rfl (.bool true) (ex_move _ rfl _ (F.e rfl)) ?_; clear F a; intro a F
    refine still_val F (F.wants 41 true rfl (by kernel_rfl) rfl true rfl) rfl rfl (.slice (some ad) xs.length c) (ex_move _ rfl _ (F.e rfl)) ?_; clear F a; intro a F
    refine still_val F (F.wants 41 true rfl (by kernel_rfl) rfl true rfl) rfl rfl (.int .i64 ((i : Nat) : Int)) (ex_move _ rfl _ (F.e rfl)) ?_; clear F a; intro a F
    refine still_val F (F.wants 41 true rfl (by kernel_rfl) rfl true rfl) rfl rfl (.int .i64 ((i - 1 : Nat) : Int)) (ex_bin .sub _ _ _ _ rfl .i64 _ _ (F.e rfl) rfl _ (b_sub ((w_i64 (by omega) (by omega)).trans (by omega)))) ?_; clear F a; intro a F
    refine still_val F (F.wants 41 true rfl (by kernel_rfl) rfl true rfl) rfl rfl (.pointer (some (ad.add ((i - 1) * 19)))) (ex_ix _ _ _ rfl 19 s1_sl_57_19 ad _ _ (F.e rfl) .i64 _ (F.e rfl) (i - 1) rfl (by omega) (ad.add ((i - 1) * 19)) rfl) ?_; clear F a; intro a F
    refine still_val F (F.wants 41 true rfl (by kernel_rfl) rfl true rfl) rfl rfl (.pointer (some ((ad.add ((i - 1) * 19)).add 1))) (ex_fa _ _ _ rfl _ (F.e rfl) 1 s1_fa_85_1_1 ((ad.add ((i - 1) * 19)).add 1) rfl) ?_; clear F a; intro a F
    refine still_val F (F.wants 41 true rfl (by kernel_rfl) rfl true rfl) rfl rfl (.int .u64 y.grant) (ex_load _ _ rfl _ (F.e rfl) _ (lv1 s1_one_67 ((zy.below M.bel).cell 1 _ (Rv.cs_1 _)))) ?_; clear F a; intro a F
    refine still_val F (F.wants 41 true rfl (by kernel_rfl) rfl true rfl) rfl rfl (.slice (some ad) xs.length c) (ex_move _ rfl _ (F.e rfl)) ?_; clear F a; intro a F
    refine still_val F (F.wants 41 true rfl (by kernel_rfl) rfl true rfl) rfl rfl (.int .i64 ((i : Nat) : Int)) (ex_move _ rfl _ (F.e rfl)) ?_; clear F a; intro a F
    refine still_val F (F.wants 41 true rfl (by kernel_rfl) rfl true rfl) rfl rfl (.pointer (some (ad.add (i * 19)))) (ex_ix _ _ _ rfl 19 s1_sl_57_19 ad _ _ (F.e rfl) .i64 _ (F.e rfl) i rfl (by omega) (ad.add (i * 19)) rfl) ?_; clear F a; intro a F
    refine still_val F (F.wants 41 true rfl (by kernel_rfl) rfl true rfl) rfl rfl (.pointer (some ((ad.add (i * 19)).add 1))) (ex_fa _ _ _ rfl _ (F.e rfl) 1 s1_fa_85_1_1 ((ad.add (i * 19)).add 1) rfl) ?_; clear F a; intro a F
    refine still_val F (F.wants 41 true rfl (by kernel_rfl) rfl true rfl) rfl rfl (.int .u64 x.grant) (ex_load _ _ rfl _ (F.e rfl) _ (lv1 s1_one_67 ((z.below M.bel).cell 1 _ (Rv.cs_1 _)))) ?_; clear F a; intro a F
    refine still_val F (F.wants 41 true rfl (by kernel_rfl) rfl true rfl) rfl rfl (.bool false) (ex_bin .eql _ _ _ _ rfl .u64 _ _ (F.e rfl) (F.e rfl) _ (b_eql (by simp [hgr]))) ?_; clear F a; intro a F
    refine still_val F (wn rfl) rfl rfl (.bool false) (ex_pick_t _ _ _ rfl (F.e rfl) _ (F.e rfl)) ?_; clear F a; intro a F
    refine still_val F (wn rfl) rfl rfl (.bool false) (ex_move _ rfl _ (F.e rfl)) ?_; clear F a; intro a F
    refine still_skip F (F.wants 55 false rfl (by kernel_rfl) rfl false rfl) rfl rfl ?_; clear F a; intro a F
    refine still_skip F (F.wants 55 false rfl (by kernel_rfl) rfl false rfl) rfl rfl ?_; clear F a; intro a F
    refine still_skip F (F.wants 55 false rfl (by kernel_rfl) rfl false rfl) rfl rfl ?_; clear F a; intro a F
    refine still_skip F (F.wants 55 false rfl (by kernel_rfl) rfl false rfl) rfl rfl ?_; clear F a; intro a F
    refine still_skip F (F.wants 55 false rfl (by kernel_rfl) rfl false rfl) rfl rfl ?_; clear F a; intro a F
    refine still_skip F (F.wants 55 false rfl (by kernel_rfl) rfl false rfl) rfl rfl ?_; clear F a; intro a F
    refine still_skip F (F.wants 55 false rfl (by kernel_rfl) rfl false rfl) rfl rfl ?_; clear F a; intro a F
    refine still_skip F (F.wants0 62 rfl (by kernel_rfl) rfl) rfl rfl ?_; clear F a; intro a F
    refine still_skip F (F.wants0 62 rfl (by kernel_rfl) rfl) rfl rfl ?_; clear F a; intro a F
    refine still_skip F (F.wants0 62 rfl (by kernel_rfl) rfl) rfl rfl ?_; clear F a; intro a F
    refine still_skip F (F.wants0 62 rfl (by kernel_rfl) rfl) rfl rfl ?_; clear F a; intro a F
    refine still_skip F (F.wants0 62 rfl (by kernel_rfl) rfl) rfl rfl ?_; clear F a; intro a F
    refine still_skip F (F.wants 55 false rfl (by kernel_rfl) rfl false rfl) rfl rfl ?_; clear F a; intro a F
    refine still_end ?_
    refine list_val F (wn rfl) rfl rfl (.bool false) (ex_pick_f _ _ _ rfl (F.e rfl) _ rfl) ?_; clear F a; intro a F
    refine wpList_nil ?_
    replace F : Fr 70 a [(0, .slice (some ad) xs.length c), (2, .int .i64 0), (3, .int .i64 ((i : Nat) : Int)), (7, .bool true), (23, .bool false), (38, .bool false), (69, .bool false)] := F.keep ⟨rfl, rfl, rfl, rfl, rfl, rfl, rfl, trivial⟩
    refine then_n ?_
    refine wp_cond_false (F.e rfl) ?_
    refine wp_skip ?_
    refine in_n ?_
    refine then_n ?_
    refine wp_region_lit ?_
    refine list_val F (wn rfl) rfl rfl (.int .i64 ((i : Nat) : Int)) (ex_move _ rfl _ (F.e rfl)) ?_; clear F a; intro a F
    refine list_val F (wn rfl) rfl rfl (.int .i64 ((i + 1 : Nat) : Int)) (ex_bin .add _ _ _ _ rfl .i64 _ _ (F.e rfl) rfl _ (b_add ((w_i64 (by omega) (by omega)).trans (by omega)))) ?_; clear F a; intro a F
    refine list_val F (wn rfl) rfl rfl (.int .i64 ((i + 1 : Nat) : Int)) (ex_assign _ rfl _ (F.e rfl)) ?_; clear F a; intro a F
    refine wpList_nil ?_
    refine then_n ?_
    exact ⟨xs.length - (i + 1), by omega, (i + 1), F.keep ⟨rfl, rfl, rfl, trivial⟩, (by refine M.pick' [] _ ?_ (by decide); exact trivial), (by omega), (fun j hj => (Nat.lt_or_eq_of_le (Nat.le_of_lt_succ hj)).elim (fun h_ => hok j h_) (fun h_ => by subst h_; exact hoki)), (by omega)⟩
   refine region_tail 12 s1_follows_mixedOrders (by kernel_rfl) M ?_; clear M; intro u M hb
   clear hb; try clear v
   refine still_val F (wn rfl) rfl rfl (.int .i64 ((i : Nat) : Int)) (ex_move _ rfl _ (F.e rfl)) ?_; clear F a; intro a F
   refine still_val F (wn rfl) rfl rfl (.bool true) (ex_bin .gtr _ _ _ _ rfl .i64 _ _ (F.e rfl) rfl _ (b_gtr (decide_eq_true (by omega)))) ?_; clear F a; intro a F
   refine still_val F (wn rfl) rfl rfl (.bool true) (ex_move _ rfl _ (F.e rfl)) ?_; clear F a; intro a F
   refine still_val F (F.wants 26 true rfl (by kernel_rfl) rfl true rfl) rfl rfl (.slice (some ad) xs.length c) (ex_move _ rfl _ (F.e rfl)) ?_; clear F a; intro a F
   refine still_val F (F.wants 26 true rfl (by kernel_rfl) rfl true rfl) rfl rfl (.int .i64 ((i : Nat) : Int)) (ex_move _ rfl _ (F.e rfl)) ?_; clear F a; intro a F
   refine still_val F (F.wants 26 true rfl (by kernel_rfl) rfl true rfl) rfl rfl (.int .i64 ((i - 1 : Nat) : Int)) (ex_bin .sub _ _ _ _ rfl .i64 _ _ (F.e rfl) rfl _ (b_sub ((w_i64 (by omega) (by omega)).trans (by omega)))) ?_; clear F a; intro a F
   refine still_val F (F.wants 26 true rfl (by kernel_rfl) rfl true rfl) rfl rfl (.pointer (some (ad.add ((i - 1) * 19)))) (ex_ix _ _ _ rfl 19 s1_sl_57_19 ad _ _ (F.e rfl) .i64 _ (F.e rfl) (i - 1) rfl (by omega) (ad.add ((i - 1) * 19)) rfl) ?_; clear F a; intro a F
   refine still_val F (F.wants 26 true rfl (by kernel_rfl) rfl true rfl) rfl rfl (.agg y.arr) (ex_load _ _ rfl _ (F.e rfl) _ (lrow85 y ((zy.below M.bel)))) ?_; clear F a; intro a F
   refine still_val F (F.wants 26 true rfl (by kernel_rfl) rfl true rfl) rfl rfl (.slice (some ad) xs.length c) (ex_move _ rfl _ (F.e rfl)) ?_; clear F a; intro a F
   refine still_val F (F.wants 26 true rfl (by kernel_rfl) rfl true rfl) rfl rfl (.int .i64 ((i : Nat) : Int)) (ex_move _ rfl _ (F.e rfl)) ?_; clear F a; intro a F
   refine still_val F (F.wants 26 true rfl (by kernel_rfl) rfl true rfl) rfl rfl (.pointer (some (ad.add (i * 19)))) (ex_ix _ _ _ rfl 19 s1_sl_57_19 ad _ _ (F.e rfl) .i64 _ (F.e rfl) i rfl (by omega) (ad.add (i * 19)) rfl) ?_; clear F a; intro a F
   refine still_val F (F.wants 26 true rfl (by kernel_rfl) rfl true rfl) rfl rfl (.agg x.arr) (ex_load _ _ rfl _ (F.e rfl) _ (lrow85 x ((z.below M.bel)))) ?_; clear F a; intro a F
   refine still_end ?_
   refine list_do (F.wants 26 true rfl (by kernel_rfl) rfl true rfl) (fun K hK => ?_)
   refine ow_call rfl rfl F 32 #[.agg y.arr, .agg x.arr] (ex_call 32 _ _ rfl rfl s1_ent_32 _ (map2 (F.e rfl) (F.e rfl))) (ahead_any y x _) (fun e v hR => ?_)
   obtain ⟨he, hb⟩ := hR
   rw [decide_eq_false hlt] at he
   refine ⟨.bool false, he, ?_⟩; clear he F a; intro a F
   refine hK _ _ ?_
   clear hK K
   replace M := M.below hb; clear hb; try clear u
   refine list_val F (F.wants 26 true rfl (by kernel_rfl) rfl true rfl) rfl rfl (.bool true) (ex_not _ _ rfl _ (F.e rfl) _ rfl) ?_; clear F a; intro a F
   refine list_val F (wn rfl) rfl rfl (.bool true) (ex_pick_t _ _ _ rfl (F.e rfl) _ (F.e rfl)) ?_; clear F a; intro a F
   refine wpList_nil ?_
   refine then_n ?_
   refine wp_cond_true (F.e rfl) ?_
   refine wp_seq ?_
   refine wp_region_lit ?_
   refine list_val F (wn rfl) rfl rfl (.int .i64 140) (ex_assign _ rfl _ rfl) ?_; clear F a; intro a F
   refine wpList_nil ?_
   refine then_n ?_
   refine wp_ret ?_
   refine then_r ?_
   refine in_r ?_
   refine then_r ?_
   refine then_r ?_
   refine in_r ?_
   refine then_r ?_
   exact ret_tmp F rfl rfl ⟨by rw [chN_rise hx hi0 hy (fun h_ => hlt h_.1)], M.bel⟩
  have hoki : OkAt xs i := fun x2 hx2 => by
    obtain rfl := Option.some.inj (hx.symm.trans hx2)
    exact ⟨hz0, fun y2 h2 => absurd h2 hi0⟩
  refine region_tail 12 s1_follows_mixedOrders (by kernel_rfl) M ?_; clear M; intro u M hb
  clear hb; try clear v
  refine still_val F (wn rfl) rfl rfl (.int .i64 ((i : Nat) : Int)) (ex_move _ rfl _ (F.e rfl)) ?_; clear F a; intro a F
  refine still_val F (wn rfl) rfl rfl (.bool false) (ex_bin .gtr _ _ _ _ rfl .i64 _ _ (F.e rfl) rfl _ (b_gtr (decide_eq_false (by omega)))) ?_; clear F a; intro a F
  refine still_val F (wn rfl) rfl rfl (.bool false) (ex_move _ rfl _ (F.e rfl)) ?_; clear F a; intro a F
  refine still_skip F (F.wants 26 false rfl (by kernel_rfl) rfl false rfl) rfl rfl ?_; clear F a; intro a F
  refine still_skip F (F.wants 26 false rfl (by kernel_rfl) rfl false rfl) rfl rfl ?_; clear F a; intro a F
  refine still_skip F (F.wants 26 false rfl (by kernel_rfl) rfl false rfl) rfl rfl ?_; clear F a; intro a F
  refine still_skip F (F.wants 26 false rfl (by kernel_rfl) rfl false rfl) rfl rfl ?_; clear F a; intro a F
  refine still_skip F (F.wants 26 false rfl (by kernel_rfl) rfl false rfl) rfl rfl ?_; clear F a; intro a F
  refine still_skip F (F.wants 26 false rfl (by kernel_rfl) rfl false rfl) rfl rfl ?_; clear F a; intro a F
  refine still_skip F (F.wants 26 false rfl (by kernel_rfl) rfl false rfl) rfl rfl ?_; clear F a; intro a F
  refine still_skip F (F.wants 26 false rfl (by kernel_rfl) rfl false rfl) rfl rfl ?_; clear F a; intro a F
  refine still_skip F (F.wants 26 false rfl (by kernel_rfl) rfl false rfl) rfl rfl ?_; clear F a; intro a F
  refine still_end ?_
  refine list_skip F (F.wants 26 false rfl (by kernel_rfl) rfl false rfl) rfl rfl ?_; clear F a; intro a F
  refine list_skip F (F.wants 26 false rfl (by kernel_rfl) rfl false rfl) rfl rfl ?_; clear F a; intro a F
  refine list_val F (wn rfl) rfl rfl (.bool false) (ex_pick_f _ _ _ rfl (F.e rfl) _ rfl) ?_; clear F a; intro a F
  refine wpList_nil ?_
  refine then_n ?_
  refine wp_cond_false (F.e rfl) ?_
  refine wp_skip ?_
  refine then_n ?_
  refine wp_seq ?_
  refine region_tail 30 s1_follows_mixedOrders (by kernel_rfl) M ?_; clear M; intro v M hb
  clear hb; try clear u
  refine still_val F (wn rfl) rfl rfl (.int .i64 ((i : Nat) : Int)) (ex_move _ rfl _ (F.e rfl)) ?_; clear F a; intro a F
  refine still_val F (wn rfl) rfl rfl (.bool false) (ex_bin .gtr _ _ _ _ rfl .i64 _ _ (F.e rfl) rfl _ (b_gtr (decide_eq_false (by omega)))) ?_; clear F a; intro a F
  refine still_val F (wn rfl) rfl rfl (.bool false) (ex_move _ rfl _ (F.e rfl)) ?_; clear F a; intro a F
  refine still_skip F (F.wants 41 false rfl (by kernel_rfl) rfl false rfl) rfl rfl ?_; clear F a; intro a F
  refine still_skip F (F.wants 41 false rfl (by kernel_rfl) rfl false rfl) rfl rfl ?_; clear F a; intro a F
  refine still_skip F (F.wants 41 false rfl (by kernel_rfl) rfl false rfl) rfl rfl ?_; clear F a; intro a F
  refine still_skip F (F.wants 41 false rfl (by kernel_rfl) rfl false rfl) rfl rfl ?_; clear F a; intro a F
  refine still_skip F (F.wants 41 false rfl (by kernel_rfl) rfl false rfl) rfl rfl ?_; clear F a; intro a F
  refine still_skip F (F.wants 41 false rfl (by kernel_rfl) rfl false rfl) rfl rfl ?_; clear F a; intro a F
  refine still_skip F (F.wants 41 false rfl (by kernel_rfl) rfl false rfl) rfl rfl ?_; clear F a; intro a F
  refine still_skip F (F.wants 41 false rfl (by kernel_rfl) rfl false rfl) rfl rfl ?_; clear F a; intro a F
  refine still_skip F (F.wants 41 false rfl (by kernel_rfl) rfl false rfl) rfl rfl ?_; clear F a; intro a F
  refine still_skip F (F.wants 41 false rfl (by kernel_rfl) rfl false rfl) rfl rfl ?_; clear F a; intro a F
  refine still_skip F (F.wants 41 false rfl (by kernel_rfl) rfl false rfl) rfl rfl ?_; clear F a; intro a F
  refine still_skip F (F.wants 41 false rfl (by kernel_rfl) rfl false rfl) rfl rfl ?_; clear F a; intro a F
  refine still_val F (wn rfl) rfl rfl (.bool false) (ex_pick_f _ _ _ rfl (F.e rfl) _ rfl) ?_; clear F a; intro a F
  refine still_val F (wn rfl) rfl rfl (.bool false) (ex_move _ rfl _ (F.e rfl)) ?_; clear F a; intro a F
  refine still_skip F (F.wants 55 false rfl (by kernel_rfl) rfl false rfl) rfl rfl ?_; clear F a; intro a F
  refine still_skip F (F.wants 55 false rfl (by kernel_rfl) rfl false rfl) rfl rfl ?_; clear F a; intro a F
  refine still_skip F (F.wants 55 false rfl (by kernel_rfl) rfl false rfl) rfl rfl ?_; clear F a; intro a F
  refine still_skip F (F.wants 55 false rfl (by kernel_rfl) rfl false rfl) rfl rfl ?_; clear F a; intro a F
  refine still_skip F (F.wants 55 false rfl (by kernel_rfl) rfl false rfl) rfl rfl ?_; clear F a; intro a F
  refine still_skip F (F.wants 55 false rfl (by kernel_rfl) rfl false rfl) rfl rfl ?_; clear F a; intro a F
  refine still_skip F (F.wants 55 false rfl (by kernel_rfl) rfl false rfl) rfl rfl ?_; clear F a; intro a F
  refine still_skip F (F.wants0 62 rfl (by kernel_rfl) rfl) rfl rfl ?_; clear F a; intro a F
  refine still_skip F (F.wants0 62 rfl (by kernel_rfl) rfl) rfl rfl ?_; clear F a; intro a F
  refine still_skip F (F.wants0 62 rfl (by kernel_rfl) rfl) rfl rfl ?_; clear F a; intro a F
  refine still_skip F (F.wants0 62 rfl (by kernel_rfl) rfl) rfl rfl ?_; clear F a; intro a F
  refine still_skip F (F.wants0 62 rfl (by kernel_rfl) rfl) rfl rfl ?_; clear F a; intro a F
  refine still_skip F (F.wants 55 false rfl (by kernel_rfl) rfl false rfl) rfl rfl ?_; clear F a; intro a F
  refine still_end ?_
  refine list_val F (wn rfl) rfl rfl (.bool false) (ex_pick_f _ _ _ rfl (F.e rfl) _ rfl) ?_; clear F a; intro a F
  refine wpList_nil ?_
  replace F : Fr 70 a [(0, .slice (some ad) xs.length c), (2, .int .i64 0), (3, .int .i64 ((i : Nat) : Int)), (7, .bool true), (23, .bool false), (38, .bool false), (69, .bool false)] := F.keep ⟨rfl, rfl, rfl, rfl, rfl, rfl, rfl, trivial⟩
  refine then_n ?_
  refine wp_cond_false (F.e rfl) ?_
  refine wp_skip ?_
  refine in_n ?_
  refine then_n ?_
  refine wp_region_lit ?_
  refine list_val F (wn rfl) rfl rfl (.int .i64 ((i : Nat) : Int)) (ex_move _ rfl _ (F.e rfl)) ?_; clear F a; intro a F
  refine list_val F (wn rfl) rfl rfl (.int .i64 ((i + 1 : Nat) : Int)) (ex_bin .add _ _ _ _ rfl .i64 _ _ (F.e rfl) rfl _ (b_add ((w_i64 (by omega) (by omega)).trans (by omega)))) ?_; clear F a; intro a F
  refine list_val F (wn rfl) rfl rfl (.int .i64 ((i + 1 : Nat) : Int)) (ex_assign _ rfl _ (F.e rfl)) ?_; clear F a; intro a F
  refine wpList_nil ?_
  refine then_n ?_
  exact ⟨xs.length - (i + 1), by omega, (i + 1), F.keep ⟨rfl, rfl, rfl, trivial⟩, (by refine M.pick' [] _ ?_ (by decide); exact trivial), (by omega), (fun j hj => (Nat.lt_or_eq_of_le (Nat.le_of_lt_succ hj)).elim (fun h_ => hok j h_) (fun h_ => by subst h_; exact hoki)), (by omega)⟩
 refine wp_seq ?_
 refine wp_seq ?_
 refine wp_region_lit ?_
 refine list_val F (wn rfl) rfl rfl (.int .i64 ((i : Nat) : Int)) (ex_move _ rfl _ (F.e rfl)) ?_; clear F a; intro a F
 refine list_val F (wn rfl) rfl rfl (.slice A xs.length c) (ex_move _ rfl _ (F.e rfl)) ?_; clear F a; intro a F
 refine list_val F (wn rfl) rfl rfl (.int .i64 ((xs.length : Nat) : Int)) (ex_len _ _ rfl 19 s1_sl_57_19 _ _ _ (F.e rfl)) ?_; clear F a; intro a F
 refine list_val F (wn rfl) rfl rfl (.bool false) (ex_bin .lss _ _ _ _ rfl .i64 _ _ (F.e rfl) (F.e rfl) _ (b_lss (decide_eq_false (by omega)))) ?_; clear F a; intro a F
 refine wpList_nil ?_
 refine then_n ?_
 refine wp_cond_false (F.e rfl) ?_
 refine wp_exit ?_
 refine then_x ?_
 refine then_x ?_
 refine in_hit ?_
 refine then_n ?_
 refine wp_seq ?_
 refine wp_region_lit ?_
 refine list_val F (wn rfl) rfl rfl (.int .i64 0) (ex_assign _ rfl _ rfl) ?_; clear F a; intro a F
 refine wpList_nil ?_
 refine then_n ?_
 refine wp_ret ?_
 exact ret_tmp F rfl rfl ⟨by rw [chN_all (fun j hj => hok j (by omega))], M.bel⟩
end Go.Proofs.YtnjbjjmoglogeaaGreat
