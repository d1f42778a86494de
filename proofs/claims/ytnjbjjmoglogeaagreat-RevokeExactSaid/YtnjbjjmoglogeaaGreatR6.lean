/- Of the laws' own functions: EqRevokeds (18) of two that are alike, CopyRevokeds (19), whole (20), step (16), later (17), num (11), wakes (15). Conditions: the rows are read, and are lists. -/
import Derived.Test.YtnjbjjmoglogeaaGreatR5
import Derived.Test.YtnjbjjmoglogeaaGreatP1
namespace Go.Proofs.YtnjbjjmoglogeaaGreat
open Go.RowKit Go.Proofs.YtnjbjjmoglogeaaGreatW.PrintWords KB WG RO
set_option linter.unusedVariables false
set_option linter.unusedSimpArgs false
set_option linter.unnecessarySimpa false
theorem un4 : Tryz.prog.underlying 4 = some .bool := by kernel_rfl
theorem un67 : Tryz.prog.underlying 67 = some (.int .u64) := by kernel_rfl
theorem un2 : Tryz.prog.underlying 2 = some (.int .i64) := by kernel_rfl
theorem eqRv (a b : Rv) (w : World) : (Op.equalIn 10000 85 (.agg a.arr) (.agg b.arr)).run Tryz.prog w = .ok (decide (a = b)) w := by
  have h2 : ∀ k : Rv, k.arr.extract 2 (2 + 16) = k.id.cs.toArray := by
    intro k
    rw [show k.arr = k.cs.toArray from rfl, List.extract_toArray]
    congr 1
    show ((Value.bool k.whole :: Value.int .u64 k.grant :: (k.id.cs ++ [Value.int .i64 k.exp])).drop 2).take (2 + 16 - 2) = k.id.cs
    rw [List.drop_succ_cons, List.drop_succ_cons, List.drop_zero]
    exact List.take_left' (Bs.cs_len _)
  have p0 : ∀ k : Rv, (part 4 k.arr 0).run Tryz.prog w = .ok (.bool k.whole) w := fun k => run_part_plain w (by kernel_rfl) k.arr_0
  have p1 : ∀ k : Rv, (part 67 k.arr 1).run Tryz.prog w = .ok (.int .u64 k.grant) w := fun k => run_part_plain w (by kernel_rfl) k.arr_1
  have p3 : ∀ k : Rv, (part 2 k.arr 18).run Tryz.prog w = .ok (.int .i64 k.exp) w := fun k => run_part_plain w (by kernel_rfl) k.arr_18
  have p2 : ∀ k : Rv, (part 69 k.arr 2).run Tryz.prog w = .ok (.agg k.id.cs.toArray) w := by
    intro k
    have hs : (sizeOf 69).run Tryz.prog w = .ok 16 w := by kernel_rfl
    have ha : (isAgg 69).run Tryz.prog w = .ok true w := by kernel_rfl
    unfold part
    simp only [Sem.run_bind, ha, hs, Result.andThen_ok, if_true, Sem.run_pure, h2]
  have e : decide (a = b) = ((a.whole == b.whole) && ((a.grant == b.grant) && (decide (a.id = b.id) && (a.exp == b.exp)))) := by
    rw [Bool.eq_iff_iff]
    obtain ⟨aw, ag, ai, ae⟩ := a
    obtain ⟨bw, bg, bi, be⟩ := b
    simp only [decide_eq_true_iff, Bool.and_eq_true, beq_iff_eq, Rv.mk.injEq]
  have e69 : (Op.equalIn 9999 69 (.agg a.id.cs.toArray) (.agg b.id.cs.toArray)).run Tryz.prog w = .ok (decide (a.id = b.id)) w := by
    have h := run_equalIn_bytes (P := Tryz.prog) 9997 a.id.i b.id.i un69 un5 (by kernel_rfl) (by kernel_rfl) w
    rw [show decide (a.id.i = b.id.i) = decide (a.id = b.id) from decide_eq_decide.2 Bs.i_inj] at h
    exact h
  rw [e]
  refine eqA_of (d := 9999) Tryz.underlying85 (by kernel_rfl) ?_
  exact eqf_cons rfl (p0 a) (p0 b) (run_eqb un4 9998 a.whole b.whole w) (eqf_cons rfl (p1 a) (p1 b) (run_equalIn_int w 9998 67 _ _ _ _ un67) (eqf_cons rfl (p2 a) (p2 b) e69 (eqf_last rfl (p3 a) (p3 b) (run_equalIn_int w 9998 2 _ _ _ _ un2))))
theorem neqRv (a b : Rv) (w : World) : (binOp .neq 85 (.agg a.arr) (.agg b.arr)).run Tryz.prog w = .ok (.bool (!decide (a = b))) w := by
  rw [run_neq_struct, eqRv]; rfl
theorem ex_ne85 {op : Oper} {ρ : Operand → Value} {w : World} (x y : Operand) (z : TypeId) (ho : op.op = .binOp .neq 85 x y z) (a b : Rv) (hx : ρ x = .agg a.arr) (hy : ρ y = .agg b.arr) (r : Bool) (hr : (!decide (a = b)) = r) : (execOp ρ op).run Tryz.prog w = .ok (.value (.bool r)) w := by
  subst hr
  refine ex_neq 85 z x y ho _ _ hx hy _ ?_ (neqRv a b w)
  have e : Tryz.prog.eqGuardType Tryz.prog.depth 85 = false := by kernel_rfl
  unfold eqGuard
  simp [e]
/-! ### wakes -/
def idB (x : BitVec 8) : Bs 16 := ⟨x :: List.replicate 15 0, rfl⟩
theorem build69_1 (w : World) : (Instr.build 69 #[(0, .int .u8 1)]).run Tryz.prog w = .ok (.agg (idB 1).cs.toArray) w := by kernel_rfl
theorem build69_2 (w : World) : (Instr.build 69 #[(0, .int .u8 2)]).run Tryz.prog w = .ok (.agg (idB 2).cs.toArray) w := by kernel_rfl
def wk1 : List Rv := [⟨false, 7, idB 1, 50⟩]
def wk2 : List Rv := [⟨true, 7, zBs 16, 60⟩]
theorem wk_1 : addF [] 7 (idB 1) 50 = wk1 := by decide +kernel
theorem wk_2 : killF wk1 7 60 = wk2 := by decide +kernel
theorem wk_3 : hasF wk1 7 (idB 1) = true := by decide +kernel
theorem wk_4 : hasF wk1 7 (idB 2) = false := by decide +kernel
theorem wk_5 : hasF wk2 7 (idB 2) = true := by decide +kernel
theorem wk_6 : pruneF wk2 60 = [] := by decide +kernel
theorem wk_7 : pruneF wk2 59 = wk2 := by decide +kernel
theorem wk_h1 : IsL wk1 := by rw [← wk_1]; exact IsL.nil.add _ _ _
theorem wk_h2 : IsL wk2 := by rw [← wk_2]; exact wk_h1.kill _ _
theorem wk_g0 : wk2[0]? = some ⟨true, 7, zBs 16, 60⟩ := rfl
theorem r6_sl_57_19 : sl? Tryz.prog 57 19 = true := by kernel_rfl
theorem r6_follows_mixedOrders : Tryz.prog.follows .mixedOrders = true := by kernel_rfl
set_option maxHeartbeats 1000000 in
set_option maxRecDepth 100000 in
theorem eq_any (xs : List Rv) (A B : Option Addr) (c d : Nat) (w : World) (hrA : kRv.C w A xs.length xs) (hrB : kRv.C w B xs.length xs) (hmx : xs.length ≤ 1000000) :
    Calls Tryz.prog 9 #[.slice A xs.length c, .slice B xs.length d] w fun e w' => e = .returned (.bool true) ∧ Below w.heap.size w w' := by
 refine calls_start Tryz.func9 rfl rfl rfl (fun a F => ?_)
 have M : Mm w w [] := Mm.nil w
 refine wp_seq ?_
 refine wp_region_lit ?_
 refine list_val F (wn rfl) rfl rfl (.bool false) (ex_assign _ rfl _ rfl) ?_; clear F a; intro a F
 refine wpList_nil ?_
 replace F : Fr 26 a [(0, .slice A xs.length c), (1, .slice B xs.length d), (4, .bool false)] := F.keep ⟨rfl, rfl, rfl, trivial⟩
 refine then_n ?_
 refine wp_seq ?_
 refine wp_seq ?_
 refine wp_region_lit ?_
 refine list_val F (wn rfl) rfl rfl (.slice A xs.length c) (ex_move _ rfl _ (F.e rfl)) ?_; clear F a; intro a F
 refine list_val F (wn rfl) rfl rfl (.int .i64 ((xs.length : Nat) : Int)) (ex_len _ _ rfl 19 r6_sl_57_19 _ _ _ (F.e rfl)) ?_; clear F a; intro a F
 refine list_val F (wn rfl) rfl rfl (.slice B xs.length d) (ex_move _ rfl _ (F.e rfl)) ?_; clear F a; intro a F
 refine list_val F (wn rfl) rfl rfl (.int .i64 ((xs.length : Nat) : Int)) (ex_len _ _ rfl 19 r6_sl_57_19 _ _ _ (F.e rfl)) ?_; clear F a; intro a F
 refine list_val F (wn rfl) rfl rfl (.bool false) (ex_bin .neq _ _ _ _ rfl .i64 _ _ (F.e rfl) (F.e rfl) _ (b_neq (by simp))) ?_; clear F a; intro a F
 refine wpList_nil ?_
 replace F : Fr 26 a [(0, .slice A xs.length c), (1, .slice B xs.length d), (4, .bool false), (10, .bool false)] := F.keep ⟨rfl, rfl, rfl, rfl, trivial⟩
 refine then_n ?_
 refine wp_cond_false (F.e rfl) ?_
 refine wp_skip ?_
 refine then_n ?_
 refine wp_seq ?_
 refine wp_seq ?_
 refine wp_region_lit ?_
 refine list_val F (wn rfl) rfl rfl (.int .i64 0) (ex_assign _ rfl _ rfl) ?_; clear F a; intro a F
 refine wpList_nil ?_
 replace F : Fr 26 a [(0, .slice A xs.length c), (1, .slice B xs.length d), (4, .bool false), (5, .int .i64 0), (10, .bool false)] := F.keep ⟨rfl, rfl, rfl, rfl, rfl, trivial⟩
 refine then_n ?_
 refine wp_block ?_
 refine wp_loopN (fun mq ar wr => ∃ (i : Nat), Fr 26 ar [(0, .slice A xs.length c), (1, .slice B xs.length d), (4, .bool false), (5, .int .i64 ((i : Nat) : Int)), (10, .bool false)] ∧ Mm w wr [] ∧ i ≤ xs.length ∧ mq + i = xs.length) xs.length ?_ ?_
 ·
  exact ⟨0, F.keep ⟨rfl, rfl, rfl, rfl, rfl, trivial⟩, M, (Nat.zero_le _), (by omega)⟩
 clear F M a
 rintro mq a v ⟨i, F, M, hi, hq⟩; try clear w
 by_cases hin : i < xs.length
 ·
  obtain ⟨x, hx⟩ : ∃ x, xs[i]? = some x := ⟨_, List.getElem?_eq_getElem (by omega)⟩
  obtain ⟨ad, hA, z⟩ := C_ix hrA hx
  obtain ⟨ad2, hA2, z2⟩ := C_ix hrB hx
  subst hA hA2
  refine wp_seq ?_
  refine wp_seq ?_
  refine wp_region_lit ?_
  refine list_val F (wn rfl) rfl rfl (.int .i64 ((i : Nat) : Int)) (ex_move _ rfl _ (F.e rfl)) ?_; clear F a; intro a F
  refine list_val F (wn rfl) rfl rfl (.slice (some ad) xs.length c) (ex_move _ rfl _ (F.e rfl)) ?_; clear F a; intro a F
  refine list_val F (wn rfl) rfl rfl (.int .i64 ((xs.length : Nat) : Int)) (ex_len _ _ rfl 19 r6_sl_57_19 _ _ _ (F.e rfl)) ?_; clear F a; intro a F
  refine list_val F (wn rfl) rfl rfl (.bool true) (ex_bin .lss _ _ _ _ rfl .i64 _ _ (F.e rfl) (F.e rfl) _ (b_lss (decide_eq_true (by omega)))) ?_; clear F a; intro a F
  refine wpList_nil ?_
  replace F : Fr 26 a [(0, .slice (some ad) xs.length c), (1, .slice (some ad2) xs.length d), (4, .bool false), (5, .int .i64 ((i : Nat) : Int)), (10, .bool false), (14, .bool true)] := F.keep ⟨rfl, rfl, rfl, rfl, rfl, rfl, trivial⟩
  refine then_n ?_
  refine wp_cond_true (F.e rfl) ?_
  refine wp_skip ?_
  refine then_n ?_
  refine wp_seq ?_
  refine wp_block ?_
  refine wp_seq ?_
  refine region_tail 8 r6_follows_mixedOrders (by kernel_rfl) M ?_; clear M; intro u M hb
  clear hb; try clear v
  refine still_val F (wn rfl) rfl rfl (.slice (some ad) xs.length c) (ex_move _ rfl _ (F.e rfl)) ?_; clear F a; intro a F
  refine still_val F (wn rfl) rfl rfl (.int .i64 ((i : Nat) : Int)) (ex_move _ rfl _ (F.e rfl)) ?_; clear F a; intro a F
  refine still_val F (wn rfl) rfl rfl (.pointer (some (ad.add (i * 19)))) (ex_ix _ _ _ rfl 19 r6_sl_57_19 ad _ _ (F.e rfl) .i64 _ (F.e rfl) i rfl (by omega) (ad.add (i * 19)) rfl) ?_; clear F a; intro a F
  refine still_val F (wn rfl) rfl rfl (.agg x.arr) (ex_load _ _ rfl _ (F.e rfl) _ (lrow85 x ((z.below M.bel)))) ?_; clear F a; intro a F
  refine still_val F (wn rfl) rfl rfl (.slice (some ad2) xs.length d) (ex_move _ rfl _ (F.e rfl)) ?_; clear F a; intro a F
  refine still_val F (wn rfl) rfl rfl (.int .i64 ((i : Nat) : Int)) (ex_move _ rfl _ (F.e rfl)) ?_; clear F a; intro a F
  refine still_val F (wn rfl) rfl rfl (.pointer (some (ad2.add (i * 19)))) (ex_ix _ _ _ rfl 19 r6_sl_57_19 ad2 _ _ (F.e rfl) .i64 _ (F.e rfl) i rfl (by omega) (ad2.add (i * 19)) rfl) ?_; clear F a; intro a F
  refine still_val F (wn rfl) rfl rfl (.agg x.arr) (ex_load _ _ rfl _ (F.e rfl) _ (lrow85 x ((z2.below M.bel)))) ?_; clear F a; intro a F
  refine still_end ?_
  refine list_val F (wn rfl) rfl rfl (.bool false) (ex_ne85 _ _ _ rfl x x (F.e rfl) (F.e rfl) false (by simp)) ?_; clear F a; intro a F
  refine wpList_nil ?_
  replace F : Fr 26 a [(0, .slice (some ad) xs.length c), (1, .slice (some ad2) xs.length d), (4, .bool false), (5, .int .i64 ((i : Nat) : Int)), (10, .bool false), (14, .bool true), (25, .bool false)] := F.keep ⟨rfl, rfl, rfl, rfl, rfl, rfl, rfl, trivial⟩
  refine then_n ?_
  refine wp_cond_false (F.e rfl) ?_
  refine wp_skip ?_
  refine in_n ?_
  refine then_n ?_
  refine wp_region_lit ?_
  refine list_val F (wn rfl) rfl rfl (.int .i64 ((i : Nat) : Int)) (ex_move _ rfl _ (F.e rfl)) ?_; clear F a; intro a F
  refine list_val F (wn rfl) rfl rfl (.int .i64 ((i + 1 : Nat) : Int)) (ex_bin .add _ _ _ _ rfl .i64 _ _ (F.e rfl) rfl _ (b_add ((w_i64 (by omega) (by omega)).trans (by omega)))) ?_; clear F a; intro a F
  refine list_val F (wn rfl) rfl rfl (.int .i64 ((i + 1 : Nat) : Int)) (ex_assign _ rfl _ (F.e rfl)) ?_; clear F a; intro a F
  refine wpList_nil ?_
  replace F : Fr 26 a [(0, .slice (some ad) xs.length c), (1, .slice (some ad2) xs.length d), (4, .bool false), (5, .int .i64 ((i + 1 : Nat) : Int)), (10, .bool false), (14, .bool true), (25, .bool false)] := F.keep ⟨rfl, rfl, rfl, rfl, rfl, rfl, rfl, trivial⟩
  refine then_n ?_
  exact ⟨xs.length - (i + 1), by omega, (i + 1), F.keep ⟨rfl, rfl, rfl, rfl, rfl, trivial⟩, (by refine M.pick' [] _ ?_ (by decide); exact trivial), (by omega), (by omega)⟩
 refine wp_seq ?_
 refine wp_seq ?_
 refine wp_region_lit ?_
 refine list_val F (wn rfl) rfl rfl (.int .i64 ((i : Nat) : Int)) (ex_move _ rfl _ (F.e rfl)) ?_; clear F a; intro a F
 refine list_val F (wn rfl) rfl rfl (.slice A xs.length c) (ex_move _ rfl _ (F.e rfl)) ?_; clear F a; intro a F
 refine list_val F (wn rfl) rfl rfl (.int .i64 ((xs.length : Nat) : Int)) (ex_len _ _ rfl 19 r6_sl_57_19 _ _ _ (F.e rfl)) ?_; clear F a; intro a F
 refine list_val F (wn rfl) rfl rfl (.bool false) (ex_bin .lss _ _ _ _ rfl .i64 _ _ (F.e rfl) (F.e rfl) _ (b_lss (decide_eq_false (by omega)))) ?_; clear F a; intro a F
 refine wpList_nil ?_
 replace F : Fr 26 a [(0, .slice A xs.length c), (1, .slice B xs.length d), (4, .bool false), (5, .int .i64 ((i : Nat) : Int)), (10, .bool false), (14, .bool false)] := F.keep ⟨rfl, rfl, rfl, rfl, rfl, rfl, trivial⟩
 refine then_n ?_
 refine wp_cond_false (F.e rfl) ?_
 refine wp_exit ?_
 refine then_x ?_
 refine then_x ?_
 refine in_hit ?_
 refine then_n ?_
 refine wp_seq ?_
 refine wp_region_lit ?_
 refine list_val F (wn rfl) rfl rfl (.bool true) (ex_assign _ rfl _ rfl) ?_; clear F a; intro a F
 refine wpList_nil ?_
 replace F : Fr 26 a [(0, .slice A xs.length c), (1, .slice B xs.length d), (4, .bool true), (5, .int .i64 ((i : Nat) : Int)), (10, .bool false), (14, .bool false)] := F.keep ⟨rfl, rfl, rfl, rfl, rfl, rfl, trivial⟩
 refine then_n ?_
 refine wp_ret ?_
 exact ret_tmp F rfl rfl ⟨rfl, M.bel⟩
set_option maxHeartbeats 1000000 in
set_option maxRecDepth 100000 in
theorem copy_any (xs : List Rv) (A : Option Addr) (c : Nat) (w : World) (hr : kRv.C w A xs.length xs) (hl : xs.length * 40 ≤ 140737488351232) :
    Calls Tryz.prog 4 #[.slice A xs.length c] w fun r w' => ∃ A' c', r = .returned (.slice A' xs.length c') ∧ Ow kRv 85 w' w.heap.size (.slice A' xs.length c') xs ∧ Below w.heap.size w w' := by
 refine calls_start Tryz.func4 rfl rfl rfl (fun a F => ?_)
 have M : Mm w w [] := Mm.nil w
 refine wp_seq ?_
 refine wp_region_lit ?_
 refine list_val F (wn rfl) rfl rfl (.slice none 0 0) (ex_assign _ rfl _ rfl) ?_; clear F a; intro a F
 refine wpList_nil ?_
 replace F : Fr 8 a [(0, .slice A xs.length c), (2, .slice none 0 0)] := F.keep ⟨rfl, rfl, trivial⟩
 refine then_n ?_
 refine wp_seq ?_
 refine wp_region_lit ?_
 refine list_val F (wn rfl) rfl rfl (.slice none 0 0) (ex_assign _ rfl _ rfl) ?_; clear F a; intro a F
 refine wpList_nil ?_
 replace F : Fr 8 a [(0, .slice A xs.length c), (2, .slice none 0 0), (3, .slice none 0 0)] := F.keep ⟨rfl, rfl, rfl, trivial⟩
 refine then_n ?_
 refine wp_seq ?_
 refine wp_region_lit ?_
 refine list_val F (wn rfl) rfl rfl (.slice none 0 0) (ex_move _ rfl _ (F.e rfl)) ?_; clear F a; intro a F
 refine list_val F (wn rfl) rfl rfl (.slice A xs.length c) (ex_move _ rfl _ (F.e rfl)) ?_; clear F a; intro a F
 refine list_do (wn rfl) (fun K hK => ?_)
 have O_x : Ow kRv 85 w w.heap.size (.slice none 0 0) [] := Ow.nil _ _ _ _
 replace M : Mm w w [] := (by refine M.pick' [] _ ?_ (by decide); exact trivial)
 refine og_app F M Tryz.underlying57 i85 z85s (by decide) (by decide) (Nat.le_refl _) M.bel.size trivial rfl rfl rfl _ _ rfl (.slice none 0 0) ([]) xs xs rfl A xs.length c (F.e rfl) (F.e rfl) O_x (Kd.C_below hr M.bel) (by simp; omega) ?_
 clear F a; have Mo := M; clear M; intro a A_6 c_6 v F M Oz hgr
 refine hK _ _ ?_
 clear hK K
 clear O_x Mo hgr; have O_x := Oz; clear Oz; try clear w
 refine list_val F (wn rfl) rfl rfl (.slice A_6 xs.length c_6) (ex_assign _ rfl _ (F.e rfl)) ?_; clear F a; intro a F
 refine wpList_nil ?_
 replace F : Fr 8 a [(0, .slice A xs.length c), (2, .slice none 0 0), (3, .slice A_6 xs.length c_6)] := F.keep ⟨rfl, rfl, rfl, trivial⟩
 refine then_n ?_
 refine wp_seq ?_
 refine wp_region_lit ?_
 refine list_val F (wn rfl) rfl rfl (.slice A_6 xs.length c_6) (ex_move _ rfl _ (F.e rfl)) ?_; clear F a; intro a F
 refine list_val F (wn rfl) rfl rfl (.slice A_6 xs.length c_6) (ex_assign _ rfl _ (F.e rfl)) ?_; clear F a; intro a F
 refine wpList_nil ?_
 replace F : Fr 8 a [(0, .slice A xs.length c), (2, .slice A_6 xs.length c_6), (3, .slice A_6 xs.length c_6)] := F.keep ⟨rfl, rfl, rfl, trivial⟩
 refine then_n ?_
 refine wp_ret ?_
 exact ret_tmp F rfl rfl ⟨A_6, c_6, rfl, O_x, M.bel⟩
set_option maxHeartbeats 1000000 in
set_option maxRecDepth 100000 in
theorem num_any (z : Int) (w : World) : Calls Tryz.prog 16 #[.int .i64 z] w fun e w' => e = .returned (.int .i64 z) ∧ Below w.heap.size w w' := by
 refine calls_start Tryz.func16 rfl rfl rfl (fun a F => ?_)
 have M : Mm w w [] := Mm.nil w
 refine wp_seq ?_
 refine wp_region_lit ?_
 refine list_val F (wn rfl) rfl rfl (.int .i64 0) (ex_assign _ rfl _ rfl) ?_; clear F a; intro a F
 refine wpList_nil ?_
 replace F : Fr 4 a [(0, .int .i64 z), (2, .int .i64 0)] := F.keep ⟨rfl, rfl, trivial⟩
 refine then_n ?_
 refine wp_seq ?_
 refine wp_region_lit ?_
 refine list_val F (wn rfl) rfl rfl (.int .i64 z) (ex_move _ rfl _ (F.e rfl)) ?_; clear F a; intro a F
 refine list_val F (wn rfl) rfl rfl (.int .i64 z) (ex_assign _ rfl _ (F.e rfl)) ?_; clear F a; intro a F
 refine wpList_nil ?_
 replace F : Fr 4 a [(0, .int .i64 z), (2, .int .i64 z)] := F.keep ⟨rfl, rfl, trivial⟩
 refine then_n ?_
 refine wp_ret ?_
 exact ret_tmp F rfl rfl ⟨rfl, M.bel⟩
theorem r6_ent_24 : ent? Tryz.prog 24 = true := by kernel_rfl
theorem r6_ent_25 : ent? Tryz.prog 25 = true := by kernel_rfl
theorem r6_ent_19 : ent? Tryz.prog 19 = true := by kernel_rfl
theorem r6_fa_85_0_0 : fa? Tryz.prog 85 0 0 = true := by kernel_rfl
theorem r6_one_4 : one? Tryz.prog 4 = true := by kernel_rfl
theorem r6_ent_26 : ent? Tryz.prog 26 = true := by kernel_rfl
set_option maxHeartbeats 1000000 in
set_option maxRecDepth 100000 in
theorem wakes_any (w : World) : Calls Tryz.prog 15 #[] w fun e w' => e = .returned (.bool true) ∧ Below w.heap.size w w' := by
 refine calls_start Tryz.func15 rfl rfl rfl (fun a F => ?_)
 have M : Mm w w [] := Mm.nil w
 refine wp_seq ?_
 refine wp_region_lit ?_
 refine list_val F (wn rfl) rfl rfl (.bool false) (ex_assign _ rfl _ rfl) ?_; clear F a; intro a F
 refine wpList_nil ?_
 replace F : Fr 49 a [(0, .bool false)] := F.keep ⟨rfl, trivial⟩
 refine then_n ?_
 refine wp_seq ?_
 refine wp_region_lit ?_
 refine list_val F (wn rfl) rfl rfl (.agg ((idB 1).cs.toArray)) (ex_build 69 _ rfl #[(0, .int .u8 1)] (parts1 rfl) (.agg ((idB 1).cs.toArray)) (build69_1 _)) ?_; clear F a; intro a F
 refine list_do (wn rfl) (fun K hK => ?_)
 refine ow_call rfl rfl F 24 #[.slice none 0 0, .int .u64 7, .agg ((idB 1).cs.toArray), .int .i64 50] (ex_call 24 _ _ rfl rfl r6_ent_24 _ (map4 rfl rfl (F.e rfl) rfl)) (add_any [] IsL.nil none 0 7 (idB 1) 50 _ (Ow.nil kRv 85 _ 0).rd.1 (Nat.le_refl _) (by decide)) (fun e v hR => ?_)
 obtain ⟨A_4, c_4, he, O_1, hb⟩ := hR
 rw [wk_1] at he O_1
 replace O_1 := O_1.low M.bel.size
 refine ⟨.slice A_4 wk1.length c_4, he, ?_⟩; clear he F a; intro a F
 refine hK _ _ ?_
 clear hK K
 replace M := M.below hb; clear hb; try clear w
 refine list_val F (wn rfl) rfl rfl (.slice A_4 wk1.length c_4) (ex_assign _ rfl _ (F.e rfl)) ?_; clear F a; intro a F
 refine wpList_nil ?_
 replace F : Fr 49 a [(0, .bool false), (1, .slice A_4 wk1.length c_4)] := F.keep ⟨rfl, rfl, trivial⟩
 refine then_n ?_
 refine wp_seq ?_
 refine wp_region_lit ?_
 refine list_val F (wn rfl) rfl rfl (.slice A_4 wk1.length c_4) (ex_move _ rfl _ (F.e rfl)) ?_; clear F a; intro a F
 refine list_do (wn rfl) (fun K hK => ?_)
 refine ow_call rfl rfl F 25 #[.slice A_4 wk1.length c_4, .int .u64 7, .int .i64 60] (ex_call 25 _ _ rfl rfl r6_ent_25 _ (map3 (F.e rfl) rfl rfl)) (kill_any wk1 wk_h1 _ _ 7 60 _ O_1.rd.1 O_1.rd.2.2 (by decide)) (fun e u hR => ?_)
 obtain ⟨A_6, c_6, he, O_2, hb⟩ := hR
 rw [wk_2] at he O_2
 replace O_2 := O_2.low M.bel.size
 refine ⟨.slice A_6 wk2.length c_6, he, ?_⟩; clear he F a; intro a F
 refine hK _ _ ?_
 clear hK K
 replace O_1 := O_1.below hb
 replace M := M.below hb; clear hb; try clear v
 refine list_val F (wn rfl) rfl rfl (.slice A_6 wk2.length c_6) (ex_assign _ rfl _ (F.e rfl)) ?_; clear F a; intro a F
 refine wpList_nil ?_
 replace F : Fr 49 a [(0, .bool false), (1, .slice A_4 wk1.length c_4), (2, .slice A_6 wk2.length c_6)] := F.keep ⟨rfl, rfl, rfl, trivial⟩
 refine then_n ?_
 refine wp_seq ?_
 have hw2 : wk2.length = 1 := rfl
 obtain ⟨ad, hA, z⟩ := C_ix O_2.rd.1 wk_g0
 subst hA
 refine wp_region_lit ?_
 refine list_val F (wn rfl) rfl rfl (.slice A_4 wk1.length c_4) (ex_move _ rfl _ (F.e rfl)) ?_; clear F a; intro a F
 refine list_val F (wn rfl) rfl rfl (.int .i64 ((wk1.length : Nat) : Int)) (ex_len _ _ rfl 19 r6_sl_57_19 _ _ _ (F.e rfl)) ?_; clear F a; intro a F
 refine list_val F (wn rfl) rfl rfl (.bool true) (ex_bin .eql _ _ _ _ rfl .i64 _ _ (F.e rfl) rfl _ (b_eql (by decide))) ?_; clear F a; intro a F
 refine list_val F (wn rfl) rfl rfl (.bool true) (ex_move _ rfl _ (F.e rfl)) ?_; clear F a; intro a F
 refine list_val F (F.wants 10 true rfl (by kernel_rfl) rfl true rfl) rfl rfl (.slice A_4 wk1.length c_4) (ex_move _ rfl _ (F.e rfl)) ?_; clear F a; intro a F
 refine list_val F (F.wants 10 true rfl (by kernel_rfl) rfl true rfl) rfl rfl (.agg ((idB 1).cs.toArray)) (ex_build 69 _ rfl #[(0, .int .u8 1)] (parts1 rfl) (.agg ((idB 1).cs.toArray)) (build69_1 _)) ?_; clear F a; intro a F
 refine list_do (F.wants 10 true rfl (by kernel_rfl) rfl true rfl) (fun K hK => ?_)
 refine ow_call rfl rfl F 19 #[.slice A_4 wk1.length c_4, .int .u64 7, .agg ((idB 1).cs.toArray)] (ex_call 19 _ _ rfl rfl r6_ent_19 _ (map3 (F.e rfl) rfl (F.e rfl))) (has_any wk1 wk_h1 _ _ 7 (idB 1) _ O_1.rd.1 O_1.rd.2.2 (by decide)) (fun e v hR => ?_)
 obtain ⟨he, hb⟩ := hR
 rw [wk_3] at he
 refine ⟨.bool true, he, ?_⟩; clear he F a; intro a F
 refine hK _ _ ?_
 clear hK K
 replace O_1 := O_1.below hb
 replace O_2 := O_2.below hb
 replace z := z.below hb
 replace M := M.below hb; clear hb; try clear u
 refine list_val F (wn rfl) rfl rfl (.bool true) (ex_pick_t _ _ _ rfl (F.e rfl) _ (F.e rfl)) ?_; clear F a; intro a F
 refine list_val F (wn rfl) rfl rfl (.bool true) (ex_move _ rfl _ (F.e rfl)) ?_; clear F a; intro a F
 refine list_val F (F.wants 15 true rfl (by kernel_rfl) rfl true rfl) rfl rfl (.slice A_4 wk1.length c_4) (ex_move _ rfl _ (F.e rfl)) ?_; clear F a; intro a F
 refine list_val F (F.wants 15 true rfl (by kernel_rfl) rfl true rfl) rfl rfl (.agg ((idB 2).cs.toArray)) (ex_build 69 _ rfl #[(0, .int .u8 2)] (parts1 rfl) (.agg ((idB 2).cs.toArray)) (build69_2 _)) ?_; clear F a; intro a F
 refine list_do (F.wants 15 true rfl (by kernel_rfl) rfl true rfl) (fun K hK => ?_)
 refine ow_call rfl rfl F 19 #[.slice A_4 wk1.length c_4, .int .u64 7, .agg ((idB 2).cs.toArray)] (ex_call 19 _ _ rfl rfl r6_ent_19 _ (map3 (F.e rfl) rfl (F.e rfl))) (has_any wk1 wk_h1 _ _ 7 (idB 2) _ O_1.rd.1 O_1.rd.2.2 (by decide)) (fun e u hR => ?_)
 obtain ⟨he, hb⟩ := hR
 rw [wk_4] at he
 refine ⟨.bool false, he, ?_⟩; clear he F a; intro a F
 refine hK _ _ ?_
 clear hK K
 replace O_1 := O_1.below hb
 replace O_2 := O_2.below hb
 replace z := z.below hb
 replace M := M.below hb; clear hb; try clear v
 refine list_val F (F.wants 15 true rfl (by kernel_rfl) rfl true rfl) rfl rfl (.bool true) (ex_not _ _ rfl _ (F.e rfl) _ rfl) ?_; clear F a; intro a F
 refine list_val F (wn rfl) rfl rfl (.bool true) (ex_pick_t _ _ _ rfl (F.e rfl) _ (F.e rfl)) ?_; clear F a; intro a F
 refine list_val F (wn rfl) rfl rfl (.bool true) (ex_move _ rfl _ (F.e rfl)) ?_; clear F a; intro a F
 refine list_val F (F.wants 21 true rfl (by kernel_rfl) rfl true rfl) rfl rfl (.slice (some ad) wk2.length c_6) (ex_move _ rfl _ (F.e rfl)) ?_; clear F a; intro a F
 refine list_val F (F.wants 21 true rfl (by kernel_rfl) rfl true rfl) rfl rfl (.int .i64 ((wk2.length : Nat) : Int)) (ex_len _ _ rfl 19 r6_sl_57_19 _ _ _ (F.e rfl)) ?_; clear F a; intro a F
 refine list_val F (F.wants 21 true rfl (by kernel_rfl) rfl true rfl) rfl rfl (.bool true) (ex_bin .eql _ _ _ _ rfl .i64 _ _ (F.e rfl) rfl _ (b_eql (by decide))) ?_; clear F a; intro a F
 refine list_val F (wn rfl) rfl rfl (.bool true) (ex_pick_t _ _ _ rfl (F.e rfl) _ (F.e rfl)) ?_; clear F a; intro a F
 refine list_val F (wn rfl) rfl rfl (.bool true) (ex_move _ rfl _ (F.e rfl)) ?_; clear F a; intro a F
 refine list_val F (F.wants 26 true rfl (by kernel_rfl) rfl true rfl) rfl rfl (.slice (some ad) wk2.length c_6) (ex_move _ rfl _ (F.e rfl)) ?_; clear F a; intro a F
 refine list_val F (F.wants 26 true rfl (by kernel_rfl) rfl true rfl) rfl rfl (.pointer (some (ad.add (0 * 19)))) (ex_ix _ _ _ rfl 19 r6_sl_57_19 ad _ _ (F.e rfl) .i64 _ rfl 0 rfl (by omega) (ad.add (0 * 19)) rfl) ?_; clear F a; intro a F
 refine list_val F (F.wants 26 true rfl (by kernel_rfl) rfl true rfl) rfl rfl (.pointer (some (ad.add (0 * 19)))) (ex_fa _ _ _ rfl _ (F.e rfl) 0 r6_fa_85_0_0 (ad.add (0 * 19)) rfl) ?_; clear F a; intro a F
 refine list_val F (F.wants 26 true rfl (by kernel_rfl) rfl true rfl) rfl rfl (.bool true) (ex_load _ _ rfl _ (F.e rfl) _ (lv1 r6_one_4 (z.cell 0 _ (Rv.cs_0e rfl)))) ?_; clear F a; intro a F
 refine list_val F (wn rfl) rfl rfl (.bool true) (ex_pick_t _ _ _ rfl (F.e rfl) _ (F.e rfl)) ?_; clear F a; intro a F
 refine list_val F (wn rfl) rfl rfl (.bool true) (ex_move _ rfl _ (F.e rfl)) ?_; clear F a; intro a F
 refine list_val F (F.wants 32 true rfl (by kernel_rfl) rfl true rfl) rfl rfl (.slice (some ad) wk2.length c_6) (ex_move _ rfl _ (F.e rfl)) ?_; clear F a; intro a F
 refine list_val F (F.wants 32 true rfl (by kernel_rfl) rfl true rfl) rfl rfl (.agg ((idB 2).cs.toArray)) (ex_build 69 _ rfl #[(0, .int .u8 2)] (parts1 rfl) (.agg ((idB 2).cs.toArray)) (build69_2 _)) ?_; clear F a; intro a F
 refine list_do (F.wants 32 true rfl (by kernel_rfl) rfl true rfl) (fun K hK => ?_)
 refine ow_call rfl rfl F 19 #[.slice (some ad) wk2.length c_6, .int .u64 7, .agg ((idB 2).cs.toArray)] (ex_call 19 _ _ rfl rfl r6_ent_19 _ (map3 (F.e rfl) rfl (F.e rfl))) (has_any wk2 wk_h2 _ _ 7 (idB 2) _ O_2.rd.1 O_2.rd.2.2 (by decide)) (fun e v hR => ?_)
 obtain ⟨he, hb⟩ := hR
 rw [wk_5] at he
 refine ⟨.bool true, he, ?_⟩; clear he F a; intro a F
 refine hK _ _ ?_
 clear hK K
 replace O_1 := O_1.below hb
 replace O_2 := O_2.below hb
 replace z := z.below hb
 replace M := M.below hb; clear hb; try clear u
 refine list_val F (wn rfl) rfl rfl (.bool true) (ex_pick_t _ _ _ rfl (F.e rfl) _ (F.e rfl)) ?_; clear F a; intro a F
 refine list_val F (wn rfl) rfl rfl (.bool true) (ex_move _ rfl _ (F.e rfl)) ?_; clear F a; intro a F
 refine list_val F (F.wants 37 true rfl (by kernel_rfl) rfl true rfl) rfl rfl (.slice (some ad) wk2.length c_6) (ex_move _ rfl _ (F.e rfl)) ?_; clear F a; intro a F
 refine list_do (F.wants 37 true rfl (by kernel_rfl) rfl true rfl) (fun K hK => ?_)
 refine ow_call rfl rfl F 26 #[.slice (some ad) wk2.length c_6, .int .i64 60] (ex_call 26 _ _ rfl rfl r6_ent_26 _ (map2 (F.e rfl) rfl)) (prune_any wk2 wk_h2 _ _ 60 _ O_2.rd.1 O_2.rd.2.2 (by decide)) (fun e u hR => ?_)
 obtain ⟨A_39, c_39, he, O_3, hb⟩ := hR
 rw [wk_6] at he; clear O_3
 refine ⟨.slice A_39 (([] : List Rv).length) c_39, he, ?_⟩; clear he F a; intro a F
 refine hK _ _ ?_
 clear hK K
 replace O_1 := O_1.below hb
 replace O_2 := O_2.below hb
 replace z := z.below hb
 replace M := M.below hb; clear hb; try clear v
 refine list_val F (F.wants 37 true rfl (by kernel_rfl) rfl true rfl) rfl rfl (.int .i64 ((([] : List Rv).length : Nat) : Int)) (ex_len _ _ rfl 19 r6_sl_57_19 _ _ _ (F.e rfl)) ?_; clear F a; intro a F
 refine list_val F (F.wants 37 true rfl (by kernel_rfl) rfl true rfl) rfl rfl (.bool true) (ex_bin .eql _ _ _ _ rfl .i64 _ _ (F.e rfl) rfl _ (b_eql (by decide))) ?_; clear F a; intro a F
 refine list_val F (wn rfl) rfl rfl (.bool true) (ex_pick_t _ _ _ rfl (F.e rfl) _ (F.e rfl)) ?_; clear F a; intro a F
 refine list_val F (wn rfl) rfl rfl (.bool true) (ex_move _ rfl _ (F.e rfl)) ?_; clear F a; intro a F
 refine list_val F (F.wants 43 true rfl (by kernel_rfl) rfl true rfl) rfl rfl (.slice (some ad) wk2.length c_6) (ex_move _ rfl _ (F.e rfl)) ?_; clear F a; intro a F
 refine list_do (F.wants 43 true rfl (by kernel_rfl) rfl true rfl) (fun K hK => ?_)
 refine ow_call rfl rfl F 26 #[.slice (some ad) wk2.length c_6, .int .i64 59] (ex_call 26 _ _ rfl rfl r6_ent_26 _ (map2 (F.e rfl) rfl)) (prune_any wk2 wk_h2 _ _ 59 _ O_2.rd.1 O_2.rd.2.2 (by decide)) (fun e v hR => ?_)
 obtain ⟨A_45, c_45, he, O_3, hb⟩ := hR
 rw [wk_7] at he; clear O_3
 refine ⟨.slice A_45 wk2.length c_45, he, ?_⟩; clear he F a; intro a F
 refine hK _ _ ?_
 clear hK K
 replace O_1 := O_1.below hb
 replace O_2 := O_2.below hb
 replace z := z.below hb
 replace M := M.below hb; clear hb; try clear u
 refine list_val F (F.wants 43 true rfl (by kernel_rfl) rfl true rfl) rfl rfl (.int .i64 ((wk2.length : Nat) : Int)) (ex_len _ _ rfl 19 r6_sl_57_19 _ _ _ (F.e rfl)) ?_; clear F a; intro a F
 refine list_val F (F.wants 43 true rfl (by kernel_rfl) rfl true rfl) rfl rfl (.bool true) (ex_bin .eql _ _ _ _ rfl .i64 _ _ (F.e rfl) rfl _ (b_eql (by decide))) ?_; clear F a; intro a F
 refine list_val F (wn rfl) rfl rfl (.bool true) (ex_pick_t _ _ _ rfl (F.e rfl) _ (F.e rfl)) ?_; clear F a; intro a F
 refine list_val F (wn rfl) rfl rfl (.bool true) (ex_assign _ rfl _ (F.e rfl)) ?_; clear F a; intro a F
 refine wpList_nil ?_
 replace F : Fr 49 a [(0, .bool true), (1, .slice A_4 wk1.length c_4), (2, .slice (some ad) wk2.length c_6)] := F.keep ⟨rfl, rfl, rfl, trivial⟩
 refine then_n ?_
 refine wp_ret ?_
 exact ret_tmp F rfl rfl ⟨rfl, M.bel⟩
end Go.Proofs.YtnjbjjmoglogeaaGreat
