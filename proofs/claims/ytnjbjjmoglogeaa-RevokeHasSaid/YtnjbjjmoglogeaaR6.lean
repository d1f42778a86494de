/- Of the laws' own functions: EqRevokeds (18) of two that are alike, CopyRevokeds (19), whole (20), step (16), later (17), num (11), wakes (15). Conditions: the rows are read, and are lists. -/
import Derived.Test.YtnjbjjmoglogeaaR5
import Derived.Test.YtnjbjjmoglogeaaP2
namespace Go.Proofs.Ytnjbjjmoglogeaa
open Go.RowKit Go.Proofs.YtnjbjjmoglogeaaW.PrintWords KB WG RO
set_option linter.unusedVariables false
set_option linter.unusedSimpArgs false
set_option linter.unnecessarySimpa false
theorem un4 : Try.prog.underlying 4 = some .bool := by kernel_rfl
theorem un25 : Try.prog.underlying 25 = some (.int .u64) := by kernel_rfl
theorem un2 : Try.prog.underlying 2 = some (.int .i64) := by kernel_rfl
theorem eqRv (a b : Rv) (w : World) : (Op.equalIn 10000 48 (.agg a.arr) (.agg b.arr)).run Try.prog w = .ok (decide (a = b)) w := by
  have h2 : ∀ k : Rv, k.arr.extract 2 (2 + 16) = k.id.cs.toArray := by
    intro k
    rw [show k.arr = k.cs.toArray from rfl, List.extract_toArray]
    congr 1
    show ((Value.bool k.whole :: Value.int .u64 k.grant :: (k.id.cs ++ [Value.int .i64 k.exp])).drop 2).take (2 + 16 - 2) = k.id.cs
    rw [List.drop_succ_cons, List.drop_succ_cons, List.drop_zero]
    exact List.take_left' (Bs.cs_len _)
  have p0 : ∀ k : Rv, (part 4 k.arr 0).run Try.prog w = .ok (.bool k.whole) w := fun k => run_part_plain w (by kernel_rfl) k.arr_0
  have p1 : ∀ k : Rv, (part 25 k.arr 1).run Try.prog w = .ok (.int .u64 k.grant) w := fun k => run_part_plain w (by kernel_rfl) k.arr_1
  have p3 : ∀ k : Rv, (part 2 k.arr 18).run Try.prog w = .ok (.int .i64 k.exp) w := fun k => run_part_plain w (by kernel_rfl) k.arr_18
  have p2 : ∀ k : Rv, (part 27 k.arr 2).run Try.prog w = .ok (.agg k.id.cs.toArray) w := by
    intro k
    have hs : (sizeOf 27).run Try.prog w = .ok 16 w := by kernel_rfl
    have ha : (isAgg 27).run Try.prog w = .ok true w := by kernel_rfl
    unfold part
    simp only [Sem.run_bind, ha, hs, Result.andThen_ok, if_true, Sem.run_pure, h2]
  have e : decide (a = b) = ((a.whole == b.whole) && ((a.grant == b.grant) && (decide (a.id = b.id) && (a.exp == b.exp)))) := by
    rw [Bool.eq_iff_iff]
    obtain ⟨aw, ag, ai, ae⟩ := a
    obtain ⟨bw, bg, bi, be⟩ := b
    simp only [decide_eq_true_iff, Bool.and_eq_true, beq_iff_eq, Rv.mk.injEq]
  have e27 : (Op.equalIn 9999 27 (.agg a.id.cs.toArray) (.agg b.id.cs.toArray)).run Try.prog w = .ok (decide (a.id = b.id)) w := by
    have h := run_equalIn_bytes (P := Try.prog) 9997 a.id.i b.id.i un27 un5 (by kernel_rfl) (by kernel_rfl) w
    rw [show decide (a.id.i = b.id.i) = decide (a.id = b.id) from decide_eq_decide.2 Bs.i_inj] at h
    exact h
  rw [e]
  refine eqA_of (d := 9999) Try.underlying48 (by kernel_rfl) ?_
  exact eqf_cons rfl (p0 a) (p0 b) (run_eqb un4 9998 a.whole b.whole w) (eqf_cons rfl (p1 a) (p1 b) (run_equalIn_int w 9998 25 _ _ _ _ un25) (eqf_cons rfl (p2 a) (p2 b) e27 (eqf_last rfl (p3 a) (p3 b) (run_equalIn_int w 9998 2 _ _ _ _ un2))))
theorem neqRv (a b : Rv) (w : World) : (binOp .neq 48 (.agg a.arr) (.agg b.arr)).run Try.prog w = .ok (.bool (!decide (a = b))) w := by
  rw [run_neq_struct, eqRv]; rfl
theorem ex_ne48 {op : Oper} {ρ : Operand → Value} {w : World} (x y : Operand) (z : TypeId) (ho : op.op = .binOp .neq 48 x y z) (a b : Rv) (hx : ρ x = .agg a.arr) (hy : ρ y = .agg b.arr) (r : Bool) (hr : (!decide (a = b)) = r) : (execOp ρ op).run Try.prog w = .ok (.value (.bool r)) w := by
  subst hr
  refine ex_neq 48 z x y ho _ _ hx hy _ ?_ (neqRv a b w)
  have e : Try.prog.eqGuardType Try.prog.depth 48 = false := by kernel_rfl
  unfold eqGuard
  simp [e]
/-! ### wakes -/
def idB (x : BitVec 8) : Bs 16 := ⟨x :: List.replicate 15 0, rfl⟩
theorem build27_1 (w : World) : (Instr.build 27 #[(0, .int .u8 1)]).run Try.prog w = .ok (.agg (idB 1).cs.toArray) w := by kernel_rfl
theorem build27_2 (w : World) : (Instr.build 27 #[(0, .int .u8 2)]).run Try.prog w = .ok (.agg (idB 2).cs.toArray) w := by kernel_rfl
def wk1 : List Rv := [⟨false, 7, idB 1, 50⟩]
def wk2 : List Rv := [⟨true, 7, zBs 16, 60⟩]
theorem wk_1 : addF [] 7 (idB 1) 50 = wk1 := by decide +kernel
theorem wk_2 : killF wk1 7 60 = wk2 := by decide +kernel
theorem wk_3 : hasF wk1 7 (idB 1) = true := by decide +kernel
theorem wk_4 : hasF wk1 7 (idB 2) = false := by decide +kernel
theorem wk_5 : hasF wk2 7 (idB 2) = true := by decide +kernel
theorem wk_6 : pruneF wk2 60 = [] := by decide +kernel
theorem wk_7 : pruneF wk2 59 = wk2 := by decide +kernel
theorem wk_h1 : IsL wk1 := by rw [← wk_1]; exact IsL.nil.add _ _ _
theorem wk_h2 : IsL wk2 := by rw [← wk_2]; exact wk_h1.kill _ _
theorem wk_g0 : wk2[0]? = some ⟨true, 7, zBs 16, 60⟩ := rfl
theorem le_mil {n m : Nat} (h : n ≤ m) (hm : m ≤ 1000000) : n ≤ 1000000 := Nat.le_trans h hm
theorem r6_sl_23_19 : sl? Try.prog 23 19 = true := by kernel_rfl
theorem r6_follows_mixedOrders : Try.prog.follows .mixedOrders = true := by kernel_rfl
set_option maxHeartbeats 1000000 in
set_option maxRecDepth 100000 in
theorem eq_any (xs : List Rv) (A B : Option Addr) (c d : Nat) (w : World) (hrA : kRv.C w A xs.length xs) (hrB : kRv.C w B xs.length xs) (hmx : xs.length ≤ 1000000) :
    Calls Try.prog 18 #[.slice A xs.length c, .slice B xs.length d] w fun e w' => e = .returned (.bool true) ∧ Below w.heap.size w w' := by
 refine calls_start Try.func18 rfl rfl rfl (fun a F => ?_)
 have M : Mm w w [] := Mm.nil w
 refine wp_seq ?_
 refine wp_region_lit ?_
 refine list_val F (wn rfl) rfl rfl (.bool false) (ex_assign _ rfl _ rfl) ?_; clear F a; intro a F
 refine wpList_nil ?_
 replace F : Fr 26 a [(0, .slice A xs.length c), (1, .slice B xs.length d), (4, .bool false)] := F.keep ⟨rfl, rfl, rfl, trivial⟩
 refine then_n ?_
 refine wp_seq ?_
 refine wp_seq ?_
 refine wp_region_lit ?_
 refine list_val F (wn rfl) rfl rfl (.slice A xs.length c) (ex_move _ rfl _ (F.e rfl)) ?_; clear F a; intro a F
 refine list_val F (wn rfl) rfl rfl (.int .i64 ((xs.length : Nat) : Int)) (ex_len _ _ rfl 19 r6_sl_23_19 _ _ _ (F.e rfl)) ?_; clear F a; intro a F
 refine list_val F (wn rfl) rfl rfl (.slice B xs.length d) (ex_move _ rfl _ (F.e rfl)) ?_; clear F a; intro a F
 refine list_val F (wn rfl) rfl rfl (.int .i64 ((xs.length : Nat) : Int)) (ex_len _ _ rfl 19 r6_sl_23_19 _ _ _ (F.e rfl)) ?_; clear F a; intro a F
 refine list_val F (wn rfl) rfl rfl (.bool false) (ex_bin .neq _ _ _ _ rfl .i64 _ _ (F.e rfl) (F.e rfl) _ (b_neq (by simp))) ?_; clear F a; intro a F
 refine wpList_nil ?_
 replace F : Fr 26 a [(0, .slice A xs.length c), (1, .slice B xs.length d), (4, .bool false), (10, .bool false)] := F.keep ⟨rfl, rfl, rfl, rfl, trivial⟩
 refine then_n ?_
 refine wp_cond_false (F.e rfl) ?_
 refine wp_skip ?_
 refine then_n ?_
 refine wp_seq ?_
 refine wp_seq ?_
 refine wp_region_lit ?_
 refine list_val F (wn rfl) rfl rfl (.int .i64 0) (ex_assign _ rfl _ rfl) ?_; clear F a; intro a F
 refine wpList_nil ?_
 replace F : Fr 26 a [(0, .slice A xs.length c), (1, .slice B xs.length d), (4, .bool false), (5, .int .i64 0), (10, .bool false)] := F.keep ⟨rfl, rfl, rfl, rfl, rfl, trivial⟩
 refine then_n ?_
 refine wp_block ?_
 refine wp_loopN (fun mq ar wr => ∃ (i : Nat), Fr 26 ar [(0, .slice A xs.length c), (1, .slice B xs.length d), (4, .bool false), (5, .int .i64 ((i : Nat) : Int)), (10, .bool false)] ∧ Mm w wr [] ∧ i ≤ xs.length ∧ mq + i = xs.length) xs.length ?_ ?_
 ·
  exact ⟨0, F.keep ⟨rfl, rfl, rfl, rfl, rfl, trivial⟩, M, (Nat.zero_le _), (by omega)⟩
 clear F M a
 rintro mq a v ⟨i, F, M, hi, hq⟩; try clear w
 by_cases hin : i < xs.length
 ·
  obtain ⟨x, hx⟩ : ∃ x, xs[i]? = some x := ⟨_, List.getElem?_eq_getElem (by omega)⟩
  obtain ⟨ad, hA, z⟩ := C_ix hrA hx
  obtain ⟨ad2, hA2, z2⟩ := C_ix hrB hx
  subst hA hA2
  refine wp_seq ?_
  refine wp_seq ?_
  refine wp_region_lit ?_
  refine list_val F (wn rfl) rfl rfl (.int .i64 ((i : Nat) : Int)) (ex_move _ rfl _ (F.e rfl)) ?_; clear F a; intro a F
  refine list_val F (wn rfl) rfl rfl (.slice (some ad) xs.length c) (ex_move _ rfl _ (F.e rfl)) ?_; clear F a; intro a F
  refine list_val F (wn rfl) rfl rfl (.int .i64 ((xs.length : Nat) : Int)) (ex_len _ _ rfl 19 r6_sl_23_19 _ _ _ (F.e rfl)) ?_; clear F a; intro a F
  refine list_val F (wn rfl) rfl rfl (.bool true) (ex_bin .lss _ _ _ _ rfl .i64 _ _ (F.e rfl) (F.e rfl) _ (b_lss (decide_eq_true (by omega)))) ?_; clear F a; intro a F
  refine wpList_nil ?_
  replace F : Fr 26 a [(0, .slice (some ad) xs.length c), (1, .slice (some ad2) xs.length d), (4, .bool false), (5, .int .i64 ((i : Nat) : Int)), (10, .bool false), (14, .bool true)] := F.keep ⟨rfl, rfl, rfl, rfl, rfl, rfl, trivial⟩
  refine then_n ?_
  refine wp_cond_true (F.e rfl) ?_
  refine wp_skip ?_
  refine then_n ?_
  refine wp_seq ?_
  refine wp_block ?_
  refine wp_seq ?_
  refine region_tail 8 r6_follows_mixedOrders (by kernel_rfl) M ?_; clear M; intro u M hb
  clear hb; try clear v
  refine still_val F (wn rfl) rfl rfl (.slice (some ad) xs.length c) (ex_move _ rfl _ (F.e rfl)) ?_; clear F a; intro a F
  refine still_val F (wn rfl) rfl rfl (.int .i64 ((i : Nat) : Int)) (ex_move _ rfl _ (F.e rfl)) ?_; clear F a; intro a F
  refine still_val F (wn rfl) rfl rfl (.pointer (some (ad.add (i * 19)))) (ex_ix _ _ _ rfl 19 r6_sl_23_19 ad _ _ (F.e rfl) .i64 _ (F.e rfl) i rfl (by omega) (ad.add (i * 19)) rfl) ?_; clear F a; intro a F
  refine still_val F (wn rfl) rfl rfl (.agg x.arr) (ex_load _ _ rfl _ (F.e rfl) _ (lrow48 x ((z.below M.bel)))) ?_; clear F a; intro a F
  refine still_val F (wn rfl) rfl rfl (.slice (some ad2) xs.length d) (ex_move _ rfl _ (F.e rfl)) ?_; clear F a; intro a F
  refine still_val F (wn rfl) rfl rfl (.int .i64 ((i : Nat) : Int)) (ex_move _ rfl _ (F.e rfl)) ?_; clear F a; intro a F
  refine still_val F (wn rfl) rfl rfl (.pointer (some (ad2.add (i * 19)))) (ex_ix _ _ _ rfl 19 r6_sl_23_19 ad2 _ _ (F.e rfl) .i64 _ (F.e rfl) i rfl (by omega) (ad2.add (i * 19)) rfl) ?_; clear F a; intro a F
  refine still_val F (wn rfl) rfl rfl (.agg x.arr) (ex_load _ _ rfl _ (F.e rfl) _ (lrow48 x ((z2.below M.bel)))) ?_; clear F a; intro a F
  refine still_end ?_
  refine list_val F (wn rfl) rfl rfl (.bool false) (ex_ne48 _ _ _ rfl x x (F.e rfl) (F.e rfl) false (by simp)) ?_; clear F a; intro a F
  refine wpList_nil ?_
  replace F : Fr 26 a [(0, .slice (some ad) xs.length c), (1, .slice (some ad2) xs.length d), (4, .bool false), (5, .int .i64 ((i : Nat) : Int)), (10, .bool false), (14, .bool true), (25, .bool false)] := F.keep ⟨rfl, rfl, rfl, rfl, rfl, rfl, rfl, trivial⟩
  refine then_n ?_
  refine wp_cond_false (F.e rfl) ?_
  refine wp_skip ?_
  refine in_n ?_
  refine then_n ?_
  refine wp_region_lit ?_
  refine list_val F (wn rfl) rfl rfl (.int .i64 ((i : Nat) : Int)) (ex_move _ rfl _ (F.e rfl)) ?_; clear F a; intro a F
  refine list_val F (wn rfl) rfl rfl (.int .i64 ((i + 1 : Nat) : Int)) (ex_bin .add _ _ _ _ rfl .i64 _ _ (F.e rfl) rfl _ (b_add ((w_i64 (by omega) (by omega)).trans (by omega)))) ?_; clear F a; intro a F
  refine list_val F (wn rfl) rfl rfl (.int .i64 ((i + 1 : Nat) : Int)) (ex_assign _ rfl _ (F.e rfl)) ?_; clear F a; intro a F
  refine wpList_nil ?_
  replace F : Fr 26 a [(0, .slice (some ad) xs.length c), (1, .slice (some ad2) xs.length d), (4, .bool false), (5, .int .i64 ((i + 1 : Nat) : Int)), (10, .bool false), (14, .bool true), (25, .bool false)] := F.keep ⟨rfl, rfl, rfl, rfl, rfl, rfl, rfl, trivial⟩
  refine then_n ?_
  exact ⟨xs.length - (i + 1), by omega, (i + 1), F.keep ⟨rfl, rfl, rfl, rfl, rfl, trivial⟩, (by refine M.pick' [] _ ?_ (by decide); exact trivial), (by omega), (by omega)⟩
 refine wp_seq ?_
 refine wp_seq ?_
 refine wp_region_lit ?_
 refine list_val F (wn rfl) rfl rfl (.int .i64 ((i : Nat) : Int)) (ex_move _ rfl _ (F.e rfl)) ?_; clear F a; intro a F
 refine list_val F (wn rfl) rfl rfl (.slice A xs.length c) (ex_move _ rfl _ (F.e rfl)) ?_; clear F a; intro a F
 refine list_val F (wn rfl) rfl rfl (.int .i64 ((xs.length : Nat) : Int)) (ex_len _ _ rfl 19 r6_sl_23_19 _ _ _ (F.e rfl)) ?_; clear F a; intro a F
 refine list_val F (wn rfl) rfl rfl (.bool false) (ex_bin .lss _ _ _ _ rfl .i64 _ _ (F.e rfl) (F.e rfl) _ (b_lss (decide_eq_false (by omega)))) ?_; clear F a; intro a F
 refine wpList_nil ?_
 replace F : Fr 26 a [(0, .slice A xs.length c), (1, .slice B xs.length d), (4, .bool false), (5, .int .i64 ((i : Nat) : Int)), (10, .bool false), (14, .bool false)] := F.keep ⟨rfl, rfl, rfl, rfl, rfl, rfl, trivial⟩
 refine then_n ?_
 refine wp_cond_false (F.e rfl) ?_
 refine wp_exit ?_
 refine then_x ?_
 refine then_x ?_
 refine in_hit ?_
 refine then_n ?_
 refine wp_seq ?_
 refine wp_region_lit ?_
 refine list_val F (wn rfl) rfl rfl (.bool true) (ex_assign _ rfl _ rfl) ?_; clear F a; intro a F
 refine wpList_nil ?_
 replace F : Fr 26 a [(0, .slice A xs.length c), (1, .slice B xs.length d), (4, .bool true), (5, .int .i64 ((i : Nat) : Int)), (10, .bool false), (14, .bool false)] := F.keep ⟨rfl, rfl, rfl, rfl, rfl, rfl, trivial⟩
 refine then_n ?_
 refine wp_ret ?_
 exact ret_tmp F rfl rfl ⟨rfl, M.bel⟩
set_option maxHeartbeats 1000000 in
set_option maxRecDepth 100000 in
theorem copy_any (xs : List Rv) (A : Option Addr) (c : Nat) (w : World) (hr : kRv.C w A xs.length xs) (hmx : xs.length ≤ 1000000) :
    Calls Try.prog 19 #[.slice A xs.length c] w fun r w' => ∃ A' c', r = .returned (.slice A' xs.length c') ∧ Ow kRv 48 w' w.heap.size (.slice A' xs.length c') xs ∧ Below w.heap.size w w' := by
 refine calls_start Try.func19 rfl rfl rfl (fun a F => ?_)
 have M : Mm w w [] := Mm.nil w
 refine wp_seq ?_
 refine wp_region_lit ?_
 refine list_val F (wn rfl) rfl rfl (.slice none 0 0) (ex_assign _ rfl _ rfl) ?_; clear F a; intro a F
 refine wpList_nil ?_
 replace F : Fr 8 a [(0, .slice A xs.length c), (2, .slice none 0 0)] := F.keep ⟨rfl, rfl, trivial⟩
 refine then_n ?_
 refine wp_seq ?_
 refine wp_region_lit ?_
 refine list_val F (wn rfl) rfl rfl (.slice none 0 0) (ex_assign _ rfl _ rfl) ?_; clear F a; intro a F
 refine wpList_nil ?_
 replace F : Fr 8 a [(0, .slice A xs.length c), (2, .slice none 0 0), (3, .slice none 0 0)] := F.keep ⟨rfl, rfl, rfl, trivial⟩
 refine then_n ?_
 refine wp_seq ?_
 refine wp_region_lit ?_
 refine list_val F (wn rfl) rfl rfl (.slice none 0 0) (ex_move _ rfl _ (F.e rfl)) ?_; clear F a; intro a F
 refine list_val F (wn rfl) rfl rfl (.slice A xs.length c) (ex_move _ rfl _ (F.e rfl)) ?_; clear F a; intro a F
 refine list_do (wn rfl) (fun K hK => ?_)
 have O_x : Ow kRv 48 w w.heap.size (.slice none 0 0) [] := Ow.nil _ _ _ _
 replace M : Mm w w [] := (by refine M.pick' [] _ ?_ (by decide); exact trivial)
 refine og_app F M Try.underlying23 i48 z48s (by decide) (by decide) (Nat.le_refl _) M.bel.size trivial rfl rfl rfl _ _ rfl (.slice none 0 0) ([]) xs xs rfl A xs.length c (F.e rfl) (F.e rfl) O_x (Kd.C_below hr M.bel) (by simp; omega) ?_
 clear F a; have Mo := M; clear M; intro a A_6 c_6 v F M Oz hgr
 refine hK _ _ ?_
 clear hK K
 clear O_x Mo hgr; have O_x := Oz; clear Oz; try clear w
 refine list_val F (wn rfl) rfl rfl (.slice A_6 xs.length c_6) (ex_assign _ rfl _ (F.e rfl)) ?_; clear F a; intro a F
 refine wpList_nil ?_
 replace F : Fr 8 a [(0, .slice A xs.length c), (2, .slice none 0 0), (3, .slice A_6 xs.length c_6)] := F.keep ⟨rfl, rfl, rfl, trivial⟩
 refine then_n ?_
 refine wp_seq ?_
 refine wp_region_lit ?_
 refine list_val F (wn rfl) rfl rfl (.slice A_6 xs.length c_6) (ex_move _ rfl _ (F.e rfl)) ?_; clear F a; intro a F
 refine list_val F (wn rfl) rfl rfl (.slice A_6 xs.length c_6) (ex_assign _ rfl _ (F.e rfl)) ?_; clear F a; intro a F
 refine wpList_nil ?_
 replace F : Fr 8 a [(0, .slice A xs.length c), (2, .slice A_6 xs.length c_6), (3, .slice A_6 xs.length c_6)] := F.keep ⟨rfl, rfl, rfl, trivial⟩
 refine then_n ?_
 refine wp_ret ?_
 exact ret_tmp F rfl rfl ⟨A_6, c_6, rfl, O_x, M.bel⟩
theorem r6_fa_48_1_1 : fa? Try.prog 48 1 1 = true := by kernel_rfl
theorem r6_one_25 : one? Try.prog 25 = true := by kernel_rfl
theorem r6_fa_48_0_0 : fa? Try.prog 48 0 0 = true := by kernel_rfl
theorem r6_one_4 : one? Try.prog 4 = true := by kernel_rfl
set_option maxHeartbeats 1000000 in
set_option maxRecDepth 100000 in
theorem whole_any (xs : List Rv) (A : Option Addr) (c : Nat) (g : Int) (w : World) (hr : kRv.C w A xs.length xs) (hmx : xs.length ≤ 1000000) :
    Calls Try.prog 20 #[.slice A xs.length c, .int .u64 g] w fun e w' => e = .returned (.bool (wholeF xs g)) ∧ Below w.heap.size w w' := by
 refine calls_start Try.func20 rfl rfl rfl (fun a F => ?_)
 have M : Mm w w [] := Mm.nil w
 refine wp_seq ?_
 refine wp_region_lit ?_
 refine list_val F (wn rfl) rfl rfl (.bool false) (ex_assign _ rfl _ rfl) ?_; clear F a; intro a F
 refine wpList_nil ?_
 replace F : Fr 26 a [(0, .slice A xs.length c), (1, .int .u64 g), (4, .bool false)] := F.keep ⟨rfl, rfl, rfl, trivial⟩
 refine then_n ?_
 refine wp_seq ?_
 refine wp_seq ?_
 refine wp_region_lit ?_
 refine list_val F (wn rfl) rfl rfl (.int .i64 0) (ex_assign _ rfl _ rfl) ?_; clear F a; intro a F
 refine wpList_nil ?_
 replace F : Fr 26 a [(0, .slice A xs.length c), (1, .int .u64 g), (4, .bool false), (5, .int .i64 0)] := F.keep ⟨rfl, rfl, rfl, rfl, trivial⟩
 refine then_n ?_
 refine wp_block ?_
 refine wp_loopN (fun mq ar wr => ∃ (i : Nat), Fr 26 ar [(0, .slice A xs.length c), (1, .int .u64 g), (4, .bool false), (5, .int .i64 ((i : Nat) : Int))] ∧ Mm w wr [] ∧ i ≤ xs.length ∧ (∀ (j : Nat), j < i → ∀ y, xs[j]? = some y → y.grant = g → y.whole = false) ∧ mq + i = xs.length) xs.length ?_ ?_
 ·
  exact ⟨0, F.keep ⟨rfl, rfl, rfl, rfl, trivial⟩, M, (Nat.zero_le _), (fun j hj => absurd hj (Nat.not_lt_zero j)), (by omega)⟩
 clear F M a
 rintro mq a v ⟨i, F, M, hi, hno, hq⟩; try clear w
 by_cases hin : i < xs.length
 ·
  obtain ⟨x, hx⟩ : ∃ x, xs[i]? = some x := ⟨_, List.getElem?_eq_getElem (by omega)⟩
  obtain ⟨ad, hA, z⟩ := C_ix hr hx
  subst hA
  refine wp_seq ?_
  refine wp_seq ?_
  refine wp_region_lit ?_
  refine list_val F (wn rfl) rfl rfl (.int .i64 ((i : Nat) : Int)) (ex_move _ rfl _ (F.e rfl)) ?_; clear F a; intro a F
  refine list_val F (wn rfl) rfl rfl (.slice (some ad) xs.length c) (ex_move _ rfl _ (F.e rfl)) ?_; clear F a; intro a F
  refine list_val F (wn rfl) rfl rfl (.int .i64 ((xs.length : Nat) : Int)) (ex_len _ _ rfl 19 r6_sl_23_19 _ _ _ (F.e rfl)) ?_; clear F a; intro a F
  refine list_val F (wn rfl) rfl rfl (.bool true) (ex_bin .lss _ _ _ _ rfl .i64 _ _ (F.e rfl) (F.e rfl) _ (b_lss (decide_eq_true (by omega)))) ?_; clear F a; intro a F
  refine wpList_nil ?_
  replace F : Fr 26 a [(0, .slice (some ad) xs.length c), (1, .int .u64 g), (4, .bool false), (5, .int .i64 ((i : Nat) : Int)), (9, .bool true)] := F.keep ⟨rfl, rfl, rfl, rfl, rfl, trivial⟩
  refine then_n ?_
  refine wp_cond_true (F.e rfl) ?_
  refine wp_skip ?_
  refine then_n ?_
  refine wp_seq ?_
  refine wp_block ?_
  refine wp_seq ?_
  by_cases hg : x.grant = g
  ·
   by_cases hw : x.whole = true
   ·
    refine wp_region_lit ?_
    refine list_val F (wn rfl) rfl rfl (.slice (some ad) xs.length c) (ex_move _ rfl _ (F.e rfl)) ?_; clear F a; intro a F
    refine list_val F (wn rfl) rfl rfl (.int .i64 ((i : Nat) : Int)) (ex_move _ rfl _ (F.e rfl)) ?_; clear F a; intro a F
    refine list_val F (wn rfl) rfl rfl (.pointer (some (ad.add (i * 19)))) (ex_ix _ _ _ rfl 19 r6_sl_23_19 ad _ _ (F.e rfl) .i64 _ (F.e rfl) i rfl (by omega) (ad.add (i * 19)) rfl) ?_; clear F a; intro a F
    refine list_val F (wn rfl) rfl rfl (.pointer (some ((ad.add (i * 19)).add 1))) (ex_fa _ _ _ rfl _ (F.e rfl) 1 r6_fa_48_1_1 ((ad.add (i * 19)).add 1) rfl) ?_; clear F a; intro a F
    refine list_val F (wn rfl) rfl rfl (.int .u64 x.grant) (ex_load _ _ rfl _ (F.e rfl) _ (lv1 r6_one_25 ((z.below M.bel).cell 1 _ (Rv.cs_1 _)))) ?_; clear F a; intro a F
    refine list_val F (wn rfl) rfl rfl (.int .u64 g) (ex_move _ rfl _ (F.e rfl)) ?_; clear F a; intro a F
    refine list_val F (wn rfl) rfl rfl (.bool true) (ex_bin .eql _ _ _ _ rfl .u64 _ _ (F.e rfl) (F.e rfl) _ (b_eql (by simp [hg]))) ?_; clear F a; intro a F
    refine list_val F (wn rfl) rfl rfl (.bool true) (ex_move _ rfl _ (F.e rfl)) ?_; clear F a; intro a F
    refine list_val F (F.wants 19 true rfl (by kernel_rfl) rfl true rfl) rfl rfl (.slice (some ad) xs.length c) (ex_move _ rfl _ (F.e rfl)) ?_; clear F a; intro a F
    refine list_val F (F.wants 19 true rfl (by kernel_rfl) rfl true rfl) rfl rfl (.int .i64 ((i : Nat) : Int)) (ex_move _ rfl _ (F.e rfl)) ?_; clear F a; intro a F
    refine list_val F (F.wants 19 true rfl (by kernel_rfl) rfl true rfl) rfl rfl (.pointer (some (ad.add (i * 19)))) (ex_ix _ _ _ rfl 19 r6_sl_23_19 ad _ _ (F.e rfl) .i64 _ (F.e rfl) i rfl (by omega) (ad.add (i * 19)) rfl) ?_; clear F a; intro a F
    refine list_val F (F.wants 19 true rfl (by kernel_rfl) rfl true rfl) rfl rfl (.pointer (some (ad.add (i * 19)))) (ex_fa _ _ _ rfl _ (F.e rfl) 0 r6_fa_48_0_0 (ad.add (i * 19)) rfl) ?_; clear F a; intro a F
    refine list_val F (F.wants 19 true rfl (by kernel_rfl) rfl true rfl) rfl rfl (.bool true) (ex_load _ _ rfl _ (F.e rfl) _ (lv1 r6_one_4 ((z.below M.bel).cell 0 _ (Rv.cs_0e hw)))) ?_; clear F a; intro a F
    refine list_val F (wn rfl) rfl rfl (.bool true) (ex_pick_t _ _ _ rfl (F.e rfl) _ (F.e rfl)) ?_; clear F a; intro a F
    refine wpList_nil ?_
    replace F : Fr 26 a [(0, .slice (some ad) xs.length c), (1, .int .u64 g), (4, .bool false), (5, .int .i64 ((i : Nat) : Int)), (9, .bool true), (25, .bool true)] := F.keep ⟨rfl, rfl, rfl, rfl, rfl, rfl, trivial⟩
    refine then_n ?_
    refine wp_cond_true (F.e rfl) ?_
    refine wp_seq ?_
    refine wp_region_lit ?_
    refine list_val F (wn rfl) rfl rfl (.bool true) (ex_assign _ rfl _ rfl) ?_; clear F a; intro a F
    refine wpList_nil ?_
    replace F : Fr 26 a [(0, .slice (some ad) xs.length c), (1, .int .u64 g), (4, .bool true), (5, .int .i64 ((i : Nat) : Int)), (9, .bool true), (25, .bool true)] := F.keep ⟨rfl, rfl, rfl, rfl, rfl, rfl, trivial⟩
    refine then_n ?_
    refine wp_ret ?_
    refine in_r ?_
    refine then_r ?_
    refine then_r ?_
    refine in_r ?_
    refine then_r ?_
    exact ret_tmp F rfl rfl ⟨by rw [whole_yes hx hg hw], M.bel⟩
   refine wp_region_lit ?_
   refine list_val F (wn rfl) rfl rfl (.slice (some ad) xs.length c) (ex_move _ rfl _ (F.e rfl)) ?_; clear F a; intro a F
   refine list_val F (wn rfl) rfl rfl (.int .i64 ((i : Nat) : Int)) (ex_move _ rfl _ (F.e rfl)) ?_; clear F a; intro a F
   refine list_val F (wn rfl) rfl rfl (.pointer (some (ad.add (i * 19)))) (ex_ix _ _ _ rfl 19 r6_sl_23_19 ad _ _ (F.e rfl) .i64 _ (F.e rfl) i rfl (by omega) (ad.add (i * 19)) rfl) ?_; clear F a; intro a F
   refine list_val F (wn rfl) rfl rfl (.pointer (some ((ad.add (i * 19)).add 1))) (ex_fa _ _ _ rfl _ (F.e rfl) 1 r6_fa_48_1_1 ((ad.add (i * 19)).add 1) rfl) ?_; clear F a; intro a F
   refine list_val F (wn rfl) rfl rfl (.int .u64 x.grant) (ex_load _ _ rfl _ (F.e rfl) _ (lv1 r6_one_25 ((z.below M.bel).cell 1 _ (Rv.cs_1 _)))) ?_; clear F a; intro a F
   refine list_val F (wn rfl) rfl rfl (.int .u64 g) (ex_move _ rfl _ (F.e rfl)) ?_; clear F a; intro a F
   refine list_val F (wn rfl) rfl rfl (.bool true) (ex_bin .eql _ _ _ _ rfl .u64 _ _ (F.e rfl) (F.e rfl) _ (b_eql (by simp [hg]))) ?_; clear F a; intro a F
   refine list_val F (wn rfl) rfl rfl (.bool true) (ex_move _ rfl _ (F.e rfl)) ?_; clear F a; intro a F
   refine list_val F (F.wants 19 true rfl (by kernel_rfl) rfl true rfl) rfl rfl (.slice (some ad) xs.length c) (ex_move _ rfl _ (F.e rfl)) ?_; clear F a; intro a F
   refine list_val F (F.wants 19 true rfl (by kernel_rfl) rfl true rfl) rfl rfl (.int .i64 ((i : Nat) : Int)) (ex_move _ rfl _ (F.e rfl)) ?_; clear F a; intro a F
   refine list_val F (F.wants 19 true rfl (by kernel_rfl) rfl true rfl) rfl rfl (.pointer (some (ad.add (i * 19)))) (ex_ix _ _ _ rfl 19 r6_sl_23_19 ad _ _ (F.e rfl) .i64 _ (F.e rfl) i rfl (by omega) (ad.add (i * 19)) rfl) ?_; clear F a; intro a F
   refine list_val F (F.wants 19 true rfl (by kernel_rfl) rfl true rfl) rfl rfl (.pointer (some (ad.add (i * 19)))) (ex_fa _ _ _ rfl _ (F.e rfl) 0 r6_fa_48_0_0 (ad.add (i * 19)) rfl) ?_; clear F a; intro a F
   refine list_val F (F.wants 19 true rfl (by kernel_rfl) rfl true rfl) rfl rfl (.bool false) (ex_load _ _ rfl _ (F.e rfl) _ (lv1 r6_one_4 ((z.below M.bel).cell 0 _ (Rv.cs_0e (Bool.eq_false_iff.2 hw))))) ?_; clear F a; intro a F
   refine list_val F (wn rfl) rfl rfl (.bool false) (ex_pick_t _ _ _ rfl (F.e rfl) _ (F.e rfl)) ?_; clear F a; intro a F
   refine wpList_nil ?_
   replace F : Fr 26 a [(0, .slice (some ad) xs.length c), (1, .int .u64 g), (4, .bool false), (5, .int .i64 ((i : Nat) : Int)), (9, .bool true), (25, .bool false)] := F.keep ⟨rfl, rfl, rfl, rfl, rfl, rfl, trivial⟩
   refine then_n ?_
   refine wp_cond_false (F.e rfl) ?_
   refine wp_skip ?_
   refine in_n ?_
   refine then_n ?_
   refine wp_region_lit ?_
   refine list_val F (wn rfl) rfl rfl (.int .i64 ((i : Nat) : Int)) (ex_move _ rfl _ (F.e rfl)) ?_; clear F a; intro a F
   refine list_val F (wn rfl) rfl rfl (.int .i64 ((i + 1 : Nat) : Int)) (ex_bin .add _ _ _ _ rfl .i64 _ _ (F.e rfl) rfl _ (b_add ((w_i64 (by omega) (by omega)).trans (by omega)))) ?_; clear F a; intro a F
   refine list_val F (wn rfl) rfl rfl (.int .i64 ((i + 1 : Nat) : Int)) (ex_assign _ rfl _ (F.e rfl)) ?_; clear F a; intro a F
   refine wpList_nil ?_
   replace F : Fr 26 a [(0, .slice (some ad) xs.length c), (1, .int .u64 g), (4, .bool false), (5, .int .i64 ((i + 1 : Nat) : Int)), (9, .bool true), (25, .bool false)] := F.keep ⟨rfl, rfl, rfl, rfl, rfl, rfl, trivial⟩
   refine then_n ?_
   exact ⟨xs.length - (i + 1), by omega, (i + 1), F.keep ⟨rfl, rfl, rfl, rfl, trivial⟩, (by refine M.pick' [] _ ?_ (by decide); exact trivial), (by omega), (fun j hj => (Nat.lt_or_eq_of_le (Nat.le_of_lt_succ hj)).elim (fun h_ => hno j h_) (fun h_ => by subst h_; exact (fun y hy _ => by obtain rfl := Option.some.inj (hx.symm.trans hy); exact Bool.eq_false_iff.2 hw))), (by omega)⟩
  refine wp_region_lit ?_
  refine list_val F (wn rfl) rfl rfl (.slice (some ad) xs.length c) (ex_move _ rfl _ (F.e rfl)) ?_; clear F a; intro a F
  refine list_val F (wn rfl) rfl rfl (.int .i64 ((i : Nat) : Int)) (ex_move _ rfl _ (F.e rfl)) ?_; clear F a; intro a F
  refine list_val F (wn rfl) rfl rfl (.pointer (some (ad.add (i * 19)))) (ex_ix _ _ _ rfl 19 r6_sl_23_19 ad _ _ (F.e rfl) .i64 _ (F.e rfl) i rfl (by omega) (ad.add (i * 19)) rfl) ?_; clear F a; intro a F
  refine list_val F (wn rfl) rfl rfl (.pointer (some ((ad.add (i * 19)).add 1))) (ex_fa _ _ _ rfl _ (F.e rfl) 1 r6_fa_48_1_1 ((ad.add (i * 19)).add 1) rfl) ?_; clear F a; intro a F
  refine list_val F (wn rfl) rfl rfl (.int .u64 x.grant) (ex_load _ _ rfl _ (F.e rfl) _ (lv1 r6_one_25 ((z.below M.bel).cell 1 _ (Rv.cs_1 _)))) ?_; clear F a; intro a F
  refine list_val F (wn rfl) rfl rfl (.int .u64 g) (ex_move _ rfl _ (F.e rfl)) ?_; clear F a; intro a F
  refine list_val F (wn rfl) rfl rfl (.bool false) (ex_bin .eql _ _ _ _ rfl .u64 _ _ (F.e rfl) (F.e rfl) _ (b_eql (by simp [hg]))) ?_; clear F a; intro a F
  refine list_val F (wn rfl) rfl rfl (.bool false) (ex_move _ rfl _ (F.e rfl)) ?_; clear F a; intro a F
  refine list_skip F (F.wants 19 false rfl (by kernel_rfl) rfl false rfl) rfl rfl ?_; clear F a; intro a F
  refine list_skip F (F.wants 19 false rfl (by kernel_rfl) rfl false rfl) rfl rfl ?_; clear F a; intro a F
  refine list_skip F (F.wants 19 false rfl (by kernel_rfl) rfl false rfl) rfl rfl ?_; clear F a; intro a F
  refine list_skip F (F.wants 19 false rfl (by kernel_rfl) rfl false rfl) rfl rfl ?_; clear F a; intro a F
  refine list_skip F (F.wants 19 false rfl (by kernel_rfl) rfl false rfl) rfl rfl ?_; clear F a; intro a F
  refine list_val F (wn rfl) rfl rfl (.bool false) (ex_pick_f _ _ _ rfl (F.e rfl) _ rfl) ?_; clear F a; intro a F
  refine wpList_nil ?_
  replace F : Fr 26 a [(0, .slice (some ad) xs.length c), (1, .int .u64 g), (4, .bool false), (5, .int .i64 ((i : Nat) : Int)), (9, .bool true), (25, .bool false)] := F.keep ⟨rfl, rfl, rfl, rfl, rfl, rfl, trivial⟩
  refine then_n ?_
  refine wp_cond_false (F.e rfl) ?_
  refine wp_skip ?_
  refine in_n ?_
  refine then_n ?_
  refine wp_region_lit ?_
  refine list_val F (wn rfl) rfl rfl (.int .i64 ((i : Nat) : Int)) (ex_move _ rfl _ (F.e rfl)) ?_; clear F a; intro a F
  refine list_val F (wn rfl) rfl rfl (.int .i64 ((i + 1 : Nat) : Int)) (ex_bin .add _ _ _ _ rfl .i64 _ _ (F.e rfl) rfl _ (b_add ((w_i64 (by omega) (by omega)).trans (by omega)))) ?_; clear F a; intro a F
  refine list_val F (wn rfl) rfl rfl (.int .i64 ((i + 1 : Nat) : Int)) (ex_assign _ rfl _ (F.e rfl)) ?_; clear F a; intro a F
  refine wpList_nil ?_
  replace F : Fr 26 a [(0, .slice (some ad) xs.length c), (1, .int .u64 g), (4, .bool false), (5, .int .i64 ((i + 1 : Nat) : Int)), (9, .bool true), (25, .bool false)] := F.keep ⟨rfl, rfl, rfl, rfl, rfl, rfl, trivial⟩
  refine then_n ?_
  exact ⟨xs.length - (i + 1), by omega, (i + 1), F.keep ⟨rfl, rfl, rfl, rfl, trivial⟩, (by refine M.pick' [] _ ?_ (by decide); exact trivial), (by omega), (fun j hj => (Nat.lt_or_eq_of_le (Nat.le_of_lt_succ hj)).elim (fun h_ => hno j h_) (fun h_ => by subst h_; exact (fun y hy hyg => by obtain rfl := Option.some.inj (hx.symm.trans hy); exact absurd hyg hg))), (by omega)⟩
 refine wp_seq ?_
 refine wp_seq ?_
 refine wp_region_lit ?_
 refine list_val F (wn rfl) rfl rfl (.int .i64 ((i : Nat) : Int)) (ex_move _ rfl _ (F.e rfl)) ?_; clear F a; intro a F
 refine list_val F (wn rfl) rfl rfl (.slice A xs.length c) (ex_move _ rfl _ (F.e rfl)) ?_; clear F a; intro a F
 refine list_val F (wn rfl) rfl rfl (.int .i64 ((xs.length : Nat) : Int)) (ex_len _ _ rfl 19 r6_sl_23_19 _ _ _ (F.e rfl)) ?_; clear F a; intro a F
 refine list_val F (wn rfl) rfl rfl (.bool false) (ex_bin .lss _ _ _ _ rfl .i64 _ _ (F.e rfl) (F.e rfl) _ (b_lss (decide_eq_false (by omega)))) ?_; clear F a; intro a F
 refine wpList_nil ?_
 replace F : Fr 26 a [(0, .slice A xs.length c), (1, .int .u64 g), (4, .bool false), (5, .int .i64 ((i : Nat) : Int)), (9, .bool false)] := F.keep ⟨rfl, rfl, rfl, rfl, rfl, trivial⟩
 refine then_n ?_
 refine wp_cond_false (F.e rfl) ?_
 refine wp_exit ?_
 refine then_x ?_
 refine then_x ?_
 refine in_hit ?_
 refine then_n ?_
 refine wp_seq ?_
 refine wp_region_lit ?_
 refine list_val F (wn rfl) rfl rfl (.bool false) (ex_assign _ rfl _ rfl) ?_; clear F a; intro a F
 refine wpList_nil ?_
 replace F : Fr 26 a [(0, .slice A xs.length c), (1, .int .u64 g), (4, .bool false), (5, .int .i64 ((i : Nat) : Int)), (9, .bool false)] := F.keep ⟨rfl, rfl, rfl, rfl, rfl, trivial⟩
 refine then_n ?_
 refine wp_ret ?_
 exact ret_tmp F rfl rfl ⟨by rw [whole_no (fun j y hj => hno j (by omega) y)], M.bel⟩
theorem r6_fa_29_0_0 : fa? Try.prog 29 0 0 = true := by kernel_rfl
theorem r6_one_3 : one? Try.prog 3 = true := by kernel_rfl
theorem r6_fa_29_1_1 : fa? Try.prog 29 1 1 = true := by kernel_rfl
theorem r6_fa_29_2_2 : fa? Try.prog 29 2 2 = true := by kernel_rfl
theorem r6_fa_29_3_18 : fa? Try.prog 29 3 18 = true := by kernel_rfl
theorem r6_one_2 : one? Try.prog 2 = true := by kernel_rfl
theorem r6_ent_6 : ent? Try.prog 6 = true := by kernel_rfl
theorem r6_ent_8 : ent? Try.prog 8 = true := by kernel_rfl
set_option maxHeartbeats 1000000 in
set_option maxRecDepth 100000 in
theorem step_any (xs : List Rv) (h : IsL xs) (A : Option Addr) (c : Nat) (o : St) (hd : o.do_ = 1 ∨ o.do_ = 2) (w : World) (hr : kRv.C w A xs.length xs) (hc : xs.length ≤ c) (hmx : xs.length ≤ 1000000) :
    Calls Try.prog 16 #[.slice A xs.length c, .agg o.arr] w fun r w' => ∃ A' c', r = .returned (.slice A' (stepF xs o).length c') ∧ Ow kRv 48 w' w.heap.size (.slice A' (stepF xs o).length c') (stepF xs o) ∧ Below w.heap.size w w' := by
 refine calls_start Try.func16 rfl rfl rfl (fun a F => ?_)
 have M : Mm w w [] := Mm.nil w
 refine wp_seq ?_
 refine wp_region_lit ?_
 refine list_do (wn rfl) (fun K hK => ?_)
 refine ow_box F M rfl rfl 29 _ rfl _ (F.e rfl) o.arr rfl ?_
 clear F M a; intro a g3 v F M hb hg
 refine hK _ _ ?_
 clear hK K
 clear hb hg; try clear w
 refine list_val F (wn rfl) rfl rfl (.slice none 0 0) (ex_assign _ rfl _ rfl) ?_; clear F a; intro a F
 refine wpList_nil ?_
 replace F : Fr 29 a [(0, .slice A xs.length c), (1, .agg o.arr), (3, .pointer (some ⟨g3, 0, none⟩)), (4, .slice none 0 0)] := F.keep ⟨rfl, rfl, rfl, rfl, trivial⟩
 refine then_n ?_
 refine wp_seq ?_
 refine wp_seq ?_
 refine wp_region_lit ?_
 refine list_val F (wn rfl) rfl rfl (.pointer (some ⟨g3, 0, none⟩)) (ex_fa _ _ _ rfl _ (F.e rfl) 0 r6_fa_29_0_0 ⟨g3, 0, none⟩ rfl) ?_; clear F a; intro a F
 refine list_val F (wn rfl) rfl rfl (.int .i64 o.do_) (ex_load _ _ rfl _ (F.e rfl) _ (lv1 r6_one_3 (M.cell (i := 0) rfl (j := 0) (St.arr_0 _)))) ?_; clear F a; intro a F
 refine wpList_nil ?_
 replace F : Fr 29 a [(0, .slice A xs.length c), (1, .agg o.arr), (3, .pointer (some ⟨g3, 0, none⟩)), (4, .slice none 0 0), (6, .int .i64 o.do_)] := F.keep ⟨rfl, rfl, rfl, rfl, rfl, trivial⟩
 refine then_n ?_
 refine wp_block ?_
 refine wp_seq ?_
 by_cases hd1 : o.do_ = 1
 ·
  refine wp_region_lit ?_
  refine list_val F (wn rfl) rfl rfl (.bool true) (ex_bin .eql _ _ _ _ rfl .i64 _ _ (F.e rfl) rfl _ (b_eql (by simp [hd1]))) ?_; clear F a; intro a F
  refine list_val F (wn rfl) rfl rfl (.bool true) (ex_assign _ rfl _ (F.e rfl)) ?_; clear F a; intro a F
  refine wpList_nil ?_
  replace F : Fr 29 a [(0, .slice A xs.length c), (1, .agg o.arr), (3, .pointer (some ⟨g3, 0, none⟩)), (4, .slice none 0 0), (6, .int .i64 o.do_), (7, .bool true)] := F.keep ⟨rfl, rfl, rfl, rfl, rfl, rfl, trivial⟩
  refine then_n ?_
  refine wp_cond_true (F.e rfl) ?_
  refine wp_seq ?_
  refine wp_region_lit ?_
  refine list_val F (wn rfl) rfl rfl (.slice A xs.length c) (ex_move _ rfl _ (F.e rfl)) ?_; clear F a; intro a F
  refine list_val F (wn rfl) rfl rfl (.pointer (some ⟨g3, 1, none⟩)) (ex_fa _ _ _ rfl _ (F.e rfl) 1 r6_fa_29_1_1 ⟨g3, 1, none⟩ rfl) ?_; clear F a; intro a F
  refine list_val F (wn rfl) rfl rfl (.int .u64 o.grant) (ex_load _ _ rfl _ (F.e rfl) _ (lv1 r6_one_25 (M.cell (i := 0) rfl (j := 1) (St.arr_1 _)))) ?_; clear F a; intro a F
  refine list_val F (wn rfl) rfl rfl (.pointer (some ⟨g3, 2, none⟩)) (ex_fa _ _ _ rfl _ (F.e rfl) 2 r6_fa_29_2_2 ⟨g3, 2, none⟩ rfl) ?_; clear F a; intro a F
  refine list_val F (wn rfl) rfl rfl (.agg o.id.cs.toArray) (ex_load _ _ rfl _ (F.e rfl) _ (lrow27 o.id (St.id_at (M.at (i := 0) rfl)))) ?_; clear F a; intro a F
  refine list_val F (wn rfl) rfl rfl (.pointer (some ⟨g3, 18, none⟩)) (ex_fa _ _ _ rfl _ (F.e rfl) 18 r6_fa_29_3_18 ⟨g3, 18, none⟩ rfl) ?_; clear F a; intro a F
  refine list_val F (wn rfl) rfl rfl (.int .i64 o.exp) (ex_load _ _ rfl _ (F.e rfl) _ (lv1 r6_one_2 (M.cell (i := 0) rfl (j := 18) (St.arr_18 _)))) ?_; clear F a; intro a F
  refine list_do (wn rfl) (fun K hK => ?_)
  refine ow_call rfl rfl F 6 #[.slice A xs.length c, .int .u64 o.grant, .agg o.id.cs.toArray, .int .i64 o.exp] (ex_call 6 _ _ rfl rfl r6_ent_6 _ (map4 (F.e rfl) (F.e rfl) (F.e rfl) (F.e rfl))) (add_any xs h A c o.grant o.id o.exp _ (Kd.C_below hr M.bel) hc hmx) (fun e u hR => ?_)
  obtain ⟨A_16, c_16, he, O_x, hb⟩ := hR
  replace O_x := O_x.low M.bel.size
  refine ⟨.slice A_16 ((addF xs o.grant o.id o.exp).length) c_16, he, ?_⟩; clear he F a; intro a F
  refine hK _ _ ?_
  clear hK K
  replace M := M.below hb; clear hb; try clear v
  refine list_val F (wn rfl) rfl rfl (.slice A_16 ((addF xs o.grant o.id o.exp).length) c_16) (ex_assign _ rfl _ (F.e rfl)) ?_; clear F a; intro a F
  refine wpList_nil ?_
  replace F : Fr 29 a [(0, .slice A xs.length c), (1, .agg o.arr), (3, .pointer (some ⟨g3, 0, none⟩)), (4, .slice A_16 ((addF xs o.grant o.id o.exp).length) c_16), (6, .int .i64 o.do_), (7, .bool true)] := F.keep ⟨rfl, rfl, rfl, rfl, rfl, rfl, trivial⟩
  refine then_n ?_
  refine wp_ret ?_
  refine in_r ?_
  refine then_r ?_
  rw [stepF_add hd1]
  exact ret_tmp F rfl rfl ⟨_, _, rfl, O_x, M.bel⟩
 have hd2 : o.do_ = 2 := hd.resolve_left hd1
 refine wp_region_lit ?_
 refine list_val F (wn rfl) rfl rfl (.bool false) (ex_bin .eql _ _ _ _ rfl .i64 _ _ (F.e rfl) rfl _ (b_eql (by simp [hd1]))) ?_; clear F a; intro a F
 refine list_val F (wn rfl) rfl rfl (.bool false) (ex_assign _ rfl _ (F.e rfl)) ?_; clear F a; intro a F
 refine wpList_nil ?_
 replace F : Fr 29 a [(0, .slice A xs.length c), (1, .agg o.arr), (3, .pointer (some ⟨g3, 0, none⟩)), (4, .slice none 0 0), (6, .int .i64 o.do_), (7, .bool false)] := F.keep ⟨rfl, rfl, rfl, rfl, rfl, rfl, trivial⟩
 refine then_n ?_
 refine wp_cond_false (F.e rfl) ?_
 refine wp_seq ?_
 refine wp_region_lit ?_
 refine list_val F (wn rfl) rfl rfl (.bool true) (ex_bin .eql _ _ _ _ rfl .i64 _ _ (F.e rfl) rfl _ (b_eql (by simp [hd2]))) ?_; clear F a; intro a F
 refine list_val F (wn rfl) rfl rfl (.bool true) (ex_assign _ rfl _ (F.e rfl)) ?_; clear F a; intro a F
 refine wpList_nil ?_
 replace F : Fr 29 a [(0, .slice A xs.length c), (1, .agg o.arr), (3, .pointer (some ⟨g3, 0, none⟩)), (4, .slice none 0 0), (6, .int .i64 o.do_), (7, .bool false), (17, .bool true)] := F.keep ⟨rfl, rfl, rfl, rfl, rfl, rfl, rfl, trivial⟩
 refine then_n ?_
 refine wp_cond_true (F.e rfl) ?_
 refine wp_seq ?_
 refine wp_region_lit ?_
 refine list_val F (wn rfl) rfl rfl (.slice A xs.length c) (ex_move _ rfl _ (F.e rfl)) ?_; clear F a; intro a F
 refine list_val F (wn rfl) rfl rfl (.pointer (some ⟨g3, 1, none⟩)) (ex_fa _ _ _ rfl _ (F.e rfl) 1 r6_fa_29_1_1 ⟨g3, 1, none⟩ rfl) ?_; clear F a; intro a F
 refine list_val F (wn rfl) rfl rfl (.int .u64 o.grant) (ex_load _ _ rfl _ (F.e rfl) _ (lv1 r6_one_25 (M.cell (i := 0) rfl (j := 1) (St.arr_1 _)))) ?_; clear F a; intro a F
 refine list_val F (wn rfl) rfl rfl (.pointer (some ⟨g3, 18, none⟩)) (ex_fa _ _ _ rfl _ (F.e rfl) 18 r6_fa_29_3_18 ⟨g3, 18, none⟩ rfl) ?_; clear F a; intro a F
 refine list_val F (wn rfl) rfl rfl (.int .i64 o.exp) (ex_load _ _ rfl _ (F.e rfl) _ (lv1 r6_one_2 (M.cell (i := 0) rfl (j := 18) (St.arr_18 _)))) ?_; clear F a; intro a F
 refine list_do (wn rfl) (fun K hK => ?_)
 refine ow_call rfl rfl F 8 #[.slice A xs.length c, .int .u64 o.grant, .int .i64 o.exp] (ex_call 8 _ _ rfl rfl r6_ent_8 _ (map3 (F.e rfl) (F.e rfl) (F.e rfl))) (kill_any xs h A c o.grant o.exp _ (Kd.C_below hr M.bel) hc hmx) (fun e u hR => ?_)
 obtain ⟨A_24, c_24, he, O_x, hb⟩ := hR
 replace O_x := O_x.low M.bel.size
 refine ⟨.slice A_24 ((killF xs o.grant o.exp).length) c_24, he, ?_⟩; clear he F a; intro a F
 refine hK _ _ ?_
 clear hK K
 replace M := M.below hb; clear hb; try clear v
 refine list_val F (wn rfl) rfl rfl (.slice A_24 ((killF xs o.grant o.exp).length) c_24) (ex_assign _ rfl _ (F.e rfl)) ?_; clear F a; intro a F
 refine wpList_nil ?_
 replace F : Fr 29 a [(0, .slice A xs.length c), (1, .agg o.arr), (3, .pointer (some ⟨g3, 0, none⟩)), (4, .slice A_24 ((killF xs o.grant o.exp).length) c_24), (6, .int .i64 o.do_), (7, .bool false), (17, .bool true)] := F.keep ⟨rfl, rfl, rfl, rfl, rfl, rfl, rfl, trivial⟩
 refine then_n ?_
 refine wp_ret ?_
 refine in_r ?_
 refine then_r ?_
 rw [stepF_kill hd2]
 exact ret_tmp F rfl rfl ⟨_, _, rfl, O_x, M.bel⟩
theorem r6_sl_22_20 : sl? Try.prog 22 20 = true := by kernel_rfl
set_option maxHeartbeats 1000000 in
set_option maxRecDepth 100000 in
theorem later_any2 (ss : List St) (A : Option Addr) (c p : Nat) (o : St) (ho : ss[p]? = some o) (w : World) (hr : kSt.C w A ss.length ss) (hmx : ss.length ≤ 1000000) :
    Calls Try.prog 17 #[.slice A ss.length c, .int .i64 ((p : Nat) : Int)] w fun r w' => ∃ b, r = .returned (.bool b) ∧ LaterIs ss p b ∧ Below w.heap.size w w' := by
 have hpl : p + 1 + 0 ≤ ss.length := (List.getElem?_eq_some_iff.1 ho).1
 refine calls_start Try.func17 rfl rfl rfl (fun a F => ?_)
 have M : Mm w w [] := Mm.nil w
 refine wp_seq ?_
 refine wp_region_lit ?_
 refine list_val F (wn rfl) rfl rfl (.bool false) (ex_assign _ rfl _ rfl) ?_; clear F a; intro a F
 refine wpList_nil ?_
 replace F : Fr 25 a [(0, .slice A ss.length c), (1, .int .i64 ((p : Nat) : Int)), (4, .bool false)] := F.keep ⟨rfl, rfl, rfl, trivial⟩
 refine then_n ?_
 refine wp_seq ?_
 refine wp_seq ?_
 refine wp_region_lit ?_
 refine list_val F (wn rfl) rfl rfl (.int .i64 ((p : Nat) : Int)) (ex_move _ rfl _ (F.e rfl)) ?_; clear F a; intro a F
 refine list_val F (wn rfl) rfl rfl (.int .i64 ((p + 1 + 0 : Nat) : Int)) (ex_bin .add _ _ _ _ rfl .i64 _ _ (F.e rfl) rfl _ (b_add ((w_i64 (by omega) (by omega)).trans (by omega)))) ?_; clear F a; intro a F
 refine list_val F (wn rfl) rfl rfl (.int .i64 ((p + 1 + 0 : Nat) : Int)) (ex_assign _ rfl _ (F.e rfl)) ?_; clear F a; intro a F
 refine wpList_nil ?_
 replace F : Fr 25 a [(0, .slice A ss.length c), (1, .int .i64 ((p : Nat) : Int)), (4, .bool false), (5, .int .i64 ((p + 1 + 0 : Nat) : Int))] := F.keep ⟨rfl, rfl, rfl, rfl, trivial⟩
 refine then_n ?_
 refine wp_block ?_
 refine wp_loopN (fun mq ar wr => ∃ (i : Nat), Fr 25 ar [(0, .slice A ss.length c), (1, .int .i64 ((p : Nat) : Int)), (4, .bool false), (5, .int .i64 ((p + 1 + i : Nat) : Int))] ∧ Mm w wr [] ∧ p + 1 + i ≤ ss.length ∧ (∀ (j : Nat), j < p + 1 + i → p < j → ∀ y, ss[j]? = some y → y.grant ≠ o.grant) ∧ mq + i = ss.length) ss.length ?_ ?_
 ·
  exact ⟨0, F.keep ⟨rfl, rfl, rfl, rfl, trivial⟩, M, hpl, (fun j hj hj2 => absurd hj (by omega)), (by omega)⟩
 clear F M a
 rintro mq a v ⟨i, F, M, hi, hno, hq⟩; try clear w
 by_cases hin : p + 1 + i < ss.length
 ·
  obtain ⟨x, hx⟩ : ∃ x, ss[(p + 1 + i)]? = some x := ⟨_, List.getElem?_eq_getElem (by omega)⟩
  obtain ⟨ad, hA, z⟩ := C_ix hr hx
  obtain ⟨ad2, hA2, z2⟩ := C_ix hr ho
  subst hA
  obtain rfl := Option.some.inj hA2
  refine wp_seq ?_
  refine wp_seq ?_
  refine wp_region_lit ?_
  refine list_val F (wn rfl) rfl rfl (.int .i64 ((p + 1 + i : Nat) : Int)) (ex_move _ rfl _ (F.e rfl)) ?_; clear F a; intro a F
  refine list_val F (wn rfl) rfl rfl (.slice (some ad) ss.length c) (ex_move _ rfl _ (F.e rfl)) ?_; clear F a; intro a F
  refine list_val F (wn rfl) rfl rfl (.int .i64 ((ss.length : Nat) : Int)) (ex_len _ _ rfl 20 r6_sl_22_20 _ _ _ (F.e rfl)) ?_; clear F a; intro a F
  refine list_val F (wn rfl) rfl rfl (.bool true) (ex_bin .lss _ _ _ _ rfl .i64 _ _ (F.e rfl) (F.e rfl) _ (b_lss (decide_eq_true (by omega)))) ?_; clear F a; intro a F
  refine wpList_nil ?_
  replace F : Fr 25 a [(0, .slice (some ad) ss.length c), (1, .int .i64 ((p : Nat) : Int)), (4, .bool false), (5, .int .i64 ((p + 1 + i : Nat) : Int)), (11, .bool true)] := F.keep ⟨rfl, rfl, rfl, rfl, rfl, trivial⟩
  refine then_n ?_
  refine wp_cond_true (F.e rfl) ?_
  refine wp_skip ?_
  refine then_n ?_
  refine wp_seq ?_
  refine wp_block ?_
  refine wp_seq ?_
  by_cases hg : x.grant = o.grant
  ·
   refine region_tail 10 r6_follows_mixedOrders (by kernel_rfl) M ?_; clear M; intro u M hb
   clear hb; try clear v
   refine still_val F (wn rfl) rfl rfl (.slice (some ad) ss.length c) (ex_move _ rfl _ (F.e rfl)) ?_; clear F a; intro a F
   refine still_val F (wn rfl) rfl rfl (.int .i64 ((p + 1 + i : Nat) : Int)) (ex_move _ rfl _ (F.e rfl)) ?_; clear F a; intro a F
   refine still_val F (wn rfl) rfl rfl (.pointer (some (ad.add ((p + 1 + i) * 20)))) (ex_ix _ _ _ rfl 20 r6_sl_22_20 ad _ _ (F.e rfl) .i64 _ (F.e rfl) (p + 1 + i) rfl (by omega) (ad.add ((p + 1 + i) * 20)) rfl) ?_; clear F a; intro a F
   refine still_val F (wn rfl) rfl rfl (.pointer (some ((ad.add ((p + 1 + i) * 20)).add 1))) (ex_fa _ _ _ rfl _ (F.e rfl) 1 r6_fa_29_1_1 ((ad.add ((p + 1 + i) * 20)).add 1) rfl) ?_; clear F a; intro a F
   refine still_val F (wn rfl) rfl rfl (.int .u64 x.grant) (ex_load _ _ rfl _ (F.e rfl) _ (lv1 r6_one_25 ((z.below M.bel).cell 1 _ (St.cs_1 _)))) ?_; clear F a; intro a F
   refine still_val F (wn rfl) rfl rfl (.slice (some ad) ss.length c) (ex_move _ rfl _ (F.e rfl)) ?_; clear F a; intro a F
   refine still_val F (wn rfl) rfl rfl (.int .i64 ((p : Nat) : Int)) (ex_move _ rfl _ (F.e rfl)) ?_; clear F a; intro a F
   refine still_val F (wn rfl) rfl rfl (.pointer (some (ad.add (p * 20)))) (ex_ix _ _ _ rfl 20 r6_sl_22_20 ad _ _ (F.e rfl) .i64 _ (F.e rfl) p rfl (by omega) (ad.add (p * 20)) rfl) ?_; clear F a; intro a F
   refine still_val F (wn rfl) rfl rfl (.pointer (some ((ad.add (p * 20)).add 1))) (ex_fa _ _ _ rfl _ (F.e rfl) 1 r6_fa_29_1_1 ((ad.add (p * 20)).add 1) rfl) ?_; clear F a; intro a F
   refine still_val F (wn rfl) rfl rfl (.int .u64 o.grant) (ex_load _ _ rfl _ (F.e rfl) _ (lv1 r6_one_25 ((z2.below M.bel).cell 1 _ (St.cs_1 _)))) ?_; clear F a; intro a F
   refine still_end ?_
   refine list_val F (wn rfl) rfl rfl (.bool true) (ex_bin .eql _ _ _ _ rfl .u64 _ _ (F.e rfl) (F.e rfl) _ (b_eql (by simp [hg]))) ?_; clear F a; intro a F
   refine wpList_nil ?_
   replace F : Fr 25 a [(0, .slice (some ad) ss.length c), (1, .int .i64 ((p : Nat) : Int)), (4, .bool false), (5, .int .i64 ((p + 1 + i : Nat) : Int)), (11, .bool true), (24, .bool true)] := F.keep ⟨rfl, rfl, rfl, rfl, rfl, rfl, trivial⟩
   refine then_n ?_
   refine wp_cond_true (F.e rfl) ?_
   refine wp_seq ?_
   refine wp_region_lit ?_
   refine list_val F (wn rfl) rfl rfl (.bool true) (ex_assign _ rfl _ rfl) ?_; clear F a; intro a F
   refine wpList_nil ?_
   replace F : Fr 25 a [(0, .slice (some ad) ss.length c), (1, .int .i64 ((p : Nat) : Int)), (4, .bool true), (5, .int .i64 ((p + 1 + i : Nat) : Int)), (11, .bool true), (24, .bool true)] := F.keep ⟨rfl, rfl, rfl, rfl, rfl, rfl, trivial⟩
   refine then_n ?_
   refine wp_ret ?_
   refine in_r ?_
   refine then_r ?_
   refine then_r ?_
   refine in_r ?_
   refine then_r ?_
   exact ret_tmp F rfl rfl ⟨true, rfl, LaterIs.yes (by omega) hx ho hg, M.bel⟩
  refine region_tail 10 r6_follows_mixedOrders (by kernel_rfl) M ?_; clear M; intro u M hb
  clear hb; try clear v
  refine still_val F (wn rfl) rfl rfl (.slice (some ad) ss.length c) (ex_move _ rfl _ (F.e rfl)) ?_; clear F a; intro a F
  refine still_val F (wn rfl) rfl rfl (.int .i64 ((p + 1 + i : Nat) : Int)) (ex_move _ rfl _ (F.e rfl)) ?_; clear F a; intro a F
  refine still_val F (wn rfl) rfl rfl (.pointer (some (ad.add ((p + 1 + i) * 20)))) (ex_ix _ _ _ rfl 20 r6_sl_22_20 ad _ _ (F.e rfl) .i64 _ (F.e rfl) (p + 1 + i) rfl (by omega) (ad.add ((p + 1 + i) * 20)) rfl) ?_; clear F a; intro a F
  refine still_val F (wn rfl) rfl rfl (.pointer (some ((ad.add ((p + 1 + i) * 20)).add 1))) (ex_fa _ _ _ rfl _ (F.e rfl) 1 r6_fa_29_1_1 ((ad.add ((p + 1 + i) * 20)).add 1) rfl) ?_; clear F a; intro a F
  refine still_val F (wn rfl) rfl rfl (.int .u64 x.grant) (ex_load _ _ rfl _ (F.e rfl) _ (lv1 r6_one_25 ((z.below M.bel).cell 1 _ (St.cs_1 _)))) ?_; clear F a; intro a F
  refine still_val F (wn rfl) rfl rfl (.slice (some ad) ss.length c) (ex_move _ rfl _ (F.e rfl)) ?_; clear F a; intro a F
  refine still_val F (wn rfl) rfl rfl (.int .i64 ((p : Nat) : Int)) (ex_move _ rfl _ (F.e rfl)) ?_; clear F a; intro a F
  refine still_val F (wn rfl) rfl rfl (.pointer (some (ad.add (p * 20)))) (ex_ix _ _ _ rfl 20 r6_sl_22_20 ad _ _ (F.e rfl) .i64 _ (F.e rfl) p rfl (by omega) (ad.add (p * 20)) rfl) ?_; clear F a; intro a F
  refine still_val F (wn rfl) rfl rfl (.pointer (some ((ad.add (p * 20)).add 1))) (ex_fa _ _ _ rfl _ (F.e rfl) 1 r6_fa_29_1_1 ((ad.add (p * 20)).add 1) rfl) ?_; clear F a; intro a F
  refine still_val F (wn rfl) rfl rfl (.int .u64 o.grant) (ex_load _ _ rfl _ (F.e rfl) _ (lv1 r6_one_25 ((z2.below M.bel).cell 1 _ (St.cs_1 _)))) ?_; clear F a; intro a F
  refine still_end ?_
  refine list_val F (wn rfl) rfl rfl (.bool false) (ex_bin .eql _ _ _ _ rfl .u64 _ _ (F.e rfl) (F.e rfl) _ (b_eql (by simp [hg]))) ?_; clear F a; intro a F
  refine wpList_nil ?_
  replace F : Fr 25 a [(0, .slice (some ad) ss.length c), (1, .int .i64 ((p : Nat) : Int)), (4, .bool false), (5, .int .i64 ((p + 1 + i : Nat) : Int)), (11, .bool true), (24, .bool false)] := F.keep ⟨rfl, rfl, rfl, rfl, rfl, rfl, trivial⟩
  refine then_n ?_
  refine wp_cond_false (F.e rfl) ?_
  refine wp_skip ?_
  refine in_n ?_
  refine then_n ?_
  refine wp_region_lit ?_
  refine list_val F (wn rfl) rfl rfl (.int .i64 ((p + 1 + i : Nat) : Int)) (ex_move _ rfl _ (F.e rfl)) ?_; clear F a; intro a F
  refine list_val F (wn rfl) rfl rfl (.int .i64 ((p + 1 + (i + 1) : Nat) : Int)) (ex_bin .add _ _ _ _ rfl .i64 _ _ (F.e rfl) rfl _ (b_add ((w_i64 (by omega) (by omega)).trans (by omega)))) ?_; clear F a; intro a F
  refine list_val F (wn rfl) rfl rfl (.int .i64 ((p + 1 + (i + 1) : Nat) : Int)) (ex_assign _ rfl _ (F.e rfl)) ?_; clear F a; intro a F
  refine wpList_nil ?_
  replace F : Fr 25 a [(0, .slice (some ad) ss.length c), (1, .int .i64 ((p : Nat) : Int)), (4, .bool false), (5, .int .i64 ((p + 1 + (i + 1) : Nat) : Int)), (11, .bool true), (24, .bool false)] := F.keep ⟨rfl, rfl, rfl, rfl, rfl, rfl, trivial⟩
  refine then_n ?_
  exact ⟨ss.length - (i + 1), by omega, (i + 1), F.keep ⟨rfl, rfl, rfl, rfl, trivial⟩, (by refine M.pick' [] _ ?_ (by decide); exact trivial), (by omega), (fun j hj => (Nat.lt_or_eq_of_le (Nat.le_of_lt_succ hj)).elim (fun h_ => hno j h_) (fun h_ => by subst h_; exact (fun _ y hy => by obtain rfl := Option.some.inj (hx.symm.trans hy); exact hg))), (by omega)⟩
 refine wp_seq ?_
 refine wp_seq ?_
 refine wp_region_lit ?_
 refine list_val F (wn rfl) rfl rfl (.int .i64 ((p + 1 + i : Nat) : Int)) (ex_move _ rfl _ (F.e rfl)) ?_; clear F a; intro a F
 refine list_val F (wn rfl) rfl rfl (.slice A ss.length c) (ex_move _ rfl _ (F.e rfl)) ?_; clear F a; intro a F
 refine list_val F (wn rfl) rfl rfl (.int .i64 ((ss.length : Nat) : Int)) (ex_len _ _ rfl 20 r6_sl_22_20 _ _ _ (F.e rfl)) ?_; clear F a; intro a F
 refine list_val F (wn rfl) rfl rfl (.bool false) (ex_bin .lss _ _ _ _ rfl .i64 _ _ (F.e rfl) (F.e rfl) _ (b_lss (decide_eq_false (by omega)))) ?_; clear F a; intro a F
 refine wpList_nil ?_
 replace F : Fr 25 a [(0, .slice A ss.length c), (1, .int .i64 ((p : Nat) : Int)), (4, .bool false), (5, .int .i64 ((p + 1 + i : Nat) : Int)), (11, .bool false)] := F.keep ⟨rfl, rfl, rfl, rfl, rfl, trivial⟩
 refine then_n ?_
 refine wp_cond_false (F.e rfl) ?_
 refine wp_exit ?_
 refine then_x ?_
 refine then_x ?_
 refine in_hit ?_
 refine then_n ?_
 refine wp_seq ?_
 refine wp_region_lit ?_
 refine list_val F (wn rfl) rfl rfl (.bool false) (ex_assign _ rfl _ rfl) ?_; clear F a; intro a F
 refine wpList_nil ?_
 replace F : Fr 25 a [(0, .slice A ss.length c), (1, .int .i64 ((p : Nat) : Int)), (4, .bool false), (5, .int .i64 ((p + 1 + i : Nat) : Int)), (11, .bool false)] := F.keep ⟨rfl, rfl, rfl, rfl, rfl, trivial⟩
 refine then_n ?_
 refine wp_ret ?_
 exact ret_tmp F rfl rfl ⟨false, rfl, LaterIs.no ho (fun j y h1 h2 h3 => hno j (by omega) h1 y h3), M.bel⟩
set_option maxHeartbeats 1000000 in
set_option maxRecDepth 100000 in
theorem num_any (z : Int) (w : World) : Calls Try.prog 11 #[.int .i64 z] w fun e w' => e = .returned (.int .i64 z) ∧ Below w.heap.size w w' := by
 refine calls_start Try.func11 rfl rfl rfl (fun a F => ?_)
 have M : Mm w w [] := Mm.nil w
 refine wp_seq ?_
 refine wp_region_lit ?_
 refine list_val F (wn rfl) rfl rfl (.int .i64 0) (ex_assign _ rfl _ rfl) ?_; clear F a; intro a F
 refine wpList_nil ?_
 replace F : Fr 4 a [(0, .int .i64 z), (2, .int .i64 0)] := F.keep ⟨rfl, rfl, trivial⟩
 refine then_n ?_
 refine wp_seq ?_
 refine wp_region_lit ?_
 refine list_val F (wn rfl) rfl rfl (.int .i64 z) (ex_move _ rfl _ (F.e rfl)) ?_; clear F a; intro a F
 refine list_val F (wn rfl) rfl rfl (.int .i64 z) (ex_assign _ rfl _ (F.e rfl)) ?_; clear F a; intro a F
 refine wpList_nil ?_
 replace F : Fr 4 a [(0, .int .i64 z), (2, .int .i64 z)] := F.keep ⟨rfl, rfl, trivial⟩
 refine then_n ?_
 refine wp_ret ?_
 exact ret_tmp F rfl rfl ⟨rfl, M.bel⟩
theorem r6_ent_14 : ent? Try.prog 14 = true := by kernel_rfl
theorem r6_ent_10 : ent? Try.prog 10 = true := by kernel_rfl
set_option maxHeartbeats 1000000 in
set_option maxRecDepth 100000 in
theorem wakes_any (w : World) : Calls Try.prog 15 #[] w fun e w' => e = .returned (.bool true) ∧ Below w.heap.size w w' := by
 refine calls_start Try.func15 rfl rfl rfl (fun a F => ?_)
 have M : Mm w w [] := Mm.nil w
 refine wp_seq ?_
 refine wp_region_lit ?_
 refine list_val F (wn rfl) rfl rfl (.bool false) (ex_assign _ rfl _ rfl) ?_; clear F a; intro a F
 refine wpList_nil ?_
 replace F : Fr 49 a [(0, .bool false)] := F.keep ⟨rfl, trivial⟩
 refine then_n ?_
 refine wp_seq ?_
 refine wp_region_lit ?_
 refine list_val F (wn rfl) rfl rfl (.agg ((idB 1).cs.toArray)) (ex_build 27 _ rfl #[(0, .int .u8 1)] (parts1 rfl) (.agg ((idB 1).cs.toArray)) (build27_1 _)) ?_; clear F a; intro a F
 refine list_do (wn rfl) (fun K hK => ?_)
 refine ow_call rfl rfl F 6 #[.slice none 0 0, .int .u64 7, .agg ((idB 1).cs.toArray), .int .i64 50] (ex_call 6 _ _ rfl rfl r6_ent_6 _ (map4 rfl rfl (F.e rfl) rfl)) (add_any [] IsL.nil none 0 7 (idB 1) 50 _ (Ow.nil kRv 48 _ 0).rd.1 (Nat.le_refl _) (by decide)) (fun e v hR => ?_)
 obtain ⟨A_4, c_4, he, O_1, hb⟩ := hR
 rw [wk_1] at he O_1
 replace O_1 := O_1.low M.bel.size
 refine ⟨.slice A_4 wk1.length c_4, he, ?_⟩; clear he F a; intro a F
 refine hK _ _ ?_
 clear hK K
 replace M := M.below hb; clear hb; try clear w
 refine list_val F (wn rfl) rfl rfl (.slice A_4 wk1.length c_4) (ex_assign _ rfl _ (F.e rfl)) ?_; clear F a; intro a F
 refine wpList_nil ?_
 replace F : Fr 49 a [(0, .bool false), (1, .slice A_4 wk1.length c_4)] := F.keep ⟨rfl, rfl, trivial⟩
 refine then_n ?_
 refine wp_seq ?_
 refine wp_region_lit ?_
 refine list_val F (wn rfl) rfl rfl (.slice A_4 wk1.length c_4) (ex_move _ rfl _ (F.e rfl)) ?_; clear F a; intro a F
 refine list_do (wn rfl) (fun K hK => ?_)
 refine ow_call rfl rfl F 8 #[.slice A_4 wk1.length c_4, .int .u64 7, .int .i64 60] (ex_call 8 _ _ rfl rfl r6_ent_8 _ (map3 (F.e rfl) rfl rfl)) (kill_any wk1 wk_h1 _ _ 7 60 _ O_1.rd.1 O_1.rd.2.2 (by decide)) (fun e u hR => ?_)
 obtain ⟨A_6, c_6, he, O_2, hb⟩ := hR
 rw [wk_2] at he O_2
 replace O_2 := O_2.low M.bel.size
 refine ⟨.slice A_6 wk2.length c_6, he, ?_⟩; clear he F a; intro a F
 refine hK _ _ ?_
 clear hK K
 replace O_1 := O_1.below hb
 replace M := M.below hb; clear hb; try clear v
 refine list_val F (wn rfl) rfl rfl (.slice A_6 wk2.length c_6) (ex_assign _ rfl _ (F.e rfl)) ?_; clear F a; intro a F
 refine wpList_nil ?_
 replace F : Fr 49 a [(0, .bool false), (1, .slice A_4 wk1.length c_4), (2, .slice A_6 wk2.length c_6)] := F.keep ⟨rfl, rfl, rfl, trivial⟩
 refine then_n ?_
 refine wp_seq ?_
 have hw2 : wk2.length = 1 := rfl
 obtain ⟨ad, hA, z⟩ := C_ix O_2.rd.1 wk_g0
 subst hA
 refine wp_region_lit ?_
 refine list_val F (wn rfl) rfl rfl (.slice A_4 wk1.length c_4) (ex_move _ rfl _ (F.e rfl)) ?_; clear F a; intro a F
 refine list_val F (wn rfl) rfl rfl (.int .i64 ((wk1.length : Nat) : Int)) (ex_len _ _ rfl 19 r6_sl_23_19 _ _ _ (F.e rfl)) ?_; clear F a; intro a F
 refine list_val F (wn rfl) rfl rfl (.bool true) (ex_bin .eql _ _ _ _ rfl .i64 _ _ (F.e rfl) rfl _ (b_eql (by decide))) ?_; clear F a; intro a F
 refine list_val F (wn rfl) rfl rfl (.bool true) (ex_move _ rfl _ (F.e rfl)) ?_; clear F a; intro a F
 refine list_val F (F.wants 10 true rfl (by kernel_rfl) rfl true rfl) rfl rfl (.slice A_4 wk1.length c_4) (ex_move _ rfl _ (F.e rfl)) ?_; clear F a; intro a F
 refine list_val F (F.wants 10 true rfl (by kernel_rfl) rfl true rfl) rfl rfl (.agg ((idB 1).cs.toArray)) (ex_build 27 _ rfl #[(0, .int .u8 1)] (parts1 rfl) (.agg ((idB 1).cs.toArray)) (build27_1 _)) ?_; clear F a; intro a F
 refine list_do (F.wants 10 true rfl (by kernel_rfl) rfl true rfl) (fun K hK => ?_)
 refine ow_call rfl rfl F 14 #[.slice A_4 wk1.length c_4, .int .u64 7, .agg ((idB 1).cs.toArray)] (ex_call 14 _ _ rfl rfl r6_ent_14 _ (map3 (F.e rfl) rfl (F.e rfl))) (has_any wk1 wk_h1 _ _ 7 (idB 1) _ O_1.rd.1 O_1.rd.2.2 (by decide)) (fun e v hR => ?_)
 obtain ⟨he, hb⟩ := hR
 rw [wk_3] at he
 refine ⟨.bool true, he, ?_⟩; clear he F a; intro a F
 refine hK _ _ ?_
 clear hK K
 replace O_1 := O_1.below hb
 replace O_2 := O_2.below hb
 replace z := z.below hb
 replace M := M.below hb; clear hb; try clear u
 refine list_val F (wn rfl) rfl rfl (.bool true) (ex_pick_t _ _ _ rfl (F.e rfl) _ (F.e rfl)) ?_; clear F a; intro a F
 refine list_val F (wn rfl) rfl rfl (.bool true) (ex_move _ rfl _ (F.e rfl)) ?_; clear F a; intro a F
 refine list_val F (F.wants 15 true rfl (by kernel_rfl) rfl true rfl) rfl rfl (.slice A_4 wk1.length c_4) (ex_move _ rfl _ (F.e rfl)) ?_; clear F a; intro a F
 refine list_val F (F.wants 15 true rfl (by kernel_rfl) rfl true rfl) rfl rfl (.agg ((idB 2).cs.toArray)) (ex_build 27 _ rfl #[(0, .int .u8 2)] (parts1 rfl) (.agg ((idB 2).cs.toArray)) (build27_2 _)) ?_; clear F a; intro a F
 refine list_do (F.wants 15 true rfl (by kernel_rfl) rfl true rfl) (fun K hK => ?_)
 refine ow_call rfl rfl F 14 #[.slice A_4 wk1.length c_4, .int .u64 7, .agg ((idB 2).cs.toArray)] (ex_call 14 _ _ rfl rfl r6_ent_14 _ (map3 (F.e rfl) rfl (F.e rfl))) (has_any wk1 wk_h1 _ _ 7 (idB 2) _ O_1.rd.1 O_1.rd.2.2 (by decide)) (fun e u hR => ?_)
 obtain ⟨he, hb⟩ := hR
 rw [wk_4] at he
 refine ⟨.bool false, he, ?_⟩; clear he F a; intro a F
 refine hK _ _ ?_
 clear hK K
 replace O_1 := O_1.below hb
 replace O_2 := O_2.below hb
 replace z := z.below hb
 replace M := M.below hb; clear hb; try clear v
 refine list_val F (F.wants 15 true rfl (by kernel_rfl) rfl true rfl) rfl rfl (.bool true) (ex_not _ _ rfl _ (F.e rfl) _ rfl) ?_; clear F a; intro a F
 refine list_val F (wn rfl) rfl rfl (.bool true) (ex_pick_t _ _ _ rfl (F.e rfl) _ (F.e rfl)) ?_; clear F a; intro a F
 refine list_val F (wn rfl) rfl rfl (.bool true) (ex_move _ rfl _ (F.e rfl)) ?_; clear F a; intro a F
 refine list_val F (F.wants 21 true rfl (by kernel_rfl) rfl true rfl) rfl rfl (.slice (some ad) wk2.length c_6) (ex_move _ rfl _ (F.e rfl)) ?_; clear F a; intro a F
 refine list_val F (F.wants 21 true rfl (by kernel_rfl) rfl true rfl) rfl rfl (.int .i64 ((wk2.length : Nat) : Int)) (ex_len _ _ rfl 19 r6_sl_23_19 _ _ _ (F.e rfl)) ?_; clear F a; intro a F
 refine list_val F (F.wants 21 true rfl (by kernel_rfl) rfl true rfl) rfl rfl (.bool true) (ex_bin .eql _ _ _ _ rfl .i64 _ _ (F.e rfl) rfl _ (b_eql (by decide))) ?_; clear F a; intro a F
 refine list_val F (wn rfl) rfl rfl (.bool true) (ex_pick_t _ _ _ rfl (F.e rfl) _ (F.e rfl)) ?_; clear F a; intro a F
 refine list_val F (wn rfl) rfl rfl (.bool true) (ex_move _ rfl _ (F.e rfl)) ?_; clear F a; intro a F
 refine list_val F (F.wants 26 true rfl (by kernel_rfl) rfl true rfl) rfl rfl (.slice (some ad) wk2.length c_6) (ex_move _ rfl _ (F.e rfl)) ?_; clear F a; intro a F
 refine list_val F (F.wants 26 true rfl (by kernel_rfl) rfl true rfl) rfl rfl (.pointer (some (ad.add (0 * 19)))) (ex_ix _ _ _ rfl 19 r6_sl_23_19 ad _ _ (F.e rfl) .i64 _ rfl 0 rfl (by omega) (ad.add (0 * 19)) rfl) ?_; clear F a; intro a F
 refine list_val F (F.wants 26 true rfl (by kernel_rfl) rfl true rfl) rfl rfl (.pointer (some (ad.add (0 * 19)))) (ex_fa _ _ _ rfl _ (F.e rfl) 0 r6_fa_48_0_0 (ad.add (0 * 19)) rfl) ?_; clear F a; intro a F
 refine list_val F (F.wants 26 true rfl (by kernel_rfl) rfl true rfl) rfl rfl (.bool true) (ex_load _ _ rfl _ (F.e rfl) _ (lv1 r6_one_4 (z.cell 0 _ (Rv.cs_0e rfl)))) ?_; clear F a; intro a F
 refine list_val F (wn rfl) rfl rfl (.bool true) (ex_pick_t _ _ _ rfl (F.e rfl) _ (F.e rfl)) ?_; clear F a; intro a F
 refine list_val F (wn rfl) rfl rfl (.bool true) (ex_move _ rfl _ (F.e rfl)) ?_; clear F a; intro a F
 refine list_val F (F.wants 32 true rfl (by kernel_rfl) rfl true rfl) rfl rfl (.slice (some ad) wk2.length c_6) (ex_move _ rfl _ (F.e rfl)) ?_; clear F a; intro a F
 refine list_val F (F.wants 32 true rfl (by kernel_rfl) rfl true rfl) rfl rfl (.agg ((idB 2).cs.toArray)) (ex_build 27 _ rfl #[(0, .int .u8 2)] (parts1 rfl) (.agg ((idB 2).cs.toArray)) (build27_2 _)) ?_; clear F a; intro a F
 refine list_do (F.wants 32 true rfl (by kernel_rfl) rfl true rfl) (fun K hK => ?_)
 refine ow_call rfl rfl F 14 #[.slice (some ad) wk2.length c_6, .int .u64 7, .agg ((idB 2).cs.toArray)] (ex_call 14 _ _ rfl rfl r6_ent_14 _ (map3 (F.e rfl) rfl (F.e rfl))) (has_any wk2 wk_h2 _ _ 7 (idB 2) _ O_2.rd.1 O_2.rd.2.2 (by decide)) (fun e v hR => ?_)
 obtain ⟨he, hb⟩ := hR
 rw [wk_5] at he
 refine ⟨.bool true, he, ?_⟩; clear he F a; intro a F
 refine hK _ _ ?_
 clear hK K
 replace O_1 := O_1.below hb
 replace O_2 := O_2.below hb
 replace z := z.below hb
 replace M := M.below hb; clear hb; try clear u
 refine list_val F (wn rfl) rfl rfl (.bool true) (ex_pick_t _ _ _ rfl (F.e rfl) _ (F.e rfl)) ?_; clear F a; intro a F
 refine list_val F (wn rfl) rfl rfl (.bool true) (ex_move _ rfl _ (F.e rfl)) ?_; clear F a; intro a F
 refine list_val F (F.wants 37 true rfl (by kernel_rfl) rfl true rfl) rfl rfl (.slice (some ad) wk2.length c_6) (ex_move _ rfl _ (F.e rfl)) ?_; clear F a; intro a F
 refine list_do (F.wants 37 true rfl (by kernel_rfl) rfl true rfl) (fun K hK => ?_)
 refine ow_call rfl rfl F 10 #[.slice (some ad) wk2.length c_6, .int .i64 60] (ex_call 10 _ _ rfl rfl r6_ent_10 _ (map2 (F.e rfl) rfl)) (prune_any wk2 wk_h2 _ _ 60 _ O_2.rd.1 O_2.rd.2.2 (by decide)) (fun e u hR => ?_)
 obtain ⟨A_39, c_39, he, O_3, hb⟩ := hR
 rw [wk_6] at he; clear O_3
 refine ⟨.slice A_39 (([] : List Rv).length) c_39, he, ?_⟩; clear he F a; intro a F
 refine hK _ _ ?_
 clear hK K
 replace O_1 := O_1.below hb
 replace O_2 := O_2.below hb
 replace z := z.below hb
 replace M := M.below hb; clear hb; try clear v
 refine list_val F (F.wants 37 true rfl (by kernel_rfl) rfl true rfl) rfl rfl (.int .i64 ((([] : List Rv).length : Nat) : Int)) (ex_len _ _ rfl 19 r6_sl_23_19 _ _ _ (F.e rfl)) ?_; clear F a; intro a F
 refine list_val F (F.wants 37 true rfl (by kernel_rfl) rfl true rfl) rfl rfl (.bool true) (ex_bin .eql _ _ _ _ rfl .i64 _ _ (F.e rfl) rfl _ (b_eql (by decide))) ?_; clear F a; intro a F
 refine list_val F (wn rfl) rfl rfl (.bool true) (ex_pick_t _ _ _ rfl (F.e rfl) _ (F.e rfl)) ?_; clear F a; intro a F
 refine list_val F (wn rfl) rfl rfl (.bool true) (ex_move _ rfl _ (F.e rfl)) ?_; clear F a; intro a F
 refine list_val F (F.wants 43 true rfl (by kernel_rfl) rfl true rfl) rfl rfl (.slice (some ad) wk2.length c_6) (ex_move _ rfl _ (F.e rfl)) ?_; clear F a; intro a F
 refine list_do (F.wants 43 true rfl (by kernel_rfl) rfl true rfl) (fun K hK => ?_)
 refine ow_call rfl rfl F 10 #[.slice (some ad) wk2.length c_6, .int .i64 59] (ex_call 10 _ _ rfl rfl r6_ent_10 _ (map2 (F.e rfl) rfl)) (prune_any wk2 wk_h2 _ _ 59 _ O_2.rd.1 O_2.rd.2.2 (by decide)) (fun e v hR => ?_)
 obtain ⟨A_45, c_45, he, O_3, hb⟩ := hR
 rw [wk_7] at he; clear O_3
 refine ⟨.slice A_45 wk2.length c_45, he, ?_⟩; clear he F a; intro a F
 refine hK _ _ ?_
 clear hK K
 replace O_1 := O_1.below hb
 replace O_2 := O_2.below hb
 replace z := z.below hb
 replace M := M.below hb; clear hb; try clear u
 refine list_val F (F.wants 43 true rfl (by kernel_rfl) rfl true rfl) rfl rfl (.int .i64 ((wk2.length : Nat) : Int)) (ex_len _ _ rfl 19 r6_sl_23_19 _ _ _ (F.e rfl)) ?_; clear F a; intro a F
 refine list_val F (F.wants 43 true rfl (by kernel_rfl) rfl true rfl) rfl rfl (.bool true) (ex_bin .eql _ _ _ _ rfl .i64 _ _ (F.e rfl) rfl _ (b_eql (by decide))) ?_; clear F a; intro a F
 refine list_val F (wn rfl) rfl rfl (.bool true) (ex_pick_t _ _ _ rfl (F.e rfl) _ (F.e rfl)) ?_; clear F a; intro a F
 refine list_val F (wn rfl) rfl rfl (.bool true) (ex_assign _ rfl _ (F.e rfl)) ?_; clear F a; intro a F
 refine wpList_nil ?_
 replace F : Fr 49 a [(0, .bool true), (1, .slice A_4 wk1.length c_4), (2, .slice (some ad) wk2.length c_6)] := F.keep ⟨rfl, rfl, rfl, trivial⟩
 refine then_n ?_
 refine wp_ret ?_
 exact ret_tmp F rfl rfl ⟨rfl, M.bel⟩
end Go.Proofs.Ytnjbjjmoglogeaa
