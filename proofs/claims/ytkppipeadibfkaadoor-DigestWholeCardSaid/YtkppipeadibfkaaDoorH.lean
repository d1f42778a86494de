/- The document's Sum (posternref4.Sum) with Copy, number. Conditions: what is handed in is read. -/
import Derived.Test.YtkppipeadibfkaaDoorD
import Derived.Test.YtkppipeadibfkaaDoorG
namespace Go.Proofs.YtkppipeadibfkaaDoor
open Go.RowKit Go.Proofs.YtkppipeadibfkaaDoorW.PrintWords KB WG
set_option linter.unusedVariables false
set_option linter.unusedSimpArgs false
set_option linter.unnecessarySimpa false
theorem lit1 (x : By) (w : World) : (Instr.buildSlice 23 1 #[(0, bv x)]).run Tryd.prog w = .ok (.slice (some ⟨w.heap.size, 0, none⟩) 1 1) (w.alloc (.cells (bcs [x]).toArray 5)) := by kernel_rfl
theorem n_rem (x : Nm) : (x.toNat : Int).tmod 256 = ((x % 256 : Nm).toNat : Int) := by
  show ((x.toNat : Int)).tmod ((256 : Nat) : Int) = _
  rw [show ((x.toNat : Int)).tmod ((256 : Nat) : Int) = ((x.toNat % 256 : Nat) : Int) from rfl, BitVec.toNat_umod]
  rfl
theorem n_quo (x : Nm) : IntKind.u64.wrap ((x.toNat : Int).tdiv 256) = ((x / 256 : Nm).toNat : Int) := by
  rw [show ((x.toNat : Int)).tdiv 256 = ((x.toNat / 256 : Nat) : Int) from rfl, w64, BitVec.toNat_ofNat, Nat.mod_eq_of_lt (Nat.lt_of_le_of_lt (Nat.div_le_self _ _) x.isLt), BitVec.toNat_udiv]
  rfl
def numX (x : Nm) : Nat → Nm
  | 0 => x
  | i + 1 => numX x i / 256
def numB (x : Nm) : Nat → List By
  | 0 => []
  | i + 1 => (numX x i % 256).setWidth 8 :: numB x i
theorem numB_len (x : Nm) : ∀ i, (numB x i).length = i
  | 0 => rfl
  | i + 1 => by rw [numB, List.length_cons, numB_len x i]
theorem numB_next (x : Nm) (i : Nat) : [(numX x i % 256).setWidth 8] ++ numB x i = numB x (i + 1) := rfl
theorem numX_next (x : Nm) (i : Nat) : numX x i / 256 = numX x (i + 1) := rfl
theorem div256 (x : Nm) : x / (256 : Nm) = x >>> 8 := by
  apply BitVec.eq_of_toNat_eq
  rw [BitVec.toNat_udiv, BitVec.toNat_ushiftRight, Nat.shiftRight_eq_div_pow]
  rfl
theorem mod256 (x : Nm) : (x % (256 : Nm)).setWidth 8 = (x.setWidth 8 : By) := by
  apply BitVec.eq_of_toNat_eq
  rw [BitVec.toNat_setWidth, BitVec.toNat_setWidth, BitVec.toNat_umod]
  show x.toNat % 256 % 256 = x.toNat % 256
  omega
theorem numX_shr (x : Nm) : ∀ i, numX x i = x >>> (8 * i)
  | 0 => by simp [numX]
  | i + 1 => by rw [numX, numX_shr x i, div256, ← BitVec.shiftRight_add]; rfl
theorem numB_all (x : Nm) : numB x 8 = be8 x := by
  simp only [numB, mod256, numX_shr]
  rfl
theorem changed_row (h : List Wd) (hh : h.length = 8) (b : List By) (A : Option Addr) (n c : Nat) (hn : n = 64) (hc : n ≤ c) (w : World) (hB : Rb w A n b) :
    Calls Tryd.prog 41 #[.agg (wcs h).toArray, .slice A n c] w fun e w' => e = .returned (.agg (wcs (blk h b)).toArray) ∧ Below w.heap.size w w' := by
  obtain ⟨ad, rfl, hA⟩ := hB.ex (by omega)
  exact changed_any h hh b (by rw [hB.1]; exact hn) ad n c hn hc w hA
theorem ex_cutmid {ρ : Operand → Value} {op : Oper} {w : World} (x y z : Operand) (ho : op.op = .slice 23 x (some y) (some z) none) (A : Option Addr) (q c : Nat) (hx : ρ x = .slice A q c) (i j : Int) (hy : ρ y = .int .i64 i) (hz : ρ z = .int .i64 j) (m k : Nat) (hm : i = (m : Int)) (hk : j = (k : Int)) (h1 : m ≤ k) (h2 : k ≤ c) :
    (execOp ρ op).run Tryd.prog w = .ok (.value (.slice (cutA A m c) (k - m) (c - m))) w := by
  subst hm hk
  obtain ⟨i0, hi, hzz⟩ := Option.map_eq_some_iff.1 info5z
  simp only [Prod.mk.injEq] at hzz
  have hr : (Instr.slice 23 (.slice A q c) (some (.int .i64 (m : Int))) (some (.int .i64 (k : Int))) none).run Tryd.prog w = .ok (.slice (cutA A m c) (k - m) (c - m)) w := by
    rw [run_slice_lh w 23 A q c un23 .i64 .i64 (m : Int) (k : Int) (by omega) (by omega) (by omega), el23]
    simp [sizeOf, typeInfo, hi, hzz.2.1, sliced, Result.andThen, cutA]
  unfold execOp
  simp only [ho, hx, hy, hz, Option.map_some, Option.map_none, Sem.run_bind, run_sliceAt_slice _ _ _ _ _ _ un23, hr, Result.andThen_ok, Sem.run_pure]
theorem i_quo (a b : Nat) (h : a ≤ 4611686018427387904) : IntKind.i64.wrap ((a : Int).tdiv (b : Int)) = ((a / b : Nat) : Int) := by
  rw [show ((a : Int)).tdiv (b : Int) = ((a / b : Nat) : Int) from rfl]
  have := Nat.div_le_self a b
  generalize a / b = q at *
  exact w_i64 (by omega) (by omega)
theorem zeros_lt (n : Nat) : zeros n < 64 := Nat.mod_lt _ (by decide)
theorem full_len' (b : List By) : (full b).length = b.length + 1 + zeros b.length + 8 := by rw [full, List.length_append, pad_len, be8_len]
set_option maxHeartbeats 4000000 in
set_option maxRecDepth 100000 in
theorem copy_any (b : List By) (B : Option Addr) (n c : Nat) (hn : n ≤ 70000000000000) (w : World) (hB : Rb w B n b) :
    Calls Tryd.prog 27 #[.slice B n c] w fun e w' => ∃ A' c', e = .returned (.slice A' b.length c') ∧ OwB w' w.heap.size (.slice A' b.length c') b ∧ Below w.heap.size w w' := by
 have R_ : Rs w w [] := Rs.nil w w
 refine calls_start Tryd.func27 rfl rfl rfl (fun a F => ?_)
 have M : Mm w w [] := Mm.nil w
 refine wp_seq ?_
 refine wp_region_lit ?_
 refine list_val F (wn rfl) rfl rfl (.slice none 0 0) (ex_assign _ rfl _ rfl) ?_; clear F a; intro a F
 refine wpList_nil ?_
 replace F : Fr 8 a [(0, .slice B n c), (2, .slice none 0 0)] := F.keep ⟨rfl, rfl, trivial⟩
 refine then_n ?_
 refine wp_seq ?_
 refine wp_region_lit ?_
 refine list_val F (wn rfl) rfl rfl (.slice none 0 0) (ex_assign _ rfl _ rfl) ?_; clear F a; intro a F
 refine wpList_nil ?_
 replace F : Fr 8 a [(0, .slice B n c), (2, .slice none 0 0), (3, .slice none 0 0)] := F.keep ⟨rfl, rfl, rfl, trivial⟩
 refine then_n ?_
 refine wp_seq ?_
 refine wp_region_lit ?_
 refine list_val F (wn rfl) rfl rfl (.slice none 0 0) (ex_move _ rfl _ (F.e rfl)) ?_; clear F a; intro a F
 refine list_val F (wn rfl) rfl rfl (.slice B n c) (ex_move _ rfl _ (F.e rfl)) ?_; clear F a; intro a F
 refine list_do (wn rfl) (fun K hK => ?_)
 replace R_ := R_.addnil
 refine ow_appR F M R_ rfl rfl rfl rfl _ _ rfl 0 none 0 0 [] b b rfl rfl B n c (F.e rfl) (F.e rfl) (hB.below M.bel) (by simp only [List.length_nil]; omega) ?_
 clear F M R_; intro a A_6 c_6 v F M R_
 refine hK _ _ ?_
 clear hK K
 try clear w
 refine list_val F (wn rfl) rfl rfl (.slice A_6 b.length c_6) (ex_assign _ rfl _ (F.e rfl)) ?_; clear F a; intro a F
 refine wpList_nil ?_
 replace F : Fr 8 a [(0, .slice B n c), (2, .slice none 0 0), (3, .slice A_6 b.length c_6)] := F.keep ⟨rfl, rfl, rfl, trivial⟩
 refine then_n ?_
 refine wp_seq ?_
 refine wp_region_lit ?_
 refine list_val F (wn rfl) rfl rfl (.slice A_6 b.length c_6) (ex_move _ rfl _ (F.e rfl)) ?_; clear F a; intro a F
 refine list_val F (wn rfl) rfl rfl (.slice A_6 b.length c_6) (ex_assign _ rfl _ (F.e rfl)) ?_; clear F a; intro a F
 refine wpList_nil ?_
 replace F : Fr 8 a [(0, .slice B n c), (2, .slice A_6 b.length c_6), (3, .slice A_6 b.length c_6)] := F.keep ⟨rfl, rfl, rfl, trivial⟩
 refine then_n ?_
 refine wp_ret ?_
 exact ret_tmp F rfl rfl ⟨A_6, c_6, rfl, R_.own 0 _ _ rfl, M.bel⟩
theorem dh_cv_62_5_u8 : cv? Tryd.prog 62 5 .u8 = true := by kernel_rfl
set_option maxHeartbeats 4000000 in
set_option maxRecDepth 100000 in
theorem number_any (x : Nm) (w : World) :
    Calls Tryd.prog 40 #[.int .u64 (x.toNat : Int)] w fun e w' => ∃ A' c', e = .returned (.slice A' (be8 x).length c') ∧ OwB w' w.heap.size (.slice A' (be8 x).length c') (be8 x) ∧ Below w.heap.size w w' := by
 have R_ : Rs w w [] := Rs.nil w w
 refine calls_start Tryd.func40 rfl rfl rfl (fun a F => ?_)
 have M : Mm w w [] := Mm.nil w
 refine wp_seq ?_
 refine wp_region_lit ?_
 refine list_val F (wn rfl) rfl rfl (.slice none 0 0) (ex_assign _ rfl _ rfl) ?_; clear F a; intro a F
 refine wpList_nil ?_
 replace F : Fr 18 a [(0, .int .u64 (x.toNat : Int)), (2, .slice none 0 0)] := F.keep ⟨rfl, rfl, trivial⟩
 refine then_n ?_
 refine wp_seq ?_
 refine wp_region_lit ?_
 refine list_val F (wn rfl) rfl rfl (.slice none 0 0) (ex_assign _ rfl _ rfl) ?_; clear F a; intro a F
 refine wpList_nil ?_
 replace F : Fr 18 a [(0, .int .u64 (x.toNat : Int)), (2, .slice none 0 0), (3, .slice none 0 0)] := F.keep ⟨rfl, rfl, rfl, trivial⟩
 refine then_n ?_
 refine wp_seq ?_
 refine wp_seq ?_
 refine wp_region_lit ?_
 refine list_val F (wn rfl) rfl rfl (.int .i64 0) (ex_assign _ rfl _ rfl) ?_; clear F a; intro a F
 refine wpList_nil ?_
 replace F : Fr 18 a [(0, .int .u64 (x.toNat : Int)), (2, .slice none 0 0), (3, .slice none 0 0), (4, .int .i64 0)] := F.keep ⟨rfl, rfl, rfl, rfl, trivial⟩
 refine then_n ?_
 refine wp_block ?_
 refine wp_loopN (fun mq ar wr => ∃ (i : Nat), ∃ (A2 : Option Addr), ∃ (c2 : Nat), ∃ (x2 : Nm), Fr 18 ar [(0, .int .u64 (x2.toNat : Int)), (2, .slice none 0 0), (3, .slice A2 ((numB x i).length) c2), (4, .int .i64 ((i : Nat) : Int))] ∧ Mm w wr [] ∧ Rs w wr [(.slice A2 ((numB x i).length) c2, (numB x i))] ∧ i ≤ 8 ∧ x2 = numX x i ∧ mq + i = 8) 8 ?_ ?_
 ·
  exact ⟨0, none, 0, x, F.keep ⟨rfl, rfl, rfl, rfl, trivial⟩, M, (R_.addnil), (Nat.zero_le _), rfl, (by omega)⟩
 clear F M a R_
 rintro mq a v ⟨i, A2, c2, x2, F, M, R_, hi, hx2, hq⟩; try clear w
 by_cases hin : i < 8
 ·
  have hln : (numB x i).length = i := numB_len x i
  refine wp_seq ?_
  refine wp_seq ?_
  refine wp_region_lit ?_
  refine list_val F (wn rfl) rfl rfl (.int .i64 ((i : Nat) : Int)) (ex_move _ rfl _ (F.e rfl)) ?_; clear F a; intro a F
  refine list_val F (wn rfl) rfl rfl (.bool true) (ex_bin .lss _ _ _ _ rfl .i64 _ _ (F.e rfl) rfl _ (b_lss (decide_eq_true (by omega)))) ?_; clear F a; intro a F
  refine wpList_nil ?_
  replace F : Fr 18 a [(0, .int .u64 (x2.toNat : Int)), (2, .slice none 0 0), (3, .slice A2 ((numB x i).length) c2), (4, .int .i64 ((i : Nat) : Int)), (6, .bool true)] := F.keep ⟨rfl, rfl, rfl, rfl, rfl, trivial⟩
  refine then_n ?_
  refine wp_cond_true (F.e rfl) ?_
  refine wp_skip ?_
  refine then_n ?_
  refine wp_seq ?_
  refine wp_block ?_
  refine wp_seq ?_
  refine wp_region_lit ?_
  refine list_val F (wn rfl) rfl rfl (.int .u64 (x2.toNat : Int)) (ex_move _ rfl _ (F.e rfl)) ?_; clear F a; intro a F
  refine list_val F (wn rfl) rfl rfl (.int .u64 ((x2 % 256).toNat : Int)) (ex_bin .rem _ _ _ _ rfl .u64 _ _ (F.e rfl) rfl _ (b_rem (by decide) (n_rem x2))) ?_; clear F a; intro a F
  refine list_val F (wn rfl) rfl rfl (bv (BitVec.setWidth 8 (x2 % 256))) (ex_lown _ _ _ rfl dh_cv_62_5_u8 (x2 % 256) (F.e rfl)) ?_; clear F a; intro a F
  refine list_do (wn rfl) (fun K hK => ?_)
  refine ow_lit F M R_ rfl rfl 1 _ rfl #[(0, bv (BitVec.setWidth 8 (x2 % 256)))] (parts1 (F.e rfl)) [(BitVec.setWidth 8 (x2 % 256))] rfl rfl (lit1 (BitVec.setWidth 8 (x2 % 256)) _) ?_
  clear F M R_; intro a g12 u F M R_ hb
  refine hK _ _ ?_
  clear hK K
  clear hb; try clear v
  refine list_val F (wn rfl) rfl rfl (.slice A2 ((numB x i).length) c2) (ex_move _ rfl _ (F.e rfl)) ?_; clear F a; intro a F
  refine list_do (wn rfl) (fun K hK => ?_)
  refine ow_appR F M R_ rfl rfl rfl rfl _ _ rfl 0 (some ⟨g12, 0, none⟩) 1 1 [(BitVec.setWidth 8 (x2 % 256))] (numB x i) (numB x (i + 1)) rfl (by rw [hx2]; exact numB_next x i) A2 ((numB x i).length) c2 (F.e rfl) (F.e rfl) (R_.rb (i := 1) rfl) (by (try simp only [List.length_append, List.length_cons, List.length_nil]); omega) ?_
  clear F M R_; intro a A_14 c_14 v F M R_
  refine hK _ _ ?_
  clear hK K
  try clear u
  refine list_val F (wn rfl) rfl rfl (.slice A_14 ((numB x (i + 1)).length) c_14) (ex_assign _ rfl _ (F.e rfl)) ?_; clear F a; intro a F
  refine wpList_nil ?_
  replace F : Fr 18 a [(0, .int .u64 (x2.toNat : Int)), (2, .slice none 0 0), (3, .slice A_14 ((numB x (i + 1)).length) c_14), (4, .int .i64 ((i : Nat) : Int)), (6, .bool true)] := F.keep ⟨rfl, rfl, rfl, rfl, rfl, trivial⟩
  refine then_n ?_
  refine wp_region_lit ?_
  refine list_val F (wn rfl) rfl rfl (.int .u64 (x2.toNat : Int)) (ex_move _ rfl _ (F.e rfl)) ?_; clear F a; intro a F
  refine list_val F (wn rfl) rfl rfl (.int .u64 ((x2 / 256).toNat : Int)) (ex_bin .quo _ _ _ _ rfl .u64 _ _ (F.e rfl) rfl _ (b_quo (by decide) (n_quo x2))) ?_; clear F a; intro a F
  refine list_val F (wn rfl) rfl rfl (.int .u64 ((x2 / 256).toNat : Int)) (ex_assign _ rfl _ (F.e rfl)) ?_; clear F a; intro a F
  refine wpList_nil ?_
  replace F : Fr 18 a [(0, .int .u64 ((x2 / 256).toNat : Int)), (2, .slice none 0 0), (3, .slice A_14 ((numB x (i + 1)).length) c_14), (4, .int .i64 ((i : Nat) : Int)), (6, .bool true)] := F.keep ⟨rfl, rfl, rfl, rfl, rfl, trivial⟩
  refine in_n ?_
  refine then_n ?_
  refine wp_region_lit ?_
  refine list_val F (wn rfl) rfl rfl (.int .i64 ((i : Nat) : Int)) (ex_move _ rfl _ (F.e rfl)) ?_; clear F a; intro a F
  refine list_val F (wn rfl) rfl rfl (.int .i64 ((i + 1 : Nat) : Int)) (ex_bin .add _ _ _ _ rfl .i64 _ _ (F.e rfl) rfl _ (b_add ((w_i64 (by omega) (by omega)).trans (by omega)))) ?_; clear F a; intro a F
  refine list_val F (wn rfl) rfl rfl (.int .i64 ((i + 1 : Nat) : Int)) (ex_assign _ rfl _ (F.e rfl)) ?_; clear F a; intro a F
  refine wpList_nil ?_
  replace F : Fr 18 a [(0, .int .u64 ((x2 / 256).toNat : Int)), (2, .slice none 0 0), (3, .slice A_14 ((numB x (i + 1)).length) c_14), (4, .int .i64 ((i + 1 : Nat) : Int)), (6, .bool true)] := F.keep ⟨rfl, rfl, rfl, rfl, rfl, trivial⟩
  refine then_n ?_
  replace R_ := R_.pick [0] [_] ⟨rfl, trivial⟩ (by decide)
  exact ⟨8 - (i + 1), by omega, (i + 1), A_14, c_14, (x2 / 256), F.keep ⟨rfl, rfl, rfl, rfl, trivial⟩, (by refine M.pick' [] _ ?_ (by decide); exact trivial), R_, (by omega), (by rw [hx2]; exact numX_next x i), (by omega)⟩
 obtain rfl : i = 8 := by omega
 refine wp_seq ?_
 refine wp_seq ?_
 refine wp_region_lit ?_
 refine list_val F (wn rfl) rfl rfl (.int .i64 ((8 : Nat) : Int)) (ex_move _ rfl _ (F.e rfl)) ?_; clear F a; intro a F
 refine list_val F (wn rfl) rfl rfl (.bool false) (ex_bin .lss _ _ _ _ rfl .i64 _ _ (F.e rfl) rfl _ (b_lss (decide_eq_false (by omega)))) ?_; clear F a; intro a F
 refine wpList_nil ?_
 replace F : Fr 18 a [(0, .int .u64 (x2.toNat : Int)), (2, .slice none 0 0), (3, .slice A2 ((numB x 8).length) c2), (4, .int .i64 ((8 : Nat) : Int)), (6, .bool false)] := F.keep ⟨rfl, rfl, rfl, rfl, rfl, trivial⟩
 refine then_n ?_
 refine wp_cond_false (F.e rfl) ?_
 refine wp_exit ?_
 refine then_x ?_
 refine then_x ?_
 refine in_hit ?_
 refine then_n ?_
 refine wp_seq ?_
 refine wp_region_lit ?_
 refine list_val F (wn rfl) rfl rfl (.slice A2 ((numB x 8).length) c2) (ex_move _ rfl _ (F.e rfl)) ?_; clear F a; intro a F
 refine list_val F (wn rfl) rfl rfl (.slice A2 ((numB x 8).length) c2) (ex_assign _ rfl _ (F.e rfl)) ?_; clear F a; intro a F
 refine wpList_nil ?_
 replace F : Fr 18 a [(0, .int .u64 (x2.toNat : Int)), (2, .slice A2 ((numB x 8).length) c2), (3, .slice A2 ((numB x 8).length) c2), (4, .int .i64 ((8 : Nat) : Int)), (6, .bool false)] := F.keep ⟨rfl, rfl, rfl, rfl, rfl, trivial⟩
 refine then_n ?_
 refine wp_ret ?_
 rw [numB_all] at R_
 have F2 := F
 rw [numB_all] at F2
 exact ret_tmp F2 rfl rfl ⟨A2, c2, rfl, R_.own 0 _ _ rfl, M.bel⟩
theorem dh_ent_27 : ent? Tryd.prog 27 = true := by kernel_rfl
theorem dh_sl_23_1 : sl? Tryd.prog 23 1 = true := by kernel_rfl
theorem dh_cv_3_62_u64 : cv? Tryd.prog 3 62 .u64 = true := by kernel_rfl
theorem dh_ent_40 : ent? Tryd.prog 40 = true := by kernel_rfl
theorem dh_follows_mixedOrders : Tryd.prog.follows .mixedOrders = true := by kernel_rfl
theorem dh_row_74_8 : row? Tryd.prog 74 8 = true := by kernel_rfl
theorem dh_ent_41 : ent? Tryd.prog 41 = true := by kernel_rfl
theorem dh_ar_74_8 : ar? Tryd.prog 74 8 = true := by kernel_rfl
theorem dh_one_73 : one? Tryd.prog 73 = true := by kernel_rfl
theorem dh_cv_3_77_u64 : cv? Tryd.prog 3 77 .u64 = true := by kernel_rfl
theorem dh_cv_73_5_u8 : cv? Tryd.prog 73 5 .u8 = true := by kernel_rfl
theorem dh_ar_24_32 : ar? Tryd.prog 24 32 = true := by kernel_rfl
theorem dh_info_5_map_size_some_1 : (Tryd.prog.info? 5).map (·.size) = some 1 := by kernel_rfl
theorem dh_row_24_32 : row? Tryd.prog 24 32 = true := by kernel_rfl
set_option maxHeartbeats 4000000 in
set_option maxRecDepth 100000 in
theorem refSum_any (b : List By) (B : Option Addr) (n c : Nat) (hn : n ≤ 60000000000000) (w : World) (hB : Rb w B n b) :
    Calls Tryd.prog 13 #[.slice B n c] w fun e w' => e = .returned (.agg (bcs (sha b)).toArray) ∧ Below w.heap.size w w' := by
 have R_ : Rs w w [] := Rs.nil w w
 have hzl := zeros_lt b.length; have hbl := hB.1
 refine calls_start Tryd.func13 rfl rfl rfl (fun a F => ?_)
 have M : Mm w w [] := Mm.nil w
 refine wp_seq ?_
 refine wp_region_lit ?_
 refine list_do (wn rfl) (fun K hK => ?_)
 refine ow_alloc F M rfl rfl 24 rfl (.agg (bcs (List.replicate 32 0)).toArray) z24 ((bcs (List.replicate 32 0)).toArray) rfl ?_
 clear F M a; intro a g2 v F M hb hg
 refine hK _ _ ?_
 clear hK K
 replace R_ := R_.below hb
 clear hb hg; try clear w
 refine wpList_nil ?_
 replace F : Fr 58 a [(0, .slice B n c), (2, .pointer (some ⟨g2, 0, none⟩))] := F.keep ⟨rfl, rfl, trivial⟩
 refine then_n ?_
 refine wp_seq ?_
 refine wp_region_lit ?_
 refine list_val F (wn rfl) rfl rfl (.agg ((wcs hIni).toArray)) (ex_build 74 _ rfl #[(0, .int .u32 1779033703), (1, .int .u32 3144134277), (2, .int .u32 1013904242), (3, .int .u32 2773480762), (4, .int .u32 1359893119), (5, .int .u32 2600822924), (6, .int .u32 528734635), (7, .int .u32 1541459225)] (parts8 rfl rfl rfl rfl rfl rfl rfl rfl) (.agg ((wcs hIni).toArray)) (build74_ini _)) ?_; clear F a; intro a F
 refine list_do (wn rfl) (fun K hK => ?_)
 refine ow_alloc F M rfl rfl 74 rfl (.agg (wcs zW8).toArray) z74 ((wcs zW8).toArray) rfl ?_
 clear F M a; intro a g3 u F M hb hg
 refine hK _ _ ?_
 clear hK K
 replace R_ := R_.below hb
 clear hb hg; try clear v
 refine list_do (wn rfl) (fun K hK => ?_)
 refine ow_put F M rfl 74 _ _ rfl 0 _ ((wcs zW8).toArray) _ rfl (F.e rfl) ((wcs hIni).toArray) (F.e rfl) (sz74 (show hIni.length = 8 from rfl)) (sz_eq (show zW8.length = 8 from rfl) (show hIni.length = 8 from rfl)) (all_oneCell_toArray (wcs_one _)) ?_
 clear F a; have Mo := M; clear M; intro a v F M hgr
 refine hK _ _ ?_
 clear hK K
 replace R_ := R_.box (Mo.blk 0 _ rfl) (by show 5 ≠ 74; decide) hgr
 clear Mo hgr; try clear u
 replace M : Mm w v [⟨g3, (wcs hIni).toArray, 74⟩, ⟨g2, ((bcs (List.replicate 32 0)).toArray), 24⟩] := M
 refine wpList_nil ?_
 replace F : Fr 58 a [(0, .slice B n c), (2, .pointer (some ⟨g2, 0, none⟩)), (3, .pointer (some ⟨g3, 0, none⟩))] := F.keep ⟨rfl, rfl, rfl, trivial⟩
 refine then_n ?_
 refine wp_seq ?_
 refine wp_region_lit ?_
 refine list_val F (wn rfl) rfl rfl (.slice B n c) (ex_move _ rfl _ (F.e rfl)) ?_; clear F a; intro a F
 refine list_do (wn rfl) (fun K hK => ?_)
 refine ow_call rfl rfl F 27 #[.slice B n c] (ex_call 27 _ _ rfl rfl dh_ent_27 _ (map1 (F.e rfl))) (copy_any b _ n c (by omega) _ (hB.below M.bel)) (fun e u hR => ?_)
 obtain ⟨A_10, c_10, he, O_n, hb⟩ := hR
 have R1 := R_.new hb M.bel.size O_n
 refine ⟨.slice A_10 b.length c_10, he, ?_⟩; clear he F a; intro a F
 refine hK _ _ ?_
 clear hK K
 replace R_ := R_.below hb
 replace M := M.below hb; clear hb; try clear v
 replace R_ := R1; clear R1 O_n
 refine list_do (wn rfl) (fun K hK => ?_)
 refine ow_lit F M R_ rfl rfl 1 _ rfl #[(0, .int .u8 128)] (parts1 rfl) [128] rfl rfl (by kernel_rfl) ?_
 clear F M R_; intro a g11 v F M R_ hb
 refine hK _ _ ?_
 clear hK K
 clear hb; try clear u
 refine list_do (wn rfl) (fun K hK => ?_)
 refine ow_appR F M R_ rfl rfl rfl rfl _ _ rfl 1 A_10 b.length c_10 b ([128]) (dpad b 0) rfl (dpad_zero b) (some ⟨g11, 0, none⟩) 1 1 (F.e rfl) (F.e rfl) (R_.rb (i := 0) rfl) (by rw [hB.1]; omega) ?_
 clear F M R_; intro a A_12 c_12 u F M R_
 refine hK _ _ ?_
 clear hK K
 try clear v
 refine list_val F (wn rfl) rfl rfl (.slice A_12 ((dpad b 0).length) c_12) (ex_assign _ rfl _ (F.e rfl)) ?_; clear F a; intro a F
 refine wpList_nil ?_
 replace F : Fr 58 a [(0, .slice B n c), (2, .pointer (some ⟨g2, 0, none⟩)), (3, .pointer (some ⟨g3, 0, none⟩)), (4, .slice A_12 ((dpad b 0).length) c_12)] := F.keep ⟨rfl, rfl, rfl, rfl, trivial⟩
 refine then_n ?_
 refine wp_seq ?_
 refine wp_block ?_
 refine wp_loopN (fun mq ar wr => ∃ (j : Nat), ∃ (A2 : Option Addr), ∃ (c2 : Nat), Fr 58 ar [(0, .slice B n c), (2, .pointer (some ⟨g2, 0, none⟩)), (3, .pointer (some ⟨g3, 0, none⟩)), (4, .slice A2 ((dpad b j).length) c2)] ∧ Mm w wr [⟨g3, (wcs hIni).toArray, 74⟩, ⟨g2, ((bcs (List.replicate 32 0)).toArray), 24⟩] ∧ Rs w wr [(.slice A2 ((dpad b j).length) c2, (dpad b j))] ∧ j ≤ zeros b.length ∧ mq + j = (zeros b.length)) (zeros b.length) ?_ ?_
 ·
  exact ⟨0, A_12, c_12, F.keep ⟨rfl, rfl, rfl, rfl, trivial⟩, M, (R_.pick [1] [_] ⟨rfl, trivial⟩ (by decide)), (Nat.zero_le _), (by omega)⟩
 clear F M a R_
 rintro mq a v ⟨j, A2, c2, F, M, R_, hj, hq⟩; try clear u
 by_cases hz : j < zeros b.length
 ·
  have hne56 : (dpad b j).length % 64 ≠ 56 := by rw [dpad_len]; exact zeros_less hz
  refine wp_seq ?_
  refine wp_seq ?_
  refine wp_region_lit ?_
  refine list_val F (wn rfl) rfl rfl (.slice A2 ((dpad b j).length) c2) (ex_move _ rfl _ (F.e rfl)) ?_; clear F a; intro a F
  refine list_val F (wn rfl) rfl rfl (.int .i64 (((dpad b j).length : Nat) : Int)) (ex_len _ _ rfl 1 dh_sl_23_1 _ _ _ (F.e rfl)) ?_; clear F a; intro a F
  refine list_val F (wn rfl) rfl rfl (.int .i64 (((dpad b j).length % 64 : Nat) : Int)) (ex_bin .rem _ _ _ _ rfl .i64 _ _ (F.e rfl) rfl _ (b_rem (by decide) (tmod_nat _ 64))) ?_; clear F a; intro a F
  refine list_val F (wn rfl) rfl rfl (.bool true) (ex_bin .neq _ _ _ _ rfl .i64 _ _ (F.e rfl) rfl _ (b_neq (by simp; omega))) ?_; clear F a; intro a F
  refine wpList_nil ?_
  replace F : Fr 58 a [(0, .slice B n c), (2, .pointer (some ⟨g2, 0, none⟩)), (3, .pointer (some ⟨g3, 0, none⟩)), (4, .slice A2 ((dpad b j).length) c2), (16, .bool true)] := F.keep ⟨rfl, rfl, rfl, rfl, rfl, trivial⟩
  refine then_n ?_
  refine wp_cond_true (F.e rfl) ?_
  refine wp_skip ?_
  refine then_n ?_
  refine wp_block ?_
  refine wp_region_lit ?_
  refine list_val F (wn rfl) rfl rfl (.slice A2 ((dpad b j).length) c2) (ex_move _ rfl _ (F.e rfl)) ?_; clear F a; intro a F
  refine list_do (wn rfl) (fun K hK => ?_)
  refine ow_lit F M R_ rfl rfl 1 _ rfl #[(0, .int .u8 0)] (parts1 rfl) [0] rfl rfl (by kernel_rfl) ?_
  clear F M R_; intro a g18 u F M R_ hb
  refine hK _ _ ?_
  clear hK K
  clear hb; try clear v
  refine list_do (wn rfl) (fun K hK => ?_)
  refine ow_appR F M R_ rfl rfl rfl rfl _ _ rfl 1 A2 ((dpad b j).length) c2 (dpad b j) ([0]) (dpad b (j + 1)) rfl (dpad_next b j) (some ⟨g18, 0, none⟩) 1 1 (F.e rfl) (F.e rfl) (R_.rb (i := 0) rfl) (by rw [dpad_len, hB.1]; omega) ?_
  clear F M R_; intro a A_19 c_19 v F M R_
  refine hK _ _ ?_
  clear hK K
  try clear u
  refine list_val F (wn rfl) rfl rfl (.slice A_19 ((dpad b (j + 1)).length) c_19) (ex_assign _ rfl _ (F.e rfl)) ?_; clear F a; intro a F
  refine wpList_nil ?_
  replace F : Fr 58 a [(0, .slice B n c), (2, .pointer (some ⟨g2, 0, none⟩)), (3, .pointer (some ⟨g3, 0, none⟩)), (4, .slice A_19 ((dpad b (j + 1)).length) c_19), (16, .bool true)] := F.keep ⟨rfl, rfl, rfl, rfl, rfl, trivial⟩
  refine in_n ?_
  refine then_n ?_
  replace R_ := R_.pick [1] [_] ⟨rfl, trivial⟩ (by decide)
  exact ⟨(zeros b.length) - (j + 1), by omega, (j + 1), A_19, c_19, F.keep ⟨rfl, rfl, rfl, rfl, trivial⟩, (by refine M.pick' [0, 1] _ ?_ (by decide); exact ⟨rfl, rfl, trivial⟩), R_, (by omega), (by omega)⟩
 have hjz : j = zeros b.length := by omega
 have he56 : (dpad b j).length % 64 = 56 := by rw [dpad_len, hjz]; exact zeros_fit _
 refine wp_seq ?_
 refine wp_seq ?_
 refine wp_region_lit ?_
 refine list_val F (wn rfl) rfl rfl (.slice A2 ((dpad b j).length) c2) (ex_move _ rfl _ (F.e rfl)) ?_; clear F a; intro a F
 refine list_val F (wn rfl) rfl rfl (.int .i64 (((dpad b j).length : Nat) : Int)) (ex_len _ _ rfl 1 dh_sl_23_1 _ _ _ (F.e rfl)) ?_; clear F a; intro a F
 refine list_val F (wn rfl) rfl rfl (.int .i64 (((dpad b j).length % 64 : Nat) : Int)) (ex_bin .rem _ _ _ _ rfl .i64 _ _ (F.e rfl) rfl _ (b_rem (by decide) (tmod_nat _ 64))) ?_; clear F a; intro a F
 refine list_val F (wn rfl) rfl rfl (.bool false) (ex_bin .neq _ _ _ _ rfl .i64 _ _ (F.e rfl) rfl _ (b_neq (by simp; omega))) ?_; clear F a; intro a F
 refine wpList_nil ?_
 replace F : Fr 58 a [(0, .slice B n c), (2, .pointer (some ⟨g2, 0, none⟩)), (3, .pointer (some ⟨g3, 0, none⟩)), (4, .slice A2 ((dpad b j).length) c2), (16, .bool false)] := F.keep ⟨rfl, rfl, rfl, rfl, rfl, trivial⟩
 refine then_n ?_
 refine wp_cond_false (F.e rfl) ?_
 refine wp_exit ?_
 refine then_x ?_
 refine then_x ?_
 refine in_hit ?_
 refine then_n ?_
 refine wp_seq ?_
 refine wp_region_lit ?_
 refine list_val F (wn rfl) rfl rfl (.slice A2 ((dpad b j).length) c2) (ex_move _ rfl _ (F.e rfl)) ?_; clear F a; intro a F
 refine list_val F (wn rfl) rfl rfl (.slice B n c) (ex_move _ rfl _ (F.e rfl)) ?_; clear F a; intro a F
 refine list_val F (wn rfl) rfl rfl (.int .i64 ((n : Nat) : Int)) (ex_len _ _ rfl 1 dh_sl_23_1 _ _ _ (F.e rfl)) ?_; clear F a; intro a F
 refine list_val F (wn rfl) rfl rfl (.int .u64 ((BitVec.ofNat 64 n).toNat : Int)) (ex_conv _ _ _ rfl _ .u64 dh_cv_3_62_u64 _ (F.e rfl) _ (w64 n)) ?_; clear F a; intro a F
 refine list_val F (wn rfl) rfl rfl (.int .u64 ((BitVec.ofNat 64 8 * BitVec.ofNat 64 n).toNat : Int)) (ex_bin .mul _ _ _ _ rfl .u64 _ _ rfl (F.e rfl) _ (b_mul (w64_mul 8 _))) ?_; clear F a; intro a F
 refine list_do (wn rfl) (fun K hK => ?_)
 refine ow_call rfl rfl F 40 #[.int .u64 ((BitVec.ofNat 64 8 * BitVec.ofNat 64 n).toNat : Int)] (ex_call 40 _ _ rfl rfl dh_ent_40 _ (map1 (F.e rfl))) (number_any (BitVec.ofNat 64 8 * BitVec.ofNat 64 n) _) (fun e u hR => ?_)
 obtain ⟨A_25, c_25, he, O_n, hb⟩ := hR
 have R1 := R_.new hb M.bel.size O_n
 refine ⟨.slice A_25 ((be8 (BitVec.ofNat 64 8 * BitVec.ofNat 64 n)).length) c_25, he, ?_⟩; clear he F a; intro a F
 refine hK _ _ ?_
 clear hK K
 replace R_ := R_.below hb
 replace M := M.below hb; clear hb; try clear v
 replace R_ := R1; clear R1 O_n
 refine list_do (wn rfl) (fun K hK => ?_)
 refine ow_appR F M R_ rfl rfl rfl rfl _ _ rfl 1 A2 ((dpad b j).length) c2 (dpad b j) (be8 (BitVec.ofNat 64 8 * BitVec.ofNat 64 n)) (full b) rfl (by rw [hjz, ← hB.1]; exact full_dpad b) A_25 ((be8 (BitVec.ofNat 64 8 * BitVec.ofNat 64 n)).length) c_25 (F.e rfl) (F.e rfl) (R_.rb (i := 0) rfl) (by rw [dpad_len, hB.1, be8_len]; omega) ?_
 clear F M R_; intro a A_26 c_26 v F M R_
 refine hK _ _ ?_
 clear hK K
 try clear u
 refine list_val F (wn rfl) rfl rfl (.slice A_26 ((full b).length) c_26) (ex_assign _ rfl _ (F.e rfl)) ?_; clear F a; intro a F
 refine wpList_nil ?_
 replace F : Fr 58 a [(0, .slice B n c), (2, .pointer (some ⟨g2, 0, none⟩)), (3, .pointer (some ⟨g3, 0, none⟩)), (4, .slice A_26 ((full b).length) c_26), (16, .bool false)] := F.keep ⟨rfl, rfl, rfl, rfl, rfl, trivial⟩
 refine then_n ?_
 refine wp_seq ?_
 refine wp_seq ?_
 refine wp_region_lit ?_
 refine list_val F (wn rfl) rfl rfl (.int .i64 0) (ex_assign _ rfl _ rfl) ?_; clear F a; intro a F
 refine wpList_nil ?_
 replace F : Fr 58 a [(0, .slice B n c), (2, .pointer (some ⟨g2, 0, none⟩)), (3, .pointer (some ⟨g3, 0, none⟩)), (4, .slice A_26 ((full b).length) c_26), (5, .int .i64 0), (16, .bool false)] := F.keep ⟨rfl, rfl, rfl, rfl, rfl, rfl, trivial⟩
 refine then_n ?_
 refine wp_block ?_
 have hfm := full_len b; have hfl := full_len' b; have hcap := R_.cap (i := 1) rfl
 refine wp_loopN (fun mq ar wr => ∃ (k : Nat), ∃ (h2 : List Wd), Fr 58 ar [(0, .slice B n c), (2, .pointer (some ⟨g2, 0, none⟩)), (3, .pointer (some ⟨g3, 0, none⟩)), (4, .slice A_26 ((full b).length) c_26), (5, .int .i64 ((64 * k : Nat) : Int)), (16, .bool false)] ∧ Mm w wr [⟨g3, (wcs h2).toArray, 74⟩, ⟨g2, ((bcs (List.replicate 32 0)).toArray), 24⟩] ∧ Rs w wr [(.slice A_26 ((full b).length) c_26, (full b))] ∧ 64 * k ≤ (full b).length ∧ h2.length = 8 ∧ feed hIni (full b) = feed h2 ((full b).drop (64 * k)) ∧ mq + k = ((full b).length)) ((full b).length) ?_ ?_
 ·
  exact ⟨0, hIni, F.keep ⟨rfl, rfl, rfl, rfl, rfl, rfl, trivial⟩, (by refine M.pick' [0, 1] _ ?_ (by decide); exact ⟨rfl, rfl, trivial⟩), (R_.pick [1] [_] ⟨rfl, trivial⟩ (by decide)), (Nat.zero_le _), rfl, rfl, (by omega)⟩
 clear F M a R_
 rintro mq a u ⟨k, h2, F, M, R_, hk1, h2l, hf, hq⟩; try clear v
 by_cases hk : 64 * k < (full b).length
 ·
  refine wp_seq ?_
  refine wp_seq ?_
  refine wp_region_lit ?_
  refine list_val F (wn rfl) rfl rfl (.int .i64 ((64 * k : Nat) : Int)) (ex_move _ rfl _ (F.e rfl)) ?_; clear F a; intro a F
  refine list_val F (wn rfl) rfl rfl (.slice A_26 ((full b).length) c_26) (ex_move _ rfl _ (F.e rfl)) ?_; clear F a; intro a F
  refine list_val F (wn rfl) rfl rfl (.int .i64 (((full b).length : Nat) : Int)) (ex_len _ _ rfl 1 dh_sl_23_1 _ _ _ (F.e rfl)) ?_; clear F a; intro a F
  refine list_val F (wn rfl) rfl rfl (.bool true) (ex_bin .lss _ _ _ _ rfl .i64 _ _ (F.e rfl) (F.e rfl) _ (b_lss (decide_eq_true (by omega)))) ?_; clear F a; intro a F
  refine wpList_nil ?_
  replace F : Fr 58 a [(0, .slice B n c), (2, .pointer (some ⟨g2, 0, none⟩)), (3, .pointer (some ⟨g3, 0, none⟩)), (4, .slice A_26 ((full b).length) c_26), (5, .int .i64 ((64 * k : Nat) : Int)), (16, .bool false), (30, .bool true)] := F.keep ⟨rfl, rfl, rfl, rfl, rfl, rfl, rfl, trivial⟩
  refine then_n ?_
  refine wp_cond_true (F.e rfl) ?_
  refine wp_skip ?_
  refine then_n ?_
  refine wp_seq ?_
  refine wp_block ?_
  refine region_tail 6 dh_follows_mixedOrders (by kernel_rfl) M ?_; clear M; intro v M hb
  replace R_ := R_.below hb
  clear hb; try clear u
  refine still_val F (wn rfl) rfl rfl (.agg ((wcs h2).toArray)) (ex_load _ _ rfl _ (F.e rfl) _ (lvr (cs := wcs h2) (by rw [wcs_len, show _ = 8 from h2l]; exact dh_row_74_8) (M.at (i := 0) rfl))) ?_; clear F a; intro a F
  refine still_val F (wn rfl) rfl rfl (.slice A_26 ((full b).length) c_26) (ex_move _ rfl _ (F.e rfl)) ?_; clear F a; intro a F
  refine still_val F (wn rfl) rfl rfl (.int .i64 ((64 * k : Nat) : Int)) (ex_move _ rfl _ (F.e rfl)) ?_; clear F a; intro a F
  refine still_val F (wn rfl) rfl rfl (.int .i64 ((64 * k : Nat) : Int)) (ex_move _ rfl _ (F.e rfl)) ?_; clear F a; intro a F
  refine still_val F (wn rfl) rfl rfl (.int .i64 ((64 * k + 64 : Nat) : Int)) (ex_bin .add _ _ _ _ rfl .i64 _ _ (F.e rfl) rfl _ (b_add ((w_i64 (by omega) (by omega)).trans (by omega)))) ?_; clear F a; intro a F
  refine still_val F (wn rfl) rfl rfl (.slice (cutA A_26 (64 * k) c_26) (64 * k + 64 - 64 * k) (c_26 - 64 * k)) (ex_cutmid _ _ _ rfl A_26 (full b).length c_26 (F.e rfl) _ _ (F.e rfl) (F.e rfl) (64 * k) (64 * k + 64) rfl rfl (by omega) (by omega)) ?_; clear F a; intro a F
  refine still_end ?_
  refine list_do (wn rfl) (fun K hK => ?_)
  refine ow_call rfl rfl F 41 #[.agg ((wcs h2).toArray), .slice (cutA A_26 (64 * k) c_26) (64 * k + 64 - 64 * k) (c_26 - 64 * k)] (ex_call 41 _ _ rfl rfl dh_ent_41 _ (map2 (F.e rfl) (F.e rfl))) (changed_row h2 h2l (((full b).drop (64 * k)).take (64 * k + 64 - 64 * k)) (cutA A_26 (64 * k) c_26) (64 * k + 64 - 64 * k) (c_26 - 64 * k) (by omega) (by omega) _ (((R_.rb (i := 0) rfl).drop (k := 64 * k) (c := c_26) (by omega) hcap).take (by omega))) (fun e u hR => ?_)
  obtain ⟨he, hb⟩ := hR
  refine ⟨.agg ((wcs (blk h2 (((full b).drop (64 * k)).take (64 * k + 64 - 64 * k)))).toArray), he, ?_⟩; clear he F a; intro a F
  refine hK _ _ ?_
  clear hK K
  replace R_ := R_.below hb
  replace M := M.below hb; clear hb; try clear v
  refine list_do (wn rfl) (fun K hK => ?_)
  refine ow_put F M rfl 74 _ _ rfl 0 _ ((wcs h2).toArray) _ rfl (F.e rfl) ((wcs (blk h2 (((full b).drop (64 * k)).take (64 * k + 64 - 64 * k)))).toArray) (F.e rfl) (sz74 (blk_len _ h2l)) (sz_eq h2l (blk_len _ h2l)) (all_oneCell_toArray (wcs_one _)) ?_
  clear F a; have Mo := M; clear M; intro a v F M hgr
  refine hK _ _ ?_
  clear hK K
  replace R_ := R_.box (Mo.blk 0 _ rfl) (by show 5 ≠ 74; decide) hgr
  clear Mo hgr; try clear u
  replace M : Mm w v [⟨g3, (wcs (blk h2 (((full b).drop (64 * k)).take (64 * k + 64 - 64 * k)))).toArray, 74⟩, ⟨g2, ((bcs (List.replicate 32 0)).toArray), 24⟩] := M
  refine wpList_nil ?_
  replace F : Fr 58 a [(0, .slice B n c), (2, .pointer (some ⟨g2, 0, none⟩)), (3, .pointer (some ⟨g3, 0, none⟩)), (4, .slice A_26 ((full b).length) c_26), (5, .int .i64 ((64 * k : Nat) : Int)), (16, .bool false), (30, .bool true)] := F.keep ⟨rfl, rfl, rfl, rfl, rfl, rfl, rfl, trivial⟩
  refine in_n ?_
  refine then_n ?_
  refine wp_region_lit ?_
  refine list_val F (wn rfl) rfl rfl (.int .i64 ((64 * k : Nat) : Int)) (ex_move _ rfl _ (F.e rfl)) ?_; clear F a; intro a F
  refine list_val F (wn rfl) rfl rfl (.int .i64 ((64 * (k + 1) : Nat) : Int)) (ex_bin .add _ _ _ _ rfl .i64 _ _ (F.e rfl) rfl _ (b_add ((w_i64 (by omega) (by omega)).trans (by omega)))) ?_; clear F a; intro a F
  refine list_val F (wn rfl) rfl rfl (.int .i64 ((64 * (k + 1) : Nat) : Int)) (ex_assign _ rfl _ (F.e rfl)) ?_; clear F a; intro a F
  refine wpList_nil ?_
  replace F : Fr 58 a [(0, .slice B n c), (2, .pointer (some ⟨g2, 0, none⟩)), (3, .pointer (some ⟨g3, 0, none⟩)), (4, .slice A_26 ((full b).length) c_26), (5, .int .i64 ((64 * (k + 1) : Nat) : Int)), (16, .bool false), (30, .bool true)] := F.keep ⟨rfl, rfl, rfl, rfl, rfl, rfl, rfl, trivial⟩
  refine then_n ?_
  exact ⟨((full b).length) - (k + 1), by omega, (k + 1), (blk h2 (((full b).drop (64 * k)).take (64 * k + 64 - 64 * k))), F.keep ⟨rfl, rfl, rfl, rfl, rfl, rfl, trivial⟩, (by refine M.pick' [0, 1] _ ?_ (by decide); exact ⟨rfl, rfl, trivial⟩), R_, (by omega), (blk_len _ h2l), (by rw [show 64 * k + 64 - 64 * k = 64 by omega]; show _ = feed _ ((full b).drop (64 * k + 64)); rw [hf, feed_ge (by rw [List.length_drop]; omega), List.drop_drop]), (by omega)⟩
 rw [List.drop_eq_nil_of_le (by omega), feed_nil] at hf
 have hfin : sha b = outB h2 := by rw [sha, hf]
 refine wp_seq ?_
 refine wp_seq ?_
 refine wp_region_lit ?_
 refine list_val F (wn rfl) rfl rfl (.int .i64 ((64 * k : Nat) : Int)) (ex_move _ rfl _ (F.e rfl)) ?_; clear F a; intro a F
 refine list_val F (wn rfl) rfl rfl (.slice A_26 ((full b).length) c_26) (ex_move _ rfl _ (F.e rfl)) ?_; clear F a; intro a F
 refine list_val F (wn rfl) rfl rfl (.int .i64 (((full b).length : Nat) : Int)) (ex_len _ _ rfl 1 dh_sl_23_1 _ _ _ (F.e rfl)) ?_; clear F a; intro a F
 refine list_val F (wn rfl) rfl rfl (.bool false) (ex_bin .lss _ _ _ _ rfl .i64 _ _ (F.e rfl) (F.e rfl) _ (b_lss (decide_eq_false (by omega)))) ?_; clear F a; intro a F
 refine wpList_nil ?_
 replace F : Fr 58 a [(0, .slice B n c), (2, .pointer (some ⟨g2, 0, none⟩)), (3, .pointer (some ⟨g3, 0, none⟩)), (4, .slice A_26 ((full b).length) c_26), (5, .int .i64 ((64 * k : Nat) : Int)), (16, .bool false), (30, .bool false)] := F.keep ⟨rfl, rfl, rfl, rfl, rfl, rfl, rfl, trivial⟩
 refine then_n ?_
 refine wp_cond_false (F.e rfl) ?_
 refine wp_exit ?_
 refine then_x ?_
 refine then_x ?_
 refine in_hit ?_
 refine then_n ?_
 refine wp_seq ?_
 clear R_
 refine wp_region_lit ?_
 refine list_do (wn rfl) (fun K hK => ?_)
 refine ow_alloc F M rfl rfl 24 rfl (.agg (bcs (List.replicate 32 0)).toArray) z24 ((bcs (List.replicate 32 0)).toArray) rfl ?_
 clear F M a; intro a g6 v F M hb hg
 refine hK _ _ ?_
 clear hK K
 clear hb hg; try clear u
 refine wpList_nil ?_
 replace F : Fr 58 a [(0, .slice B n c), (2, .pointer (some ⟨g2, 0, none⟩)), (3, .pointer (some ⟨g3, 0, none⟩)), (4, .slice A_26 ((full b).length) c_26), (5, .int .i64 ((64 * k : Nat) : Int)), (6, .pointer (some ⟨g6, 0, none⟩)), (16, .bool false), (30, .bool false)] := F.keep ⟨rfl, rfl, rfl, rfl, rfl, rfl, rfl, rfl, trivial⟩
 refine then_n ?_
 refine wp_seq ?_
 refine wp_seq ?_
 refine wp_region_lit ?_
 refine list_val F (wn rfl) rfl rfl (.int .i64 0) (ex_assign _ rfl _ rfl) ?_; clear F a; intro a F
 refine wpList_nil ?_
 replace F : Fr 58 a [(0, .slice B n c), (2, .pointer (some ⟨g2, 0, none⟩)), (3, .pointer (some ⟨g3, 0, none⟩)), (4, .slice A_26 ((full b).length) c_26), (5, .int .i64 ((64 * k : Nat) : Int)), (6, .pointer (some ⟨g6, 0, none⟩)), (7, .int .i64 0), (16, .bool false), (30, .bool false)] := F.keep ⟨rfl, rfl, rfl, rfl, rfl, rfl, rfl, rfl, rfl, trivial⟩
 refine then_n ?_
 refine wp_block ?_
 refine wp_loopN (fun mq ar wr => ∃ (i : Nat), ∃ (ol : List By), Fr 58 ar [(0, .slice B n c), (2, .pointer (some ⟨g2, 0, none⟩)), (3, .pointer (some ⟨g3, 0, none⟩)), (4, .slice A_26 ((full b).length) c_26), (5, .int .i64 ((64 * k : Nat) : Int)), (6, .pointer (some ⟨g6, 0, none⟩)), (7, .int .i64 ((i : Nat) : Int)), (16, .bool false), (30, .bool false)] ∧ Mm w wr [⟨g6, (bcs ol).toArray, 24⟩, ⟨g3, (wcs h2).toArray, 74⟩, ⟨g2, ((bcs (List.replicate 32 0)).toArray), 24⟩] ∧ i ≤ 32 ∧ ol = fill (outB h2) 32 i ∧ mq + i = 32) 32 ?_ ?_
 ·
  exact ⟨0, (List.replicate 32 0), F.keep ⟨rfl, rfl, rfl, rfl, rfl, rfl, rfl, rfl, rfl, trivial⟩, (by refine M.pick' [0, 1, 2] _ ?_ (by decide); exact ⟨rfl, rfl, rfl, trivial⟩), (Nat.zero_le _), (fill_zero _ _).symm, (by omega)⟩
 clear F M a
 rintro mq a u ⟨i, ol, F, M, hi, hol, hq⟩; try clear v
 have hol32 : (outB h2).length = 32 := by rw [outB_len, h2l]
 have hll : ol.length = 32 := by rw [hol]; exact fill_len hol32 hi
 by_cases hin : i < 32
 ·
  refine wp_seq ?_
  refine wp_seq ?_
  refine wp_region_lit ?_
  refine list_val F (wn rfl) rfl rfl (.int .i64 ((i : Nat) : Int)) (ex_move _ rfl _ (F.e rfl)) ?_; clear F a; intro a F
  refine list_val F (wn rfl) rfl rfl (.bool true) (ex_bin .lss _ _ _ _ rfl .i64 _ _ (F.e rfl) rfl _ (b_lss (decide_eq_true (by omega)))) ?_; clear F a; intro a F
  refine wpList_nil ?_
  replace F : Fr 58 a [(0, .slice B n c), (2, .pointer (some ⟨g2, 0, none⟩)), (3, .pointer (some ⟨g3, 0, none⟩)), (4, .slice A_26 ((full b).length) c_26), (5, .int .i64 ((64 * k : Nat) : Int)), (6, .pointer (some ⟨g6, 0, none⟩)), (7, .int .i64 ((i : Nat) : Int)), (16, .bool false), (30, .bool false), (41, .bool true)] := F.keep ⟨rfl, rfl, rfl, rfl, rfl, rfl, rfl, rfl, rfl, rfl, trivial⟩
  refine then_n ?_
  refine wp_cond_true (F.e rfl) ?_
  refine wp_skip ?_
  refine then_n ?_
  refine wp_seq ?_
  refine wp_block ?_
  refine wp_region_lit ?_
  refine list_val F (wn rfl) rfl rfl (.int .i64 ((i : Nat) : Int)) (ex_move _ rfl _ (F.e rfl)) ?_; clear F a; intro a F
  refine list_val F (wn rfl) rfl rfl (.int .i64 ((i : Nat) : Int)) (ex_move _ rfl _ (F.e rfl)) ?_; clear F a; intro a F
  refine list_val F (wn rfl) rfl rfl (.int .i64 ((i / 4 : Nat) : Int)) (ex_bin .quo _ _ _ _ rfl .i64 _ _ (F.e rfl) rfl _ (b_quo (by decide) (i_quo i 4 (by omega)))) ?_; clear F a; intro a F
  refine list_val F (wn rfl) rfl rfl (.pointer (some ⟨g3, i / 4, none⟩)) (ex_ixa _ _ _ rfl 8 dh_ar_74_8 ⟨g3, 0, none⟩ (F.e rfl) .i64 _ (F.e rfl) (i / 4) rfl (by omega) ⟨g3, i / 4, none⟩ ((addr_add _ _ _).trans (by rw [Nat.zero_add]))) ?_; clear F a; intro a F
  refine list_val F (wn rfl) rfl rfl (wv (h2.getD (i / 4) 0)) (ex_load _ _ rfl _ (F.e rfl) _ (lv1 dh_one_73 (M.cell (i := 1) rfl (j := i / 4) (wcs_arr (by omega))))) ?_; clear F a; intro a F
  refine list_val F (wn rfl) rfl rfl (.int .i64 ((i : Nat) : Int)) (ex_move _ rfl _ (F.e rfl)) ?_; clear F a; intro a F
  refine list_val F (wn rfl) rfl rfl (.int .i64 ((i % 4 : Nat) : Int)) (ex_bin .rem _ _ _ _ rfl .i64 _ _ (F.e rfl) rfl _ (b_rem (by decide) (tmod_nat i 4))) ?_; clear F a; intro a F
  refine list_val F (wn rfl) rfl rfl (.int .i64 ((8 * (i % 4) : Nat) : Int)) (ex_bin .mul _ _ _ _ rfl .i64 _ _ rfl (F.e rfl) _ (b_mul ((w_i64 (by omega) (by omega)).trans (by omega)))) ?_; clear F a; intro a F
  refine list_val F (wn rfl) rfl rfl (.int .i64 ((24 - 8 * (i % 4) : Nat) : Int)) (ex_bin .sub _ _ _ _ rfl .i64 _ _ rfl (F.e rfl) _ (b_sub ((w_i64 (by omega) (by omega)).trans (by omega)))) ?_; clear F a; intro a F
  refine list_val F (wn rfl) rfl rfl (.int .u64 ((24 - 8 * (i % 4) : Nat) : Int)) (ex_conv _ _ _ rfl _ .u64 dh_cv_3_77_u64 _ (F.e rfl) _ (w_u64 (by omega) (by omega))) ?_; clear F a; intro a F
  refine list_val F (wn rfl) rfl rfl (wv ((h2.getD (i / 4) 0) >>> (24 - 8 * (i % 4)))) (ex_shrw _ _ _ _ rfl (h2.getD (i / 4) 0) .u64 (24 - 8 * (i % 4)) (F.e rfl) (F.e rfl) (Nat.ble_eq_true_of_le (by omega))) ?_; clear F a; intro a F
  refine list_val F (wn rfl) rfl rfl (bv (BitVec.setWidth 8 ((h2.getD (i / 4) 0) >>> (24 - 8 * (i % 4))))) (ex_low _ _ _ rfl dh_cv_73_5_u8 ((h2.getD (i / 4) 0) >>> (24 - 8 * (i % 4))) (F.e rfl)) ?_; clear F a; intro a F
  refine list_val F (wn rfl) rfl rfl (.pointer (some ⟨g6, i, none⟩)) (ex_ixa _ _ _ rfl 32 dh_ar_24_32 ⟨g6, 0, none⟩ (F.e rfl) .i64 _ (F.e rfl) i rfl (by omega) ⟨g6, i, none⟩ ((addr_add _ _ _).trans (by rw [Nat.zero_add]))) ?_; clear F a; intro a F
  refine list_do (wn rfl) (fun K hK => ?_)
  refine ow_store F M rfl 5 _ _ rfl 0 g6 _ _ rfl (i) (F.e rfl) _ (F.e rfl) [bv (BitVec.setWidth 8 ((h2.getD (i / 4) 0) >>> (24 - 8 * (i % 4))))] rfl dh_info_5_map_size_some_1 (by rw [List.size_toArray, bcs_len]; simp only [List.length_set, List.length_cons, List.length_nil, Nat.zero_add]; omega) (by simp [bv, Value.oneCell']) (bcs (ol.set i (BitVec.setWidth 8 ((h2.getD (i / 4) 0) >>> (24 - 8 * (i % 4)))))).toArray (congrArg List.toArray (bcs_set _ _ _ (by (try simp only [List.length_set]); omega))) ?_
  clear F a; have Mo := M; clear M; intro a v F M hgr
  refine hK _ _ ?_
  clear hK K
  clear Mo hgr; try clear u
  replace M : Mm w v [⟨g6, (bcs (ol.set i (BitVec.setWidth 8 ((h2.getD (i / 4) 0) >>> (24 - 8 * (i % 4)))))).toArray, 24⟩, ⟨g3, (wcs h2).toArray, 74⟩, ⟨g2, ((bcs (List.replicate 32 0)).toArray), 24⟩] := M
  refine wpList_nil ?_
  replace F : Fr 58 a [(0, .slice B n c), (2, .pointer (some ⟨g2, 0, none⟩)), (3, .pointer (some ⟨g3, 0, none⟩)), (4, .slice A_26 ((full b).length) c_26), (5, .int .i64 ((64 * k : Nat) : Int)), (6, .pointer (some ⟨g6, 0, none⟩)), (7, .int .i64 ((i : Nat) : Int)), (16, .bool false), (30, .bool false), (41, .bool true)] := F.keep ⟨rfl, rfl, rfl, rfl, rfl, rfl, rfl, rfl, rfl, rfl, trivial⟩
  refine in_n ?_
  refine then_n ?_
  refine wp_region_lit ?_
  refine list_val F (wn rfl) rfl rfl (.int .i64 ((i : Nat) : Int)) (ex_move _ rfl _ (F.e rfl)) ?_; clear F a; intro a F
  refine list_val F (wn rfl) rfl rfl (.int .i64 ((i + 1 : Nat) : Int)) (ex_bin .add _ _ _ _ rfl .i64 _ _ (F.e rfl) rfl _ (b_add ((w_i64 (by omega) (by omega)).trans (by omega)))) ?_; clear F a; intro a F
  refine list_val F (wn rfl) rfl rfl (.int .i64 ((i + 1 : Nat) : Int)) (ex_assign _ rfl _ (F.e rfl)) ?_; clear F a; intro a F
  refine wpList_nil ?_
  replace F : Fr 58 a [(0, .slice B n c), (2, .pointer (some ⟨g2, 0, none⟩)), (3, .pointer (some ⟨g3, 0, none⟩)), (4, .slice A_26 ((full b).length) c_26), (5, .int .i64 ((64 * k : Nat) : Int)), (6, .pointer (some ⟨g6, 0, none⟩)), (7, .int .i64 ((i + 1 : Nat) : Int)), (16, .bool false), (30, .bool false), (41, .bool true)] := F.keep ⟨rfl, rfl, rfl, rfl, rfl, rfl, rfl, rfl, rfl, rfl, trivial⟩
  refine then_n ?_
  exact ⟨32 - (i + 1), by omega, (i + 1), (ol.set i (BitVec.setWidth 8 ((h2.getD (i / 4) 0) >>> (24 - 8 * (i % 4))))), F.keep ⟨rfl, rfl, rfl, rfl, rfl, rfl, rfl, rfl, rfl, trivial⟩, (by refine M.pick' [0, 1, 2] _ ?_ (by decide); exact ⟨rfl, rfl, rfl, trivial⟩), (by omega), (by rw [hol, ← outB_get h2 i (by omega)]; exact fill_set hol32 hin), (by omega)⟩
 have hout : sha b = ol := by rw [hfin, hol, show i = 32 by omega]; exact (fill_all hol32).symm
 refine wp_seq ?_
 refine wp_seq ?_
 refine wp_region_lit ?_
 refine list_val F (wn rfl) rfl rfl (.int .i64 ((i : Nat) : Int)) (ex_move _ rfl _ (F.e rfl)) ?_; clear F a; intro a F
 refine list_val F (wn rfl) rfl rfl (.bool false) (ex_bin .lss _ _ _ _ rfl .i64 _ _ (F.e rfl) rfl _ (b_lss (decide_eq_false (by omega)))) ?_; clear F a; intro a F
 refine wpList_nil ?_
 replace F : Fr 58 a [(0, .slice B n c), (2, .pointer (some ⟨g2, 0, none⟩)), (3, .pointer (some ⟨g3, 0, none⟩)), (4, .slice A_26 ((full b).length) c_26), (5, .int .i64 ((64 * k : Nat) : Int)), (6, .pointer (some ⟨g6, 0, none⟩)), (7, .int .i64 ((i : Nat) : Int)), (16, .bool false), (30, .bool false), (41, .bool false)] := F.keep ⟨rfl, rfl, rfl, rfl, rfl, rfl, rfl, rfl, rfl, rfl, trivial⟩
 refine then_n ?_
 refine wp_cond_false (F.e rfl) ?_
 refine wp_exit ?_
 refine then_x ?_
 refine then_x ?_
 refine in_hit ?_
 refine then_n ?_
 refine wp_seq ?_
 refine wp_region_lit ?_
 refine list_val F (wn rfl) rfl rfl (.agg ((bcs ol).toArray)) (ex_load _ _ rfl _ (F.e rfl) _ (lvr (cs := bcs ol) (by rw [bcs_len, show _ = 32 from hll]; exact dh_row_24_32) (M.at (i := 0) rfl))) ?_; clear F a; intro a F
 refine list_do (wn rfl) (fun K hK => ?_)
 refine ow_put F M rfl 24 _ _ rfl 2 _ ((bcs (List.replicate 32 0)).toArray) _ rfl (F.e rfl) ((bcs ol).toArray) (F.e rfl) (sz24 hll) (sz_eqb 32 rfl hll) (all_oneCell_toArray (bcs_one _)) ?_
 clear F a; have Mo := M; clear M; intro a v F M hgr
 refine hK _ _ ?_
 clear hK K
 clear Mo hgr; try clear u
 replace M : Mm w v [⟨g6, (bcs ol).toArray, 24⟩, ⟨g3, (wcs h2).toArray, 74⟩, ⟨g2, (bcs ol).toArray, 24⟩] := M
 refine wpList_nil ?_
 replace F : Fr 58 a [(0, .slice B n c), (2, .pointer (some ⟨g2, 0, none⟩)), (3, .pointer (some ⟨g3, 0, none⟩)), (4, .slice A_26 ((full b).length) c_26), (5, .int .i64 ((64 * k : Nat) : Int)), (6, .pointer (some ⟨g6, 0, none⟩)), (7, .int .i64 ((i : Nat) : Int)), (16, .bool false), (30, .bool false), (41, .bool false)] := F.keep ⟨rfl, rfl, rfl, rfl, rfl, rfl, rfl, rfl, rfl, rfl, trivial⟩
 refine then_n ?_
 refine wp_ret ?_
 rw [hout]
 exact ret_c1 (v := .agg ((bcs ol).toArray)) F rfl rfl (lvr (cs := bcs ol) (by rw [bcs_len, show _ = 32 from hll]; exact dh_row_24_32) (M.at (i := 2) rfl)) ⟨rfl, M.bel⟩
end Go.Proofs.YtkppipeadibfkaaDoor
