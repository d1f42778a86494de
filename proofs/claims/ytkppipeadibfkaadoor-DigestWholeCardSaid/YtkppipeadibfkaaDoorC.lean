/- Package digest: New; a turned word in the document's way. No conditions. -/
import Derived.Test.YtkppipeadibfkaaDoorB
namespace Go.Proofs.YtkppipeadibfkaaDoor
open Go.RowKit Go.Proofs.YtkppipeadibfkaaDoorW.PrintWords KB WG
set_option linter.unusedVariables false
set_option linter.unusedSimpArgs false
theorem build74_ini (w : World) : (Instr.build 74 #[(0, .int .u32 1779033703), (1, .int .u32 3144134277), (2, .int .u32 1013904242), (3, .int .u32 2773480762), (4, .int .u32 1359893119), (5, .int .u32 2600822924), (6, .int .u32 528734635), (7, .int .u32 1541459225)]).run Tryd.prog w = .ok (.agg (wcs hIni).toArray) w := by kernel_rfl
theorem build82_ini (w : World) : (Instr.build 82 #[(0, .agg (wcs hIni).toArray)]).run Tryd.prog w = .ok (.agg (hcs hIni (.slice none 0 0) 0).toArray) w := by kernel_rfl
/-- A word turned by multiplying and dividing. -/
theorem rr_nat (x : Wd) {n : Nat} (h0 : 0 < n) (h1 : n < 32) : (rr x n).toNat = x.toNat / 2 ^ n + x.toNat % 2 ^ n * 2 ^ (32 - n) := by
  have hx := x.isLt
  have hq : x.toNat / 2 ^ n < 2 ^ (32 - n) := by
    rw [Nat.div_lt_iff_lt_mul (Nat.two_pow_pos n), ← Nat.pow_add, show 32 - n + n = 32 by omega]; exact hx
  have hs : x.toNat <<< (32 - n) % 2 ^ 32 = (x.toNat % 2 ^ n) <<< (32 - n) := by
    rw [Nat.shiftLeft_eq, Nat.shiftLeft_eq]
    conv => lhs; rw [show 2 ^ 32 = 2 ^ n * 2 ^ (32 - n) by rw [← Nat.pow_add]; congr 1; omega]
    rw [Nat.mul_mod_mul_right]
  unfold rr
  rw [BitVec.toNat_or, BitVec.toNat_shiftLeft, BitVec.toNat_ushiftRight, hs, Nat.shiftRight_eq_div_pow, ← Nat.shiftLeft_add_eq_or_of_lt hq, Nat.shiftLeft_eq, Nat.add_comm]
section
variable {P : Program} {op : Oper} {ρ : Operand → Value} {w : World}
theorem ex_one (T T' : TypeId) (x y : Operand) (ho : op.op = .binOp .shl T x y T') (k : IntKind) (n : Nat) (hx : ρ x = .int .u32 1) (hy : ρ y = .int k (n : Int)) (hn : n < 32) : (execOp ρ op).run P w = .ok (.value (.int .u32 ((2 ^ n : Nat) : Int))) w := by
  have hb : (binOp .shl T (.int .u32 1) (.int k (n : Int))).run P w = .ok (.int .u32 ((2 ^ n : Nat) : Int)) w := by
    show (Op.shift .shl .u32 1 k (n : Int)).run P w = _
    unfold Op.shift
    rw [if_neg (by omega)]
    simp only [Sem.run_pure]
    refine congrArg (fun z => Result.ok (Value.int .u32 z) w) ?_
    rw [show min ((n : Int)).toNat IntKind.u32.bits = n from Nat.min_eq_left (by show n ≤ 32; omega), Int.one_mul, show ((2 : Int) ^ n) = ((2 ^ n : Nat) : Int) by simp, w32, BitVec.toNat_ofNat, Nat.mod_eq_of_lt (Nat.pow_lt_pow_right (by decide) hn)]
  have hg : (eqGuard .shl T x y (.int .u32 1) (.int k (n : Int))).run P w = .ok () w := by simp [eqGuard]
  unfold execOp
  simp only [ho, hx, hy, Sem.run_bind, hg, hb, Result.andThen_ok, Sem.run_pure]
end
theorem turn_mul (x : Wd) {n : Nat} (h0 : 0 < n) (h1 : n < 32) : IntKind.u32.wrap ((((x.toNat % 2 ^ n : Nat)) : Int) * ((2 ^ (32 - n) : Nat) : Int)) = ((x.toNat % 2 ^ n * 2 ^ (32 - n) : Nat) : Int) := by
  rw [← Int.natCast_mul, w32, BitVec.toNat_ofNat, Nat.mod_eq_of_lt]
  have h := Nat.mod_lt x.toNat (Nat.two_pow_pos n)
  calc x.toNat % 2 ^ n * 2 ^ (32 - n) < 2 ^ n * 2 ^ (32 - n) := Nat.mul_lt_mul_of_pos_right h (Nat.two_pow_pos _)
    _ = 2 ^ 32 := by rw [← Nat.pow_add]; congr 1; omega
theorem turn_add (x : Wd) {n : Nat} (h0 : 0 < n) (h1 : n < 32) : IntKind.u32.wrap (((x.toNat / 2 ^ n : Nat) : Int) + ((x.toNat % 2 ^ n * 2 ^ (32 - n) : Nat) : Int)) = ((rr x n).toNat : Int) := by
  rw [← Int.natCast_add, ← rr_nat x h0 h1, w32, BitVec.ofNat_toNat, BitVec.setWidth_eq]
theorem p2_ne (n : Nat) : ¬ (((2 ^ n : Nat)) : Int) = 0 := by have := Nat.two_pow_pos n; omega
theorem tmod_nat (a b : Nat) : (a : Int).tmod (b : Int) = ((a % b : Nat) : Int) := rfl
theorem tdiv_nat (x : Wd) (n : Nat) : IntKind.u32.wrap ((x.toNat : Int).tdiv ((2 ^ n : Nat) : Int)) = ((x.toNat / 2 ^ n : Nat) : Int) := by
  rw [show (x.toNat : Int).tdiv ((2 ^ n : Nat) : Int) = ((x.toNat / 2 ^ n : Nat) : Int) from rfl, w32, BitVec.toNat_ofNat, Nat.mod_eq_of_lt]
  exact Nat.lt_of_le_of_lt (Nat.div_le_self _ _) x.isLt
section
variable {P : Program} {a : Act} {w : World}
theorem ret_c1 {n : Nat} {L : List (Nat × Value)} {fn : Func} {R : Ending → World → Prop} (F : Fr n a L) {t : Nat} {T : TypeId} {p : Addr} {v : Value} (hr : fn.results = #[.cell t T]) (hv : lk L t = some (.pointer (some p)))
    (hl : (loadVar T p).run P w = .ok v w) (h : R (.returned v) w) : bodyPost P fn R .ret a w :=
  bodyPost_ret (by
    have e1 : a.tmps[t]?.getD undef = .pointer (some p) := by rw [← Array.getD_eq_getD_getElem?]; exact F.ev t _ hv
    simp [results, hr, e1, asAddr, hl, Sem.run_bind]) F.defers h
theorem ret_c2 {n : Nat} {L : List (Nat × Value)} {fn : Func} {R : Ending → World → Prop} (F : Fr n a L) {t s : Nat} {T : TypeId} {p : Addr} {v u : Value} (hr : fn.results = #[.cell t T, .tmp s]) (hv : lk L t = some (.pointer (some p)))
    (hu : lk L s = some u) (hl : (loadVar T p).run P w = .ok v w) (h : R (.returned (.tuple #[v, u])) w) : bodyPost P fn R .ret a w :=
  bodyPost_ret (by
    have e1 : a.tmps[t]?.getD undef = .pointer (some p) := by rw [← Array.getD_eq_getD_getElem?]; exact F.ev t _ hv
    have e2 : a.tmps[s]?.getD undef = u := by rw [← Array.getD_eq_getD_getElem?]; exact F.ev s _ hu
    simp [results, hr, e1, e2, asAddr, hl, Sem.run_bind]) F.defers h
end
theorem or_mul (a b i : Nat) (hb : b < 256) : (a * 256) * 2 ^ i ||| b * 2 ^ i = (a * 256 + b) * 2 ^ i := by
  rw [← Nat.shiftLeft_eq, ← Nat.shiftLeft_eq, ← Nat.shiftLeft_or_distrib, show a * 256 = a <<< 8 by rw [Nat.shiftLeft_eq], ← Nat.shiftLeft_add_eq_or_of_lt (i := 8) hb, Nat.shiftLeft_eq]
theorem wide_lt (b : By) : (wide b).toNat < 256 := by
  unfold wide; rw [BitVec.toNat_setWidth]; have := b.isLt; omega
theorem wide_shl (b : By) (i : Nat) (hi : i ≤ 24) : (wide b <<< i).toNat = (wide b).toNat * 2 ^ i := by
  rw [BitVec.toNat_shiftLeft, Nat.shiftLeft_eq, Nat.mod_eq_of_lt]
  have h := wide_lt b
  calc (wide b).toNat * 2 ^ i < 256 * 2 ^ i := Nat.mul_lt_mul_of_pos_right h (Nat.two_pow_pos _)
    _ ≤ 256 * 2 ^ 24 := Nat.mul_le_mul_left _ (Nat.pow_le_pow_right (by decide) hi)
    _ = 2 ^ 32 := by decide
theorem word_nat (l : List By) (t : Nat) : (word l t).toNat = (((wide (l.getD (4 * t) 0)).toNat * 256 + (wide (l.getD (4 * t + 1) 0)).toNat) * 256 + (wide (l.getD (4 * t + 2) 0)).toNat) * 256 + (wide (l.getD (4 * t + 3) 0)).toNat := by
  unfold word
  generalize l.getD (4 * t) 0 = b0
  generalize l.getD (4 * t + 1) 0 = b1
  generalize l.getD (4 * t + 2) 0 = b2
  generalize l.getD (4 * t + 3) 0 = b3
  have h1 := wide_lt b1
  have h2 := wide_lt b2
  have h3 := wide_lt b3
  rw [BitVec.toNat_or, BitVec.toNat_or, BitVec.toNat_or, wide_shl b0 24 (by decide), wide_shl b1 16 (by decide), wide_shl b2 8 (by decide)]
  generalize (wide b0).toNat = n0
  generalize (wide b1).toNat = n1 at *
  generalize (wide b2).toNat = n2 at *
  generalize (wide b3).toNat = n3 at *
  rw [show n0 * 2 ^ 24 = (n0 * 256) * 2 ^ 16 by omega, or_mul n0 n1 16 h1, show (n0 * 256 + n1) * 2 ^ 16 = ((n0 * 256 + n1) * 256) * 2 ^ 8 by omega, or_mul _ n2 8 h2]
  have := or_mul ((n0 * 256 + n1) * 256 + n2) n3 0 h3
  rw [Nat.pow_zero, Nat.mul_one, Nat.mul_one, Nat.mul_one] at this
  rw [show ((n0 * 256 + n1) * 256 + n2) * 2 ^ 8 = ((n0 * 256 + n1) * 256 + n2) * 256 by omega]
  exact this
def fourN (l : List By) : Nat → Wd
  | 0 => 0
  | i + 1 => 256 * fourN l i + wide (l.getD i 0)
theorem four_word (l : List By) : fourN l 4 = word l 0 := by
  apply BitVec.eq_of_toNat_eq
  rw [word_nat]
  simp only [fourN, BitVec.toNat_add, BitVec.toNat_mul, Nat.mul_zero, Nat.zero_add]
  have h0 := wide_lt (l.getD 0 0)
  have h1 := wide_lt (l.getD 1 0)
  have h2 := wide_lt (l.getD 2 0)
  have h3 := wide_lt (l.getD 3 0)
  have e0 : BitVec.toNat (256 : Wd) = 256 := rfl
  have e1 : BitVec.toNat (0 : Wd) = 0 := rfl
  rw [e0, e1]
  omega
theorem ex_mul256 {P : Program} {op : Oper} {ρ : Operand → Value} {w : World} (T T' : TypeId) (x y : Operand) (ho : op.op = .binOp .mul T x y T') (a : Wd) (hx : ρ x = .int .u32 256) (hy : ρ y = wv a) : (execOp ρ op).run P w = .ok (.value (wv (256 * a))) w :=
  ex_bin .mul T T' x y ho .u32 _ _ hx hy _ (b_mul (by rw [show (256 : Int) * (a.toNat : Int) = ((256 * a.toNat : Nat) : Int) by simp, w32]; congr 1))
set_option maxHeartbeats 4000000 in
set_option maxRecDepth 100000 in
theorem new_any (w : World) : Calls Tryd.prog 31 #[] w fun e w' => ∃ g, e = .returned (.pointer (some ⟨g, 0, none⟩)) ∧ w.heap.size ≤ g ∧ w'.heap[g]? = some (.cells (hcs hIni (.slice none 0 0) 0).toArray 82 (0, 0)) ∧ Below w.heap.size w w' := by
 refine calls_start Tryd.func31 rfl rfl rfl (fun a F => ?_)
 have M : Mm w w [] := Mm.nil w
 refine wp_seq ?_
 refine wp_region_lit ?_
 refine list_val F (wn rfl) rfl rfl (.pointer none) (ex_assign _ rfl _ rfl) ?_; clear F a; intro a F
 refine wpList_nil ?_
 replace F : Fr 4 a [(0, .pointer none)] := F.keep ⟨rfl, trivial⟩
 refine then_n ?_
 refine wp_seq ?_
 refine wp_region_lit ?_
 refine list_val F (wn rfl) rfl rfl (.agg ((wcs hIni).toArray)) (ex_build 74 _ rfl #[(0, .int .u32 1779033703), (1, .int .u32 3144134277), (2, .int .u32 1013904242), (3, .int .u32 2773480762), (4, .int .u32 1359893119), (5, .int .u32 2600822924), (6, .int .u32 528734635), (7, .int .u32 1541459225)] (parts8 rfl rfl rfl rfl rfl rfl rfl rfl) (.agg ((wcs hIni).toArray)) (build74_ini _)) ?_; clear F a; intro a F
 refine list_val F (wn rfl) rfl rfl (.agg ((hcs hIni (.slice none 0 0) 0).toArray)) (ex_build 82 _ rfl #[(0, .agg ((wcs hIni).toArray))] (parts1 (F.e rfl)) (.agg ((hcs hIni (.slice none 0 0) 0).toArray)) (build82_ini _)) ?_; clear F a; intro a F
 refine list_do (wn rfl) (fun K hK => ?_)
 refine ow_box F M rfl rfl 82 _ rfl _ (F.e rfl) ((hcs hIni (.slice none 0 0) 0).toArray) rfl ?_
 clear F M a; intro a g3 v F M hb hg
 refine hK _ _ ?_
 clear hK K
 clear hb hg; try clear w
 refine list_val F (wn rfl) rfl rfl (.pointer (some ⟨g3, 0, none⟩)) (ex_assign _ rfl _ (F.e rfl)) ?_; clear F a; intro a F
 refine wpList_nil ?_
 replace F : Fr 4 a [(0, .pointer (some ⟨g3, 0, none⟩))] := F.keep ⟨rfl, trivial⟩
 refine then_n ?_
 refine wp_ret ?_
 exact ret_tmp F rfl rfl ⟨g3, rfl, M.lo 0 _ rfl, M.blk 0 _ rfl, M.bel⟩
set_option maxHeartbeats 4000000 in
set_option maxRecDepth 100000 in
theorem turn_any (x : Wd) (n : Nat) (h0 : 0 < n) (h1 : n < 32) (w : World) :
    Calls Tryd.prog 49 #[wv x, .int .u64 ((n : Nat) : Int)] w fun e w' => e = .returned (wv (rr x n)) ∧ Below w.heap.size w w' := by
 refine calls_start Tryd.func49 rfl rfl rfl (fun a F => ?_)
 have M : Mm w w [] := Mm.nil w
 refine wp_seq ?_
 refine wp_region_lit ?_
 refine list_val F (wn rfl) rfl rfl (.int .u32 0) (ex_assign _ rfl _ rfl) ?_; clear F a; intro a F
 refine wpList_nil ?_
 replace F : Fr 20 a [(0, .int .u32 (x.toNat : Int)), (1, .int .u64 ((n : Nat) : Int)), (4, .int .u32 0)] := F.keep ⟨rfl, rfl, rfl, trivial⟩
 refine then_n ?_
 refine wp_seq ?_
 refine wp_region_lit ?_
 refine list_val F (wn rfl) rfl rfl (.int .u32 (x.toNat : Int)) (ex_move _ rfl _ (F.e rfl)) ?_; clear F a; intro a F
 refine list_val F (wn rfl) rfl rfl (.int .u64 ((n : Nat) : Int)) (ex_move _ rfl _ (F.e rfl)) ?_; clear F a; intro a F
 refine list_val F (wn rfl) rfl rfl (.int .u32 ((2 ^ n : Nat) : Int)) (ex_one _ _ _ _ rfl .u64 n rfl (F.e rfl) (by omega)) ?_; clear F a; intro a F
 refine list_val F (wn rfl) rfl rfl (.int .u32 ((x.toNat % 2 ^ n : Nat) : Int)) (ex_bin .rem _ _ _ _ rfl .u32 _ _ (F.e rfl) (F.e rfl) _ (b_rem (p2_ne n) (tmod_nat _ _))) ?_; clear F a; intro a F
 refine list_val F (wn rfl) rfl rfl (.int .u32 ((x.toNat % 2 ^ n : Nat) : Int)) (ex_assign _ rfl _ (F.e rfl)) ?_; clear F a; intro a F
 refine wpList_nil ?_
 replace F : Fr 20 a [(0, .int .u32 (x.toNat : Int)), (1, .int .u64 ((n : Nat) : Int)), (4, .int .u32 0), (5, .int .u32 ((x.toNat % 2 ^ n : Nat) : Int))] := F.keep ⟨rfl, rfl, rfl, rfl, trivial⟩
 refine then_n ?_
 refine wp_seq ?_
 refine wp_region_lit ?_
 refine list_val F (wn rfl) rfl rfl (.int .u32 (x.toNat : Int)) (ex_move _ rfl _ (F.e rfl)) ?_; clear F a; intro a F
 refine list_val F (wn rfl) rfl rfl (.int .u64 ((n : Nat) : Int)) (ex_move _ rfl _ (F.e rfl)) ?_; clear F a; intro a F
 refine list_val F (wn rfl) rfl rfl (.int .u32 ((2 ^ n : Nat) : Int)) (ex_one _ _ _ _ rfl .u64 n rfl (F.e rfl) (by omega)) ?_; clear F a; intro a F
 refine list_val F (wn rfl) rfl rfl (.int .u32 ((x.toNat / 2 ^ n : Nat) : Int)) (ex_bin .quo _ _ _ _ rfl .u32 _ _ (F.e rfl) (F.e rfl) _ (b_quo (p2_ne n) (tdiv_nat x n))) ?_; clear F a; intro a F
 refine list_val F (wn rfl) rfl rfl (.int .u32 ((x.toNat % 2 ^ n : Nat) : Int)) (ex_move _ rfl _ (F.e rfl)) ?_; clear F a; intro a F
 refine list_val F (wn rfl) rfl rfl (.int .u64 ((n : Nat) : Int)) (ex_move _ rfl _ (F.e rfl)) ?_; clear F a; intro a F
 refine list_val F (wn rfl) rfl rfl (.int .u64 ((32 - n : Nat) : Int)) (ex_bin .sub _ _ _ _ rfl .u64 _ _ rfl (F.e rfl) _ (b_sub ((w_u64 (by omega) (by omega)).trans (by omega)))) ?_; clear F a; intro a F
 refine list_val F (wn rfl) rfl rfl (.int .u32 ((2 ^ (32 - n) : Nat) : Int)) (ex_one _ _ _ _ rfl .u64 (32 - n) rfl (F.e rfl) (by omega)) ?_; clear F a; intro a F
 refine list_val F (wn rfl) rfl rfl (.int .u32 ((x.toNat % 2 ^ n * 2 ^ (32 - n) : Nat) : Int)) (ex_bin .mul _ _ _ _ rfl .u32 _ _ (F.e rfl) (F.e rfl) _ (b_mul (turn_mul x h0 h1))) ?_; clear F a; intro a F
 refine list_val F (wn rfl) rfl rfl (.int .u32 ((rr x n).toNat : Int)) (ex_bin .add _ _ _ _ rfl .u32 _ _ (F.e rfl) (F.e rfl) _ (b_add (turn_add x h0 h1))) ?_; clear F a; intro a F
 refine list_val F (wn rfl) rfl rfl (.int .u32 ((rr x n).toNat : Int)) (ex_assign _ rfl _ (F.e rfl)) ?_; clear F a; intro a F
 refine wpList_nil ?_
 replace F : Fr 20 a [(0, .int .u32 (x.toNat : Int)), (1, .int .u64 ((n : Nat) : Int)), (4, .int .u32 ((rr x n).toNat : Int)), (5, .int .u32 ((x.toNat % 2 ^ n : Nat) : Int))] := F.keep ⟨rfl, rfl, rfl, rfl, trivial⟩
 refine then_n ?_
 refine wp_ret ?_
 exact ret_tmp F rfl rfl ⟨rfl, M.bel⟩
theorem de_row_84_64 : row? Tryd.prog 84 64 = true := by kernel_rfl
set_option maxHeartbeats 4000000 in
set_option maxRecDepth 100000 in
theorem factor_any (w : World) : Calls Tryd.prog 47 #[] w fun e w' => e = .returned (.agg (wcs kTab).toArray) ∧ Below w.heap.size w w' := by
 refine calls_start Tryd.func47 rfl rfl rfl (fun a F => ?_)
 have M : Mm w w [] := Mm.nil w
 refine wp_seq ?_
 refine wp_region_lit ?_
 refine list_do (wn rfl) (fun K hK => ?_)
 refine ow_alloc F M rfl rfl 84 rfl (.agg (wcs zW64).toArray) z84 ((wcs zW64).toArray) rfl ?_
 clear F M a; intro a g0 v F M hb hg
 refine hK _ _ ?_
 clear hK K
 clear hb hg; try clear w
 refine wpList_nil ?_
 replace F : Fr 2 a [(0, .pointer (some ⟨g0, 0, none⟩))] := F.keep ⟨rfl, trivial⟩
 refine then_n ?_
 refine wp_seq ?_
 refine wp_region_lit ?_
 refine list_val F (wn rfl) rfl rfl (.agg ((wcs kTab).toArray)) (by kernel_rfl) ?_; clear F a; intro a F
 refine list_do (wn rfl) (fun K hK => ?_)
 refine ow_put F M rfl 84 _ _ rfl 0 _ ((wcs zW64).toArray) _ rfl (F.e rfl) ((wcs kTab).toArray) (F.e rfl) (by kernel_rfl) (by kernel_rfl) (all_oneCell_toArray (wcs_one _)) ?_
 clear F a; have Mo := M; clear M; intro a u F M hgr
 refine hK _ _ ?_
 clear hK K
 clear Mo hgr; try clear v
 replace M : Mm w u [⟨g0, (wcs kTab).toArray, 84⟩] := M
 refine wpList_nil ?_
 replace F : Fr 2 a [(0, .pointer (some ⟨g0, 0, none⟩))] := F.keep ⟨rfl, trivial⟩
 refine then_n ?_
 refine wp_ret ?_
 exact ret_c1 (v := .agg ((wcs kTab).toArray)) F rfl rfl (lvr (cs := wcs kTab) (by rw [wcs_len, show _ = 64 from kTab_len]; exact de_row_84_64) (M.at (i := 0) rfl)) ⟨rfl, M.bel⟩
theorem de_sl_23_1 : sl? Tryd.prog 23 1 = true := by kernel_rfl
theorem de_one_5 : one? Tryd.prog 5 = true := by kernel_rfl
theorem de_cv_5_73_u32 : cv? Tryd.prog 5 73 .u32 = true := by kernel_rfl
set_option maxHeartbeats 4000000 in
set_option maxRecDepth 100000 in
theorem four_any (b : List By) (h4 : 4 ≤ b.length) (adb : Addr) (n c : Nat) (hn : 4 ≤ n) (w : World) (hB : At w adb (bcs b)) :
    Calls Tryd.prog 48 #[.slice (some adb) n c] w fun e w' => e = .returned (wv (word b 0)) ∧ Below w.heap.size w w' := by
 refine calls_start Tryd.func48 rfl rfl rfl (fun a F => ?_)
 have M : Mm w w [] := Mm.nil w
 refine wp_seq ?_
 refine wp_region_lit ?_
 refine list_val F (wn rfl) rfl rfl (.int .u32 0) (ex_assign _ rfl _ rfl) ?_; clear F a; intro a F
 refine wpList_nil ?_
 replace F : Fr 18 a [(0, .slice (some adb) n c), (2, .int .u32 0)] := F.keep ⟨rfl, rfl, trivial⟩
 refine then_n ?_
 refine wp_seq ?_
 refine wp_region_lit ?_
 refine list_val F (wn rfl) rfl rfl (.int .u32 0) (ex_assign _ rfl _ rfl) ?_; clear F a; intro a F
 refine wpList_nil ?_
 replace F : Fr 18 a [(0, .slice (some adb) n c), (2, .int .u32 0), (3, .int .u32 0)] := F.keep ⟨rfl, rfl, rfl, trivial⟩
 refine then_n ?_
 refine wp_seq ?_
 refine wp_seq ?_
 refine wp_region_lit ?_
 refine list_val F (wn rfl) rfl rfl (.int .i64 0) (ex_assign _ rfl _ rfl) ?_; clear F a; intro a F
 refine wpList_nil ?_
 replace F : Fr 18 a [(0, .slice (some adb) n c), (2, .int .u32 0), (3, .int .u32 0), (4, .int .i64 0)] := F.keep ⟨rfl, rfl, rfl, rfl, trivial⟩
 refine then_n ?_
 refine wp_block ?_
 refine wp_loopN (fun mq ar wr => ∃ (i : Nat), ∃ (x : Wd), Fr 18 ar [(0, .slice (some adb) n c), (2, .int .u32 0), (3, wv x), (4, .int .i64 i)] ∧ Mm w wr [] ∧ i ≤ 4 ∧ x = fourN b i ∧ mq + i = 4) 4 ?_ ?_
 ·
  exact ⟨0, 0, F.keep ⟨rfl, rfl, rfl, rfl, trivial⟩, M, (Nat.zero_le _), rfl, (by omega)⟩
 clear F M a
 rintro mq a v ⟨i, x, F, M, hi, hx, hq⟩; try clear w
 by_cases hin : i < 4
 ·
  refine wp_seq ?_
  refine wp_seq ?_
  refine wp_region_lit ?_
  refine list_val F (wn rfl) rfl rfl (.int .i64 i) (ex_move _ rfl _ (F.e rfl)) ?_; clear F a; intro a F
  refine list_val F (wn rfl) rfl rfl (.bool true) (ex_bin .lss _ _ _ _ rfl .i64 _ _ (F.e rfl) rfl _ (b_lss (decide_eq_true (by omega)))) ?_; clear F a; intro a F
  refine wpList_nil ?_
  replace F : Fr 18 a [(0, .slice (some adb) n c), (2, .int .u32 0), (3, wv x), (4, .int .i64 i), (6, .bool true)] := F.keep ⟨rfl, rfl, rfl, rfl, rfl, trivial⟩
  refine then_n ?_
  refine wp_cond_true (F.e rfl) ?_
  refine wp_skip ?_
  refine then_n ?_
  refine wp_seq ?_
  refine wp_block ?_
  refine wp_region_lit ?_
  refine list_val F (wn rfl) rfl rfl (wv x) (ex_move _ rfl _ (F.e rfl)) ?_; clear F a; intro a F
  refine list_val F (wn rfl) rfl rfl (wv (256 * x)) (ex_mul256 _ _ _ _ rfl x rfl (F.e rfl)) ?_; clear F a; intro a F
  refine list_val F (wn rfl) rfl rfl (.slice (some adb) n c) (ex_move _ rfl _ (F.e rfl)) ?_; clear F a; intro a F
  refine list_val F (wn rfl) rfl rfl (.int .i64 i) (ex_move _ rfl _ (F.e rfl)) ?_; clear F a; intro a F
  refine list_val F (wn rfl) rfl rfl (.pointer (some (adb.add i))) (ex_ix _ _ _ rfl 1 de_sl_23_1 adb _ _ (F.e rfl) .i64 _ (F.e rfl) i rfl (by omega) _ (congrArg _ (Nat.mul_one _))) ?_; clear F a; intro a F
  refine list_val F (wn rfl) rfl rfl (bv (b.getD i 0)) (ex_load _ _ rfl _ (F.e rfl) _ (lv1 de_one_5 (At.cell (hB.below M.bel) i _ (bcs_get (by omega))))) ?_; clear F a; intro a F
  refine list_val F (wn rfl) rfl rfl (wv (wide (b.getD i 0))) (ex_wide _ _ _ rfl de_cv_5_73_u32 (b.getD i 0) (F.e rfl)) ?_; clear F a; intro a F
  refine list_val F (wn rfl) rfl rfl (wv ((256 * x) + (wide (b.getD i 0)))) (ex_addw _ _ _ _ rfl (256 * x) (wide (b.getD i 0)) (F.e rfl) (F.e rfl)) ?_; clear F a; intro a F
  refine list_val F (wn rfl) rfl rfl (wv ((256 * x) + (wide (b.getD i 0)))) (ex_assign _ rfl _ (F.e rfl)) ?_; clear F a; intro a F
  refine wpList_nil ?_
  replace F : Fr 18 a [(0, .slice (some adb) n c), (2, .int .u32 0), (3, wv ((256 * x) + (wide (b.getD i 0)))), (4, .int .i64 i), (6, .bool true)] := F.keep ⟨rfl, rfl, rfl, rfl, rfl, trivial⟩
  refine in_n ?_
  refine then_n ?_
  refine wp_region_lit ?_
  refine list_val F (wn rfl) rfl rfl (.int .i64 i) (ex_move _ rfl _ (F.e rfl)) ?_; clear F a; intro a F
  refine list_val F (wn rfl) rfl rfl (.int .i64 (i + 1)) (ex_bin .add _ _ _ _ rfl .i64 _ _ (F.e rfl) rfl _ (b_add (w_i64 (by omega) (by omega)))) ?_; clear F a; intro a F
  refine list_val F (wn rfl) rfl rfl (.int .i64 (i + 1)) (ex_assign _ rfl _ (F.e rfl)) ?_; clear F a; intro a F
  refine wpList_nil ?_
  replace F : Fr 18 a [(0, .slice (some adb) n c), (2, .int .u32 0), (3, wv ((256 * x) + (wide (b.getD i 0)))), (4, .int .i64 (i + 1)), (6, .bool true)] := F.keep ⟨rfl, rfl, rfl, rfl, rfl, trivial⟩
  refine then_n ?_
  exact ⟨4 - (i + 1), by omega, (i + 1), (256 * x) + (wide (b.getD i 0)), F.keep ⟨rfl, rfl, rfl, rfl, trivial⟩, (by refine M.pick' [] _ ?_ (by decide); exact trivial), (by omega), (by rw [fourN, ← hx]), (by omega)⟩
 obtain rfl : i = 4 := by omega
 refine wp_seq ?_
 refine wp_seq ?_
 refine wp_region_lit ?_
 refine list_val F (wn rfl) rfl rfl (.int .i64 ((4 : Nat) : Int)) (ex_move _ rfl _ (F.e rfl)) ?_; clear F a; intro a F
 refine list_val F (wn rfl) rfl rfl (.bool false) (ex_bin .lss _ _ _ _ rfl .i64 _ _ (F.e rfl) rfl _ (b_lss (decide_eq_false (by omega)))) ?_; clear F a; intro a F
 refine wpList_nil ?_
 replace F : Fr 18 a [(0, .slice (some adb) n c), (2, .int .u32 0), (3, wv x), (4, .int .i64 ((4 : Nat) : Int)), (6, .bool false)] := F.keep ⟨rfl, rfl, rfl, rfl, rfl, trivial⟩
 refine then_n ?_
 refine wp_cond_false (F.e rfl) ?_
 refine wp_exit ?_
 refine then_x ?_
 refine then_x ?_
 refine in_hit ?_
 refine then_n ?_
 refine wp_seq ?_
 refine wp_region_lit ?_
 refine list_val F (wn rfl) rfl rfl (wv x) (ex_move _ rfl _ (F.e rfl)) ?_; clear F a; intro a F
 refine list_val F (wn rfl) rfl rfl (wv x) (ex_assign _ rfl _ (F.e rfl)) ?_; clear F a; intro a F
 refine wpList_nil ?_
 replace F : Fr 18 a [(0, .slice (some adb) n c), (2, wv x), (3, wv x), (4, .int .i64 ((4 : Nat) : Int)), (6, .bool false)] := F.keep ⟨rfl, rfl, rfl, rfl, rfl, trivial⟩
 refine then_n ?_
 refine wp_ret ?_
 exact ret_tmp F rfl rfl ⟨by rw [hx, four_word], M.bel⟩
end Go.Proofs.YtkppipeadibfkaaDoor
