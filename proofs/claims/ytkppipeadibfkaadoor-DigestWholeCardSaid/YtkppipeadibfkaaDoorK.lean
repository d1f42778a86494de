/- Rows that are lent, asked again, written over (posternlaw1), Eq (posternref0). Conditions: what is handed in is read. -/
import Derived.Test.YtkppipeadibfkaaDoorJ
namespace Go.Proofs.YtkppipeadibfkaaDoor
open Go.RowKit Go.Proofs.YtkppipeadibfkaaDoorW.PrintWords KB WG
set_option linter.unusedVariables false
set_option linter.unusedSimpArgs false
set_option linter.unnecessarySimpa false
def mks : Nat → List By
  | 0 => []
  | i + 1 => mks i ++ [mkB i]
theorem mks_len : ∀ i, (mks i).length = i
  | 0 => rfl
  | i + 1 => by rw [mks, List.length_append, mks_len i]; rfl
theorem mks_app (b : List By) (i : Nat) : b ++ mks i ++ [mkB i] = b ++ mks (i + 1) := by rw [mks, List.append_assoc]
theorem mks_get : ∀ (n i : Nat), i < n → (mks n).getD i 0 = mkB i
  | 0, i, h => absurd h (Nat.not_lt_zero _)
  | n + 1, i, h => by
    rw [mks, List.getD_eq_getElem?_getD]
    rcases Nat.lt_or_ge i n with h2 | h2
    · rw [List.getElem?_append_left (by rw [mks_len]; exact h2), ← List.getD_eq_getElem?_getD, mks_get n i h2]
    · rw [List.getElem?_append_right (by rw [mks_len]; exact h2), mks_len, show i - n = 0 by omega, show i = n by omega]; rfl
theorem lent_get {x : List By} {n i : Nat} (hx : x.length = n) (hi : i < 70) : (x ++ mks 70).getD (n + i) 0 = mkB i := by
  rw [List.getD_eq_getElem?_getD, List.getElem?_append_right (by omega), hx, show n + i - n = i by omega, ← List.getD_eq_getElem?_getD, mks_get 70 i hi]
theorem take_app {x y : List By} {n : Nat} (hx : x.length = n) : (x ++ y).take n = x := List.take_left' hx
/-- A cell of a row of one's own is written. -/
theorem OwB.open {w : World} {base : Nat} {A : Option Addr} {n c : Nat} {bs : List By} (h : OwB w base (.slice A n c) bs) (hn : 0 < n) : ∃ g sp, A = some ⟨g, 0, none⟩ ∧ base ≤ g ∧ w.heap[g]? = some (.cells (bcs bs ++ sp).toArray 5 (0, 0)) ∧ (bcs bs ++ sp).length = c ∧ n ≤ c ∧ c ≤ maxLen := by
  have hl := h.rb.1.1
  obtain ⟨h0, inner, ⟨h1, h2⟩, hr⟩ := h
  rcases h2 with ⟨hv, h0'⟩ | ⟨g, cap, cur, hv, hg, hh, hnc, hcm, hsz, htk⟩
  · simp only [Value.slice.injEq] at hv; omega
  · simp only [Value.slice.injEq] at hv
    obtain ⟨rfl, rfl, rfl⟩ := hv
    have hinner : inner = bcs bs := by
      obtain ⟨h3, h4⟩ := hr
      apply List.ext_getElem?
      intro t
      rcases Nat.lt_or_ge t bs.length with ht | ht
      · obtain ⟨k, hk⟩ : ∃ k, bs[t]? = some k := ⟨_, List.getElem?_eq_getElem ht⟩
        have h5 : (inner.drop (t * 1)).take 1 = [bv k] := h4 t k hk
        rw [Nat.mul_one] at h5
        have h6 : ((inner.drop t).take 1)[0]? = some (bv k) := by rw [h5]; rfl
        rw [List.getElem?_take_of_lt (by decide), List.getElem?_drop, Nat.add_zero] at h6
        rw [h6, bcs, List.getElem?_map, hk]; rfl
      · have : inner.length = bs.length * 1 := h3
        rw [List.getElem?_eq_none (by omega), List.getElem?_eq_none (by rw [bcs_len]; exact ht)]
    subst hinner
    change cur.toList.take (bs.length * 1) = _ at htk
    rw [Nat.mul_one] at htk
    have hsz' : cur.size = c * 1 := hsz
    have e : cur = (bcs bs ++ cur.toList.drop bs.length).toArray := by rw [← htk, List.take_append_drop, Array.toArray_toList]
    refine ⟨g, cur.toList.drop bs.length, rfl, hg, by rw [← e]; exact hh, ?_, by omega, hcm⟩
    rw [← htk, List.take_append_drop, Array.length_toList, hsz', Nat.mul_one]
section
variable {a : Act} {w w0 : World} {n : Nat} {L : List (Nat × Value)} {H : List Blk} {lr : List Rw} {op : Oper} {K : Act → World → Prop} {Q : Exit → Act → World → Prop}
theorem ow_putR (F : Fr n a L) (M : Mm w0 w H) (R : Rs w0 w lr) (hT : H.all (fun b => b.t != 5) = true) (hd : op.dst = none) (x y : Operand) (ho : op.op = .store 5 x y) (i : Nat) (A : Option Addr) (m c : Nat) (bs : List By) (hi : lr[i]? = some (.slice A m c, bs)) (j : Nat) (hj : j < m) (hx : a.eval x = .pointer (A.map (·.add j))) (b : By) (hy : a.eval y = bv b)
    (h : ∀ a' w', Fr n a' L → Mm w0 w' H → Rs w0 w' (lr.set i (.slice A m c, bs.set j b)) → w.grownBy w' (Value.slice A m c).ownBlock → K a' w') : op.wp Tryd.prog a w K Q := by
  have hO := R.own i _ _ hi
  have hl := hO.rb.1.1
  obtain ⟨g, sp, rfl, hg, hh, hc, hmc, hcm⟩ := hO.open (by omega)
  have hst := run_storeCells_at (P := Tryd.prog) g j 5 [bv b] 0 (bcs bs ++ sp).toArray w hh (by simp [bcs_len]; omega) (by simp [bv, Value.oneCell'])
  simp only [Nat.add_zero] at hst
  have ecs : ((bcs bs ++ sp).toArray.toList.take j ++ [bv b] ++ (bcs bs ++ sp).toArray.toList.drop (j + [bv b].length)).toArray = (bcs (bs.set j b) ++ sp).toArray := by
    have h1 := bcs_set bs j b (by omega)
    rw [← h1]
    simp only [List.take_append_of_le_length (show j ≤ (bcs bs).length by rw [bcs_len]; omega), List.drop_append_of_le_length (show j + [bv b].length ≤ (bcs bs).length by rw [bcs_len]; simp; omega), List.append_assoc]
  rw [ecs] at hst
  obtain ⟨i0, hin, hzz⟩ := Option.map_eq_some_iff.1 info5z
  simp only [Prod.mk.injEq] at hzz
  have hsv : (storeVar 5 ⟨g, j, none⟩ (bv b)).run Tryd.prog w = .ok () (w.setRow g (bcs (bs.set j b) ++ sp).toArray) := by
    simp [storeVar, sizeOf, typeInfo, hin, hzz.2.1, show (bv b).cells = #[bv b] from rfl, hst]
  have hgr := setRow_grown w g (bcs (bs.set j b) ++ sp).toArray
  have hn := setRow_heap w g _ (bcs (bs.set j b) ++ sp).toArray 5 (0, 0) hh
  have hO2 : OwB (w.setRow g (bcs (bs.set j b) ++ sp).toArray) w0.heap.size (.slice (some ⟨g, 0, none⟩) m c) (bs.set j b) := OwB.of_block hn hg (by rw [List.length_set]; exact hl.symm) hmc hcm (by rw [List.length_append, bcs_len, List.length_set, ← bcs_len, ← List.length_append]; exact hc)
  have hpx : a.eval x = .pointer (some ⟨g, j, none⟩) := by rw [hx]; simp [addr_add]
  unfold Oper.wp execOp
  simp only [ho, hpx, hy, Instr.storeAt, Instr.sureAddr, Sem.run_bind, Sem.run_pure, Result.andThen_ok, hsv]
  exact (by rw [hd]; exact h _ _ F (M.grownB hO hT hgr) (R.app hi hgr hO2 (.inl rfl)) hgr : K (a.put op.dst undef) _)
end
theorem ext_getD {x y : List By} {n : Nat} (hx : x.length = n) (hy : y.length = n) (h : ∀ j, j < n → x.getD j 0 = y.getD j 0) : x = y := by
  apply List.ext_getElem (by omega)
  intro j h1 h2
  have := h j (by omega)
  rwa [List.getD_eq_getElem?_getD, List.getD_eq_getElem?_getD, List.getElem?_eq_getElem h1, List.getElem?_eq_getElem h2] at this
/-- So many bytes from the end, the last first. -/
def revT (b : List By) (i : Nat) : List By := b.reverse.take i
theorem revT_len (b : List By) (i : Nat) : (revT b i).length = min i b.length := by simp [revT]
theorem revT_next (b : List By) {n i : Nat} (hb : b.length = n) (hi : i < n) : revT b i ++ [b.getD (n - 1 - i) 0] = revT b (i + 1) := by
  unfold revT
  rw [List.take_succ_eq_append_getElem (by rw [List.length_reverse]; omega), List.getElem_reverse, List.getD_eq_getElem?_getD, List.getElem?_eq_getElem (by omega)]
  subst hb
  rfl
/-- The first bytes of a row, written over one after another. -/
def over (b full : List By) (i : Nat) : List By := b.take i ++ full.drop i
theorem over_zero (b full : List By) : over b full 0 = full := by simp [over]
theorem over_len {b full : List By} {i : Nat} (hb : i ≤ b.length) (hf : i ≤ full.length) : (over b full i).length = full.length := by simp [over]; omega
theorem over_set {b full : List By} {i : Nat} (hb : i < b.length) (hf : i < full.length) : (over b full i).set i (b.getD i 0) = over b full (i + 1) := by
  have h1 : (b.take i).length = i := by rw [List.length_take]; omega
  have hx : b.getD i 0 = b[i] := by rw [List.getD_eq_getElem?_getD, List.getElem?_eq_getElem hb]; rfl
  unfold over
  rw [List.set_append_right _ _ (by omega), h1, Nat.sub_self, List.drop_eq_getElem_cons hf, List.set_cons_zero, hx, List.take_succ_eq_append_getElem hb, List.append_assoc]
  rfl
theorem mm_none {w : World} {m : Nat} (h : m ≤ w.heap.size) : Mm (cutW w m) w [] := ⟨cut_below' h, fun _ _ h => by simp at h, fun _ _ h => by simp at h, fun _ _ _ _ h => by simp at h⟩
theorem over_rep {full : List By} {n i : Nat} (x : By) (hb : i < n) (hf : i < full.length) : (over (List.replicate n x) full i).set i x = over (List.replicate n x) full (i + 1) := by
  have h := over_set (b := List.replicate n x) (full := full) (by rw [List.length_replicate]; exact hb) hf
  rwa [show (List.replicate n x).getD i 0 = x by rw [List.getD_eq_getElem?_getD, List.getElem?_replicate, if_pos hb]; rfl] at h
theorem dk_sl_23_1 : sl? Tryd.prog 23 1 = true := by kernel_rfl
theorem dk_follows_mixedOrders : Tryd.prog.follows .mixedOrders = true := by kernel_rfl
set_option maxHeartbeats 4000000 in
set_option maxRecDepth 100000 in
theorem eq_any (xa xb : List By) (A D : Option Addr) (n c m d : Nat) (w : World) (hA : Rb w A n xa) (hD : Rb w D m xb) :
    Calls Tryd.prog 22 #[.slice A n c, .slice D m d] w fun e w' => e = .returned (.bool (decide (xa = xb))) ∧ Below w.heap.size w w' := by
 have hmx : n ≤ 9223372036854775807 := by have := hA.2.1; simp only [maxLen] at this; exact this
 refine calls_start Tryd.func22 rfl rfl rfl (fun a F => ?_)
 have M : Mm w w [] := Mm.nil w
 refine wp_seq ?_
 refine wp_region_lit ?_
 refine list_val F (wn rfl) rfl rfl (.bool false) (ex_assign _ rfl _ rfl) ?_; clear F a; intro a F
 refine wpList_nil ?_
 replace F : Fr 26 a [(0, .slice A n c), (1, .slice D m d), (4, .bool false)] := F.keep ⟨rfl, rfl, rfl, trivial⟩
 refine then_n ?_
 refine wp_seq ?_
 refine wp_seq ?_
 by_cases hnm : n ≠ m
 ·
  have hres : decide (xa = xb) = false := decide_eq_false (fun e => hnm (by rw [← hA.1, ← hD.1, e]))
  refine wp_region_lit ?_
  refine list_val F (wn rfl) rfl rfl (.slice A n c) (ex_move _ rfl _ (F.e rfl)) ?_; clear F a; intro a F
  refine list_val F (wn rfl) rfl rfl (.int .i64 ((n : Nat) : Int)) (ex_len _ _ rfl 1 dk_sl_23_1 _ _ _ (F.e rfl)) ?_; clear F a; intro a F
  refine list_val F (wn rfl) rfl rfl (.slice D m d) (ex_move _ rfl _ (F.e rfl)) ?_; clear F a; intro a F
  refine list_val F (wn rfl) rfl rfl (.int .i64 ((m : Nat) : Int)) (ex_len _ _ rfl 1 dk_sl_23_1 _ _ _ (F.e rfl)) ?_; clear F a; intro a F
  refine list_val F (wn rfl) rfl rfl (.bool true) (ex_bin .neq _ _ _ _ rfl .i64 _ _ (F.e rfl) (F.e rfl) _ (b_neq (by simp; omega))) ?_; clear F a; intro a F
  refine wpList_nil ?_
  replace F : Fr 26 a [(0, .slice A n c), (1, .slice D m d), (4, .bool false), (10, .bool true)] := F.keep ⟨rfl, rfl, rfl, rfl, trivial⟩
  refine then_n ?_
  refine wp_cond_true (F.e rfl) ?_
  refine wp_seq ?_
  refine wp_region_lit ?_
  refine list_val F (wn rfl) rfl rfl (.bool false) (ex_assign _ rfl _ rfl) ?_; clear F a; intro a F
  refine wpList_nil ?_
  replace F : Fr 26 a [(0, .slice A n c), (1, .slice D m d), (4, .bool false), (10, .bool true)] := F.keep ⟨rfl, rfl, rfl, rfl, trivial⟩
  refine then_n ?_
  refine wp_ret ?_
  refine then_r ?_
  rw [hres]
  exact ret_tmp F rfl rfl ⟨rfl, M.bel⟩
 obtain rfl : n = m := by omega
 refine wp_region_lit ?_
 refine list_val F (wn rfl) rfl rfl (.slice A n c) (ex_move _ rfl _ (F.e rfl)) ?_; clear F a; intro a F
 refine list_val F (wn rfl) rfl rfl (.int .i64 ((n : Nat) : Int)) (ex_len _ _ rfl 1 dk_sl_23_1 _ _ _ (F.e rfl)) ?_; clear F a; intro a F
 refine list_val F (wn rfl) rfl rfl (.slice D n d) (ex_move _ rfl _ (F.e rfl)) ?_; clear F a; intro a F
 refine list_val F (wn rfl) rfl rfl (.int .i64 ((n : Nat) : Int)) (ex_len _ _ rfl 1 dk_sl_23_1 _ _ _ (F.e rfl)) ?_; clear F a; intro a F
 refine list_val F (wn rfl) rfl rfl (.bool false) (ex_bin .neq _ _ _ _ rfl .i64 _ _ (F.e rfl) (F.e rfl) _ (b_neq (by simp))) ?_; clear F a; intro a F
 refine wpList_nil ?_
 replace F : Fr 26 a [(0, .slice A n c), (1, .slice D n d), (4, .bool false), (10, .bool false)] := F.keep ⟨rfl, rfl, rfl, rfl, trivial⟩
 refine then_n ?_
 refine wp_cond_false (F.e rfl) ?_
 refine wp_skip ?_
 refine then_n ?_
 refine wp_seq ?_
 refine wp_seq ?_
 refine wp_region_lit ?_
 refine list_val F (wn rfl) rfl rfl (.int .i64 0) (ex_assign _ rfl _ rfl) ?_; clear F a; intro a F
 refine wpList_nil ?_
 replace F : Fr 26 a [(0, .slice A n c), (1, .slice D n d), (4, .bool false), (5, .int .i64 0), (10, .bool false)] := F.keep ⟨rfl, rfl, rfl, rfl, rfl, trivial⟩
 refine then_n ?_
 refine wp_block ?_
 refine wp_loopN (fun mq ar wr => ∃ (i : Nat), Fr 26 ar [(0, .slice A n c), (1, .slice D n d), (4, .bool false), (5, .int .i64 ((i : Nat) : Int)), (10, .bool false)] ∧ Mm w wr [] ∧ i ≤ n ∧ (∀ j, j < i → xa.getD j 0 = xb.getD j 0) ∧ mq + i = n) n ?_ ?_
 ·
  exact ⟨0, F.keep ⟨rfl, rfl, rfl, rfl, rfl, trivial⟩, M, (Nat.zero_le _), (fun j hj => absurd hj (Nat.not_lt_zero _)), (by omega)⟩
 clear F M a
 rintro mq a v ⟨i, F, M, hi, hpre, hq⟩; try clear w
 by_cases hin : i < n
 ·
  refine wp_seq ?_
  refine wp_seq ?_
  refine wp_region_lit ?_
  refine list_val F (wn rfl) rfl rfl (.int .i64 ((i : Nat) : Int)) (ex_move _ rfl _ (F.e rfl)) ?_; clear F a; intro a F
  refine list_val F (wn rfl) rfl rfl (.slice A n c) (ex_move _ rfl _ (F.e rfl)) ?_; clear F a; intro a F
  refine list_val F (wn rfl) rfl rfl (.int .i64 ((n : Nat) : Int)) (ex_len _ _ rfl 1 dk_sl_23_1 _ _ _ (F.e rfl)) ?_; clear F a; intro a F
  refine list_val F (wn rfl) rfl rfl (.bool true) (ex_bin .lss _ _ _ _ rfl .i64 _ _ (F.e rfl) (F.e rfl) _ (b_lss (decide_eq_true (by omega)))) ?_; clear F a; intro a F
  refine wpList_nil ?_
  replace F : Fr 26 a [(0, .slice A n c), (1, .slice D n d), (4, .bool false), (5, .int .i64 ((i : Nat) : Int)), (10, .bool false), (14, .bool true)] := F.keep ⟨rfl, rfl, rfl, rfl, rfl, rfl, trivial⟩
  refine then_n ?_
  refine wp_cond_true (F.e rfl) ?_
  refine wp_skip ?_
  refine then_n ?_
  refine wp_seq ?_
  refine wp_block ?_
  refine wp_seq ?_
  by_cases hx : xa.getD i 0 = xb.getD i 0
  ·
   refine region_tail 8 dk_follows_mixedOrders (by kernel_rfl) M ?_; clear M; intro u M hb
   clear hb; try clear v
   refine still_val F (wn rfl) rfl rfl (.slice A n c) (ex_move _ rfl _ (F.e rfl)) ?_; clear F a; intro a F
   refine still_val F (wn rfl) rfl rfl (.int .i64 ((i : Nat) : Int)) (ex_move _ rfl _ (F.e rfl)) ?_; clear F a; intro a F
   refine still_val F (wn rfl) rfl rfl (.pointer (A.map (·.add i))) (ex_ixB _ _ rfl A n c (F.e rfl) .i64 _ (F.e rfl) i rfl (by omega) xa (hA.below M.bel)) ?_; clear F a; intro a F
   refine still_val F (wn rfl) rfl rfl (bv (xa.getD i 0)) (ex_ldB _ rfl A n i xa (F.e rfl) (by omega) (hA.below M.bel)) ?_; clear F a; intro a F
   refine still_val F (wn rfl) rfl rfl (.slice D n d) (ex_move _ rfl _ (F.e rfl)) ?_; clear F a; intro a F
   refine still_val F (wn rfl) rfl rfl (.int .i64 ((i : Nat) : Int)) (ex_move _ rfl _ (F.e rfl)) ?_; clear F a; intro a F
   refine still_val F (wn rfl) rfl rfl (.pointer (D.map (·.add i))) (ex_ixB _ _ rfl D n d (F.e rfl) .i64 _ (F.e rfl) i rfl (by omega) xb (hD.below M.bel)) ?_; clear F a; intro a F
   refine still_val F (wn rfl) rfl rfl (bv (xb.getD i 0)) (ex_ldB _ rfl D n i xb (F.e rfl) (by omega) (hD.below M.bel)) ?_; clear F a; intro a F
   refine still_end ?_
   refine list_val F (wn rfl) rfl rfl (.bool false) (ex_neqb _ _ _ _ rfl (xa.getD i 0) (xb.getD i 0) (F.e rfl) (F.e rfl) false (by rw [decide_eq_true hx]; rfl)) ?_; clear F a; intro a F
   refine wpList_nil ?_
   replace F : Fr 26 a [(0, .slice A n c), (1, .slice D n d), (4, .bool false), (5, .int .i64 ((i : Nat) : Int)), (10, .bool false), (14, .bool true), (25, .bool false)] := F.keep ⟨rfl, rfl, rfl, rfl, rfl, rfl, rfl, trivial⟩
   refine then_n ?_
   refine wp_cond_false (F.e rfl) ?_
   refine wp_skip ?_
   refine in_n ?_
   refine then_n ?_
   refine wp_region_lit ?_
   refine list_val F (wn rfl) rfl rfl (.int .i64 ((i : Nat) : Int)) (ex_move _ rfl _ (F.e rfl)) ?_; clear F a; intro a F
   refine list_val F (wn rfl) rfl rfl (.int .i64 ((i + 1 : Nat) : Int)) (ex_bin .add _ _ _ _ rfl .i64 _ _ (F.e rfl) rfl _ (b_add ((w_i64 (by omega) (by omega)).trans (by omega)))) ?_; clear F a; intro a F
   refine list_val F (wn rfl) rfl rfl (.int .i64 ((i + 1 : Nat) : Int)) (ex_assign _ rfl _ (F.e rfl)) ?_; clear F a; intro a F
   refine wpList_nil ?_
   replace F : Fr 26 a [(0, .slice A n c), (1, .slice D n d), (4, .bool false), (5, .int .i64 ((i + 1 : Nat) : Int)), (10, .bool false), (14, .bool true), (25, .bool false)] := F.keep ⟨rfl, rfl, rfl, rfl, rfl, rfl, rfl, trivial⟩
   refine then_n ?_
   exact ⟨n - (i + 1), by omega, (i + 1), F.keep ⟨rfl, rfl, rfl, rfl, rfl, trivial⟩, (by refine M.pick' [] _ ?_ (by decide); exact trivial), (by omega), (fun j hj => by rcases Nat.lt_or_ge j i with h | h; exact hpre j h; rw [show j = i by omega]; exact hx), (by omega)⟩
  have hres : decide (xa = xb) = false := decide_eq_false (fun e => hx (by rw [e]))
  refine region_tail 8 dk_follows_mixedOrders (by kernel_rfl) M ?_; clear M; intro u M hb
  clear hb; try clear v
  refine still_val F (wn rfl) rfl rfl (.slice A n c) (ex_move _ rfl _ (F.e rfl)) ?_; clear F a; intro a F
  refine still_val F (wn rfl) rfl rfl (.int .i64 ((i : Nat) : Int)) (ex_move _ rfl _ (F.e rfl)) ?_; clear F a; intro a F
  refine still_val F (wn rfl) rfl rfl (.pointer (A.map (·.add i))) (ex_ixB _ _ rfl A n c (F.e rfl) .i64 _ (F.e rfl) i rfl (by omega) xa (hA.below M.bel)) ?_; clear F a; intro a F
  refine still_val F (wn rfl) rfl rfl (bv (xa.getD i 0)) (ex_ldB _ rfl A n i xa (F.e rfl) (by omega) (hA.below M.bel)) ?_; clear F a; intro a F
  refine still_val F (wn rfl) rfl rfl (.slice D n d) (ex_move _ rfl _ (F.e rfl)) ?_; clear F a; intro a F
  refine still_val F (wn rfl) rfl rfl (.int .i64 ((i : Nat) : Int)) (ex_move _ rfl _ (F.e rfl)) ?_; clear F a; intro a F
  refine still_val F (wn rfl) rfl rfl (.pointer (D.map (·.add i))) (ex_ixB _ _ rfl D n d (F.e rfl) .i64 _ (F.e rfl) i rfl (by omega) xb (hD.below M.bel)) ?_; clear F a; intro a F
  refine still_val F (wn rfl) rfl rfl (bv (xb.getD i 0)) (ex_ldB _ rfl D n i xb (F.e rfl) (by omega) (hD.below M.bel)) ?_; clear F a; intro a F
  refine still_end ?_
  refine list_val F (wn rfl) rfl rfl (.bool true) (ex_neqb _ _ _ _ rfl (xa.getD i 0) (xb.getD i 0) (F.e rfl) (F.e rfl) true (by rw [decide_eq_false hx]; rfl)) ?_; clear F a; intro a F
  refine wpList_nil ?_
  replace F : Fr 26 a [(0, .slice A n c), (1, .slice D n d), (4, .bool false), (5, .int .i64 ((i : Nat) : Int)), (10, .bool false), (14, .bool true), (25, .bool true)] := F.keep ⟨rfl, rfl, rfl, rfl, rfl, rfl, rfl, trivial⟩
  refine then_n ?_
  refine wp_cond_true (F.e rfl) ?_
  refine wp_seq ?_
  refine wp_region_lit ?_
  refine list_val F (wn rfl) rfl rfl (.bool false) (ex_assign _ rfl _ rfl) ?_; clear F a; intro a F
  refine wpList_nil ?_
  replace F : Fr 26 a [(0, .slice A n c), (1, .slice D n d), (4, .bool false), (5, .int .i64 ((i : Nat) : Int)), (10, .bool false), (14, .bool true), (25, .bool true)] := F.keep ⟨rfl, rfl, rfl, rfl, rfl, rfl, rfl, trivial⟩
  refine then_n ?_
  refine wp_ret ?_
  refine in_r ?_
  refine then_r ?_
  refine then_r ?_
  refine in_r ?_
  refine then_r ?_
  rw [hres]
  exact ret_tmp F rfl rfl ⟨rfl, M.bel⟩
 have hres : decide (xa = xb) = true := decide_eq_true (ext_getD hA.1 hD.1 (by rw [show n = i by omega]; exact hpre))
 refine wp_seq ?_
 refine wp_seq ?_
 refine wp_region_lit ?_
 refine list_val F (wn rfl) rfl rfl (.int .i64 ((i : Nat) : Int)) (ex_move _ rfl _ (F.e rfl)) ?_; clear F a; intro a F
 refine list_val F (wn rfl) rfl rfl (.slice A n c) (ex_move _ rfl _ (F.e rfl)) ?_; clear F a; intro a F
 refine list_val F (wn rfl) rfl rfl (.int .i64 ((n : Nat) : Int)) (ex_len _ _ rfl 1 dk_sl_23_1 _ _ _ (F.e rfl)) ?_; clear F a; intro a F
 refine list_val F (wn rfl) rfl rfl (.bool false) (ex_bin .lss _ _ _ _ rfl .i64 _ _ (F.e rfl) (F.e rfl) _ (b_lss (decide_eq_false (by omega)))) ?_; clear F a; intro a F
 refine wpList_nil ?_
 replace F : Fr 26 a [(0, .slice A n c), (1, .slice D n d), (4, .bool false), (5, .int .i64 ((i : Nat) : Int)), (10, .bool false), (14, .bool false)] := F.keep ⟨rfl, rfl, rfl, rfl, rfl, rfl, trivial⟩
 refine then_n ?_
 refine wp_cond_false (F.e rfl) ?_
 refine wp_exit ?_
 refine then_x ?_
 refine then_x ?_
 refine in_hit ?_
 refine then_n ?_
 refine wp_seq ?_
 refine wp_region_lit ?_
 refine list_val F (wn rfl) rfl rfl (.bool true) (ex_assign _ rfl _ rfl) ?_; clear F a; intro a F
 refine wpList_nil ?_
 replace F : Fr 26 a [(0, .slice A n c), (1, .slice D n d), (4, .bool true), (5, .int .i64 ((i : Nat) : Int)), (10, .bool false), (14, .bool false)] := F.keep ⟨rfl, rfl, rfl, rfl, rfl, rfl, trivial⟩
 refine then_n ?_
 refine wp_ret ?_
 rw [hres]
 exact ret_tmp F rfl rfl ⟨rfl, M.bel⟩
theorem dk_ent_42 : ent? Tryd.prog 42 = true := by kernel_rfl
set_option maxHeartbeats 4000000 in
set_option maxRecDepth 100000 in
theorem lend_any (b : List By) (B : Option Addr) (n c : Nat) (hn : n ≤ 140737488351232) (w : World) (hB : Rb w B n b) :
    Calls Tryd.prog 14 #[.slice B n c] w fun e w' => ∃ A' c', e = .returned (.slice A' n c') ∧ OwB w' w.heap.size (.slice A' (b ++ mks 70).length c') (b ++ mks 70) ∧ Below w.heap.size w w' := by
 have R_ : Rs w w [] := Rs.nil w w
 have hbl := hB.1
 refine calls_start Tryd.func14 rfl rfl rfl (fun a F => ?_)
 have M : Mm w w [] := Mm.nil w
 refine wp_seq ?_
 refine wp_region_lit ?_
 refine list_val F (wn rfl) rfl rfl (.slice none 0 0) (ex_assign _ rfl _ rfl) ?_; clear F a; intro a F
 refine wpList_nil ?_
 replace F : Fr 25 a [(0, .slice B n c), (2, .slice none 0 0)] := F.keep ⟨rfl, rfl, trivial⟩
 refine then_n ?_
 refine wp_seq ?_
 refine wp_region_lit ?_
 refine list_val F (wn rfl) rfl rfl (.slice B n c) (ex_move _ rfl _ (F.e rfl)) ?_; clear F a; intro a F
 refine list_val F (wn rfl) rfl rfl (.int .i64 ((n : Nat) : Int)) (ex_len _ _ rfl 1 dk_sl_23_1 _ _ _ (F.e rfl)) ?_; clear F a; intro a F
 refine list_val F (wn rfl) rfl rfl (.int .i64 ((n + 70 : Nat) : Int)) (ex_bin .add _ _ _ _ rfl .i64 _ _ (F.e rfl) rfl _ (b_add ((w_i64 (by omega) (by omega)).trans (by omega)))) ?_; clear F a; intro a F
 refine list_do (wn rfl) (fun K hK => ?_)
 refine ow_make0 F M R_ rfl rfl _ _ rfl rfl _ (F.e rfl) (n + 70) rfl (by omega) ?_
 clear F M R_; intro a g8 v F M R_
 refine hK _ _ ?_
 clear hK K
 try clear w
 refine list_val F (wn rfl) rfl rfl (.slice (some ⟨g8, 0, none⟩) 0 (n + 70)) (ex_assign _ rfl _ (F.e rfl)) ?_; clear F a; intro a F
 refine wpList_nil ?_
 replace F : Fr 25 a [(0, .slice B n c), (2, .slice none 0 0), (3, .slice (some ⟨g8, 0, none⟩) 0 (n + 70))] := F.keep ⟨rfl, rfl, rfl, trivial⟩
 refine then_n ?_
 refine wp_seq ?_
 refine wp_region_lit ?_
 refine list_val F (wn rfl) rfl rfl (.slice (some ⟨g8, 0, none⟩) 0 (n + 70)) (ex_move _ rfl _ (F.e rfl)) ?_; clear F a; intro a F
 refine list_val F (wn rfl) rfl rfl (.slice B n c) (ex_move _ rfl _ (F.e rfl)) ?_; clear F a; intro a F
 refine list_do (wn rfl) (fun K hK => ?_)
 refine ow_appR F M R_ rfl rfl rfl rfl _ _ rfl 0 (some ⟨g8, 0, none⟩) 0 (n + 70) [] b (b ++ mks 0) rfl (by simp [mks]) B n c (F.e rfl) (F.e rfl) (hB.below M.bel) (by simp only [List.length_nil]; omega) ?_
 clear F M R_; intro a A_11 c_11 u F M R_
 refine hK _ _ ?_
 clear hK K
 try clear v
 refine list_val F (wn rfl) rfl rfl (.slice A_11 ((b ++ mks 0).length) c_11) (ex_assign _ rfl _ (F.e rfl)) ?_; clear F a; intro a F
 refine wpList_nil ?_
 replace F : Fr 25 a [(0, .slice B n c), (2, .slice none 0 0), (3, .slice A_11 ((b ++ mks 0).length) c_11)] := F.keep ⟨rfl, rfl, rfl, trivial⟩
 refine then_n ?_
 refine wp_seq ?_
 refine wp_seq ?_
 refine wp_region_lit ?_
 refine list_val F (wn rfl) rfl rfl (.int .i64 0) (ex_assign _ rfl _ rfl) ?_; clear F a; intro a F
 refine wpList_nil ?_
 replace F : Fr 25 a [(0, .slice B n c), (2, .slice none 0 0), (3, .slice A_11 ((b ++ mks 0).length) c_11), (4, .int .i64 0)] := F.keep ⟨rfl, rfl, rfl, rfl, trivial⟩
 refine then_n ?_
 refine wp_block ?_
 refine wp_loopN (fun mq ar wr => ∃ (i : Nat), ∃ (A2 : Option Addr), ∃ (c2 : Nat), Fr 25 ar [(0, .slice B n c), (2, .slice none 0 0), (3, .slice A2 ((b ++ mks i).length) c2), (4, .int .i64 ((i : Nat) : Int))] ∧ Mm w wr [] ∧ Rs w wr [(.slice A2 ((b ++ mks i).length) c2, (b ++ mks i))] ∧ i ≤ 70 ∧ mq + i = 70) 70 ?_ ?_
 ·
  exact ⟨0, A_11, c_11, F.keep ⟨rfl, rfl, rfl, rfl, trivial⟩, M, R_, (Nat.zero_le _), (by omega)⟩
 clear F M a R_
 rintro mq a v ⟨i, A2, c2, F, M, R_, hi, hq⟩; try clear u
 have hlm : (b ++ mks i).length = n + i := by rw [List.length_append, mks_len, hB.1]
 by_cases hin : i < 70
 ·
  refine wp_seq ?_
  refine wp_seq ?_
  refine wp_region_lit ?_
  refine list_val F (wn rfl) rfl rfl (.int .i64 ((i : Nat) : Int)) (ex_move _ rfl _ (F.e rfl)) ?_; clear F a; intro a F
  refine list_val F (wn rfl) rfl rfl (.bool true) (ex_bin .lss _ _ _ _ rfl .i64 _ _ (F.e rfl) rfl _ (b_lss (decide_eq_true (by omega)))) ?_; clear F a; intro a F
  refine wpList_nil ?_
  replace F : Fr 25 a [(0, .slice B n c), (2, .slice none 0 0), (3, .slice A2 ((b ++ mks i).length) c2), (4, .int .i64 ((i : Nat) : Int)), (13, .bool true)] := F.keep ⟨rfl, rfl, rfl, rfl, rfl, trivial⟩
  refine then_n ?_
  refine wp_cond_true (F.e rfl) ?_
  refine wp_skip ?_
  refine then_n ?_
  refine wp_seq ?_
  refine wp_block ?_
  refine wp_region_lit ?_
  refine list_val F (wn rfl) rfl rfl (.slice A2 ((b ++ mks i).length) c2) (ex_move _ rfl _ (F.e rfl)) ?_; clear F a; intro a F
  refine list_val F (wn rfl) rfl rfl (.int .i64 ((i : Nat) : Int)) (ex_move _ rfl _ (F.e rfl)) ?_; clear F a; intro a F
  refine list_do (wn rfl) (fun K hK => ?_)
  refine ow_call rfl rfl F 42 #[.int .i64 ((i : Nat) : Int)] (ex_call 42 _ _ rfl rfl dk_ent_42 _ (map1 (F.e rfl))) (mark_any i hin _) (fun e u hR => ?_)
  obtain ⟨he, hw⟩ := hR
  refine ⟨bv (mkB i), he, ?_⟩; clear he F a; intro a F
  obtain rfl := hw
  refine hK _ _ ?_
  clear hK K
  refine list_do (wn rfl) (fun K hK => ?_)
  refine ow_lit F M R_ rfl rfl 1 _ rfl #[(0, bv (mkB i))] (parts1 (F.e rfl)) [(mkB i)] rfl rfl (lit1 (mkB i) _) ?_
  clear F M R_; intro a g19 u F M R_ hb
  refine hK _ _ ?_
  clear hK K
  clear hb; try clear v
  refine list_do (wn rfl) (fun K hK => ?_)
  refine ow_appR F M R_ rfl rfl rfl rfl _ _ rfl 1 A2 ((b ++ mks i).length) c2 (b ++ mks i) ([(mkB i)]) (b ++ mks (i + 1)) rfl (mks_app b i) (some ⟨g19, 0, none⟩) 1 1 (F.e rfl) (F.e rfl) (R_.rb (i := 0) rfl) (by omega) ?_
  clear F M R_; intro a A_20 c_20 v F M R_
  refine hK _ _ ?_
  clear hK K
  try clear u
  refine list_val F (wn rfl) rfl rfl (.slice A_20 ((b ++ mks (i + 1)).length) c_20) (ex_assign _ rfl _ (F.e rfl)) ?_; clear F a; intro a F
  refine wpList_nil ?_
  replace F : Fr 25 a [(0, .slice B n c), (2, .slice none 0 0), (3, .slice A_20 ((b ++ mks (i + 1)).length) c_20), (4, .int .i64 ((i : Nat) : Int)), (13, .bool true)] := F.keep ⟨rfl, rfl, rfl, rfl, rfl, trivial⟩
  refine in_n ?_
  refine then_n ?_
  refine wp_region_lit ?_
  refine list_val F (wn rfl) rfl rfl (.int .i64 ((i : Nat) : Int)) (ex_move _ rfl _ (F.e rfl)) ?_; clear F a; intro a F
  refine list_val F (wn rfl) rfl rfl (.int .i64 ((i + 1 : Nat) : Int)) (ex_bin .add _ _ _ _ rfl .i64 _ _ (F.e rfl) rfl _ (b_add ((w_i64 (by omega) (by omega)).trans (by omega)))) ?_; clear F a; intro a F
  refine list_val F (wn rfl) rfl rfl (.int .i64 ((i + 1 : Nat) : Int)) (ex_assign _ rfl _ (F.e rfl)) ?_; clear F a; intro a F
  refine wpList_nil ?_
  replace F : Fr 25 a [(0, .slice B n c), (2, .slice none 0 0), (3, .slice A_20 ((b ++ mks (i + 1)).length) c_20), (4, .int .i64 ((i + 1 : Nat) : Int)), (13, .bool true)] := F.keep ⟨rfl, rfl, rfl, rfl, rfl, trivial⟩
  refine then_n ?_
  replace R_ := R_.pick [1] [_] ⟨rfl, trivial⟩ (by decide)
  exact ⟨70 - (i + 1), by omega, (i + 1), A_20, c_20, F.keep ⟨rfl, rfl, rfl, rfl, trivial⟩, (by refine M.pick' [] _ ?_ (by decide); exact trivial), R_, (by omega), (by omega)⟩
 obtain rfl : i = 70 := by omega
 have hcap := R_.cap (i := 0) rfl
 refine wp_seq ?_
 refine wp_seq ?_
 refine wp_region_lit ?_
 refine list_val F (wn rfl) rfl rfl (.int .i64 ((70 : Nat) : Int)) (ex_move _ rfl _ (F.e rfl)) ?_; clear F a; intro a F
 refine list_val F (wn rfl) rfl rfl (.bool false) (ex_bin .lss _ _ _ _ rfl .i64 _ _ (F.e rfl) rfl _ (b_lss (decide_eq_false (by omega)))) ?_; clear F a; intro a F
 refine wpList_nil ?_
 replace F : Fr 25 a [(0, .slice B n c), (2, .slice none 0 0), (3, .slice A2 ((b ++ mks 70).length) c2), (4, .int .i64 ((70 : Nat) : Int)), (13, .bool false)] := F.keep ⟨rfl, rfl, rfl, rfl, rfl, trivial⟩
 refine then_n ?_
 refine wp_cond_false (F.e rfl) ?_
 refine wp_exit ?_
 refine then_x ?_
 refine then_x ?_
 refine in_hit ?_
 refine then_n ?_
 refine wp_seq ?_
 refine wp_region_lit ?_
 refine list_val F (wn rfl) rfl rfl (.slice A2 ((b ++ mks 70).length) c2) (ex_move _ rfl _ (F.e rfl)) ?_; clear F a; intro a F
 refine list_val F (wn rfl) rfl rfl (.slice B n c) (ex_move _ rfl _ (F.e rfl)) ?_; clear F a; intro a F
 refine list_val F (wn rfl) rfl rfl (.int .i64 ((n : Nat) : Int)) (ex_len _ _ rfl 1 dk_sl_23_1 _ _ _ (F.e rfl)) ?_; clear F a; intro a F
 refine list_val F (wn rfl) rfl rfl (.slice A2 n c2) (ex_cutto _ _ rfl A2 (b ++ mks 70).length c2 (F.e rfl) _ (F.e rfl) n rfl (by omega)) ?_; clear F a; intro a F
 refine list_val F (wn rfl) rfl rfl (.slice A2 n c2) (ex_assign _ rfl _ (F.e rfl)) ?_; clear F a; intro a F
 refine wpList_nil ?_
 replace F : Fr 25 a [(0, .slice B n c), (2, .slice A2 n c2), (3, .slice A2 ((b ++ mks 70).length) c2), (4, .int .i64 ((70 : Nat) : Int)), (13, .bool false)] := F.keep ⟨rfl, rfl, rfl, rfl, rfl, trivial⟩
 refine then_n ?_
 refine wp_ret ?_
 exact ret_tmp F rfl rfl ⟨A2, c2, rfl, R_.own 0 _ _ rfl, M.bel⟩
set_option maxHeartbeats 4000000 in
set_option maxRecDepth 100000 in
theorem intact_any (x b : List By) (A B : Option Addr) (n c m d : Nat) (hn : n ≤ 140737488351232) (w : World) (hxl : x.length = n) (hX : Rb w A (n + 70) (x ++ mks 70)) (hc : n + 70 ≤ c) (hB : Rb w B m b) :
    Calls Tryd.prog 16 #[.slice A n c, .slice B m d] w fun e w' => e = .returned (.bool (decide (x = b))) ∧ Below w.heap.size w w' := by
 have hXn : Rb w A n x := by have := hX.take (k := n) (by omega); rwa [take_app hxl] at this
 refine calls_start Tryd.func16 rfl rfl rfl (fun a F => ?_)
 have M : Mm w w [] := Mm.nil w
 refine wp_seq ?_
 refine wp_region_lit ?_
 refine list_val F (wn rfl) rfl rfl (.bool false) (ex_assign _ rfl _ rfl) ?_; clear F a; intro a F
 refine wpList_nil ?_
 replace F : Fr 31 a [(0, .slice A n c), (1, .slice B m d), (4, .bool false)] := F.keep ⟨rfl, rfl, rfl, trivial⟩
 refine then_n ?_
 refine wp_seq ?_
 refine wp_seq ?_
 by_cases hxb : ¬ x = b
 ·
  refine wp_region_lit ?_
  refine list_val F (wn rfl) rfl rfl (.slice A n c) (ex_move _ rfl _ (F.e rfl)) ?_; clear F a; intro a F
  refine list_val F (wn rfl) rfl rfl (.string (strB x)) (ex_strB _ rfl A n c x (F.e rfl) (hXn.below M.bel)) ?_; clear F a; intro a F
  refine list_val F (wn rfl) rfl rfl (.slice B m d) (ex_move _ rfl _ (F.e rfl)) ?_; clear F a; intro a F
  refine list_val F (wn rfl) rfl rfl (.string (strB b)) (ex_strB _ rfl B m d b (F.e rfl) (hB.below M.bel)) ?_; clear F a; intro a F
  refine list_val F (wn rfl) rfl rfl (.bool true) (ex_neqs _ _ _ rfl x b (F.e rfl) (F.e rfl) true (by rw [decide_eq_false hxb]; rfl)) ?_; clear F a; intro a F
  refine wpList_nil ?_
  replace F : Fr 31 a [(0, .slice A n c), (1, .slice B m d), (4, .bool false), (11, .bool true)] := F.keep ⟨rfl, rfl, rfl, rfl, trivial⟩
  refine then_n ?_
  refine wp_cond_true (F.e rfl) ?_
  refine wp_seq ?_
  refine wp_region_lit ?_
  refine list_val F (wn rfl) rfl rfl (.bool false) (ex_assign _ rfl _ rfl) ?_; clear F a; intro a F
  refine wpList_nil ?_
  replace F : Fr 31 a [(0, .slice A n c), (1, .slice B m d), (4, .bool false), (11, .bool true)] := F.keep ⟨rfl, rfl, rfl, rfl, trivial⟩
  refine then_n ?_
  refine wp_ret ?_
  refine then_r ?_
  rw [decide_eq_false hxb]
  exact ret_tmp F rfl rfl ⟨rfl, M.bel⟩
 have hxb := Classical.not_not.1 hxb
 refine wp_region_lit ?_
 refine list_val F (wn rfl) rfl rfl (.slice A n c) (ex_move _ rfl _ (F.e rfl)) ?_; clear F a; intro a F
 refine list_val F (wn rfl) rfl rfl (.string (strB x)) (ex_strB _ rfl A n c x (F.e rfl) (hXn.below M.bel)) ?_; clear F a; intro a F
 refine list_val F (wn rfl) rfl rfl (.slice B m d) (ex_move _ rfl _ (F.e rfl)) ?_; clear F a; intro a F
 refine list_val F (wn rfl) rfl rfl (.string (strB b)) (ex_strB _ rfl B m d b (F.e rfl) (hB.below M.bel)) ?_; clear F a; intro a F
 refine list_val F (wn rfl) rfl rfl (.bool false) (ex_neqs _ _ _ rfl x b (F.e rfl) (F.e rfl) false (by rw [decide_eq_true hxb]; rfl)) ?_; clear F a; intro a F
 refine wpList_nil ?_
 replace F : Fr 31 a [(0, .slice A n c), (1, .slice B m d), (4, .bool false), (11, .bool false)] := F.keep ⟨rfl, rfl, rfl, rfl, trivial⟩
 refine then_n ?_
 refine wp_cond_false (F.e rfl) ?_
 refine wp_skip ?_
 refine then_n ?_
 refine wp_seq ?_
 refine wp_region_lit ?_
 refine list_val F (wn rfl) rfl rfl (.slice A n c) (ex_move _ rfl _ (F.e rfl)) ?_; clear F a; intro a F
 refine list_val F (wn rfl) rfl rfl (.slice A n c) (ex_move _ rfl _ (F.e rfl)) ?_; clear F a; intro a F
 refine list_val F (wn rfl) rfl rfl (.int .i64 ((n : Nat) : Int)) (ex_len _ _ rfl 1 dk_sl_23_1 _ _ _ (F.e rfl)) ?_; clear F a; intro a F
 refine list_val F (wn rfl) rfl rfl (.int .i64 ((n + 70 : Nat) : Int)) (ex_bin .add _ _ _ _ rfl .i64 _ _ (F.e rfl) rfl _ (b_add ((w_i64 (by omega) (by omega)).trans (by omega)))) ?_; clear F a; intro a F
 refine list_val F (wn rfl) rfl rfl (.slice A (n + 70) c) (ex_cutto _ _ rfl A n c (F.e rfl) _ (F.e rfl) (n + 70) rfl hc) ?_; clear F a; intro a F
 refine list_val F (wn rfl) rfl rfl (.slice A (n + 70) c) (ex_assign _ rfl _ (F.e rfl)) ?_; clear F a; intro a F
 refine wpList_nil ?_
 replace F : Fr 31 a [(0, .slice A n c), (1, .slice B m d), (4, .bool false), (5, .slice A (n + 70) c), (11, .bool false)] := F.keep ⟨rfl, rfl, rfl, rfl, rfl, trivial⟩
 refine then_n ?_
 refine wp_seq ?_
 refine wp_seq ?_
 refine wp_region_lit ?_
 refine list_val F (wn rfl) rfl rfl (.int .i64 0) (ex_assign _ rfl _ rfl) ?_; clear F a; intro a F
 refine wpList_nil ?_
 replace F : Fr 31 a [(0, .slice A n c), (1, .slice B m d), (4, .bool false), (5, .slice A (n + 70) c), (6, .int .i64 0), (11, .bool false)] := F.keep ⟨rfl, rfl, rfl, rfl, rfl, rfl, trivial⟩
 refine then_n ?_
 refine wp_block ?_
 refine wp_loopN (fun mq ar wr => ∃ (i : Nat), Fr 31 ar [(0, .slice A n c), (1, .slice B m d), (4, .bool false), (5, .slice A (n + 70) c), (6, .int .i64 ((i : Nat) : Int)), (11, .bool false)] ∧ Mm w wr [] ∧ i ≤ 70 ∧ mq + i = 70) 70 ?_ ?_
 ·
  exact ⟨0, F.keep ⟨rfl, rfl, rfl, rfl, rfl, rfl, trivial⟩, M, (Nat.zero_le _), (by omega)⟩
 clear F M a
 rintro mq a v ⟨i, F, M, hi, hq⟩; try clear w
 by_cases hin : i < 70
 ·
  refine wp_seq ?_
  refine wp_seq ?_
  refine wp_region_lit ?_
  refine list_val F (wn rfl) rfl rfl (.int .i64 ((i : Nat) : Int)) (ex_move _ rfl _ (F.e rfl)) ?_; clear F a; intro a F
  refine list_val F (wn rfl) rfl rfl (.bool true) (ex_bin .lss _ _ _ _ rfl .i64 _ _ (F.e rfl) rfl _ (b_lss (decide_eq_true (by omega)))) ?_; clear F a; intro a F
  refine wpList_nil ?_
  replace F : Fr 31 a [(0, .slice A n c), (1, .slice B m d), (4, .bool false), (5, .slice A (n + 70) c), (6, .int .i64 ((i : Nat) : Int)), (11, .bool false), (18, .bool true)] := F.keep ⟨rfl, rfl, rfl, rfl, rfl, rfl, rfl, trivial⟩
  refine then_n ?_
  refine wp_cond_true (F.e rfl) ?_
  refine wp_skip ?_
  refine then_n ?_
  refine wp_seq ?_
  refine wp_block ?_
  refine wp_seq ?_
  refine wp_only (fun ar wr => Fr 31 ar [(0, .slice A n c), (1, .slice B m d), (4, .bool false), (5, .slice A (n + 70) c), (6, .int .i64 ((i : Nat) : Int)), (11, .bool false), (18, .bool true), (30, .bool false)] ∧ Mm w wr []) ?_ ?_
  ·
   refine region_any dk_follows_mixedOrders M ?_; clear M; intro wD M hb
   clear hb; try clear v
   have hS : Below wD.heap.size wD wD := Below.refl _ _; have MD := M
   refine any_val F 0 rfl (by kernel_rfl) (wn rfl) rfl rfl (.slice A (n + 70) c) (fun w' hS' => ex_move _ rfl _ (F.e rfl)) hS ?_; clear F a; intro a F
   refine any_val F 1 rfl (by kernel_rfl) (wn rfl) rfl rfl (.slice A n c) (fun w' hS' => ex_move _ rfl _ (F.e rfl)) hS ?_; clear F a; intro a F
   refine any_val F 2 rfl (by kernel_rfl) (wn rfl) rfl rfl (.int .i64 ((n : Nat) : Int)) (fun w' hS' => ex_len _ _ rfl 1 dk_sl_23_1 _ _ _ (F.e rfl)) hS ?_; clear F a; intro a F
   refine any_val F 3 rfl (by kernel_rfl) (wn rfl) rfl rfl (.int .i64 ((i : Nat) : Int)) (fun w' hS' => ex_move _ rfl _ (F.e rfl)) hS ?_; clear F a; intro a F
   refine any_val F 4 rfl (by kernel_rfl) (wn rfl) rfl rfl (.int .i64 ((n + i : Nat) : Int)) (fun w' hS' => ex_bin .add _ _ _ _ rfl .i64 _ _ (F.e rfl) (F.e rfl) _ (b_add ((w_i64 (by omega) (by omega)).trans (by omega)))) hS ?_; clear F a; intro a F
   refine any_val F 5 rfl (by kernel_rfl) (wn rfl) rfl rfl (.pointer (A.map (·.add (n + i)))) (fun w' hS' => ex_ixB _ _ rfl A (n + 70) c (F.e rfl) .i64 _ (F.e rfl) (n + i) rfl (by omega) (x ++ mks 70) (hX.below M.bel)) hS ?_; clear F a; intro a F
   refine any_val F 6 rfl (by kernel_rfl) (wn rfl) rfl rfl (bv ((x ++ mks 70).getD (n + i) 0)) (fun w' hS' => ex_ldB _ rfl A (n + 70) (n + i) (x ++ mks 70) (F.e rfl) (by omega) (hX.below (MD.below hS').bel)) hS ?_; clear F a; intro a F
   refine any_val F 7 rfl (by kernel_rfl) (wn rfl) rfl rfl (.int .i64 ((i : Nat) : Int)) (fun w' hS' => ex_move _ rfl _ (F.e rfl)) hS ?_; clear F a; intro a F
   refine any_ready [8] (by kernel_rfl) (by simp) ?_
   refine ready_do rfl (wn rfl) (fun K hK => ?_) AllReadyH.nil
   refine ow_call rfl rfl F 42 #[.int .i64 ((i : Nat) : Int)] (ex_call 42 _ _ rfl rfl dk_ent_42 _ (map1 (F.e rfl))) (mark_any i hin _) (fun e v hR => ?_)
   obtain ⟨he, hw⟩ := hR
   refine ⟨bv (mkB i), he, ?_⟩; clear he F a; intro a F
   obtain rfl := hw
   refine hK _ _ hS ?_
   clear hK K
   refine any_val F 9 rfl (by kernel_rfl) (wn rfl) rfl rfl (.bool false) (fun w' hS' => ex_neqb _ _ _ _ rfl ((x ++ mks 70).getD (n + i) 0) (mkB i) (F.e rfl) (F.e rfl) false (by rw [decide_eq_true (lent_get hxl hin)]; rfl)) hS ?_; clear F a; intro a F
   refine any_done (by kernel_rfl) ?_
   exact ⟨F.keep ⟨rfl, rfl, rfl, rfl, rfl, rfl, rfl, rfl, trivial⟩, (by refine M.pick' [] _ ?_ (by decide); exact trivial)⟩
  clear F M a
  intro a u hR; obtain ⟨F, M⟩ := hR; try clear v
  refine then_n ?_
  refine wp_cond_false (F.e rfl) ?_
  refine wp_skip ?_
  refine in_n ?_
  refine then_n ?_
  refine wp_region_lit ?_
  refine list_val F (wn rfl) rfl rfl (.int .i64 ((i : Nat) : Int)) (ex_move _ rfl _ (F.e rfl)) ?_; clear F a; intro a F
  refine list_val F (wn rfl) rfl rfl (.int .i64 ((i + 1 : Nat) : Int)) (ex_bin .add _ _ _ _ rfl .i64 _ _ (F.e rfl) rfl _ (b_add ((w_i64 (by omega) (by omega)).trans (by omega)))) ?_; clear F a; intro a F
  refine list_val F (wn rfl) rfl rfl (.int .i64 ((i + 1 : Nat) : Int)) (ex_assign _ rfl _ (F.e rfl)) ?_; clear F a; intro a F
  refine wpList_nil ?_
  replace F : Fr 31 a [(0, .slice A n c), (1, .slice B m d), (4, .bool false), (5, .slice A (n + 70) c), (6, .int .i64 ((i + 1 : Nat) : Int)), (11, .bool false), (18, .bool true), (30, .bool false)] := F.keep ⟨rfl, rfl, rfl, rfl, rfl, rfl, rfl, rfl, trivial⟩
  refine then_n ?_
  exact ⟨70 - (i + 1), by omega, (i + 1), F.keep ⟨rfl, rfl, rfl, rfl, rfl, rfl, trivial⟩, (by refine M.pick' [] _ ?_ (by decide); exact trivial), (by omega), (by omega)⟩
 refine wp_seq ?_
 refine wp_seq ?_
 refine wp_region_lit ?_
 refine list_val F (wn rfl) rfl rfl (.int .i64 ((i : Nat) : Int)) (ex_move _ rfl _ (F.e rfl)) ?_; clear F a; intro a F
 refine list_val F (wn rfl) rfl rfl (.bool false) (ex_bin .lss _ _ _ _ rfl .i64 _ _ (F.e rfl) rfl _ (b_lss (decide_eq_false (by omega)))) ?_; clear F a; intro a F
 refine wpList_nil ?_
 replace F : Fr 31 a [(0, .slice A n c), (1, .slice B m d), (4, .bool false), (5, .slice A (n + 70) c), (6, .int .i64 ((i : Nat) : Int)), (11, .bool false), (18, .bool false)] := F.keep ⟨rfl, rfl, rfl, rfl, rfl, rfl, rfl, trivial⟩
 refine then_n ?_
 refine wp_cond_false (F.e rfl) ?_
 refine wp_exit ?_
 refine then_x ?_
 refine then_x ?_
 refine in_hit ?_
 refine then_n ?_
 refine wp_seq ?_
 refine wp_region_lit ?_
 refine list_val F (wn rfl) rfl rfl (.bool true) (ex_assign _ rfl _ rfl) ?_; clear F a; intro a F
 refine wpList_nil ?_
 replace F : Fr 31 a [(0, .slice A n c), (1, .slice B m d), (4, .bool true), (5, .slice A (n + 70) c), (6, .int .i64 ((i : Nat) : Int)), (11, .bool false), (18, .bool false)] := F.keep ⟨rfl, rfl, rfl, rfl, rfl, rfl, rfl, trivial⟩
 refine then_n ?_
 refine wp_ret ?_
 rw [decide_eq_true hxb]
 exact ret_tmp F rfl rfl ⟨rfl, M.bel⟩
set_option maxHeartbeats 4000000 in
set_option maxRecDepth 100000 in
theorem other_any (b : List By) (B : Option Addr) (n c : Nat) (hn : n ≤ 140737488351232) (w : World) (hB : Rb w B n b) :
    Calls Tryd.prog 17 #[.slice B n c] w fun e w' => ∃ A' c' o, o.length = n ∧ e = .returned (.slice A' n c') ∧ OwB w' w.heap.size (.slice A' n c') o ∧ Below w.heap.size w w' := by
 have R_ : Rs w w [] := Rs.nil w w
 have hbl := hB.1
 refine calls_start Tryd.func17 rfl rfl rfl (fun a F => ?_)
 have M : Mm w w [] := Mm.nil w
 refine wp_seq ?_
 refine wp_region_lit ?_
 refine list_val F (wn rfl) rfl rfl (.slice none 0 0) (ex_assign _ rfl _ rfl) ?_; clear F a; intro a F
 refine wpList_nil ?_
 replace F : Fr 42 a [(0, .slice B n c), (2, .slice none 0 0)] := F.keep ⟨rfl, rfl, trivial⟩
 refine then_n ?_
 refine wp_seq ?_
 refine wp_region_lit ?_
 refine list_val F (wn rfl) rfl rfl (.slice none 0 0) (ex_assign _ rfl _ rfl) ?_; clear F a; intro a F
 refine wpList_nil ?_
 replace F : Fr 42 a [(0, .slice B n c), (2, .slice none 0 0), (3, .slice none 0 0)] := F.keep ⟨rfl, rfl, rfl, trivial⟩
 refine then_n ?_
 refine wp_seq ?_
 refine wp_seq ?_
 refine wp_region_lit ?_
 refine list_val F (wn rfl) rfl rfl (.slice B n c) (ex_move _ rfl _ (F.e rfl)) ?_; clear F a; intro a F
 refine list_val F (wn rfl) rfl rfl (.int .i64 ((n : Nat) : Int)) (ex_len _ _ rfl 1 dk_sl_23_1 _ _ _ (F.e rfl)) ?_; clear F a; intro a F
 refine list_val F (wn rfl) rfl rfl (.int .i64 (((n : Nat) : Int) - 1)) (ex_bin .sub _ _ _ _ rfl .i64 _ _ (F.e rfl) rfl _ (b_sub (w_i64 (by omega) (by omega)))) ?_; clear F a; intro a F
 refine list_val F (wn rfl) rfl rfl (.int .i64 (((n : Nat) : Int) - 1)) (ex_assign _ rfl _ (F.e rfl)) ?_; clear F a; intro a F
 refine wpList_nil ?_
 replace F : Fr 42 a [(0, .slice B n c), (2, .slice none 0 0), (3, .slice none 0 0), (4, .int .i64 (((n : Nat) : Int) - 1))] := F.keep ⟨rfl, rfl, rfl, rfl, trivial⟩
 refine then_n ?_
 refine wp_block ?_
 rw [show ((n : Nat) : Int) - 1 = ((n : Nat) : Int) - 1 - ((0 : Nat) : Int) by omega] at F
 refine wp_loopN (fun mq ar wr => ∃ (i : Nat), ∃ (A2 : Option Addr), ∃ (c2 : Nat), Fr 42 ar [(0, .slice B n c), (2, .slice none 0 0), (3, .slice A2 ((revT b i).length) c2), (4, .int .i64 (((n : Nat) : Int) - 1 - ((i : Nat) : Int)))] ∧ Mm w wr [] ∧ Rs w wr [(.slice A2 ((revT b i).length) c2, (revT b i))] ∧ i ≤ n ∧ mq + i = n) n ?_ ?_
 ·
  exact ⟨0, none, 0, F.keep ⟨rfl, rfl, rfl, rfl, trivial⟩, M, R_.addnil, (Nat.zero_le _), (by omega)⟩
 clear F M a R_
 rintro mq a v ⟨i, A2, c2, F, M, R_, hi, hq⟩; try clear w
 have hrl : (revT b i).length = i := by rw [revT_len]; omega
 by_cases hin : i < n
 ·
  rw [show ((n : Nat) : Int) - 1 - ((i : Nat) : Int) = ((n - 1 - i : Nat) : Int) by omega] at F
  refine wp_seq ?_
  refine wp_seq ?_
  refine wp_region_lit ?_
  refine list_val F (wn rfl) rfl rfl (.int .i64 ((n - 1 - i : Nat) : Int)) (ex_move _ rfl _ (F.e rfl)) ?_; clear F a; intro a F
  refine list_val F (wn rfl) rfl rfl (.bool true) (ex_bin .geq _ _ _ _ rfl .i64 _ _ (F.e rfl) rfl _ (b_geq (decide_eq_true (by omega)))) ?_; clear F a; intro a F
  refine wpList_nil ?_
  replace F : Fr 42 a [(0, .slice B n c), (2, .slice none 0 0), (3, .slice A2 ((revT b i).length) c2), (4, .int .i64 ((n - 1 - i : Nat) : Int)), (9, .bool true)] := F.keep ⟨rfl, rfl, rfl, rfl, rfl, trivial⟩
  refine then_n ?_
  refine wp_cond_true (F.e rfl) ?_
  refine wp_skip ?_
  refine then_n ?_
  refine wp_seq ?_
  refine wp_block ?_
  refine wp_region_lit ?_
  refine list_val F (wn rfl) rfl rfl (.slice A2 ((revT b i).length) c2) (ex_move _ rfl _ (F.e rfl)) ?_; clear F a; intro a F
  refine list_val F (wn rfl) rfl rfl (.slice B n c) (ex_move _ rfl _ (F.e rfl)) ?_; clear F a; intro a F
  refine list_val F (wn rfl) rfl rfl (.int .i64 ((n - 1 - i : Nat) : Int)) (ex_move _ rfl _ (F.e rfl)) ?_; clear F a; intro a F
  refine list_val F (wn rfl) rfl rfl (.pointer (B.map (·.add (n - 1 - i)))) (ex_ixB _ _ rfl B n c (F.e rfl) .i64 _ (F.e rfl) (n - 1 - i) rfl (by omega) b (hB.below M.bel)) ?_; clear F a; intro a F
  refine list_val F (wn rfl) rfl rfl (bv (b.getD (n - 1 - i) 0)) (ex_ldB _ rfl B n (n - 1 - i) b (F.e rfl) (by omega) (hB.below M.bel)) ?_; clear F a; intro a F
  refine list_do (wn rfl) (fun K hK => ?_)
  refine ow_lit F M R_ rfl rfl 1 _ rfl #[(0, bv (b.getD (n - 1 - i) 0))] (parts1 (F.e rfl)) [(b.getD (n - 1 - i) 0)] rfl rfl (lit1 (b.getD (n - 1 - i) 0) _) ?_
  clear F M R_; intro a g17 u F M R_ hb
  refine hK _ _ ?_
  clear hK K
  clear hb; try clear v
  refine list_do (wn rfl) (fun K hK => ?_)
  refine ow_appR F M R_ rfl rfl rfl rfl _ _ rfl 1 A2 ((revT b i).length) c2 (revT b i) ([(b.getD (n - 1 - i) 0)]) (revT b (i + 1)) rfl (revT_next b hbl hin) (some ⟨g17, 0, none⟩) 1 1 (F.e rfl) (F.e rfl) (R_.rb (i := 0) rfl) (by omega) ?_
  clear F M R_; intro a A_18 c_18 v F M R_
  refine hK _ _ ?_
  clear hK K
  try clear u
  refine list_val F (wn rfl) rfl rfl (.slice A_18 ((revT b (i + 1)).length) c_18) (ex_assign _ rfl _ (F.e rfl)) ?_; clear F a; intro a F
  refine wpList_nil ?_
  replace F : Fr 42 a [(0, .slice B n c), (2, .slice none 0 0), (3, .slice A_18 ((revT b (i + 1)).length) c_18), (4, .int .i64 ((n - 1 - i : Nat) : Int)), (9, .bool true)] := F.keep ⟨rfl, rfl, rfl, rfl, rfl, trivial⟩
  refine in_n ?_
  refine then_n ?_
  refine wp_region_lit ?_
  refine list_val F (wn rfl) rfl rfl (.int .i64 ((n - 1 - i : Nat) : Int)) (ex_move _ rfl _ (F.e rfl)) ?_; clear F a; intro a F
  refine list_val F (wn rfl) rfl rfl (.int .i64 (((n - 1 - i : Nat) : Int) - 1)) (ex_bin .sub _ _ _ _ rfl .i64 _ _ (F.e rfl) rfl _ (b_sub (w_i64 (by omega) (by omega)))) ?_; clear F a; intro a F
  refine list_val F (wn rfl) rfl rfl (.int .i64 (((n - 1 - i : Nat) : Int) - 1)) (ex_assign _ rfl _ (F.e rfl)) ?_; clear F a; intro a F
  refine wpList_nil ?_
  replace F : Fr 42 a [(0, .slice B n c), (2, .slice none 0 0), (3, .slice A_18 ((revT b (i + 1)).length) c_18), (4, .int .i64 (((n - 1 - i : Nat) : Int) - 1)), (9, .bool true)] := F.keep ⟨rfl, rfl, rfl, rfl, rfl, trivial⟩
  refine then_n ?_
  replace R_ := R_.pick [1] [_] ⟨rfl, trivial⟩ (by decide)
  rw [show ((n - 1 - i : Nat) : Int) - 1 = ((n : Nat) : Int) - 1 - ((i + 1 : Nat) : Int) by omega] at F
  exact ⟨n - (i + 1), by omega, (i + 1), A_18, c_18, F.keep ⟨rfl, rfl, rfl, rfl, trivial⟩, (by refine M.pick' [] _ ?_ (by decide); exact trivial), R_, (by omega), (by omega)⟩
 have hie : i = n := by omega
 refine wp_seq ?_
 refine wp_seq ?_
 refine wp_region_lit ?_
 refine list_val F (wn rfl) rfl rfl (.int .i64 (((n : Nat) : Int) - 1 - ((i : Nat) : Int))) (ex_move _ rfl _ (F.e rfl)) ?_; clear F a; intro a F
 refine list_val F (wn rfl) rfl rfl (.bool false) (ex_bin .geq _ _ _ _ rfl .i64 _ _ (F.e rfl) rfl _ (b_geq (decide_eq_false (by omega)))) ?_; clear F a; intro a F
 refine wpList_nil ?_
 replace F : Fr 42 a [(0, .slice B n c), (2, .slice none 0 0), (3, .slice A2 ((revT b i).length) c2), (4, .int .i64 (((n : Nat) : Int) - 1 - ((i : Nat) : Int))), (9, .bool false)] := F.keep ⟨rfl, rfl, rfl, rfl, rfl, trivial⟩
 refine then_n ?_
 refine wp_cond_false (F.e rfl) ?_
 refine wp_exit ?_
 refine then_x ?_
 refine then_x ?_
 refine in_hit ?_
 refine then_n ?_
 refine wp_seq ?_
 refine wp_seq ?_
 by_cases hn0 : 0 < n
 ·
  by_cases hpal : revT b i = b
  ·
   refine wp_region_lit ?_
   refine list_val F (wn rfl) rfl rfl (.slice B n c) (ex_move _ rfl _ (F.e rfl)) ?_; clear F a; intro a F
   refine list_val F (wn rfl) rfl rfl (.int .i64 ((n : Nat) : Int)) (ex_len _ _ rfl 1 dk_sl_23_1 _ _ _ (F.e rfl)) ?_; clear F a; intro a F
   refine list_val F (wn rfl) rfl rfl (.bool true) (ex_bin .gtr _ _ _ _ rfl .i64 _ _ (F.e rfl) rfl _ (b_gtr (decide_eq_true (by omega)))) ?_; clear F a; intro a F
   refine list_val F (wn rfl) rfl rfl (.bool true) (ex_move _ rfl _ (F.e rfl)) ?_; clear F a; intro a F
   refine list_val F (F.wants 22 true rfl (by kernel_rfl) rfl true rfl) rfl rfl (.slice A2 ((revT b i).length) c2) (ex_move _ rfl _ (F.e rfl)) ?_; clear F a; intro a F
   refine list_val F (F.wants 22 true rfl (by kernel_rfl) rfl true rfl) rfl rfl (.string (strB (revT b i))) (ex_strB _ rfl A2 ((revT b i).length) c2 (revT b i) (F.e rfl) (R_.rb (i := 0) rfl)) ?_; clear F a; intro a F
   refine list_val F (F.wants 22 true rfl (by kernel_rfl) rfl true rfl) rfl rfl (.slice B n c) (ex_move _ rfl _ (F.e rfl)) ?_; clear F a; intro a F
   refine list_val F (F.wants 22 true rfl (by kernel_rfl) rfl true rfl) rfl rfl (.string (strB b)) (ex_strB _ rfl B n c b (F.e rfl) (hB.below M.bel)) ?_; clear F a; intro a F
   refine list_val F (F.wants 22 true rfl (by kernel_rfl) rfl true rfl) rfl rfl (.bool true) (ex_eqls _ _ _ rfl (revT b i) b (F.e rfl) (F.e rfl) true (decide_eq_true hpal)) ?_; clear F a; intro a F
   refine list_val F (wn rfl) rfl rfl (.bool true) (ex_pick_t _ _ _ rfl (F.e rfl) _ (F.e rfl)) ?_; clear F a; intro a F
   refine wpList_nil ?_
   replace F : Fr 42 a [(0, .slice B n c), (2, .slice none 0 0), (3, .slice A2 ((revT b i).length) c2), (4, .int .i64 (((n : Nat) : Int) - 1 - ((i : Nat) : Int))), (9, .bool false), (28, .bool true)] := F.keep ⟨rfl, rfl, rfl, rfl, rfl, rfl, trivial⟩
   refine then_n ?_
   refine wp_cond_true (F.e rfl) ?_
   refine wp_region_lit ?_
   refine list_val F (wn rfl) rfl rfl (.slice A2 ((revT b i).length) c2) (ex_move _ rfl _ (F.e rfl)) ?_; clear F a; intro a F
   refine list_val F (wn rfl) rfl rfl (.slice A2 ((revT b i).length) c2) (ex_move _ rfl _ (F.e rfl)) ?_; clear F a; intro a F
   refine list_val F (wn rfl) rfl rfl (.int .i64 (((revT b i).length : Nat) : Int)) (ex_len _ _ rfl 1 dk_sl_23_1 _ _ _ (F.e rfl)) ?_; clear F a; intro a F
   refine list_val F (wn rfl) rfl rfl (.int .i64 ((n - 1 : Nat) : Int)) (ex_bin .sub _ _ _ _ rfl .i64 _ _ (F.e rfl) rfl _ (b_sub ((w_i64 (by omega) (by omega)).trans (by omega)))) ?_; clear F a; intro a F
   refine list_val F (wn rfl) rfl rfl (.slice A2 ((revT b i).length) c2) (ex_move _ rfl _ (F.e rfl)) ?_; clear F a; intro a F
   refine list_val F (wn rfl) rfl rfl (.slice A2 ((revT b i).length) c2) (ex_move _ rfl _ (F.e rfl)) ?_; clear F a; intro a F
   refine list_val F (wn rfl) rfl rfl (.int .i64 (((revT b i).length : Nat) : Int)) (ex_len _ _ rfl 1 dk_sl_23_1 _ _ _ (F.e rfl)) ?_; clear F a; intro a F
   refine list_val F (wn rfl) rfl rfl (.int .i64 ((n - 1 : Nat) : Int)) (ex_bin .sub _ _ _ _ rfl .i64 _ _ (F.e rfl) rfl _ (b_sub ((w_i64 (by omega) (by omega)).trans (by omega)))) ?_; clear F a; intro a F
   refine list_val F (wn rfl) rfl rfl (.pointer (A2.map (·.add (n - 1)))) (ex_ixB _ _ rfl A2 ((revT b i).length) c2 (F.e rfl) .i64 _ (F.e rfl) (n - 1) rfl (by omega) (revT b i) (R_.rb (i := 0) rfl)) ?_; clear F a; intro a F
   refine list_val F (wn rfl) rfl rfl (bv ((revT b i).getD (n - 1) 0)) (ex_ldB _ rfl A2 ((revT b i).length) (n - 1) (revT b i) (F.e rfl) (by omega) (R_.rb (i := 0) rfl)) ?_; clear F a; intro a F
   refine list_val F (wn rfl) rfl rfl (bv (((revT b i).getD (n - 1) 0) ^^^ 1)) (ex_xorb _ _ _ _ rfl ((revT b i).getD (n - 1) 0) 1 (F.e rfl) rfl) ?_; clear F a; intro a F
   refine list_val F (wn rfl) rfl rfl (.pointer (A2.map (·.add (n - 1)))) (ex_ixB _ _ rfl A2 ((revT b i).length) c2 (F.e rfl) .i64 _ (F.e rfl) (n - 1) rfl (by omega) (revT b i) (R_.rb (i := 0) rfl)) ?_; clear F a; intro a F
   refine list_do (wn rfl) (fun K hK => ?_)
   refine ow_putR F M R_ rfl rfl _ _ rfl 0 A2 (revT b i).length c2 (revT b i) rfl (n - 1) (by omega) (F.e rfl) (((revT b i).getD (n - 1) 0) ^^^ 1) (F.e rfl) ?_
   clear F M R_; intro a u F M R_ hgr; clear hgr
   refine hK _ _ ?_
   clear hK K
   try clear v
   refine wpList_nil ?_
   replace F : Fr 42 a [(0, .slice B n c), (2, .slice none 0 0), (3, .slice A2 ((revT b i).length) c2), (4, .int .i64 (((n : Nat) : Int) - 1 - ((i : Nat) : Int))), (9, .bool false), (28, .bool true)] := F.keep ⟨rfl, rfl, rfl, rfl, rfl, rfl, trivial⟩
   refine then_n ?_
   refine wp_seq ?_
   refine wp_region_lit ?_
   refine list_val F (wn rfl) rfl rfl (.slice A2 ((revT b i).length) c2) (ex_move _ rfl _ (F.e rfl)) ?_; clear F a; intro a F
   refine list_val F (wn rfl) rfl rfl (.slice A2 ((revT b i).length) c2) (ex_assign _ rfl _ (F.e rfl)) ?_; clear F a; intro a F
   refine wpList_nil ?_
   replace F : Fr 42 a [(0, .slice B n c), (2, .slice A2 ((revT b i).length) c2), (3, .slice A2 ((revT b i).length) c2), (4, .int .i64 (((n : Nat) : Int) - 1 - ((i : Nat) : Int))), (9, .bool false), (28, .bool true)] := F.keep ⟨rfl, rfl, rfl, rfl, rfl, rfl, trivial⟩
   refine then_n ?_
   refine wp_ret ?_
   have hlen : (revT b i).length = n := by omega
   have hol : (((revT b i).set (n - 1) (((revT b i).getD (n - 1) 0) ^^^ 1))).length = n := by (try rw [List.length_set]); exact hlen
   rw [hlen] at R_
   have F2 := F
   rw [hlen] at F2
   exact ret_tmp F2 rfl rfl ⟨A2, c2, ((revT b i).set (n - 1) (((revT b i).getD (n - 1) 0) ^^^ 1)), hol, rfl, R_.own 0 _ _ rfl, M.bel⟩
  refine wp_region_lit ?_
  refine list_val F (wn rfl) rfl rfl (.slice B n c) (ex_move _ rfl _ (F.e rfl)) ?_; clear F a; intro a F
  refine list_val F (wn rfl) rfl rfl (.int .i64 ((n : Nat) : Int)) (ex_len _ _ rfl 1 dk_sl_23_1 _ _ _ (F.e rfl)) ?_; clear F a; intro a F
  refine list_val F (wn rfl) rfl rfl (.bool true) (ex_bin .gtr _ _ _ _ rfl .i64 _ _ (F.e rfl) rfl _ (b_gtr (decide_eq_true (by omega)))) ?_; clear F a; intro a F
  refine list_val F (wn rfl) rfl rfl (.bool true) (ex_move _ rfl _ (F.e rfl)) ?_; clear F a; intro a F
  refine list_val F (F.wants 22 true rfl (by kernel_rfl) rfl true rfl) rfl rfl (.slice A2 ((revT b i).length) c2) (ex_move _ rfl _ (F.e rfl)) ?_; clear F a; intro a F
  refine list_val F (F.wants 22 true rfl (by kernel_rfl) rfl true rfl) rfl rfl (.string (strB (revT b i))) (ex_strB _ rfl A2 ((revT b i).length) c2 (revT b i) (F.e rfl) (R_.rb (i := 0) rfl)) ?_; clear F a; intro a F
  refine list_val F (F.wants 22 true rfl (by kernel_rfl) rfl true rfl) rfl rfl (.slice B n c) (ex_move _ rfl _ (F.e rfl)) ?_; clear F a; intro a F
  refine list_val F (F.wants 22 true rfl (by kernel_rfl) rfl true rfl) rfl rfl (.string (strB b)) (ex_strB _ rfl B n c b (F.e rfl) (hB.below M.bel)) ?_; clear F a; intro a F
  refine list_val F (F.wants 22 true rfl (by kernel_rfl) rfl true rfl) rfl rfl (.bool false) (ex_eqls _ _ _ rfl (revT b i) b (F.e rfl) (F.e rfl) false (decide_eq_false hpal)) ?_; clear F a; intro a F
  refine list_val F (wn rfl) rfl rfl (.bool false) (ex_pick_t _ _ _ rfl (F.e rfl) _ (F.e rfl)) ?_; clear F a; intro a F
  refine wpList_nil ?_
  replace F : Fr 42 a [(0, .slice B n c), (2, .slice none 0 0), (3, .slice A2 ((revT b i).length) c2), (4, .int .i64 (((n : Nat) : Int) - 1 - ((i : Nat) : Int))), (9, .bool false), (28, .bool false)] := F.keep ⟨rfl, rfl, rfl, rfl, rfl, rfl, trivial⟩
  refine then_n ?_
  refine wp_cond_false (F.e rfl) ?_
  refine wp_skip ?_
  refine then_n ?_
  refine wp_seq ?_
  refine wp_region_lit ?_
  refine list_val F (wn rfl) rfl rfl (.slice A2 ((revT b i).length) c2) (ex_move _ rfl _ (F.e rfl)) ?_; clear F a; intro a F
  refine list_val F (wn rfl) rfl rfl (.slice A2 ((revT b i).length) c2) (ex_assign _ rfl _ (F.e rfl)) ?_; clear F a; intro a F
  refine wpList_nil ?_
  replace F : Fr 42 a [(0, .slice B n c), (2, .slice A2 ((revT b i).length) c2), (3, .slice A2 ((revT b i).length) c2), (4, .int .i64 (((n : Nat) : Int) - 1 - ((i : Nat) : Int))), (9, .bool false), (28, .bool false)] := F.keep ⟨rfl, rfl, rfl, rfl, rfl, rfl, trivial⟩
  refine then_n ?_
  refine wp_ret ?_
  have hlen : (revT b i).length = n := by omega
  have hol : ((revT b i)).length = n := by (try rw [List.length_set]); exact hlen
  rw [hlen] at R_
  have F2 := F
  rw [hlen] at F2
  exact ret_tmp F2 rfl rfl ⟨A2, c2, (revT b i), hol, rfl, R_.own 0 _ _ rfl, M.bel⟩
 refine wp_region_lit ?_
 refine list_val F (wn rfl) rfl rfl (.slice B n c) (ex_move _ rfl _ (F.e rfl)) ?_; clear F a; intro a F
 refine list_val F (wn rfl) rfl rfl (.int .i64 ((n : Nat) : Int)) (ex_len _ _ rfl 1 dk_sl_23_1 _ _ _ (F.e rfl)) ?_; clear F a; intro a F
 refine list_val F (wn rfl) rfl rfl (.bool false) (ex_bin .gtr _ _ _ _ rfl .i64 _ _ (F.e rfl) rfl _ (b_gtr (decide_eq_false (by omega)))) ?_; clear F a; intro a F
 refine list_val F (wn rfl) rfl rfl (.bool false) (ex_move _ rfl _ (F.e rfl)) ?_; clear F a; intro a F
 refine list_skip F (F.wants 22 false rfl (by kernel_rfl) rfl false rfl) rfl rfl ?_; clear F a; intro a F
 refine list_skip F (F.wants 22 false rfl (by kernel_rfl) rfl false rfl) rfl rfl ?_; clear F a; intro a F
 refine list_skip F (F.wants 22 false rfl (by kernel_rfl) rfl false rfl) rfl rfl ?_; clear F a; intro a F
 refine list_skip F (F.wants 22 false rfl (by kernel_rfl) rfl false rfl) rfl rfl ?_; clear F a; intro a F
 refine list_skip F (F.wants 22 false rfl (by kernel_rfl) rfl false rfl) rfl rfl ?_; clear F a; intro a F
 refine list_val F (wn rfl) rfl rfl (.bool false) (ex_pick_f _ _ _ rfl (F.e rfl) _ rfl) ?_; clear F a; intro a F
 refine wpList_nil ?_
 replace F : Fr 42 a [(0, .slice B n c), (2, .slice none 0 0), (3, .slice A2 ((revT b i).length) c2), (4, .int .i64 (((n : Nat) : Int) - 1 - ((i : Nat) : Int))), (9, .bool false), (28, .bool false)] := F.keep ⟨rfl, rfl, rfl, rfl, rfl, rfl, trivial⟩
 refine then_n ?_
 refine wp_cond_false (F.e rfl) ?_
 refine wp_skip ?_
 refine then_n ?_
 refine wp_seq ?_
 refine wp_region_lit ?_
 refine list_val F (wn rfl) rfl rfl (.slice A2 ((revT b i).length) c2) (ex_move _ rfl _ (F.e rfl)) ?_; clear F a; intro a F
 refine list_val F (wn rfl) rfl rfl (.slice A2 ((revT b i).length) c2) (ex_assign _ rfl _ (F.e rfl)) ?_; clear F a; intro a F
 refine wpList_nil ?_
 replace F : Fr 42 a [(0, .slice B n c), (2, .slice A2 ((revT b i).length) c2), (3, .slice A2 ((revT b i).length) c2), (4, .int .i64 (((n : Nat) : Int) - 1 - ((i : Nat) : Int))), (9, .bool false), (28, .bool false)] := F.keep ⟨rfl, rfl, rfl, rfl, rfl, rfl, trivial⟩
 refine then_n ?_
 refine wp_ret ?_
 have hlen : (revT b i).length = n := by omega
 have hol : ((revT b i)).length = n := by (try rw [List.length_set]); exact hlen
 rw [hlen] at R_
 have F2 := F
 rw [hlen] at F2
 exact ret_tmp F2 rfl rfl ⟨A2, c2, (revT b i), hol, rfl, R_.own 0 _ _ rfl, M.bel⟩
set_option maxHeartbeats 4000000 in
set_option maxRecDepth 100000 in
theorem into_any (full b : List By) (A B : Option Addr) (N c n c2 m d base : Nat) (w : World) (hbs : base ≤ w.heap.size) (hO : OwB w base (.slice A N c) full) (hnN : n ≤ N) (hB : Rb w B m b) (hnm : n ≤ m) (hap : 0 < m → ∀ ad, B = some ad → some ad.block ≠ (Value.slice A N c).ownBlock) :
    Calls Tryd.prog 18 #[.slice A n c2, .slice B m d] w fun e w' => e = .returned (.tuple #[]) ∧ w.grownBy w' (Value.slice A N c).ownBlock ∧ OwB w' base (.slice A N c) (over b full n) := by
 have hsz := cut_size' hbs
 have Gg : w.grownBy w (Value.slice A N c).ownBlock := gw_refl _ _
 have R_ : Rs (cutW w base) w [(.slice A N c, full)] := rs_one (by rw [hsz]; exact hO)
 have hfl : full.length = N := hO.rb.1.1
 have hmx : N ≤ 9223372036854775807 := by have := hO.rb.1.2.1; simp only [maxLen] at this; exact this
 refine calls_start Tryd.func18 rfl rfl rfl (fun a F => ?_)
 have M : Mm (cutW w base) w [] := mm_none hbs
 refine wp_seq ?_
 refine wp_region_lit ?_
 refine list_val F (wn rfl) rfl rfl (.int .i64 0) (ex_assign _ rfl _ rfl) ?_; clear F a; intro a F
 refine wpList_nil ?_
 replace F : Fr 18 a [(0, .slice A n c2), (1, .slice B m d), (4, .int .i64 0)] := F.keep ⟨rfl, rfl, rfl, trivial⟩
 refine then_n ?_
 refine wp_block ?_
 refine wp_loopN (fun mq ar wr => ∃ (i : Nat), Fr 18 ar [(0, .slice A n c2), (1, .slice B m d), (4, .int .i64 ((i : Nat) : Int))] ∧ Mm (cutW w base) wr [] ∧ Rs (cutW w base) wr [(.slice A N c, (over b full i))] ∧ Rb wr B m b ∧ w.grownBy wr (Value.slice A N c).ownBlock ∧ i ≤ n ∧ mq + i = n) n ?_ ?_
 ·
  exact ⟨0, F.keep ⟨rfl, rfl, rfl, trivial⟩, M, (by rw [over_zero]; exact R_), hB, Gg, (Nat.zero_le _), (by omega)⟩
 clear F M a R_ hB Gg
 rintro mq a v ⟨i, F, M, R_, hB, Gg, hi, hq⟩; try clear w
 by_cases hin : i < n
 ·
  refine wp_seq ?_
  refine wp_seq ?_
  refine wp_region_lit ?_
  refine list_val F (wn rfl) rfl rfl (.int .i64 ((i : Nat) : Int)) (ex_move _ rfl _ (F.e rfl)) ?_; clear F a; intro a F
  refine list_val F (wn rfl) rfl rfl (.slice A n c2) (ex_move _ rfl _ (F.e rfl)) ?_; clear F a; intro a F
  refine list_val F (wn rfl) rfl rfl (.int .i64 ((n : Nat) : Int)) (ex_len _ _ rfl 1 dk_sl_23_1 _ _ _ (F.e rfl)) ?_; clear F a; intro a F
  refine list_val F (wn rfl) rfl rfl (.bool true) (ex_bin .lss _ _ _ _ rfl .i64 _ _ (F.e rfl) (F.e rfl) _ (b_lss (decide_eq_true (by omega)))) ?_; clear F a; intro a F
  refine wpList_nil ?_
  replace F : Fr 18 a [(0, .slice A n c2), (1, .slice B m d), (4, .int .i64 ((i : Nat) : Int)), (8, .bool true)] := F.keep ⟨rfl, rfl, rfl, rfl, trivial⟩
  refine then_n ?_
  refine wp_cond_true (F.e rfl) ?_
  refine wp_skip ?_
  refine then_n ?_
  refine wp_seq ?_
  refine wp_block ?_
  refine wp_region_lit ?_
  refine list_val F (wn rfl) rfl rfl (.slice A n c2) (ex_move _ rfl _ (F.e rfl)) ?_; clear F a; intro a F
  refine list_val F (wn rfl) rfl rfl (.int .i64 ((i : Nat) : Int)) (ex_move _ rfl _ (F.e rfl)) ?_; clear F a; intro a F
  refine list_val F (wn rfl) rfl rfl (.slice B m d) (ex_move _ rfl _ (F.e rfl)) ?_; clear F a; intro a F
  refine list_val F (wn rfl) rfl rfl (.int .i64 ((i : Nat) : Int)) (ex_move _ rfl _ (F.e rfl)) ?_; clear F a; intro a F
  refine list_val F (wn rfl) rfl rfl (.pointer (B.map (·.add i))) (ex_ixB _ _ rfl B m d (F.e rfl) .i64 _ (F.e rfl) i rfl (by omega) b hB) ?_; clear F a; intro a F
  refine list_val F (wn rfl) rfl rfl (bv (b.getD i 0)) (ex_ldB _ rfl B m i b (F.e rfl) (by omega) hB) ?_; clear F a; intro a F
  refine list_val F (wn rfl) rfl rfl (.pointer (A.map (·.add i))) (ex_ixB _ _ rfl A n c2 (F.e rfl) .i64 _ (F.e rfl) i rfl (by omega) (((over b full i)).take n) ((R_.rb (i := 0) rfl).take hnN)) ?_; clear F a; intro a F
  refine list_do (wn rfl) (fun K hK => ?_)
  refine ow_putR F M R_ rfl rfl _ _ rfl 0 A N c (over b full i) rfl i (by omega) (F.e rfl) (b.getD i 0) (F.e rfl) ?_
  clear F M R_; intro a u F M R_ hgr
  replace Gg := Gg.trans hgr
  replace hB := hB.grown hgr hap
  clear hgr
  refine hK _ _ ?_
  clear hK K
  try clear v
  refine wpList_nil ?_
  replace F : Fr 18 a [(0, .slice A n c2), (1, .slice B m d), (4, .int .i64 ((i : Nat) : Int)), (8, .bool true)] := F.keep ⟨rfl, rfl, rfl, rfl, trivial⟩
  refine in_n ?_
  refine then_n ?_
  refine wp_region_lit ?_
  refine list_val F (wn rfl) rfl rfl (.int .i64 ((i : Nat) : Int)) (ex_move _ rfl _ (F.e rfl)) ?_; clear F a; intro a F
  refine list_val F (wn rfl) rfl rfl (.int .i64 ((i + 1 : Nat) : Int)) (ex_bin .add _ _ _ _ rfl .i64 _ _ (F.e rfl) rfl _ (b_add ((w_i64 (by omega) (by omega)).trans (by omega)))) ?_; clear F a; intro a F
  refine list_val F (wn rfl) rfl rfl (.int .i64 ((i + 1 : Nat) : Int)) (ex_assign _ rfl _ (F.e rfl)) ?_; clear F a; intro a F
  refine wpList_nil ?_
  replace F : Fr 18 a [(0, .slice A n c2), (1, .slice B m d), (4, .int .i64 ((i + 1 : Nat) : Int)), (8, .bool true)] := F.keep ⟨rfl, rfl, rfl, rfl, trivial⟩
  refine then_n ?_
  rw [over_set (by rw [hB.1]; omega) (by omega)] at R_
  exact ⟨n - (i + 1), by omega, (i + 1), F.keep ⟨rfl, rfl, rfl, trivial⟩, (by refine M.pick' [] _ ?_ (by decide); exact trivial), R_, hB, Gg, (by omega), (by omega)⟩
 have hie : i = n := by omega
 rw [hie] at R_
 refine wp_seq ?_
 refine wp_seq ?_
 refine wp_region_lit ?_
 refine list_val F (wn rfl) rfl rfl (.int .i64 ((i : Nat) : Int)) (ex_move _ rfl _ (F.e rfl)) ?_; clear F a; intro a F
 refine list_val F (wn rfl) rfl rfl (.slice A n c2) (ex_move _ rfl _ (F.e rfl)) ?_; clear F a; intro a F
 refine list_val F (wn rfl) rfl rfl (.int .i64 ((n : Nat) : Int)) (ex_len _ _ rfl 1 dk_sl_23_1 _ _ _ (F.e rfl)) ?_; clear F a; intro a F
 refine list_val F (wn rfl) rfl rfl (.bool false) (ex_bin .lss _ _ _ _ rfl .i64 _ _ (F.e rfl) (F.e rfl) _ (b_lss (decide_eq_false (by omega)))) ?_; clear F a; intro a F
 refine wpList_nil ?_
 replace F : Fr 18 a [(0, .slice A n c2), (1, .slice B m d), (4, .int .i64 ((i : Nat) : Int)), (8, .bool false)] := F.keep ⟨rfl, rfl, rfl, rfl, trivial⟩
 refine then_n ?_
 refine wp_cond_false (F.e rfl) ?_
 refine wp_exit ?_
 refine then_x ?_
 refine then_x ?_
 refine in_hit ?_
 have hOw := R_.own 0 _ _ rfl
 rw [hsz] at hOw
 exact ret_none F rfl ⟨rfl, Gg, hOw⟩
set_option maxHeartbeats 4000000 in
set_option maxRecDepth 100000 in
theorem over_any (full : List By) (A : Option Addr) (N c n c2 base : Nat) (w : World) (hbs : base ≤ w.heap.size) (hO : OwB w base (.slice A N c) full) (hnN : n ≤ N) :
    Calls Tryd.prog 34 #[.slice A n c2] w fun e w' => e = .returned (.tuple #[]) ∧ w.grownBy w' (Value.slice A N c).ownBlock ∧ OwB w' base (.slice A N c) (over (List.replicate n 238) full n) := by
 have hsz := cut_size' hbs
 have Gg : w.grownBy w (Value.slice A N c).ownBlock := gw_refl _ _
 have R_ : Rs (cutW w base) w [(.slice A N c, full)] := rs_one (by rw [hsz]; exact hO)
 have hfl : full.length = N := hO.rb.1.1
 have hmx : N ≤ 9223372036854775807 := by have := hO.rb.1.2.1; simp only [maxLen] at this; exact this
 refine calls_start Tryd.func34 rfl rfl rfl (fun a F => ?_)
 have M : Mm (cutW w base) w [] := mm_none hbs
 refine wp_seq ?_
 refine wp_region_lit ?_
 refine list_val F (wn rfl) rfl rfl (.int .i64 0) (ex_assign _ rfl _ rfl) ?_; clear F a; intro a F
 refine wpList_nil ?_
 replace F : Fr 12 a [(0, .slice A n c2), (2, .int .i64 0)] := F.keep ⟨rfl, rfl, trivial⟩
 refine then_n ?_
 refine wp_block ?_
 refine wp_loopN (fun mq ar wr => ∃ (i : Nat), Fr 12 ar [(0, .slice A n c2), (2, .int .i64 ((i : Nat) : Int))] ∧ Mm (cutW w base) wr [] ∧ Rs (cutW w base) wr [(.slice A N c, (over (List.replicate n 238) full i))] ∧ w.grownBy wr (Value.slice A N c).ownBlock ∧ i ≤ n ∧ mq + i = n) n ?_ ?_
 ·
  exact ⟨0, F.keep ⟨rfl, rfl, trivial⟩, M, (by rw [over_zero]; exact R_), Gg, (Nat.zero_le _), (by omega)⟩
 clear F M a R_ Gg
 rintro mq a v ⟨i, F, M, R_, Gg, hi, hq⟩; try clear w
 by_cases hin : i < n
 ·
  refine wp_seq ?_
  refine wp_seq ?_
  refine wp_region_lit ?_
  refine list_val F (wn rfl) rfl rfl (.int .i64 ((i : Nat) : Int)) (ex_move _ rfl _ (F.e rfl)) ?_; clear F a; intro a F
  refine list_val F (wn rfl) rfl rfl (.slice A n c2) (ex_move _ rfl _ (F.e rfl)) ?_; clear F a; intro a F
  refine list_val F (wn rfl) rfl rfl (.int .i64 ((n : Nat) : Int)) (ex_len _ _ rfl 1 dk_sl_23_1 _ _ _ (F.e rfl)) ?_; clear F a; intro a F
  refine list_val F (wn rfl) rfl rfl (.bool true) (ex_bin .lss _ _ _ _ rfl .i64 _ _ (F.e rfl) (F.e rfl) _ (b_lss (decide_eq_true (by omega)))) ?_; clear F a; intro a F
  refine wpList_nil ?_
  replace F : Fr 12 a [(0, .slice A n c2), (2, .int .i64 ((i : Nat) : Int)), (6, .bool true)] := F.keep ⟨rfl, rfl, rfl, trivial⟩
  refine then_n ?_
  refine wp_cond_true (F.e rfl) ?_
  refine wp_skip ?_
  refine then_n ?_
  refine wp_seq ?_
  refine wp_block ?_
  refine wp_region_lit ?_
  refine list_val F (wn rfl) rfl rfl (.slice A n c2) (ex_move _ rfl _ (F.e rfl)) ?_; clear F a; intro a F
  refine list_val F (wn rfl) rfl rfl (.int .i64 ((i : Nat) : Int)) (ex_move _ rfl _ (F.e rfl)) ?_; clear F a; intro a F
  refine list_val F (wn rfl) rfl rfl (.pointer (A.map (·.add i))) (ex_ixB _ _ rfl A n c2 (F.e rfl) .i64 _ (F.e rfl) i rfl (by omega) (((over (List.replicate n 238) full i)).take n) ((R_.rb (i := 0) rfl).take hnN)) ?_; clear F a; intro a F
  refine list_do (wn rfl) (fun K hK => ?_)
  refine ow_putR F M R_ rfl rfl _ _ rfl 0 A N c (over (List.replicate n 238) full i) rfl i (by omega) (F.e rfl) 238 rfl ?_
  clear F M R_; intro a u F M R_ hgr
  replace Gg := Gg.trans hgr
  clear hgr
  refine hK _ _ ?_
  clear hK K
  try clear v
  refine wpList_nil ?_
  replace F : Fr 12 a [(0, .slice A n c2), (2, .int .i64 ((i : Nat) : Int)), (6, .bool true)] := F.keep ⟨rfl, rfl, rfl, trivial⟩
  refine in_n ?_
  refine then_n ?_
  refine wp_region_lit ?_
  refine list_val F (wn rfl) rfl rfl (.int .i64 ((i : Nat) : Int)) (ex_move _ rfl _ (F.e rfl)) ?_; clear F a; intro a F
  refine list_val F (wn rfl) rfl rfl (.int .i64 ((i + 1 : Nat) : Int)) (ex_bin .add _ _ _ _ rfl .i64 _ _ (F.e rfl) rfl _ (b_add ((w_i64 (by omega) (by omega)).trans (by omega)))) ?_; clear F a; intro a F
  refine list_val F (wn rfl) rfl rfl (.int .i64 ((i + 1 : Nat) : Int)) (ex_assign _ rfl _ (F.e rfl)) ?_; clear F a; intro a F
  refine wpList_nil ?_
  replace F : Fr 12 a [(0, .slice A n c2), (2, .int .i64 ((i + 1 : Nat) : Int)), (6, .bool true)] := F.keep ⟨rfl, rfl, rfl, trivial⟩
  refine then_n ?_
  rw [over_rep _ hin (by omega)] at R_
  exact ⟨n - (i + 1), by omega, (i + 1), F.keep ⟨rfl, rfl, trivial⟩, (by refine M.pick' [] _ ?_ (by decide); exact trivial), R_, Gg, (by omega), (by omega)⟩
 have hie : i = n := by omega
 rw [hie] at R_
 refine wp_seq ?_
 refine wp_seq ?_
 refine wp_region_lit ?_
 refine list_val F (wn rfl) rfl rfl (.int .i64 ((i : Nat) : Int)) (ex_move _ rfl _ (F.e rfl)) ?_; clear F a; intro a F
 refine list_val F (wn rfl) rfl rfl (.slice A n c2) (ex_move _ rfl _ (F.e rfl)) ?_; clear F a; intro a F
 refine list_val F (wn rfl) rfl rfl (.int .i64 ((n : Nat) : Int)) (ex_len _ _ rfl 1 dk_sl_23_1 _ _ _ (F.e rfl)) ?_; clear F a; intro a F
 refine list_val F (wn rfl) rfl rfl (.bool false) (ex_bin .lss _ _ _ _ rfl .i64 _ _ (F.e rfl) (F.e rfl) _ (b_lss (decide_eq_false (by omega)))) ?_; clear F a; intro a F
 refine wpList_nil ?_
 replace F : Fr 12 a [(0, .slice A n c2), (2, .int .i64 ((i : Nat) : Int)), (6, .bool false)] := F.keep ⟨rfl, rfl, rfl, trivial⟩
 refine then_n ?_
 refine wp_cond_false (F.e rfl) ?_
 refine wp_exit ?_
 refine then_x ?_
 refine then_x ?_
 refine in_hit ?_
 have hOw := R_.own 0 _ _ rfl
 rw [hsz] at hOw
 exact ret_none F rfl ⟨rfl, Gg, hOw⟩
end Go.Proofs.YtkppipeadibfkaaDoor
