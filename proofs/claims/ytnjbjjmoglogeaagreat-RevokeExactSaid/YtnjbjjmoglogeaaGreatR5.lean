/- The walks of slices.DeleteFunc (27), Prune (10). Conditions: the list is read, and is a list. -/
import Derived.Test.YtnjbjjmoglogeaaGreatR4
namespace Go.Proofs.YtnjbjjmoglogeaaGreat
open Go.RowKit Go.Proofs.YtnjbjjmoglogeaaGreatW.PrintWords KB WG RO
set_option linter.unusedVariables false
set_option linter.unusedSimpArgs false
set_option linter.unnecessarySimpa false
theorem at_belowB {w w1 : World} {p : Addr} {cs : List Value} {B : Nat} (h : At w p cs) (hB : p.block < B) (hb : Below B w w1) : At w1 p cs := fun j v hv => by
  have e : (p.add j).block = p.block := by unfold Addr.add; split <;> rfl
  rw [World.cell?_of_block (w := w) (w' := w1) (a := p.add j) (by rw [e]; exact hb.block _ hB)]
  exact h j v hv
def PaysB (f : Nat) (caps : Array Value) (p : Rv → Bool) (B : Nat) (w : World) : Prop :=
  (∀ (x : Rv) (w' : World), (callFunc f (#[.agg x.arr] ++ caps)).run Tryz.prog w' = .ok (.enter f (#[.agg x.arr] ++ caps)) w') ∧
  ∀ (x : Rv) (w' : World), Below B w w' → Calls Tryz.prog f (#[.agg x.arr] ++ caps) w' fun e w'' => e = .returned (.bool (p x)) ∧ Below w'.heap.size w' w''
theorem PaysB.at_ {f : Nat} {caps : Array Value} {p : Rv → Bool} {B : Nat} {w w1 : World} (h : PaysB f caps p B w) (hB : B ≤ w1.heap.size) (hb : Below B w w1) : Pays f caps p w1 :=
  ⟨h.1, fun k w' hb' => h.2 k w' (hb.trans (hb'.mono hB))⟩
theorem paysB_old {a1 : Addr} {e : Int} {B : Nat} {w : World} (hB : a1.block < B) (hc : At w a1 [.int .i64 e]) : PaysB 43 #[.pointer (some a1)] (fun x => decide (x.exp ≤ e)) B w :=
  ⟨fun _ _ => enters (by kernel_rfl) _ _, fun x w' hb => clo_old x a1 e w' (at_belowB hc hB hb)⟩
/-- How far a deletion has come: the first a are those that stay of the first b; from b on all are as they were. -/
structure Half (p : Rv → Bool) (xs ys : List Rv) (a b : Nat) : Prop where
  len : ys.length = xs.length
  lt : a < b
  le : b ≤ xs.length
  front : ys.take a = (xs.take b).filter fun k => !p k
  back : ys.drop b = xs.drop b
theorem Half.get {p : Rv → Bool} {xs ys : List Rv} {a b : Nat} (h : Half p xs ys a b) : ys[b]? = xs[b]? := by
  have h1 := congrArg (fun l => l[0]?) h.back
  simpa [List.getElem?_drop] using h1
theorem drop_next {xs ys : List Rv} {b : Nat} (h : xs.drop b = ys.drop b) : xs.drop (b + 1) = ys.drop (b + 1) := by
  rw [← List.drop_drop, ← List.drop_drop, h]
theorem take_snoc {xs : List Rv} {b : Nat} {y : Rv} (h : xs[b]? = some y) : xs.take (b + 1) = xs.take b ++ [y] := by
  rw [List.take_add_one, h]; rfl
theorem Half.skip {p : Rv → Bool} {xs ys : List Rv} {a b : Nat} {y : Rv} (h : Half p xs ys a b) (hy : ys[b]? = some y) (hp : p y = true) : Half p xs ys a (b + 1) :=
  ⟨h.len, by have := h.lt; omega, by have := (List.getElem?_eq_some_iff.1 (h.get ▸ hy)).1; omega, by rw [h.front, take_snoc (h.get ▸ hy), List.filter_append]; simp [hp], drop_next h.back⟩
theorem Half.keep {p : Rv → Bool} {xs ys : List Rv} {a b : Nat} {y : Rv} (h : Half p xs ys a b) (hy : ys[b]? = some y) (hp : p y = false) : Half p xs (ys.set a y) (a + 1) (b + 1) := by
  have hl := h.len
  have hlt := h.lt
  have hb := (List.getElem?_eq_some_iff.1 hy).1
  refine ⟨by rw [List.length_set]; exact hl, by omega, by omega, ?_, ?_⟩
  · rw [take_snoc (xs := xs) (b := b) (h.get ▸ hy), List.filter_append, ← h.front, List.take_add_one, List.getElem?_set_self (by omega), List.take_set_of_le (Nat.le_refl _)]
    simp [hp]
  · rw [List.drop_set_of_lt (by omega)]
    exact drop_next h.back
theorem idx_some {p : Rv → Bool} {xs : List Rv} (h : ¬ idxF p xs = -1) : ∃ i : Nat, idxF p xs = (i : Int) ∧ i < xs.length ∧ Half p xs xs i (i + 1) := by
  unfold idxF at h ⊢
  cases hf : xs.findIdx? p with
  | none => rw [hf] at h; exact absurd rfl h
  | some i =>
    obtain ⟨h1, h2, h3⟩ := List.findIdx?_eq_some_iff_getElem.1 hf
    refine ⟨i, rfl, h1, rfl, by omega, h1, ?_, rfl⟩
    rw [take_snoc (List.getElem?_eq_getElem h1), List.filter_append, List.filter_eq_self.2]
    · simp [h2]
    · intro k hk
      obtain ⟨q, hq, rfl⟩ := List.getElem_of_mem hk
      simp only [List.length_take] at hq
      rw [List.getElem_take]
      simpa using h3 q (by omega)
theorem idx_none_filter {p : Rv → Bool} {xs : List Rv} (h : idxF p xs = -1) : xs.filter (fun k => !p k) = xs := by
  unfold idxF at h
  cases hf : xs.findIdx? p with
  | none =>
    rw [List.filter_eq_self]
    intro k hk
    have := List.findIdx?_eq_none_iff.1 hf k hk
    simp [this]
  | some j => rw [hf] at h; simp only at h; omega
section
variable {P : Program} {op : Oper} {a : Act} {w w0 : World} {n : Nat} {L : List (Nat × Value)} {H : List Blk} {K : Act → World → Prop} {Q : Exit → Act → World → Prop}
theorem ow_clear (F : Fr n a L) (M : Mm w0 w H) {t e m b : Nat} {z : Value} (hu : P.underlying t = some (.slice e)) (hz : (P.info? e).map (fun i => (i.zero, i.size, i.bytes)) = some (some z, m, b)) (hzs : z.cells.size = m) (hz1 : z.cells.all (·.oneCell') = true) (hd : op.dst = none) (x : Operand) (ho : op.op = .call { callee := .builtin .clear, args := #[x], argTypes := #[t] })
    (i g o k c : Nat) (cur : Array Value) (T : TypeId) (hi : H[i]? = some ⟨g, cur, T⟩) (hx : a.eval x = .slice (some ⟨g, o, none⟩) k c) (hk : 0 < k) (hfit : o + k * m ≤ cur.size)
    (h : ∀ a' w' Z, Fr n a' L → Z.length = k * m → Mm w0 w' (H.set i ⟨g, (cur.toList.take o ++ Z ++ cur.toList.drop (o + Z.length)).toArray, T⟩) → w.grownBy w' (some g) → K a' w') : op.wp P a w K Q := by
  obtain ⟨inf, hinf, hzz⟩ := Option.map_eq_some_iff.1 hz
  simp only [Prod.mk.injEq] at hzz
  obtain ⟨hz0, hzm, hzb⟩ := hzz
  have hb := M.blk i _ hi
  have hlen : (Builtin.zeroCells z.cells k).toList.length = k * m := by simp [Builtin.zeroCells, hzs]
  have hone : ∀ v ∈ (Builtin.zeroCells z.cells k).toList, v.oneCell' = true := by
    intro v hv
    simp only [Builtin.zeroCells, Array.toList_map, List.mem_map] at hv
    obtain ⟨j, hj, rfl⟩ := hv
    have hmpos : 0 < z.cells.size := by
      rcases Nat.eq_zero_or_pos z.cells.size with h0 | h0
      · simp [h0] at hj
      · exact h0
    have hj2 : j % z.cells.size < z.cells.size := Nat.mod_lt _ hmpos
    rw [getElem!_pos z.cells _ hj2]
    exact (Array.all_eq_true_iff_forall_mem.1 hz1) _ (Array.getElem_mem _)
  have hst := run_storeCells_at P g o T (Builtin.zeroCells z.cells k).toList 0 cur w hb (by rw [hlen]; simpa using hfit) hone
  simp only [Nat.add_zero] at hst
  obtain ⟨k', rfl⟩ : ∃ k', k = k' + 1 := ⟨k - 1, by omega⟩
  have hr : (Builtin.clear_ #[t] op.type #[.slice (some ⟨g, o, none⟩) (k' + 1) c]).run P w = .ok (.tuple #[]) (w.setRow g (cur.toList.take o ++ (Builtin.zeroCells z.cells (k' + 1)).toList ++ cur.toList.drop (o + (Builtin.zeroCells z.cells (k' + 1)).toList.length)).toArray) := by
    simp [Builtin.clear_, run_underlying hu, zeroValue, typeInfo, hinf, hz0]
    change ((Sem.run P (storeCells ⟨g, o, none⟩ (Builtin.zeroCells z.cells (k' + 1)).toList) w).andThen _) = _
    rw [hst]
    simp [Result.andThen]
  unfold Oper.wp execOp
  simp only [ho, resolve, invoke, builtin, Sem.run_bind, Sem.run_pure, Result.andThen_ok, List.map_toArray, List.map_cons, List.map_nil, hx, hr]
  exact (by rw [hd]; exact h _ _ _ F hlen (M.grown (b := ⟨g, cur, T⟩) hi _ (setRow_grown w g _) (setRow_heap w g _ _ T (0, 0) hb)) (setRow_grown w g _) : K (a.put op.dst _) _)
end
theorem take_flat {ys : List Rv} {a : Nat} (ha : a ≤ ys.length) : (ys.flatMap Rv.cs).take (a * 19) = (ys.take a).flatMap Rv.cs := by
  rw [flat_split ys a]
  exact List.take_left' (by rw [flat_len, List.length_take, Nat.min_eq_left ha])
theorem whole_set (z y : Rv) : z.cs.take 0 ++ y.cs ++ z.cs.drop (0 + y.cs.length) = y.cs := by
  rw [List.take_zero, List.nil_append, List.drop_eq_nil_of_le (by rw [Rv.cs_len, Rv.cs_len]; decide), List.append_nil]
theorem r5_ent_79 : ent? Tryz.prog 79 = true := by kernel_rfl
theorem r5_sl_57_19 : sl? Tryz.prog 57 19 = true := by kernel_rfl
set_option maxHeartbeats 1000000 in
set_option maxRecDepth 100000 in
theorem delete_any (p : Rv → Bool) (f : Nat) (caps : Array Value) (xs : List Rv) (A : Option Addr) (c Bs0 : Nat) (w : World) (hO : Ow kRv 85 w Bs0 (.slice A xs.length c) xs) (hB : Bs0 ≤ w.heap.size) (hP : PaysB f caps p Bs0 w) (hmx : xs.length ≤ 1000000) :
    Calls Tryz.prog 42 #[.slice A xs.length c, .func (.func f) #[] caps] w fun r w' => ∃ A' c', r = .returned (.slice A' (xs.filter fun k => !p k).length c') ∧ Ow kRv 85 w' Bs0 (.slice A' (xs.filter fun k => !p k).length c') (xs.filter fun k => !p k) ∧ Below Bs0 w w' := by
 have hcs := cut_size hB
 have O_x : Ow kRv 85 w (cutW w Bs0).heap.size (.slice A xs.length c) xs := hcs.symm ▸ hO
 have S_ : w.heap.size ≤ w.heap.size := Nat.le_refl _
 refine calls_start Tryz.func42 rfl rfl rfl (fun a F => ?_)
 have M : Mm (cutW w Bs0) w [] := cut_nil hB
 refine wp_seq ?_
 refine wp_region_lit ?_
 refine list_val F (wn rfl) rfl rfl (.slice none 0 0) (ex_assign _ rfl _ rfl) ?_; clear F a; intro a F
 refine wpList_nil ?_
 replace F : Fr 42 a [(0, .slice A xs.length c), (1, .func (.func f) #[] caps), (4, .slice none 0 0)] := F.keep ⟨rfl, rfl, rfl, trivial⟩
 refine then_n ?_
 refine wp_seq ?_
 refine wp_region_lit ?_
 refine list_val F (wn rfl) rfl rfl (.slice A xs.length c) (ex_move _ rfl _ (F.e rfl)) ?_; clear F a; intro a F
 refine list_val F (wn rfl) rfl rfl (.func (.func f) #[] caps) (ex_move _ rfl _ (F.e rfl)) ?_; clear F a; intro a F
 refine list_do (wn rfl) (fun K hK => ?_)
 refine ow_call rfl rfl F 79 #[.slice A xs.length c, .func (.func f) #[] caps] (ex_call 79 _ _ rfl rfl r5_ent_79 _ (map2 (F.e rfl) (F.e rfl))) (index_any p f caps xs A c _ O_x.rd.1 (hP.at_ (Nat.le_trans hB S_) (cut_to hB S_ M.bel)) hmx) (fun e v hR => ?_)
 obtain ⟨he, hb⟩ := hR
 refine ⟨.int .i64 (idxF p xs), he, ?_⟩; clear he F a; intro a F
 refine hK _ _ ?_
 clear hK K
 replace O_x := O_x.below hb
 replace S_ := Nat.le_trans S_ hb.size
 replace M := M.below hb; clear hb; try clear w
 refine list_val F (wn rfl) rfl rfl (.int .i64 (idxF p xs)) (ex_assign _ rfl _ (F.e rfl)) ?_; clear F a; intro a F
 refine wpList_nil ?_
 replace F : Fr 42 a [(0, .slice A xs.length c), (1, .func (.func f) #[] caps), (4, .slice none 0 0), (5, .int .i64 (idxF p xs))] := F.keep ⟨rfl, rfl, rfl, rfl, trivial⟩
 refine then_n ?_
 refine wp_seq ?_
 refine wp_seq ?_
 by_cases hi : idxF p xs = -1
 ·
  refine wp_region_lit ?_
  refine list_val F (wn rfl) rfl rfl (.int .i64 (idxF p xs)) (ex_move _ rfl _ (F.e rfl)) ?_; clear F a; intro a F
  refine list_val F (wn rfl) rfl rfl (.bool true) (ex_bin .eql _ _ _ _ rfl .i64 _ _ (F.e rfl) rfl _ (b_eql (by rw [hi]; rfl))) ?_; clear F a; intro a F
  refine wpList_nil ?_
  replace F : Fr 42 a [(0, .slice A xs.length c), (1, .func (.func f) #[] caps), (4, .slice none 0 0), (5, .int .i64 (idxF p xs)), (12, .bool true)] := F.keep ⟨rfl, rfl, rfl, rfl, rfl, trivial⟩
  refine then_n ?_
  refine wp_cond_true (F.e rfl) ?_
  refine wp_seq ?_
  refine wp_region_lit ?_
  refine list_val F (wn rfl) rfl rfl (.slice A xs.length c) (ex_move _ rfl _ (F.e rfl)) ?_; clear F a; intro a F
  refine list_val F (wn rfl) rfl rfl (.slice A xs.length c) (ex_assign _ rfl _ (F.e rfl)) ?_; clear F a; intro a F
  refine wpList_nil ?_
  replace F : Fr 42 a [(0, .slice A xs.length c), (1, .func (.func f) #[] caps), (4, .slice A xs.length c), (5, .int .i64 (idxF p xs)), (12, .bool true)] := F.keep ⟨rfl, rfl, rfl, rfl, rfl, trivial⟩
  refine then_n ?_
  refine wp_ret ?_
  refine then_r ?_
  rw [idx_none_filter hi]
  exact ret_tmp F rfl rfl ⟨_, _, rfl, hcs ▸ O_x, cut_to hB S_ M.bel⟩
 obtain ⟨i, hiv, hH0⟩ := idx_some hi
 obtain ⟨hil, hH0⟩ := hH0
 rw [hiv] at F hi
 obtain ⟨g9, sp, rfl, _, hg9, hh9, hsz9, hc9, hcm9⟩ := O_x.open (by decide) (by omega)
 replace M := M_sole M hg9 hh9
 clear O_x hh9
 refine wp_region_lit ?_
 refine list_val F (wn rfl) rfl rfl (.int .i64 ((i : Nat) : Int)) (ex_move _ rfl _ (F.e rfl)) ?_; clear F a; intro a F
 refine list_val F (wn rfl) rfl rfl (.bool false) (ex_bin .eql _ _ _ _ rfl .i64 _ _ (F.e rfl) rfl _ (b_eql (by first | (simp; done) | (simp; omega)))) ?_; clear F a; intro a F
 refine wpList_nil ?_
 replace F : Fr 42 a [(0, .slice (some ⟨g9, 0, none⟩) xs.length c), (1, .func (.func f) #[] caps), (4, .slice none 0 0), (5, .int .i64 ((i : Nat) : Int)), (12, .bool false)] := F.keep ⟨rfl, rfl, rfl, rfl, rfl, trivial⟩
 refine then_n ?_
 refine wp_cond_false (F.e rfl) ?_
 refine wp_skip ?_
 refine then_n ?_
 refine wp_seq ?_
 refine wp_seq ?_
 refine wp_region_lit ?_
 refine list_val F (wn rfl) rfl rfl (.int .i64 ((i : Nat) : Int)) (ex_move _ rfl _ (F.e rfl)) ?_; clear F a; intro a F
 refine list_val F (wn rfl) rfl rfl (.int .i64 ((i + 1 : Nat) : Int)) (ex_bin .add _ _ _ _ rfl .i64 _ _ (F.e rfl) rfl _ (b_add ((w_i64 (by omega) (by omega)).trans (by omega)))) ?_; clear F a; intro a F
 refine list_val F (wn rfl) rfl rfl (.int .i64 ((i + 1 : Nat) : Int)) (ex_assign _ rfl _ (F.e rfl)) ?_; clear F a; intro a F
 refine wpList_nil ?_
 replace F : Fr 42 a [(0, .slice (some ⟨g9, 0, none⟩) xs.length c), (1, .func (.func f) #[] caps), (4, .slice none 0 0), (5, .int .i64 ((i : Nat) : Int)), (6, .int .i64 ((i + 1 : Nat) : Int)), (12, .bool false)] := F.keep ⟨rfl, rfl, rfl, rfl, rfl, rfl, trivial⟩
 refine then_n ?_
 refine wp_block ?_
 refine wp_loopN (fun mq ar wr => ∃ (a0 : Nat), ∃ (b0 : Nat), ∃ (ys : List Rv), ∃ (r0 : Nat), Fr 42 ar [(0, .slice (some ⟨g9, 0, none⟩) xs.length c), (1, .func (.func f) #[] caps), (4, .slice none 0 0), (5, .int .i64 ((a0 : Nat) : Int)), (6, .int .i64 ((b0 : Nat) : Int)), (12, .bool false)] ∧ Mm (cutW w Bs0) wr [⟨g9, (ys.flatMap Rv.cs ++ sp).toArray, 85⟩] ∧ w.heap.size ≤ wr.heap.size ∧ Half p xs ys a0 b0 ∧ b0 = i + 1 + r0 ∧ mq + r0 = xs.length) xs.length ?_ ?_
 ·
  exact ⟨i, (i + 1), xs, 0, F.keep ⟨rfl, rfl, rfl, rfl, rfl, rfl, trivial⟩, M, S_, hH0, rfl, (by omega)⟩
 clear F M a S_
 rintro mq a u ⟨a0, b0, ys, r0, F, M, S_, hH, hr0, hq⟩; try clear v
 have hszy : (ys.flatMap Rv.cs ++ sp).length = c * 19 := by rw [← hsz9]; simp only [List.length_append, flat_len, hH.len]
 have hab := hH.lt
 have hble := hH.le
 have hyl := hH.len
 by_cases hbn : b0 < xs.length
 ·
  obtain ⟨y, hy⟩ : ∃ y, ys[b0]? = some y := ⟨_, List.getElem?_eq_getElem (by omega)⟩
  obtain ⟨z0, hz0⟩ : ∃ z, ys[a0]? = some z := ⟨_, List.getElem?_eq_getElem (by omega)⟩
  refine wp_seq ?_
  refine wp_seq ?_
  refine wp_region_lit ?_
  refine list_val F (wn rfl) rfl rfl (.int .i64 ((b0 : Nat) : Int)) (ex_move _ rfl _ (F.e rfl)) ?_; clear F a; intro a F
  refine list_val F (wn rfl) rfl rfl (.slice (some ⟨g9, 0, none⟩) xs.length c) (ex_move _ rfl _ (F.e rfl)) ?_; clear F a; intro a F
  refine list_val F (wn rfl) rfl rfl (.int .i64 ((xs.length : Nat) : Int)) (ex_len _ _ rfl 19 r5_sl_57_19 _ _ _ (F.e rfl)) ?_; clear F a; intro a F
  refine list_val F (wn rfl) rfl rfl (.bool true) (ex_bin .lss _ _ _ _ rfl .i64 _ _ (F.e rfl) (F.e rfl) _ (b_lss (decide_eq_true (by omega)))) ?_; clear F a; intro a F
  refine wpList_nil ?_
  replace F : Fr 42 a [(0, .slice (some ⟨g9, 0, none⟩) xs.length c), (1, .func (.func f) #[] caps), (4, .slice none 0 0), (5, .int .i64 ((a0 : Nat) : Int)), (6, .int .i64 ((b0 : Nat) : Int)), (12, .bool false), (19, .bool true)] := F.keep ⟨rfl, rfl, rfl, rfl, rfl, rfl, rfl, trivial⟩
  refine then_n ?_
  refine wp_cond_true (F.e rfl) ?_
  refine wp_skip ?_
  refine then_n ?_
  refine wp_seq ?_
  refine wp_block ?_
  refine wp_seq ?_
  refine wp_region_lit ?_
  refine list_val F (wn rfl) rfl rfl (.slice (some ⟨g9, 0, none⟩) xs.length c) (ex_move _ rfl _ (F.e rfl)) ?_; clear F a; intro a F
  refine list_val F (wn rfl) rfl rfl (.int .i64 ((b0 : Nat) : Int)) (ex_move _ rfl _ (F.e rfl)) ?_; clear F a; intro a F
  refine list_val F (wn rfl) rfl rfl (.pointer (some ⟨g9, b0 * 19, none⟩)) (ex_ix _ _ _ rfl 19 r5_sl_57_19 ⟨g9, 0, none⟩ _ _ (F.e rfl) .i64 _ (F.e rfl) b0 rfl (by omega) ⟨g9, b0 * 19, none⟩ ((addr_add _ _ _).trans (by rw [Nat.zero_add]))) ?_; clear F a; intro a F
  refine list_val F (wn rfl) rfl rfl (.agg y.arr) (ex_load _ _ rfl _ (F.e rfl) _ (lrow85 y (rows_at Rv.cs_len (M.at (i := 0) rfl) hy))) ?_; clear F a; intro a F
  refine list_do (wn rfl) (fun K hK => ?_)
  refine ow_alloc F M rfl rfl 85 rfl (.agg zRv.arr) zero85 zRv.arr rfl ?_
  clear F M a; intro a g7 v F M hb hg
  refine hK _ _ ?_
  clear hK K
  replace S_ := Nat.le_trans S_ hb.size
  clear hb hg; try clear u
  refine list_do (wn rfl) (fun K hK => ?_)
  refine ow_put F M rfl 85 _ _ rfl 0 _ zRv.arr _ rfl (F.e rfl) y.arr (F.e rfl) (sz85 _) (by simp only [Rv.arr_size]) (Rv.arr_one _) ?_
  clear F a; have Mo := M; clear M; intro a u F M hgr
  refine hK _ _ ?_
  clear hK K
  replace S_ := Nat.le_trans S_ hgr.size
  clear Mo hgr; try clear v
  replace M : Mm (cutW w Bs0) u [⟨g7, y.arr, 85⟩, ⟨g9, (ys.flatMap Rv.cs ++ sp).toArray, 85⟩] := M
  refine wpList_nil ?_
  replace F : Fr 42 a [(0, .slice (some ⟨g9, 0, none⟩) xs.length c), (1, .func (.func f) #[] caps), (4, .slice none 0 0), (5, .int .i64 ((a0 : Nat) : Int)), (6, .int .i64 ((b0 : Nat) : Int)), (7, .pointer (some ⟨g7, 0, none⟩)), (12, .bool false), (19, .bool true)] := F.keep ⟨rfl, rfl, rfl, rfl, rfl, rfl, rfl, rfl, trivial⟩
  refine then_n ?_
  refine wp_seq ?_
  by_cases hpy : p y = true
  ·
   refine wp_region_lit ?_
   refine list_val F (wn rfl) rfl rfl (.func (.func f) #[] caps) (ex_move _ rfl _ (F.e rfl)) ?_; clear F a; intro a F
   refine list_val F (wn rfl) rfl rfl (.agg y.arr) (ex_load _ _ rfl _ (F.e rfl) _ (lrow85 y (M.at (i := 0) rfl))) ?_; clear F a; intro a F
   refine list_do (wn rfl) (fun K hK => ?_)
   have hE := hP.1 y u
   have hCc := hP.2 y u (cut_to hB S_ M.bel)
   generalize hargs : (#[.agg y.arr] ++ caps) = vs at hE hCc
   refine ow_call rfl rfl F f vs (by subst hargs; exact ex_callp f _ _ _ rfl caps (F.e rfl) #[.agg y.arr] (map1 (F.e rfl)) hE) hCc (fun e v hR => ?_)
   clear hE hCc hargs vs
   obtain ⟨he, hb⟩ := hR
   rw [hpy] at he
   refine ⟨.bool true, he, ?_⟩; clear he F a; intro a F
   refine hK _ _ ?_
   clear hK K
   replace S_ := Nat.le_trans S_ hb.size
   replace M := M.below hb; clear hb; try clear u
   refine list_val F (wn rfl) rfl rfl (.bool false) (ex_not _ _ rfl _ (F.e rfl) _ rfl) ?_; clear F a; intro a F
   refine wpList_nil ?_
   replace F : Fr 42 a [(0, .slice (some ⟨g9, 0, none⟩) xs.length c), (1, .func (.func f) #[] caps), (4, .slice none 0 0), (5, .int .i64 ((a0 : Nat) : Int)), (6, .int .i64 ((b0 : Nat) : Int)), (7, .pointer (some ⟨g7, 0, none⟩)), (12, .bool false), (19, .bool true), (29, .bool false)] := F.keep ⟨rfl, rfl, rfl, rfl, rfl, rfl, rfl, rfl, rfl, trivial⟩
   refine then_n ?_
   refine wp_cond_false (F.e rfl) ?_
   refine wp_skip ?_
   refine in_n ?_
   refine then_n ?_
   refine wp_region_lit ?_
   refine list_val F (wn rfl) rfl rfl (.int .i64 ((b0 : Nat) : Int)) (ex_move _ rfl _ (F.e rfl)) ?_; clear F a; intro a F
   refine list_val F (wn rfl) rfl rfl (.int .i64 ((b0 + 1 : Nat) : Int)) (ex_bin .add _ _ _ _ rfl .i64 _ _ (F.e rfl) rfl _ (b_add ((w_i64 (by omega) (by omega)).trans (by omega)))) ?_; clear F a; intro a F
   refine list_val F (wn rfl) rfl rfl (.int .i64 ((b0 + 1 : Nat) : Int)) (ex_assign _ rfl _ (F.e rfl)) ?_; clear F a; intro a F
   refine wpList_nil ?_
   replace F : Fr 42 a [(0, .slice (some ⟨g9, 0, none⟩) xs.length c), (1, .func (.func f) #[] caps), (4, .slice none 0 0), (5, .int .i64 ((a0 : Nat) : Int)), (6, .int .i64 ((b0 + 1 : Nat) : Int)), (7, .pointer (some ⟨g7, 0, none⟩)), (12, .bool false), (19, .bool true), (29, .bool false)] := F.keep ⟨rfl, rfl, rfl, rfl, rfl, rfl, rfl, rfl, rfl, trivial⟩
   refine then_n ?_
   exact ⟨xs.length - (r0 + 1), by omega, a0, (b0 + 1), ys, (r0 + 1), F.keep ⟨rfl, rfl, rfl, rfl, rfl, rfl, trivial⟩, (by refine M.pick' [1] _ ?_ (by decide); exact ⟨rfl, trivial⟩), S_, (hH.skip hy hpy), (by omega), (by omega)⟩
  rw [Bool.not_eq_true] at hpy
  refine wp_region_lit ?_
  refine list_val F (wn rfl) rfl rfl (.func (.func f) #[] caps) (ex_move _ rfl _ (F.e rfl)) ?_; clear F a; intro a F
  refine list_val F (wn rfl) rfl rfl (.agg y.arr) (ex_load _ _ rfl _ (F.e rfl) _ (lrow85 y (M.at (i := 0) rfl))) ?_; clear F a; intro a F
  refine list_do (wn rfl) (fun K hK => ?_)
  have hE := hP.1 y u
  have hCc := hP.2 y u (cut_to hB S_ M.bel)
  generalize hargs : (#[.agg y.arr] ++ caps) = vs at hE hCc
  refine ow_call rfl rfl F f vs (by subst hargs; exact ex_callp f _ _ _ rfl caps (F.e rfl) #[.agg y.arr] (map1 (F.e rfl)) hE) hCc (fun e v hR => ?_)
  clear hE hCc hargs vs
  obtain ⟨he, hb⟩ := hR
  rw [hpy] at he
  refine ⟨.bool false, he, ?_⟩; clear he F a; intro a F
  refine hK _ _ ?_
  clear hK K
  replace S_ := Nat.le_trans S_ hb.size
  replace M := M.below hb; clear hb; try clear u
  refine list_val F (wn rfl) rfl rfl (.bool true) (ex_not _ _ rfl _ (F.e rfl) _ rfl) ?_; clear F a; intro a F
  refine wpList_nil ?_
  replace F : Fr 42 a [(0, .slice (some ⟨g9, 0, none⟩) xs.length c), (1, .func (.func f) #[] caps), (4, .slice none 0 0), (5, .int .i64 ((a0 : Nat) : Int)), (6, .int .i64 ((b0 : Nat) : Int)), (7, .pointer (some ⟨g7, 0, none⟩)), (12, .bool false), (19, .bool true), (29, .bool true)] := F.keep ⟨rfl, rfl, rfl, rfl, rfl, rfl, rfl, rfl, rfl, trivial⟩
  refine then_n ?_
  refine wp_cond_true (F.e rfl) ?_
  refine wp_seq ?_
  refine wp_region_lit ?_
  refine list_val F (wn rfl) rfl rfl (.slice (some ⟨g9, 0, none⟩) xs.length c) (ex_move _ rfl _ (F.e rfl)) ?_; clear F a; intro a F
  refine list_val F (wn rfl) rfl rfl (.int .i64 ((a0 : Nat) : Int)) (ex_move _ rfl _ (F.e rfl)) ?_; clear F a; intro a F
  refine list_val F (wn rfl) rfl rfl (.agg y.arr) (ex_load _ _ rfl _ (F.e rfl) _ (lrow85 y (M.at (i := 0) rfl))) ?_; clear F a; intro a F
  refine list_val F (wn rfl) rfl rfl (.pointer (some ⟨g9, a0 * 19, none⟩)) (ex_ix _ _ _ rfl 19 r5_sl_57_19 ⟨g9, 0, none⟩ _ _ (F.e rfl) .i64 _ (F.e rfl) a0 rfl (by omega) ⟨g9, a0 * 19, none⟩ ((addr_add _ _ _).trans (by rw [Nat.zero_add]))) ?_; clear F a; intro a F
  refine list_do (wn rfl) (fun K hK => ?_)
  refine ow_store F M rfl 85 _ _ rfl 1 g9 (ys.flatMap Rv.cs ++ sp).toArray _ rfl (a0 * 19) (F.e rfl) (.agg y.arr) (F.e rfl) y.cs rfl (by rw [Rv.cs_len]; exact s85) (by rw [List.size_toArray, hszy]; simp only [Rv.cs_len]; omega) (Rv.cs_one y) ((ys.set a0 y).flatMap Rv.cs ++ sp).toArray (congrArg List.toArray (rows_set (o := 0) (vs := y.cs) Rv.cs_len hz0 (by rw [Rv.cs_len]; decide) (whole_set z0 y))) ?_
  clear F a; have Mo := M; clear M; intro a u F M hgr
  refine hK _ _ ?_
  clear hK K
  replace S_ := Nat.le_trans S_ hgr.size
  clear Mo hgr; try clear v
  replace M : Mm (cutW w Bs0) u [⟨g7, y.arr, 85⟩, ⟨g9, ((ys.set a0 y).flatMap Rv.cs ++ sp).toArray, 85⟩] := M
  refine wpList_nil ?_
  replace F : Fr 42 a [(0, .slice (some ⟨g9, 0, none⟩) xs.length c), (1, .func (.func f) #[] caps), (4, .slice none 0 0), (5, .int .i64 ((a0 : Nat) : Int)), (6, .int .i64 ((b0 : Nat) : Int)), (7, .pointer (some ⟨g7, 0, none⟩)), (12, .bool false), (19, .bool true), (29, .bool true)] := F.keep ⟨rfl, rfl, rfl, rfl, rfl, rfl, rfl, rfl, rfl, trivial⟩
  refine then_n ?_
  refine wp_region_lit ?_
  refine list_val F (wn rfl) rfl rfl (.int .i64 ((a0 : Nat) : Int)) (ex_move _ rfl _ (F.e rfl)) ?_; clear F a; intro a F
  refine list_val F (wn rfl) rfl rfl (.int .i64 ((a0 + 1 : Nat) : Int)) (ex_bin .add _ _ _ _ rfl .i64 _ _ (F.e rfl) rfl _ (b_add ((w_i64 (by omega) (by omega)).trans (by omega)))) ?_; clear F a; intro a F
  refine list_val F (wn rfl) rfl rfl (.int .i64 ((a0 + 1 : Nat) : Int)) (ex_assign _ rfl _ (F.e rfl)) ?_; clear F a; intro a F
  refine wpList_nil ?_
  replace F : Fr 42 a [(0, .slice (some ⟨g9, 0, none⟩) xs.length c), (1, .func (.func f) #[] caps), (4, .slice none 0 0), (5, .int .i64 ((a0 + 1 : Nat) : Int)), (6, .int .i64 ((b0 : Nat) : Int)), (7, .pointer (some ⟨g7, 0, none⟩)), (12, .bool false), (19, .bool true), (29, .bool true)] := F.keep ⟨rfl, rfl, rfl, rfl, rfl, rfl, rfl, rfl, rfl, trivial⟩
  refine in_n ?_
  refine then_n ?_
  refine wp_region_lit ?_
  refine list_val F (wn rfl) rfl rfl (.int .i64 ((b0 : Nat) : Int)) (ex_move _ rfl _ (F.e rfl)) ?_; clear F a; intro a F
  refine list_val F (wn rfl) rfl rfl (.int .i64 ((b0 + 1 : Nat) : Int)) (ex_bin .add _ _ _ _ rfl .i64 _ _ (F.e rfl) rfl _ (b_add ((w_i64 (by omega) (by omega)).trans (by omega)))) ?_; clear F a; intro a F
  refine list_val F (wn rfl) rfl rfl (.int .i64 ((b0 + 1 : Nat) : Int)) (ex_assign _ rfl _ (F.e rfl)) ?_; clear F a; intro a F
  refine wpList_nil ?_
  replace F : Fr 42 a [(0, .slice (some ⟨g9, 0, none⟩) xs.length c), (1, .func (.func f) #[] caps), (4, .slice none 0 0), (5, .int .i64 ((a0 + 1 : Nat) : Int)), (6, .int .i64 ((b0 + 1 : Nat) : Int)), (7, .pointer (some ⟨g7, 0, none⟩)), (12, .bool false), (19, .bool true), (29, .bool true)] := F.keep ⟨rfl, rfl, rfl, rfl, rfl, rfl, rfl, rfl, rfl, trivial⟩
  refine then_n ?_
  exact ⟨xs.length - (r0 + 1), by omega, (a0 + 1), (b0 + 1), (ys.set a0 y), (r0 + 1), F.keep ⟨rfl, rfl, rfl, rfl, rfl, rfl, trivial⟩, (by refine M.pick' [1] _ ?_ (by decide); exact ⟨rfl, trivial⟩), S_, (hH.keep hy hpy), (by omega), (by omega)⟩
 have hbe : b0 = xs.length := by omega
 subst hbe
 have hft := hH.front
 rw [List.take_length] at hft
 refine wp_seq ?_
 refine wp_seq ?_
 refine wp_region_lit ?_
 refine list_val F (wn rfl) rfl rfl (.int .i64 ((xs.length : Nat) : Int)) (ex_move _ rfl _ (F.e rfl)) ?_; clear F a; intro a F
 refine list_val F (wn rfl) rfl rfl (.slice (some ⟨g9, 0, none⟩) xs.length c) (ex_move _ rfl _ (F.e rfl)) ?_; clear F a; intro a F
 refine list_val F (wn rfl) rfl rfl (.int .i64 ((xs.length : Nat) : Int)) (ex_len _ _ rfl 19 r5_sl_57_19 _ _ _ (F.e rfl)) ?_; clear F a; intro a F
 refine list_val F (wn rfl) rfl rfl (.bool false) (ex_bin .lss _ _ _ _ rfl .i64 _ _ (F.e rfl) (F.e rfl) _ (b_lss (decide_eq_false (by omega)))) ?_; clear F a; intro a F
 refine wpList_nil ?_
 replace F : Fr 42 a [(0, .slice (some ⟨g9, 0, none⟩) xs.length c), (1, .func (.func f) #[] caps), (4, .slice none 0 0), (5, .int .i64 ((a0 : Nat) : Int)), (6, .int .i64 ((xs.length : Nat) : Int)), (12, .bool false), (19, .bool false)] := F.keep ⟨rfl, rfl, rfl, rfl, rfl, rfl, rfl, trivial⟩
 refine then_n ?_
 refine wp_cond_false (F.e rfl) ?_
 refine wp_exit ?_
 refine then_x ?_
 refine then_x ?_
 refine in_hit ?_
 refine then_n ?_
 refine wp_seq ?_
 refine wp_region_lit ?_
 refine list_val F (wn rfl) rfl rfl (.slice (some ⟨g9, 0, none⟩) xs.length c) (ex_move _ rfl _ (F.e rfl)) ?_; clear F a; intro a F
 refine list_val F (wn rfl) rfl rfl (.int .i64 ((a0 : Nat) : Int)) (ex_move _ rfl _ (F.e rfl)) ?_; clear F a; intro a F
 refine list_val F (wn rfl) rfl rfl (.slice (some ⟨g9, a0 * 19, none⟩) (xs.length - a0) (c - a0)) (ex_cutendB 57 85 19 Tryz.underlying57 s85 _ _ rfl g9 xs.length c (F.e rfl) _ (F.e rfl) a0 rfl (by omega) (by omega)) ?_; clear F a; intro a F
 refine list_do (wn rfl) (fun K hK => ?_)
 refine ow_clear F M Tryz.underlying57 i85 z85s (Rv.arr_one zRv) rfl _ rfl 0 g9 (a0 * 19) (xs.length - a0) (c - a0) (ys.flatMap Rv.cs ++ sp).toArray 85 rfl (F.e rfl) (by omega) (by rw [List.size_toArray, hszy]; omega) ?_
 clear F a; have Mo := M; clear M; intro a v Z F hZ M hgr
 refine hK _ _ ?_
 clear hK K
 replace S_ := Nat.le_trans S_ hgr.size
 clear Mo hgr; try clear u
 replace M : Mm (cutW w Bs0) v [⟨g9, ((ys.flatMap Rv.cs ++ sp).toArray.toList.take (a0 * 19) ++ Z ++ (ys.flatMap Rv.cs ++ sp).toArray.toList.drop (a0 * 19 + Z.length)).toArray, 85⟩] := M
 refine wpList_nil ?_
 replace F : Fr 42 a [(0, .slice (some ⟨g9, 0, none⟩) xs.length c), (1, .func (.func f) #[] caps), (4, .slice none 0 0), (5, .int .i64 ((a0 : Nat) : Int)), (6, .int .i64 ((xs.length : Nat) : Int)), (12, .bool false), (19, .bool false)] := F.keep ⟨rfl, rfl, rfl, rfl, rfl, rfl, rfl, trivial⟩
 refine then_n ?_
 refine wp_seq ?_
 refine wp_region_lit ?_
 refine list_val F (wn rfl) rfl rfl (.slice (some ⟨g9, 0, none⟩) xs.length c) (ex_move _ rfl _ (F.e rfl)) ?_; clear F a; intro a F
 refine list_val F (wn rfl) rfl rfl (.int .i64 ((a0 : Nat) : Int)) (ex_move _ rfl _ (F.e rfl)) ?_; clear F a; intro a F
 refine list_val F (wn rfl) rfl rfl (.slice (some ⟨g9, 0, none⟩) a0 c) (ex_cutto 57 85 19 Tryz.underlying57 s85 _ _ rfl (some ⟨g9, 0, none⟩) xs.length c (F.e rfl) _ (F.e rfl) a0 rfl (by omega)) ?_; clear F a; intro a F
 refine list_val F (wn rfl) rfl rfl (.slice (some ⟨g9, 0, none⟩) a0 c) (ex_assign _ rfl _ (F.e rfl)) ?_; clear F a; intro a F
 refine wpList_nil ?_
 replace F : Fr 42 a [(0, .slice (some ⟨g9, 0, none⟩) xs.length c), (1, .func (.func f) #[] caps), (4, .slice (some ⟨g9, 0, none⟩) a0 c), (5, .int .i64 ((a0 : Nat) : Int)), (6, .int .i64 ((xs.length : Nat) : Int)), (12, .bool false), (19, .bool false)] := F.keep ⟨rfl, rfl, rfl, rfl, rfl, rfl, rfl, trivial⟩
 refine then_n ?_
 refine wp_ret ?_
 rw [← hft]
 have htl : (ys.take a0).length = a0 := by rw [List.length_take]; omega
 exact ret_tmp F rfl rfl ⟨_, _, by rw [htl], by rw [htl]; exact hcs ▸ Ow.of_block (enc := Rv.cs) (m := 19) (sp := Z ++ (ys.flatMap Rv.cs ++ sp).toArray.toList.drop (a0 * 19 + Z.length)) (by rw [← take_flat (by omega), ← List.append_assoc]; have h2 := M.blk 0 _ rfl; rw [List.toList_toArray, List.take_append_of_le_length (by rw [flat_len]; omega)] at h2; exact h2) (M.lo 0 _ rfl) htl.symm (by omega) hcm9 (by simp only [List.length_append, flat_len, List.toList_toArray, List.length_drop, htl, hZ] at hszy ⊢; omega), cut_to hB S_ M.bel⟩
theorem r5_ent_17 : ent? Tryz.prog 17 = true := by kernel_rfl
theorem r5_ent_38 : ent? Tryz.prog 38 = true := by kernel_rfl
theorem r5_ent_42 : ent? Tryz.prog 42 = true := by kernel_rfl
set_option maxHeartbeats 1000000 in
set_option maxRecDepth 100000 in
theorem prune_any (xs : List Rv) (h : IsL xs) (A : Option Addr) (c : Nat) (ep : Int) (w : World) (hr : kRv.C w A xs.length xs) (hc : xs.length ≤ c) (hmx : xs.length ≤ 1000000) :
    Calls Tryz.prog 26 #[.slice A xs.length c, .int .i64 ep] w fun r w' => ∃ A' c', r = .returned (.slice A' (pruneF xs ep).length c') ∧ Ow kRv 85 w' w.heap.size (.slice A' (pruneF xs ep).length c') (pruneF xs ep) ∧ Below w.heap.size w w' := by
 refine calls_start Tryz.func26 rfl rfl rfl (fun a F => ?_)
 have M : Mm w w [] := Mm.nil w
 refine wp_seq ?_
 refine wp_region_lit ?_
 refine list_do (wn rfl) (fun K hK => ?_)
 refine ow_box F M rfl rfl 2 _ rfl _ (F.e rfl) #[.int .i64 ep] rfl ?_
 clear F M a; intro a g3 v F M hb hg
 refine hK _ _ ?_
 clear hK K
 clear hb hg; try clear w
 refine list_val F (wn rfl) rfl rfl (.slice none 0 0) (ex_assign _ rfl _ rfl) ?_; clear F a; intro a F
 refine wpList_nil ?_
 replace F : Fr 12 a [(0, .slice A xs.length c), (1, .int .i64 ep), (3, .pointer (some ⟨g3, 0, none⟩)), (4, .slice none 0 0)] := F.keep ⟨rfl, rfl, rfl, rfl, trivial⟩
 refine then_n ?_
 refine wp_seq ?_
 refine wp_seq ?_
 refine wp_region_lit ?_
 refine list_val F (wn rfl) rfl rfl (.slice A xs.length c) (ex_move _ rfl _ (F.e rfl)) ?_; clear F a; intro a F
 refine list_do (wn rfl) (fun K hK => ?_)
 refine ow_call rfl rfl F 17 #[.slice A xs.length c] (ex_call 17 _ _ rfl rfl r5_ent_17 _ (map1 (F.e rfl))) (check_any xs h A c _ ((Kd.C_below hr M.bel)) (by omega)) (fun e u hR => ?_)
 obtain ⟨he, hb⟩ := hR
 refine ⟨.int .i64 0, he, ?_⟩; clear he F a; intro a F
 refine hK _ _ ?_
 clear hK K
 replace M := M.below hb; clear hb; try clear v
 refine list_val F (wn rfl) rfl rfl (.bool false) (ex_bin .neq _ _ _ _ rfl .i64 _ _ (F.e rfl) rfl _ (b_neq (by decide))) ?_; clear F a; intro a F
 refine wpList_nil ?_
 replace F : Fr 12 a [(0, .slice A xs.length c), (1, .int .i64 ep), (3, .pointer (some ⟨g3, 0, none⟩)), (4, .slice none 0 0), (7, .bool false)] := F.keep ⟨rfl, rfl, rfl, rfl, rfl, trivial⟩
 refine then_n ?_
 refine wp_cond_false (F.e rfl) ?_
 refine wp_skip ?_
 refine then_n ?_
 refine wp_seq ?_
 refine wp_region_lit ?_
 refine list_val F (wn rfl) rfl rfl (.slice A xs.length c) (ex_move _ rfl _ (F.e rfl)) ?_; clear F a; intro a F
 refine list_do (wn rfl) (fun K hK => ?_)
 refine ow_call rfl rfl F 38 #[.slice A xs.length c] (ex_call 38 _ _ rfl rfl r5_ent_38 _ (map1 (F.e rfl))) (clone_any xs _ _ _ _ ((Kd.C_below hr M.bel)) (by omega)) (fun e v hR => ?_)
 obtain ⟨A_9, c_9, he, O_x, hb⟩ := hR
 obtain ⟨bs, hbs⟩ : ∃ bs, bs = u.heap.size := ⟨_, rfl⟩
 rw [← hbs] at O_x
 have hgb : g3 < bs := by rw [hbs]; exact M.lt (i := 0) rfl
 have hbs2 : bs ≤ v.heap.size := by rw [hbs]; exact hb.size
 have hwb : w.heap.size ≤ bs := by rw [hbs]; exact M.bel.size
 clear hbs
 refine ⟨.slice A_9 xs.length c_9, he, ?_⟩; clear he F a; intro a F
 refine hK _ _ ?_
 clear hK K
 replace M := M.below hb; clear hb; try clear u
 refine list_val F (wn rfl) rfl rfl (.func (.func 43) #[] #[.pointer (some ⟨g3, 0, none⟩)]) (ex_makeFunc _ _ _ rfl _ (by rw [map1 (F.e rfl), map0])) ?_; clear F a; intro a F
 refine list_do (wn rfl) (fun K hK => ?_)
 refine ow_call rfl rfl F 42 #[.slice A_9 xs.length c_9, .func (.func 43) #[] #[.pointer (some ⟨g3, 0, none⟩)]] (ex_call 42 _ _ rfl rfl r5_ent_42 _ (map2 (F.e rfl) (F.e rfl))) (delete_any (fun x => decide (x.exp ≤ ep)) 43 _ xs _ _ bs _ O_x hbs2 (paysB_old hgb (M.at (i := 0) rfl)) hmx) (fun e u hR => ?_)
 obtain ⟨A_11, c_11, he, O_y, hbel⟩ := hR
 refine ⟨.slice A_11 ((pruneF xs ep).length) c_11, he, ?_⟩; clear he F a; intro a F
 refine hK _ _ ?_
 clear hK K
 replace M : Mm w u [] := mm_of_bel (M.bel.trans (hbel.mono hwb)); clear hbel O_x hbs2; try clear v
 refine list_val F (wn rfl) rfl rfl (.slice A_11 ((pruneF xs ep).length) c_11) (ex_assign _ rfl _ (F.e rfl)) ?_; clear F a; intro a F
 refine wpList_nil ?_
 replace F : Fr 12 a [(0, .slice A xs.length c), (1, .int .i64 ep), (3, .pointer (some ⟨g3, 0, none⟩)), (4, .slice A_11 ((pruneF xs ep).length) c_11), (7, .bool false)] := F.keep ⟨rfl, rfl, rfl, rfl, rfl, trivial⟩
 refine then_n ?_
 refine wp_ret ?_
 exact ret_tmp F rfl rfl ⟨_, _, rfl, O_y.low hwb, M.bel⟩
end Go.Proofs.YtnjbjjmoglogeaaGreat
