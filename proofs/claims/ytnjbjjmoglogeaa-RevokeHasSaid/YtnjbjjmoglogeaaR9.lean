/- What the law RevokeHas knows: covers (13), added (7), killed (9). Conditions: the rows are read; the row of 'added' is one's own. -/
import Derived.Test.YtnjbjjmoglogeaaP3
import Derived.Test.YtnjbjjmoglogeaaR8
namespace Go.Proofs.Ytnjbjjmoglogeaa
open Go.RowKit Go.Proofs.YtnjbjjmoglogeaaW.PrintWords KB WG RO
set_option linter.unusedVariables false
set_option linter.unusedSimpArgs false
set_option linter.unnecessarySimpa false
theorem i35 : (Try.prog.info? 35).map (fun i => (i.zero, i.size, i.bytes)) = some (some (.agg zRv.arr), 19, 40) := by kernel_rfl
theorem M_and {w0 w : World} {H : List Blk} (M : Mm w0 w H) {g : Nat} {cs : Array Value} {t : TypeId} (hg : w0.heap.size ≤ g) (hh : w.heap[g]? = some (.cells cs t (0, 0))) (hne : ∀ b ∈ H, b.t ≠ t) : Mm w0 w (⟨g, cs, t⟩ :: H) where
  bel := M.bel
  blk := fun i b h => by
    match i, h with
    | 0, h => obtain rfl := Option.some.inj h; exact hh
    | i + 1, h => exact M.blk i b (by simpa using h)
  lo := fun i b h => by
    match i, h with
    | 0, h => obtain rfl := Option.some.inj h; exact hg
    | i + 1, h => exact M.lo i b (by simpa using h)
  nd := fun i j b c hi hj e => by
    have key : ∀ (i : Nat) (b : Blk), H[i]? = some b → g ≠ b.g := fun i b h e => by
      have h1 := M.blk i b h
      rw [← e, hh] at h1
      injection h1 with h1
      injection h1 with _ h1
      exact hne b (List.mem_of_getElem? h) h1.symm
    match i, j, hi, hj with
    | 0, 0, _, _ => rfl
    | 0, j + 1, hi, hj => obtain rfl := Option.some.inj hi; exact absurd e (key j c (by simpa using hj))
    | i + 1, 0, hi, hj => obtain rfl := Option.some.inj hj; exact absurd e.symm (key i b (by simpa using hi))
    | i + 1, j + 1, hi, hj => rw [M.nd i j b c (by simpa using hi) (by simpa using hj) e]
theorem gw_below {w w1 w2 : World} {r : Option Nat} (h : w.grownBy w1 r) (hb : Below w1.heap.size w1 w2) : w.grownBy w2 r :=
  ⟨hb.os.trans h.os, hb.tape.trans h.tape, hb.output.trans h.output, Nat.le_trans h.size hb.size, fun k hk hne => (hb.block k (Nat.lt_of_lt_of_le hk h.size)).trans (h.block k hk hne)⟩
theorem gw_same {w w1 w2 : World} {r : Option Nat} (h : w.grownBy w1 r) (h2 : w1.grownBy w2 r) : w.grownBy w2 r :=
  ⟨h2.os.trans h.os, h2.tape.trans h.tape, h2.output.trans h.output, Nat.le_trans h.size h2.size, fun k hk hne => (h2.block k (Nat.lt_of_lt_of_le hk h.size) hne).trans (h.block k hk hne)⟩
theorem gw_refl (w : World) (r : Option Nat) : w.grownBy w r := ⟨rfl, rfl, rfl, Nat.le_refl _, fun _ _ _ => rfl⟩
theorem own_other {α β : Type} {enc : α → List Value} {m : Nat} {hl : ∀ x, (enc x).length = m} {h1 : ∀ x, ∀ u ∈ enc x, u.oneCell' = true} {enc' : β → List Value} {m' : Nat} {hl' : ∀ x, (enc' x).length = m'} {h1' : ∀ x, ∀ u ∈ enc' x, u.oneCell' = true} {e e' : TypeId} {w : World} {b b' : Nat} {v u : Value} {xs : List α} {ys : List β}
    (h : Ow (kBlk enc m hl h1) e w b v xs) (h2 : Ow (kBlk enc' m' hl' h1') e' w b' u ys) (hne : e ≠ e') : ∀ k, v.ownBlock = some k → some k ≠ u.ownBlock := fun k hk e1 => by
  obtain ⟨_, _, c, hc⟩ := h.bound hk
  obtain ⟨_, _, d, hd⟩ := h2.bound e1.symm
  rw [hc] at hd
  injection hd with hd
  injection hd with _ hd
  exact hne hd
theorem cov_eq {g : Int} {id : Bs 16} {x : Rv} (h1 : x.grant = g) (h2 : x.whole = false) : cov g id x = decide (x.id = id) := by
  unfold cov
  rw [h2, Bool.false_or, show (x.grant == g) = true by simpa using h1, Bool.true_and]
theorem cov_oth {g : Int} {id : Bs 16} {x : Rv} (h1 : ¬ x.grant = g) : cov g id x = false := by
  unfold cov
  rw [show (x.grant == g) = false by simpa using h1, Bool.false_and]
theorem cov_whole {g : Int} {id : Bs 16} {x : Rv} (h1 : x.grant = g) (h2 : x.whole = true) : cov g id x = true := by
  unfold cov
  rw [h2, Bool.true_or, show (x.grant == g) = true by simpa using h1, Bool.true_and]
theorem zero35 : ∀ w, (zeroValue 35).run Try.prog w = .ok (.agg zRv.arr) w := fun _ => by kernel_rfl
theorem row35 : row? Try.prog 35 19 = true := by kernel_rfl
theorem lrow35 (x : Rv) {w : World} {p : Addr} (h : At w p x.cs) : (loadVar 35 p).run Try.prog w = .ok (.agg x.arr) w := lvr (by rw [Rv.cs_len]; exact row35) h
theorem sz35 (x : Rv) : (Try.prog.info? 35).map (·.size) = some x.arr.size := by rw [Rv.arr_size]; exact sz_row row35
theorem build35_0123x (whole : Bool) (grant : Int) (exp : Int) (id0 id1 id2 id3 id4 id5 id6 id7 id8 id9 id10 id11 id12 id13 id14 id15 : BitVec 8) (w : World) : (Instr.build 35 #[(0, .bool whole), (1, .int .u64 grant), (2, .agg #[.int .u8 (id0.toNat : Int), .int .u8 (id1.toNat : Int), .int .u8 (id2.toNat : Int), .int .u8 (id3.toNat : Int), .int .u8 (id4.toNat : Int), .int .u8 (id5.toNat : Int), .int .u8 (id6.toNat : Int), .int .u8 (id7.toNat : Int), .int .u8 (id8.toNat : Int), .int .u8 (id9.toNat : Int), .int .u8 (id10.toNat : Int), .int .u8 (id11.toNat : Int), .int .u8 (id12.toNat : Int), .int .u8 (id13.toNat : Int), .int .u8 (id14.toNat : Int), .int .u8 (id15.toNat : Int)]), (3, .int .i64 exp)]).run Try.prog w = .ok (.agg #[.bool whole, .int .u64 grant, .int .u8 (id0.toNat : Int), .int .u8 (id1.toNat : Int), .int .u8 (id2.toNat : Int), .int .u8 (id3.toNat : Int), .int .u8 (id4.toNat : Int), .int .u8 (id5.toNat : Int), .int .u8 (id6.toNat : Int), .int .u8 (id7.toNat : Int), .int .u8 (id8.toNat : Int), .int .u8 (id9.toNat : Int), .int .u8 (id10.toNat : Int), .int .u8 (id11.toNat : Int), .int .u8 (id12.toNat : Int), .int .u8 (id13.toNat : Int), .int .u8 (id14.toNat : Int), .int .u8 (id15.toNat : Int), .int .i64 exp]) w := by kernel_rfl
theorem build35_0123 (whole : Bool) (grant : Int) (id : Bs 16) (exp : Int) (w : World) : (Instr.build 35 #[(0, .bool whole), (1, .int .u64 grant), (2, .agg id.cs.toArray), (3, .int .i64 exp)]).run Try.prog w = .ok (.agg (⟨whole, grant, id, exp⟩ : Rv).arr) w := by
  obtain ⟨lid, hid⟩ := id
  match lid, hid with
  | [id0, id1, id2, id3, id4, id5, id6, id7, id8, id9, id10, id11, id12, id13, id14, id15], _ => exact build35_0123x whole grant exp id0 id1 id2 id3 id4 id5 id6 id7 id8 id9 id10 id11 id12 id13 id14 id15 w
theorem newrow35x (whole : Bool) (grant : Int) (exp : Int) (id0 id1 id2 id3 id4 id5 id6 id7 id8 id9 id10 id11 id12 id13 id14 id15 : BitVec 8) (w : World) : (Instr.buildSlice 24 1 #[(0, .agg #[.bool whole, .int .u64 grant, .int .u8 (id0.toNat : Int), .int .u8 (id1.toNat : Int), .int .u8 (id2.toNat : Int), .int .u8 (id3.toNat : Int), .int .u8 (id4.toNat : Int), .int .u8 (id5.toNat : Int), .int .u8 (id6.toNat : Int), .int .u8 (id7.toNat : Int), .int .u8 (id8.toNat : Int), .int .u8 (id9.toNat : Int), .int .u8 (id10.toNat : Int), .int .u8 (id11.toNat : Int), .int .u8 (id12.toNat : Int), .int .u8 (id13.toNat : Int), .int .u8 (id14.toNat : Int), .int .u8 (id15.toNat : Int), .int .i64 exp])]).run Try.prog w = .ok (.slice (some ⟨w.heap.size, 0, none⟩) 1 1) (w.alloc (.cells #[.bool whole, .int .u64 grant, .int .u8 (id0.toNat : Int), .int .u8 (id1.toNat : Int), .int .u8 (id2.toNat : Int), .int .u8 (id3.toNat : Int), .int .u8 (id4.toNat : Int), .int .u8 (id5.toNat : Int), .int .u8 (id6.toNat : Int), .int .u8 (id7.toNat : Int), .int .u8 (id8.toNat : Int), .int .u8 (id9.toNat : Int), .int .u8 (id10.toNat : Int), .int .u8 (id11.toNat : Int), .int .u8 (id12.toNat : Int), .int .u8 (id13.toNat : Int), .int .u8 (id14.toNat : Int), .int .u8 (id15.toNat : Int), .int .i64 exp] 35)) := by kernel_rfl
theorem newrow35 (x : Rv) (w : World) : (Instr.buildSlice 24 1 #[(0, .agg x.arr)]).run Try.prog w = .ok (.slice (some ⟨w.heap.size, 0, none⟩) 1 1) (w.alloc (.cells x.arr 35)) := by
  obtain ⟨whole, grant, ⟨lid, hid⟩, exp⟩ := x
  match lid, hid with
  | [id0, id1, id2, id3, id4, id5, id6, id7, id8, id9, id10, id11, id12, id13, id14, id15], _ => exact newrow35x whole grant exp id0 id1 id2 id3 id4 id5 id6 id7 id8 id9 id10 id11 id12 id13 id14 id15 w
theorem r9_fa_35_1_1 : fa? Try.prog 35 1 1 = true := by kernel_rfl
theorem r9_one_25 : one? Try.prog 25 = true := by kernel_rfl
theorem r9_fa_35_0_0 : fa? Try.prog 35 0 0 = true := by kernel_rfl
theorem r9_one_4 : one? Try.prog 4 = true := by kernel_rfl
theorem r9_fa_35_2_2 : fa? Try.prog 35 2 2 = true := by kernel_rfl
set_option maxHeartbeats 1000000 in
set_option maxRecDepth 100000 in
theorem covers_any (x : Rv) (g : Int) (id : Bs 16) (w : World) : Calls Try.prog 13 #[.agg x.arr, .int .u64 g, .agg id.cs.toArray] w fun e w' => e = .returned (.bool (cov g id x)) ∧ Below w.heap.size w w' := by
 refine calls_start Try.func13 rfl rfl rfl (fun a F => ?_)
 have M : Mm w w [] := Mm.nil w
 refine wp_seq ?_
 refine wp_region_lit ?_
 refine list_do (wn rfl) (fun K hK => ?_)
 refine ow_box F M rfl rfl 35 _ rfl _ (F.e rfl) x.arr rfl ?_
 clear F M a; intro a g3 v F M hb hg
 refine hK _ _ ?_
 clear hK K
 clear hb hg; try clear w
 refine list_do (wn rfl) (fun K hK => ?_)
 refine ow_box F M rfl rfl 27 _ rfl _ (F.e rfl) id.cs.toArray rfl ?_
 clear F M a; intro a g5 u F M hb hg
 refine hK _ _ ?_
 clear hK K
 clear hb hg; try clear v
 refine list_val F (wn rfl) rfl rfl (.bool false) (ex_assign _ rfl _ rfl) ?_; clear F a; intro a F
 refine wpList_nil ?_
 replace F : Fr 21 a [(0, .agg x.arr), (1, .int .u64 g), (2, .agg id.cs.toArray), (3, .pointer (some ⟨g3, 0, none⟩)), (5, .pointer (some ⟨g5, 0, none⟩)), (6, .bool false)] := F.keep ⟨rfl, rfl, rfl, rfl, rfl, rfl, trivial⟩
 refine then_n ?_
 refine wp_seq ?_
 by_cases hg : x.grant = g
 ·
  by_cases hw : x.whole = true
  ·
   refine wp_region_lit ?_
   refine list_val F (wn rfl) rfl rfl (.pointer (some ⟨g3, 1, none⟩)) (ex_fa _ _ _ rfl _ (F.e rfl) 1 r9_fa_35_1_1 ⟨g3, 1, none⟩ rfl) ?_; clear F a; intro a F
   refine list_val F (wn rfl) rfl rfl (.int .u64 x.grant) (ex_load _ _ rfl _ (F.e rfl) _ (lv1 r9_one_25 (M.cell (i := 1) rfl (j := 1) (Rv.arr_1 _)))) ?_; clear F a; intro a F
   refine list_val F (wn rfl) rfl rfl (.int .u64 g) (ex_move _ rfl _ (F.e rfl)) ?_; clear F a; intro a F
   refine list_val F (wn rfl) rfl rfl (.bool true) (ex_bin .eql _ _ _ _ rfl .u64 _ _ (F.e rfl) (F.e rfl) _ (b_eql (by simp [hg]))) ?_; clear F a; intro a F
   refine list_val F (wn rfl) rfl rfl (.bool true) (ex_move _ rfl _ (F.e rfl)) ?_; clear F a; intro a F
   refine list_val F (F.wants 11 true rfl (by kernel_rfl) rfl true rfl) rfl rfl (.pointer (some ⟨g3, 0, none⟩)) (ex_fa _ _ _ rfl _ (F.e rfl) 0 r9_fa_35_0_0 ⟨g3, 0, none⟩ rfl) ?_; clear F a; intro a F
   refine list_val F (F.wants 11 true rfl (by kernel_rfl) rfl true rfl) rfl rfl (.bool true) (ex_load _ _ rfl _ (F.e rfl) _ (lv1 r9_one_4 (M.cell (i := 1) rfl (j := 0) (Rv.arr_0e hw)))) ?_; clear F a; intro a F
   refine list_val F (F.wants 11 true rfl (by kernel_rfl) rfl true rfl) rfl rfl (.bool true) (ex_move _ rfl _ (F.e rfl)) ?_; clear F a; intro a F
   refine list_skip F (F.wants 14 true rfl (by kernel_rfl) rfl false rfl) rfl rfl ?_; clear F a; intro a F
   refine list_skip F (F.wants 14 true rfl (by kernel_rfl) rfl false rfl) rfl rfl ?_; clear F a; intro a F
   refine list_skip F (F.wants 14 true rfl (by kernel_rfl) rfl false rfl) rfl rfl ?_; clear F a; intro a F
   refine list_skip F (F.wants 14 true rfl (by kernel_rfl) rfl false rfl) rfl rfl ?_; clear F a; intro a F
   refine list_val F (F.wants 11 true rfl (by kernel_rfl) rfl true rfl) rfl rfl (.bool true) (ex_pick_t _ _ _ rfl (F.e rfl) _ rfl) ?_; clear F a; intro a F
   refine list_val F (wn rfl) rfl rfl (.bool true) (ex_pick_t _ _ _ rfl (F.e rfl) _ (F.e rfl)) ?_; clear F a; intro a F
   refine list_val F (wn rfl) rfl rfl (.bool true) (ex_assign _ rfl _ (F.e rfl)) ?_; clear F a; intro a F
   refine wpList_nil ?_
   replace F : Fr 21 a [(0, .agg x.arr), (1, .int .u64 g), (2, .agg id.cs.toArray), (3, .pointer (some ⟨g3, 0, none⟩)), (5, .pointer (some ⟨g5, 0, none⟩)), (6, .bool true)] := F.keep ⟨rfl, rfl, rfl, rfl, rfl, rfl, trivial⟩
   refine then_n ?_
   refine wp_ret ?_
   exact ret_tmp F rfl rfl ⟨by rw [cov_whole hg hw], M.bel⟩
  refine wp_region_lit ?_
  refine list_val F (wn rfl) rfl rfl (.pointer (some ⟨g3, 1, none⟩)) (ex_fa _ _ _ rfl _ (F.e rfl) 1 r9_fa_35_1_1 ⟨g3, 1, none⟩ rfl) ?_; clear F a; intro a F
  refine list_val F (wn rfl) rfl rfl (.int .u64 x.grant) (ex_load _ _ rfl _ (F.e rfl) _ (lv1 r9_one_25 (M.cell (i := 1) rfl (j := 1) (Rv.arr_1 _)))) ?_; clear F a; intro a F
  refine list_val F (wn rfl) rfl rfl (.int .u64 g) (ex_move _ rfl _ (F.e rfl)) ?_; clear F a; intro a F
  refine list_val F (wn rfl) rfl rfl (.bool true) (ex_bin .eql _ _ _ _ rfl .u64 _ _ (F.e rfl) (F.e rfl) _ (b_eql (by simp [hg]))) ?_; clear F a; intro a F
  refine list_val F (wn rfl) rfl rfl (.bool true) (ex_move _ rfl _ (F.e rfl)) ?_; clear F a; intro a F
  refine list_val F (F.wants 11 true rfl (by kernel_rfl) rfl true rfl) rfl rfl (.pointer (some ⟨g3, 0, none⟩)) (ex_fa _ _ _ rfl _ (F.e rfl) 0 r9_fa_35_0_0 ⟨g3, 0, none⟩ rfl) ?_; clear F a; intro a F
  refine list_val F (F.wants 11 true rfl (by kernel_rfl) rfl true rfl) rfl rfl (.bool false) (ex_load _ _ rfl _ (F.e rfl) _ (lv1 r9_one_4 (M.cell (i := 1) rfl (j := 0) (Rv.arr_0e (Bool.eq_false_iff.2 hw))))) ?_; clear F a; intro a F
  refine list_val F (F.wants 11 true rfl (by kernel_rfl) rfl true rfl) rfl rfl (.bool false) (ex_move _ rfl _ (F.e rfl)) ?_; clear F a; intro a F
  refine list_val F (F.wants 14 false rfl (by kernel_rfl) rfl true rfl) rfl rfl (.pointer (some ⟨g3, 2, none⟩)) (ex_fa _ _ _ rfl _ (F.e rfl) 2 r9_fa_35_2_2 ⟨g3, 2, none⟩ rfl) ?_; clear F a; intro a F
  refine list_val F (F.wants 14 false rfl (by kernel_rfl) rfl true rfl) rfl rfl (.agg x.id.cs.toArray) (ex_load _ _ rfl _ (F.e rfl) _ (lrow27 x.id (Rv.id_at (M.at (i := 1) rfl)))) ?_; clear F a; intro a F
  refine list_val F (F.wants 14 false rfl (by kernel_rfl) rfl true rfl) rfl rfl (.agg id.cs.toArray) (ex_load _ _ rfl _ (F.e rfl) _ (lrow27 id (M.at (i := 0) rfl))) ?_; clear F a; intro a F
  refine list_val F (F.wants 14 false rfl (by kernel_rfl) rfl true rfl) rfl rfl (.bool (decide (x.id = id))) (ex_eq27 _ _ _ rfl x.id id (F.e rfl) (F.e rfl) (decide (x.id = id)) rfl) ?_; clear F a; intro a F
  refine list_val F (F.wants 11 true rfl (by kernel_rfl) rfl true rfl) rfl rfl (.bool (decide (x.id = id))) (ex_pick_f _ _ _ rfl (F.e rfl) _ (F.e rfl)) ?_; clear F a; intro a F
  refine list_val F (wn rfl) rfl rfl (.bool (decide (x.id = id))) (ex_pick_t _ _ _ rfl (F.e rfl) _ (F.e rfl)) ?_; clear F a; intro a F
  refine list_val F (wn rfl) rfl rfl (.bool (decide (x.id = id))) (ex_assign _ rfl _ (F.e rfl)) ?_; clear F a; intro a F
  refine wpList_nil ?_
  replace F : Fr 21 a [(0, .agg x.arr), (1, .int .u64 g), (2, .agg id.cs.toArray), (3, .pointer (some ⟨g3, 0, none⟩)), (5, .pointer (some ⟨g5, 0, none⟩)), (6, .bool (decide (x.id = id)))] := F.keep ⟨rfl, rfl, rfl, rfl, rfl, rfl, trivial⟩
  refine then_n ?_
  refine wp_ret ?_
  exact ret_tmp F rfl rfl ⟨by rw [cov_eq hg (Bool.eq_false_iff.2 hw)], M.bel⟩
 refine wp_region_lit ?_
 refine list_val F (wn rfl) rfl rfl (.pointer (some ⟨g3, 1, none⟩)) (ex_fa _ _ _ rfl _ (F.e rfl) 1 r9_fa_35_1_1 ⟨g3, 1, none⟩ rfl) ?_; clear F a; intro a F
 refine list_val F (wn rfl) rfl rfl (.int .u64 x.grant) (ex_load _ _ rfl _ (F.e rfl) _ (lv1 r9_one_25 (M.cell (i := 1) rfl (j := 1) (Rv.arr_1 _)))) ?_; clear F a; intro a F
 refine list_val F (wn rfl) rfl rfl (.int .u64 g) (ex_move _ rfl _ (F.e rfl)) ?_; clear F a; intro a F
 refine list_val F (wn rfl) rfl rfl (.bool false) (ex_bin .eql _ _ _ _ rfl .u64 _ _ (F.e rfl) (F.e rfl) _ (b_eql (by simp [hg]))) ?_; clear F a; intro a F
 refine list_val F (wn rfl) rfl rfl (.bool false) (ex_move _ rfl _ (F.e rfl)) ?_; clear F a; intro a F
 refine list_skip F (F.wants 11 false rfl (by kernel_rfl) rfl false rfl) rfl rfl ?_; clear F a; intro a F
 refine list_skip F (F.wants 11 false rfl (by kernel_rfl) rfl false rfl) rfl rfl ?_; clear F a; intro a F
 refine list_skip F (F.wants 11 false rfl (by kernel_rfl) rfl false rfl) rfl rfl ?_; clear F a; intro a F
 refine list_skip F (F.wants0 14 rfl (by kernel_rfl) rfl) rfl rfl ?_; clear F a; intro a F
 refine list_skip F (F.wants0 14 rfl (by kernel_rfl) rfl) rfl rfl ?_; clear F a; intro a F
 refine list_skip F (F.wants0 14 rfl (by kernel_rfl) rfl) rfl rfl ?_; clear F a; intro a F
 refine list_skip F (F.wants0 14 rfl (by kernel_rfl) rfl) rfl rfl ?_; clear F a; intro a F
 refine list_skip F (F.wants 11 false rfl (by kernel_rfl) rfl false rfl) rfl rfl ?_; clear F a; intro a F
 refine list_val F (wn rfl) rfl rfl (.bool false) (ex_pick_f _ _ _ rfl (F.e rfl) _ rfl) ?_; clear F a; intro a F
 refine list_val F (wn rfl) rfl rfl (.bool false) (ex_assign _ rfl _ (F.e rfl)) ?_; clear F a; intro a F
 refine wpList_nil ?_
 replace F : Fr 21 a [(0, .agg x.arr), (1, .int .u64 g), (2, .agg id.cs.toArray), (3, .pointer (some ⟨g3, 0, none⟩)), (5, .pointer (some ⟨g5, 0, none⟩)), (6, .bool false)] := F.keep ⟨rfl, rfl, rfl, rfl, rfl, rfl, trivial⟩
 refine then_n ?_
 refine wp_ret ?_
 exact ret_tmp F rfl rfl ⟨by rw [cov_oth hg], M.bel⟩
theorem r9_sl_24_19 : sl? Try.prog 24 19 = true := by kernel_rfl
theorem r9_follows_mixedOrders : Try.prog.follows .mixedOrders = true := by kernel_rfl
theorem r9_fa_29_1_1 : fa? Try.prog 29 1 1 = true := by kernel_rfl
theorem r9_fa_29_2_2 : fa? Try.prog 29 2 2 = true := by kernel_rfl
theorem r9_ent_13 : ent? Try.prog 13 = true := by kernel_rfl
theorem r9_fa_29_3_18 : fa? Try.prog 29 3 18 = true := by kernel_rfl
theorem r9_one_2 : one? Try.prog 2 = true := by kernel_rfl
theorem r9_fa_35_3_18 : fa? Try.prog 35 3 18 = true := by kernel_rfl
theorem r9_info_2_map_size_some_1 : (Try.prog.info? 2).map (·.size) = some 1 := by kernel_rfl
set_option maxHeartbeats 1000000 in
set_option maxRecDepth 100000 in
theorem added_any (xs : List Rv) (A : Option Addr) (c Bs0 : Nat) (o : St) (w : World) (hO : Ow kRv 35 w Bs0 (.slice A xs.length c) xs) (hB : Bs0 ≤ w.heap.size) (hmx : xs.length ≤ 1000000) :
    Calls Try.prog 7 #[.slice A xs.length c, .agg o.arr] w fun r w' => ∃ A' c', r = .returned (.slice A' (addA xs o.grant o.id o.exp).length c') ∧ Ow kRv 35 w' Bs0 (.slice A' (addA xs o.grant o.id o.exp).length c') (addA xs o.grant o.id o.exp) ∧ w.grownBy w' (Value.slice A xs.length c).ownBlock := by
 have hcs := cut_size hB
 have hw0 : (cutW w Bs0).heap.size ≤ Bs0 := Nat.le_of_eq hcs
 have O_x := hO
 have G_ : w.grownBy w (Value.slice A xs.length c).ownBlock := gw_refl _ _
 refine calls_start Try.func7 rfl rfl rfl (fun a F => ?_)
 have M : Mm (cutW w Bs0) w [] := cut_nil hB
 refine wp_seq ?_
 refine wp_region_lit ?_
 refine list_do (wn rfl) (fun K hK => ?_)
 refine ow_box F M rfl rfl 29 _ rfl _ (F.e rfl) o.arr rfl ?_
 clear F M a; intro a g3 v F M hb hg
 refine hK _ _ ?_
 clear hK K
 have lw_g3 : w.heap.size ≤ g3 := Nat.le_trans G_.size hg
 replace O_x := O_x.below hb
 replace G_ := gw_below G_ hb
 clear hb hg; try clear w
 refine list_val F (wn rfl) rfl rfl (.slice none 0 0) (ex_assign _ rfl _ rfl) ?_; clear F a; intro a F
 refine wpList_nil ?_
 replace F : Fr 62 a [(0, .slice A xs.length c), (1, .agg o.arr), (3, .pointer (some ⟨g3, 0, none⟩)), (4, .slice none 0 0)] := F.keep ⟨rfl, rfl, rfl, rfl, trivial⟩
 refine then_n ?_
 refine wp_seq ?_
 refine wp_seq ?_
 refine wp_region_lit ?_
 refine list_val F (wn rfl) rfl rfl (.int .i64 0) (ex_assign _ rfl _ rfl) ?_; clear F a; intro a F
 refine wpList_nil ?_
 replace F : Fr 62 a [(0, .slice A xs.length c), (1, .agg o.arr), (3, .pointer (some ⟨g3, 0, none⟩)), (4, .slice none 0 0), (5, .int .i64 0)] := F.keep ⟨rfl, rfl, rfl, rfl, rfl, trivial⟩
 refine then_n ?_
 refine wp_block ?_
 refine wp_loopN (fun mq ar wr => ∃ (i : Nat), Fr 62 ar [(0, .slice A xs.length c), (1, .agg o.arr), (3, .pointer (some ⟨g3, 0, none⟩)), (4, .slice none 0 0), (5, .int .i64 ((i : Nat) : Int))] ∧ Mm (cutW w Bs0) wr [⟨g3, o.arr, 29⟩] ∧ Ow kRv 35 wr Bs0 (.slice A xs.length c) xs ∧ w.grownBy wr (Value.slice A xs.length c).ownBlock ∧ i ≤ xs.length ∧ (∀ (j : Nat), j < i → ∀ y, xs[j]? = some y → cov o.grant o.id y = false) ∧ mq + i = xs.length) xs.length ?_ ?_
 ·
  exact ⟨0, F.keep ⟨rfl, rfl, rfl, rfl, rfl, trivial⟩, M, O_x, G_, (Nat.zero_le _), (fun j hj => absurd hj (Nat.not_lt_zero j)), (by omega)⟩
 clear F M a O_x G_
 rintro mq a u ⟨i, F, M, O_x, G_, hi, hno, hq⟩; try clear v
 by_cases hin : i < xs.length
 ·
  obtain ⟨x, hx⟩ : ∃ x, xs[i]? = some x := ⟨_, List.getElem?_eq_getElem (by omega)⟩
  obtain ⟨ad, hA, z⟩ := C_ix O_x.rd.1 hx
  subst hA
  refine wp_seq ?_
  refine wp_seq ?_
  refine wp_region_lit ?_
  refine list_val F (wn rfl) rfl rfl (.int .i64 ((i : Nat) : Int)) (ex_move _ rfl _ (F.e rfl)) ?_; clear F a; intro a F
  refine list_val F (wn rfl) rfl rfl (.slice (some ad) xs.length c) (ex_move _ rfl _ (F.e rfl)) ?_; clear F a; intro a F
  refine list_val F (wn rfl) rfl rfl (.int .i64 ((xs.length : Nat) : Int)) (ex_len _ _ rfl 19 r9_sl_24_19 _ _ _ (F.e rfl)) ?_; clear F a; intro a F
  refine list_val F (wn rfl) rfl rfl (.bool true) (ex_bin .lss _ _ _ _ rfl .i64 _ _ (F.e rfl) (F.e rfl) _ (b_lss (decide_eq_true (by omega)))) ?_; clear F a; intro a F
  refine wpList_nil ?_
  replace F : Fr 62 a [(0, .slice (some ad) xs.length c), (1, .agg o.arr), (3, .pointer (some ⟨g3, 0, none⟩)), (4, .slice none 0 0), (5, .int .i64 ((i : Nat) : Int)), (9, .bool true)] := F.keep ⟨rfl, rfl, rfl, rfl, rfl, rfl, trivial⟩
  refine then_n ?_
  refine wp_cond_true (F.e rfl) ?_
  refine wp_skip ?_
  refine then_n ?_
  refine wp_seq ?_
  refine wp_block ?_
  refine wp_seq ?_
  refine wp_seq ?_
  by_cases hg : x.grant = o.grant
  ·
   by_cases hw : x.whole = true
   ·
    refine region_tail 14 r9_follows_mixedOrders (by kernel_rfl) M ?_; clear M; intro v M hb
    replace O_x := O_x.below hb
    replace G_ := gw_below G_ hb
    replace z := z.below hb
    clear hb; try clear u
    refine still_val F (wn rfl) rfl rfl (.slice (some ad) xs.length c) (ex_move _ rfl _ (F.e rfl)) ?_; clear F a; intro a F
    refine still_val F (wn rfl) rfl rfl (.int .i64 ((i : Nat) : Int)) (ex_move _ rfl _ (F.e rfl)) ?_; clear F a; intro a F
    refine still_val F (wn rfl) rfl rfl (.pointer (some (ad.add (i * 19)))) (ex_ix _ _ _ rfl 19 r9_sl_24_19 ad _ _ (F.e rfl) .i64 _ (F.e rfl) i rfl (by omega) (ad.add (i * 19)) rfl) ?_; clear F a; intro a F
    refine still_val F (wn rfl) rfl rfl (.pointer (some ((ad.add (i * 19)).add 1))) (ex_fa _ _ _ rfl _ (F.e rfl) 1 r9_fa_35_1_1 ((ad.add (i * 19)).add 1) rfl) ?_; clear F a; intro a F
    refine still_val F (wn rfl) rfl rfl (.int .u64 x.grant) (ex_load _ _ rfl _ (F.e rfl) _ (lv1 r9_one_25 (z.cell 1 _ (Rv.cs_1 _)))) ?_; clear F a; intro a F
    refine still_val F (wn rfl) rfl rfl (.pointer (some ⟨g3, 1, none⟩)) (ex_fa _ _ _ rfl _ (F.e rfl) 1 r9_fa_29_1_1 ⟨g3, 1, none⟩ rfl) ?_; clear F a; intro a F
    refine still_val F (wn rfl) rfl rfl (.int .u64 o.grant) (ex_load _ _ rfl _ (F.e rfl) _ (lv1 r9_one_25 (M.cell (i := 0) rfl (j := 1) (St.arr_1 _)))) ?_; clear F a; intro a F
    refine still_val F (wn rfl) rfl rfl (.bool true) (ex_bin .eql _ _ _ _ rfl .u64 _ _ (F.e rfl) (F.e rfl) _ (b_eql (by simp [hg]))) ?_; clear F a; intro a F
    refine still_val F (wn rfl) rfl rfl (.bool true) (ex_move _ rfl _ (F.e rfl)) ?_; clear F a; intro a F
    refine still_val F (F.wants 20 true rfl (by kernel_rfl) rfl true rfl) rfl rfl (.slice (some ad) xs.length c) (ex_move _ rfl _ (F.e rfl)) ?_; clear F a; intro a F
    refine still_val F (F.wants 20 true rfl (by kernel_rfl) rfl true rfl) rfl rfl (.int .i64 ((i : Nat) : Int)) (ex_move _ rfl _ (F.e rfl)) ?_; clear F a; intro a F
    refine still_val F (F.wants 20 true rfl (by kernel_rfl) rfl true rfl) rfl rfl (.pointer (some (ad.add (i * 19)))) (ex_ix _ _ _ rfl 19 r9_sl_24_19 ad _ _ (F.e rfl) .i64 _ (F.e rfl) i rfl (by omega) (ad.add (i * 19)) rfl) ?_; clear F a; intro a F
    refine still_val F (F.wants 20 true rfl (by kernel_rfl) rfl true rfl) rfl rfl (.pointer (some (ad.add (i * 19)))) (ex_fa _ _ _ rfl _ (F.e rfl) 0 r9_fa_35_0_0 (ad.add (i * 19)) rfl) ?_; clear F a; intro a F
    refine still_val F (F.wants 20 true rfl (by kernel_rfl) rfl true rfl) rfl rfl (.bool true) (ex_load _ _ rfl _ (F.e rfl) _ (lv1 r9_one_4 (z.cell 0 _ (Rv.cs_0e hw)))) ?_; clear F a; intro a F
    refine still_end ?_
    refine list_val F (wn rfl) rfl rfl (.bool true) (ex_pick_t _ _ _ rfl (F.e rfl) _ (F.e rfl)) ?_; clear F a; intro a F
    refine wpList_nil ?_
    replace F : Fr 62 a [(0, .slice (some ad) xs.length c), (1, .agg o.arr), (3, .pointer (some ⟨g3, 0, none⟩)), (4, .slice none 0 0), (5, .int .i64 ((i : Nat) : Int)), (9, .bool true), (26, .bool true)] := F.keep ⟨rfl, rfl, rfl, rfl, rfl, rfl, rfl, trivial⟩
    refine then_n ?_
    refine wp_cond_true (F.e rfl) ?_
    refine wp_seq ?_
    refine wp_region_lit ?_
    refine list_val F (wn rfl) rfl rfl (.slice (some ad) xs.length c) (ex_move _ rfl _ (F.e rfl)) ?_; clear F a; intro a F
    refine list_val F (wn rfl) rfl rfl (.slice (some ad) xs.length c) (ex_assign _ rfl _ (F.e rfl)) ?_; clear F a; intro a F
    refine wpList_nil ?_
    replace F : Fr 62 a [(0, .slice (some ad) xs.length c), (1, .agg o.arr), (3, .pointer (some ⟨g3, 0, none⟩)), (4, .slice (some ad) xs.length c), (5, .int .i64 ((i : Nat) : Int)), (9, .bool true), (26, .bool true)] := F.keep ⟨rfl, rfl, rfl, rfl, rfl, rfl, rfl, trivial⟩
    refine then_n ?_
    refine wp_ret ?_
    refine then_r ?_
    refine in_r ?_
    refine then_r ?_
    refine then_r ?_
    refine in_r ?_
    refine then_r ?_
    rw [addA_whole hno hx hg hw]
    exact ret_tmp F rfl rfl ⟨_, _, rfl, O_x, G_⟩
   have hwf : x.whole = false := Bool.eq_false_iff.2 hw
   by_cases hid : x.id = o.id
   ·
    have hcv : cov o.grant o.id x = true := (cov_eq hg hwf).trans (decide_eq_true hid)
    refine region_tail 14 r9_follows_mixedOrders (by kernel_rfl) M ?_; clear M; intro v M hb
    replace O_x := O_x.below hb
    replace G_ := gw_below G_ hb
    replace z := z.below hb
    clear hb; try clear u
    refine still_val F (wn rfl) rfl rfl (.slice (some ad) xs.length c) (ex_move _ rfl _ (F.e rfl)) ?_; clear F a; intro a F
    refine still_val F (wn rfl) rfl rfl (.int .i64 ((i : Nat) : Int)) (ex_move _ rfl _ (F.e rfl)) ?_; clear F a; intro a F
    refine still_val F (wn rfl) rfl rfl (.pointer (some (ad.add (i * 19)))) (ex_ix _ _ _ rfl 19 r9_sl_24_19 ad _ _ (F.e rfl) .i64 _ (F.e rfl) i rfl (by omega) (ad.add (i * 19)) rfl) ?_; clear F a; intro a F
    refine still_val F (wn rfl) rfl rfl (.pointer (some ((ad.add (i * 19)).add 1))) (ex_fa _ _ _ rfl _ (F.e rfl) 1 r9_fa_35_1_1 ((ad.add (i * 19)).add 1) rfl) ?_; clear F a; intro a F
    refine still_val F (wn rfl) rfl rfl (.int .u64 x.grant) (ex_load _ _ rfl _ (F.e rfl) _ (lv1 r9_one_25 (z.cell 1 _ (Rv.cs_1 _)))) ?_; clear F a; intro a F
    refine still_val F (wn rfl) rfl rfl (.pointer (some ⟨g3, 1, none⟩)) (ex_fa _ _ _ rfl _ (F.e rfl) 1 r9_fa_29_1_1 ⟨g3, 1, none⟩ rfl) ?_; clear F a; intro a F
    refine still_val F (wn rfl) rfl rfl (.int .u64 o.grant) (ex_load _ _ rfl _ (F.e rfl) _ (lv1 r9_one_25 (M.cell (i := 0) rfl (j := 1) (St.arr_1 _)))) ?_; clear F a; intro a F
    refine still_val F (wn rfl) rfl rfl (.bool true) (ex_bin .eql _ _ _ _ rfl .u64 _ _ (F.e rfl) (F.e rfl) _ (b_eql (by simp [hg]))) ?_; clear F a; intro a F
    refine still_val F (wn rfl) rfl rfl (.bool true) (ex_move _ rfl _ (F.e rfl)) ?_; clear F a; intro a F
    refine still_val F (F.wants 20 true rfl (by kernel_rfl) rfl true rfl) rfl rfl (.slice (some ad) xs.length c) (ex_move _ rfl _ (F.e rfl)) ?_; clear F a; intro a F
    refine still_val F (F.wants 20 true rfl (by kernel_rfl) rfl true rfl) rfl rfl (.int .i64 ((i : Nat) : Int)) (ex_move _ rfl _ (F.e rfl)) ?_; clear F a; intro a F
    refine still_val F (F.wants 20 true rfl (by kernel_rfl) rfl true rfl) rfl rfl (.pointer (some (ad.add (i * 19)))) (ex_ix _ _ _ rfl 19 r9_sl_24_19 ad _ _ (F.e rfl) .i64 _ (F.e rfl) i rfl (by omega) (ad.add (i * 19)) rfl) ?_; clear F a; intro a F
    refine still_val F (F.wants 20 true rfl (by kernel_rfl) rfl true rfl) rfl rfl (.pointer (some (ad.add (i * 19)))) (ex_fa _ _ _ rfl _ (F.e rfl) 0 r9_fa_35_0_0 (ad.add (i * 19)) rfl) ?_; clear F a; intro a F
    refine still_val F (F.wants 20 true rfl (by kernel_rfl) rfl true rfl) rfl rfl (.bool false) (ex_load _ _ rfl _ (F.e rfl) _ (lv1 r9_one_4 (z.cell 0 _ (Rv.cs_0e (Bool.eq_false_iff.2 hw))))) ?_; clear F a; intro a F
    refine still_end ?_
    refine list_val F (wn rfl) rfl rfl (.bool false) (ex_pick_t _ _ _ rfl (F.e rfl) _ (F.e rfl)) ?_; clear F a; intro a F
    refine wpList_nil ?_
    replace F : Fr 62 a [(0, .slice (some ad) xs.length c), (1, .agg o.arr), (3, .pointer (some ⟨g3, 0, none⟩)), (4, .slice none 0 0), (5, .int .i64 ((i : Nat) : Int)), (9, .bool true), (26, .bool false)] := F.keep ⟨rfl, rfl, rfl, rfl, rfl, rfl, rfl, trivial⟩
    refine then_n ?_
    refine wp_cond_false (F.e rfl) ?_
    refine wp_skip ?_
    refine then_n ?_
    refine wp_seq ?_
    refine region_tail 8 r9_follows_mixedOrders (by kernel_rfl) M ?_; clear M; intro u M hb
    replace O_x := O_x.below hb
    replace G_ := gw_below G_ hb
    replace z := z.below hb
    clear hb; try clear v
    refine still_val F (wn rfl) rfl rfl (.slice (some ad) xs.length c) (ex_move _ rfl _ (F.e rfl)) ?_; clear F a; intro a F
    refine still_val F (wn rfl) rfl rfl (.int .i64 ((i : Nat) : Int)) (ex_move _ rfl _ (F.e rfl)) ?_; clear F a; intro a F
    refine still_val F (wn rfl) rfl rfl (.pointer (some (ad.add (i * 19)))) (ex_ix _ _ _ rfl 19 r9_sl_24_19 ad _ _ (F.e rfl) .i64 _ (F.e rfl) i rfl (by omega) (ad.add (i * 19)) rfl) ?_; clear F a; intro a F
    refine still_val F (wn rfl) rfl rfl (.agg x.arr) (ex_load _ _ rfl _ (F.e rfl) _ (lrow35 x (z))) ?_; clear F a; intro a F
    refine still_val F (wn rfl) rfl rfl (.pointer (some ⟨g3, 1, none⟩)) (ex_fa _ _ _ rfl _ (F.e rfl) 1 r9_fa_29_1_1 ⟨g3, 1, none⟩ rfl) ?_; clear F a; intro a F
    refine still_val F (wn rfl) rfl rfl (.int .u64 o.grant) (ex_load _ _ rfl _ (F.e rfl) _ (lv1 r9_one_25 (M.cell (i := 0) rfl (j := 1) (St.arr_1 _)))) ?_; clear F a; intro a F
    refine still_val F (wn rfl) rfl rfl (.pointer (some ⟨g3, 2, none⟩)) (ex_fa _ _ _ rfl _ (F.e rfl) 2 r9_fa_29_2_2 ⟨g3, 2, none⟩ rfl) ?_; clear F a; intro a F
    refine still_val F (wn rfl) rfl rfl (.agg o.id.cs.toArray) (ex_load _ _ rfl _ (F.e rfl) _ (lrow27 o.id (St.id_at (M.at (i := 0) rfl)))) ?_; clear F a; intro a F
    refine still_end ?_
    refine list_do (wn rfl) (fun K hK => ?_)
    refine ow_call rfl rfl F 13 #[.agg x.arr, .int .u64 o.grant, .agg o.id.cs.toArray] (ex_call 13 _ _ rfl rfl r9_ent_13 _ (map3 (F.e rfl) (F.e rfl) (F.e rfl))) (covers_any x o.grant o.id _) (fun e v hR => ?_)
    obtain ⟨he, hb⟩ := hR
    rw [hcv] at he
    refine ⟨.bool true, he, ?_⟩; clear he F a; intro a F
    refine hK _ _ ?_
    clear hK K
    replace O_x := O_x.below hb
    replace G_ := gw_below G_ hb
    replace z := z.below hb
    replace M := M.below hb; clear hb; try clear u
    refine wpList_nil ?_
    replace F : Fr 62 a [(0, .slice (some ad) xs.length c), (1, .agg o.arr), (3, .pointer (some ⟨g3, 0, none⟩)), (4, .slice none 0 0), (5, .int .i64 ((i : Nat) : Int)), (9, .bool true), (26, .bool false), (36, .bool true)] := F.keep ⟨rfl, rfl, rfl, rfl, rfl, rfl, rfl, rfl, trivial⟩
    refine then_n ?_
    refine wp_cond_true (F.e rfl) ?_
    refine wp_seq ?_
    refine wp_seq ?_
    by_cases hgt : x.exp < o.exp
    ·
     refine region_tail 7 r9_follows_mixedOrders (by kernel_rfl) M ?_; clear M; intro u M hb
     replace O_x := O_x.below hb
     replace G_ := gw_below G_ hb
     replace z := z.below hb
     clear hb; try clear v
     refine still_val F (wn rfl) rfl rfl (.pointer (some ⟨g3, 18, none⟩)) (ex_fa _ _ _ rfl _ (F.e rfl) 18 r9_fa_29_3_18 ⟨g3, 18, none⟩ rfl) ?_; clear F a; intro a F
     refine still_val F (wn rfl) rfl rfl (.int .i64 o.exp) (ex_load _ _ rfl _ (F.e rfl) _ (lv1 r9_one_2 (M.cell (i := 0) rfl (j := 18) (St.arr_18 _)))) ?_; clear F a; intro a F
     refine still_val F (wn rfl) rfl rfl (.slice (some ad) xs.length c) (ex_move _ rfl _ (F.e rfl)) ?_; clear F a; intro a F
     refine still_val F (wn rfl) rfl rfl (.int .i64 ((i : Nat) : Int)) (ex_move _ rfl _ (F.e rfl)) ?_; clear F a; intro a F
     refine still_val F (wn rfl) rfl rfl (.pointer (some (ad.add (i * 19)))) (ex_ix _ _ _ rfl 19 r9_sl_24_19 ad _ _ (F.e rfl) .i64 _ (F.e rfl) i rfl (by omega) (ad.add (i * 19)) rfl) ?_; clear F a; intro a F
     refine still_val F (wn rfl) rfl rfl (.pointer (some ((ad.add (i * 19)).add 18))) (ex_fa _ _ _ rfl _ (F.e rfl) 18 r9_fa_35_3_18 ((ad.add (i * 19)).add 18) rfl) ?_; clear F a; intro a F
     refine still_val F (wn rfl) rfl rfl (.int .i64 x.exp) (ex_load _ _ rfl _ (F.e rfl) _ (lv1 r9_one_2 (z.cell 18 _ (Rv.cs_18 _)))) ?_; clear F a; intro a F
     refine still_end ?_
     refine list_val F (wn rfl) rfl rfl (.bool true) (ex_bin .gtr _ _ _ _ rfl .i64 _ _ (F.e rfl) (F.e rfl) _ (b_gtr (decide_eq_true hgt))) ?_; clear F a; intro a F
     refine wpList_nil ?_
     replace F : Fr 62 a [(0, .slice (some ad) xs.length c), (1, .agg o.arr), (3, .pointer (some ⟨g3, 0, none⟩)), (4, .slice none 0 0), (5, .int .i64 ((i : Nat) : Int)), (9, .bool true), (26, .bool false), (36, .bool true), (44, .bool true)] := F.keep ⟨rfl, rfl, rfl, rfl, rfl, rfl, rfl, rfl, rfl, trivial⟩
     refine then_n ?_
     refine wp_cond_true (F.e rfl) ?_
     clear z
     obtain ⟨g9, sp, hA9, _, hg9, hh9, hsz9, hc9, hcm9⟩ := O_x.open (by decide) (by omega)
     obtain rfl := Option.some.inj hA9
     replace M := M_and M (by rw [hcs]; exact hg9) hh9 (fun b hb => by simp only [List.mem_cons, List.not_mem_nil, or_false] at hb; subst hb; show (29 : Nat) ≠ 35; decide)
     clear O_x hh9
     refine wp_region_lit ?_
     refine list_val F (wn rfl) rfl rfl (.slice (some ⟨g9, 0, none⟩) xs.length c) (ex_move _ rfl _ (F.e rfl)) ?_; clear F a; intro a F
     refine list_val F (wn rfl) rfl rfl (.int .i64 ((i : Nat) : Int)) (ex_move _ rfl _ (F.e rfl)) ?_; clear F a; intro a F
     refine list_val F (wn rfl) rfl rfl (.pointer (some ⟨g3, 18, none⟩)) (ex_fa _ _ _ rfl _ (F.e rfl) 18 r9_fa_29_3_18 ⟨g3, 18, none⟩ rfl) ?_; clear F a; intro a F
     refine list_val F (wn rfl) rfl rfl (.int .i64 o.exp) (ex_load _ _ rfl _ (F.e rfl) _ (lv1 r9_one_2 (M.cell (i := 1) rfl (j := 18) (St.arr_18 _)))) ?_; clear F a; intro a F
     refine list_val F (wn rfl) rfl rfl (.pointer (some ⟨g9, i * 19, none⟩)) (ex_ix _ _ _ rfl 19 r9_sl_24_19 ⟨g9, 0, none⟩ _ _ (F.e rfl) .i64 _ (F.e rfl) i rfl (by omega) ⟨g9, i * 19, none⟩ ((addr_add _ _ _).trans (by rw [Nat.zero_add]))) ?_; clear F a; intro a F
     refine list_val F (wn rfl) rfl rfl (.pointer (some ⟨g9, i * 19 + 18, none⟩)) (ex_fa _ _ _ rfl _ (F.e rfl) 18 r9_fa_35_3_18 ⟨g9, i * 19 + 18, none⟩ rfl) ?_; clear F a; intro a F
     refine list_do (wn rfl) (fun K hK => ?_)
     refine ow_store F M rfl 2 _ _ rfl 0 g9 (xs.flatMap Rv.cs ++ sp).toArray _ rfl (i * 19 + 18) (F.e rfl) _ (F.e rfl) [.int .i64 o.exp] rfl r9_info_2_map_size_some_1 (by rw [List.size_toArray, hsz9]; simp only [List.length_cons, List.length_nil]; omega) (by simp [Value.oneCell']) ((xs.set i ({ x with exp := o.exp } : Rv)).flatMap Rv.cs ++ sp).toArray (congrArg List.toArray (rows_set (vs := [.int .i64 o.exp]) Rv.cs_len hx (by simp) (Rv.set_18 _ _))) ?_
     clear F a; have Mo := M; clear M; intro a v F M hgr
     refine hK _ _ ?_
     clear hK K
     replace G_ := gw_same G_ hgr
     clear Mo hgr; try clear u
     replace M : Mm (cutW w Bs0) v [⟨g9, ((xs.set i ({ x with exp := o.exp } : Rv)).flatMap Rv.cs ++ sp).toArray, 35⟩, ⟨g3, o.arr, 29⟩] := M
     refine wpList_nil ?_
     replace F : Fr 62 a [(0, .slice (some ⟨g9, 0, none⟩) xs.length c), (1, .agg o.arr), (3, .pointer (some ⟨g3, 0, none⟩)), (4, .slice none 0 0), (5, .int .i64 ((i : Nat) : Int)), (9, .bool true), (26, .bool false), (36, .bool true), (44, .bool true)] := F.keep ⟨rfl, rfl, rfl, rfl, rfl, rfl, rfl, rfl, rfl, trivial⟩
     refine then_n ?_
     refine wp_seq ?_
     refine wp_region_lit ?_
     refine list_val F (wn rfl) rfl rfl (.slice (some ⟨g9, 0, none⟩) xs.length c) (ex_move _ rfl _ (F.e rfl)) ?_; clear F a; intro a F
     refine list_val F (wn rfl) rfl rfl (.slice (some ⟨g9, 0, none⟩) xs.length c) (ex_assign _ rfl _ (F.e rfl)) ?_; clear F a; intro a F
     refine wpList_nil ?_
     replace F : Fr 62 a [(0, .slice (some ⟨g9, 0, none⟩) xs.length c), (1, .agg o.arr), (3, .pointer (some ⟨g3, 0, none⟩)), (4, .slice (some ⟨g9, 0, none⟩) xs.length c), (5, .int .i64 ((i : Nat) : Int)), (9, .bool true), (26, .bool false), (36, .bool true), (44, .bool true)] := F.keep ⟨rfl, rfl, rfl, rfl, rfl, rfl, rfl, rfl, rfl, trivial⟩
     refine then_n ?_
     refine wp_ret ?_
     refine in_r ?_
     refine then_r ?_
     refine then_r ?_
     refine in_r ?_
     refine then_r ?_
     rw [addA_hit hno hx hg hwf hid, show max x.exp o.exp = o.exp by omega]
     exact ret_tmp F rfl rfl ⟨_, _, by rw [List.length_set], Ow.of_block (enc := Rv.cs) (m := 19) (sp := sp) (M.blk 0 _ rfl) hg9 rfl (by rw [List.length_set]; exact hc9) hcm9 (by simp only [List.length_append, flat_len, List.length_set] at hsz9 ⊢; exact hsz9), G_⟩
    refine region_tail 7 r9_follows_mixedOrders (by kernel_rfl) M ?_; clear M; intro u M hb
    replace O_x := O_x.below hb
    replace G_ := gw_below G_ hb
    replace z := z.below hb
    clear hb; try clear v
    refine still_val F (wn rfl) rfl rfl (.pointer (some ⟨g3, 18, none⟩)) (ex_fa _ _ _ rfl _ (F.e rfl) 18 r9_fa_29_3_18 ⟨g3, 18, none⟩ rfl) ?_; clear F a; intro a F
    refine still_val F (wn rfl) rfl rfl (.int .i64 o.exp) (ex_load _ _ rfl _ (F.e rfl) _ (lv1 r9_one_2 (M.cell (i := 0) rfl (j := 18) (St.arr_18 _)))) ?_; clear F a; intro a F
    refine still_val F (wn rfl) rfl rfl (.slice (some ad) xs.length c) (ex_move _ rfl _ (F.e rfl)) ?_; clear F a; intro a F
    refine still_val F (wn rfl) rfl rfl (.int .i64 ((i : Nat) : Int)) (ex_move _ rfl _ (F.e rfl)) ?_; clear F a; intro a F
    refine still_val F (wn rfl) rfl rfl (.pointer (some (ad.add (i * 19)))) (ex_ix _ _ _ rfl 19 r9_sl_24_19 ad _ _ (F.e rfl) .i64 _ (F.e rfl) i rfl (by omega) (ad.add (i * 19)) rfl) ?_; clear F a; intro a F
    refine still_val F (wn rfl) rfl rfl (.pointer (some ((ad.add (i * 19)).add 18))) (ex_fa _ _ _ rfl _ (F.e rfl) 18 r9_fa_35_3_18 ((ad.add (i * 19)).add 18) rfl) ?_; clear F a; intro a F
    refine still_val F (wn rfl) rfl rfl (.int .i64 x.exp) (ex_load _ _ rfl _ (F.e rfl) _ (lv1 r9_one_2 (z.cell 18 _ (Rv.cs_18 _)))) ?_; clear F a; intro a F
    refine still_end ?_
    refine list_val F (wn rfl) rfl rfl (.bool false) (ex_bin .gtr _ _ _ _ rfl .i64 _ _ (F.e rfl) (F.e rfl) _ (b_gtr (decide_eq_false hgt))) ?_; clear F a; intro a F
    refine wpList_nil ?_
    replace F : Fr 62 a [(0, .slice (some ad) xs.length c), (1, .agg o.arr), (3, .pointer (some ⟨g3, 0, none⟩)), (4, .slice none 0 0), (5, .int .i64 ((i : Nat) : Int)), (9, .bool true), (26, .bool false), (36, .bool true), (44, .bool false)] := F.keep ⟨rfl, rfl, rfl, rfl, rfl, rfl, rfl, rfl, rfl, trivial⟩
    refine then_n ?_
    refine wp_cond_false (F.e rfl) ?_
    refine wp_skip ?_
    refine then_n ?_
    refine wp_seq ?_
    refine wp_region_lit ?_
    refine list_val F (wn rfl) rfl rfl (.slice (some ad) xs.length c) (ex_move _ rfl _ (F.e rfl)) ?_; clear F a; intro a F
    refine list_val F (wn rfl) rfl rfl (.slice (some ad) xs.length c) (ex_assign _ rfl _ (F.e rfl)) ?_; clear F a; intro a F
    refine wpList_nil ?_
    replace F : Fr 62 a [(0, .slice (some ad) xs.length c), (1, .agg o.arr), (3, .pointer (some ⟨g3, 0, none⟩)), (4, .slice (some ad) xs.length c), (5, .int .i64 ((i : Nat) : Int)), (9, .bool true), (26, .bool false), (36, .bool true), (44, .bool false)] := F.keep ⟨rfl, rfl, rfl, rfl, rfl, rfl, rfl, rfl, rfl, trivial⟩
    refine then_n ?_
    refine wp_ret ?_
    refine in_r ?_
    refine then_r ?_
    refine then_r ?_
    refine in_r ?_
    refine then_r ?_
    rw [addA_hit hno hx hg hwf hid, addA_same hx hgt]
    exact ret_tmp F rfl rfl ⟨_, _, rfl, O_x, G_⟩
   have hcv : cov o.grant o.id x = false := (cov_eq hg hwf).trans (decide_eq_false hid)
   refine region_tail 14 r9_follows_mixedOrders (by kernel_rfl) M ?_; clear M; intro v M hb
   replace O_x := O_x.below hb
   replace G_ := gw_below G_ hb
   replace z := z.below hb
   clear hb; try clear u
   refine still_val F (wn rfl) rfl rfl (.slice (some ad) xs.length c) (ex_move _ rfl _ (F.e rfl)) ?_; clear F a; intro a F
   refine still_val F (wn rfl) rfl rfl (.int .i64 ((i : Nat) : Int)) (ex_move _ rfl _ (F.e rfl)) ?_; clear F a; intro a F
   refine still_val F (wn rfl) rfl rfl (.pointer (some (ad.add (i * 19)))) (ex_ix _ _ _ rfl 19 r9_sl_24_19 ad _ _ (F.e rfl) .i64 _ (F.e rfl) i rfl (by omega) (ad.add (i * 19)) rfl) ?_; clear F a; intro a F
   refine still_val F (wn rfl) rfl rfl (.pointer (some ((ad.add (i * 19)).add 1))) (ex_fa _ _ _ rfl _ (F.e rfl) 1 r9_fa_35_1_1 ((ad.add (i * 19)).add 1) rfl) ?_; clear F a; intro a F
   refine still_val F (wn rfl) rfl rfl (.int .u64 x.grant) (ex_load _ _ rfl _ (F.e rfl) _ (lv1 r9_one_25 (z.cell 1 _ (Rv.cs_1 _)))) ?_; clear F a; intro a F
   refine still_val F (wn rfl) rfl rfl (.pointer (some ⟨g3, 1, none⟩)) (ex_fa _ _ _ rfl _ (F.e rfl) 1 r9_fa_29_1_1 ⟨g3, 1, none⟩ rfl) ?_; clear F a; intro a F
   refine still_val F (wn rfl) rfl rfl (.int .u64 o.grant) (ex_load _ _ rfl _ (F.e rfl) _ (lv1 r9_one_25 (M.cell (i := 0) rfl (j := 1) (St.arr_1 _)))) ?_; clear F a; intro a F
   refine still_val F (wn rfl) rfl rfl (.bool true) (ex_bin .eql _ _ _ _ rfl .u64 _ _ (F.e rfl) (F.e rfl) _ (b_eql (by simp [hg]))) ?_; clear F a; intro a F
   refine still_val F (wn rfl) rfl rfl (.bool true) (ex_move _ rfl _ (F.e rfl)) ?_; clear F a; intro a F
   refine still_val F (F.wants 20 true rfl (by kernel_rfl) rfl true rfl) rfl rfl (.slice (some ad) xs.length c) (ex_move _ rfl _ (F.e rfl)) ?_; clear F a; intro a F
   refine still_val F (F.wants 20 true rfl (by kernel_rfl) rfl true rfl) rfl rfl (.int .i64 ((i : Nat) : Int)) (ex_move _ rfl _ (F.e rfl)) ?_; clear F a; intro a F
   refine still_val F (F.wants 20 true rfl (by kernel_rfl) rfl true rfl) rfl rfl (.pointer (some (ad.add (i * 19)))) (ex_ix _ _ _ rfl 19 r9_sl_24_19 ad _ _ (F.e rfl) .i64 _ (F.e rfl) i rfl (by omega) (ad.add (i * 19)) rfl) ?_; clear F a; intro a F
   refine still_val F (F.wants 20 true rfl (by kernel_rfl) rfl true rfl) rfl rfl (.pointer (some (ad.add (i * 19)))) (ex_fa _ _ _ rfl _ (F.e rfl) 0 r9_fa_35_0_0 (ad.add (i * 19)) rfl) ?_; clear F a; intro a F
   refine still_val F (F.wants 20 true rfl (by kernel_rfl) rfl true rfl) rfl rfl (.bool false) (ex_load _ _ rfl _ (F.e rfl) _ (lv1 r9_one_4 (z.cell 0 _ (Rv.cs_0e (Bool.eq_false_iff.2 hw))))) ?_; clear F a; intro a F
   refine still_end ?_
   refine list_val F (wn rfl) rfl rfl (.bool false) (ex_pick_t _ _ _ rfl (F.e rfl) _ (F.e rfl)) ?_; clear F a; intro a F
   refine wpList_nil ?_
   replace F : Fr 62 a [(0, .slice (some ad) xs.length c), (1, .agg o.arr), (3, .pointer (some ⟨g3, 0, none⟩)), (4, .slice none 0 0), (5, .int .i64 ((i : Nat) : Int)), (9, .bool true), (26, .bool false)] := F.keep ⟨rfl, rfl, rfl, rfl, rfl, rfl, rfl, trivial⟩
   refine then_n ?_
   refine wp_cond_false (F.e rfl) ?_
   refine wp_skip ?_
   refine then_n ?_
   refine wp_seq ?_
   refine region_tail 8 r9_follows_mixedOrders (by kernel_rfl) M ?_; clear M; intro u M hb
   replace O_x := O_x.below hb
   replace G_ := gw_below G_ hb
   replace z := z.below hb
   clear hb; try clear v
   refine still_val F (wn rfl) rfl rfl (.slice (some ad) xs.length c) (ex_move _ rfl _ (F.e rfl)) ?_; clear F a; intro a F
   refine still_val F (wn rfl) rfl rfl (.int .i64 ((i : Nat) : Int)) (ex_move _ rfl _ (F.e rfl)) ?_; clear F a; intro a F
   refine still_val F (wn rfl) rfl rfl (.pointer (some (ad.add (i * 19)))) (ex_ix _ _ _ rfl 19 r9_sl_24_19 ad _ _ (F.e rfl) .i64 _ (F.e rfl) i rfl (by omega) (ad.add (i * 19)) rfl) ?_; clear F a; intro a F
   refine still_val F (wn rfl) rfl rfl (.agg x.arr) (ex_load _ _ rfl _ (F.e rfl) _ (lrow35 x (z))) ?_; clear F a; intro a F
   refine still_val F (wn rfl) rfl rfl (.pointer (some ⟨g3, 1, none⟩)) (ex_fa _ _ _ rfl _ (F.e rfl) 1 r9_fa_29_1_1 ⟨g3, 1, none⟩ rfl) ?_; clear F a; intro a F
   refine still_val F (wn rfl) rfl rfl (.int .u64 o.grant) (ex_load _ _ rfl _ (F.e rfl) _ (lv1 r9_one_25 (M.cell (i := 0) rfl (j := 1) (St.arr_1 _)))) ?_; clear F a; intro a F
   refine still_val F (wn rfl) rfl rfl (.pointer (some ⟨g3, 2, none⟩)) (ex_fa _ _ _ rfl _ (F.e rfl) 2 r9_fa_29_2_2 ⟨g3, 2, none⟩ rfl) ?_; clear F a; intro a F
   refine still_val F (wn rfl) rfl rfl (.agg o.id.cs.toArray) (ex_load _ _ rfl _ (F.e rfl) _ (lrow27 o.id (St.id_at (M.at (i := 0) rfl)))) ?_; clear F a; intro a F
   refine still_end ?_
   refine list_do (wn rfl) (fun K hK => ?_)
   refine ow_call rfl rfl F 13 #[.agg x.arr, .int .u64 o.grant, .agg o.id.cs.toArray] (ex_call 13 _ _ rfl rfl r9_ent_13 _ (map3 (F.e rfl) (F.e rfl) (F.e rfl))) (covers_any x o.grant o.id _) (fun e v hR => ?_)
   obtain ⟨he, hb⟩ := hR
   rw [hcv] at he
   refine ⟨.bool false, he, ?_⟩; clear he F a; intro a F
   refine hK _ _ ?_
   clear hK K
   replace O_x := O_x.below hb
   replace G_ := gw_below G_ hb
   replace z := z.below hb
   replace M := M.below hb; clear hb; try clear u
   refine wpList_nil ?_
   replace F : Fr 62 a [(0, .slice (some ad) xs.length c), (1, .agg o.arr), (3, .pointer (some ⟨g3, 0, none⟩)), (4, .slice none 0 0), (5, .int .i64 ((i : Nat) : Int)), (9, .bool true), (26, .bool false), (36, .bool false)] := F.keep ⟨rfl, rfl, rfl, rfl, rfl, rfl, rfl, rfl, trivial⟩
   refine then_n ?_
   refine wp_cond_false (F.e rfl) ?_
   refine wp_skip ?_
   refine in_n ?_
   refine then_n ?_
   refine wp_region_lit ?_
   refine list_val F (wn rfl) rfl rfl (.int .i64 ((i : Nat) : Int)) (ex_move _ rfl _ (F.e rfl)) ?_; clear F a; intro a F
   refine list_val F (wn rfl) rfl rfl (.int .i64 ((i + 1 : Nat) : Int)) (ex_bin .add _ _ _ _ rfl .i64 _ _ (F.e rfl) rfl _ (b_add ((w_i64 (by omega) (by omega)).trans (by omega)))) ?_; clear F a; intro a F
   refine list_val F (wn rfl) rfl rfl (.int .i64 ((i + 1 : Nat) : Int)) (ex_assign _ rfl _ (F.e rfl)) ?_; clear F a; intro a F
   refine wpList_nil ?_
   replace F : Fr 62 a [(0, .slice (some ad) xs.length c), (1, .agg o.arr), (3, .pointer (some ⟨g3, 0, none⟩)), (4, .slice none 0 0), (5, .int .i64 ((i + 1 : Nat) : Int)), (9, .bool true), (26, .bool false), (36, .bool false)] := F.keep ⟨rfl, rfl, rfl, rfl, rfl, rfl, rfl, rfl, trivial⟩
   refine then_n ?_
   exact ⟨xs.length - (i + 1), by omega, (i + 1), F.keep ⟨rfl, rfl, rfl, rfl, rfl, trivial⟩, (by refine M.pick' [0] _ ?_ (by decide); exact ⟨rfl, trivial⟩), O_x, G_, (by omega), (fun j hj => (Nat.lt_or_eq_of_le (Nat.le_of_lt_succ hj)).elim (fun h_ => hno j h_) (fun h_ => by subst h_; exact (fun y hy => by obtain rfl := Option.some.inj (hx.symm.trans hy); exact hcv))), (by omega)⟩
  have hcv : cov o.grant o.id x = false := cov_oth hg
  refine region_tail 14 r9_follows_mixedOrders (by kernel_rfl) M ?_; clear M; intro v M hb
  replace O_x := O_x.below hb
  replace G_ := gw_below G_ hb
  replace z := z.below hb
  clear hb; try clear u
  refine still_val F (wn rfl) rfl rfl (.slice (some ad) xs.length c) (ex_move _ rfl _ (F.e rfl)) ?_; clear F a; intro a F
  refine still_val F (wn rfl) rfl rfl (.int .i64 ((i : Nat) : Int)) (ex_move _ rfl _ (F.e rfl)) ?_; clear F a; intro a F
  refine still_val F (wn rfl) rfl rfl (.pointer (some (ad.add (i * 19)))) (ex_ix _ _ _ rfl 19 r9_sl_24_19 ad _ _ (F.e rfl) .i64 _ (F.e rfl) i rfl (by omega) (ad.add (i * 19)) rfl) ?_; clear F a; intro a F
  refine still_val F (wn rfl) rfl rfl (.pointer (some ((ad.add (i * 19)).add 1))) (ex_fa _ _ _ rfl _ (F.e rfl) 1 r9_fa_35_1_1 ((ad.add (i * 19)).add 1) rfl) ?_; clear F a; intro a F
  refine still_val F (wn rfl) rfl rfl (.int .u64 x.grant) (ex_load _ _ rfl _ (F.e rfl) _ (lv1 r9_one_25 (z.cell 1 _ (Rv.cs_1 _)))) ?_; clear F a; intro a F
  refine still_val F (wn rfl) rfl rfl (.pointer (some ⟨g3, 1, none⟩)) (ex_fa _ _ _ rfl _ (F.e rfl) 1 r9_fa_29_1_1 ⟨g3, 1, none⟩ rfl) ?_; clear F a; intro a F
  refine still_val F (wn rfl) rfl rfl (.int .u64 o.grant) (ex_load _ _ rfl _ (F.e rfl) _ (lv1 r9_one_25 (M.cell (i := 0) rfl (j := 1) (St.arr_1 _)))) ?_; clear F a; intro a F
  refine still_val F (wn rfl) rfl rfl (.bool false) (ex_bin .eql _ _ _ _ rfl .u64 _ _ (F.e rfl) (F.e rfl) _ (b_eql (by simp [hg]))) ?_; clear F a; intro a F
  refine still_val F (wn rfl) rfl rfl (.bool false) (ex_move _ rfl _ (F.e rfl)) ?_; clear F a; intro a F
  refine still_skip F (F.wants 20 false rfl (by kernel_rfl) rfl false rfl) rfl rfl ?_; clear F a; intro a F
  refine still_skip F (F.wants 20 false rfl (by kernel_rfl) rfl false rfl) rfl rfl ?_; clear F a; intro a F
  refine still_skip F (F.wants 20 false rfl (by kernel_rfl) rfl false rfl) rfl rfl ?_; clear F a; intro a F
  refine still_skip F (F.wants 20 false rfl (by kernel_rfl) rfl false rfl) rfl rfl ?_; clear F a; intro a F
  refine still_skip F (F.wants 20 false rfl (by kernel_rfl) rfl false rfl) rfl rfl ?_; clear F a; intro a F
  refine still_end ?_
  refine list_val F (wn rfl) rfl rfl (.bool false) (ex_pick_f _ _ _ rfl (F.e rfl) _ rfl) ?_; clear F a; intro a F
  refine wpList_nil ?_
  replace F : Fr 62 a [(0, .slice (some ad) xs.length c), (1, .agg o.arr), (3, .pointer (some ⟨g3, 0, none⟩)), (4, .slice none 0 0), (5, .int .i64 ((i : Nat) : Int)), (9, .bool true), (26, .bool false)] := F.keep ⟨rfl, rfl, rfl, rfl, rfl, rfl, rfl, trivial⟩
  refine then_n ?_
  refine wp_cond_false (F.e rfl) ?_
  refine wp_skip ?_
  refine then_n ?_
  refine wp_seq ?_
  refine region_tail 8 r9_follows_mixedOrders (by kernel_rfl) M ?_; clear M; intro u M hb
  replace O_x := O_x.below hb
  replace G_ := gw_below G_ hb
  replace z := z.below hb
  clear hb; try clear v
  refine still_val F (wn rfl) rfl rfl (.slice (some ad) xs.length c) (ex_move _ rfl _ (F.e rfl)) ?_; clear F a; intro a F
  refine still_val F (wn rfl) rfl rfl (.int .i64 ((i : Nat) : Int)) (ex_move _ rfl _ (F.e rfl)) ?_; clear F a; intro a F
  refine still_val F (wn rfl) rfl rfl (.pointer (some (ad.add (i * 19)))) (ex_ix _ _ _ rfl 19 r9_sl_24_19 ad _ _ (F.e rfl) .i64 _ (F.e rfl) i rfl (by omega) (ad.add (i * 19)) rfl) ?_; clear F a; intro a F
  refine still_val F (wn rfl) rfl rfl (.agg x.arr) (ex_load _ _ rfl _ (F.e rfl) _ (lrow35 x (z))) ?_; clear F a; intro a F
  refine still_val F (wn rfl) rfl rfl (.pointer (some ⟨g3, 1, none⟩)) (ex_fa _ _ _ rfl _ (F.e rfl) 1 r9_fa_29_1_1 ⟨g3, 1, none⟩ rfl) ?_; clear F a; intro a F
  refine still_val F (wn rfl) rfl rfl (.int .u64 o.grant) (ex_load _ _ rfl _ (F.e rfl) _ (lv1 r9_one_25 (M.cell (i := 0) rfl (j := 1) (St.arr_1 _)))) ?_; clear F a; intro a F
  refine still_val F (wn rfl) rfl rfl (.pointer (some ⟨g3, 2, none⟩)) (ex_fa _ _ _ rfl _ (F.e rfl) 2 r9_fa_29_2_2 ⟨g3, 2, none⟩ rfl) ?_; clear F a; intro a F
  refine still_val F (wn rfl) rfl rfl (.agg o.id.cs.toArray) (ex_load _ _ rfl _ (F.e rfl) _ (lrow27 o.id (St.id_at (M.at (i := 0) rfl)))) ?_; clear F a; intro a F
  refine still_end ?_
  refine list_do (wn rfl) (fun K hK => ?_)
  refine ow_call rfl rfl F 13 #[.agg x.arr, .int .u64 o.grant, .agg o.id.cs.toArray] (ex_call 13 _ _ rfl rfl r9_ent_13 _ (map3 (F.e rfl) (F.e rfl) (F.e rfl))) (covers_any x o.grant o.id _) (fun e v hR => ?_)
  obtain ⟨he, hb⟩ := hR
  rw [hcv] at he
  refine ⟨.bool false, he, ?_⟩; clear he F a; intro a F
  refine hK _ _ ?_
  clear hK K
  replace O_x := O_x.below hb
  replace G_ := gw_below G_ hb
  replace z := z.below hb
  replace M := M.below hb; clear hb; try clear u
  refine wpList_nil ?_
  replace F : Fr 62 a [(0, .slice (some ad) xs.length c), (1, .agg o.arr), (3, .pointer (some ⟨g3, 0, none⟩)), (4, .slice none 0 0), (5, .int .i64 ((i : Nat) : Int)), (9, .bool true), (26, .bool false), (36, .bool false)] := F.keep ⟨rfl, rfl, rfl, rfl, rfl, rfl, rfl, rfl, trivial⟩
  refine then_n ?_
  refine wp_cond_false (F.e rfl) ?_
  refine wp_skip ?_
  refine in_n ?_
  refine then_n ?_
  refine wp_region_lit ?_
  refine list_val F (wn rfl) rfl rfl (.int .i64 ((i : Nat) : Int)) (ex_move _ rfl _ (F.e rfl)) ?_; clear F a; intro a F
  refine list_val F (wn rfl) rfl rfl (.int .i64 ((i + 1 : Nat) : Int)) (ex_bin .add _ _ _ _ rfl .i64 _ _ (F.e rfl) rfl _ (b_add ((w_i64 (by omega) (by omega)).trans (by omega)))) ?_; clear F a; intro a F
  refine list_val F (wn rfl) rfl rfl (.int .i64 ((i + 1 : Nat) : Int)) (ex_assign _ rfl _ (F.e rfl)) ?_; clear F a; intro a F
  refine wpList_nil ?_
  replace F : Fr 62 a [(0, .slice (some ad) xs.length c), (1, .agg o.arr), (3, .pointer (some ⟨g3, 0, none⟩)), (4, .slice none 0 0), (5, .int .i64 ((i + 1 : Nat) : Int)), (9, .bool true), (26, .bool false), (36, .bool false)] := F.keep ⟨rfl, rfl, rfl, rfl, rfl, rfl, rfl, rfl, trivial⟩
  refine then_n ?_
  exact ⟨xs.length - (i + 1), by omega, (i + 1), F.keep ⟨rfl, rfl, rfl, rfl, rfl, trivial⟩, (by refine M.pick' [0] _ ?_ (by decide); exact ⟨rfl, trivial⟩), O_x, G_, (by omega), (fun j hj => (Nat.lt_or_eq_of_le (Nat.le_of_lt_succ hj)).elim (fun h_ => hno j h_) (fun h_ => by subst h_; exact (fun y hy => by obtain rfl := Option.some.inj (hx.symm.trans hy); exact hcv))), (by omega)⟩
 obtain rfl : i = xs.length := by omega
 refine wp_seq ?_
 refine wp_seq ?_
 refine wp_region_lit ?_
 refine list_val F (wn rfl) rfl rfl (.int .i64 ((xs.length : Nat) : Int)) (ex_move _ rfl _ (F.e rfl)) ?_; clear F a; intro a F
 refine list_val F (wn rfl) rfl rfl (.slice A xs.length c) (ex_move _ rfl _ (F.e rfl)) ?_; clear F a; intro a F
 refine list_val F (wn rfl) rfl rfl (.int .i64 ((xs.length : Nat) : Int)) (ex_len _ _ rfl 19 r9_sl_24_19 _ _ _ (F.e rfl)) ?_; clear F a; intro a F
 refine list_val F (wn rfl) rfl rfl (.bool false) (ex_bin .lss _ _ _ _ rfl .i64 _ _ (F.e rfl) (F.e rfl) _ (b_lss (decide_eq_false (by omega)))) ?_; clear F a; intro a F
 refine wpList_nil ?_
 replace F : Fr 62 a [(0, .slice A xs.length c), (1, .agg o.arr), (3, .pointer (some ⟨g3, 0, none⟩)), (4, .slice none 0 0), (5, .int .i64 ((xs.length : Nat) : Int)), (9, .bool false)] := F.keep ⟨rfl, rfl, rfl, rfl, rfl, rfl, trivial⟩
 refine then_n ?_
 refine wp_cond_false (F.e rfl) ?_
 refine wp_exit ?_
 refine then_x ?_
 refine then_x ?_
 refine in_hit ?_
 refine then_n ?_
 refine wp_seq ?_
 refine wp_region_lit ?_
 refine list_val F (wn rfl) rfl rfl (.slice A xs.length c) (ex_move _ rfl _ (F.e rfl)) ?_; clear F a; intro a F
 refine list_val F (wn rfl) rfl rfl (.pointer (some ⟨g3, 1, none⟩)) (ex_fa _ _ _ rfl _ (F.e rfl) 1 r9_fa_29_1_1 ⟨g3, 1, none⟩ rfl) ?_; clear F a; intro a F
 refine list_val F (wn rfl) rfl rfl (.int .u64 o.grant) (ex_load _ _ rfl _ (F.e rfl) _ (lv1 r9_one_25 (M.cell (i := 0) rfl (j := 1) (St.arr_1 _)))) ?_; clear F a; intro a F
 refine list_val F (wn rfl) rfl rfl (.pointer (some ⟨g3, 2, none⟩)) (ex_fa _ _ _ rfl _ (F.e rfl) 2 r9_fa_29_2_2 ⟨g3, 2, none⟩ rfl) ?_; clear F a; intro a F
 refine list_val F (wn rfl) rfl rfl (.agg o.id.cs.toArray) (ex_load _ _ rfl _ (F.e rfl) _ (lrow27 o.id (St.id_at (M.at (i := 0) rfl)))) ?_; clear F a; intro a F
 refine list_val F (wn rfl) rfl rfl (.pointer (some ⟨g3, 18, none⟩)) (ex_fa _ _ _ rfl _ (F.e rfl) 18 r9_fa_29_3_18 ⟨g3, 18, none⟩ rfl) ?_; clear F a; intro a F
 refine list_val F (wn rfl) rfl rfl (.int .i64 o.exp) (ex_load _ _ rfl _ (F.e rfl) _ (lv1 r9_one_2 (M.cell (i := 0) rfl (j := 18) (St.arr_18 _)))) ?_; clear F a; intro a F
 refine list_val F (wn rfl) rfl rfl (.agg ((⟨false, o.grant, o.id, o.exp⟩ : Rv).arr)) (ex_build 35 _ rfl #[(0, .bool false), (1, .int .u64 o.grant), (2, .agg o.id.cs.toArray), (3, .int .i64 o.exp)] (parts4 rfl (F.e rfl) (F.e rfl) (F.e rfl)) (.agg ((⟨false, o.grant, o.id, o.exp⟩ : Rv).arr)) (build35_0123 false o.grant o.id o.exp _)) ?_; clear F a; intro a F
 refine list_do (wn rfl) (fun K hK => ?_)
 refine ow_bslice F M rfl rfl 24 1 _ rfl #[(0, .agg ((⟨false, o.grant, o.id, o.exp⟩ : Rv).arr))] (parts1 (F.e rfl)) ((⟨false, o.grant, o.id, o.exp⟩ : Rv).arr) 35 (newrow35 (⟨false, o.grant, o.id, o.exp⟩ : Rv) _) ?_
 clear F M a; intro a g60 v F M hb hg
 refine hK _ _ ?_
 clear hK K
 have lw_g60 : w.heap.size ≤ g60 := Nat.le_trans G_.size hg
 replace O_x := O_x.below hb
 replace G_ := gw_below G_ hb
 clear hb hg; try clear u
 refine list_do (wn rfl) (fun K hK => ?_)
 have hxx := C_one (enc := Rv.cs) (hl := Rv.cs_len) (h1 := Rv.cs_one) (M.at (i := 0) rfl)
 have SB : Bs0 ≤ v.heap.size := Nat.le_trans hB G_.size
 replace M : Mm (cutW w Bs0) v [] := (by refine M.pick' [] _ ?_ (by decide); exact trivial)
 refine og_app F M Try.underlying24 i35 z48s (by decide) (by decide) hw0 SB trivial rfl rfl rfl _ _ rfl (.slice A xs.length c) xs ([(⟨false, o.grant, o.id, o.exp⟩ : Rv)]) (addA xs o.grant o.id o.exp) (addA_end hno).symm (some ⟨g60, 0, none⟩) 1 1 (F.e rfl) (F.e rfl) O_x (hxx) (by omega) ?_
 clear F a; have Mo := M; clear M; intro a A_61 c_61 u F M Oz hgr
 refine hK _ _ ?_
 clear hK K
 replace G_ := gw_same G_ hgr
 replace SB := Nat.le_trans SB hgr.size
 clear O_x Mo hgr; have O_x := Oz; clear Oz; try clear v
 clear hxx
 refine list_val F (wn rfl) rfl rfl (.slice A_61 ((addA xs o.grant o.id o.exp).length) c_61) (ex_assign _ rfl _ (F.e rfl)) ?_; clear F a; intro a F
 refine wpList_nil ?_
 replace F : Fr 62 a [(0, .slice A xs.length c), (1, .agg o.arr), (3, .pointer (some ⟨g3, 0, none⟩)), (4, .slice A_61 ((addA xs o.grant o.id o.exp).length) c_61), (5, .int .i64 ((xs.length : Nat) : Int)), (9, .bool false)] := F.keep ⟨rfl, rfl, rfl, rfl, rfl, rfl, trivial⟩
 refine then_n ?_
 refine wp_ret ?_
 exact ret_tmp F rfl rfl ⟨_, _, rfl, O_x, G_⟩
set_option maxHeartbeats 1000000 in
set_option maxRecDepth 100000 in
theorem killed_any (xs : List Rv) (A : Option Addr) (c : Nat) (o : St) (w : World) (hr : kRv.C w A xs.length xs) (hmx : xs.length ≤ 1000000) :
    Calls Try.prog 9 #[.slice A xs.length c, .agg o.arr] w fun r w' => ∃ A' c', r = .returned (.slice A' (killA xs o.grant o.exp).length c') ∧ Ow kRv 35 w' w.heap.size (.slice A' (killA xs o.grant o.exp).length c') (killA xs o.grant o.exp) ∧ Below w.heap.size w w' := by
 refine calls_start Try.func9 rfl rfl rfl (fun a F => ?_)
 have M : Mm w w [] := Mm.nil w
 refine wp_seq ?_
 refine wp_region_lit ?_
 refine list_do (wn rfl) (fun K hK => ?_)
 refine ow_box F M rfl rfl 29 _ rfl _ (F.e rfl) o.arr rfl ?_
 clear F M a; intro a g3 v F M hb hg
 refine hK _ _ ?_
 clear hK K
 clear hb hg; try clear w
 refine list_val F (wn rfl) rfl rfl (.slice none 0 0) (ex_assign _ rfl _ rfl) ?_; clear F a; intro a F
 refine wpList_nil ?_
 replace F : Fr 60 a [(0, .slice A xs.length c), (1, .agg o.arr), (3, .pointer (some ⟨g3, 0, none⟩)), (4, .slice none 0 0)] := F.keep ⟨rfl, rfl, rfl, rfl, trivial⟩
 refine then_n ?_
 refine wp_seq ?_
 refine wp_region_lit ?_
 refine list_val F (wn rfl) rfl rfl (.pointer (some ⟨g3, 1, none⟩)) (ex_fa _ _ _ rfl _ (F.e rfl) 1 r9_fa_29_1_1 ⟨g3, 1, none⟩ rfl) ?_; clear F a; intro a F
 refine list_val F (wn rfl) rfl rfl (.int .u64 o.grant) (ex_load _ _ rfl _ (F.e rfl) _ (lv1 r9_one_25 (M.cell (i := 0) rfl (j := 1) (St.arr_1 _)))) ?_; clear F a; intro a F
 refine list_val F (wn rfl) rfl rfl (.agg ((zBs 16).cs.toArray)) (ex_build27 rfl) ?_; clear F a; intro a F
 refine list_val F (wn rfl) rfl rfl (.pointer (some ⟨g3, 18, none⟩)) (ex_fa _ _ _ rfl _ (F.e rfl) 18 r9_fa_29_3_18 ⟨g3, 18, none⟩ rfl) ?_; clear F a; intro a F
 refine list_val F (wn rfl) rfl rfl (.int .i64 o.exp) (ex_load _ _ rfl _ (F.e rfl) _ (lv1 r9_one_2 (M.cell (i := 0) rfl (j := 18) (St.arr_18 _)))) ?_; clear F a; intro a F
 refine list_val F (wn rfl) rfl rfl (.agg ((⟨true, o.grant, (zBs 16), o.exp⟩ : Rv).arr)) (ex_build 35 _ rfl #[(0, .bool true), (1, .int .u64 o.grant), (2, .agg ((zBs 16).cs.toArray)), (3, .int .i64 o.exp)] (parts4 rfl (F.e rfl) (F.e rfl) (F.e rfl)) (.agg ((⟨true, o.grant, (zBs 16), o.exp⟩ : Rv).arr)) (build35_0123 true o.grant (zBs 16) o.exp _)) ?_; clear F a; intro a F
 refine list_do (wn rfl) (fun K hK => ?_)
 refine ow_alloc F M rfl rfl 35 rfl (.agg zRv.arr) zero35 zRv.arr rfl ?_
 clear F M a; intro a g5 u F M hb hg
 refine hK _ _ ?_
 clear hK K
 clear hb hg; try clear v
 refine list_do (wn rfl) (fun K hK => ?_)
 refine ow_put F M rfl 35 _ _ rfl 0 _ zRv.arr _ rfl (F.e rfl) ((⟨true, o.grant, (zBs 16), o.exp⟩ : Rv).arr) (F.e rfl) (sz35 _) (by simp only [Rv.arr_size]) (Rv.arr_one _) ?_
 clear F a; have Mo := M; clear M; intro a v F M hgr
 refine hK _ _ ?_
 clear hK K
 clear Mo hgr; try clear u
 replace M : Mm w v [⟨g5, (⟨true, o.grant, (zBs 16), o.exp⟩ : Rv).arr, 35⟩, ⟨g3, o.arr, 29⟩] := M
 refine wpList_nil ?_
 replace F : Fr 60 a [(0, .slice A xs.length c), (1, .agg o.arr), (3, .pointer (some ⟨g3, 0, none⟩)), (4, .slice none 0 0), (5, .pointer (some ⟨g5, 0, none⟩))] := F.keep ⟨rfl, rfl, rfl, rfl, rfl, trivial⟩
 refine then_n ?_
 refine wp_seq ?_
 refine wp_region_lit ?_
 refine list_val F (wn rfl) rfl rfl (.slice none 0 0) (ex_assign _ rfl _ rfl) ?_; clear F a; intro a F
 refine wpList_nil ?_
 replace F : Fr 60 a [(0, .slice A xs.length c), (1, .agg o.arr), (3, .pointer (some ⟨g3, 0, none⟩)), (4, .slice none 0 0), (5, .pointer (some ⟨g5, 0, none⟩)), (6, .slice none 0 0)] := F.keep ⟨rfl, rfl, rfl, rfl, rfl, rfl, trivial⟩
 refine then_n ?_
 refine wp_seq ?_
 refine wp_seq ?_
 obtain ⟨bs, hbs⟩ : ∃ bs, bs = v.heap.size := ⟨_, rfl⟩
 have SB : bs ≤ v.heap.size := by rw [hbs]; exact Nat.le_refl _
 have hw0 : w.heap.size ≤ bs := by rw [hbs]; exact M.bel.size
 have hg5 : g5 < bs := by rw [hbs]; exact M.lt (i := 0) rfl
 clear hbs
 have O_f : Ow kRv 35 v bs (.slice none 0 0) [] := Ow.nil _ _ _ _
 refine wp_region_lit ?_
 refine list_val F (wn rfl) rfl rfl (.int .i64 0) (ex_assign _ rfl _ rfl) ?_; clear F a; intro a F
 refine wpList_nil ?_
 replace F : Fr 60 a [(0, .slice A xs.length c), (1, .agg o.arr), (3, .pointer (some ⟨g3, 0, none⟩)), (4, .slice none 0 0), (5, .pointer (some ⟨g5, 0, none⟩)), (6, .slice none 0 0), (7, .int .i64 0)] := F.keep ⟨rfl, rfl, rfl, rfl, rfl, rfl, rfl, trivial⟩
 refine then_n ?_
 refine wp_block ?_
 refine wp_loopN (fun mq ar wr => ∃ (i : Nat), ∃ (A_f : Option Addr), ∃ (c_f : Nat), ∃ (lf : List Rv), ∃ (ep : Int), Fr 60 ar [(0, .slice A xs.length c), (1, .agg o.arr), (3, .pointer (some ⟨g3, 0, none⟩)), (4, .slice none 0 0), (5, .pointer (some ⟨g5, 0, none⟩)), (6, .slice A_f lf.length c_f), (7, .int .i64 ((i : Nat) : Int))] ∧ Mm w wr [⟨g5, ((⟨true, o.grant, zBs 16, ep⟩ : Rv).arr), 35⟩, ⟨g3, o.arr, 29⟩] ∧ bs ≤ wr.heap.size ∧ Ow kRv 35 wr bs (.slice A_f lf.length c_f) lf ∧ i ≤ xs.length ∧ lf = othF (xs.take i) o.grant ∧ ep = maxW (xs.take i) o.grant o.exp ∧ mq + i = xs.length) xs.length ?_ ?_
 ·
  exact ⟨0, none, 0, [], o.exp, F.keep ⟨rfl, rfl, rfl, rfl, rfl, rfl, rfl, trivial⟩, M, SB, O_f, (Nat.zero_le _), rfl, rfl, (by omega)⟩
 clear F M a SB O_f
 rintro mq a u ⟨i, A_f, c_f, lf, ep, F, M, SB, O_f, hi, hlf, hep, hq⟩; try clear v
 by_cases hin : i < xs.length
 ·
  obtain ⟨x, hx⟩ : ∃ x, xs[i]? = some x := ⟨_, List.getElem?_eq_getElem (by omega)⟩
  obtain ⟨ad, hA, z⟩ := C_ix hr hx
  subst hA
  refine wp_seq ?_
  refine wp_seq ?_
  refine wp_region_lit ?_
  refine list_val F (wn rfl) rfl rfl (.int .i64 ((i : Nat) : Int)) (ex_move _ rfl _ (F.e rfl)) ?_; clear F a; intro a F
  refine list_val F (wn rfl) rfl rfl (.slice (some ad) xs.length c) (ex_move _ rfl _ (F.e rfl)) ?_; clear F a; intro a F
  refine list_val F (wn rfl) rfl rfl (.int .i64 ((xs.length : Nat) : Int)) (ex_len _ _ rfl 19 r9_sl_24_19 _ _ _ (F.e rfl)) ?_; clear F a; intro a F
  refine list_val F (wn rfl) rfl rfl (.bool true) (ex_bin .lss _ _ _ _ rfl .i64 _ _ (F.e rfl) (F.e rfl) _ (b_lss (decide_eq_true (by omega)))) ?_; clear F a; intro a F
  refine wpList_nil ?_
  replace F : Fr 60 a [(0, .slice (some ad) xs.length c), (1, .agg o.arr), (3, .pointer (some ⟨g3, 0, none⟩)), (4, .slice none 0 0), (5, .pointer (some ⟨g5, 0, none⟩)), (6, .slice A_f lf.length c_f), (7, .int .i64 ((i : Nat) : Int)), (17, .bool true)] := F.keep ⟨rfl, rfl, rfl, rfl, rfl, rfl, rfl, rfl, trivial⟩
  refine then_n ?_
  refine wp_cond_true (F.e rfl) ?_
  refine wp_skip ?_
  refine then_n ?_
  refine wp_seq ?_
  refine wp_block ?_
  refine wp_seq ?_
  by_cases hg : x.grant = o.grant
  ·
   refine region_tail 7 r9_follows_mixedOrders (by kernel_rfl) M ?_; clear M; intro v M hb
   replace SB := Nat.le_trans SB hb.size
   replace O_f := O_f.below hb
   clear hb; try clear u
   refine still_val F (wn rfl) rfl rfl (.slice (some ad) xs.length c) (ex_move _ rfl _ (F.e rfl)) ?_; clear F a; intro a F
   refine still_val F (wn rfl) rfl rfl (.int .i64 ((i : Nat) : Int)) (ex_move _ rfl _ (F.e rfl)) ?_; clear F a; intro a F
   refine still_val F (wn rfl) rfl rfl (.pointer (some (ad.add (i * 19)))) (ex_ix _ _ _ rfl 19 r9_sl_24_19 ad _ _ (F.e rfl) .i64 _ (F.e rfl) i rfl (by omega) (ad.add (i * 19)) rfl) ?_; clear F a; intro a F
   refine still_val F (wn rfl) rfl rfl (.pointer (some ((ad.add (i * 19)).add 1))) (ex_fa _ _ _ rfl _ (F.e rfl) 1 r9_fa_35_1_1 ((ad.add (i * 19)).add 1) rfl) ?_; clear F a; intro a F
   refine still_val F (wn rfl) rfl rfl (.int .u64 x.grant) (ex_load _ _ rfl _ (F.e rfl) _ (lv1 r9_one_25 ((z.below M.bel).cell 1 _ (Rv.cs_1 _)))) ?_; clear F a; intro a F
   refine still_val F (wn rfl) rfl rfl (.pointer (some ⟨g3, 1, none⟩)) (ex_fa _ _ _ rfl _ (F.e rfl) 1 r9_fa_29_1_1 ⟨g3, 1, none⟩ rfl) ?_; clear F a; intro a F
   refine still_val F (wn rfl) rfl rfl (.int .u64 o.grant) (ex_load _ _ rfl _ (F.e rfl) _ (lv1 r9_one_25 (M.cell (i := 1) rfl (j := 1) (St.arr_1 _)))) ?_; clear F a; intro a F
   refine still_end ?_
   refine list_val F (wn rfl) rfl rfl (.bool false) (ex_bin .neq _ _ _ _ rfl .u64 _ _ (F.e rfl) (F.e rfl) _ (b_neq (by simp [hg]))) ?_; clear F a; intro a F
   refine wpList_nil ?_
   replace F : Fr 60 a [(0, .slice (some ad) xs.length c), (1, .agg o.arr), (3, .pointer (some ⟨g3, 0, none⟩)), (4, .slice none 0 0), (5, .pointer (some ⟨g5, 0, none⟩)), (6, .slice A_f lf.length c_f), (7, .int .i64 ((i : Nat) : Int)), (17, .bool true), (27, .bool false)] := F.keep ⟨rfl, rfl, rfl, rfl, rfl, rfl, rfl, rfl, rfl, trivial⟩
   refine then_n ?_
   refine wp_cond_false (F.e rfl) ?_
   refine wp_seq ?_
   by_cases hw : x.whole = true
   ·
    by_cases hgt : ep < x.exp
    ·
     refine region_tail 14 r9_follows_mixedOrders (by kernel_rfl) M ?_; clear M; intro u M hb
     replace SB := Nat.le_trans SB hb.size
     replace O_f := O_f.below hb
     clear hb; try clear v
     refine still_val F (wn rfl) rfl rfl (.slice (some ad) xs.length c) (ex_move _ rfl _ (F.e rfl)) ?_; clear F a; intro a F
     refine still_val F (wn rfl) rfl rfl (.int .i64 ((i : Nat) : Int)) (ex_move _ rfl _ (F.e rfl)) ?_; clear F a; intro a F
     refine still_val F (wn rfl) rfl rfl (.pointer (some (ad.add (i * 19)))) (ex_ix _ _ _ rfl 19 r9_sl_24_19 ad _ _ (F.e rfl) .i64 _ (F.e rfl) i rfl (by omega) (ad.add (i * 19)) rfl) ?_; clear F a; intro a F
     refine still_val F (wn rfl) rfl rfl (.pointer (some (ad.add (i * 19)))) (ex_fa _ _ _ rfl _ (F.e rfl) 0 r9_fa_35_0_0 (ad.add (i * 19)) rfl) ?_; clear F a; intro a F
     refine still_val F (wn rfl) rfl rfl (.bool true) (ex_load _ _ rfl _ (F.e rfl) _ (lv1 r9_one_4 ((z.below M.bel).cell 0 _ (Rv.cs_0e hw)))) ?_; clear F a; intro a F
     refine still_val F (wn rfl) rfl rfl (.bool true) (ex_move _ rfl _ (F.e rfl)) ?_; clear F a; intro a F
     refine still_val F (F.wants 40 true rfl (by kernel_rfl) rfl true rfl) rfl rfl (.slice (some ad) xs.length c) (ex_move _ rfl _ (F.e rfl)) ?_; clear F a; intro a F
     refine still_val F (F.wants 40 true rfl (by kernel_rfl) rfl true rfl) rfl rfl (.int .i64 ((i : Nat) : Int)) (ex_move _ rfl _ (F.e rfl)) ?_; clear F a; intro a F
     refine still_val F (F.wants 40 true rfl (by kernel_rfl) rfl true rfl) rfl rfl (.pointer (some (ad.add (i * 19)))) (ex_ix _ _ _ rfl 19 r9_sl_24_19 ad _ _ (F.e rfl) .i64 _ (F.e rfl) i rfl (by omega) (ad.add (i * 19)) rfl) ?_; clear F a; intro a F
     refine still_val F (F.wants 40 true rfl (by kernel_rfl) rfl true rfl) rfl rfl (.pointer (some ((ad.add (i * 19)).add 18))) (ex_fa _ _ _ rfl _ (F.e rfl) 18 r9_fa_35_3_18 ((ad.add (i * 19)).add 18) rfl) ?_; clear F a; intro a F
     refine still_val F (F.wants 40 true rfl (by kernel_rfl) rfl true rfl) rfl rfl (.int .i64 x.exp) (ex_load _ _ rfl _ (F.e rfl) _ (lv1 r9_one_2 ((z.below M.bel).cell 18 _ (Rv.cs_18 _)))) ?_; clear F a; intro a F
     refine still_val F (F.wants 40 true rfl (by kernel_rfl) rfl true rfl) rfl rfl (.pointer (some ⟨g5, 18, none⟩)) (ex_fa _ _ _ rfl _ (F.e rfl) 18 r9_fa_35_3_18 ⟨g5, 18, none⟩ rfl) ?_; clear F a; intro a F
     refine still_val F (F.wants 40 true rfl (by kernel_rfl) rfl true rfl) rfl rfl (.int .i64 ((⟨true, o.grant, zBs 16, ep⟩ : Rv).exp)) (ex_load _ _ rfl _ (F.e rfl) _ (lv1 r9_one_2 (M.cell (i := 0) rfl (j := 18) (Rv.arr_18 _)))) ?_; clear F a; intro a F
     refine still_val F (F.wants 40 true rfl (by kernel_rfl) rfl true rfl) rfl rfl (.bool true) (ex_bin .gtr _ _ _ _ rfl .i64 _ _ (F.e rfl) (F.e rfl) _ (b_gtr (decide_eq_true hgt))) ?_; clear F a; intro a F
     refine still_end ?_
     refine list_val F (wn rfl) rfl rfl (.bool true) (ex_pick_t _ _ _ rfl (F.e rfl) _ (F.e rfl)) ?_; clear F a; intro a F
     refine wpList_nil ?_
     replace F : Fr 60 a [(0, .slice (some ad) xs.length c), (1, .agg o.arr), (3, .pointer (some ⟨g3, 0, none⟩)), (4, .slice none 0 0), (5, .pointer (some ⟨g5, 0, none⟩)), (6, .slice A_f lf.length c_f), (7, .int .i64 ((i : Nat) : Int)), (17, .bool true), (27, .bool false), (49, .bool true)] := F.keep ⟨rfl, rfl, rfl, rfl, rfl, rfl, rfl, rfl, rfl, rfl, trivial⟩
     refine then_n ?_
     refine wp_cond_true (F.e rfl) ?_
     refine wp_region_lit ?_
     refine list_val F (wn rfl) rfl rfl (.slice (some ad) xs.length c) (ex_move _ rfl _ (F.e rfl)) ?_; clear F a; intro a F
     refine list_val F (wn rfl) rfl rfl (.int .i64 ((i : Nat) : Int)) (ex_move _ rfl _ (F.e rfl)) ?_; clear F a; intro a F
     refine list_val F (wn rfl) rfl rfl (.pointer (some (ad.add (i * 19)))) (ex_ix _ _ _ rfl 19 r9_sl_24_19 ad _ _ (F.e rfl) .i64 _ (F.e rfl) i rfl (by omega) (ad.add (i * 19)) rfl) ?_; clear F a; intro a F
     refine list_val F (wn rfl) rfl rfl (.pointer (some ((ad.add (i * 19)).add 18))) (ex_fa _ _ _ rfl _ (F.e rfl) 18 r9_fa_35_3_18 ((ad.add (i * 19)).add 18) rfl) ?_; clear F a; intro a F
     refine list_val F (wn rfl) rfl rfl (.int .i64 x.exp) (ex_load _ _ rfl _ (F.e rfl) _ (lv1 r9_one_2 ((z.below M.bel).cell 18 _ (Rv.cs_18 _)))) ?_; clear F a; intro a F
     refine list_val F (wn rfl) rfl rfl (.pointer (some ⟨g5, 18, none⟩)) (ex_fa _ _ _ rfl _ (F.e rfl) 18 r9_fa_35_3_18 ⟨g5, 18, none⟩ rfl) ?_; clear F a; intro a F
     refine list_do (wn rfl) (fun K hK => ?_)
     refine ow_store F M rfl 2 _ _ rfl 0 g5 ((⟨true, o.grant, zBs 16, ep⟩ : Rv).arr) _ rfl (18) (F.e rfl) _ (F.e rfl) [.int .i64 x.exp] rfl r9_info_2_map_size_some_1 (by rw [Rv.arr_size]; simp only [List.length_cons, List.length_nil]; omega) (by simp [Value.oneCell']) ((⟨true, o.grant, zBs 16, x.exp⟩ : Rv).arr) (congrArg List.toArray (Rv.set_18 (⟨true, o.grant, zBs 16, ep⟩ : Rv) x.exp)) ?_
     clear F a; have Mo := M; clear M; intro a v F M hgr
     refine hK _ _ ?_
     clear hK K
     replace SB := Nat.le_trans SB hgr.size
     replace O_f := O_f.grown (Mo.blk 0 _ rfl) (.inr (by omega)) hgr
     clear Mo hgr; try clear u
     replace M : Mm w v [⟨g5, ((⟨true, o.grant, zBs 16, x.exp⟩ : Rv).arr), 35⟩, ⟨g3, o.arr, 29⟩] := M
     refine wpList_nil ?_
     replace F : Fr 60 a [(0, .slice (some ad) xs.length c), (1, .agg o.arr), (3, .pointer (some ⟨g3, 0, none⟩)), (4, .slice none 0 0), (5, .pointer (some ⟨g5, 0, none⟩)), (6, .slice A_f lf.length c_f), (7, .int .i64 ((i : Nat) : Int)), (17, .bool true), (27, .bool false), (49, .bool true)] := F.keep ⟨rfl, rfl, rfl, rfl, rfl, rfl, rfl, rfl, rfl, rfl, trivial⟩
     refine in_n ?_
     refine then_n ?_
     refine wp_region_lit ?_
     refine list_val F (wn rfl) rfl rfl (.int .i64 ((i : Nat) : Int)) (ex_move _ rfl _ (F.e rfl)) ?_; clear F a; intro a F
     refine list_val F (wn rfl) rfl rfl (.int .i64 ((i + 1 : Nat) : Int)) (ex_bin .add _ _ _ _ rfl .i64 _ _ (F.e rfl) rfl _ (b_add ((w_i64 (by omega) (by omega)).trans (by omega)))) ?_; clear F a; intro a F
     refine list_val F (wn rfl) rfl rfl (.int .i64 ((i + 1 : Nat) : Int)) (ex_assign _ rfl _ (F.e rfl)) ?_; clear F a; intro a F
     refine wpList_nil ?_
     replace F : Fr 60 a [(0, .slice (some ad) xs.length c), (1, .agg o.arr), (3, .pointer (some ⟨g3, 0, none⟩)), (4, .slice none 0 0), (5, .pointer (some ⟨g5, 0, none⟩)), (6, .slice A_f lf.length c_f), (7, .int .i64 ((i + 1 : Nat) : Int)), (17, .bool true), (27, .bool false), (49, .bool true)] := F.keep ⟨rfl, rfl, rfl, rfl, rfl, rfl, rfl, rfl, rfl, rfl, trivial⟩
     refine then_n ?_
     exact ⟨xs.length - (i + 1), by omega, (i + 1), A_f, c_f, lf, x.exp, F.keep ⟨rfl, rfl, rfl, rfl, rfl, rfl, rfl, trivial⟩, (by refine M.pick' [0, 1] _ ?_ (by decide); exact ⟨rfl, rfl, trivial⟩), SB, O_f, (by omega), (by rw [oth_no hx hg, ← hlf]), (by rw [maxW_yes hx hg hw, ← hep]; omega), (by omega)⟩
    refine region_tail 14 r9_follows_mixedOrders (by kernel_rfl) M ?_; clear M; intro u M hb
    replace SB := Nat.le_trans SB hb.size
    replace O_f := O_f.below hb
    clear hb; try clear v
    refine still_val F (wn rfl) rfl rfl (.slice (some ad) xs.length c) (ex_move _ rfl _ (F.e rfl)) ?_; clear F a; intro a F
    refine still_val F (wn rfl) rfl rfl (.int .i64 ((i : Nat) : Int)) (ex_move _ rfl _ (F.e rfl)) ?_; clear F a; intro a F
    refine still_val F (wn rfl) rfl rfl (.pointer (some (ad.add (i * 19)))) (ex_ix _ _ _ rfl 19 r9_sl_24_19 ad _ _ (F.e rfl) .i64 _ (F.e rfl) i rfl (by omega) (ad.add (i * 19)) rfl) ?_; clear F a; intro a F
    refine still_val F (wn rfl) rfl rfl (.pointer (some (ad.add (i * 19)))) (ex_fa _ _ _ rfl _ (F.e rfl) 0 r9_fa_35_0_0 (ad.add (i * 19)) rfl) ?_; clear F a; intro a F
    refine still_val F (wn rfl) rfl rfl (.bool true) (ex_load _ _ rfl _ (F.e rfl) _ (lv1 r9_one_4 ((z.below M.bel).cell 0 _ (Rv.cs_0e hw)))) ?_; clear F a; intro a F
    refine still_val F (wn rfl) rfl rfl (.bool true) (ex_move _ rfl _ (F.e rfl)) ?_; clear F a; intro a F
    refine still_val F (F.wants 40 true rfl (by kernel_rfl) rfl true rfl) rfl rfl (.slice (some ad) xs.length c) (ex_move _ rfl _ (F.e rfl)) ?_; clear F a; intro a F
    refine still_val F (F.wants 40 true rfl (by kernel_rfl) rfl true rfl) rfl rfl (.int .i64 ((i : Nat) : Int)) (ex_move _ rfl _ (F.e rfl)) ?_; clear F a; intro a F
    refine still_val F (F.wants 40 true rfl (by kernel_rfl) rfl true rfl) rfl rfl (.pointer (some (ad.add (i * 19)))) (ex_ix _ _ _ rfl 19 r9_sl_24_19 ad _ _ (F.e rfl) .i64 _ (F.e rfl) i rfl (by omega) (ad.add (i * 19)) rfl) ?_; clear F a; intro a F
    refine still_val F (F.wants 40 true rfl (by kernel_rfl) rfl true rfl) rfl rfl (.pointer (some ((ad.add (i * 19)).add 18))) (ex_fa _ _ _ rfl _ (F.e rfl) 18 r9_fa_35_3_18 ((ad.add (i * 19)).add 18) rfl) ?_; clear F a; intro a F
    refine still_val F (F.wants 40 true rfl (by kernel_rfl) rfl true rfl) rfl rfl (.int .i64 x.exp) (ex_load _ _ rfl _ (F.e rfl) _ (lv1 r9_one_2 ((z.below M.bel).cell 18 _ (Rv.cs_18 _)))) ?_; clear F a; intro a F
    refine still_val F (F.wants 40 true rfl (by kernel_rfl) rfl true rfl) rfl rfl (.pointer (some ⟨g5, 18, none⟩)) (ex_fa _ _ _ rfl _ (F.e rfl) 18 r9_fa_35_3_18 ⟨g5, 18, none⟩ rfl) ?_; clear F a; intro a F
    refine still_val F (F.wants 40 true rfl (by kernel_rfl) rfl true rfl) rfl rfl (.int .i64 ((⟨true, o.grant, zBs 16, ep⟩ : Rv).exp)) (ex_load _ _ rfl _ (F.e rfl) _ (lv1 r9_one_2 (M.cell (i := 0) rfl (j := 18) (Rv.arr_18 _)))) ?_; clear F a; intro a F
    refine still_val F (F.wants 40 true rfl (by kernel_rfl) rfl true rfl) rfl rfl (.bool false) (ex_bin .gtr _ _ _ _ rfl .i64 _ _ (F.e rfl) (F.e rfl) _ (b_gtr (decide_eq_false hgt))) ?_; clear F a; intro a F
    refine still_end ?_
    refine list_val F (wn rfl) rfl rfl (.bool false) (ex_pick_t _ _ _ rfl (F.e rfl) _ (F.e rfl)) ?_; clear F a; intro a F
    refine wpList_nil ?_
    replace F : Fr 60 a [(0, .slice (some ad) xs.length c), (1, .agg o.arr), (3, .pointer (some ⟨g3, 0, none⟩)), (4, .slice none 0 0), (5, .pointer (some ⟨g5, 0, none⟩)), (6, .slice A_f lf.length c_f), (7, .int .i64 ((i : Nat) : Int)), (17, .bool true), (27, .bool false), (49, .bool false)] := F.keep ⟨rfl, rfl, rfl, rfl, rfl, rfl, rfl, rfl, rfl, rfl, trivial⟩
    refine then_n ?_
    refine wp_cond_false (F.e rfl) ?_
    refine wp_skip ?_
    refine in_n ?_
    refine then_n ?_
    refine wp_region_lit ?_
    refine list_val F (wn rfl) rfl rfl (.int .i64 ((i : Nat) : Int)) (ex_move _ rfl _ (F.e rfl)) ?_; clear F a; intro a F
    refine list_val F (wn rfl) rfl rfl (.int .i64 ((i + 1 : Nat) : Int)) (ex_bin .add _ _ _ _ rfl .i64 _ _ (F.e rfl) rfl _ (b_add ((w_i64 (by omega) (by omega)).trans (by omega)))) ?_; clear F a; intro a F
    refine list_val F (wn rfl) rfl rfl (.int .i64 ((i + 1 : Nat) : Int)) (ex_assign _ rfl _ (F.e rfl)) ?_; clear F a; intro a F
    refine wpList_nil ?_
    replace F : Fr 60 a [(0, .slice (some ad) xs.length c), (1, .agg o.arr), (3, .pointer (some ⟨g3, 0, none⟩)), (4, .slice none 0 0), (5, .pointer (some ⟨g5, 0, none⟩)), (6, .slice A_f lf.length c_f), (7, .int .i64 ((i + 1 : Nat) : Int)), (17, .bool true), (27, .bool false), (49, .bool false)] := F.keep ⟨rfl, rfl, rfl, rfl, rfl, rfl, rfl, rfl, rfl, rfl, trivial⟩
    refine then_n ?_
    exact ⟨xs.length - (i + 1), by omega, (i + 1), A_f, c_f, lf, ep, F.keep ⟨rfl, rfl, rfl, rfl, rfl, rfl, rfl, trivial⟩, (by refine M.pick' [0, 1] _ ?_ (by decide); exact ⟨rfl, rfl, trivial⟩), SB, O_f, (by omega), (by rw [oth_no hx hg, ← hlf]), (by rw [maxW_yes hx hg hw, ← hep]; omega), (by omega)⟩
   refine region_tail 14 r9_follows_mixedOrders (by kernel_rfl) M ?_; clear M; intro u M hb
   replace SB := Nat.le_trans SB hb.size
   replace O_f := O_f.below hb
   clear hb; try clear v
   refine still_val F (wn rfl) rfl rfl (.slice (some ad) xs.length c) (ex_move _ rfl _ (F.e rfl)) ?_; clear F a; intro a F
   refine still_val F (wn rfl) rfl rfl (.int .i64 ((i : Nat) : Int)) (ex_move _ rfl _ (F.e rfl)) ?_; clear F a; intro a F
   refine still_val F (wn rfl) rfl rfl (.pointer (some (ad.add (i * 19)))) (ex_ix _ _ _ rfl 19 r9_sl_24_19 ad _ _ (F.e rfl) .i64 _ (F.e rfl) i rfl (by omega) (ad.add (i * 19)) rfl) ?_; clear F a; intro a F
   refine still_val F (wn rfl) rfl rfl (.pointer (some (ad.add (i * 19)))) (ex_fa _ _ _ rfl _ (F.e rfl) 0 r9_fa_35_0_0 (ad.add (i * 19)) rfl) ?_; clear F a; intro a F
   refine still_val F (wn rfl) rfl rfl (.bool false) (ex_load _ _ rfl _ (F.e rfl) _ (lv1 r9_one_4 ((z.below M.bel).cell 0 _ (Rv.cs_0e (Bool.eq_false_iff.2 hw))))) ?_; clear F a; intro a F
   refine still_val F (wn rfl) rfl rfl (.bool false) (ex_move _ rfl _ (F.e rfl)) ?_; clear F a; intro a F
   refine still_skip F (F.wants 40 false rfl (by kernel_rfl) rfl false rfl) rfl rfl ?_; clear F a; intro a F
   refine still_skip F (F.wants 40 false rfl (by kernel_rfl) rfl false rfl) rfl rfl ?_; clear F a; intro a F
   refine still_skip F (F.wants 40 false rfl (by kernel_rfl) rfl false rfl) rfl rfl ?_; clear F a; intro a F
   refine still_skip F (F.wants 40 false rfl (by kernel_rfl) rfl false rfl) rfl rfl ?_; clear F a; intro a F
   refine still_skip F (F.wants 40 false rfl (by kernel_rfl) rfl false rfl) rfl rfl ?_; clear F a; intro a F
   refine still_skip F (F.wants 40 false rfl (by kernel_rfl) rfl false rfl) rfl rfl ?_; clear F a; intro a F
   refine still_skip F (F.wants 40 false rfl (by kernel_rfl) rfl false rfl) rfl rfl ?_; clear F a; intro a F
   refine still_skip F (F.wants 40 false rfl (by kernel_rfl) rfl false rfl) rfl rfl ?_; clear F a; intro a F
   refine still_end ?_
   refine list_val F (wn rfl) rfl rfl (.bool false) (ex_pick_f _ _ _ rfl (F.e rfl) _ rfl) ?_; clear F a; intro a F
   refine wpList_nil ?_
   replace F : Fr 60 a [(0, .slice (some ad) xs.length c), (1, .agg o.arr), (3, .pointer (some ⟨g3, 0, none⟩)), (4, .slice none 0 0), (5, .pointer (some ⟨g5, 0, none⟩)), (6, .slice A_f lf.length c_f), (7, .int .i64 ((i : Nat) : Int)), (17, .bool true), (27, .bool false), (49, .bool false)] := F.keep ⟨rfl, rfl, rfl, rfl, rfl, rfl, rfl, rfl, rfl, rfl, trivial⟩
   refine then_n ?_
   refine wp_cond_false (F.e rfl) ?_
   refine wp_skip ?_
   refine in_n ?_
   refine then_n ?_
   refine wp_region_lit ?_
   refine list_val F (wn rfl) rfl rfl (.int .i64 ((i : Nat) : Int)) (ex_move _ rfl _ (F.e rfl)) ?_; clear F a; intro a F
   refine list_val F (wn rfl) rfl rfl (.int .i64 ((i + 1 : Nat) : Int)) (ex_bin .add _ _ _ _ rfl .i64 _ _ (F.e rfl) rfl _ (b_add ((w_i64 (by omega) (by omega)).trans (by omega)))) ?_; clear F a; intro a F
   refine list_val F (wn rfl) rfl rfl (.int .i64 ((i + 1 : Nat) : Int)) (ex_assign _ rfl _ (F.e rfl)) ?_; clear F a; intro a F
   refine wpList_nil ?_
   replace F : Fr 60 a [(0, .slice (some ad) xs.length c), (1, .agg o.arr), (3, .pointer (some ⟨g3, 0, none⟩)), (4, .slice none 0 0), (5, .pointer (some ⟨g5, 0, none⟩)), (6, .slice A_f lf.length c_f), (7, .int .i64 ((i + 1 : Nat) : Int)), (17, .bool true), (27, .bool false), (49, .bool false)] := F.keep ⟨rfl, rfl, rfl, rfl, rfl, rfl, rfl, rfl, rfl, rfl, trivial⟩
   refine then_n ?_
   exact ⟨xs.length - (i + 1), by omega, (i + 1), A_f, c_f, lf, ep, F.keep ⟨rfl, rfl, rfl, rfl, rfl, rfl, rfl, trivial⟩, (by refine M.pick' [0, 1] _ ?_ (by decide); exact ⟨rfl, rfl, trivial⟩), SB, O_f, (by omega), (by rw [oth_no hx hg, ← hlf]), (by rw [maxW_no hx (fun h => hw h.2), ← hep]), (by omega)⟩
  refine region_tail 7 r9_follows_mixedOrders (by kernel_rfl) M ?_; clear M; intro v M hb
  replace SB := Nat.le_trans SB hb.size
  replace O_f := O_f.below hb
  clear hb; try clear u
  refine still_val F (wn rfl) rfl rfl (.slice (some ad) xs.length c) (ex_move _ rfl _ (F.e rfl)) ?_; clear F a; intro a F
  refine still_val F (wn rfl) rfl rfl (.int .i64 ((i : Nat) : Int)) (ex_move _ rfl _ (F.e rfl)) ?_; clear F a; intro a F
  refine still_val F (wn rfl) rfl rfl (.pointer (some (ad.add (i * 19)))) (ex_ix _ _ _ rfl 19 r9_sl_24_19 ad _ _ (F.e rfl) .i64 _ (F.e rfl) i rfl (by omega) (ad.add (i * 19)) rfl) ?_; clear F a; intro a F
  refine still_val F (wn rfl) rfl rfl (.pointer (some ((ad.add (i * 19)).add 1))) (ex_fa _ _ _ rfl _ (F.e rfl) 1 r9_fa_35_1_1 ((ad.add (i * 19)).add 1) rfl) ?_; clear F a; intro a F
  refine still_val F (wn rfl) rfl rfl (.int .u64 x.grant) (ex_load _ _ rfl _ (F.e rfl) _ (lv1 r9_one_25 ((z.below M.bel).cell 1 _ (Rv.cs_1 _)))) ?_; clear F a; intro a F
  refine still_val F (wn rfl) rfl rfl (.pointer (some ⟨g3, 1, none⟩)) (ex_fa _ _ _ rfl _ (F.e rfl) 1 r9_fa_29_1_1 ⟨g3, 1, none⟩ rfl) ?_; clear F a; intro a F
  refine still_val F (wn rfl) rfl rfl (.int .u64 o.grant) (ex_load _ _ rfl _ (F.e rfl) _ (lv1 r9_one_25 (M.cell (i := 1) rfl (j := 1) (St.arr_1 _)))) ?_; clear F a; intro a F
  refine still_end ?_
  refine list_val F (wn rfl) rfl rfl (.bool true) (ex_bin .neq _ _ _ _ rfl .u64 _ _ (F.e rfl) (F.e rfl) _ (b_neq (by simp [hg]))) ?_; clear F a; intro a F
  refine wpList_nil ?_
  replace F : Fr 60 a [(0, .slice (some ad) xs.length c), (1, .agg o.arr), (3, .pointer (some ⟨g3, 0, none⟩)), (4, .slice none 0 0), (5, .pointer (some ⟨g5, 0, none⟩)), (6, .slice A_f lf.length c_f), (7, .int .i64 ((i : Nat) : Int)), (17, .bool true), (27, .bool true)] := F.keep ⟨rfl, rfl, rfl, rfl, rfl, rfl, rfl, rfl, rfl, trivial⟩
  refine then_n ?_
  refine wp_cond_true (F.e rfl) ?_
  refine wp_region_lit ?_
  refine list_val F (wn rfl) rfl rfl (.slice A_f lf.length c_f) (ex_move _ rfl _ (F.e rfl)) ?_; clear F a; intro a F
  refine list_val F (wn rfl) rfl rfl (.slice (some ad) xs.length c) (ex_move _ rfl _ (F.e rfl)) ?_; clear F a; intro a F
  refine list_val F (wn rfl) rfl rfl (.int .i64 ((i : Nat) : Int)) (ex_move _ rfl _ (F.e rfl)) ?_; clear F a; intro a F
  refine list_val F (wn rfl) rfl rfl (.pointer (some (ad.add (i * 19)))) (ex_ix _ _ _ rfl 19 r9_sl_24_19 ad _ _ (F.e rfl) .i64 _ (F.e rfl) i rfl (by omega) (ad.add (i * 19)) rfl) ?_; clear F a; intro a F
  refine list_val F (wn rfl) rfl rfl (.agg x.arr) (ex_load _ _ rfl _ (F.e rfl) _ (lrow35 x ((z.below M.bel)))) ?_; clear F a; intro a F
  refine list_do (wn rfl) (fun K hK => ?_)
  refine ow_bslice F M rfl rfl 24 1 _ rfl #[(0, .agg x.arr)] (parts1 (F.e rfl)) x.arr 35 (newrow35 x _) ?_
  clear F M a; intro a g33 u F M hb hg
  refine hK _ _ ?_
  clear hK K
  replace SB := Nat.le_trans SB hb.size
  replace O_f := O_f.below hb
  clear hb hg; try clear v
  refine list_do (wn rfl) (fun K hK => ?_)
  have hxx := C_one (enc := Rv.cs) (hl := Rv.cs_len) (h1 := Rv.cs_one) (M.at (i := 0) rfl)
  replace M : Mm w u [⟨g5, ((⟨true, o.grant, zBs 16, ep⟩ : Rv).arr), 35⟩, ⟨g3, o.arr, 29⟩] := (by refine M.pick' [1, 2] _ ?_ (by decide); exact ⟨rfl, rfl, trivial⟩)
  refine og_app F M Try.underlying24 i35 z48s (by decide) (by decide) hw0 SB ⟨.inr hg5, .inl (by show (29 : Nat) ≠ 35; decide), trivial⟩ rfl rfl rfl _ _ rfl (.slice A_f lf.length c_f) lf ([x]) (lf ++ [x]) rfl (some ⟨g33, 0, none⟩) 1 1 (F.e rfl) (F.e rfl) O_f (hxx) (by have h1 : lf.length ≤ _ := hlf ▸ oth_len _ _; rw [List.length_take] at h1; omega) ?_
  clear F a; have Mo := M; clear M; intro a A_34 c_34 v F M Oz hgr
  refine hK _ _ ?_
  clear hK K
  replace SB := Nat.le_trans SB hgr.size
  clear O_f Mo hgr; have O_f := Oz; clear Oz; try clear u
  clear hxx
  refine list_val F (wn rfl) rfl rfl (.slice A_34 ((lf ++ [x]).length) c_34) (ex_assign _ rfl _ (F.e rfl)) ?_; clear F a; intro a F
  refine wpList_nil ?_
  replace F : Fr 60 a [(0, .slice (some ad) xs.length c), (1, .agg o.arr), (3, .pointer (some ⟨g3, 0, none⟩)), (4, .slice none 0 0), (5, .pointer (some ⟨g5, 0, none⟩)), (6, .slice A_34 ((lf ++ [x]).length) c_34), (7, .int .i64 ((i : Nat) : Int)), (17, .bool true), (27, .bool true)] := F.keep ⟨rfl, rfl, rfl, rfl, rfl, rfl, rfl, rfl, rfl, trivial⟩
  refine in_n ?_
  refine then_n ?_
  refine wp_region_lit ?_
  refine list_val F (wn rfl) rfl rfl (.int .i64 ((i : Nat) : Int)) (ex_move _ rfl _ (F.e rfl)) ?_; clear F a; intro a F
  refine list_val F (wn rfl) rfl rfl (.int .i64 ((i + 1 : Nat) : Int)) (ex_bin .add _ _ _ _ rfl .i64 _ _ (F.e rfl) rfl _ (b_add ((w_i64 (by omega) (by omega)).trans (by omega)))) ?_; clear F a; intro a F
  refine list_val F (wn rfl) rfl rfl (.int .i64 ((i + 1 : Nat) : Int)) (ex_assign _ rfl _ (F.e rfl)) ?_; clear F a; intro a F
  refine wpList_nil ?_
  replace F : Fr 60 a [(0, .slice (some ad) xs.length c), (1, .agg o.arr), (3, .pointer (some ⟨g3, 0, none⟩)), (4, .slice none 0 0), (5, .pointer (some ⟨g5, 0, none⟩)), (6, .slice A_34 ((lf ++ [x]).length) c_34), (7, .int .i64 ((i + 1 : Nat) : Int)), (17, .bool true), (27, .bool true)] := F.keep ⟨rfl, rfl, rfl, rfl, rfl, rfl, rfl, rfl, rfl, trivial⟩
  refine then_n ?_
  exact ⟨xs.length - (i + 1), by omega, (i + 1), A_34, c_34, (lf ++ [x]), ep, F.keep ⟨rfl, rfl, rfl, rfl, rfl, rfl, rfl, trivial⟩, (by refine M.pick' [0, 1] _ ?_ (by decide); exact ⟨rfl, rfl, trivial⟩), SB, O_f, (by omega), (by rw [oth_yes hx hg, ← hlf]), (by rw [maxW_no hx (fun h => hg h.1), ← hep]), (by omega)⟩
 obtain rfl : i = xs.length := by omega
 rw [List.take_length] at hlf hep
 subst hlf hep
 refine wp_seq ?_
 refine wp_seq ?_
 refine wp_region_lit ?_
 refine list_val F (wn rfl) rfl rfl (.int .i64 ((xs.length : Nat) : Int)) (ex_move _ rfl _ (F.e rfl)) ?_; clear F a; intro a F
 refine list_val F (wn rfl) rfl rfl (.slice A xs.length c) (ex_move _ rfl _ (F.e rfl)) ?_; clear F a; intro a F
 refine list_val F (wn rfl) rfl rfl (.int .i64 ((xs.length : Nat) : Int)) (ex_len _ _ rfl 19 r9_sl_24_19 _ _ _ (F.e rfl)) ?_; clear F a; intro a F
 refine list_val F (wn rfl) rfl rfl (.bool false) (ex_bin .lss _ _ _ _ rfl .i64 _ _ (F.e rfl) (F.e rfl) _ (b_lss (decide_eq_false (by omega)))) ?_; clear F a; intro a F
 refine wpList_nil ?_
 replace F : Fr 60 a [(0, .slice A xs.length c), (1, .agg o.arr), (3, .pointer (some ⟨g3, 0, none⟩)), (4, .slice none 0 0), (5, .pointer (some ⟨g5, 0, none⟩)), (6, .slice A_f ((othF xs o.grant).length) c_f), (7, .int .i64 ((xs.length : Nat) : Int)), (17, .bool false)] := F.keep ⟨rfl, rfl, rfl, rfl, rfl, rfl, rfl, rfl, trivial⟩
 refine then_n ?_
 refine wp_cond_false (F.e rfl) ?_
 refine wp_exit ?_
 refine then_x ?_
 refine then_x ?_
 refine in_hit ?_
 refine then_n ?_
 refine wp_seq ?_
 refine wp_region_lit ?_
 refine list_val F (wn rfl) rfl rfl (.slice A_f ((othF xs o.grant).length) c_f) (ex_move _ rfl _ (F.e rfl)) ?_; clear F a; intro a F
 refine list_val F (wn rfl) rfl rfl (.agg ((⟨true, o.grant, zBs 16, (maxW xs o.grant o.exp)⟩ : Rv).arr)) (ex_load _ _ rfl _ (F.e rfl) _ (lrow35 (⟨true, o.grant, zBs 16, (maxW xs o.grant o.exp)⟩ : Rv) (M.at (i := 0) rfl))) ?_; clear F a; intro a F
 refine list_do (wn rfl) (fun K hK => ?_)
 refine ow_bslice F M rfl rfl 24 1 _ rfl #[(0, .agg ((⟨true, o.grant, zBs 16, (maxW xs o.grant o.exp)⟩ : Rv).arr))] (parts1 (F.e rfl)) ((⟨true, o.grant, zBs 16, (maxW xs o.grant o.exp)⟩ : Rv).arr) 35 (newrow35 (⟨true, o.grant, zBs 16, (maxW xs o.grant o.exp)⟩ : Rv) _) ?_
 clear F M a; intro a g58 v F M hb hg
 refine hK _ _ ?_
 clear hK K
 replace SB := Nat.le_trans SB hb.size
 replace O_f := O_f.below hb
 clear hb hg; try clear u
 refine list_do (wn rfl) (fun K hK => ?_)
 have hxx := C_one (enc := Rv.cs) (hl := Rv.cs_len) (h1 := Rv.cs_one) (M.at (i := 0) rfl)
 replace M : Mm w v [] := (by refine M.pick' [] _ ?_ (by decide); exact trivial)
 refine og_app F M Try.underlying24 i35 z48s (by decide) (by decide) hw0 SB trivial rfl rfl rfl _ _ rfl (.slice A_f ((othF xs o.grant).length) c_f) (othF xs o.grant) ([(⟨true, o.grant, zBs 16, (maxW xs o.grant o.exp)⟩ : Rv)]) (killA xs o.grant o.exp) rfl (some ⟨g58, 0, none⟩) 1 1 (F.e rfl) (F.e rfl) O_f (hxx) (by have h1 := oth_len xs o.grant; omega) ?_
 clear F a; have Mo := M; clear M; intro a A_59 c_59 u F M Oz hgr
 refine hK _ _ ?_
 clear hK K
 replace SB := Nat.le_trans SB hgr.size
 clear O_f Mo hgr; have O_f := Oz; clear Oz; try clear v
 clear hxx
 refine list_val F (wn rfl) rfl rfl (.slice A_59 ((killA xs o.grant o.exp).length) c_59) (ex_assign _ rfl _ (F.e rfl)) ?_; clear F a; intro a F
 refine wpList_nil ?_
 replace F : Fr 60 a [(0, .slice A xs.length c), (1, .agg o.arr), (3, .pointer (some ⟨g3, 0, none⟩)), (4, .slice A_59 ((killA xs o.grant o.exp).length) c_59), (5, .pointer (some ⟨g5, 0, none⟩)), (6, .slice A_f ((othF xs o.grant).length) c_f), (7, .int .i64 ((xs.length : Nat) : Int)), (17, .bool false)] := F.keep ⟨rfl, rfl, rfl, rfl, rfl, rfl, rfl, rfl, trivial⟩
 refine then_n ?_
 refine wp_ret ?_
 exact ret_tmp F rfl rfl ⟨_, _, rfl, O_f.low hw0, M.bel⟩
end Go.Proofs.Ytnjbjjmoglogeaa
