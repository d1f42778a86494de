/- posternlaw4.DigestMany. Conditions: the table is laid; the argument is read. -/
import Derived.Test.YtkppipeadibfkaaDoorQ0
namespace Go.Proofs.YtkppipeadibfkaaDoor
open Go.RowKit Go.Proofs.YtkppipeadibfkaaDoorW.PrintWords KB WG
set_option linter.unusedVariables false
set_option linter.unusedSimpArgs false
set_option linter.unnecessarySimpa false
theorem z68 (w : World) : (zeroValue 68).run Tryd.prog w = .ok (.agg (List.replicate 8 (Value.pointer none)).toArray) w := by kernel_rfl
theorem z69 (w : World) : (zeroValue 69).run Tryd.prog w = .ok (.agg (List.replicate 8 (Value.slice none 0 0)).toArray) w := by kernel_rfl
theorem pn_len {hs : List Hz} {i : Nat} (hl : hs.length = i) (hi : i ≤ 8) : (pcs hs ++ List.replicate (8 - i) (Value.pointer none)).length = 8 := by rw [List.length_append, pcs_len, List.length_replicate]; omega
theorem pcs_more (hs : List Hz) (g : Nat) : pcs (hs ++ [freshH g]) = pcs hs ++ [.pointer (some ⟨g, 0, none⟩)] := by simp [pcs, freshH]
theorem pn_set {hs : List Hz} {i : Nat} (g : Nat) (hl : hs.length = i) (hi : i < 8) : (pcs hs ++ List.replicate (8 - i) (Value.pointer none)).take i ++ [.pointer (some ⟨g, 0, none⟩)] ++ (pcs hs ++ List.replicate (8 - i) (Value.pointer none)).drop (i + [Value.pointer (some ⟨g, 0, none⟩)].length) = pcs (hs ++ [freshH g]) ++ List.replicate (8 - (i + 1)) (Value.pointer none) := by
  have h1 : (pcs hs).length = i := by rw [pcs_len, hl]
  rw [pcs_more, List.take_left' h1, List.drop_append, h1, List.drop_eq_nil_of_le (by rw [h1]; simp), List.nil_append, List.drop_replicate]
  congr 1
  congr 1
  simp
  omega
theorem pn_get {hs : List Hz} {i g : Nat} {r : List Value} (hl : hs.length = i) : (pcs (hs ++ [freshH g]) ++ r)[i]? = some (.pointer (some ⟨g, 0, none⟩)) := by
  rw [pcs_more, List.append_assoc, List.getElem?_append_right (by rw [pcs_len, hl]; exact Nat.le_refl _), pcs_len, hl, Nat.sub_self]; rfl
theorem fr_more {hs : List Hz} {g : Nat} (h : ∀ (j : Nat) (h : Hz), hs[j]? = some h → h.wr = [] ∧ h.ap = [] ∧ h.al = .slice none 0 0) : ∀ (j : Nat) (h : Hz), (hs ++ [freshH g])[j]? = some h → h.wr = [] ∧ h.ap = [] ∧ h.al = .slice none 0 0 := fun j x hx => by
  rcases Nat.lt_or_ge j hs.length with hj | hj
  · rw [List.getElem?_append_left hj] at hx; exact h j x hx
  · rw [List.getElem?_append_right hj] at hx
    cases hq : j - hs.length with
    | zero => rw [hq] at hx; obtain rfl := Option.some.inj hx; exact ⟨rfl, rfl, rfl⟩
    | succ q => rw [hq] at hx; simp at hx
theorem acs_nil {hs : List Hz} (hl : hs.length = 8) (h : ∀ (j : Nat) (h : Hz), hs[j]? = some h → h.wr = [] ∧ h.ap = [] ∧ h.al = .slice none 0 0) : acs hs = List.replicate 8 (Value.slice none 0 0) := by
  apply List.ext_getElem?
  intro j
  rw [acs, List.getElem?_map, List.getElem?_replicate]
  split
  · rename_i hj
    have hx : hs[j]? = some hs[j] := List.getElem?_eq_getElem (by omega)
    rw [hx]
    exact congrArg some (h j _ hx).2.2
  · rw [List.getElem?_eq_none (by omega)]; rfl
theorem acs_put {l l' : List Value} {i : Nat} {x : Value} (hi : i < 8) (h : l' = l.set i x) (hl : l.length = 8 := by first | assumption | (rw [acs_len]; omega)) : l.take i ++ [x] ++ l.drop (i + [x].length) = l' := by rw [h]; exact val_set x (by omega)
theorem ag_step {hs hs1 hs2 : List Hz} {i lf : Nat} {x h1 h2 : Hz} {b : List By} (hag : ∀ (j : Nat) (h : Hz), hs[j]? = some h → h.wr = h.ap ∧ h.ap.length + lf ≤ 65536) (hx : hs[i]? = some x) (hc1 : Chg hs hs1 i h1) (hc2 : Chg hs1 hs2 i h2) (w1 : h1.wr = x.wr ++ b) (w2 : h2.wr = h1.wr) (a1 : h1.ap = x.ap) (a2 : h2.ap = h1.ap ++ b) (hb : b.length ≤ lf) :
    ∀ (j : Nat) (h : Hz), hs2[j]? = some h → h.wr = h.ap ∧ h.ap.length + (lf - b.length) ≤ 65536 := fun j h hj => by
  by_cases e : j = i
  · subst e
    rw [hc2.at_] at hj
    obtain rfl := Option.some.inj hj
    obtain ⟨e1, e2⟩ := hag _ _ hx
    rw [w2, w1, a2, a1, e1, List.length_append]
    exact ⟨rfl, by omega⟩
  · rw [hc2.oth j e, hc1.oth j e] at hj
    obtain ⟨e1, e2⟩ := hag _ _ hj
    exact ⟨e1, by omega⟩
theorem eb_ent_31 : ent? Tryd.prog 31 = true := by kernel_rfl
theorem eb_ar_68_8 : ar? Tryd.prog 68 8 = true := by kernel_rfl
theorem eb_info_53_map_size_some_1 : (Tryd.prog.info? 53).map (·.size) = some 1 := by kernel_rfl
theorem eb_one_53 : one? Tryd.prog 53 = true := by kernel_rfl
theorem eb_sl_22_1 : sl? Tryd.prog 22 1 = true := by kernel_rfl
theorem eb_one_23 : one? Tryd.prog 23 = true := by kernel_rfl
theorem eb_sl_23_1 : sl? Tryd.prog 23 1 = true := by kernel_rfl
theorem eb_follows_mixedOrders : Tryd.prog.follows .mixedOrders = true := by kernel_rfl
theorem eb_ar_69_8 : ar? Tryd.prog 69 8 = true := by kernel_rfl
theorem eb_ent_35 : ent? Tryd.prog 35 = true := by kernel_rfl
theorem eb_ent_27 : ent? Tryd.prog 27 = true := by kernel_rfl
theorem eb_ent_15 : ent? Tryd.prog 15 = true := by kernel_rfl
theorem eb_ab_24_32 : ab? Tryd.prog 24 32 = true := by kernel_rfl
theorem eb_cv_3_62_u64 : cv? Tryd.prog 3 62 .u64 = true := by kernel_rfl
theorem eb_ent_36 : ent? Tryd.prog 36 = true := by kernel_rfl
theorem eb_ent_19 : ent? Tryd.prog 19 = true := by kernel_rfl
theorem eb_ent_33 : ent? Tryd.prog 33 = true := by kernel_rfl
theorem eb_info_23_map_size_some_1 : (Tryd.prog.info? 23).map (·.size) = some 1 := by kernel_rfl
set_option maxHeartbeats 4000000 in
set_option maxRecDepth 100000 in
theorem many_any (ls : List (List By)) (Ls : Option Addr) (n cl : Nat) (hn : n ≤ 5864062014805) (w : World) (hKt : At w ⟨0, 0, none⟩ (wcs kTab)) (hl : RowsB w Ls n ls) (hwf : wLs ls) :
    Calls Tryd.prog 11 #[.slice Ls n cl] w fun e w' => e = .returned (.bool true) ∧ Below w.heap.size w w' := by
 have h0 := kt_pos hKt
 refine calls_start Tryd.func11 rfl rfl rfl (fun a F => ?_)
 have M : Mm w w [] := Mm.nil w
 refine wp_seq ?_
 refine wp_region_lit ?_
 refine list_val F (wn rfl) rfl rfl (.bool false) (ex_assign _ rfl _ rfl) ?_; clear F a; intro a F
 refine wpList_nil ?_
 replace F : Fr 94 a [(0, .slice Ls n cl), (2, .bool false)] := F.keep ⟨rfl, rfl, trivial⟩
 refine then_n ?_
 refine wp_seq ?_
 refine wp_region_lit ?_
 refine list_do (wn rfl) (fun K hK => ?_)
 refine ow_alloc F M rfl rfl 68 rfl (.agg (List.replicate 8 (Value.pointer none)).toArray) z68 ((List.replicate 8 (Value.pointer none)).toArray) rfl ?_
 clear F M a; intro a g3 v F M hb hg
 refine hK _ _ ?_
 clear hK K
 clear hb hg; try clear w
 refine wpList_nil ?_
 replace F : Fr 94 a [(0, .slice Ls n cl), (2, .bool false), (3, .pointer (some ⟨g3, 0, none⟩))] := F.keep ⟨rfl, rfl, rfl, trivial⟩
 refine then_n ?_
 refine wp_seq ?_
 refine wp_region_lit ?_
 refine list_do (wn rfl) (fun K hK => ?_)
 refine ow_alloc F M rfl rfl 69 rfl (.agg (List.replicate 8 (Value.slice none 0 0)).toArray) z69 ((List.replicate 8 (Value.slice none 0 0)).toArray) rfl ?_
 clear F M a; intro a g4 u F M hb hg
 refine hK _ _ ?_
 clear hK K
 clear hb hg; try clear v
 refine wpList_nil ?_
 replace F : Fr 94 a [(0, .slice Ls n cl), (2, .bool false), (3, .pointer (some ⟨g3, 0, none⟩)), (4, .pointer (some ⟨g4, 0, none⟩))] := F.keep ⟨rfl, rfl, rfl, rfl, trivial⟩
 refine then_n ?_
 refine wp_seq ?_
 refine wp_seq ?_
 refine wp_region_lit ?_
 refine list_val F (wn rfl) rfl rfl (.int .i64 0) (ex_assign _ rfl _ rfl) ?_; clear F a; intro a F
 refine wpList_nil ?_
 replace F : Fr 94 a [(0, .slice Ls n cl), (2, .bool false), (3, .pointer (some ⟨g3, 0, none⟩)), (4, .pointer (some ⟨g4, 0, none⟩)), (5, .int .i64 0)] := F.keep ⟨rfl, rfl, rfl, rfl, rfl, trivial⟩
 refine then_n ?_
 refine wp_block ?_
 refine wp_loopN (fun mq ar wr => ∃ (i : Nat), ∃ (hs : List Hz), Fr 94 ar [(0, .slice Ls n cl), (2, .bool false), (3, .pointer (some ⟨g3, 0, none⟩)), (4, .pointer (some ⟨g4, 0, none⟩)), (5, .int .i64 ((i : Nat) : Int))] ∧ Mm w wr [⟨g4, ((List.replicate 8 (Value.slice none 0 0)).toArray), 69⟩, ⟨g3, ((pcs hs ++ List.replicate (8 - i) (Value.pointer none))).toArray, 68⟩] ∧ Rs w wr ([] ++ famR hs) ∧ Fam w wr hs ∧ i ≤ 8 ∧ hs.length = i ∧ (∀ (j : Nat) (h : Hz), hs[j]? = some h → h.wr = [] ∧ h.ap = [] ∧ h.al = .slice none 0 0) ∧ mq + i = 8) 8 ?_ ?_
 ·
  exact ⟨0, [], F.keep ⟨rfl, rfl, rfl, rfl, rfl, trivial⟩, (by refine M.pick' [0, 1] _ ?_ (by decide); exact ⟨rfl, rfl, trivial⟩), (Rs.nil _ _), (Fam.nil _ _), (Nat.zero_le _), rfl, (fun j h e => by simp at e), (by omega)⟩
 clear F M a
 rintro mq a v ⟨i, hs, F, M, R_, Z_, hi, hln, hfr, hq⟩; try clear u
 by_cases hin : i < 8
 ·
  refine wp_seq ?_
  refine wp_seq ?_
  refine wp_region_lit ?_
  refine list_val F (wn rfl) rfl rfl (.int .i64 ((i : Nat) : Int)) (ex_move _ rfl _ (F.e rfl)) ?_; clear F a; intro a F
  refine list_val F (wn rfl) rfl rfl (.bool true) (ex_bin .lss _ _ _ _ rfl .i64 _ _ (F.e rfl) rfl _ (b_lss (decide_eq_true (by omega)))) ?_; clear F a; intro a F
  refine wpList_nil ?_
  replace F : Fr 94 a [(0, .slice Ls n cl), (2, .bool false), (3, .pointer (some ⟨g3, 0, none⟩)), (4, .pointer (some ⟨g4, 0, none⟩)), (5, .int .i64 ((i : Nat) : Int)), (10, .bool true)] := F.keep ⟨rfl, rfl, rfl, rfl, rfl, rfl, trivial⟩
  refine then_n ?_
  refine wp_cond_true (F.e rfl) ?_
  refine wp_skip ?_
  refine then_n ?_
  refine wp_seq ?_
  refine wp_block ?_
  refine wp_seq ?_
  refine wp_region_lit ?_
  refine list_val F (wn rfl) rfl rfl (.int .i64 ((i : Nat) : Int)) (ex_move _ rfl _ (F.e rfl)) ?_; clear F a; intro a F
  refine list_do (wn rfl) (fun K hK => ?_)
  refine ow_call rfl rfl F 31 #[] (ex_call 31 _ _ rfl rfl eb_ent_31 _ (map0)) (new_all _) (fun e u hR => ?_)
  obtain ⟨g14, he, hg, hn, hb⟩ := hR
  have R1 := (R_.below hb).fammore g14
  have Z1 := Z_.more M.bel.size hb hg hn
  refine ⟨.pointer (some ⟨g14, 0, none⟩), he, ?_⟩; clear he F a; intro a F
  refine hK _ _ ?_
  clear hK K
  replace R_ := R_.below hb
  replace Z_ := Z_.below hb
  replace M := M.below hb; clear hb; try clear v
  replace R_ := R1; replace Z_ := Z1; clear R1 Z1 hg hn
  refine list_val F (wn rfl) rfl rfl (.pointer (some ⟨g3, i, none⟩)) (ex_ixa _ _ _ rfl 8 eb_ar_68_8 ⟨g3, 0, none⟩ (F.e rfl) .i64 _ (F.e rfl) i rfl (by omega) ⟨g3, i, none⟩ ((addr_add _ _ _).trans (by rw [Nat.zero_add]))) ?_; clear F a; intro a F
  refine list_do (wn rfl) (fun K hK => ?_)
  refine ow_store F M rfl 53 _ _ rfl 1 g3 _ _ rfl (i) (F.e rfl) _ (F.e rfl) [.pointer (some ⟨g14, 0, none⟩)] rfl eb_info_53_map_size_some_1 (by rw [List.size_toArray, (pn_len hln (by omega))]; simp; omega) (by simp [Value.oneCell', Hz.al]) ((pcs (hs ++ [freshH g14]) ++ List.replicate (8 - (i + 1)) (Value.pointer none))).toArray (congrArg List.toArray (pn_set g14 hln hin)) ?_
  clear F a; have Mo := M; clear M; intro a v F M hgr
  refine hK _ _ ?_
  clear hK K
  replace R_ := R_.box (Mo.blk 1 _ rfl) (by show 5 ≠ 68; decide) hgr
  replace Z_ := Z_.other (Mo.blk 1 _ rfl) (by show 82 ≠ 68; decide) hgr
  clear Mo hgr; try clear u
  replace M : Mm w v [⟨g4, ((List.replicate 8 (Value.slice none 0 0)).toArray), 69⟩, ⟨g3, ((pcs (hs ++ [freshH g14]) ++ List.replicate (8 - (i + 1)) (Value.pointer none))).toArray, 68⟩] := M
  refine wpList_nil ?_
  replace F : Fr 94 a [(0, .slice Ls n cl), (2, .bool false), (3, .pointer (some ⟨g3, 0, none⟩)), (4, .pointer (some ⟨g4, 0, none⟩)), (5, .int .i64 ((i : Nat) : Int)), (10, .bool true)] := F.keep ⟨rfl, rfl, rfl, rfl, rfl, rfl, trivial⟩
  refine then_n ?_
  refine wp_seq ?_
  refine wp_region_lit ?_
  refine list_val F (wn rfl) rfl rfl (.int .i64 ((i : Nat) : Int)) (ex_move _ rfl _ (F.e rfl)) ?_; clear F a; intro a F
  refine list_val F (wn rfl) rfl rfl (.pointer (some ⟨g3, i, none⟩)) (ex_ixa _ _ _ rfl 8 eb_ar_68_8 ⟨g3, 0, none⟩ (F.e rfl) .i64 _ (F.e rfl) i rfl (by omega) ⟨g3, i, none⟩ ((addr_add _ _ _).trans (by rw [Nat.zero_add]))) ?_; clear F a; intro a F
  refine list_val F (wn rfl) rfl rfl (.pointer (some ⟨g14, 0, none⟩)) (ex_load _ _ rfl _ (F.e rfl) _ (lv1 eb_one_53 (M.cell (i := 1) rfl (j := i) (arr_get (pn_get hln))))) ?_; clear F a; intro a F
  refine list_val F (wn rfl) rfl rfl (.bool false) (ex_pnil _ _ _ rfl _ (F.e rfl) rfl) ?_; clear F a; intro a F
  refine wpList_nil ?_
  replace F : Fr 94 a [(0, .slice Ls n cl), (2, .bool false), (3, .pointer (some ⟨g3, 0, none⟩)), (4, .pointer (some ⟨g4, 0, none⟩)), (5, .int .i64 ((i : Nat) : Int)), (10, .bool true), (19, .bool false)] := F.keep ⟨rfl, rfl, rfl, rfl, rfl, rfl, rfl, trivial⟩
  refine then_n ?_
  refine wp_cond_false (F.e rfl) ?_
  refine wp_skip ?_
  refine in_n ?_
  refine then_n ?_
  refine wp_region_lit ?_
  refine list_val F (wn rfl) rfl rfl (.int .i64 ((i : Nat) : Int)) (ex_move _ rfl _ (F.e rfl)) ?_; clear F a; intro a F
  refine list_val F (wn rfl) rfl rfl (.int .i64 ((i + 1 : Nat) : Int)) (ex_bin .add _ _ _ _ rfl .i64 _ _ (F.e rfl) rfl _ (b_add ((w_i64 (by omega) (by omega)).trans (by omega)))) ?_; clear F a; intro a F
  refine list_val F (wn rfl) rfl rfl (.int .i64 ((i + 1 : Nat) : Int)) (ex_assign _ rfl _ (F.e rfl)) ?_; clear F a; intro a F
  refine wpList_nil ?_
  replace F : Fr 94 a [(0, .slice Ls n cl), (2, .bool false), (3, .pointer (some ⟨g3, 0, none⟩)), (4, .pointer (some ⟨g4, 0, none⟩)), (5, .int .i64 ((i + 1 : Nat) : Int)), (10, .bool true), (19, .bool false)] := F.keep ⟨rfl, rfl, rfl, rfl, rfl, rfl, rfl, trivial⟩
  refine then_n ?_
  exact ⟨8 - (i + 1), by omega, (i + 1), (hs ++ [freshH g14]), F.keep ⟨rfl, rfl, rfl, rfl, rfl, trivial⟩, (by refine M.pick' [0, 1] _ ?_ (by decide); exact ⟨rfl, rfl, trivial⟩), R_, Z_, (by omega), (by rw [List.length_append, hln]; rfl), (fr_more hfr), (by omega)⟩
 obtain rfl : i = 8 := by omega
 rw [Nat.sub_self, List.replicate_zero, List.append_nil, ← acs_nil hln hfr] at M
 refine wp_seq ?_
 refine wp_seq ?_
 refine wp_region_lit ?_
 refine list_val F (wn rfl) rfl rfl (.int .i64 ((8 : Nat) : Int)) (ex_move _ rfl _ (F.e rfl)) ?_; clear F a; intro a F
 refine list_val F (wn rfl) rfl rfl (.bool false) (ex_bin .lss _ _ _ _ rfl .i64 _ _ (F.e rfl) rfl _ (b_lss (decide_eq_false (by omega)))) ?_; clear F a; intro a F
 refine wpList_nil ?_
 replace F : Fr 94 a [(0, .slice Ls n cl), (2, .bool false), (3, .pointer (some ⟨g3, 0, none⟩)), (4, .pointer (some ⟨g4, 0, none⟩)), (5, .int .i64 ((8 : Nat) : Int)), (10, .bool false)] := F.keep ⟨rfl, rfl, rfl, rfl, rfl, rfl, trivial⟩
 refine then_n ?_
 refine wp_cond_false (F.e rfl) ?_
 refine wp_exit ?_
 refine then_x ?_
 refine then_x ?_
 refine in_hit ?_
 refine then_n ?_
 refine wp_seq ?_
 refine wp_region_lit ?_
 refine list_val F (wn rfl) rfl rfl (.int .i64 65536) (ex_assign _ rfl _ rfl) ?_; clear F a; intro a F
 refine wpList_nil ?_
 replace F : Fr 94 a [(0, .slice Ls n cl), (2, .bool false), (3, .pointer (some ⟨g3, 0, none⟩)), (4, .pointer (some ⟨g4, 0, none⟩)), (5, .int .i64 ((8 : Nat) : Int)), (6, .int .i64 65536), (10, .bool false)] := F.keep ⟨rfl, rfl, rfl, rfl, rfl, rfl, rfl, trivial⟩
 refine then_n ?_
 refine wp_seq ?_
 refine wp_seq ?_
 refine wp_region_lit ?_
 refine list_val F (wn rfl) rfl rfl (.int .i64 0) (ex_assign _ rfl _ rfl) ?_; clear F a; intro a F
 refine wpList_nil ?_
 replace F : Fr 94 a [(0, .slice Ls n cl), (2, .bool false), (3, .pointer (some ⟨g3, 0, none⟩)), (4, .pointer (some ⟨g4, 0, none⟩)), (5, .int .i64 ((8 : Nat) : Int)), (6, .int .i64 65536), (7, .int .i64 0), (10, .bool false)] := F.keep ⟨rfl, rfl, rfl, rfl, rfl, rfl, rfl, rfl, trivial⟩
 refine then_n ?_
 refine wp_block ?_
 refine wp_loopN (fun mq ar wr => ∃ (i : Nat), ∃ (hs : List Hz), ∃ (lf : Nat), Fr 94 ar [(0, .slice Ls n cl), (2, .bool false), (3, .pointer (some ⟨g3, 0, none⟩)), (4, .pointer (some ⟨g4, 0, none⟩)), (5, .int .i64 ((8 : Nat) : Int)), (6, .int .i64 ((lf : Nat) : Int)), (7, .int .i64 ((i : Nat) : Int)), (10, .bool false)] ∧ Mm w wr [⟨g4, (acs hs).toArray, 69⟩, ⟨g3, (pcs hs).toArray, 68⟩] ∧ Rs w wr ([] ++ famR hs) ∧ Fam w wr hs ∧ i ≤ n ∧ hs.length = 8 ∧ lf ≤ 65536 ∧ (∀ (j : Nat) (h : Hz), hs[j]? = some h → h.wr = h.ap ∧ h.ap.length + lf ≤ 65536) ∧ mq + i = n) n ?_ ?_
 ·
  exact ⟨0, hs, 65536, F.keep ⟨rfl, rfl, rfl, rfl, rfl, rfl, rfl, rfl, trivial⟩, (by refine M.pick' [0, 1] _ ?_ (by decide); exact ⟨rfl, rfl, trivial⟩), R_, Z_, (Nat.zero_le _), hln, (Nat.le_refl _), (fun j h e => by obtain ⟨e1, e2, _⟩ := hfr j h e; rw [e1, e2]; exact ⟨rfl, by decide⟩), (by omega)⟩
 clear F M a R_ Z_
 rintro mq a u ⟨i, hs, lf, F, M, R_, Z_, hi, hln, hlf, hag, hq⟩; try clear v
 by_cases hin : i < n
 ·
  by_cases hi200 : i < 200
  ·
   obtain ⟨ad, B, c, hLs, hce, hrb, hmc⟩ := hl.row hin
   obtain ⟨b, hb⟩ : ∃ b, b = ls.getD i [] := ⟨_, rfl⟩
   have hbl := wLs_row hwf (i := i)
   rw [← hb] at hce hrb hmc hbl
   subst hLs
   refine wp_seq ?_
   refine wp_seq ?_
   refine wp_region_lit ?_
   refine list_val F (wn rfl) rfl rfl (.int .i64 ((i : Nat) : Int)) (ex_move _ rfl _ (F.e rfl)) ?_; clear F a; intro a F
   refine list_val F (wn rfl) rfl rfl (.slice (some ad) n cl) (ex_move _ rfl _ (F.e rfl)) ?_; clear F a; intro a F
   refine list_val F (wn rfl) rfl rfl (.int .i64 ((n : Nat) : Int)) (ex_len _ _ rfl 1 eb_sl_22_1 _ _ _ (F.e rfl)) ?_; clear F a; intro a F
   refine list_val F (wn rfl) rfl rfl (.bool true) (ex_bin .lss _ _ _ _ rfl .i64 _ _ (F.e rfl) (F.e rfl) _ (b_lss (decide_eq_true (by omega)))) ?_; clear F a; intro a F
   refine list_val F (wn rfl) rfl rfl (.bool true) (ex_move _ rfl _ (F.e rfl)) ?_; clear F a; intro a F
   refine list_val F (F.wants 24 true rfl (by kernel_rfl) rfl true rfl) rfl rfl (.int .i64 ((i : Nat) : Int)) (ex_move _ rfl _ (F.e rfl)) ?_; clear F a; intro a F
   refine list_val F (F.wants 24 true rfl (by kernel_rfl) rfl true rfl) rfl rfl (.bool true) (ex_bin .lss _ _ _ _ rfl .i64 _ _ (F.e rfl) rfl _ (b_lss (decide_eq_true (by omega)))) ?_; clear F a; intro a F
   refine list_val F (wn rfl) rfl rfl (.bool true) (ex_pick_t _ _ _ rfl (F.e rfl) _ (F.e rfl)) ?_; clear F a; intro a F
   refine wpList_nil ?_
   replace F : Fr 94 a [(0, .slice (some ad) n cl), (2, .bool false), (3, .pointer (some ⟨g3, 0, none⟩)), (4, .pointer (some ⟨g4, 0, none⟩)), (5, .int .i64 ((8 : Nat) : Int)), (6, .int .i64 ((lf : Nat) : Int)), (7, .int .i64 ((i : Nat) : Int)), (10, .bool false), (27, .bool true)] := F.keep ⟨rfl, rfl, rfl, rfl, rfl, rfl, rfl, rfl, rfl, trivial⟩
   refine then_n ?_
   refine wp_cond_true (F.e rfl) ?_
   refine wp_skip ?_
   refine then_n ?_
   refine wp_seq ?_
   refine wp_block ?_
   refine wp_seq ?_
   refine wp_region_lit ?_
   refine list_val F (wn rfl) rfl rfl (.int .i64 ((lf : Nat) : Int)) (ex_move _ rfl _ (F.e rfl)) ?_; clear F a; intro a F
   refine list_val F (wn rfl) rfl rfl (.slice (some ad) n cl) (ex_move _ rfl _ (F.e rfl)) ?_; clear F a; intro a F
   refine list_val F (wn rfl) rfl rfl (.int .i64 ((i : Nat) : Int)) (ex_move _ rfl _ (F.e rfl)) ?_; clear F a; intro a F
   refine list_val F (wn rfl) rfl rfl (.pointer (some (ad.add i))) (ex_ix _ _ _ rfl 1 eb_sl_22_1 ad _ _ (F.e rfl) .i64 _ (F.e rfl) i rfl (by omega) _ (congrArg _ (Nat.mul_one _))) ?_; clear F a; intro a F
   refine list_val F (wn rfl) rfl rfl (.slice B b.length c) (ex_load _ _ rfl _ (F.e rfl) _ (lv1 eb_one_23 (pw_cell_below M.bel hce))) ?_; clear F a; intro a F
   refine list_val F (wn rfl) rfl rfl (.int .i64 ((b.length : Nat) : Int)) (ex_len _ _ rfl 1 eb_sl_23_1 _ _ _ (F.e rfl)) ?_; clear F a; intro a F
   refine list_val F (wn rfl) rfl rfl (.int .i64 (((lf : Nat) : Int) - ((b.length : Nat) : Int))) (ex_bin .sub _ _ _ _ rfl .i64 _ _ (F.e rfl) (F.e rfl) _ (b_sub (w_i64 (by omega) (by omega)))) ?_; clear F a; intro a F
   refine list_val F (wn rfl) rfl rfl (.int .i64 (((lf : Nat) : Int) - ((b.length : Nat) : Int))) (ex_assign _ rfl _ (F.e rfl)) ?_; clear F a; intro a F
   refine wpList_nil ?_
   replace F : Fr 94 a [(0, .slice (some ad) n cl), (2, .bool false), (3, .pointer (some ⟨g3, 0, none⟩)), (4, .pointer (some ⟨g4, 0, none⟩)), (5, .int .i64 ((8 : Nat) : Int)), (6, .int .i64 (((lf : Nat) : Int) - ((b.length : Nat) : Int))), (7, .int .i64 ((i : Nat) : Int)), (10, .bool false), (27, .bool true)] := F.keep ⟨rfl, rfl, rfl, rfl, rfl, rfl, rfl, rfl, rfl, trivial⟩
   refine then_n ?_
   refine wp_seq ?_
   refine wp_seq ?_
   by_cases hneg : lf < b.length
   ·
    refine wp_region_lit ?_
    refine list_val F (wn rfl) rfl rfl (.int .i64 (((lf : Nat) : Int) - ((b.length : Nat) : Int))) (ex_move _ rfl _ (F.e rfl)) ?_; clear F a; intro a F
    refine list_val F (wn rfl) rfl rfl (.bool true) (ex_bin .lss _ _ _ _ rfl .i64 _ _ (F.e rfl) rfl _ (b_lss (decide_eq_true (by omega)))) ?_; clear F a; intro a F
    refine wpList_nil ?_
    replace F : Fr 94 a [(0, .slice (some ad) n cl), (2, .bool false), (3, .pointer (some ⟨g3, 0, none⟩)), (4, .pointer (some ⟨g4, 0, none⟩)), (5, .int .i64 ((8 : Nat) : Int)), (6, .int .i64 (((lf : Nat) : Int) - ((b.length : Nat) : Int))), (7, .int .i64 ((i : Nat) : Int)), (10, .bool false), (27, .bool true), (38, .bool true)] := F.keep ⟨rfl, rfl, rfl, rfl, rfl, rfl, rfl, rfl, rfl, rfl, trivial⟩
    refine then_n ?_
    refine wp_cond_true (F.e rfl) ?_
    refine wp_exit ?_
    refine then_x ?_
    refine in_miss rfl ?_
    refine then_x ?_
    refine then_x ?_
    refine in_hit ?_
    refine then_n ?_
    refine wp_seq ?_
    refine wp_seq ?_
    refine wp_region_lit ?_
    refine list_val F (wn rfl) rfl rfl (.int .i64 0) (ex_assign _ rfl _ rfl) ?_; clear F a; intro a F
    refine wpList_nil ?_
    replace F : Fr 94 a [(0, .slice (some ad) n cl), (2, .bool false), (3, .pointer (some ⟨g3, 0, none⟩)), (4, .pointer (some ⟨g4, 0, none⟩)), (5, .int .i64 ((8 : Nat) : Int)), (6, .int .i64 (((lf : Nat) : Int) - ((b.length : Nat) : Int))), (7, .int .i64 ((i : Nat) : Int)), (8, .int .i64 0), (10, .bool false), (27, .bool true), (38, .bool true)] := F.keep ⟨rfl, rfl, rfl, rfl, rfl, rfl, rfl, rfl, rfl, rfl, rfl, trivial⟩
    refine then_n ?_
    refine wp_block ?_
    refine wp_loopN (fun mq ar wr => ∃ (j : Nat), Fr 94 ar [(0, .slice (some ad) n cl), (2, .bool false), (3, .pointer (some ⟨g3, 0, none⟩)), (4, .pointer (some ⟨g4, 0, none⟩)), (8, .int .i64 ((j : Nat) : Int)), (10, .bool false), (27, .bool true), (38, .bool true)] ∧ Mm w wr [⟨g4, (acs hs).toArray, 69⟩, ⟨g3, (pcs hs).toArray, 68⟩] ∧ Rs w wr ([] ++ famR hs) ∧ Fam w wr hs ∧ j ≤ 8 ∧ mq + j = 8) 8 ?_ ?_
    ·
     exact ⟨0, F.keep ⟨rfl, rfl, rfl, rfl, rfl, rfl, rfl, rfl, trivial⟩, (by refine M.pick' [0, 1] _ ?_ (by decide); exact ⟨rfl, rfl, trivial⟩), R_, Z_, (Nat.zero_le _), (by omega)⟩
    clear F M a R_ Z_
    rintro mq a v ⟨j, F, M, R_, Z_, hj8, hq⟩; try clear u
    by_cases hj : j < 8
    ·
     refine wp_seq ?_
     refine wp_seq ?_
     refine wp_region_lit ?_
     refine list_val F (wn rfl) rfl rfl (.int .i64 ((j : Nat) : Int)) (ex_move _ rfl _ (F.e rfl)) ?_; clear F a; intro a F
     refine list_val F (wn rfl) rfl rfl (.bool true) (ex_bin .lss _ _ _ _ rfl .i64 _ _ (F.e rfl) rfl _ (b_lss (decide_eq_true (by omega)))) ?_; clear F a; intro a F
     refine wpList_nil ?_
     replace F : Fr 94 a [(0, .slice (some ad) n cl), (2, .bool false), (3, .pointer (some ⟨g3, 0, none⟩)), (4, .pointer (some ⟨g4, 0, none⟩)), (8, .int .i64 ((j : Nat) : Int)), (10, .bool false), (27, .bool true), (38, .bool true), (68, .bool true)] := F.keep ⟨rfl, rfl, rfl, rfl, rfl, rfl, rfl, rfl, rfl, trivial⟩
     refine then_n ?_
     refine wp_cond_true (F.e rfl) ?_
     refine wp_skip ?_
     refine then_n ?_
     refine wp_seq ?_
     refine wp_block ?_
     refine wp_seq ?_
     obtain ⟨z, hz⟩ : ∃ h, hs[j]? = some h := ⟨_, List.getElem?_eq_getElem (by omega)⟩
     have hzz := hag _ z hz
     have hwz : z.wr = z.ap := hzz.1
     refine wp_only (fun ar wr => ∃ (A_78 : Option Addr), ∃ (c_78 : Nat), Fr 94 ar [(0, .slice (some ad) n cl), (2, .bool false), (3, .pointer (some ⟨g3, 0, none⟩)), (4, .pointer (some ⟨g4, 0, none⟩)), (8, .int .i64 ((j : Nat) : Int)), (10, .bool false), (27, .bool true), (38, .bool true), (68, .bool true), (92, .bool false)] ∧ Mm w wr [⟨g4, (acs hs).toArray, 69⟩, ⟨g3, (pcs hs).toArray, 68⟩] ∧ Rs w wr ([(.slice A_78 z.ap.length c_78, z.ap)] ++ famR hs) ∧ Fam w wr hs) ?_ ?_
     ·
      refine region_anyM eb_follows_mixedOrders M [⟨g3, (pcs hs).toArray, 68⟩, ⟨g4, (acs hs).toArray, 69⟩] (fun w' M => (by refine M.pick' [1, 0] _ ?_ (by decide); exact ⟨rfl, rfl, trivial⟩)) ?_; clear M; intro wD M hb
      replace R_ := R_.below hb
      replace Z_ := Z_.below hb
      clear hb; try clear v
      have hS : Mm w wD [⟨g3, (pcs hs).toArray, 68⟩, ⟨g4, (acs hs).toArray, 69⟩] := (by refine M.pick' [1, 0] _ ?_ (by decide); exact ⟨rfl, rfl, trivial⟩)
      refine any_val F 0 rfl (by kernel_rfl) (wn rfl) rfl rfl (.int .i64 ((j : Nat) : Int)) (fun w' hS' => ex_move _ rfl _ (F.e rfl)) hS ?_; clear F a; intro a F
      refine any_val F 1 rfl (by kernel_rfl) (wn rfl) rfl rfl (.pointer (some ⟨g3, j, none⟩)) (fun w' hS' => ex_ixa _ _ _ rfl 8 eb_ar_68_8 ⟨g3, 0, none⟩ (F.e rfl) .i64 _ (F.e rfl) j rfl (by omega) ⟨g3, j, none⟩ ((addr_add _ _ _).trans (by rw [Nat.zero_add]))) hS ?_; clear F a; intro a F
      refine any_val F 2 rfl (by kernel_rfl) (wn rfl) rfl rfl (.pointer (some ⟨z.g, 0, none⟩)) (fun w' hS' => ex_load _ _ rfl _ (F.e rfl) _ (lv1 eb_one_53 (hS'.cell (i := 0) rfl (j := j) (arr_get (pcs_get hz))))) hS ?_; clear F a; intro a F
      refine any_val F 4 rfl (by kernel_rfl) (wn rfl) rfl rfl (.int .i64 ((j : Nat) : Int)) (fun w' hS' => ex_move _ rfl _ (F.e rfl)) hS ?_; clear F a; intro a F
      refine any_val F 5 rfl (by kernel_rfl) (wn rfl) rfl rfl (.pointer (some ⟨g4, j, none⟩)) (fun w' hS' => ex_ixa _ _ _ rfl 8 eb_ar_69_8 ⟨g4, 0, none⟩ (F.e rfl) .i64 _ (F.e rfl) j rfl (by omega) ⟨g4, j, none⟩ ((addr_add _ _ _).trans (by rw [Nat.zero_add]))) hS ?_; clear F a; intro a F
      refine any_val F 6 rfl (by kernel_rfl) (wn rfl) rfl rfl (.slice z.B z.ap.length z.c) (fun w' hS' => ex_load _ _ rfl _ (F.e rfl) _ (lv1 eb_one_23 (hS'.cell (i := 1) rfl (j := j) (arr_get (acs_get hz))))) hS ?_; clear F a; intro a F
      refine any_ready [3] (by kernel_rfl) (by simp) ?_
      refine ready_do rfl (wn rfl) (fun K hK => ?_) AllReadyH.nil
      refine ow_call rfl rfl F 35 #[.pointer (some ⟨z.g, 0, none⟩)] (ex_call 35 _ _ rfl rfl eb_ent_35 _ (map1 (F.e rfl))) (sum_fam (t := []) R_ Z_ hz (hKt.below M.bel)) (fun e v hR => ?_)
      obtain ⟨he, hb⟩ := hR
      refine ⟨.agg ((bcs (sha z.wr)).toArray), he, ?_⟩; clear he F a; intro a F
      replace hS : Mm w v [⟨g3, (pcs hs).toArray, 68⟩, ⟨g4, (acs hs).toArray, 69⟩] := (by refine (M.below hb).pick' [1, 0] _ ?_ (by decide); exact ⟨rfl, rfl, trivial⟩)
      refine hK _ _ hS ?_
      clear hK K
      replace R_ := R_.below hb
      replace Z_ := Z_.below hb
      replace M := M.below hb; clear hb; try clear wD
      refine any_ready [7] (by kernel_rfl) (by simp) ?_
      refine ready_do rfl (wn rfl) (fun K hK => ?_) AllReadyH.nil
      refine ow_call rfl rfl F 27 #[.slice z.B z.ap.length z.c] (ex_call 27 _ _ rfl rfl eb_ent_27 _ (map1 (F.e rfl))) (copy_any z.ap _ z.ap.length z.c (by omega) _ (fam_rb (t := []) R_ hz)) (fun e u hR => ?_)
      obtain ⟨A_78, c_78, he, O_n, hb⟩ := hR
      have R1 := R_.new hb M.bel.size O_n
      refine ⟨.slice A_78 z.ap.length c_78, he, ?_⟩; clear he F a; intro a F
      replace hS : Mm w u [⟨g3, (pcs hs).toArray, 68⟩, ⟨g4, (acs hs).toArray, 69⟩] := (by refine (M.below hb).pick' [1, 0] _ ?_ (by decide); exact ⟨rfl, rfl, trivial⟩)
      refine hK _ _ hS ?_
      clear hK K
      replace R_ := R_.below hb
      replace Z_ := Z_.below hb
      replace M := M.below hb; clear hb; try clear v
      replace R_ := R1; clear R1 O_n
      refine any_ready [8] (by kernel_rfl) (by simp) ?_
      refine ready_do rfl (wn rfl) (fun K hK => ?_) AllReadyH.nil
      refine ow_call rfl rfl F 15 #[.slice A_78 z.ap.length c_78] (ex_call 15 _ _ rfl rfl eb_ent_15 _ (map1 (F.e rfl))) (sum_bytes z.ap _ z.ap.length c_78 _ (hKt.below M.bel) (R_.rb (i := 0) rfl) (R_.cap (i := 0) rfl)) (fun e v hR => ?_)
      obtain ⟨he, hb⟩ := hR
      refine ⟨.agg ((bcs (sha z.ap)).toArray), he, ?_⟩; clear he F a; intro a F
      replace hS : Mm w v [⟨g3, (pcs hs).toArray, 68⟩, ⟨g4, (acs hs).toArray, 69⟩] := (by refine (M.below hb).pick' [1, 0] _ ?_ (by decide); exact ⟨rfl, rfl, trivial⟩)
      refine hK _ _ hS ?_
      clear hK K
      replace R_ := R_.below hb
      replace Z_ := Z_.below hb
      replace M := M.below hb; clear hb; try clear u
      refine any_val F 9 rfl (by kernel_rfl) (wn rfl) rfl rfl (.bool false) (fun w' hS' => ex_neqA 24 _ _ _ rfl 32 eb_ab_24_32 (sha z.wr) (sha z.ap) (sha_len _) (sha_len _) (F.e rfl) (F.e rfl) false (by rw [hwz]; exact not_self _)) hS ?_; clear F a; intro a F
      refine any_val F 10 rfl (by kernel_rfl) (wn rfl) rfl rfl (.bool false) (fun w' hS' => ex_move _ rfl _ (F.e rfl)) hS ?_; clear F a; intro a F
      refine any_val F 11 rfl (by kernel_rfl) (F.wants 81 false rfl (by kernel_rfl) rfl true rfl) rfl rfl (.int .i64 ((j : Nat) : Int)) (fun w' hS' => ex_move _ rfl _ (F.e rfl)) hS ?_; clear F a; intro a F
      refine any_val F 12 rfl (by kernel_rfl) (F.wants 81 false rfl (by kernel_rfl) rfl true rfl) rfl rfl (.pointer (some ⟨g3, j, none⟩)) (fun w' hS' => ex_ixa _ _ _ rfl 8 eb_ar_68_8 ⟨g3, 0, none⟩ (F.e rfl) .i64 _ (F.e rfl) j rfl (by omega) ⟨g3, j, none⟩ ((addr_add _ _ _).trans (by rw [Nat.zero_add]))) hS ?_; clear F a; intro a F
      refine any_val F 13 rfl (by kernel_rfl) (F.wants 81 false rfl (by kernel_rfl) rfl true rfl) rfl rfl (.pointer (some ⟨z.g, 0, none⟩)) (fun w' hS' => ex_load _ _ rfl _ (F.e rfl) _ (lv1 eb_one_53 (hS'.cell (i := 0) rfl (j := j) (arr_get (pcs_get hz))))) hS ?_; clear F a; intro a F
      refine any_val F 15 rfl (by kernel_rfl) (F.wants 81 false rfl (by kernel_rfl) rfl true rfl) rfl rfl (.int .i64 ((j : Nat) : Int)) (fun w' hS' => ex_move _ rfl _ (F.e rfl)) hS ?_; clear F a; intro a F
      refine any_val F 16 rfl (by kernel_rfl) (F.wants 81 false rfl (by kernel_rfl) rfl true rfl) rfl rfl (.pointer (some ⟨g4, j, none⟩)) (fun w' hS' => ex_ixa _ _ _ rfl 8 eb_ar_69_8 ⟨g4, 0, none⟩ (F.e rfl) .i64 _ (F.e rfl) j rfl (by omega) ⟨g4, j, none⟩ ((addr_add _ _ _).trans (by rw [Nat.zero_add]))) hS ?_; clear F a; intro a F
      refine any_val F 17 rfl (by kernel_rfl) (F.wants 81 false rfl (by kernel_rfl) rfl true rfl) rfl rfl (.slice z.B z.ap.length z.c) (fun w' hS' => ex_load _ _ rfl _ (F.e rfl) _ (lv1 eb_one_23 (hS'.cell (i := 1) rfl (j := j) (arr_get (acs_get hz))))) hS ?_; clear F a; intro a F
      refine any_val F 18 rfl (by kernel_rfl) (F.wants 81 false rfl (by kernel_rfl) rfl true rfl) rfl rfl (.int .i64 ((z.ap.length : Nat) : Int)) (fun w' hS' => ex_len _ _ rfl 1 eb_sl_23_1 _ _ _ (F.e rfl)) hS ?_; clear F a; intro a F
      refine any_val F 19 rfl (by kernel_rfl) (F.wants 81 false rfl (by kernel_rfl) rfl true rfl) rfl rfl (.int .u64 ((BitVec.ofNat 64 z.wr.length).toNat : Int)) (fun w' hS' => ex_conv _ _ _ rfl _ .u64 eb_cv_3_62_u64 _ (F.e rfl) _ ((w64 _).trans (by rw [hwz]))) hS ?_; clear F a; intro a F
      refine any_ready [14] (by kernel_rfl) (by simp) ?_
      refine ready_do rfl (F.wants 81 false rfl (by kernel_rfl) rfl true rfl) (fun K hK => ?_) AllReadyH.nil
      refine ow_call rfl rfl F 36 #[.pointer (some ⟨z.g, 0, none⟩)] (ex_call 36 _ _ rfl rfl eb_ent_36 _ (map1 (F.e rfl))) (len_fam Z_ hz) (fun e u hR => ?_)
      obtain ⟨he, hb⟩ := hR
      refine ⟨.int .u64 ((BitVec.ofNat 64 z.wr.length).toNat : Int), he, ?_⟩; clear he F a; intro a F
      replace hS : Mm w u [⟨g3, (pcs hs).toArray, 68⟩, ⟨g4, (acs hs).toArray, 69⟩] := (by refine (M.below hb).pick' [1, 0] _ ?_ (by decide); exact ⟨rfl, rfl, trivial⟩)
      refine hK _ _ hS ?_
      clear hK K
      replace R_ := R_.below hb
      replace Z_ := Z_.below hb
      replace M := M.below hb; clear hb; try clear v
      refine any_val F 20 rfl (by kernel_rfl) (F.wants 81 false rfl (by kernel_rfl) rfl true rfl) rfl rfl (.bool false) (fun w' hS' => ex_bin .neq _ _ _ _ rfl .u64 _ _ (F.e rfl) (F.e rfl) _ (b_neq (by simp))) hS ?_; clear F a; intro a F
      refine any_val F 21 rfl (by kernel_rfl) (wn rfl) rfl rfl (.bool false) (fun w' hS' => ex_pick_f _ _ _ rfl (F.e rfl) _ (F.e rfl)) hS ?_; clear F a; intro a F
      refine any_done (by kernel_rfl) ?_
      exact ⟨A_78, c_78, F.keep ⟨rfl, rfl, rfl, rfl, rfl, rfl, rfl, rfl, rfl, rfl, trivial⟩, (by refine M.pick' [0, 1] _ ?_ (by decide); exact ⟨rfl, rfl, trivial⟩), R_, Z_⟩
     clear F M a R_ Z_
     intro a u hR; obtain ⟨A_78, c_78, F, M, R_, Z_⟩ := hR; try clear v
     refine then_n ?_
     refine wp_cond_false (F.e rfl) ?_
     refine wp_skip ?_
     refine in_n ?_
     refine then_n ?_
     refine wp_region_lit ?_
     refine list_val F (wn rfl) rfl rfl (.int .i64 ((j : Nat) : Int)) (ex_move _ rfl _ (F.e rfl)) ?_; clear F a; intro a F
     refine list_val F (wn rfl) rfl rfl (.int .i64 ((j + 1 : Nat) : Int)) (ex_bin .add _ _ _ _ rfl .i64 _ _ (F.e rfl) rfl _ (b_add ((w_i64 (by omega) (by omega)).trans (by omega)))) ?_; clear F a; intro a F
     refine list_val F (wn rfl) rfl rfl (.int .i64 ((j + 1 : Nat) : Int)) (ex_assign _ rfl _ (F.e rfl)) ?_; clear F a; intro a F
     refine wpList_nil ?_
     replace F : Fr 94 a [(0, .slice (some ad) n cl), (2, .bool false), (3, .pointer (some ⟨g3, 0, none⟩)), (4, .pointer (some ⟨g4, 0, none⟩)), (8, .int .i64 ((j + 1 : Nat) : Int)), (10, .bool false), (27, .bool true), (38, .bool true), (68, .bool true), (92, .bool false)] := F.keep ⟨rfl, rfl, rfl, rfl, rfl, rfl, rfl, rfl, rfl, rfl, trivial⟩
     refine then_n ?_
     replace R_ := Rs.dropt (t := [_]) R_
     exact ⟨8 - (j + 1), by omega, (j + 1), F.keep ⟨rfl, rfl, rfl, rfl, rfl, rfl, rfl, rfl, trivial⟩, (by refine M.pick' [0, 1] _ ?_ (by decide); exact ⟨rfl, rfl, trivial⟩), R_, Z_, (by omega), (by omega)⟩
    refine wp_seq ?_
    refine wp_seq ?_
    refine wp_region_lit ?_
    refine list_val F (wn rfl) rfl rfl (.int .i64 ((j : Nat) : Int)) (ex_move _ rfl _ (F.e rfl)) ?_; clear F a; intro a F
    refine list_val F (wn rfl) rfl rfl (.bool false) (ex_bin .lss _ _ _ _ rfl .i64 _ _ (F.e rfl) rfl _ (b_lss (decide_eq_false (by omega)))) ?_; clear F a; intro a F
    refine wpList_nil ?_
    replace F : Fr 94 a [(0, .slice (some ad) n cl), (2, .bool false), (3, .pointer (some ⟨g3, 0, none⟩)), (4, .pointer (some ⟨g4, 0, none⟩)), (8, .int .i64 ((j : Nat) : Int)), (10, .bool false), (27, .bool true), (38, .bool true), (68, .bool false)] := F.keep ⟨rfl, rfl, rfl, rfl, rfl, rfl, rfl, rfl, rfl, trivial⟩
    refine then_n ?_
    refine wp_cond_false (F.e rfl) ?_
    refine wp_exit ?_
    refine then_x ?_
    refine then_x ?_
    refine in_hit ?_
    refine then_n ?_
    refine wp_seq ?_
    refine wp_region_lit ?_
    refine list_do (wn rfl) (fun K hK => ?_)
    refine ow_call rfl rfl F 19 #[] (ex_call 19 _ _ rfl rfl eb_ent_19 _ (map0)) (wakes_any _ (hKt.below M.bel)) (fun e u hR => ?_)
    obtain ⟨he, hb⟩ := hR
    refine ⟨.bool true, he, ?_⟩; clear he F a; intro a F
    refine hK _ _ ?_
    clear hK K
    replace R_ := R_.below hb
    replace Z_ := Z_.below hb
    replace M := M.below hb; clear hb; try clear v
    refine list_val F (wn rfl) rfl rfl (.bool true) (ex_assign _ rfl _ (F.e rfl)) ?_; clear F a; intro a F
    refine wpList_nil ?_
    replace F : Fr 94 a [(0, .slice (some ad) n cl), (2, .bool true), (3, .pointer (some ⟨g3, 0, none⟩)), (4, .pointer (some ⟨g4, 0, none⟩)), (8, .int .i64 ((j : Nat) : Int)), (10, .bool false), (27, .bool true), (38, .bool true), (68, .bool false)] := F.keep ⟨rfl, rfl, rfl, rfl, rfl, rfl, rfl, rfl, rfl, trivial⟩
    refine then_n ?_
    refine wp_ret ?_
    exact ret_tmp F rfl rfl ⟨rfl, M.bel⟩
   rw [show ((lf : Nat) : Int) - ((b.length : Nat) : Int) = ((lf - b.length : Nat) : Int) by omega] at F
   refine wp_region_lit ?_
   refine list_val F (wn rfl) rfl rfl (.int .i64 ((lf - b.length : Nat) : Int)) (ex_move _ rfl _ (F.e rfl)) ?_; clear F a; intro a F
   refine list_val F (wn rfl) rfl rfl (.bool false) (ex_bin .lss _ _ _ _ rfl .i64 _ _ (F.e rfl) rfl _ (b_lss (decide_eq_false (by omega)))) ?_; clear F a; intro a F
   refine wpList_nil ?_
   replace F : Fr 94 a [(0, .slice (some ad) n cl), (2, .bool false), (3, .pointer (some ⟨g3, 0, none⟩)), (4, .pointer (some ⟨g4, 0, none⟩)), (5, .int .i64 ((8 : Nat) : Int)), (6, .int .i64 ((lf - b.length : Nat) : Int)), (7, .int .i64 ((i : Nat) : Int)), (10, .bool false), (27, .bool true), (38, .bool false)] := F.keep ⟨rfl, rfl, rfl, rfl, rfl, rfl, rfl, rfl, rfl, rfl, trivial⟩
   refine then_n ?_
   refine wp_cond_false (F.e rfl) ?_
   refine wp_skip ?_
   refine then_n ?_
   refine wp_seq ?_
   have hk8 : i % 8 < 8 := Nat.mod_lt _ (by decide)
   obtain ⟨x, hx⟩ : ∃ h, hs[i % 8]? = some h := ⟨_, List.getElem?_eq_getElem (by omega)⟩
   refine wp_only (fun ar wr => ∃ (A_47 : Option Addr), ∃ (c_47 : Nat), ∃ (hs48 : List Hz), ∃ (h48 : Hz), Fr 94 ar [(0, .slice (some ad) n cl), (2, .bool false), (3, .pointer (some ⟨g3, 0, none⟩)), (4, .pointer (some ⟨g4, 0, none⟩)), (5, .int .i64 ((8 : Nat) : Int)), (6, .int .i64 ((lf - b.length : Nat) : Int)), (7, .int .i64 ((i : Nat) : Int)), (10, .bool false), (27, .bool true), (38, .bool false)] ∧ Mm w wr [⟨g4, (acs hs48).toArray, 69⟩, ⟨g3, (pcs hs48).toArray, 68⟩] ∧ Rs w wr ([(.slice A_47 b.length c_47, b)] ++ famR hs48) ∧ Fam w wr hs48 ∧ Chg hs hs48 (i % 8) h48 ∧ h48.wr = x.wr ++ b ∧ h48.ap = x.ap) ?_ ?_
   ·
    refine region_anyM eb_follows_mixedOrders M [⟨g3, (pcs hs).toArray, 68⟩] (fun w' M => (by refine M.pick' [1] _ ?_ (by decide); exact ⟨rfl, trivial⟩)) ?_; clear M; intro wD M hb
    replace R_ := R_.below hb
    replace Z_ := Z_.below hb
    clear hb; try clear u
    have hS : Mm w wD [⟨g3, (pcs hs).toArray, 68⟩] := (by refine M.pick' [1] _ ?_ (by decide); exact ⟨rfl, trivial⟩)
    refine any_val F 0 rfl (by kernel_rfl) (wn rfl) rfl rfl (.int .i64 ((i : Nat) : Int)) (fun w' hS' => ex_move _ rfl _ (F.e rfl)) hS ?_; clear F a; intro a F
    refine any_val F 1 rfl (by kernel_rfl) (wn rfl) rfl rfl (.int .i64 ((i % 8 : Nat) : Int)) (fun w' hS' => ex_bin .rem _ _ _ _ rfl .i64 _ _ (F.e rfl) rfl _ (b_rem (by decide) (tmod_nat i 8))) hS ?_; clear F a; intro a F
    refine any_val F 2 rfl (by kernel_rfl) (wn rfl) rfl rfl (.pointer (some ⟨g3, i % 8, none⟩)) (fun w' hS' => ex_ixa _ _ _ rfl 8 eb_ar_68_8 ⟨g3, 0, none⟩ (F.e rfl) .i64 _ (F.e rfl) (i % 8) rfl (by omega) ⟨g3, i % 8, none⟩ ((addr_add _ _ _).trans (by rw [Nat.zero_add]))) hS ?_; clear F a; intro a F
    refine any_val F 3 rfl (by kernel_rfl) (wn rfl) rfl rfl (.pointer (some ⟨x.g, 0, none⟩)) (fun w' hS' => ex_load _ _ rfl _ (F.e rfl) _ (lv1 eb_one_53 (hS'.cell (i := 0) rfl (j := i % 8) (arr_get (pcs_get hx))))) hS ?_; clear F a; intro a F
    refine any_val F 4 rfl (by kernel_rfl) (wn rfl) rfl rfl (.slice (some ad) n cl) (fun w' hS' => ex_move _ rfl _ (F.e rfl)) hS ?_; clear F a; intro a F
    refine any_val F 5 rfl (by kernel_rfl) (wn rfl) rfl rfl (.int .i64 ((i : Nat) : Int)) (fun w' hS' => ex_move _ rfl _ (F.e rfl)) hS ?_; clear F a; intro a F
    refine any_val F 6 rfl (by kernel_rfl) (wn rfl) rfl rfl (.pointer (some (ad.add i))) (fun w' hS' => ex_ix _ _ _ rfl 1 eb_sl_22_1 ad _ _ (F.e rfl) .i64 _ (F.e rfl) i rfl (by omega) _ (congrArg _ (Nat.mul_one _))) hS ?_; clear F a; intro a F
    refine any_val F 7 rfl (by kernel_rfl) (wn rfl) rfl rfl (.slice B b.length c) (fun w' hS' => ex_load _ _ rfl _ (F.e rfl) _ (lv1 eb_one_23 (pw_cell_below hS'.bel hce))) hS ?_; clear F a; intro a F
    refine any_ready [8] (by kernel_rfl) (by simp) ?_
    refine ready_do rfl (wn rfl) (fun K hK => ?_) AllReadyH.nil
    refine ow_call rfl rfl F 27 #[.slice B b.length c] (ex_call 27 _ _ rfl rfl eb_ent_27 _ (map1 (F.e rfl))) (copy_any b _ b.length c (by omega) _ (hrb.below M.bel)) (fun e v hR => ?_)
    obtain ⟨A_47, c_47, he, O_n, hb⟩ := hR
    have R1 := R_.new hb M.bel.size O_n
    refine ⟨.slice A_47 b.length c_47, he, ?_⟩; clear he F a; intro a F
    replace hS : Mm w v [⟨g3, (pcs hs).toArray, 68⟩] := (by refine (M.below hb).pick' [1] _ ?_ (by decide); exact ⟨rfl, trivial⟩)
    refine hK _ _ hS ?_
    clear hK K
    replace R_ := R_.below hb
    replace Z_ := Z_.below hb
    replace M := M.below hb; clear hb; try clear wD
    replace R_ := R1; clear R1 O_n
    refine any_ready [9] (by kernel_rfl) (by simp) ?_
    refine ready_do rfl (wn rfl) (fun K hK => ?_) AllReadyH.nil
    refine ow_call rfl rfl F 33 #[.pointer (some ⟨x.g, 0, none⟩), .slice A_47 b.length c_47] (ex_call 33 _ _ rfl rfl eb_ent_33 _ (map2 (F.e rfl) (F.e rfl))) (write_fam (t := [_]) M rfl R_ Z_ hx (hKt.below M.bel) h0 0 _ A_47 b.length c_47 b _ rfl (R_.rb (i := 0) rfl) (R_.cap (i := 0) rfl)) (fun e u hR => ?_)
    obtain ⟨he, hs48, h48, M1, R1, Z1, hch48, hwr48, hap48, hal48, hp48, ha48⟩ := hR
    refine ⟨.tuple #[], he, ?_⟩; clear he F a; intro a F
    replace hS : Mm w u [⟨g3, (pcs hs).toArray, 68⟩] := (by refine M1.pick' [1] _ ?_ (by decide); exact ⟨rfl, trivial⟩)
    refine hK _ _ hS ?_
    clear hK K
    replace M := M1; replace R_ := R1; replace Z_ := Z1; clear M1 R1 Z1
    rw [← hp48, ← ha48] at M
    replace M : Mm w u [⟨g4, (acs hs48).toArray, 69⟩, ⟨g3, (pcs hs48).toArray, 68⟩] := M; try clear v
    refine any_done (by kernel_rfl) ?_
    exact ⟨A_47, c_47, hs48, h48, F.keep ⟨rfl, rfl, rfl, rfl, rfl, rfl, rfl, rfl, rfl, rfl, trivial⟩, (by refine M.pick' [0, 1] _ ?_ (by decide); exact ⟨rfl, rfl, trivial⟩), R_, Z_, hch48, hwr48, hap48⟩
   clear F M a R_ Z_
   intro a v hR; obtain ⟨A_47, c_47, hs48, h48, F, M, R_, Z_, hch48, hwr48, hap48⟩ := hR; try clear u
   refine then_n ?_
   refine wp_seq ?_
   replace R_ := Rs.dropt (t := [_]) R_
   have hxb := hag _ x hx
   refine wp_only (fun ar wr => ∃ (hs59 : List Hz), ∃ (h59 : Hz), Fr 94 ar [(0, .slice (some ad) n cl), (2, .bool false), (3, .pointer (some ⟨g3, 0, none⟩)), (4, .pointer (some ⟨g4, 0, none⟩)), (5, .int .i64 ((8 : Nat) : Int)), (6, .int .i64 ((lf - b.length : Nat) : Int)), (7, .int .i64 ((i : Nat) : Int)), (10, .bool false), (27, .bool true), (38, .bool false)] ∧ Mm w wr [⟨g4, (acs hs59).toArray, 69⟩, ⟨g3, (pcs hs59).toArray, 68⟩] ∧ Rs w wr ([] ++ famR hs59) ∧ Fam w wr hs59 ∧ Chg hs hs48 (i % 8) h48 ∧ h48.wr = x.wr ++ b ∧ h48.ap = x.ap ∧ Chg hs48 hs59 (i % 8) h59 ∧ h59.wr = h48.wr ∧ h59.ap = h48.ap ++ b) ?_ ?_
   ·
    refine region_anyM eb_follows_mixedOrders M [⟨g3, (pcs hs48).toArray, 68⟩] (fun w' M => (by refine M.pick' [1] _ ?_ (by decide); exact ⟨rfl, trivial⟩)) ?_; clear M; intro wD M hb
    replace R_ := R_.below hb
    replace Z_ := Z_.below hb
    replace hch48 := hch48
    replace hwr48 := hwr48
    replace hap48 := hap48
    clear hb; try clear v
    have hS : Mm w wD [⟨g3, (pcs hs48).toArray, 68⟩] := (by refine M.pick' [1] _ ?_ (by decide); exact ⟨rfl, trivial⟩)
    refine any_val F 0 rfl (by kernel_rfl) (wn rfl) rfl rfl (.int .i64 ((i : Nat) : Int)) (fun w' hS' => ex_move _ rfl _ (F.e rfl)) hS ?_; clear F a; intro a F
    refine any_val F 1 rfl (by kernel_rfl) (wn rfl) rfl rfl (.int .i64 ((i % 8 : Nat) : Int)) (fun w' hS' => ex_bin .rem _ _ _ _ rfl .i64 _ _ (F.e rfl) rfl _ (b_rem (by decide) (tmod_nat i 8))) hS ?_; clear F a; intro a F
    refine any_val F 2 rfl (by kernel_rfl) (wn rfl) rfl rfl (.int .i64 ((i : Nat) : Int)) (fun w' hS' => ex_move _ rfl _ (F.e rfl)) hS ?_; clear F a; intro a F
    refine any_val F 3 rfl (by kernel_rfl) (wn rfl) rfl rfl (.int .i64 ((i % 8 : Nat) : Int)) (fun w' hS' => ex_bin .rem _ _ _ _ rfl .i64 _ _ (F.e rfl) rfl _ (b_rem (by decide) (tmod_nat i 8))) hS ?_; clear F a; intro a F
    refine any_val F 4 rfl (by kernel_rfl) (wn rfl) rfl rfl (.pointer (some ⟨g4, i % 8, none⟩)) (fun w' hS' => ex_ixa _ _ _ rfl 8 eb_ar_69_8 ⟨g4, 0, none⟩ (F.e rfl) .i64 _ (F.e rfl) (i % 8) rfl (by omega) ⟨g4, i % 8, none⟩ ((addr_add _ _ _).trans (by rw [Nat.zero_add]))) hS ?_; clear F a; intro a F
    refine any_val F 6 rfl (by kernel_rfl) (wn rfl) rfl rfl (.slice (some ad) n cl) (fun w' hS' => ex_move _ rfl _ (F.e rfl)) hS ?_; clear F a; intro a F
    refine any_val F 7 rfl (by kernel_rfl) (wn rfl) rfl rfl (.int .i64 ((i : Nat) : Int)) (fun w' hS' => ex_move _ rfl _ (F.e rfl)) hS ?_; clear F a; intro a F
    refine any_val F 8 rfl (by kernel_rfl) (wn rfl) rfl rfl (.pointer (some (ad.add i))) (fun w' hS' => ex_ix _ _ _ rfl 1 eb_sl_22_1 ad _ _ (F.e rfl) .i64 _ (F.e rfl) i rfl (by omega) _ (congrArg _ (Nat.mul_one _))) hS ?_; clear F a; intro a F
    refine any_val F 9 rfl (by kernel_rfl) (wn rfl) rfl rfl (.slice B b.length c) (fun w' hS' => ex_load _ _ rfl _ (F.e rfl) _ (lv1 eb_one_23 (pw_cell_below hS'.bel hce))) hS ?_; clear F a; intro a F
    refine any_ready [5] (by kernel_rfl) (by simp) ?_
    refine ready_do rfl (wn rfl) (fun K hK => ?_) AllReadyH.nil
    refine ow_val F rfl rfl (.slice h48.B h48.ap.length h48.c) (ex_load _ _ rfl _ (F.e rfl) _ (lv1 eb_one_23 (M.cell (i := 0) rfl (j := i % 8) (arr_get (acs_get hch48.at_))))) ?_; clear F a; intro a F
    replace hS : Mm w wD [⟨g3, (pcs hs48).toArray, 68⟩] := (by refine M.pick' [1] _ ?_ (by decide); exact ⟨rfl, trivial⟩)
    refine hK _ _ hS ?_
    clear hK K
    refine any_ready [10] (by kernel_rfl) (by simp) ?_
    refine ready_do rfl (wn rfl) (fun K hK => ?_) AllReadyH.nil
    refine ow_appF (t := []) F M R_ Z_ rfl rfl rfl rfl _ _ rfl (i % 8) h48 hch48.at_ (F.e rfl) B b.length c b (F.e rfl) (hrb.below M.bel) (by rw [hap48]; omega) ?_
    clear F M R_ Z_; intro a hs59 h59 v F M R_ Z_ hch59 hwr59 hap59 hp59 ha59
    replace hS : Mm w v [⟨g3, (pcs hs48).toArray, 68⟩] := (by refine M.pick' [1] _ ?_ (by decide); exact ⟨rfl, trivial⟩)
    refine hK _ _ hS ?_
    clear hK K
    try clear wD
    refine any_val F 11 rfl (by kernel_rfl) (wn rfl) rfl rfl (.pointer (some ⟨g4, i % 8, none⟩)) (fun w' hS' => ex_ixa _ _ _ rfl 8 eb_ar_69_8 ⟨g4, 0, none⟩ (F.e rfl) .i64 _ (F.e rfl) (i % 8) rfl (by omega) ⟨g4, i % 8, none⟩ ((addr_add _ _ _).trans (by rw [Nat.zero_add]))) hS ?_; clear F a; intro a F
    refine any_ready [12] (by kernel_rfl) (by simp) ?_
    refine ready_do rfl (wn rfl) (fun K hK => ?_) AllReadyH.nil
    refine ow_store F M rfl 23 _ _ rfl 0 g4 _ _ rfl (i % 8) (F.e rfl) _ (F.e rfl) [.slice h59.B h59.ap.length h59.c] rfl eb_info_23_map_size_some_1 (by rw [List.size_toArray, (show (acs hs48).length = 8 by rw [acs_len, hch48.len, hln])]; simp; omega) (by simp [Value.oneCell', Hz.al]) (acs hs59).toArray (congrArg List.toArray (acs_put hk8 ha59 (by rw [acs_len, hch48.len, hln]))) ?_
    clear F a; have Mo := M; clear M; intro a u F M hgr
    replace hS : Mm w u [⟨g3, (pcs hs48).toArray, 68⟩] := (by refine M.pick' [1] _ ?_ (by decide); exact ⟨rfl, trivial⟩)
    refine hK _ _ hS ?_
    clear hK K
    replace R_ := R_.box (Mo.blk 0 _ rfl) (by show 5 ≠ 69; decide) hgr
    replace Z_ := Z_.other (Mo.blk 0 _ rfl) (by show 82 ≠ 69; decide) hgr
    replace hch48 := hch48
    replace hwr48 := hwr48
    replace hap48 := hap48
    replace hch59 := hch59
    replace hwr59 := hwr59
    replace hap59 := hap59
    clear Mo hgr; try clear v
    replace M : Mm w u [⟨g4, (acs hs59).toArray, 69⟩, ⟨g3, (pcs hs48).toArray, 68⟩] := M
    rw [← hp59] at M
    replace M : Mm w u [⟨g4, (acs hs59).toArray, 69⟩, ⟨g3, (pcs hs59).toArray, 68⟩] := M
    refine any_done (by kernel_rfl) ?_
    exact ⟨hs59, h59, F.keep ⟨rfl, rfl, rfl, rfl, rfl, rfl, rfl, rfl, rfl, rfl, trivial⟩, (by refine M.pick' [0, 1] _ ?_ (by decide); exact ⟨rfl, rfl, trivial⟩), R_, Z_, hch48, hwr48, hap48, hch59, hwr59, hap59⟩
   clear F M a R_ Z_ hch48 hwr48 hap48
   intro a u hR; obtain ⟨hs59, h59, F, M, R_, Z_, hch48, hwr48, hap48, hch59, hwr59, hap59⟩ := hR; try clear v
   refine then_n ?_
   have hl59 : hs59.length = 8 := by rw [hch59.len, hch48.len, hln]
   have hk38 : (i + 3) % 8 < 8 := Nat.mod_lt _ (by decide)
   obtain ⟨y, hy⟩ : ∃ h, hs59[(i + 3) % 8]? = some h := ⟨_, List.getElem?_eq_getElem (by omega)⟩
   refine wp_region_lit ?_
   refine list_val F (wn rfl) rfl rfl (.int .i64 ((i : Nat) : Int)) (ex_move _ rfl _ (F.e rfl)) ?_; clear F a; intro a F
   refine list_val F (wn rfl) rfl rfl (.int .i64 ((i + 3 : Nat) : Int)) (ex_bin .add _ _ _ _ rfl .i64 _ _ (F.e rfl) rfl _ (b_add ((w_i64 (by omega) (by omega)).trans (by omega)))) ?_; clear F a; intro a F
   refine list_val F (wn rfl) rfl rfl (.int .i64 (((i + 3) % 8 : Nat) : Int)) (ex_bin .rem _ _ _ _ rfl .i64 _ _ (F.e rfl) rfl _ (b_rem (by decide) (tmod_nat (i + 3) 8))) ?_; clear F a; intro a F
   refine list_val F (wn rfl) rfl rfl (.pointer (some ⟨g3, (i + 3) % 8, none⟩)) (ex_ixa _ _ _ rfl 8 eb_ar_68_8 ⟨g3, 0, none⟩ (F.e rfl) .i64 _ (F.e rfl) ((i + 3) % 8) rfl (by omega) ⟨g3, (i + 3) % 8, none⟩ ((addr_add _ _ _).trans (by rw [Nat.zero_add]))) ?_; clear F a; intro a F
   refine list_val F (wn rfl) rfl rfl (.pointer (some ⟨y.g, 0, none⟩)) (ex_load _ _ rfl _ (F.e rfl) _ (lv1 eb_one_53 (M.cell (i := 1) rfl (j := (i + 3) % 8) (arr_get (pcs_get hy))))) ?_; clear F a; intro a F
   refine list_do (wn rfl) (fun K hK => ?_)
   refine ow_call rfl rfl F 35 #[.pointer (some ⟨y.g, 0, none⟩)] (ex_call 35 _ _ rfl rfl eb_ent_35 _ (map1 (F.e rfl))) (sum_fam (t := []) R_ Z_ hy (hKt.below M.bel)) (fun e v hR => ?_)
   obtain ⟨he, hb⟩ := hR
   refine ⟨.agg ((bcs (sha y.wr)).toArray), he, ?_⟩; clear he F a; intro a F
   refine hK _ _ ?_
   clear hK K
   replace R_ := R_.below hb
   replace Z_ := Z_.below hb
   replace hch48 := hch48
   replace hwr48 := hwr48
   replace hap48 := hap48
   replace hch59 := hch59
   replace hwr59 := hwr59
   replace hap59 := hap59
   replace M := M.below hb; clear hb; try clear u
   refine wpList_nil ?_
   replace F : Fr 94 a [(0, .slice (some ad) n cl), (2, .bool false), (3, .pointer (some ⟨g3, 0, none⟩)), (4, .pointer (some ⟨g4, 0, none⟩)), (5, .int .i64 ((8 : Nat) : Int)), (6, .int .i64 ((lf - b.length : Nat) : Int)), (7, .int .i64 ((i : Nat) : Int)), (10, .bool false), (27, .bool true), (38, .bool false)] := F.keep ⟨rfl, rfl, rfl, rfl, rfl, rfl, rfl, rfl, rfl, rfl, trivial⟩
   refine in_n ?_
   refine then_n ?_
   refine wp_region_lit ?_
   refine list_val F (wn rfl) rfl rfl (.int .i64 ((i : Nat) : Int)) (ex_move _ rfl _ (F.e rfl)) ?_; clear F a; intro a F
   refine list_val F (wn rfl) rfl rfl (.int .i64 ((i + 1 : Nat) : Int)) (ex_bin .add _ _ _ _ rfl .i64 _ _ (F.e rfl) rfl _ (b_add ((w_i64 (by omega) (by omega)).trans (by omega)))) ?_; clear F a; intro a F
   refine list_val F (wn rfl) rfl rfl (.int .i64 ((i + 1 : Nat) : Int)) (ex_assign _ rfl _ (F.e rfl)) ?_; clear F a; intro a F
   refine wpList_nil ?_
   replace F : Fr 94 a [(0, .slice (some ad) n cl), (2, .bool false), (3, .pointer (some ⟨g3, 0, none⟩)), (4, .pointer (some ⟨g4, 0, none⟩)), (5, .int .i64 ((8 : Nat) : Int)), (6, .int .i64 ((lf - b.length : Nat) : Int)), (7, .int .i64 ((i + 1 : Nat) : Int)), (10, .bool false), (27, .bool true), (38, .bool false)] := F.keep ⟨rfl, rfl, rfl, rfl, rfl, rfl, rfl, rfl, rfl, rfl, trivial⟩
   refine then_n ?_
   exact ⟨n - (i + 1), by omega, (i + 1), hs59, (lf - b.length), F.keep ⟨rfl, rfl, rfl, rfl, rfl, rfl, rfl, rfl, trivial⟩, (by refine M.pick' [0, 1] _ ?_ (by decide); exact ⟨rfl, rfl, trivial⟩), R_, Z_, (by omega), hl59, (by omega), (ag_step hag hx hch48 hch59 hwr48 hwr59 hap48 hap59 (by omega)), (by omega)⟩
  refine wp_seq ?_
  refine wp_seq ?_
  refine wp_region_lit ?_
  refine list_val F (wn rfl) rfl rfl (.int .i64 ((i : Nat) : Int)) (ex_move _ rfl _ (F.e rfl)) ?_; clear F a; intro a F
  refine list_val F (wn rfl) rfl rfl (.slice Ls n cl) (ex_move _ rfl _ (F.e rfl)) ?_; clear F a; intro a F
  refine list_val F (wn rfl) rfl rfl (.int .i64 ((n : Nat) : Int)) (ex_len _ _ rfl 1 eb_sl_22_1 _ _ _ (F.e rfl)) ?_; clear F a; intro a F
  refine list_val F (wn rfl) rfl rfl (.bool true) (ex_bin .lss _ _ _ _ rfl .i64 _ _ (F.e rfl) (F.e rfl) _ (b_lss (decide_eq_true (by omega)))) ?_; clear F a; intro a F
  refine list_val F (wn rfl) rfl rfl (.bool true) (ex_move _ rfl _ (F.e rfl)) ?_; clear F a; intro a F
  refine list_val F (F.wants 24 true rfl (by kernel_rfl) rfl true rfl) rfl rfl (.int .i64 ((i : Nat) : Int)) (ex_move _ rfl _ (F.e rfl)) ?_; clear F a; intro a F
  refine list_val F (F.wants 24 true rfl (by kernel_rfl) rfl true rfl) rfl rfl (.bool false) (ex_bin .lss _ _ _ _ rfl .i64 _ _ (F.e rfl) rfl _ (b_lss (decide_eq_false (by omega)))) ?_; clear F a; intro a F
  refine list_val F (wn rfl) rfl rfl (.bool false) (ex_pick_t _ _ _ rfl (F.e rfl) _ (F.e rfl)) ?_; clear F a; intro a F
  refine wpList_nil ?_
  replace F : Fr 94 a [(0, .slice Ls n cl), (2, .bool false), (3, .pointer (some ⟨g3, 0, none⟩)), (4, .pointer (some ⟨g4, 0, none⟩)), (5, .int .i64 ((8 : Nat) : Int)), (6, .int .i64 ((lf : Nat) : Int)), (7, .int .i64 ((i : Nat) : Int)), (10, .bool false), (27, .bool false)] := F.keep ⟨rfl, rfl, rfl, rfl, rfl, rfl, rfl, rfl, rfl, trivial⟩
  refine then_n ?_
  refine wp_cond_false (F.e rfl) ?_
  refine wp_exit ?_
  refine then_x ?_
  refine then_x ?_
  refine in_hit ?_
  refine then_n ?_
  refine wp_seq ?_
  refine wp_seq ?_
  refine wp_region_lit ?_
  refine list_val F (wn rfl) rfl rfl (.int .i64 0) (ex_assign _ rfl _ rfl) ?_; clear F a; intro a F
  refine wpList_nil ?_
  replace F : Fr 94 a [(0, .slice Ls n cl), (2, .bool false), (3, .pointer (some ⟨g3, 0, none⟩)), (4, .pointer (some ⟨g4, 0, none⟩)), (5, .int .i64 ((8 : Nat) : Int)), (6, .int .i64 ((lf : Nat) : Int)), (7, .int .i64 ((i : Nat) : Int)), (8, .int .i64 0), (10, .bool false), (27, .bool false)] := F.keep ⟨rfl, rfl, rfl, rfl, rfl, rfl, rfl, rfl, rfl, rfl, trivial⟩
  refine then_n ?_
  refine wp_block ?_
  refine wp_loopN (fun mq ar wr => ∃ (j : Nat), Fr 94 ar [(0, .slice Ls n cl), (2, .bool false), (3, .pointer (some ⟨g3, 0, none⟩)), (4, .pointer (some ⟨g4, 0, none⟩)), (8, .int .i64 ((j : Nat) : Int)), (10, .bool false), (27, .bool false)] ∧ Mm w wr [⟨g4, (acs hs).toArray, 69⟩, ⟨g3, (pcs hs).toArray, 68⟩] ∧ Rs w wr ([] ++ famR hs) ∧ Fam w wr hs ∧ j ≤ 8 ∧ mq + j = 8) 8 ?_ ?_
  ·
   exact ⟨0, F.keep ⟨rfl, rfl, rfl, rfl, rfl, rfl, rfl, trivial⟩, (by refine M.pick' [0, 1] _ ?_ (by decide); exact ⟨rfl, rfl, trivial⟩), R_, Z_, (Nat.zero_le _), (by omega)⟩
  clear F M a R_ Z_
  rintro mq a v ⟨j, F, M, R_, Z_, hj8, hq⟩; try clear u
  by_cases hj : j < 8
  ·
   refine wp_seq ?_
   refine wp_seq ?_
   refine wp_region_lit ?_
   refine list_val F (wn rfl) rfl rfl (.int .i64 ((j : Nat) : Int)) (ex_move _ rfl _ (F.e rfl)) ?_; clear F a; intro a F
   refine list_val F (wn rfl) rfl rfl (.bool true) (ex_bin .lss _ _ _ _ rfl .i64 _ _ (F.e rfl) rfl _ (b_lss (decide_eq_true (by omega)))) ?_; clear F a; intro a F
   refine wpList_nil ?_
   replace F : Fr 94 a [(0, .slice Ls n cl), (2, .bool false), (3, .pointer (some ⟨g3, 0, none⟩)), (4, .pointer (some ⟨g4, 0, none⟩)), (8, .int .i64 ((j : Nat) : Int)), (10, .bool false), (27, .bool false), (68, .bool true)] := F.keep ⟨rfl, rfl, rfl, rfl, rfl, rfl, rfl, rfl, trivial⟩
   refine then_n ?_
   refine wp_cond_true (F.e rfl) ?_
   refine wp_skip ?_
   refine then_n ?_
   refine wp_seq ?_
   refine wp_block ?_
   refine wp_seq ?_
   obtain ⟨z, hz⟩ : ∃ h, hs[j]? = some h := ⟨_, List.getElem?_eq_getElem (by omega)⟩
   have hzz := hag _ z hz
   have hwz : z.wr = z.ap := hzz.1
   refine wp_only (fun ar wr => ∃ (A_78 : Option Addr), ∃ (c_78 : Nat), Fr 94 ar [(0, .slice Ls n cl), (2, .bool false), (3, .pointer (some ⟨g3, 0, none⟩)), (4, .pointer (some ⟨g4, 0, none⟩)), (8, .int .i64 ((j : Nat) : Int)), (10, .bool false), (27, .bool false), (68, .bool true), (92, .bool false)] ∧ Mm w wr [⟨g4, (acs hs).toArray, 69⟩, ⟨g3, (pcs hs).toArray, 68⟩] ∧ Rs w wr ([(.slice A_78 z.ap.length c_78, z.ap)] ++ famR hs) ∧ Fam w wr hs) ?_ ?_
   ·
    refine region_anyM eb_follows_mixedOrders M [⟨g3, (pcs hs).toArray, 68⟩, ⟨g4, (acs hs).toArray, 69⟩] (fun w' M => (by refine M.pick' [1, 0] _ ?_ (by decide); exact ⟨rfl, rfl, trivial⟩)) ?_; clear M; intro wD M hb
    replace R_ := R_.below hb
    replace Z_ := Z_.below hb
    clear hb; try clear v
    have hS : Mm w wD [⟨g3, (pcs hs).toArray, 68⟩, ⟨g4, (acs hs).toArray, 69⟩] := (by refine M.pick' [1, 0] _ ?_ (by decide); exact ⟨rfl, rfl, trivial⟩)
    refine any_val F 0 rfl (by kernel_rfl) (wn rfl) rfl rfl (.int .i64 ((j : Nat) : Int)) (fun w' hS' => ex_move _ rfl _ (F.e rfl)) hS ?_; clear F a; intro a F
    refine any_val F 1 rfl (by kernel_rfl) (wn rfl) rfl rfl (.pointer (some ⟨g3, j, none⟩)) (fun w' hS' => ex_ixa _ _ _ rfl 8 eb_ar_68_8 ⟨g3, 0, none⟩ (F.e rfl) .i64 _ (F.e rfl) j rfl (by omega) ⟨g3, j, none⟩ ((addr_add _ _ _).trans (by rw [Nat.zero_add]))) hS ?_; clear F a; intro a F
    refine any_val F 2 rfl (by kernel_rfl) (wn rfl) rfl rfl (.pointer (some ⟨z.g, 0, none⟩)) (fun w' hS' => ex_load _ _ rfl _ (F.e rfl) _ (lv1 eb_one_53 (hS'.cell (i := 0) rfl (j := j) (arr_get (pcs_get hz))))) hS ?_; clear F a; intro a F
    refine any_val F 4 rfl (by kernel_rfl) (wn rfl) rfl rfl (.int .i64 ((j : Nat) : Int)) (fun w' hS' => ex_move _ rfl _ (F.e rfl)) hS ?_; clear F a; intro a F
    refine any_val F 5 rfl (by kernel_rfl) (wn rfl) rfl rfl (.pointer (some ⟨g4, j, none⟩)) (fun w' hS' => ex_ixa _ _ _ rfl 8 eb_ar_69_8 ⟨g4, 0, none⟩ (F.e rfl) .i64 _ (F.e rfl) j rfl (by omega) ⟨g4, j, none⟩ ((addr_add _ _ _).trans (by rw [Nat.zero_add]))) hS ?_; clear F a; intro a F
    refine any_val F 6 rfl (by kernel_rfl) (wn rfl) rfl rfl (.slice z.B z.ap.length z.c) (fun w' hS' => ex_load _ _ rfl _ (F.e rfl) _ (lv1 eb_one_23 (hS'.cell (i := 1) rfl (j := j) (arr_get (acs_get hz))))) hS ?_; clear F a; intro a F
    refine any_ready [3] (by kernel_rfl) (by simp) ?_
    refine ready_do rfl (wn rfl) (fun K hK => ?_) AllReadyH.nil
    refine ow_call rfl rfl F 35 #[.pointer (some ⟨z.g, 0, none⟩)] (ex_call 35 _ _ rfl rfl eb_ent_35 _ (map1 (F.e rfl))) (sum_fam (t := []) R_ Z_ hz (hKt.below M.bel)) (fun e v hR => ?_)
    obtain ⟨he, hb⟩ := hR
    refine ⟨.agg ((bcs (sha z.wr)).toArray), he, ?_⟩; clear he F a; intro a F
    replace hS : Mm w v [⟨g3, (pcs hs).toArray, 68⟩, ⟨g4, (acs hs).toArray, 69⟩] := (by refine (M.below hb).pick' [1, 0] _ ?_ (by decide); exact ⟨rfl, rfl, trivial⟩)
    refine hK _ _ hS ?_
    clear hK K
    replace R_ := R_.below hb
    replace Z_ := Z_.below hb
    replace M := M.below hb; clear hb; try clear wD
    refine any_ready [7] (by kernel_rfl) (by simp) ?_
    refine ready_do rfl (wn rfl) (fun K hK => ?_) AllReadyH.nil
    refine ow_call rfl rfl F 27 #[.slice z.B z.ap.length z.c] (ex_call 27 _ _ rfl rfl eb_ent_27 _ (map1 (F.e rfl))) (copy_any z.ap _ z.ap.length z.c (by omega) _ (fam_rb (t := []) R_ hz)) (fun e u hR => ?_)
    obtain ⟨A_78, c_78, he, O_n, hb⟩ := hR
    have R1 := R_.new hb M.bel.size O_n
    refine ⟨.slice A_78 z.ap.length c_78, he, ?_⟩; clear he F a; intro a F
    replace hS : Mm w u [⟨g3, (pcs hs).toArray, 68⟩, ⟨g4, (acs hs).toArray, 69⟩] := (by refine (M.below hb).pick' [1, 0] _ ?_ (by decide); exact ⟨rfl, rfl, trivial⟩)
    refine hK _ _ hS ?_
    clear hK K
    replace R_ := R_.below hb
    replace Z_ := Z_.below hb
    replace M := M.below hb; clear hb; try clear v
    replace R_ := R1; clear R1 O_n
    refine any_ready [8] (by kernel_rfl) (by simp) ?_
    refine ready_do rfl (wn rfl) (fun K hK => ?_) AllReadyH.nil
    refine ow_call rfl rfl F 15 #[.slice A_78 z.ap.length c_78] (ex_call 15 _ _ rfl rfl eb_ent_15 _ (map1 (F.e rfl))) (sum_bytes z.ap _ z.ap.length c_78 _ (hKt.below M.bel) (R_.rb (i := 0) rfl) (R_.cap (i := 0) rfl)) (fun e v hR => ?_)
    obtain ⟨he, hb⟩ := hR
    refine ⟨.agg ((bcs (sha z.ap)).toArray), he, ?_⟩; clear he F a; intro a F
    replace hS : Mm w v [⟨g3, (pcs hs).toArray, 68⟩, ⟨g4, (acs hs).toArray, 69⟩] := (by refine (M.below hb).pick' [1, 0] _ ?_ (by decide); exact ⟨rfl, rfl, trivial⟩)
    refine hK _ _ hS ?_
    clear hK K
    replace R_ := R_.below hb
    replace Z_ := Z_.below hb
    replace M := M.below hb; clear hb; try clear u
    refine any_val F 9 rfl (by kernel_rfl) (wn rfl) rfl rfl (.bool false) (fun w' hS' => ex_neqA 24 _ _ _ rfl 32 eb_ab_24_32 (sha z.wr) (sha z.ap) (sha_len _) (sha_len _) (F.e rfl) (F.e rfl) false (by rw [hwz]; exact not_self _)) hS ?_; clear F a; intro a F
    refine any_val F 10 rfl (by kernel_rfl) (wn rfl) rfl rfl (.bool false) (fun w' hS' => ex_move _ rfl _ (F.e rfl)) hS ?_; clear F a; intro a F
    refine any_val F 11 rfl (by kernel_rfl) (F.wants 81 false rfl (by kernel_rfl) rfl true rfl) rfl rfl (.int .i64 ((j : Nat) : Int)) (fun w' hS' => ex_move _ rfl _ (F.e rfl)) hS ?_; clear F a; intro a F
    refine any_val F 12 rfl (by kernel_rfl) (F.wants 81 false rfl (by kernel_rfl) rfl true rfl) rfl rfl (.pointer (some ⟨g3, j, none⟩)) (fun w' hS' => ex_ixa _ _ _ rfl 8 eb_ar_68_8 ⟨g3, 0, none⟩ (F.e rfl) .i64 _ (F.e rfl) j rfl (by omega) ⟨g3, j, none⟩ ((addr_add _ _ _).trans (by rw [Nat.zero_add]))) hS ?_; clear F a; intro a F
    refine any_val F 13 rfl (by kernel_rfl) (F.wants 81 false rfl (by kernel_rfl) rfl true rfl) rfl rfl (.pointer (some ⟨z.g, 0, none⟩)) (fun w' hS' => ex_load _ _ rfl _ (F.e rfl) _ (lv1 eb_one_53 (hS'.cell (i := 0) rfl (j := j) (arr_get (pcs_get hz))))) hS ?_; clear F a; intro a F
    refine any_val F 15 rfl (by kernel_rfl) (F.wants 81 false rfl (by kernel_rfl) rfl true rfl) rfl rfl (.int .i64 ((j : Nat) : Int)) (fun w' hS' => ex_move _ rfl _ (F.e rfl)) hS ?_; clear F a; intro a F
    refine any_val F 16 rfl (by kernel_rfl) (F.wants 81 false rfl (by kernel_rfl) rfl true rfl) rfl rfl (.pointer (some ⟨g4, j, none⟩)) (fun w' hS' => ex_ixa _ _ _ rfl 8 eb_ar_69_8 ⟨g4, 0, none⟩ (F.e rfl) .i64 _ (F.e rfl) j rfl (by omega) ⟨g4, j, none⟩ ((addr_add _ _ _).trans (by rw [Nat.zero_add]))) hS ?_; clear F a; intro a F
    refine any_val F 17 rfl (by kernel_rfl) (F.wants 81 false rfl (by kernel_rfl) rfl true rfl) rfl rfl (.slice z.B z.ap.length z.c) (fun w' hS' => ex_load _ _ rfl _ (F.e rfl) _ (lv1 eb_one_23 (hS'.cell (i := 1) rfl (j := j) (arr_get (acs_get hz))))) hS ?_; clear F a; intro a F
    refine any_val F 18 rfl (by kernel_rfl) (F.wants 81 false rfl (by kernel_rfl) rfl true rfl) rfl rfl (.int .i64 ((z.ap.length : Nat) : Int)) (fun w' hS' => ex_len _ _ rfl 1 eb_sl_23_1 _ _ _ (F.e rfl)) hS ?_; clear F a; intro a F
    refine any_val F 19 rfl (by kernel_rfl) (F.wants 81 false rfl (by kernel_rfl) rfl true rfl) rfl rfl (.int .u64 ((BitVec.ofNat 64 z.wr.length).toNat : Int)) (fun w' hS' => ex_conv _ _ _ rfl _ .u64 eb_cv_3_62_u64 _ (F.e rfl) _ ((w64 _).trans (by rw [hwz]))) hS ?_; clear F a; intro a F
    refine any_ready [14] (by kernel_rfl) (by simp) ?_
    refine ready_do rfl (F.wants 81 false rfl (by kernel_rfl) rfl true rfl) (fun K hK => ?_) AllReadyH.nil
    refine ow_call rfl rfl F 36 #[.pointer (some ⟨z.g, 0, none⟩)] (ex_call 36 _ _ rfl rfl eb_ent_36 _ (map1 (F.e rfl))) (len_fam Z_ hz) (fun e u hR => ?_)
    obtain ⟨he, hb⟩ := hR
    refine ⟨.int .u64 ((BitVec.ofNat 64 z.wr.length).toNat : Int), he, ?_⟩; clear he F a; intro a F
    replace hS : Mm w u [⟨g3, (pcs hs).toArray, 68⟩, ⟨g4, (acs hs).toArray, 69⟩] := (by refine (M.below hb).pick' [1, 0] _ ?_ (by decide); exact ⟨rfl, rfl, trivial⟩)
    refine hK _ _ hS ?_
    clear hK K
    replace R_ := R_.below hb
    replace Z_ := Z_.below hb
    replace M := M.below hb; clear hb; try clear v
    refine any_val F 20 rfl (by kernel_rfl) (F.wants 81 false rfl (by kernel_rfl) rfl true rfl) rfl rfl (.bool false) (fun w' hS' => ex_bin .neq _ _ _ _ rfl .u64 _ _ (F.e rfl) (F.e rfl) _ (b_neq (by simp))) hS ?_; clear F a; intro a F
    refine any_val F 21 rfl (by kernel_rfl) (wn rfl) rfl rfl (.bool false) (fun w' hS' => ex_pick_f _ _ _ rfl (F.e rfl) _ (F.e rfl)) hS ?_; clear F a; intro a F
    refine any_done (by kernel_rfl) ?_
    exact ⟨A_78, c_78, F.keep ⟨rfl, rfl, rfl, rfl, rfl, rfl, rfl, rfl, rfl, trivial⟩, (by refine M.pick' [0, 1] _ ?_ (by decide); exact ⟨rfl, rfl, trivial⟩), R_, Z_⟩
   clear F M a R_ Z_
   intro a u hR; obtain ⟨A_78, c_78, F, M, R_, Z_⟩ := hR; try clear v
   refine then_n ?_
   refine wp_cond_false (F.e rfl) ?_
   refine wp_skip ?_
   refine in_n ?_
   refine then_n ?_
   refine wp_region_lit ?_
   refine list_val F (wn rfl) rfl rfl (.int .i64 ((j : Nat) : Int)) (ex_move _ rfl _ (F.e rfl)) ?_; clear F a; intro a F
   refine list_val F (wn rfl) rfl rfl (.int .i64 ((j + 1 : Nat) : Int)) (ex_bin .add _ _ _ _ rfl .i64 _ _ (F.e rfl) rfl _ (b_add ((w_i64 (by omega) (by omega)).trans (by omega)))) ?_; clear F a; intro a F
   refine list_val F (wn rfl) rfl rfl (.int .i64 ((j + 1 : Nat) : Int)) (ex_assign _ rfl _ (F.e rfl)) ?_; clear F a; intro a F
   refine wpList_nil ?_
   replace F : Fr 94 a [(0, .slice Ls n cl), (2, .bool false), (3, .pointer (some ⟨g3, 0, none⟩)), (4, .pointer (some ⟨g4, 0, none⟩)), (8, .int .i64 ((j + 1 : Nat) : Int)), (10, .bool false), (27, .bool false), (68, .bool true), (92, .bool false)] := F.keep ⟨rfl, rfl, rfl, rfl, rfl, rfl, rfl, rfl, rfl, trivial⟩
   refine then_n ?_
   replace R_ := Rs.dropt (t := [_]) R_
   exact ⟨8 - (j + 1), by omega, (j + 1), F.keep ⟨rfl, rfl, rfl, rfl, rfl, rfl, rfl, trivial⟩, (by refine M.pick' [0, 1] _ ?_ (by decide); exact ⟨rfl, rfl, trivial⟩), R_, Z_, (by omega), (by omega)⟩
  refine wp_seq ?_
  refine wp_seq ?_
  refine wp_region_lit ?_
  refine list_val F (wn rfl) rfl rfl (.int .i64 ((j : Nat) : Int)) (ex_move _ rfl _ (F.e rfl)) ?_; clear F a; intro a F
  refine list_val F (wn rfl) rfl rfl (.bool false) (ex_bin .lss _ _ _ _ rfl .i64 _ _ (F.e rfl) rfl _ (b_lss (decide_eq_false (by omega)))) ?_; clear F a; intro a F
  refine wpList_nil ?_
  replace F : Fr 94 a [(0, .slice Ls n cl), (2, .bool false), (3, .pointer (some ⟨g3, 0, none⟩)), (4, .pointer (some ⟨g4, 0, none⟩)), (8, .int .i64 ((j : Nat) : Int)), (10, .bool false), (27, .bool false), (68, .bool false)] := F.keep ⟨rfl, rfl, rfl, rfl, rfl, rfl, rfl, rfl, trivial⟩
  refine then_n ?_
  refine wp_cond_false (F.e rfl) ?_
  refine wp_exit ?_
  refine then_x ?_
  refine then_x ?_
  refine in_hit ?_
  refine then_n ?_
  refine wp_seq ?_
  refine wp_region_lit ?_
  refine list_do (wn rfl) (fun K hK => ?_)
  refine ow_call rfl rfl F 19 #[] (ex_call 19 _ _ rfl rfl eb_ent_19 _ (map0)) (wakes_any _ (hKt.below M.bel)) (fun e u hR => ?_)
  obtain ⟨he, hb⟩ := hR
  refine ⟨.bool true, he, ?_⟩; clear he F a; intro a F
  refine hK _ _ ?_
  clear hK K
  replace R_ := R_.below hb
  replace Z_ := Z_.below hb
  replace M := M.below hb; clear hb; try clear v
  refine list_val F (wn rfl) rfl rfl (.bool true) (ex_assign _ rfl _ (F.e rfl)) ?_; clear F a; intro a F
  refine wpList_nil ?_
  replace F : Fr 94 a [(0, .slice Ls n cl), (2, .bool true), (3, .pointer (some ⟨g3, 0, none⟩)), (4, .pointer (some ⟨g4, 0, none⟩)), (8, .int .i64 ((j : Nat) : Int)), (10, .bool false), (27, .bool false), (68, .bool false)] := F.keep ⟨rfl, rfl, rfl, rfl, rfl, rfl, rfl, rfl, trivial⟩
  refine then_n ?_
  refine wp_ret ?_
  exact ret_tmp F rfl rfl ⟨rfl, M.bel⟩
 refine wp_seq ?_
 refine wp_seq ?_
 refine wp_region_lit ?_
 refine list_val F (wn rfl) rfl rfl (.int .i64 ((i : Nat) : Int)) (ex_move _ rfl _ (F.e rfl)) ?_; clear F a; intro a F
 refine list_val F (wn rfl) rfl rfl (.slice Ls n cl) (ex_move _ rfl _ (F.e rfl)) ?_; clear F a; intro a F
 refine list_val F (wn rfl) rfl rfl (.int .i64 ((n : Nat) : Int)) (ex_len _ _ rfl 1 eb_sl_22_1 _ _ _ (F.e rfl)) ?_; clear F a; intro a F
 refine list_val F (wn rfl) rfl rfl (.bool false) (ex_bin .lss _ _ _ _ rfl .i64 _ _ (F.e rfl) (F.e rfl) _ (b_lss (decide_eq_false (by omega)))) ?_; clear F a; intro a F
 refine list_val F (wn rfl) rfl rfl (.bool false) (ex_move _ rfl _ (F.e rfl)) ?_; clear F a; intro a F
 refine list_skip F (F.wants 24 false rfl (by kernel_rfl) rfl false rfl) rfl rfl ?_; clear F a; intro a F
 refine list_skip F (F.wants 24 false rfl (by kernel_rfl) rfl false rfl) rfl rfl ?_; clear F a; intro a F
 refine list_val F (wn rfl) rfl rfl (.bool false) (ex_pick_f _ _ _ rfl (F.e rfl) _ rfl) ?_; clear F a; intro a F
 refine wpList_nil ?_
 replace F : Fr 94 a [(0, .slice Ls n cl), (2, .bool false), (3, .pointer (some ⟨g3, 0, none⟩)), (4, .pointer (some ⟨g4, 0, none⟩)), (5, .int .i64 ((8 : Nat) : Int)), (6, .int .i64 ((lf : Nat) : Int)), (7, .int .i64 ((i : Nat) : Int)), (10, .bool false), (27, .bool false)] := F.keep ⟨rfl, rfl, rfl, rfl, rfl, rfl, rfl, rfl, rfl, trivial⟩
 refine then_n ?_
 refine wp_cond_false (F.e rfl) ?_
 refine wp_exit ?_
 refine then_x ?_
 refine then_x ?_
 refine in_hit ?_
 refine then_n ?_
 refine wp_seq ?_
 refine wp_seq ?_
 refine wp_region_lit ?_
 refine list_val F (wn rfl) rfl rfl (.int .i64 0) (ex_assign _ rfl _ rfl) ?_; clear F a; intro a F
 refine wpList_nil ?_
 replace F : Fr 94 a [(0, .slice Ls n cl), (2, .bool false), (3, .pointer (some ⟨g3, 0, none⟩)), (4, .pointer (some ⟨g4, 0, none⟩)), (5, .int .i64 ((8 : Nat) : Int)), (6, .int .i64 ((lf : Nat) : Int)), (7, .int .i64 ((i : Nat) : Int)), (8, .int .i64 0), (10, .bool false), (27, .bool false)] := F.keep ⟨rfl, rfl, rfl, rfl, rfl, rfl, rfl, rfl, rfl, rfl, trivial⟩
 refine then_n ?_
 refine wp_block ?_
 refine wp_loopN (fun mq ar wr => ∃ (j : Nat), Fr 94 ar [(0, .slice Ls n cl), (2, .bool false), (3, .pointer (some ⟨g3, 0, none⟩)), (4, .pointer (some ⟨g4, 0, none⟩)), (8, .int .i64 ((j : Nat) : Int)), (10, .bool false), (27, .bool false)] ∧ Mm w wr [⟨g4, (acs hs).toArray, 69⟩, ⟨g3, (pcs hs).toArray, 68⟩] ∧ Rs w wr ([] ++ famR hs) ∧ Fam w wr hs ∧ j ≤ 8 ∧ mq + j = 8) 8 ?_ ?_
 ·
  exact ⟨0, F.keep ⟨rfl, rfl, rfl, rfl, rfl, rfl, rfl, trivial⟩, (by refine M.pick' [0, 1] _ ?_ (by decide); exact ⟨rfl, rfl, trivial⟩), R_, Z_, (Nat.zero_le _), (by omega)⟩
 clear F M a R_ Z_
 rintro mq a v ⟨j, F, M, R_, Z_, hj8, hq⟩; try clear u
 by_cases hj : j < 8
 ·
  refine wp_seq ?_
  refine wp_seq ?_
  refine wp_region_lit ?_
  refine list_val F (wn rfl) rfl rfl (.int .i64 ((j : Nat) : Int)) (ex_move _ rfl _ (F.e rfl)) ?_; clear F a; intro a F
  refine list_val F (wn rfl) rfl rfl (.bool true) (ex_bin .lss _ _ _ _ rfl .i64 _ _ (F.e rfl) rfl _ (b_lss (decide_eq_true (by omega)))) ?_; clear F a; intro a F
  refine wpList_nil ?_
  replace F : Fr 94 a [(0, .slice Ls n cl), (2, .bool false), (3, .pointer (some ⟨g3, 0, none⟩)), (4, .pointer (some ⟨g4, 0, none⟩)), (8, .int .i64 ((j : Nat) : Int)), (10, .bool false), (27, .bool false), (68, .bool true)] := F.keep ⟨rfl, rfl, rfl, rfl, rfl, rfl, rfl, rfl, trivial⟩
  refine then_n ?_
  refine wp_cond_true (F.e rfl) ?_
  refine wp_skip ?_
  refine then_n ?_
  refine wp_seq ?_
  refine wp_block ?_
  refine wp_seq ?_
  obtain ⟨z, hz⟩ : ∃ h, hs[j]? = some h := ⟨_, List.getElem?_eq_getElem (by omega)⟩
  have hzz := hag _ z hz
  have hwz : z.wr = z.ap := hzz.1
  refine wp_only (fun ar wr => ∃ (A_78 : Option Addr), ∃ (c_78 : Nat), Fr 94 ar [(0, .slice Ls n cl), (2, .bool false), (3, .pointer (some ⟨g3, 0, none⟩)), (4, .pointer (some ⟨g4, 0, none⟩)), (8, .int .i64 ((j : Nat) : Int)), (10, .bool false), (27, .bool false), (68, .bool true), (92, .bool false)] ∧ Mm w wr [⟨g4, (acs hs).toArray, 69⟩, ⟨g3, (pcs hs).toArray, 68⟩] ∧ Rs w wr ([(.slice A_78 z.ap.length c_78, z.ap)] ++ famR hs) ∧ Fam w wr hs) ?_ ?_
  ·
   refine region_anyM eb_follows_mixedOrders M [⟨g3, (pcs hs).toArray, 68⟩, ⟨g4, (acs hs).toArray, 69⟩] (fun w' M => (by refine M.pick' [1, 0] _ ?_ (by decide); exact ⟨rfl, rfl, trivial⟩)) ?_; clear M; intro wD M hb
   replace R_ := R_.below hb
   replace Z_ := Z_.below hb
   clear hb; try clear v
   have hS : Mm w wD [⟨g3, (pcs hs).toArray, 68⟩, ⟨g4, (acs hs).toArray, 69⟩] := (by refine M.pick' [1, 0] _ ?_ (by decide); exact ⟨rfl, rfl, trivial⟩)
   refine any_val F 0 rfl (by kernel_rfl) (wn rfl) rfl rfl (.int .i64 ((j : Nat) : Int)) (fun w' hS' => ex_move _ rfl _ (F.e rfl)) hS ?_; clear F a; intro a F
   refine any_val F 1 rfl (by kernel_rfl) (wn rfl) rfl rfl (.pointer (some ⟨g3, j, none⟩)) (fun w' hS' => ex_ixa _ _ _ rfl 8 eb_ar_68_8 ⟨g3, 0, none⟩ (F.e rfl) .i64 _ (F.e rfl) j rfl (by omega) ⟨g3, j, none⟩ ((addr_add _ _ _).trans (by rw [Nat.zero_add]))) hS ?_; clear F a; intro a F
   refine any_val F 2 rfl (by kernel_rfl) (wn rfl) rfl rfl (.pointer (some ⟨z.g, 0, none⟩)) (fun w' hS' => ex_load _ _ rfl _ (F.e rfl) _ (lv1 eb_one_53 (hS'.cell (i := 0) rfl (j := j) (arr_get (pcs_get hz))))) hS ?_; clear F a; intro a F
   refine any_val F 4 rfl (by kernel_rfl) (wn rfl) rfl rfl (.int .i64 ((j : Nat) : Int)) (fun w' hS' => ex_move _ rfl _ (F.e rfl)) hS ?_; clear F a; intro a F
   refine any_val F 5 rfl (by kernel_rfl) (wn rfl) rfl rfl (.pointer (some ⟨g4, j, none⟩)) (fun w' hS' => ex_ixa _ _ _ rfl 8 eb_ar_69_8 ⟨g4, 0, none⟩ (F.e rfl) .i64 _ (F.e rfl) j rfl (by omega) ⟨g4, j, none⟩ ((addr_add _ _ _).trans (by rw [Nat.zero_add]))) hS ?_; clear F a; intro a F
   refine any_val F 6 rfl (by kernel_rfl) (wn rfl) rfl rfl (.slice z.B z.ap.length z.c) (fun w' hS' => ex_load _ _ rfl _ (F.e rfl) _ (lv1 eb_one_23 (hS'.cell (i := 1) rfl (j := j) (arr_get (acs_get hz))))) hS ?_; clear F a; intro a F
   refine any_ready [3] (by kernel_rfl) (by simp) ?_
   refine ready_do rfl (wn rfl) (fun K hK => ?_) AllReadyH.nil
   refine ow_call rfl rfl F 35 #[.pointer (some ⟨z.g, 0, none⟩)] (ex_call 35 _ _ rfl rfl eb_ent_35 _ (map1 (F.e rfl))) (sum_fam (t := []) R_ Z_ hz (hKt.below M.bel)) (fun e v hR => ?_)
   obtain ⟨he, hb⟩ := hR
   refine ⟨.agg ((bcs (sha z.wr)).toArray), he, ?_⟩; clear he F a; intro a F
   replace hS : Mm w v [⟨g3, (pcs hs).toArray, 68⟩, ⟨g4, (acs hs).toArray, 69⟩] := (by refine (M.below hb).pick' [1, 0] _ ?_ (by decide); exact ⟨rfl, rfl, trivial⟩)
   refine hK _ _ hS ?_
   clear hK K
   replace R_ := R_.below hb
   replace Z_ := Z_.below hb
   replace M := M.below hb; clear hb; try clear wD
   refine any_ready [7] (by kernel_rfl) (by simp) ?_
   refine ready_do rfl (wn rfl) (fun K hK => ?_) AllReadyH.nil
   refine ow_call rfl rfl F 27 #[.slice z.B z.ap.length z.c] (ex_call 27 _ _ rfl rfl eb_ent_27 _ (map1 (F.e rfl))) (copy_any z.ap _ z.ap.length z.c (by omega) _ (fam_rb (t := []) R_ hz)) (fun e u hR => ?_)
   obtain ⟨A_78, c_78, he, O_n, hb⟩ := hR
   have R1 := R_.new hb M.bel.size O_n
   refine ⟨.slice A_78 z.ap.length c_78, he, ?_⟩; clear he F a; intro a F
   replace hS : Mm w u [⟨g3, (pcs hs).toArray, 68⟩, ⟨g4, (acs hs).toArray, 69⟩] := (by refine (M.below hb).pick' [1, 0] _ ?_ (by decide); exact ⟨rfl, rfl, trivial⟩)
   refine hK _ _ hS ?_
   clear hK K
   replace R_ := R_.below hb
   replace Z_ := Z_.below hb
   replace M := M.below hb; clear hb; try clear v
   replace R_ := R1; clear R1 O_n
   refine any_ready [8] (by kernel_rfl) (by simp) ?_
   refine ready_do rfl (wn rfl) (fun K hK => ?_) AllReadyH.nil
   refine ow_call rfl rfl F 15 #[.slice A_78 z.ap.length c_78] (ex_call 15 _ _ rfl rfl eb_ent_15 _ (map1 (F.e rfl))) (sum_bytes z.ap _ z.ap.length c_78 _ (hKt.below M.bel) (R_.rb (i := 0) rfl) (R_.cap (i := 0) rfl)) (fun e v hR => ?_)
   obtain ⟨he, hb⟩ := hR
   refine ⟨.agg ((bcs (sha z.ap)).toArray), he, ?_⟩; clear he F a; intro a F
   replace hS : Mm w v [⟨g3, (pcs hs).toArray, 68⟩, ⟨g4, (acs hs).toArray, 69⟩] := (by refine (M.below hb).pick' [1, 0] _ ?_ (by decide); exact ⟨rfl, rfl, trivial⟩)
   refine hK _ _ hS ?_
   clear hK K
   replace R_ := R_.below hb
   replace Z_ := Z_.below hb
   replace M := M.below hb; clear hb; try clear u
   refine any_val F 9 rfl (by kernel_rfl) (wn rfl) rfl rfl (.bool false) (fun w' hS' => ex_neqA 24 _ _ _ rfl 32 eb_ab_24_32 (sha z.wr) (sha z.ap) (sha_len _) (sha_len _) (F.e rfl) (F.e rfl) false (by rw [hwz]; exact not_self _)) hS ?_; clear F a; intro a F
   refine any_val F 10 rfl (by kernel_rfl) (wn rfl) rfl rfl (.bool false) (fun w' hS' => ex_move _ rfl _ (F.e rfl)) hS ?_; clear F a; intro a F
   refine any_val F 11 rfl (by kernel_rfl) (F.wants 81 false rfl (by kernel_rfl) rfl true rfl) rfl rfl (.int .i64 ((j : Nat) : Int)) (fun w' hS' => ex_move _ rfl _ (F.e rfl)) hS ?_; clear F a; intro a F
   refine any_val F 12 rfl (by kernel_rfl) (F.wants 81 false rfl (by kernel_rfl) rfl true rfl) rfl rfl (.pointer (some ⟨g3, j, none⟩)) (fun w' hS' => ex_ixa _ _ _ rfl 8 eb_ar_68_8 ⟨g3, 0, none⟩ (F.e rfl) .i64 _ (F.e rfl) j rfl (by omega) ⟨g3, j, none⟩ ((addr_add _ _ _).trans (by rw [Nat.zero_add]))) hS ?_; clear F a; intro a F
   refine any_val F 13 rfl (by kernel_rfl) (F.wants 81 false rfl (by kernel_rfl) rfl true rfl) rfl rfl (.pointer (some ⟨z.g, 0, none⟩)) (fun w' hS' => ex_load _ _ rfl _ (F.e rfl) _ (lv1 eb_one_53 (hS'.cell (i := 0) rfl (j := j) (arr_get (pcs_get hz))))) hS ?_; clear F a; intro a F
   refine any_val F 15 rfl (by kernel_rfl) (F.wants 81 false rfl (by kernel_rfl) rfl true rfl) rfl rfl (.int .i64 ((j : Nat) : Int)) (fun w' hS' => ex_move _ rfl _ (F.e rfl)) hS ?_; clear F a; intro a F
   refine any_val F 16 rfl (by kernel_rfl) (F.wants 81 false rfl (by kernel_rfl) rfl true rfl) rfl rfl (.pointer (some ⟨g4, j, none⟩)) (fun w' hS' => ex_ixa _ _ _ rfl 8 eb_ar_69_8 ⟨g4, 0, none⟩ (F.e rfl) .i64 _ (F.e rfl) j rfl (by omega) ⟨g4, j, none⟩ ((addr_add _ _ _).trans (by rw [Nat.zero_add]))) hS ?_; clear F a; intro a F
   refine any_val F 17 rfl (by kernel_rfl) (F.wants 81 false rfl (by kernel_rfl) rfl true rfl) rfl rfl (.slice z.B z.ap.length z.c) (fun w' hS' => ex_load _ _ rfl _ (F.e rfl) _ (lv1 eb_one_23 (hS'.cell (i := 1) rfl (j := j) (arr_get (acs_get hz))))) hS ?_; clear F a; intro a F
   refine any_val F 18 rfl (by kernel_rfl) (F.wants 81 false rfl (by kernel_rfl) rfl true rfl) rfl rfl (.int .i64 ((z.ap.length : Nat) : Int)) (fun w' hS' => ex_len _ _ rfl 1 eb_sl_23_1 _ _ _ (F.e rfl)) hS ?_; clear F a; intro a F
   refine any_val F 19 rfl (by kernel_rfl) (F.wants 81 false rfl (by kernel_rfl) rfl true rfl) rfl rfl (.int .u64 ((BitVec.ofNat 64 z.wr.length).toNat : Int)) (fun w' hS' => ex_conv _ _ _ rfl _ .u64 eb_cv_3_62_u64 _ (F.e rfl) _ ((w64 _).trans (by rw [hwz]))) hS ?_; clear F a; intro a F
   refine any_ready [14] (by kernel_rfl) (by simp) ?_
   refine ready_do rfl (F.wants 81 false rfl (by kernel_rfl) rfl true rfl) (fun K hK => ?_) AllReadyH.nil
   refine ow_call rfl rfl F 36 #[.pointer (some ⟨z.g, 0, none⟩)] (ex_call 36 _ _ rfl rfl eb_ent_36 _ (map1 (F.e rfl))) (len_fam Z_ hz) (fun e u hR => ?_)
   obtain ⟨he, hb⟩ := hR
   refine ⟨.int .u64 ((BitVec.ofNat 64 z.wr.length).toNat : Int), he, ?_⟩; clear he F a; intro a F
   replace hS : Mm w u [⟨g3, (pcs hs).toArray, 68⟩, ⟨g4, (acs hs).toArray, 69⟩] := (by refine (M.below hb).pick' [1, 0] _ ?_ (by decide); exact ⟨rfl, rfl, trivial⟩)
   refine hK _ _ hS ?_
   clear hK K
   replace R_ := R_.below hb
   replace Z_ := Z_.below hb
   replace M := M.below hb; clear hb; try clear v
   refine any_val F 20 rfl (by kernel_rfl) (F.wants 81 false rfl (by kernel_rfl) rfl true rfl) rfl rfl (.bool false) (fun w' hS' => ex_bin .neq _ _ _ _ rfl .u64 _ _ (F.e rfl) (F.e rfl) _ (b_neq (by simp))) hS ?_; clear F a; intro a F
   refine any_val F 21 rfl (by kernel_rfl) (wn rfl) rfl rfl (.bool false) (fun w' hS' => ex_pick_f _ _ _ rfl (F.e rfl) _ (F.e rfl)) hS ?_; clear F a; intro a F
   refine any_done (by kernel_rfl) ?_
   exact ⟨A_78, c_78, F.keep ⟨rfl, rfl, rfl, rfl, rfl, rfl, rfl, rfl, rfl, trivial⟩, (by refine M.pick' [0, 1] _ ?_ (by decide); exact ⟨rfl, rfl, trivial⟩), R_, Z_⟩
  clear F M a R_ Z_
  intro a u hR; obtain ⟨A_78, c_78, F, M, R_, Z_⟩ := hR; try clear v
  refine then_n ?_
  refine wp_cond_false (F.e rfl) ?_
  refine wp_skip ?_
  refine in_n ?_
  refine then_n ?_
  refine wp_region_lit ?_
  refine list_val F (wn rfl) rfl rfl (.int .i64 ((j : Nat) : Int)) (ex_move _ rfl _ (F.e rfl)) ?_; clear F a; intro a F
  refine list_val F (wn rfl) rfl rfl (.int .i64 ((j + 1 : Nat) : Int)) (ex_bin .add _ _ _ _ rfl .i64 _ _ (F.e rfl) rfl _ (b_add ((w_i64 (by omega) (by omega)).trans (by omega)))) ?_; clear F a; intro a F
  refine list_val F (wn rfl) rfl rfl (.int .i64 ((j + 1 : Nat) : Int)) (ex_assign _ rfl _ (F.e rfl)) ?_; clear F a; intro a F
  refine wpList_nil ?_
  replace F : Fr 94 a [(0, .slice Ls n cl), (2, .bool false), (3, .pointer (some ⟨g3, 0, none⟩)), (4, .pointer (some ⟨g4, 0, none⟩)), (8, .int .i64 ((j + 1 : Nat) : Int)), (10, .bool false), (27, .bool false), (68, .bool true), (92, .bool false)] := F.keep ⟨rfl, rfl, rfl, rfl, rfl, rfl, rfl, rfl, rfl, trivial⟩
  refine then_n ?_
  replace R_ := Rs.dropt (t := [_]) R_
  exact ⟨8 - (j + 1), by omega, (j + 1), F.keep ⟨rfl, rfl, rfl, rfl, rfl, rfl, rfl, trivial⟩, (by refine M.pick' [0, 1] _ ?_ (by decide); exact ⟨rfl, rfl, trivial⟩), R_, Z_, (by omega), (by omega)⟩
 refine wp_seq ?_
 refine wp_seq ?_
 refine wp_region_lit ?_
 refine list_val F (wn rfl) rfl rfl (.int .i64 ((j : Nat) : Int)) (ex_move _ rfl _ (F.e rfl)) ?_; clear F a; intro a F
 refine list_val F (wn rfl) rfl rfl (.bool false) (ex_bin .lss _ _ _ _ rfl .i64 _ _ (F.e rfl) rfl _ (b_lss (decide_eq_false (by omega)))) ?_; clear F a; intro a F
 refine wpList_nil ?_
 replace F : Fr 94 a [(0, .slice Ls n cl), (2, .bool false), (3, .pointer (some ⟨g3, 0, none⟩)), (4, .pointer (some ⟨g4, 0, none⟩)), (8, .int .i64 ((j : Nat) : Int)), (10, .bool false), (27, .bool false), (68, .bool false)] := F.keep ⟨rfl, rfl, rfl, rfl, rfl, rfl, rfl, rfl, trivial⟩
 refine then_n ?_
 refine wp_cond_false (F.e rfl) ?_
 refine wp_exit ?_
 refine then_x ?_
 refine then_x ?_
 refine in_hit ?_
 refine then_n ?_
 refine wp_seq ?_
 refine wp_region_lit ?_
 refine list_do (wn rfl) (fun K hK => ?_)
 refine ow_call rfl rfl F 19 #[] (ex_call 19 _ _ rfl rfl eb_ent_19 _ (map0)) (wakes_any _ (hKt.below M.bel)) (fun e u hR => ?_)
 obtain ⟨he, hb⟩ := hR
 refine ⟨.bool true, he, ?_⟩; clear he F a; intro a F
 refine hK _ _ ?_
 clear hK K
 replace R_ := R_.below hb
 replace Z_ := Z_.below hb
 replace M := M.below hb; clear hb; try clear v
 refine list_val F (wn rfl) rfl rfl (.bool true) (ex_assign _ rfl _ (F.e rfl)) ?_; clear F a; intro a F
 refine wpList_nil ?_
 replace F : Fr 94 a [(0, .slice Ls n cl), (2, .bool true), (3, .pointer (some ⟨g3, 0, none⟩)), (4, .pointer (some ⟨g4, 0, none⟩)), (8, .int .i64 ((j : Nat) : Int)), (10, .bool false), (27, .bool false), (68, .bool false)] := F.keep ⟨rfl, rfl, rfl, rfl, rfl, rfl, rfl, rfl, trivial⟩
 refine then_n ?_
 refine wp_ret ?_
 exact ret_tmp F rfl rfl ⟨rfl, M.bel⟩
end Go.Proofs.YtkppipeadibfkaaDoor
