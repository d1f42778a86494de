/- posternlaw4.DigestParts, posternlaw1.Within. Conditions: the table is laid; the argument is read. -/
import Derived.Test.YtkppipeadibfkaaDoorQ0
namespace Go.Proofs.YtkppipeadibfkaaDoor
open Go.RowKit Go.Proofs.YtkppipeadibfkaaDoorW.PrintWords KB WG
set_option linter.unusedVariables false
set_option linter.unusedSimpArgs false
set_option linter.unnecessarySimpa false
/-- What Within tells of two. -/
def wit (x : Int) : Int := if x.tmod 2 < 0 then x.tmod 2 + 2 else x.tmod 2
theorem wit_nat (x : Int) : ∃ k : Nat, k < 2 ∧ wit x = (k : Int) := by
  unfold wit
  have h1 : x.tmod 2 < 2 := by
    have := Int.tmod_lt_of_pos x (b := 2) (by decide); exact this
  have h2 : -2 < x.tmod 2 := by
    have := Int.lt_tmod_of_pos x (b := 2) (by decide); exact this
  split
  · exact ⟨(x.tmod 2 + 2).toNat, by omega, by omega⟩
  · exact ⟨(x.tmod 2).toNat, by omega, by omega⟩
theorem z55 (w : World) : (zeroValue 55).run Tryd.prog w = .ok (.agg (List.replicate 2 (Value.pointer none)).toArray) w := by kernel_rfl
theorem z56 (w : World) : (zeroValue 56).run Tryd.prog w = .ok (.agg (List.replicate 2 (Value.slice none 0 0)).toArray) w := by kernel_rfl
theorem z58 (w : World) : (zeroValue 58).run Tryd.prog w = .ok (.agg #[.int .i64 0, .int .i64 0, .slice none 0 0]) w := by kernel_rfl
theorem build55 (g h : Nat) (w : World) : (Instr.build 55 #[(0, .pointer (some ⟨g, 0, none⟩)), (1, .pointer (some ⟨h, 0, none⟩))]).run Tryd.prog w = .ok (.agg #[.pointer (some ⟨g, 0, none⟩), .pointer (some ⟨h, 0, none⟩)]) w := by kernel_rfl
/-- A step: what to do, on which, with which bytes. -/
def StepR (w : World) (A : Option Addr) (n : Nat) : Prop := ∀ i, i < n → ∃ ad dd on_ B c b, A = some ad ∧ At w (ad.add (i * 3)) [.int .i64 dd, .int .i64 on_, .slice B (List.length b) c] ∧ Rb w B b.length b ∧ b.length ≤ c ∧ b.length ≤ 140737488351232
theorem pcs_fresh {hs : List Hz} {k g : Nat} : (pcs hs).set k (.pointer (some ⟨g, 0, none⟩)) = pcs (hs.set k (freshH g)) := by rw [pcs, pcs, List.map_set]; rfl
theorem acs_fresh {hs : List Hz} {k g : Nat} : (acs hs).set k (.slice none 0 0) = acs (hs.set k (freshH g)) := by rw [acs, acs, List.map_set]; rfl
theorem put_fresh {hs : List Hz} {k g : Nat} (hk : k < hs.length) : (pcs hs).take k ++ [.pointer (some ⟨g, 0, none⟩)] ++ (pcs hs).drop (k + [Value.pointer (some ⟨g, 0, none⟩)].length) = pcs (hs.set k (freshH g)) := by rw [val_set _ (by rw [pcs_len]; exact hk), pcs_fresh]
theorem put_nil {hs : List Hz} {k : Nat} (g : Nat) (hk : k < hs.length) : (acs hs).take k ++ [.slice none 0 0] ++ (acs hs).drop (k + [Value.slice none 0 0].length) = acs (hs.set k (freshH g)) := by rw [val_set _ (by rw [acs_len]; exact hk), acs_fresh]
theorem acs_put {l l' : List Value} {i : Nat} {x : Value} (h : l' = l.set i x) (hl : i < l.length) : l.take i ++ [x] ++ l.drop (i + [x].length) = l' := by rw [h]; exact val_set x hl
def Agr (hs : List Hz) (lf : Int) : Prop := ∀ (j : Nat) (h : Hz), hs[j]? = some h → h.wr = h.ap ∧ (h.ap.length : Int) + lf ≤ 65536
theorem Agr.less {hs : List Hz} {lf lf' : Int} (h : Agr hs lf) (hl : lf' ≤ lf) : Agr hs lf' := fun j x hx => by obtain ⟨h1, h2⟩ := h j x hx; exact ⟨h1, by omega⟩
theorem Agr.fresh {hs : List Hz} {lf : Int} {k g : Nat} (h : Agr hs lf) (hl : lf ≤ 65536) : Agr (hs.set k (freshH g)) lf := fun j x hx => by
  rw [List.getElem?_set] at hx
  split at hx
  · split at hx
    · obtain rfl := Option.some.inj hx; exact ⟨rfl, by show ((0 : Nat) : Int) + lf ≤ 65536; omega⟩
    · cases hx
  · exact h j x hx
theorem Agr.step {hs hs1 hs2 : List Hz} {i : Nat} {lf : Int} {x h1 h2 : Hz} {b : List By} (hag : Agr hs lf) (hx : hs[i]? = some x) (hc1 : Chg hs hs1 i h1) (hc2 : Chg hs1 hs2 i h2) (w1 : h1.wr = x.wr ++ b) (w2 : h2.wr = h1.wr) (a1 : h1.ap = x.ap) (a2 : h2.ap = h1.ap ++ b) : Agr hs2 (lf - b.length) := fun j h hj => by
  by_cases e : j = i
  · subst e
    rw [hc2.at_] at hj
    obtain rfl := Option.some.inj hj
    obtain ⟨e1, e2⟩ := hag _ _ hx
    rw [w2, w1, a2, a1, e1, List.length_append]
    exact ⟨rfl, by omega⟩
  · rw [hc2.oth j e, hc1.oth j e] at hj
    obtain ⟨e1, e2⟩ := hag _ _ hj
    exact ⟨e1, by omega⟩
theorem ag_two (g h : Nat) : Agr (([] ++ [freshH g]) ++ [freshH h]) 65536 := fun j x hx => by
  match j, hx with
  | 0, hx => obtain rfl := Option.some.inj hx; exact ⟨rfl, by show ((0 : Nat) : Int) + 65536 ≤ 65536; decide⟩
  | 1, hx => obtain rfl := Option.some.inj hx; exact ⟨rfl, by show ((0 : Nat) : Int) + 65536 ≤ 65536; decide⟩
  | j + 2, hx => simp at hx
set_option maxHeartbeats 4000000 in
set_option maxRecDepth 100000 in
theorem within_any (x : Int) (w : World) : Calls Tryd.prog 32 #[.int .i64 x, .int .i64 2] w fun e w' => e = .returned (.int .i64 (wit x)) ∧ Below w.heap.size w w' := by
 refine calls_start Tryd.func32 rfl rfl rfl (fun a F => ?_)
 have M : Mm w w [] := Mm.nil w
 refine wp_seq ?_
 refine wp_region_lit ?_
 refine list_val F (wn rfl) rfl rfl (.int .i64 0) (ex_assign _ rfl _ rfl) ?_; clear F a; intro a F
 refine wpList_nil ?_
 replace F : Fr 14 a [(0, .int .i64 x), (1, .int .i64 2), (4, .int .i64 0)] := F.keep ⟨rfl, rfl, rfl, trivial⟩
 refine then_n ?_
 refine wp_seq ?_
 refine wp_region_lit ?_
 refine list_val F (wn rfl) rfl rfl (.int .i64 x) (ex_move _ rfl _ (F.e rfl)) ?_; clear F a; intro a F
 refine list_val F (wn rfl) rfl rfl (.int .i64 2) (ex_move _ rfl _ (F.e rfl)) ?_; clear F a; intro a F
 refine list_val F (wn rfl) rfl rfl (.int .i64 (x.tmod 2)) (ex_bin .rem _ _ _ _ rfl .i64 _ _ (F.e rfl) (F.e rfl) _ (b_rem (by decide) rfl)) ?_; clear F a; intro a F
 refine list_val F (wn rfl) rfl rfl (.int .i64 (x.tmod 2)) (ex_assign _ rfl _ (F.e rfl)) ?_; clear F a; intro a F
 refine wpList_nil ?_
 replace F : Fr 14 a [(0, .int .i64 (x.tmod 2)), (1, .int .i64 2), (4, .int .i64 0)] := F.keep ⟨rfl, rfl, rfl, trivial⟩
 refine then_n ?_
 refine wp_seq ?_
 refine wp_seq ?_
 by_cases hneg : x.tmod 2 < 0
 ·
  refine wp_region_lit ?_
  refine list_val F (wn rfl) rfl rfl (.int .i64 (x.tmod 2)) (ex_move _ rfl _ (F.e rfl)) ?_; clear F a; intro a F
  refine list_val F (wn rfl) rfl rfl (.bool true) (ex_bin .lss _ _ _ _ rfl .i64 _ _ (F.e rfl) rfl _ (b_lss (decide_eq_true hneg))) ?_; clear F a; intro a F
  refine wpList_nil ?_
  replace F : Fr 14 a [(0, .int .i64 (x.tmod 2)), (1, .int .i64 2), (4, .int .i64 0), (9, .bool true)] := F.keep ⟨rfl, rfl, rfl, rfl, trivial⟩
  refine then_n ?_
  refine wp_cond_true (F.e rfl) ?_
  refine wp_region_lit ?_
  refine list_val F (wn rfl) rfl rfl (.int .i64 (x.tmod 2)) (ex_move _ rfl _ (F.e rfl)) ?_; clear F a; intro a F
  refine list_val F (wn rfl) rfl rfl (.int .i64 2) (ex_move _ rfl _ (F.e rfl)) ?_; clear F a; intro a F
  refine list_val F (wn rfl) rfl rfl (.int .i64 (x.tmod 2 + 2)) (ex_bin .add _ _ _ _ rfl .i64 _ _ (F.e rfl) (F.e rfl) _ (b_add (w_i64 (by have := Int.lt_tmod_of_pos x (b := 2) (by decide); omega) (by omega)))) ?_; clear F a; intro a F
  refine list_val F (wn rfl) rfl rfl (.int .i64 (x.tmod 2 + 2)) (ex_assign _ rfl _ (F.e rfl)) ?_; clear F a; intro a F
  refine wpList_nil ?_
  replace F : Fr 14 a [(0, .int .i64 (x.tmod 2 + 2)), (1, .int .i64 2), (4, .int .i64 0), (9, .bool true)] := F.keep ⟨rfl, rfl, rfl, rfl, trivial⟩
  refine then_n ?_
  refine wp_seq ?_
  refine wp_region_lit ?_
  refine list_val F (wn rfl) rfl rfl (.int .i64 (x.tmod 2 + 2)) (ex_move _ rfl _ (F.e rfl)) ?_; clear F a; intro a F
  refine list_val F (wn rfl) rfl rfl (.int .i64 (x.tmod 2 + 2)) (ex_assign _ rfl _ (F.e rfl)) ?_; clear F a; intro a F
  refine wpList_nil ?_
  replace F : Fr 14 a [(0, .int .i64 (x.tmod 2 + 2)), (1, .int .i64 2), (4, .int .i64 (x.tmod 2 + 2)), (9, .bool true)] := F.keep ⟨rfl, rfl, rfl, rfl, trivial⟩
  refine then_n ?_
  refine wp_ret ?_
  rw [show wit x = _ from if_pos hneg]
  exact ret_tmp F rfl rfl ⟨rfl, M.bel⟩
 refine wp_region_lit ?_
 refine list_val F (wn rfl) rfl rfl (.int .i64 (x.tmod 2)) (ex_move _ rfl _ (F.e rfl)) ?_; clear F a; intro a F
 refine list_val F (wn rfl) rfl rfl (.bool false) (ex_bin .lss _ _ _ _ rfl .i64 _ _ (F.e rfl) rfl _ (b_lss (decide_eq_false hneg))) ?_; clear F a; intro a F
 refine wpList_nil ?_
 replace F : Fr 14 a [(0, .int .i64 (x.tmod 2)), (1, .int .i64 2), (4, .int .i64 0), (9, .bool false)] := F.keep ⟨rfl, rfl, rfl, rfl, trivial⟩
 refine then_n ?_
 refine wp_cond_false (F.e rfl) ?_
 refine wp_skip ?_
 refine then_n ?_
 refine wp_seq ?_
 refine wp_region_lit ?_
 refine list_val F (wn rfl) rfl rfl (.int .i64 (x.tmod 2)) (ex_move _ rfl _ (F.e rfl)) ?_; clear F a; intro a F
 refine list_val F (wn rfl) rfl rfl (.int .i64 (x.tmod 2)) (ex_assign _ rfl _ (F.e rfl)) ?_; clear F a; intro a F
 refine wpList_nil ?_
 replace F : Fr 14 a [(0, .int .i64 (x.tmod 2)), (1, .int .i64 2), (4, .int .i64 (x.tmod 2)), (9, .bool false)] := F.keep ⟨rfl, rfl, rfl, rfl, trivial⟩
 refine then_n ?_
 refine wp_ret ?_
 rw [show wit x = _ from if_neg hneg]
 exact ret_tmp F rfl rfl ⟨rfl, M.bel⟩
theorem ec_ent_31 : ent? Tryd.prog 31 = true := by kernel_rfl
theorem ec_sl_52_3 : sl? Tryd.prog 52 3 = true := by kernel_rfl
theorem ec_row_58_3 : row? Tryd.prog 58 3 = true := by kernel_rfl
theorem ec_fa_58_1_1 : fa? Tryd.prog 58 1 1 = true := by kernel_rfl
theorem ec_one_3 : one? Tryd.prog 3 = true := by kernel_rfl
theorem ec_ent_32 : ent? Tryd.prog 32 = true := by kernel_rfl
theorem ec_ar_55_2 : ar? Tryd.prog 55 2 = true := by kernel_rfl
theorem ec_one_53 : one? Tryd.prog 53 = true := by kernel_rfl
theorem ec_fa_58_0_0 : fa? Tryd.prog 58 0 0 = true := by kernel_rfl
theorem ec_info_53_map_size_some_1 : (Tryd.prog.info? 53).map (·.size) = some 1 := by kernel_rfl
theorem ec_ar_56_2 : ar? Tryd.prog 56 2 = true := by kernel_rfl
theorem ec_info_23_map_size_some_1 : (Tryd.prog.info? 23).map (·.size) = some 1 := by kernel_rfl
theorem ec_fa_58_2_2 : fa? Tryd.prog 58 2 2 = true := by kernel_rfl
theorem ec_one_23 : one? Tryd.prog 23 = true := by kernel_rfl
theorem ec_sl_23_1 : sl? Tryd.prog 23 1 = true := by kernel_rfl
theorem ec_ent_14 : ent? Tryd.prog 14 = true := by kernel_rfl
theorem ec_ent_33 : ent? Tryd.prog 33 = true := by kernel_rfl
theorem ec_ent_16 : ent? Tryd.prog 16 = true := by kernel_rfl
theorem ec_ent_34 : ent? Tryd.prog 34 = true := by kernel_rfl
theorem ec_follows_mixedOrders : Tryd.prog.follows .mixedOrders = true := by kernel_rfl
theorem ec_ent_35 : ent? Tryd.prog 35 = true := by kernel_rfl
theorem ec_ent_13 : ent? Tryd.prog 13 = true := by kernel_rfl
theorem ec_ab_24_32 : ab? Tryd.prog 24 32 = true := by kernel_rfl
theorem ec_cv_3_62_u64 : cv? Tryd.prog 3 62 .u64 = true := by kernel_rfl
theorem ec_ent_36 : ent? Tryd.prog 36 = true := by kernel_rfl
theorem ec_ent_19 : ent? Tryd.prog 19 = true := by kernel_rfl
set_option maxHeartbeats 4000000 in
set_option maxRecDepth 100000 in
theorem parts_any (Ls : Option Addr) (n cl : Nat) (hn : n ≤ 5864062014805) (w : World) (hKt : At w ⟨0, 0, none⟩ (wcs kTab)) (hl : StepR w Ls n) :
    Calls Tryd.prog 9 #[.slice Ls n cl] w fun e w' => e = .returned (.bool true) ∧ Below w.heap.size w w' := by
 have h0 := kt_pos hKt
 have R_ : Rs w w ([] ++ famR []) := Rs.nil w w
 have Z_ : Fam w w [] := Fam.nil w w
 refine calls_start Tryd.func9 rfl rfl rfl (fun a F => ?_)
 have M : Mm w w [] := Mm.nil w
 refine wp_seq ?_
 refine wp_region_lit ?_
 refine list_val F (wn rfl) rfl rfl (.bool false) (ex_assign _ rfl _ rfl) ?_; clear F a; intro a F
 refine wpList_nil ?_
 replace F : Fr 139 a [(0, .slice Ls n cl), (2, .bool false)] := F.keep ⟨rfl, rfl, trivial⟩
 refine then_n ?_
 refine wp_seq ?_
 refine wp_region_lit ?_
 refine list_do (wn rfl) (fun K hK => ?_)
 refine ow_call rfl rfl F 31 #[] (ex_call 31 _ _ rfl rfl ec_ent_31 _ (map0)) (new_all _) (fun e v hR => ?_)
 obtain ⟨g11, he, hg, hn, hb⟩ := hR
 have R1 := (R_.below hb).fammore g11
 have Z1 := Z_.more M.bel.size hb hg hn
 refine ⟨.pointer (some ⟨g11, 0, none⟩), he, ?_⟩; clear he F a; intro a F
 refine hK _ _ ?_
 clear hK K
 replace R_ := R_.below hb
 replace Z_ := Z_.below hb
 replace M := M.below hb; clear hb; try clear w
 replace R_ := R1; replace Z_ := Z1; clear R1 Z1 hg hn
 refine list_do (wn rfl) (fun K hK => ?_)
 refine ow_call rfl rfl F 31 #[] (ex_call 31 _ _ rfl rfl ec_ent_31 _ (map0)) (new_all _) (fun e u hR => ?_)
 obtain ⟨g12, he, hg, hn, hb⟩ := hR
 have R1 := (R_.below hb).fammore g12
 have Z1 := Z_.more M.bel.size hb hg hn
 refine ⟨.pointer (some ⟨g12, 0, none⟩), he, ?_⟩; clear he F a; intro a F
 refine hK _ _ ?_
 clear hK K
 replace R_ := R_.below hb
 replace Z_ := Z_.below hb
 replace M := M.below hb; clear hb; try clear v
 replace R_ := R1; replace Z_ := Z1; clear R1 Z1 hg hn
 refine list_val F (wn rfl) rfl rfl (.agg #[.pointer (some ⟨g11, 0, none⟩), .pointer (some ⟨g12, 0, none⟩)]) (ex_build 55 _ rfl #[(0, .pointer (some ⟨g11, 0, none⟩)), (1, .pointer (some ⟨g12, 0, none⟩))] (parts2 (F.e rfl) (F.e rfl)) (.agg #[.pointer (some ⟨g11, 0, none⟩), .pointer (some ⟨g12, 0, none⟩)]) (build55 g11 g12 _)) ?_; clear F a; intro a F
 refine list_do (wn rfl) (fun K hK => ?_)
 refine ow_alloc F M rfl rfl 55 rfl (.agg (List.replicate 2 (Value.pointer none)).toArray) z55 ((List.replicate 2 (Value.pointer none)).toArray) rfl ?_
 clear F M a; intro a g3 v F M hb hg
 refine hK _ _ ?_
 clear hK K
 replace R_ := R_.below hb
 replace Z_ := Z_.below hb
 clear hb hg; try clear u
 refine list_do (wn rfl) (fun K hK => ?_)
 refine ow_put F M rfl 55 _ _ rfl 0 _ ((List.replicate 2 (Value.pointer none)).toArray) _ rfl (F.e rfl) #[.pointer (some ⟨g11, 0, none⟩), .pointer (some ⟨g12, 0, none⟩)] (F.e rfl) (by kernel_rfl) rfl (by simp [Value.oneCell']) ?_
 clear F a; have Mo := M; clear M; intro a u F M hgr
 refine hK _ _ ?_
 clear hK K
 replace R_ := R_.box (Mo.blk 0 _ rfl) (by show 5 ≠ 55; decide) hgr
 replace Z_ := Z_.other (Mo.blk 0 _ rfl) (by show 82 ≠ 55; decide) hgr
 clear Mo hgr; try clear v
 replace M : Mm w u [⟨g3, #[.pointer (some ⟨g11, 0, none⟩), .pointer (some ⟨g12, 0, none⟩)], 55⟩] := M
 refine wpList_nil ?_
 replace F : Fr 139 a [(0, .slice Ls n cl), (2, .bool false), (3, .pointer (some ⟨g3, 0, none⟩))] := F.keep ⟨rfl, rfl, rfl, trivial⟩
 refine then_n ?_
 refine wp_seq ?_
 refine wp_region_lit ?_
 refine list_do (wn rfl) (fun K hK => ?_)
 refine ow_alloc F M rfl rfl 56 rfl (.agg (List.replicate 2 (Value.slice none 0 0)).toArray) z56 ((List.replicate 2 (Value.slice none 0 0)).toArray) rfl ?_
 clear F M a; intro a g4 v F M hb hg
 refine hK _ _ ?_
 clear hK K
 replace R_ := R_.below hb
 replace Z_ := Z_.below hb
 clear hb hg; try clear u
 refine wpList_nil ?_
 replace F : Fr 139 a [(0, .slice Ls n cl), (2, .bool false), (3, .pointer (some ⟨g3, 0, none⟩)), (4, .pointer (some ⟨g4, 0, none⟩))] := F.keep ⟨rfl, rfl, rfl, rfl, trivial⟩
 refine then_n ?_
 refine wp_seq ?_
 refine wp_region_lit ?_
 refine list_val F (wn rfl) rfl rfl (.int .i64 65536) (ex_assign _ rfl _ rfl) ?_; clear F a; intro a F
 refine wpList_nil ?_
 replace F : Fr 139 a [(0, .slice Ls n cl), (2, .bool false), (3, .pointer (some ⟨g3, 0, none⟩)), (4, .pointer (some ⟨g4, 0, none⟩)), (5, .int .i64 65536)] := F.keep ⟨rfl, rfl, rfl, rfl, rfl, trivial⟩
 refine then_n ?_
 refine wp_seq ?_
 refine wp_seq ?_
 refine wp_region_lit ?_
 refine list_val F (wn rfl) rfl rfl (.int .i64 0) (ex_assign _ rfl _ rfl) ?_; clear F a; intro a F
 refine wpList_nil ?_
 replace F : Fr 139 a [(0, .slice Ls n cl), (2, .bool false), (3, .pointer (some ⟨g3, 0, none⟩)), (4, .pointer (some ⟨g4, 0, none⟩)), (5, .int .i64 65536), (6, .int .i64 0)] := F.keep ⟨rfl, rfl, rfl, rfl, rfl, rfl, trivial⟩
 refine then_n ?_
 refine wp_block ?_
 refine wp_loopN (fun mq ar wr => ∃ (i : Nat), ∃ (hs : List Hz), ∃ (lf : Int), Fr 139 ar [(0, .slice Ls n cl), (2, .bool false), (3, .pointer (some ⟨g3, 0, none⟩)), (4, .pointer (some ⟨g4, 0, none⟩)), (5, .int .i64 lf), (6, .int .i64 ((i : Nat) : Int))] ∧ Mm w wr [⟨g4, (acs hs).toArray, 56⟩, ⟨g3, (pcs hs).toArray, 55⟩] ∧ Rs w wr ([] ++ famR hs) ∧ Fam w wr hs ∧ i ≤ n ∧ hs.length = 2 ∧ lf ≤ 65536 ∧ -20000 ≤ lf ∧ Agr hs lf ∧ mq + i = n) n ?_ ?_
 ·
  exact ⟨0, (([] ++ [freshH g11]) ++ [freshH g12]), 65536, F.keep ⟨rfl, rfl, rfl, rfl, rfl, rfl, trivial⟩, (by refine M.pick' [0, 1] _ ?_ (by decide); exact ⟨rfl, rfl, trivial⟩), (by rw [List.nil_append]; exact R_), Z_, (Nat.zero_le _), rfl, (Int.le_refl _), (by decide), (ag_two _ _), (by omega)⟩
 clear F M a R_ Z_
 rintro mq a u ⟨i, hs, lf, F, M, R_, Z_, hi, hln, hlf, hlf2, hag, hq⟩; try clear v
 by_cases hin : i < n
 ·
  obtain ⟨ad, dd, on_, B, c, b, hLs, zi, hrb, hmc, hbl⟩ := hl i hin
  subst hLs
  refine wp_seq ?_
  refine wp_seq ?_
  refine wp_region_lit ?_
  refine list_val F (wn rfl) rfl rfl (.int .i64 ((i : Nat) : Int)) (ex_move _ rfl _ (F.e rfl)) ?_; clear F a; intro a F
  refine list_val F (wn rfl) rfl rfl (.slice (some ad) n cl) (ex_move _ rfl _ (F.e rfl)) ?_; clear F a; intro a F
  refine list_val F (wn rfl) rfl rfl (.int .i64 ((n : Nat) : Int)) (ex_len _ _ rfl 3 ec_sl_52_3 _ _ _ (F.e rfl)) ?_; clear F a; intro a F
  refine list_val F (wn rfl) rfl rfl (.bool true) (ex_bin .lss _ _ _ _ rfl .i64 _ _ (F.e rfl) (F.e rfl) _ (b_lss (decide_eq_true (by omega)))) ?_; clear F a; intro a F
  refine wpList_nil ?_
  replace F : Fr 139 a [(0, .slice (some ad) n cl), (2, .bool false), (3, .pointer (some ⟨g3, 0, none⟩)), (4, .pointer (some ⟨g4, 0, none⟩)), (5, .int .i64 lf), (6, .int .i64 ((i : Nat) : Int)), (17, .bool true)] := F.keep ⟨rfl, rfl, rfl, rfl, rfl, rfl, rfl, trivial⟩
  refine then_n ?_
  refine wp_cond_true (F.e rfl) ?_
  refine wp_skip ?_
  refine then_n ?_
  refine wp_seq ?_
  refine wp_block ?_
  refine wp_seq ?_
  refine wp_region_lit ?_
  refine list_val F (wn rfl) rfl rfl (.slice (some ad) n cl) (ex_move _ rfl _ (F.e rfl)) ?_; clear F a; intro a F
  refine list_val F (wn rfl) rfl rfl (.int .i64 ((i : Nat) : Int)) (ex_move _ rfl _ (F.e rfl)) ?_; clear F a; intro a F
  refine list_val F (wn rfl) rfl rfl (.pointer (some (ad.add (i * 3)))) (ex_ix _ _ _ rfl 3 ec_sl_52_3 ad _ _ (F.e rfl) .i64 _ (F.e rfl) i rfl (by omega) (ad.add (i * 3)) rfl) ?_; clear F a; intro a F
  refine list_val F (wn rfl) rfl rfl (.agg #[.int .i64 dd, .int .i64 on_, .slice B b.length c]) (ex_load _ _ rfl _ (F.e rfl) _ (lvr (cs := [.int .i64 dd, .int .i64 on_, .slice B b.length c]) ec_row_58_3 ((zi.below M.bel)))) ?_; clear F a; intro a F
  refine list_do (wn rfl) (fun K hK => ?_)
  refine ow_alloc F M rfl rfl 58 rfl (.agg #[.int .i64 0, .int .i64 0, .slice none 0 0]) z58 #[.int .i64 0, .int .i64 0, .slice none 0 0] rfl ?_
  clear F M a; intro a g7 v F M hb hg
  refine hK _ _ ?_
  clear hK K
  replace R_ := R_.below hb
  replace Z_ := Z_.below hb
  clear hb hg; try clear u
  refine list_do (wn rfl) (fun K hK => ?_)
  refine ow_put F M rfl 58 _ _ rfl 0 _ #[.int .i64 0, .int .i64 0, .slice none 0 0] _ rfl (F.e rfl) #[.int .i64 dd, .int .i64 on_, .slice B b.length c] (F.e rfl) (by kernel_rfl) rfl (by simp [Value.oneCell']) ?_
  clear F a; have Mo := M; clear M; intro a u F M hgr
  refine hK _ _ ?_
  clear hK K
  replace R_ := R_.box (Mo.blk 0 _ rfl) (by show 5 ≠ 58; decide) hgr
  replace Z_ := Z_.other (Mo.blk 0 _ rfl) (by show 82 ≠ 58; decide) hgr
  clear Mo hgr; try clear v
  replace M : Mm w u [⟨g7, #[.int .i64 dd, .int .i64 on_, .slice B b.length c], 58⟩, ⟨g4, (acs hs).toArray, 56⟩, ⟨g3, (pcs hs).toArray, 55⟩] := M
  refine wpList_nil ?_
  replace F : Fr 139 a [(0, .slice (some ad) n cl), (2, .bool false), (3, .pointer (some ⟨g3, 0, none⟩)), (4, .pointer (some ⟨g4, 0, none⟩)), (5, .int .i64 lf), (6, .int .i64 ((i : Nat) : Int)), (7, .pointer (some ⟨g7, 0, none⟩)), (17, .bool true)] := F.keep ⟨rfl, rfl, rfl, rfl, rfl, rfl, rfl, rfl, trivial⟩
  refine then_n ?_
  refine wp_seq ?_
  refine wp_region_lit ?_
  refine list_val F (wn rfl) rfl rfl (.pointer (some ⟨g7, 1, none⟩)) (ex_fa _ _ _ rfl _ (F.e rfl) 1 ec_fa_58_1_1 ⟨g7, 1, none⟩ rfl) ?_; clear F a; intro a F
  refine list_val F (wn rfl) rfl rfl (.int .i64 on_) (ex_load _ _ rfl _ (F.e rfl) _ (lv1 ec_one_3 (M.cell (i := 0) rfl (j := 1) rfl))) ?_; clear F a; intro a F
  refine list_do (wn rfl) (fun K hK => ?_)
  refine ow_call rfl rfl F 32 #[.int .i64 on_, .int .i64 2] (ex_call 32 _ _ rfl rfl ec_ent_32 _ (map2 (F.e rfl) rfl)) (within_any on_ _) (fun e v hR => ?_)
  obtain ⟨he, hb⟩ := hR
  obtain ⟨k, hk2, hkw⟩ := wit_nat on_
  rw [hkw] at he
  refine ⟨.int .i64 ((k : Nat) : Int), he, ?_⟩; clear he F a; intro a F
  refine hK _ _ ?_
  clear hK K
  replace R_ := R_.below hb
  replace Z_ := Z_.below hb
  replace M := M.below hb; clear hb; try clear u
  refine list_val F (wn rfl) rfl rfl (.int .i64 ((k : Nat) : Int)) (ex_assign _ rfl _ (F.e rfl)) ?_; clear F a; intro a F
  refine wpList_nil ?_
  replace F : Fr 139 a [(0, .slice (some ad) n cl), (2, .bool false), (3, .pointer (some ⟨g3, 0, none⟩)), (4, .pointer (some ⟨g4, 0, none⟩)), (5, .int .i64 lf), (6, .int .i64 ((i : Nat) : Int)), (7, .pointer (some ⟨g7, 0, none⟩)), (8, .int .i64 ((k : Nat) : Int)), (17, .bool true)] := F.keep ⟨rfl, rfl, rfl, rfl, rfl, rfl, rfl, rfl, rfl, trivial⟩
  refine then_n ?_
  refine wp_seq ?_
  refine wp_seq ?_
  obtain ⟨x, hx⟩ : ∃ h, hs[k]? = some h := ⟨_, List.getElem?_eq_getElem (by omega)⟩
  have hxa := hag k x hx
  have hwx : x.wr = x.ap := hxa.1
  have hxl : (x.ap.length : Int) + lf ≤ 65536 := hxa.2
  refine wp_region_lit ?_
  refine list_val F (wn rfl) rfl rfl (.int .i64 ((k : Nat) : Int)) (ex_move _ rfl _ (F.e rfl)) ?_; clear F a; intro a F
  refine list_val F (wn rfl) rfl rfl (.pointer (some ⟨g3, k, none⟩)) (ex_ixa _ _ _ rfl 2 ec_ar_55_2 ⟨g3, 0, none⟩ (F.e rfl) .i64 _ (F.e rfl) k rfl (by omega) ⟨g3, k, none⟩ ((addr_add _ _ _).trans (by rw [Nat.zero_add]))) ?_; clear F a; intro a F
  refine list_val F (wn rfl) rfl rfl (.pointer (some ⟨x.g, 0, none⟩)) (ex_load _ _ rfl _ (F.e rfl) _ (lv1 ec_one_53 (M.cell (i := 2) rfl (j := k) (arr_get (pcs_get hx))))) ?_; clear F a; intro a F
  refine list_val F (wn rfl) rfl rfl (.bool false) (ex_pnil _ _ _ rfl _ (F.e rfl) rfl) ?_; clear F a; intro a F
  refine wpList_nil ?_
  replace F : Fr 139 a [(0, .slice (some ad) n cl), (2, .bool false), (3, .pointer (some ⟨g3, 0, none⟩)), (4, .pointer (some ⟨g4, 0, none⟩)), (5, .int .i64 lf), (6, .int .i64 ((i : Nat) : Int)), (7, .pointer (some ⟨g7, 0, none⟩)), (8, .int .i64 ((k : Nat) : Int)), (17, .bool true), (30, .bool false)] := F.keep ⟨rfl, rfl, rfl, rfl, rfl, rfl, rfl, rfl, rfl, rfl, trivial⟩
  refine then_n ?_
  refine wp_cond_false (F.e rfl) ?_
  refine wp_skip ?_
  refine then_n ?_
  refine wp_seq ?_
  refine wp_region_lit ?_
  refine list_val F (wn rfl) rfl rfl (.pointer (some ⟨g7, 0, none⟩)) (ex_fa _ _ _ rfl _ (F.e rfl) 0 ec_fa_58_0_0 ⟨g7, 0, none⟩ rfl) ?_; clear F a; intro a F
  refine list_val F (wn rfl) rfl rfl (.int .i64 dd) (ex_load _ _ rfl _ (F.e rfl) _ (lv1 ec_one_3 (M.cell (i := 0) rfl (j := 0) rfl))) ?_; clear F a; intro a F
  refine wpList_nil ?_
  replace F : Fr 139 a [(0, .slice (some ad) n cl), (2, .bool false), (3, .pointer (some ⟨g3, 0, none⟩)), (4, .pointer (some ⟨g4, 0, none⟩)), (5, .int .i64 lf), (6, .int .i64 ((i : Nat) : Int)), (7, .pointer (some ⟨g7, 0, none⟩)), (8, .int .i64 ((k : Nat) : Int)), (17, .bool true), (30, .bool false), (32, .int .i64 dd)] := F.keep ⟨rfl, rfl, rfl, rfl, rfl, rfl, rfl, rfl, rfl, rfl, rfl, trivial⟩
  refine then_n ?_
  refine wp_block ?_
  refine wp_seq ?_
  by_cases hd : dd = 1
  ·
   refine wp_region_lit ?_
   refine list_val F (wn rfl) rfl rfl (.bool true) (ex_bin .eql _ _ _ _ rfl .i64 _ _ (F.e rfl) rfl _ (b_eql (by rw [hd]; rfl))) ?_; clear F a; intro a F
   refine list_val F (wn rfl) rfl rfl (.bool true) (ex_assign _ rfl _ (F.e rfl)) ?_; clear F a; intro a F
   refine wpList_nil ?_
   replace F : Fr 139 a [(0, .slice (some ad) n cl), (2, .bool false), (3, .pointer (some ⟨g3, 0, none⟩)), (4, .pointer (some ⟨g4, 0, none⟩)), (5, .int .i64 lf), (6, .int .i64 ((i : Nat) : Int)), (7, .pointer (some ⟨g7, 0, none⟩)), (8, .int .i64 ((k : Nat) : Int)), (17, .bool true), (30, .bool false), (32, .int .i64 dd), (33, .bool true)] := F.keep ⟨rfl, rfl, rfl, rfl, rfl, rfl, rfl, rfl, rfl, rfl, rfl, rfl, trivial⟩
   refine then_n ?_
   refine wp_cond_true (F.e rfl) ?_
   refine wp_seq ?_
   refine wp_region_lit ?_
   refine list_val F (wn rfl) rfl rfl (.int .i64 ((k : Nat) : Int)) (ex_move _ rfl _ (F.e rfl)) ?_; clear F a; intro a F
   refine list_do (wn rfl) (fun K hK => ?_)
   refine ow_call rfl rfl F 31 #[] (ex_call 31 _ _ rfl rfl ec_ent_31 _ (map0)) (new_all _) (fun e u hR => ?_)
   obtain ⟨g36, he, hg, hn, hb⟩ := hR
   have R1 := (R_.below hb).famfresh k g36
   have Z1 := Z_.fresh hx M.bel.size hb hg hn
   refine ⟨.pointer (some ⟨g36, 0, none⟩), he, ?_⟩; clear he F a; intro a F
   refine hK _ _ ?_
   clear hK K
   replace R_ := R_.below hb
   replace Z_ := Z_.below hb
   replace M := M.below hb; clear hb; try clear v
   replace R_ := R1; replace Z_ := Z1; clear R1 Z1 hg hn
   refine list_val F (wn rfl) rfl rfl (.pointer (some ⟨g3, k, none⟩)) (ex_ixa _ _ _ rfl 2 ec_ar_55_2 ⟨g3, 0, none⟩ (F.e rfl) .i64 _ (F.e rfl) k rfl (by omega) ⟨g3, k, none⟩ ((addr_add _ _ _).trans (by rw [Nat.zero_add]))) ?_; clear F a; intro a F
   refine list_do (wn rfl) (fun K hK => ?_)
   refine ow_store F M rfl 53 _ _ rfl 2 g3 _ _ rfl (k) (F.e rfl) _ (F.e rfl) [.pointer (some ⟨g36, 0, none⟩)] rfl ec_info_53_map_size_some_1 (by rw [List.size_toArray, show (pcs hs).length = 2 by rw [pcs_len, hln]]; simp; omega) (by simp [Value.oneCell', Hz.al]) (pcs (hs.set k (freshH g36))).toArray (congrArg List.toArray (put_fresh (by omega))) ?_
   clear F a; have Mo := M; clear M; intro a v F M hgr
   refine hK _ _ ?_
   clear hK K
   replace R_ := R_.box (Mo.blk 2 _ rfl) (by show 5 ≠ 55; decide) hgr
   replace Z_ := Z_.other (Mo.blk 2 _ rfl) (by show 82 ≠ 55; decide) hgr
   clear Mo hgr; try clear u
   replace M : Mm w v [⟨g7, #[.int .i64 dd, .int .i64 on_, .slice B b.length c], 58⟩, ⟨g4, (acs hs).toArray, 56⟩, ⟨g3, (pcs (hs.set k (freshH g36))).toArray, 55⟩] := M
   refine wpList_nil ?_
   replace F : Fr 139 a [(0, .slice (some ad) n cl), (2, .bool false), (3, .pointer (some ⟨g3, 0, none⟩)), (4, .pointer (some ⟨g4, 0, none⟩)), (5, .int .i64 lf), (6, .int .i64 ((i : Nat) : Int)), (7, .pointer (some ⟨g7, 0, none⟩)), (8, .int .i64 ((k : Nat) : Int)), (17, .bool true), (30, .bool false), (32, .int .i64 dd), (33, .bool true)] := F.keep ⟨rfl, rfl, rfl, rfl, rfl, rfl, rfl, rfl, rfl, rfl, rfl, rfl, trivial⟩
   refine then_n ?_
   refine wp_region_lit ?_
   refine list_val F (wn rfl) rfl rfl (.int .i64 ((k : Nat) : Int)) (ex_move _ rfl _ (F.e rfl)) ?_; clear F a; intro a F
   refine list_val F (wn rfl) rfl rfl (.pointer (some ⟨g4, k, none⟩)) (ex_ixa _ _ _ rfl 2 ec_ar_56_2 ⟨g4, 0, none⟩ (F.e rfl) .i64 _ (F.e rfl) k rfl (by omega) ⟨g4, k, none⟩ ((addr_add _ _ _).trans (by rw [Nat.zero_add]))) ?_; clear F a; intro a F
   refine list_do (wn rfl) (fun K hK => ?_)
   refine ow_store F M rfl 23 _ _ rfl 1 g4 _ _ rfl (k) (F.e rfl) _ rfl [.slice none 0 0] rfl ec_info_23_map_size_some_1 (by rw [List.size_toArray, show (acs hs).length = 2 by rw [acs_len, hln]]; simp; omega) (by simp [Value.oneCell', Hz.al]) (acs (hs.set k (freshH g36))).toArray (congrArg List.toArray (put_nil g36 (by omega))) ?_
   clear F a; have Mo := M; clear M; intro a u F M hgr
   refine hK _ _ ?_
   clear hK K
   replace R_ := R_.box (Mo.blk 1 _ rfl) (by show 5 ≠ 56; decide) hgr
   replace Z_ := Z_.other (Mo.blk 1 _ rfl) (by show 82 ≠ 56; decide) hgr
   clear Mo hgr; try clear v
   replace M : Mm w u [⟨g7, #[.int .i64 dd, .int .i64 on_, .slice B b.length c], 58⟩, ⟨g4, (acs (hs.set k (freshH g36))).toArray, 56⟩, ⟨g3, (pcs (hs.set k (freshH g36))).toArray, 55⟩] := M
   refine wpList_nil ?_
   replace F : Fr 139 a [(0, .slice (some ad) n cl), (2, .bool false), (3, .pointer (some ⟨g3, 0, none⟩)), (4, .pointer (some ⟨g4, 0, none⟩)), (5, .int .i64 lf), (6, .int .i64 ((i : Nat) : Int)), (7, .pointer (some ⟨g7, 0, none⟩)), (8, .int .i64 ((k : Nat) : Int)), (17, .bool true), (30, .bool false), (32, .int .i64 dd), (33, .bool true)] := F.keep ⟨rfl, rfl, rfl, rfl, rfl, rfl, rfl, rfl, rfl, rfl, rfl, rfl, trivial⟩
   refine in_n ?_
   refine in_n ?_
   refine then_n ?_
   refine wp_region_lit ?_
   refine list_val F (wn rfl) rfl rfl (.int .i64 ((i : Nat) : Int)) (ex_move _ rfl _ (F.e rfl)) ?_; clear F a; intro a F
   refine list_val F (wn rfl) rfl rfl (.int .i64 ((i + 1 : Nat) : Int)) (ex_bin .add _ _ _ _ rfl .i64 _ _ (F.e rfl) rfl _ (b_add ((w_i64 (by omega) (by omega)).trans (by omega)))) ?_; clear F a; intro a F
   refine list_val F (wn rfl) rfl rfl (.int .i64 ((i + 1 : Nat) : Int)) (ex_assign _ rfl _ (F.e rfl)) ?_; clear F a; intro a F
   refine wpList_nil ?_
   replace F : Fr 139 a [(0, .slice (some ad) n cl), (2, .bool false), (3, .pointer (some ⟨g3, 0, none⟩)), (4, .pointer (some ⟨g4, 0, none⟩)), (5, .int .i64 lf), (6, .int .i64 ((i + 1 : Nat) : Int)), (7, .pointer (some ⟨g7, 0, none⟩)), (8, .int .i64 ((k : Nat) : Int)), (17, .bool true), (30, .bool false), (32, .int .i64 dd), (33, .bool true)] := F.keep ⟨rfl, rfl, rfl, rfl, rfl, rfl, rfl, rfl, rfl, rfl, rfl, rfl, trivial⟩
   refine then_n ?_
   exact ⟨n - (i + 1), by omega, (i + 1), (hs.set k (freshH g36)), lf, F.keep ⟨rfl, rfl, rfl, rfl, rfl, rfl, trivial⟩, (by refine M.pick' [1, 2] _ ?_ (by decide); exact ⟨rfl, rfl, trivial⟩), R_, Z_, (by omega), (by rw [List.length_set]; exact hln), hlf, hlf2, (hag.fresh hlf), (by omega)⟩
  by_cases hd2 : dd = 2
  ·
   refine wp_region_lit ?_
   refine list_val F (wn rfl) rfl rfl (.bool false) (ex_bin .eql _ _ _ _ rfl .i64 _ _ (F.e rfl) rfl _ (b_eql (by simp [hd]))) ?_; clear F a; intro a F
   refine list_val F (wn rfl) rfl rfl (.bool false) (ex_assign _ rfl _ (F.e rfl)) ?_; clear F a; intro a F
   refine wpList_nil ?_
   replace F : Fr 139 a [(0, .slice (some ad) n cl), (2, .bool false), (3, .pointer (some ⟨g3, 0, none⟩)), (4, .pointer (some ⟨g4, 0, none⟩)), (5, .int .i64 lf), (6, .int .i64 ((i : Nat) : Int)), (7, .pointer (some ⟨g7, 0, none⟩)), (8, .int .i64 ((k : Nat) : Int)), (17, .bool true), (30, .bool false), (32, .int .i64 dd), (33, .bool false)] := F.keep ⟨rfl, rfl, rfl, rfl, rfl, rfl, rfl, rfl, rfl, rfl, rfl, rfl, trivial⟩
   refine then_n ?_
   refine wp_cond_false (F.e rfl) ?_
   refine wp_seq ?_
   refine wp_region_lit ?_
   refine list_val F (wn rfl) rfl rfl (.bool true) (ex_bin .eql _ _ _ _ rfl .i64 _ _ (F.e rfl) rfl _ (b_eql (by rw [hd2]; rfl))) ?_; clear F a; intro a F
   refine list_val F (wn rfl) rfl rfl (.bool true) (ex_assign _ rfl _ (F.e rfl)) ?_; clear F a; intro a F
   refine wpList_nil ?_
   replace F : Fr 139 a [(0, .slice (some ad) n cl), (2, .bool false), (3, .pointer (some ⟨g3, 0, none⟩)), (4, .pointer (some ⟨g4, 0, none⟩)), (5, .int .i64 lf), (6, .int .i64 ((i : Nat) : Int)), (7, .pointer (some ⟨g7, 0, none⟩)), (8, .int .i64 ((k : Nat) : Int)), (17, .bool true), (30, .bool false), (32, .int .i64 dd), (33, .bool false), (40, .bool true)] := F.keep ⟨rfl, rfl, rfl, rfl, rfl, rfl, rfl, rfl, rfl, rfl, rfl, rfl, rfl, trivial⟩
   refine then_n ?_
   refine wp_cond_true (F.e rfl) ?_
   refine wp_seq ?_
   refine wp_seq ?_
   by_cases hbig : lf < (b.length : Int)
   ·
    refine wp_region_lit ?_
    refine list_val F (wn rfl) rfl rfl (.pointer (some ⟨g7, 2, none⟩)) (ex_fa _ _ _ rfl _ (F.e rfl) 2 ec_fa_58_2_2 ⟨g7, 2, none⟩ rfl) ?_; clear F a; intro a F
    refine list_val F (wn rfl) rfl rfl (.slice B b.length c) (ex_load _ _ rfl _ (F.e rfl) _ (lv1 ec_one_23 (M.cell (i := 0) rfl (j := 2) rfl))) ?_; clear F a; intro a F
    refine list_val F (wn rfl) rfl rfl (.int .i64 ((b.length : Nat) : Int)) (ex_len _ _ rfl 1 ec_sl_23_1 _ _ _ (F.e rfl)) ?_; clear F a; intro a F
    refine list_val F (wn rfl) rfl rfl (.int .i64 lf) (ex_move _ rfl _ (F.e rfl)) ?_; clear F a; intro a F
    refine list_val F (wn rfl) rfl rfl (.bool true) (ex_bin .gtr _ _ _ _ rfl .i64 _ _ (F.e rfl) (F.e rfl) _ (b_gtr (decide_eq_true (by omega)))) ?_; clear F a; intro a F
    refine wpList_nil ?_
    replace F : Fr 139 a [(0, .slice (some ad) n cl), (2, .bool false), (3, .pointer (some ⟨g3, 0, none⟩)), (4, .pointer (some ⟨g4, 0, none⟩)), (5, .int .i64 lf), (6, .int .i64 ((i : Nat) : Int)), (7, .pointer (some ⟨g7, 0, none⟩)), (8, .int .i64 ((k : Nat) : Int)), (17, .bool true), (30, .bool false), (32, .int .i64 dd), (33, .bool false), (40, .bool true), (46, .bool true)] := F.keep ⟨rfl, rfl, rfl, rfl, rfl, rfl, rfl, rfl, rfl, rfl, rfl, rfl, rfl, rfl, trivial⟩
    refine then_n ?_
    refine wp_cond_true (F.e rfl) ?_
    refine wp_exit ?_
    refine then_x ?_
    refine in_hit ?_
    refine in_n ?_
    refine then_n ?_
    refine wp_region_lit ?_
    refine list_val F (wn rfl) rfl rfl (.int .i64 ((i : Nat) : Int)) (ex_move _ rfl _ (F.e rfl)) ?_; clear F a; intro a F
    refine list_val F (wn rfl) rfl rfl (.int .i64 ((i + 1 : Nat) : Int)) (ex_bin .add _ _ _ _ rfl .i64 _ _ (F.e rfl) rfl _ (b_add ((w_i64 (by omega) (by omega)).trans (by omega)))) ?_; clear F a; intro a F
    refine list_val F (wn rfl) rfl rfl (.int .i64 ((i + 1 : Nat) : Int)) (ex_assign _ rfl _ (F.e rfl)) ?_; clear F a; intro a F
    refine wpList_nil ?_
    replace F : Fr 139 a [(0, .slice (some ad) n cl), (2, .bool false), (3, .pointer (some ⟨g3, 0, none⟩)), (4, .pointer (some ⟨g4, 0, none⟩)), (5, .int .i64 lf), (6, .int .i64 ((i + 1 : Nat) : Int)), (7, .pointer (some ⟨g7, 0, none⟩)), (8, .int .i64 ((k : Nat) : Int)), (17, .bool true), (30, .bool false), (32, .int .i64 dd), (33, .bool false), (40, .bool true), (46, .bool true)] := F.keep ⟨rfl, rfl, rfl, rfl, rfl, rfl, rfl, rfl, rfl, rfl, rfl, rfl, rfl, rfl, trivial⟩
    refine then_n ?_
    exact ⟨n - (i + 1), by omega, (i + 1), hs, lf, F.keep ⟨rfl, rfl, rfl, rfl, rfl, rfl, trivial⟩, (by refine M.pick' [1, 2] _ ?_ (by decide); exact ⟨rfl, rfl, trivial⟩), R_, Z_, (by omega), hln, hlf, hlf2, hag, (by omega)⟩
   refine wp_region_lit ?_
   refine list_val F (wn rfl) rfl rfl (.pointer (some ⟨g7, 2, none⟩)) (ex_fa _ _ _ rfl _ (F.e rfl) 2 ec_fa_58_2_2 ⟨g7, 2, none⟩ rfl) ?_; clear F a; intro a F
   refine list_val F (wn rfl) rfl rfl (.slice B b.length c) (ex_load _ _ rfl _ (F.e rfl) _ (lv1 ec_one_23 (M.cell (i := 0) rfl (j := 2) rfl))) ?_; clear F a; intro a F
   refine list_val F (wn rfl) rfl rfl (.int .i64 ((b.length : Nat) : Int)) (ex_len _ _ rfl 1 ec_sl_23_1 _ _ _ (F.e rfl)) ?_; clear F a; intro a F
   refine list_val F (wn rfl) rfl rfl (.int .i64 lf) (ex_move _ rfl _ (F.e rfl)) ?_; clear F a; intro a F
   refine list_val F (wn rfl) rfl rfl (.bool false) (ex_bin .gtr _ _ _ _ rfl .i64 _ _ (F.e rfl) (F.e rfl) _ (b_gtr (decide_eq_false (by omega)))) ?_; clear F a; intro a F
   refine wpList_nil ?_
   replace F : Fr 139 a [(0, .slice (some ad) n cl), (2, .bool false), (3, .pointer (some ⟨g3, 0, none⟩)), (4, .pointer (some ⟨g4, 0, none⟩)), (5, .int .i64 lf), (6, .int .i64 ((i : Nat) : Int)), (7, .pointer (some ⟨g7, 0, none⟩)), (8, .int .i64 ((k : Nat) : Int)), (17, .bool true), (30, .bool false), (32, .int .i64 dd), (33, .bool false), (40, .bool true), (46, .bool false)] := F.keep ⟨rfl, rfl, rfl, rfl, rfl, rfl, rfl, rfl, rfl, rfl, rfl, rfl, rfl, rfl, trivial⟩
   refine then_n ?_
   refine wp_cond_false (F.e rfl) ?_
   refine wp_skip ?_
   refine then_n ?_
   refine wp_seq ?_
   refine wp_region_lit ?_
   refine list_val F (wn rfl) rfl rfl (.int .i64 lf) (ex_move _ rfl _ (F.e rfl)) ?_; clear F a; intro a F
   refine list_val F (wn rfl) rfl rfl (.pointer (some ⟨g7, 2, none⟩)) (ex_fa _ _ _ rfl _ (F.e rfl) 2 ec_fa_58_2_2 ⟨g7, 2, none⟩ rfl) ?_; clear F a; intro a F
   refine list_val F (wn rfl) rfl rfl (.slice B b.length c) (ex_load _ _ rfl _ (F.e rfl) _ (lv1 ec_one_23 (M.cell (i := 0) rfl (j := 2) rfl))) ?_; clear F a; intro a F
   refine list_val F (wn rfl) rfl rfl (.int .i64 ((b.length : Nat) : Int)) (ex_len _ _ rfl 1 ec_sl_23_1 _ _ _ (F.e rfl)) ?_; clear F a; intro a F
   refine list_val F (wn rfl) rfl rfl (.int .i64 (lf - (b.length : Int))) (ex_bin .sub _ _ _ _ rfl .i64 _ _ (F.e rfl) (F.e rfl) _ (b_sub (w_i64 (by omega) (by omega)))) ?_; clear F a; intro a F
   refine list_val F (wn rfl) rfl rfl (.int .i64 (lf - (b.length : Int))) (ex_assign _ rfl _ (F.e rfl)) ?_; clear F a; intro a F
   refine wpList_nil ?_
   replace F : Fr 139 a [(0, .slice (some ad) n cl), (2, .bool false), (3, .pointer (some ⟨g3, 0, none⟩)), (4, .pointer (some ⟨g4, 0, none⟩)), (5, .int .i64 (lf - (b.length : Int))), (6, .int .i64 ((i : Nat) : Int)), (7, .pointer (some ⟨g7, 0, none⟩)), (8, .int .i64 ((k : Nat) : Int)), (17, .bool true), (30, .bool false), (32, .int .i64 dd), (33, .bool false), (40, .bool true), (46, .bool false)] := F.keep ⟨rfl, rfl, rfl, rfl, rfl, rfl, rfl, rfl, rfl, rfl, rfl, rfl, rfl, rfl, trivial⟩
   refine then_n ?_
   refine wp_seq ?_
   refine wp_region_lit ?_
   refine list_val F (wn rfl) rfl rfl (.pointer (some ⟨g7, 2, none⟩)) (ex_fa _ _ _ rfl _ (F.e rfl) 2 ec_fa_58_2_2 ⟨g7, 2, none⟩ rfl) ?_; clear F a; intro a F
   refine list_val F (wn rfl) rfl rfl (.slice B b.length c) (ex_load _ _ rfl _ (F.e rfl) _ (lv1 ec_one_23 (M.cell (i := 0) rfl (j := 2) rfl))) ?_; clear F a; intro a F
   refine list_do (wn rfl) (fun K hK => ?_)
   refine ow_call rfl rfl F 14 #[.slice B b.length c] (ex_call 14 _ _ rfl rfl ec_ent_14 _ (map1 (F.e rfl))) (lend_any b _ b.length c (by omega) _ (hrb.below M.bel)) (fun e u hR => ?_)
   obtain ⟨A_54, c_54, he, O_n, hb⟩ := hR
   rw [show (b ++ mks 70).length = b.length + 70 by rw [List.length_append, mks_len]] at O_n
   have R1 := R_.new hb M.bel.size O_n
   have hcf54 := O_n.rb.2
   have hcx54 : b.length ≤ c_54 := by omega
   refine ⟨.slice A_54 b.length c_54, he, ?_⟩; clear he F a; intro a F
   refine hK _ _ ?_
   clear hK K
   replace R_ := R_.below hb
   replace Z_ := Z_.below hb
   replace M := M.below hb; clear hb; try clear v
   replace R_ := R1; clear R1 O_n
   refine list_val F (wn rfl) rfl rfl (.slice A_54 b.length c_54) (ex_assign _ rfl _ (F.e rfl)) ?_; clear F a; intro a F
   refine wpList_nil ?_
   replace F : Fr 139 a [(0, .slice (some ad) n cl), (2, .bool false), (3, .pointer (some ⟨g3, 0, none⟩)), (4, .pointer (some ⟨g4, 0, none⟩)), (5, .int .i64 (lf - (b.length : Int))), (6, .int .i64 ((i : Nat) : Int)), (7, .pointer (some ⟨g7, 0, none⟩)), (8, .int .i64 ((k : Nat) : Int)), (9, .slice A_54 b.length c_54), (17, .bool true), (30, .bool false), (32, .int .i64 dd), (33, .bool false), (40, .bool true), (46, .bool false)] := F.keep ⟨rfl, rfl, rfl, rfl, rfl, rfl, rfl, rfl, rfl, rfl, rfl, rfl, rfl, rfl, rfl, trivial⟩
   refine then_n ?_
   refine wp_seq ?_
   refine wp_region_lit ?_
   refine list_val F (wn rfl) rfl rfl (.int .i64 ((k : Nat) : Int)) (ex_move _ rfl _ (F.e rfl)) ?_; clear F a; intro a F
   refine list_val F (wn rfl) rfl rfl (.pointer (some ⟨g3, k, none⟩)) (ex_ixa _ _ _ rfl 2 ec_ar_55_2 ⟨g3, 0, none⟩ (F.e rfl) .i64 _ (F.e rfl) k rfl (by omega) ⟨g3, k, none⟩ ((addr_add _ _ _).trans (by rw [Nat.zero_add]))) ?_; clear F a; intro a F
   refine list_val F (wn rfl) rfl rfl (.pointer (some ⟨x.g, 0, none⟩)) (ex_load _ _ rfl _ (F.e rfl) _ (lv1 ec_one_53 (M.cell (i := 2) rfl (j := k) (arr_get (pcs_get hx))))) ?_; clear F a; intro a F
   refine list_val F (wn rfl) rfl rfl (.slice A_54 b.length c_54) (ex_move _ rfl _ (F.e rfl)) ?_; clear F a; intro a F
   refine list_do (wn rfl) (fun K hK => ?_)
   refine ow_call rfl rfl F 33 #[.pointer (some ⟨x.g, 0, none⟩), .slice A_54 b.length c_54] (ex_call 33 _ _ rfl rfl ec_ent_33 _ (map2 (F.e rfl) (F.e rfl))) (write_fam (t := [_]) M rfl R_ Z_ hx (hKt.below M.bel) h0 0 _ A_54 b.length c_54 b _ rfl ((R_.rb (i := 0) rfl).lent rfl) hcx54) (fun e v hR => ?_)
   obtain ⟨he, hs59, h59, M1, R1, Z1, hch59, hwr59, hap59, hal59, hp59, ha59⟩ := hR
   refine ⟨.tuple #[], he, ?_⟩; clear he F a; intro a F
   refine hK _ _ ?_
   clear hK K
   replace M := M1; replace R_ := R1; replace Z_ := Z1; clear M1 R1 Z1
   rw [← hp59, ← ha59] at M
   replace M : Mm w v [⟨g7, #[.int .i64 dd, .int .i64 on_, .slice B b.length c], 58⟩, ⟨g4, (acs hs59).toArray, 56⟩, ⟨g3, (pcs hs59).toArray, 55⟩] := M; try clear u
   refine wpList_nil ?_
   replace F : Fr 139 a [(0, .slice (some ad) n cl), (2, .bool false), (3, .pointer (some ⟨g3, 0, none⟩)), (4, .pointer (some ⟨g4, 0, none⟩)), (5, .int .i64 (lf - (b.length : Int))), (6, .int .i64 ((i : Nat) : Int)), (7, .pointer (some ⟨g7, 0, none⟩)), (8, .int .i64 ((k : Nat) : Int)), (9, .slice A_54 b.length c_54), (17, .bool true), (30, .bool false), (32, .int .i64 dd), (33, .bool false), (40, .bool true), (46, .bool false)] := F.keep ⟨rfl, rfl, rfl, rfl, rfl, rfl, rfl, rfl, rfl, rfl, rfl, rfl, rfl, rfl, rfl, trivial⟩
   refine then_n ?_
   refine wp_seq ?_
   refine wp_seq ?_
   refine wp_region_lit ?_
   refine list_val F (wn rfl) rfl rfl (.slice A_54 b.length c_54) (ex_move _ rfl _ (F.e rfl)) ?_; clear F a; intro a F
   refine list_val F (wn rfl) rfl rfl (.pointer (some ⟨g7, 2, none⟩)) (ex_fa _ _ _ rfl _ (F.e rfl) 2 ec_fa_58_2_2 ⟨g7, 2, none⟩ rfl) ?_; clear F a; intro a F
   refine list_val F (wn rfl) rfl rfl (.slice B b.length c) (ex_load _ _ rfl _ (F.e rfl) _ (lv1 ec_one_23 (M.cell (i := 0) rfl (j := 2) rfl))) ?_; clear F a; intro a F
   refine list_do (wn rfl) (fun K hK => ?_)
   refine ow_call rfl rfl F 16 #[.slice A_54 b.length c_54, .slice B b.length c] (ex_call 16 _ _ rfl rfl ec_ent_16 _ (map2 (F.e rfl) (F.e rfl))) (intact_any b b A_54 B b.length c_54 b.length c (by omega) _ rfl (R_.rb (i := 0) rfl) hcf54 (hrb.below M.bel)) (fun e u hR => ?_)
   obtain ⟨he, hb⟩ := hR
   rw [decide_eq_true rfl] at he
   refine ⟨.bool true, he, ?_⟩; clear he F a; intro a F
   refine hK _ _ ?_
   clear hK K
   replace R_ := R_.below hb
   replace Z_ := Z_.below hb
   replace hch59 := hch59
   replace hwr59 := hwr59
   replace hap59 := hap59
   replace M := M.below hb; clear hb; try clear v
   refine list_val F (wn rfl) rfl rfl (.bool false) (ex_not _ _ rfl _ (F.e rfl) _ rfl) ?_; clear F a; intro a F
   refine wpList_nil ?_
   replace F : Fr 139 a [(0, .slice (some ad) n cl), (2, .bool false), (3, .pointer (some ⟨g3, 0, none⟩)), (4, .pointer (some ⟨g4, 0, none⟩)), (5, .int .i64 (lf - (b.length : Int))), (6, .int .i64 ((i : Nat) : Int)), (7, .pointer (some ⟨g7, 0, none⟩)), (8, .int .i64 ((k : Nat) : Int)), (9, .slice A_54 b.length c_54), (17, .bool true), (30, .bool false), (32, .int .i64 dd), (33, .bool false), (40, .bool true), (46, .bool false), (64, .bool false)] := F.keep ⟨rfl, rfl, rfl, rfl, rfl, rfl, rfl, rfl, rfl, rfl, rfl, rfl, rfl, rfl, rfl, rfl, trivial⟩
   refine then_n ?_
   refine wp_cond_false (F.e rfl) ?_
   refine wp_skip ?_
   refine then_n ?_
   refine wp_seq ?_
   refine wp_region_lit ?_
   refine list_val F (wn rfl) rfl rfl (.slice A_54 b.length c_54) (ex_move _ rfl _ (F.e rfl)) ?_; clear F a; intro a F
   refine list_do (wn rfl) (fun K hK => ?_)
   refine ow_call rfl rfl F 34 #[.slice A_54 b.length c_54] (ex_call 34 _ _ rfl rfl ec_ent_34 _ (map1 (F.e rfl))) (over_any (b ++ mks 70) A_54 (b.length + 70) c_54 b.length c_54 w.heap.size _ M.bel.size (R_.own 0 _ _ rfl) (by omega)) (fun e v hR => ?_)
   obtain ⟨he, hgr, O_n⟩ := hR
   refine ⟨.tuple #[], he, ?_⟩; clear he F a; intro a F
   refine hK _ _ ?_
   clear hK K
   have M1 := M.grownB (R_.own 0 _ _ rfl) rfl hgr
   have Z1 := Z_.row (R_.own 0 _ _ rfl) hgr
   have R1 := R_.app (i := 0) rfl hgr O_n (.inl rfl)
   replace M := M1; replace R_ := R1; replace Z_ := Z1; clear M1 R1 Z1 O_n hgr; try clear u
   replace R_ := Rs.dropt (t := [_]) R_
   refine wpList_nil ?_
   replace F : Fr 139 a [(0, .slice (some ad) n cl), (2, .bool false), (3, .pointer (some ⟨g3, 0, none⟩)), (4, .pointer (some ⟨g4, 0, none⟩)), (5, .int .i64 (lf - (b.length : Int))), (6, .int .i64 ((i : Nat) : Int)), (7, .pointer (some ⟨g7, 0, none⟩)), (8, .int .i64 ((k : Nat) : Int)), (9, .slice A_54 b.length c_54), (17, .bool true), (30, .bool false), (32, .int .i64 dd), (33, .bool false), (40, .bool true), (46, .bool false), (64, .bool false)] := F.keep ⟨rfl, rfl, rfl, rfl, rfl, rfl, rfl, rfl, rfl, rfl, rfl, rfl, rfl, rfl, rfl, rfl, trivial⟩
   refine then_n ?_
   refine wp_only (fun ar wr => ∃ (hs73 : List Hz), ∃ (h73 : Hz), Fr 139 ar [(0, .slice (some ad) n cl), (2, .bool false), (3, .pointer (some ⟨g3, 0, none⟩)), (4, .pointer (some ⟨g4, 0, none⟩)), (5, .int .i64 (lf - (b.length : Int))), (6, .int .i64 ((i : Nat) : Int)), (7, .pointer (some ⟨g7, 0, none⟩)), (8, .int .i64 ((k : Nat) : Int)), (9, .slice A_54 b.length c_54), (17, .bool true), (30, .bool false), (32, .int .i64 dd), (33, .bool false), (40, .bool true), (46, .bool false), (64, .bool false)] ∧ Mm w wr [⟨g7, #[.int .i64 dd, .int .i64 on_, .slice B b.length c], 58⟩, ⟨g4, (acs hs73).toArray, 56⟩, ⟨g3, (pcs hs73).toArray, 55⟩] ∧ Rs w wr ([] ++ famR hs73) ∧ Fam w wr hs73 ∧ Chg hs hs59 k h59 ∧ h59.wr = x.wr ++ b ∧ h59.ap = x.ap ∧ Chg hs59 hs73 k h73 ∧ h73.wr = h59.wr ∧ h73.ap = h59.ap ++ b) ?_ ?_
   ·
    refine region_anyM ec_follows_mixedOrders M [⟨g7, #[.int .i64 dd, .int .i64 on_, .slice B b.length c], 58⟩] (fun w' M => (by refine M.pick' [0] _ ?_ (by decide); exact ⟨rfl, trivial⟩)) ?_; clear M; intro wD M hb
    replace R_ := R_.below hb
    replace Z_ := Z_.below hb
    replace hch59 := hch59
    replace hwr59 := hwr59
    replace hap59 := hap59
    clear hb; try clear v
    have hS : Mm w wD [⟨g7, #[.int .i64 dd, .int .i64 on_, .slice B b.length c], 58⟩] := (by refine M.pick' [0] _ ?_ (by decide); exact ⟨rfl, trivial⟩)
    refine any_val F 0 rfl (by kernel_rfl) (wn rfl) rfl rfl (.int .i64 ((k : Nat) : Int)) (fun w' hS' => ex_move _ rfl _ (F.e rfl)) hS ?_; clear F a; intro a F
    refine any_val F 1 rfl (by kernel_rfl) (wn rfl) rfl rfl (.int .i64 ((k : Nat) : Int)) (fun w' hS' => ex_move _ rfl _ (F.e rfl)) hS ?_; clear F a; intro a F
    refine any_val F 2 rfl (by kernel_rfl) (wn rfl) rfl rfl (.pointer (some ⟨g4, k, none⟩)) (fun w' hS' => ex_ixa _ _ _ rfl 2 ec_ar_56_2 ⟨g4, 0, none⟩ (F.e rfl) .i64 _ (F.e rfl) k rfl (by omega) ⟨g4, k, none⟩ ((addr_add _ _ _).trans (by rw [Nat.zero_add]))) hS ?_; clear F a; intro a F
    refine any_val F 4 rfl (by kernel_rfl) (wn rfl) rfl rfl (.pointer (some ⟨g7, 2, none⟩)) (fun w' hS' => ex_fa _ _ _ rfl _ (F.e rfl) 2 ec_fa_58_2_2 ⟨g7, 2, none⟩ rfl) hS ?_; clear F a; intro a F
    refine any_val F 5 rfl (by kernel_rfl) (wn rfl) rfl rfl (.slice B b.length c) (fun w' hS' => ex_load _ _ rfl _ (F.e rfl) _ (lv1 ec_one_23 (hS'.cell (i := 0) rfl (j := 2) rfl))) hS ?_; clear F a; intro a F
    refine any_ready [3] (by kernel_rfl) (by simp) ?_
    refine ready_do rfl (wn rfl) (fun K hK => ?_) AllReadyH.nil
    refine ow_val F rfl rfl (.slice h59.B h59.ap.length h59.c) (ex_load _ _ rfl _ (F.e rfl) _ (lv1 ec_one_23 (M.cell (i := 1) rfl (j := k) (arr_get (acs_get hch59.at_))))) ?_; clear F a; intro a F
    replace hS : Mm w wD [⟨g7, #[.int .i64 dd, .int .i64 on_, .slice B b.length c], 58⟩] := (by refine M.pick' [0] _ ?_ (by decide); exact ⟨rfl, trivial⟩)
    refine hK _ _ hS ?_
    clear hK K
    refine any_ready [6] (by kernel_rfl) (by simp) ?_
    refine ready_do rfl (wn rfl) (fun K hK => ?_) AllReadyH.nil
    refine ow_appF (t := []) F M R_ Z_ rfl rfl rfl rfl _ _ rfl k h59 hch59.at_ (F.e rfl) B b.length c b (F.e rfl) (hrb.below M.bel) (by rw [hap59]; omega) ?_
    clear F M R_ Z_; intro a hs73 h73 v F M R_ Z_ hch73 hwr73 hap73 hp73 ha73
    replace hS : Mm w v [⟨g7, #[.int .i64 dd, .int .i64 on_, .slice B b.length c], 58⟩] := (by refine M.pick' [0] _ ?_ (by decide); exact ⟨rfl, trivial⟩)
    refine hK _ _ hS ?_
    clear hK K
    try clear wD
    refine any_val F 7 rfl (by kernel_rfl) (wn rfl) rfl rfl (.pointer (some ⟨g4, k, none⟩)) (fun w' hS' => ex_ixa _ _ _ rfl 2 ec_ar_56_2 ⟨g4, 0, none⟩ (F.e rfl) .i64 _ (F.e rfl) k rfl (by omega) ⟨g4, k, none⟩ ((addr_add _ _ _).trans (by rw [Nat.zero_add]))) hS ?_; clear F a; intro a F
    refine any_ready [8] (by kernel_rfl) (by simp) ?_
    refine ready_do rfl (wn rfl) (fun K hK => ?_) AllReadyH.nil
    refine ow_store F M rfl 23 _ _ rfl 1 g4 _ _ rfl (k) (F.e rfl) _ (F.e rfl) [.slice h73.B h73.ap.length h73.c] rfl ec_info_23_map_size_some_1 (by rw [List.size_toArray, show (acs hs59).length = 2 by rw [acs_len, hch59.len, hln]]; simp; omega) (by simp [Value.oneCell', Hz.al]) (acs hs73).toArray (congrArg List.toArray (acs_put ha73 (by rw [acs_len, hch59.len]; omega))) ?_
    clear F a; have Mo := M; clear M; intro a u F M hgr
    replace hS : Mm w u [⟨g7, #[.int .i64 dd, .int .i64 on_, .slice B b.length c], 58⟩] := (by refine M.pick' [0] _ ?_ (by decide); exact ⟨rfl, trivial⟩)
    refine hK _ _ hS ?_
    clear hK K
    replace R_ := R_.box (Mo.blk 1 _ rfl) (by show 5 ≠ 56; decide) hgr
    replace Z_ := Z_.other (Mo.blk 1 _ rfl) (by show 82 ≠ 56; decide) hgr
    replace hch59 := hch59
    replace hwr59 := hwr59
    replace hap59 := hap59
    replace hch73 := hch73
    replace hwr73 := hwr73
    replace hap73 := hap73
    clear Mo hgr; try clear v
    replace M : Mm w u [⟨g7, #[.int .i64 dd, .int .i64 on_, .slice B b.length c], 58⟩, ⟨g4, (acs hs73).toArray, 56⟩, ⟨g3, (pcs hs59).toArray, 55⟩] := M
    rw [← hp73] at M
    replace M : Mm w u [⟨g7, #[.int .i64 dd, .int .i64 on_, .slice B b.length c], 58⟩, ⟨g4, (acs hs73).toArray, 56⟩, ⟨g3, (pcs hs73).toArray, 55⟩] := M
    refine any_done (by kernel_rfl) ?_
    exact ⟨hs73, h73, F.keep ⟨rfl, rfl, rfl, rfl, rfl, rfl, rfl, rfl, rfl, rfl, rfl, rfl, rfl, rfl, rfl, rfl, trivial⟩, (by refine M.pick' [0, 1, 2] _ ?_ (by decide); exact ⟨rfl, rfl, rfl, trivial⟩), R_, Z_, hch59, hwr59, hap59, hch73, hwr73, hap73⟩
   clear F M a R_ Z_ hch59 hwr59 hap59
   intro a u hR; obtain ⟨hs73, h73, F, M, R_, Z_, hch59, hwr59, hap59, hch73, hwr73, hap73⟩ := hR; try clear v
   refine in_n ?_
   refine in_n ?_
   refine then_n ?_
   refine wp_region_lit ?_
   refine list_val F (wn rfl) rfl rfl (.int .i64 ((i : Nat) : Int)) (ex_move _ rfl _ (F.e rfl)) ?_; clear F a; intro a F
   refine list_val F (wn rfl) rfl rfl (.int .i64 ((i + 1 : Nat) : Int)) (ex_bin .add _ _ _ _ rfl .i64 _ _ (F.e rfl) rfl _ (b_add ((w_i64 (by omega) (by omega)).trans (by omega)))) ?_; clear F a; intro a F
   refine list_val F (wn rfl) rfl rfl (.int .i64 ((i + 1 : Nat) : Int)) (ex_assign _ rfl _ (F.e rfl)) ?_; clear F a; intro a F
   refine wpList_nil ?_
   replace F : Fr 139 a [(0, .slice (some ad) n cl), (2, .bool false), (3, .pointer (some ⟨g3, 0, none⟩)), (4, .pointer (some ⟨g4, 0, none⟩)), (5, .int .i64 (lf - (b.length : Int))), (6, .int .i64 ((i + 1 : Nat) : Int)), (7, .pointer (some ⟨g7, 0, none⟩)), (8, .int .i64 ((k : Nat) : Int)), (9, .slice A_54 b.length c_54), (17, .bool true), (30, .bool false), (32, .int .i64 dd), (33, .bool false), (40, .bool true), (46, .bool false), (64, .bool false)] := F.keep ⟨rfl, rfl, rfl, rfl, rfl, rfl, rfl, rfl, rfl, rfl, rfl, rfl, rfl, rfl, rfl, rfl, trivial⟩
   refine then_n ?_
   exact ⟨n - (i + 1), by omega, (i + 1), hs73, (lf - (b.length : Int)), F.keep ⟨rfl, rfl, rfl, rfl, rfl, rfl, trivial⟩, (by refine M.pick' [1, 2] _ ?_ (by decide); exact ⟨rfl, rfl, trivial⟩), R_, Z_, (by omega), (by rw [hch73.len, hch59.len, hln]), (by omega), (by omega), (hag.step hx hch59 hch73 hwr59 hwr73 hap59 hap73), (by omega)⟩
  by_cases hd3 : dd = 3
  ·
   refine wp_region_lit ?_
   refine list_val F (wn rfl) rfl rfl (.bool false) (ex_bin .eql _ _ _ _ rfl .i64 _ _ (F.e rfl) rfl _ (b_eql (by simp [hd]))) ?_; clear F a; intro a F
   refine list_val F (wn rfl) rfl rfl (.bool false) (ex_assign _ rfl _ (F.e rfl)) ?_; clear F a; intro a F
   refine wpList_nil ?_
   replace F : Fr 139 a [(0, .slice (some ad) n cl), (2, .bool false), (3, .pointer (some ⟨g3, 0, none⟩)), (4, .pointer (some ⟨g4, 0, none⟩)), (5, .int .i64 lf), (6, .int .i64 ((i : Nat) : Int)), (7, .pointer (some ⟨g7, 0, none⟩)), (8, .int .i64 ((k : Nat) : Int)), (17, .bool true), (30, .bool false), (32, .int .i64 dd), (33, .bool false)] := F.keep ⟨rfl, rfl, rfl, rfl, rfl, rfl, rfl, rfl, rfl, rfl, rfl, rfl, trivial⟩
   refine then_n ?_
   refine wp_cond_false (F.e rfl) ?_
   refine wp_seq ?_
   refine wp_region_lit ?_
   refine list_val F (wn rfl) rfl rfl (.bool false) (ex_bin .eql _ _ _ _ rfl .i64 _ _ (F.e rfl) rfl _ (b_eql (by simp [hd2]))) ?_; clear F a; intro a F
   refine list_val F (wn rfl) rfl rfl (.bool false) (ex_assign _ rfl _ (F.e rfl)) ?_; clear F a; intro a F
   refine wpList_nil ?_
   replace F : Fr 139 a [(0, .slice (some ad) n cl), (2, .bool false), (3, .pointer (some ⟨g3, 0, none⟩)), (4, .pointer (some ⟨g4, 0, none⟩)), (5, .int .i64 lf), (6, .int .i64 ((i : Nat) : Int)), (7, .pointer (some ⟨g7, 0, none⟩)), (8, .int .i64 ((k : Nat) : Int)), (17, .bool true), (30, .bool false), (32, .int .i64 dd), (33, .bool false), (40, .bool false)] := F.keep ⟨rfl, rfl, rfl, rfl, rfl, rfl, rfl, rfl, rfl, rfl, rfl, rfl, rfl, trivial⟩
   refine then_n ?_
   refine wp_cond_false (F.e rfl) ?_
   refine wp_seq ?_
   refine wp_region_lit ?_
   refine list_val F (wn rfl) rfl rfl (.bool true) (ex_bin .eql _ _ _ _ rfl .i64 _ _ (F.e rfl) rfl _ (b_eql (by rw [hd3]; rfl))) ?_; clear F a; intro a F
   refine list_val F (wn rfl) rfl rfl (.bool true) (ex_assign _ rfl _ (F.e rfl)) ?_; clear F a; intro a F
   refine wpList_nil ?_
   replace F : Fr 139 a [(0, .slice (some ad) n cl), (2, .bool false), (3, .pointer (some ⟨g3, 0, none⟩)), (4, .pointer (some ⟨g4, 0, none⟩)), (5, .int .i64 lf), (6, .int .i64 ((i : Nat) : Int)), (7, .pointer (some ⟨g7, 0, none⟩)), (8, .int .i64 ((k : Nat) : Int)), (17, .bool true), (30, .bool false), (32, .int .i64 dd), (33, .bool false), (40, .bool false), (75, .bool true)] := F.keep ⟨rfl, rfl, rfl, rfl, rfl, rfl, rfl, rfl, rfl, rfl, rfl, rfl, rfl, rfl, trivial⟩
   refine then_n ?_
   refine wp_cond_true (F.e rfl) ?_
   refine wp_seq ?_
   refine wp_seq ?_
   by_cases hneg : lf < 0
   ·
    refine wp_region_lit ?_
    refine list_val F (wn rfl) rfl rfl (.int .i64 lf) (ex_move _ rfl _ (F.e rfl)) ?_; clear F a; intro a F
    refine list_val F (wn rfl) rfl rfl (.bool true) (ex_bin .lss _ _ _ _ rfl .i64 _ _ (F.e rfl) rfl _ (b_lss (decide_eq_true (by omega)))) ?_; clear F a; intro a F
    refine wpList_nil ?_
    replace F : Fr 139 a [(0, .slice (some ad) n cl), (2, .bool false), (3, .pointer (some ⟨g3, 0, none⟩)), (4, .pointer (some ⟨g4, 0, none⟩)), (5, .int .i64 lf), (6, .int .i64 ((i : Nat) : Int)), (7, .pointer (some ⟨g7, 0, none⟩)), (8, .int .i64 ((k : Nat) : Int)), (17, .bool true), (30, .bool false), (32, .int .i64 dd), (33, .bool false), (40, .bool false), (75, .bool true), (78, .bool true)] := F.keep ⟨rfl, rfl, rfl, rfl, rfl, rfl, rfl, rfl, rfl, rfl, rfl, rfl, rfl, rfl, rfl, trivial⟩
    refine then_n ?_
    refine wp_cond_true (F.e rfl) ?_
    refine wp_exit ?_
    refine then_x ?_
    refine in_hit ?_
    refine in_n ?_
    refine then_n ?_
    refine wp_region_lit ?_
    refine list_val F (wn rfl) rfl rfl (.int .i64 ((i : Nat) : Int)) (ex_move _ rfl _ (F.e rfl)) ?_; clear F a; intro a F
    refine list_val F (wn rfl) rfl rfl (.int .i64 ((i + 1 : Nat) : Int)) (ex_bin .add _ _ _ _ rfl .i64 _ _ (F.e rfl) rfl _ (b_add ((w_i64 (by omega) (by omega)).trans (by omega)))) ?_; clear F a; intro a F
    refine list_val F (wn rfl) rfl rfl (.int .i64 ((i + 1 : Nat) : Int)) (ex_assign _ rfl _ (F.e rfl)) ?_; clear F a; intro a F
    refine wpList_nil ?_
    replace F : Fr 139 a [(0, .slice (some ad) n cl), (2, .bool false), (3, .pointer (some ⟨g3, 0, none⟩)), (4, .pointer (some ⟨g4, 0, none⟩)), (5, .int .i64 lf), (6, .int .i64 ((i + 1 : Nat) : Int)), (7, .pointer (some ⟨g7, 0, none⟩)), (8, .int .i64 ((k : Nat) : Int)), (17, .bool true), (30, .bool false), (32, .int .i64 dd), (33, .bool false), (40, .bool false), (75, .bool true), (78, .bool true)] := F.keep ⟨rfl, rfl, rfl, rfl, rfl, rfl, rfl, rfl, rfl, rfl, rfl, rfl, rfl, rfl, rfl, trivial⟩
    refine then_n ?_
    exact ⟨n - (i + 1), by omega, (i + 1), hs, lf, F.keep ⟨rfl, rfl, rfl, rfl, rfl, rfl, trivial⟩, (by refine M.pick' [1, 2] _ ?_ (by decide); exact ⟨rfl, rfl, trivial⟩), R_, Z_, (by omega), hln, hlf, hlf2, hag, (by omega)⟩
   refine wp_region_lit ?_
   refine list_val F (wn rfl) rfl rfl (.int .i64 lf) (ex_move _ rfl _ (F.e rfl)) ?_; clear F a; intro a F
   refine list_val F (wn rfl) rfl rfl (.bool false) (ex_bin .lss _ _ _ _ rfl .i64 _ _ (F.e rfl) rfl _ (b_lss (decide_eq_false (by omega)))) ?_; clear F a; intro a F
   refine wpList_nil ?_
   replace F : Fr 139 a [(0, .slice (some ad) n cl), (2, .bool false), (3, .pointer (some ⟨g3, 0, none⟩)), (4, .pointer (some ⟨g4, 0, none⟩)), (5, .int .i64 lf), (6, .int .i64 ((i : Nat) : Int)), (7, .pointer (some ⟨g7, 0, none⟩)), (8, .int .i64 ((k : Nat) : Int)), (17, .bool true), (30, .bool false), (32, .int .i64 dd), (33, .bool false), (40, .bool false), (75, .bool true), (78, .bool false)] := F.keep ⟨rfl, rfl, rfl, rfl, rfl, rfl, rfl, rfl, rfl, rfl, rfl, rfl, rfl, rfl, rfl, trivial⟩
   refine then_n ?_
   refine wp_cond_false (F.e rfl) ?_
   refine wp_skip ?_
   refine then_n ?_
   refine wp_seq ?_
   refine wp_seq ?_
   refine wp_only (fun ar wr => Fr 139 ar [(0, .slice (some ad) n cl), (2, .bool false), (3, .pointer (some ⟨g3, 0, none⟩)), (4, .pointer (some ⟨g4, 0, none⟩)), (5, .int .i64 lf), (6, .int .i64 ((i : Nat) : Int)), (7, .pointer (some ⟨g7, 0, none⟩)), (8, .int .i64 ((k : Nat) : Int)), (17, .bool true), (30, .bool false), (32, .int .i64 dd), (33, .bool false), (40, .bool false), (75, .bool true), (78, .bool false), (99, .bool false)] ∧ Mm w wr [⟨g7, #[.int .i64 dd, .int .i64 on_, .slice B b.length c], 58⟩, ⟨g4, (acs hs).toArray, 56⟩, ⟨g3, (pcs hs).toArray, 55⟩] ∧ Rs w wr ([] ++ famR hs) ∧ Fam w wr hs) ?_ ?_
   ·
    refine region_anyM ec_follows_mixedOrders M [⟨g3, (pcs hs).toArray, 55⟩, ⟨g4, (acs hs).toArray, 56⟩] (fun w' M => (by refine M.pick' [2, 1] _ ?_ (by decide); exact ⟨rfl, rfl, trivial⟩)) ?_; clear M; intro wD M hb
    replace R_ := R_.below hb
    replace Z_ := Z_.below hb
    clear hb; try clear v
    have hS : Mm w wD [⟨g3, (pcs hs).toArray, 55⟩, ⟨g4, (acs hs).toArray, 56⟩] := (by refine M.pick' [2, 1] _ ?_ (by decide); exact ⟨rfl, rfl, trivial⟩)
    refine any_val F 0 rfl (by kernel_rfl) (wn rfl) rfl rfl (.int .i64 ((k : Nat) : Int)) (fun w' hS' => ex_move _ rfl _ (F.e rfl)) hS ?_; clear F a; intro a F
    refine any_val F 1 rfl (by kernel_rfl) (wn rfl) rfl rfl (.pointer (some ⟨g3, k, none⟩)) (fun w' hS' => ex_ixa _ _ _ rfl 2 ec_ar_55_2 ⟨g3, 0, none⟩ (F.e rfl) .i64 _ (F.e rfl) k rfl (by omega) ⟨g3, k, none⟩ ((addr_add _ _ _).trans (by rw [Nat.zero_add]))) hS ?_; clear F a; intro a F
    refine any_val F 2 rfl (by kernel_rfl) (wn rfl) rfl rfl (.pointer (some ⟨x.g, 0, none⟩)) (fun w' hS' => ex_load _ _ rfl _ (F.e rfl) _ (lv1 ec_one_53 (hS'.cell (i := 0) rfl (j := k) (arr_get (pcs_get hx))))) hS ?_; clear F a; intro a F
    refine any_val F 4 rfl (by kernel_rfl) (wn rfl) rfl rfl (.int .i64 ((k : Nat) : Int)) (fun w' hS' => ex_move _ rfl _ (F.e rfl)) hS ?_; clear F a; intro a F
    refine any_val F 5 rfl (by kernel_rfl) (wn rfl) rfl rfl (.pointer (some ⟨g4, k, none⟩)) (fun w' hS' => ex_ixa _ _ _ rfl 2 ec_ar_56_2 ⟨g4, 0, none⟩ (F.e rfl) .i64 _ (F.e rfl) k rfl (by omega) ⟨g4, k, none⟩ ((addr_add _ _ _).trans (by rw [Nat.zero_add]))) hS ?_; clear F a; intro a F
    refine any_val F 6 rfl (by kernel_rfl) (wn rfl) rfl rfl (.slice x.B x.ap.length x.c) (fun w' hS' => ex_load _ _ rfl _ (F.e rfl) _ (lv1 ec_one_23 (hS'.cell (i := 1) rfl (j := k) (arr_get (acs_get hx))))) hS ?_; clear F a; intro a F
    refine any_ready [3] (by kernel_rfl) (by simp) ?_
    refine ready_do rfl (wn rfl) (fun K hK => ?_) AllReadyH.nil
    refine ow_call rfl rfl F 35 #[.pointer (some ⟨x.g, 0, none⟩)] (ex_call 35 _ _ rfl rfl ec_ent_35 _ (map1 (F.e rfl))) (sum_fam (t := []) R_ Z_ hx (hKt.below M.bel)) (fun e v hR => ?_)
    obtain ⟨he, hb⟩ := hR
    refine ⟨.agg ((bcs (sha x.wr)).toArray), he, ?_⟩; clear he F a; intro a F
    replace hS : Mm w v [⟨g3, (pcs hs).toArray, 55⟩, ⟨g4, (acs hs).toArray, 56⟩] := (by refine (M.below hb).pick' [2, 1] _ ?_ (by decide); exact ⟨rfl, rfl, trivial⟩)
    refine hK _ _ hS ?_
    clear hK K
    replace R_ := R_.below hb
    replace Z_ := Z_.below hb
    replace M := M.below hb; clear hb; try clear wD
    refine any_ready [7] (by kernel_rfl) (by simp) ?_
    refine ready_do rfl (wn rfl) (fun K hK => ?_) AllReadyH.nil
    refine ow_call rfl rfl F 13 #[.slice x.B x.ap.length x.c] (ex_call 13 _ _ rfl rfl ec_ent_13 _ (map1 (F.e rfl))) (refSum_any x.ap _ _ _ (by omega) _ (fam_rb (t := []) R_ hx)) (fun e u hR => ?_)
    obtain ⟨he, hb⟩ := hR
    refine ⟨.agg ((bcs (sha x.ap)).toArray), he, ?_⟩; clear he F a; intro a F
    replace hS : Mm w u [⟨g3, (pcs hs).toArray, 55⟩, ⟨g4, (acs hs).toArray, 56⟩] := (by refine (M.below hb).pick' [2, 1] _ ?_ (by decide); exact ⟨rfl, rfl, trivial⟩)
    refine hK _ _ hS ?_
    clear hK K
    replace R_ := R_.below hb
    replace Z_ := Z_.below hb
    replace M := M.below hb; clear hb; try clear v
    refine any_val F 8 rfl (by kernel_rfl) (wn rfl) rfl rfl (.bool false) (fun w' hS' => ex_neqA 24 _ _ _ rfl 32 ec_ab_24_32 (sha x.wr) (sha x.ap) (sha_len _) (sha_len _) (F.e rfl) (F.e rfl) false (by rw [hwx]; exact not_self _)) hS ?_; clear F a; intro a F
    refine any_val F 9 rfl (by kernel_rfl) (wn rfl) rfl rfl (.bool false) (fun w' hS' => ex_move _ rfl _ (F.e rfl)) hS ?_; clear F a; intro a F
    refine any_val F 10 rfl (by kernel_rfl) (F.wants 88 false rfl (by kernel_rfl) rfl true rfl) rfl rfl (.int .i64 ((k : Nat) : Int)) (fun w' hS' => ex_move _ rfl _ (F.e rfl)) hS ?_; clear F a; intro a F
    refine any_val F 11 rfl (by kernel_rfl) (F.wants 88 false rfl (by kernel_rfl) rfl true rfl) rfl rfl (.pointer (some ⟨g3, k, none⟩)) (fun w' hS' => ex_ixa _ _ _ rfl 2 ec_ar_55_2 ⟨g3, 0, none⟩ (F.e rfl) .i64 _ (F.e rfl) k rfl (by omega) ⟨g3, k, none⟩ ((addr_add _ _ _).trans (by rw [Nat.zero_add]))) hS ?_; clear F a; intro a F
    refine any_val F 12 rfl (by kernel_rfl) (F.wants 88 false rfl (by kernel_rfl) rfl true rfl) rfl rfl (.pointer (some ⟨x.g, 0, none⟩)) (fun w' hS' => ex_load _ _ rfl _ (F.e rfl) _ (lv1 ec_one_53 (hS'.cell (i := 0) rfl (j := k) (arr_get (pcs_get hx))))) hS ?_; clear F a; intro a F
    refine any_val F 14 rfl (by kernel_rfl) (F.wants 88 false rfl (by kernel_rfl) rfl true rfl) rfl rfl (.int .i64 ((k : Nat) : Int)) (fun w' hS' => ex_move _ rfl _ (F.e rfl)) hS ?_; clear F a; intro a F
    refine any_val F 15 rfl (by kernel_rfl) (F.wants 88 false rfl (by kernel_rfl) rfl true rfl) rfl rfl (.pointer (some ⟨g4, k, none⟩)) (fun w' hS' => ex_ixa _ _ _ rfl 2 ec_ar_56_2 ⟨g4, 0, none⟩ (F.e rfl) .i64 _ (F.e rfl) k rfl (by omega) ⟨g4, k, none⟩ ((addr_add _ _ _).trans (by rw [Nat.zero_add]))) hS ?_; clear F a; intro a F
    refine any_val F 16 rfl (by kernel_rfl) (F.wants 88 false rfl (by kernel_rfl) rfl true rfl) rfl rfl (.slice x.B x.ap.length x.c) (fun w' hS' => ex_load _ _ rfl _ (F.e rfl) _ (lv1 ec_one_23 (hS'.cell (i := 1) rfl (j := k) (arr_get (acs_get hx))))) hS ?_; clear F a; intro a F
    refine any_val F 17 rfl (by kernel_rfl) (F.wants 88 false rfl (by kernel_rfl) rfl true rfl) rfl rfl (.int .i64 ((x.ap.length : Nat) : Int)) (fun w' hS' => ex_len _ _ rfl 1 ec_sl_23_1 _ _ _ (F.e rfl)) hS ?_; clear F a; intro a F
    refine any_val F 18 rfl (by kernel_rfl) (F.wants 88 false rfl (by kernel_rfl) rfl true rfl) rfl rfl (.int .u64 ((BitVec.ofNat 64 x.wr.length).toNat : Int)) (fun w' hS' => ex_conv _ _ _ rfl _ .u64 ec_cv_3_62_u64 _ (F.e rfl) _ ((w64 _).trans (by rw [hwx]))) hS ?_; clear F a; intro a F
    refine any_ready [13] (by kernel_rfl) (by simp) ?_
    refine ready_do rfl (F.wants 88 false rfl (by kernel_rfl) rfl true rfl) (fun K hK => ?_) AllReadyH.nil
    refine ow_call rfl rfl F 36 #[.pointer (some ⟨x.g, 0, none⟩)] (ex_call 36 _ _ rfl rfl ec_ent_36 _ (map1 (F.e rfl))) (len_fam Z_ hx) (fun e v hR => ?_)
    obtain ⟨he, hb⟩ := hR
    refine ⟨.int .u64 ((BitVec.ofNat 64 x.wr.length).toNat : Int), he, ?_⟩; clear he F a; intro a F
    replace hS : Mm w v [⟨g3, (pcs hs).toArray, 55⟩, ⟨g4, (acs hs).toArray, 56⟩] := (by refine (M.below hb).pick' [2, 1] _ ?_ (by decide); exact ⟨rfl, rfl, trivial⟩)
    refine hK _ _ hS ?_
    clear hK K
    replace R_ := R_.below hb
    replace Z_ := Z_.below hb
    replace M := M.below hb; clear hb; try clear u
    refine any_val F 19 rfl (by kernel_rfl) (F.wants 88 false rfl (by kernel_rfl) rfl true rfl) rfl rfl (.bool false) (fun w' hS' => ex_bin .neq _ _ _ _ rfl .u64 _ _ (F.e rfl) (F.e rfl) _ (b_neq (by simp))) hS ?_; clear F a; intro a F
    refine any_val F 20 rfl (by kernel_rfl) (wn rfl) rfl rfl (.bool false) (fun w' hS' => ex_pick_f _ _ _ rfl (F.e rfl) _ (F.e rfl)) hS ?_; clear F a; intro a F
    refine any_done (by kernel_rfl) ?_
    exact ⟨F.keep ⟨rfl, rfl, rfl, rfl, rfl, rfl, rfl, rfl, rfl, rfl, rfl, rfl, rfl, rfl, rfl, rfl, trivial⟩, (by refine M.pick' [0, 1, 2] _ ?_ (by decide); exact ⟨rfl, rfl, rfl, trivial⟩), R_, Z_⟩
   clear F M a R_ Z_
   intro a u hR; obtain ⟨F, M, R_, Z_⟩ := hR; try clear v
   refine then_n ?_
   refine wp_cond_false (F.e rfl) ?_
   refine wp_skip ?_
   refine then_n ?_
   refine wp_region_lit ?_
   refine list_val F (wn rfl) rfl rfl (.int .i64 lf) (ex_move _ rfl _ (F.e rfl)) ?_; clear F a; intro a F
   refine list_val F (wn rfl) rfl rfl (.int .i64 ((k : Nat) : Int)) (ex_move _ rfl _ (F.e rfl)) ?_; clear F a; intro a F
   refine list_val F (wn rfl) rfl rfl (.pointer (some ⟨g4, k, none⟩)) (ex_ixa _ _ _ rfl 2 ec_ar_56_2 ⟨g4, 0, none⟩ (F.e rfl) .i64 _ (F.e rfl) k rfl (by omega) ⟨g4, k, none⟩ ((addr_add _ _ _).trans (by rw [Nat.zero_add]))) ?_; clear F a; intro a F
   refine list_val F (wn rfl) rfl rfl (.slice x.B x.ap.length x.c) (ex_load _ _ rfl _ (F.e rfl) _ (lv1 ec_one_23 (M.cell (i := 1) rfl (j := k) (arr_get (acs_get hx))))) ?_; clear F a; intro a F
   refine list_val F (wn rfl) rfl rfl (.int .i64 ((x.ap.length : Nat) : Int)) (ex_len _ _ rfl 1 ec_sl_23_1 _ _ _ (F.e rfl)) ?_; clear F a; intro a F
   refine list_val F (wn rfl) rfl rfl (.int .i64 ((x.ap.length / 8 : Nat) : Int)) (ex_bin .quo _ _ _ _ rfl .i64 _ _ (F.e rfl) rfl _ (b_quo (by decide) (i_quo _ 8 (by omega)))) ?_; clear F a; intro a F
   refine list_val F (wn rfl) rfl rfl (.int .i64 (lf - ((x.ap.length / 8 : Nat) : Int))) (ex_bin .sub _ _ _ _ rfl .i64 _ _ (F.e rfl) (F.e rfl) _ (b_sub (w_i64 (by omega) (by omega)))) ?_; clear F a; intro a F
   refine list_val F (wn rfl) rfl rfl (.int .i64 (lf - ((x.ap.length / 8 : Nat) : Int))) (ex_assign _ rfl _ (F.e rfl)) ?_; clear F a; intro a F
   refine wpList_nil ?_
   replace F : Fr 139 a [(0, .slice (some ad) n cl), (2, .bool false), (3, .pointer (some ⟨g3, 0, none⟩)), (4, .pointer (some ⟨g4, 0, none⟩)), (5, .int .i64 (lf - ((x.ap.length / 8 : Nat) : Int))), (6, .int .i64 ((i : Nat) : Int)), (7, .pointer (some ⟨g7, 0, none⟩)), (8, .int .i64 ((k : Nat) : Int)), (17, .bool true), (30, .bool false), (32, .int .i64 dd), (33, .bool false), (40, .bool false), (75, .bool true), (78, .bool false), (99, .bool false)] := F.keep ⟨rfl, rfl, rfl, rfl, rfl, rfl, rfl, rfl, rfl, rfl, rfl, rfl, rfl, rfl, rfl, rfl, trivial⟩
   refine in_n ?_
   refine in_n ?_
   refine then_n ?_
   refine wp_region_lit ?_
   refine list_val F (wn rfl) rfl rfl (.int .i64 ((i : Nat) : Int)) (ex_move _ rfl _ (F.e rfl)) ?_; clear F a; intro a F
   refine list_val F (wn rfl) rfl rfl (.int .i64 ((i + 1 : Nat) : Int)) (ex_bin .add _ _ _ _ rfl .i64 _ _ (F.e rfl) rfl _ (b_add ((w_i64 (by omega) (by omega)).trans (by omega)))) ?_; clear F a; intro a F
   refine list_val F (wn rfl) rfl rfl (.int .i64 ((i + 1 : Nat) : Int)) (ex_assign _ rfl _ (F.e rfl)) ?_; clear F a; intro a F
   refine wpList_nil ?_
   replace F : Fr 139 a [(0, .slice (some ad) n cl), (2, .bool false), (3, .pointer (some ⟨g3, 0, none⟩)), (4, .pointer (some ⟨g4, 0, none⟩)), (5, .int .i64 (lf - ((x.ap.length / 8 : Nat) : Int))), (6, .int .i64 ((i + 1 : Nat) : Int)), (7, .pointer (some ⟨g7, 0, none⟩)), (8, .int .i64 ((k : Nat) : Int)), (17, .bool true), (30, .bool false), (32, .int .i64 dd), (33, .bool false), (40, .bool false), (75, .bool true), (78, .bool false), (99, .bool false)] := F.keep ⟨rfl, rfl, rfl, rfl, rfl, rfl, rfl, rfl, rfl, rfl, rfl, rfl, rfl, rfl, rfl, rfl, trivial⟩
   refine then_n ?_
   exact ⟨n - (i + 1), by omega, (i + 1), hs, (lf - ((x.ap.length / 8 : Nat) : Int)), F.keep ⟨rfl, rfl, rfl, rfl, rfl, rfl, trivial⟩, (by refine M.pick' [1, 2] _ ?_ (by decide); exact ⟨rfl, rfl, trivial⟩), R_, Z_, (by omega), hln, (by omega), (by omega), (hag.less (by omega)), (by omega)⟩
  refine wp_region_lit ?_
  refine list_val F (wn rfl) rfl rfl (.bool false) (ex_bin .eql _ _ _ _ rfl .i64 _ _ (F.e rfl) rfl _ (b_eql (by simp [hd]))) ?_; clear F a; intro a F
  refine list_val F (wn rfl) rfl rfl (.bool false) (ex_assign _ rfl _ (F.e rfl)) ?_; clear F a; intro a F
  refine wpList_nil ?_
  replace F : Fr 139 a [(0, .slice (some ad) n cl), (2, .bool false), (3, .pointer (some ⟨g3, 0, none⟩)), (4, .pointer (some ⟨g4, 0, none⟩)), (5, .int .i64 lf), (6, .int .i64 ((i : Nat) : Int)), (7, .pointer (some ⟨g7, 0, none⟩)), (8, .int .i64 ((k : Nat) : Int)), (17, .bool true), (30, .bool false), (32, .int .i64 dd), (33, .bool false)] := F.keep ⟨rfl, rfl, rfl, rfl, rfl, rfl, rfl, rfl, rfl, rfl, rfl, rfl, trivial⟩
  refine then_n ?_
  refine wp_cond_false (F.e rfl) ?_
  refine wp_seq ?_
  refine wp_region_lit ?_
  refine list_val F (wn rfl) rfl rfl (.bool false) (ex_bin .eql _ _ _ _ rfl .i64 _ _ (F.e rfl) rfl _ (b_eql (by simp [hd2]))) ?_; clear F a; intro a F
  refine list_val F (wn rfl) rfl rfl (.bool false) (ex_assign _ rfl _ (F.e rfl)) ?_; clear F a; intro a F
  refine wpList_nil ?_
  replace F : Fr 139 a [(0, .slice (some ad) n cl), (2, .bool false), (3, .pointer (some ⟨g3, 0, none⟩)), (4, .pointer (some ⟨g4, 0, none⟩)), (5, .int .i64 lf), (6, .int .i64 ((i : Nat) : Int)), (7, .pointer (some ⟨g7, 0, none⟩)), (8, .int .i64 ((k : Nat) : Int)), (17, .bool true), (30, .bool false), (32, .int .i64 dd), (33, .bool false), (40, .bool false)] := F.keep ⟨rfl, rfl, rfl, rfl, rfl, rfl, rfl, rfl, rfl, rfl, rfl, rfl, rfl, trivial⟩
  refine then_n ?_
  refine wp_cond_false (F.e rfl) ?_
  refine wp_seq ?_
  refine wp_region_lit ?_
  refine list_val F (wn rfl) rfl rfl (.bool false) (ex_bin .eql _ _ _ _ rfl .i64 _ _ (F.e rfl) rfl _ (b_eql (by simp [hd3]))) ?_; clear F a; intro a F
  refine list_val F (wn rfl) rfl rfl (.bool false) (ex_assign _ rfl _ (F.e rfl)) ?_; clear F a; intro a F
  refine wpList_nil ?_
  replace F : Fr 139 a [(0, .slice (some ad) n cl), (2, .bool false), (3, .pointer (some ⟨g3, 0, none⟩)), (4, .pointer (some ⟨g4, 0, none⟩)), (5, .int .i64 lf), (6, .int .i64 ((i : Nat) : Int)), (7, .pointer (some ⟨g7, 0, none⟩)), (8, .int .i64 ((k : Nat) : Int)), (17, .bool true), (30, .bool false), (32, .int .i64 dd), (33, .bool false), (40, .bool false), (75, .bool false)] := F.keep ⟨rfl, rfl, rfl, rfl, rfl, rfl, rfl, rfl, rfl, rfl, rfl, rfl, rfl, rfl, trivial⟩
  refine then_n ?_
  refine wp_cond_false (F.e rfl) ?_
  refine wp_skip ?_
  refine in_n ?_
  refine in_n ?_
  refine then_n ?_
  refine wp_region_lit ?_
  refine list_val F (wn rfl) rfl rfl (.int .i64 ((i : Nat) : Int)) (ex_move _ rfl _ (F.e rfl)) ?_; clear F a; intro a F
  refine list_val F (wn rfl) rfl rfl (.int .i64 ((i + 1 : Nat) : Int)) (ex_bin .add _ _ _ _ rfl .i64 _ _ (F.e rfl) rfl _ (b_add ((w_i64 (by omega) (by omega)).trans (by omega)))) ?_; clear F a; intro a F
  refine list_val F (wn rfl) rfl rfl (.int .i64 ((i + 1 : Nat) : Int)) (ex_assign _ rfl _ (F.e rfl)) ?_; clear F a; intro a F
  refine wpList_nil ?_
  replace F : Fr 139 a [(0, .slice (some ad) n cl), (2, .bool false), (3, .pointer (some ⟨g3, 0, none⟩)), (4, .pointer (some ⟨g4, 0, none⟩)), (5, .int .i64 lf), (6, .int .i64 ((i + 1 : Nat) : Int)), (7, .pointer (some ⟨g7, 0, none⟩)), (8, .int .i64 ((k : Nat) : Int)), (17, .bool true), (30, .bool false), (32, .int .i64 dd), (33, .bool false), (40, .bool false), (75, .bool false)] := F.keep ⟨rfl, rfl, rfl, rfl, rfl, rfl, rfl, rfl, rfl, rfl, rfl, rfl, rfl, rfl, trivial⟩
  refine then_n ?_
  exact ⟨n - (i + 1), by omega, (i + 1), hs, lf, F.keep ⟨rfl, rfl, rfl, rfl, rfl, rfl, trivial⟩, (by refine M.pick' [1, 2] _ ?_ (by decide); exact ⟨rfl, rfl, trivial⟩), R_, Z_, (by omega), hln, hlf, hlf2, hag, (by omega)⟩
 refine wp_seq ?_
 refine wp_seq ?_
 refine wp_region_lit ?_
 refine list_val F (wn rfl) rfl rfl (.int .i64 ((i : Nat) : Int)) (ex_move _ rfl _ (F.e rfl)) ?_; clear F a; intro a F
 refine list_val F (wn rfl) rfl rfl (.slice Ls n cl) (ex_move _ rfl _ (F.e rfl)) ?_; clear F a; intro a F
 refine list_val F (wn rfl) rfl rfl (.int .i64 ((n : Nat) : Int)) (ex_len _ _ rfl 3 ec_sl_52_3 _ _ _ (F.e rfl)) ?_; clear F a; intro a F
 refine list_val F (wn rfl) rfl rfl (.bool false) (ex_bin .lss _ _ _ _ rfl .i64 _ _ (F.e rfl) (F.e rfl) _ (b_lss (decide_eq_false (by omega)))) ?_; clear F a; intro a F
 refine wpList_nil ?_
 replace F : Fr 139 a [(0, .slice Ls n cl), (2, .bool false), (3, .pointer (some ⟨g3, 0, none⟩)), (4, .pointer (some ⟨g4, 0, none⟩)), (5, .int .i64 lf), (6, .int .i64 ((i : Nat) : Int)), (17, .bool false)] := F.keep ⟨rfl, rfl, rfl, rfl, rfl, rfl, rfl, trivial⟩
 refine then_n ?_
 refine wp_cond_false (F.e rfl) ?_
 refine wp_exit ?_
 refine then_x ?_
 refine then_x ?_
 refine in_hit ?_
 refine then_n ?_
 refine wp_seq ?_
 refine wp_seq ?_
 refine wp_region_lit ?_
 refine list_val F (wn rfl) rfl rfl (.int .i64 0) (ex_assign _ rfl _ rfl) ?_; clear F a; intro a F
 refine wpList_nil ?_
 replace F : Fr 139 a [(0, .slice Ls n cl), (2, .bool false), (3, .pointer (some ⟨g3, 0, none⟩)), (4, .pointer (some ⟨g4, 0, none⟩)), (5, .int .i64 lf), (6, .int .i64 ((i : Nat) : Int)), (10, .int .i64 0), (17, .bool false)] := F.keep ⟨rfl, rfl, rfl, rfl, rfl, rfl, rfl, rfl, trivial⟩
 refine then_n ?_
 refine wp_block ?_
 refine wp_loopN (fun mq ar wr => ∃ (j : Nat), Fr 139 ar [(0, .slice Ls n cl), (2, .bool false), (3, .pointer (some ⟨g3, 0, none⟩)), (4, .pointer (some ⟨g4, 0, none⟩)), (10, .int .i64 ((j : Nat) : Int)), (17, .bool false)] ∧ Mm w wr [⟨g4, (acs hs).toArray, 56⟩, ⟨g3, (pcs hs).toArray, 55⟩] ∧ Rs w wr ([] ++ famR hs) ∧ Fam w wr hs ∧ j ≤ 2 ∧ mq + j = 2) 2 ?_ ?_
 ·
  exact ⟨0, F.keep ⟨rfl, rfl, rfl, rfl, rfl, rfl, trivial⟩, (by refine M.pick' [0, 1] _ ?_ (by decide); exact ⟨rfl, rfl, trivial⟩), (by rw [List.nil_append]; exact R_), Z_, (Nat.zero_le _), (by omega)⟩
 clear F M a R_ Z_
 rintro mq a v ⟨j, F, M, R_, Z_, hj8, hq⟩; try clear u
 by_cases hj : j < 2
 ·
  refine wp_seq ?_
  refine wp_seq ?_
  refine wp_region_lit ?_
  refine list_val F (wn rfl) rfl rfl (.int .i64 ((j : Nat) : Int)) (ex_move _ rfl _ (F.e rfl)) ?_; clear F a; intro a F
  refine list_val F (wn rfl) rfl rfl (.bool true) (ex_bin .lss _ _ _ _ rfl .i64 _ _ (F.e rfl) rfl _ (b_lss (decide_eq_true (by omega)))) ?_; clear F a; intro a F
  refine wpList_nil ?_
  replace F : Fr 139 a [(0, .slice Ls n cl), (2, .bool false), (3, .pointer (some ⟨g3, 0, none⟩)), (4, .pointer (some ⟨g4, 0, none⟩)), (10, .int .i64 ((j : Nat) : Int)), (17, .bool false), (108, .bool true)] := F.keep ⟨rfl, rfl, rfl, rfl, rfl, rfl, rfl, trivial⟩
  refine then_n ?_
  refine wp_cond_true (F.e rfl) ?_
  refine wp_skip ?_
  refine then_n ?_
  refine wp_seq ?_
  refine wp_block ?_
  refine wp_seq ?_
  obtain ⟨z, hz⟩ : ∃ h, hs[j]? = some h := ⟨_, List.getElem?_eq_getElem (by omega)⟩
  have hzz := hag j z hz
  have hwz : z.wr = z.ap := hzz.1
  have hzl : (z.ap.length : Int) + lf ≤ 65536 := hzz.2
  refine wp_only (fun ar wr => Fr 139 ar [(0, .slice Ls n cl), (2, .bool false), (3, .pointer (some ⟨g3, 0, none⟩)), (4, .pointer (some ⟨g4, 0, none⟩)), (10, .int .i64 ((j : Nat) : Int)), (17, .bool false), (108, .bool true), (137, .bool false)] ∧ Mm w wr [⟨g4, (acs hs).toArray, 56⟩, ⟨g3, (pcs hs).toArray, 55⟩] ∧ Rs w wr ([] ++ famR hs) ∧ Fam w wr hs) ?_ ?_
  ·
   refine region_anyM ec_follows_mixedOrders M [⟨g3, (pcs hs).toArray, 55⟩, ⟨g4, (acs hs).toArray, 56⟩] (fun w' M => (by refine M.pick' [1, 0] _ ?_ (by decide); exact ⟨rfl, rfl, trivial⟩)) ?_; clear M; intro wD M hb
   replace R_ := R_.below hb
   replace Z_ := Z_.below hb
   clear hb; try clear v
   have hS : Mm w wD [⟨g3, (pcs hs).toArray, 55⟩, ⟨g4, (acs hs).toArray, 56⟩] := (by refine M.pick' [1, 0] _ ?_ (by decide); exact ⟨rfl, rfl, trivial⟩)
   refine any_val F 0 rfl (by kernel_rfl) (wn rfl) rfl rfl (.int .i64 ((j : Nat) : Int)) (fun w' hS' => ex_move _ rfl _ (F.e rfl)) hS ?_; clear F a; intro a F
   refine any_val F 1 rfl (by kernel_rfl) (wn rfl) rfl rfl (.pointer (some ⟨g3, j, none⟩)) (fun w' hS' => ex_ixa _ _ _ rfl 2 ec_ar_55_2 ⟨g3, 0, none⟩ (F.e rfl) .i64 _ (F.e rfl) j rfl (by omega) ⟨g3, j, none⟩ ((addr_add _ _ _).trans (by rw [Nat.zero_add]))) hS ?_; clear F a; intro a F
   refine any_val F 2 rfl (by kernel_rfl) (wn rfl) rfl rfl (.pointer (some ⟨z.g, 0, none⟩)) (fun w' hS' => ex_load _ _ rfl _ (F.e rfl) _ (lv1 ec_one_53 (hS'.cell (i := 0) rfl (j := j) (arr_get (pcs_get hz))))) hS ?_; clear F a; intro a F
   refine any_val F 3 rfl (by kernel_rfl) (wn rfl) rfl rfl (.bool false) (fun w' hS' => ex_pnil _ _ _ rfl _ (F.e rfl) rfl) hS ?_; clear F a; intro a F
   refine any_val F 4 rfl (by kernel_rfl) (wn rfl) rfl rfl (.bool false) (fun w' hS' => ex_move _ rfl _ (F.e rfl)) hS ?_; clear F a; intro a F
   refine any_val F 5 rfl (by kernel_rfl) (F.wants 115 false rfl (by kernel_rfl) rfl true rfl) rfl rfl (.int .i64 ((j : Nat) : Int)) (fun w' hS' => ex_move _ rfl _ (F.e rfl)) hS ?_; clear F a; intro a F
   refine any_val F 6 rfl (by kernel_rfl) (F.wants 115 false rfl (by kernel_rfl) rfl true rfl) rfl rfl (.pointer (some ⟨g3, j, none⟩)) (fun w' hS' => ex_ixa _ _ _ rfl 2 ec_ar_55_2 ⟨g3, 0, none⟩ (F.e rfl) .i64 _ (F.e rfl) j rfl (by omega) ⟨g3, j, none⟩ ((addr_add _ _ _).trans (by rw [Nat.zero_add]))) hS ?_; clear F a; intro a F
   refine any_val F 7 rfl (by kernel_rfl) (F.wants 115 false rfl (by kernel_rfl) rfl true rfl) rfl rfl (.pointer (some ⟨z.g, 0, none⟩)) (fun w' hS' => ex_load _ _ rfl _ (F.e rfl) _ (lv1 ec_one_53 (hS'.cell (i := 0) rfl (j := j) (arr_get (pcs_get hz))))) hS ?_; clear F a; intro a F
   refine any_val F 9 rfl (by kernel_rfl) (F.wants 115 false rfl (by kernel_rfl) rfl true rfl) rfl rfl (.int .i64 ((j : Nat) : Int)) (fun w' hS' => ex_move _ rfl _ (F.e rfl)) hS ?_; clear F a; intro a F
   refine any_val F 10 rfl (by kernel_rfl) (F.wants 115 false rfl (by kernel_rfl) rfl true rfl) rfl rfl (.pointer (some ⟨g4, j, none⟩)) (fun w' hS' => ex_ixa _ _ _ rfl 2 ec_ar_56_2 ⟨g4, 0, none⟩ (F.e rfl) .i64 _ (F.e rfl) j rfl (by omega) ⟨g4, j, none⟩ ((addr_add _ _ _).trans (by rw [Nat.zero_add]))) hS ?_; clear F a; intro a F
   refine any_val F 11 rfl (by kernel_rfl) (F.wants 115 false rfl (by kernel_rfl) rfl true rfl) rfl rfl (.slice z.B z.ap.length z.c) (fun w' hS' => ex_load _ _ rfl _ (F.e rfl) _ (lv1 ec_one_23 (hS'.cell (i := 1) rfl (j := j) (arr_get (acs_get hz))))) hS ?_; clear F a; intro a F
   refine any_ready [8] (by kernel_rfl) (by simp) ?_
   refine ready_do rfl (F.wants 115 false rfl (by kernel_rfl) rfl true rfl) (fun K hK => ?_) AllReadyH.nil
   refine ow_call rfl rfl F 35 #[.pointer (some ⟨z.g, 0, none⟩)] (ex_call 35 _ _ rfl rfl ec_ent_35 _ (map1 (F.e rfl))) (sum_fam (t := []) R_ Z_ hz (hKt.below M.bel)) (fun e v hR => ?_)
   obtain ⟨he, hb⟩ := hR
   refine ⟨.agg ((bcs (sha z.wr)).toArray), he, ?_⟩; clear he F a; intro a F
   replace hS : Mm w v [⟨g3, (pcs hs).toArray, 55⟩, ⟨g4, (acs hs).toArray, 56⟩] := (by refine (M.below hb).pick' [1, 0] _ ?_ (by decide); exact ⟨rfl, rfl, trivial⟩)
   refine hK _ _ hS ?_
   clear hK K
   replace R_ := R_.below hb
   replace Z_ := Z_.below hb
   replace M := M.below hb; clear hb; try clear wD
   refine any_ready [12] (by kernel_rfl) (by simp) ?_
   refine ready_do rfl (F.wants 115 false rfl (by kernel_rfl) rfl true rfl) (fun K hK => ?_) AllReadyH.nil
   refine ow_call rfl rfl F 13 #[.slice z.B z.ap.length z.c] (ex_call 13 _ _ rfl rfl ec_ent_13 _ (map1 (F.e rfl))) (refSum_any z.ap _ _ _ (by omega) _ (fam_rb (t := []) R_ hz)) (fun e u hR => ?_)
   obtain ⟨he, hb⟩ := hR
   refine ⟨.agg ((bcs (sha z.ap)).toArray), he, ?_⟩; clear he F a; intro a F
   replace hS : Mm w u [⟨g3, (pcs hs).toArray, 55⟩, ⟨g4, (acs hs).toArray, 56⟩] := (by refine (M.below hb).pick' [1, 0] _ ?_ (by decide); exact ⟨rfl, rfl, trivial⟩)
   refine hK _ _ hS ?_
   clear hK K
   replace R_ := R_.below hb
   replace Z_ := Z_.below hb
   replace M := M.below hb; clear hb; try clear v
   refine any_val F 13 rfl (by kernel_rfl) (F.wants 115 false rfl (by kernel_rfl) rfl true rfl) rfl rfl (.bool false) (fun w' hS' => ex_neqA 24 _ _ _ rfl 32 ec_ab_24_32 (sha z.wr) (sha z.ap) (sha_len _) (sha_len _) (F.e rfl) (F.e rfl) false (by rw [hwz]; exact not_self _)) hS ?_; clear F a; intro a F
   refine any_val F 14 rfl (by kernel_rfl) (wn rfl) rfl rfl (.bool false) (fun w' hS' => ex_pick_f _ _ _ rfl (F.e rfl) _ (F.e rfl)) hS ?_; clear F a; intro a F
   refine any_val F 15 rfl (by kernel_rfl) (wn rfl) rfl rfl (.bool false) (fun w' hS' => ex_move _ rfl _ (F.e rfl)) hS ?_; clear F a; intro a F
   refine any_val F 16 rfl (by kernel_rfl) (F.wants 126 false rfl (by kernel_rfl) rfl true rfl) rfl rfl (.int .i64 ((j : Nat) : Int)) (fun w' hS' => ex_move _ rfl _ (F.e rfl)) hS ?_; clear F a; intro a F
   refine any_val F 17 rfl (by kernel_rfl) (F.wants 126 false rfl (by kernel_rfl) rfl true rfl) rfl rfl (.pointer (some ⟨g3, j, none⟩)) (fun w' hS' => ex_ixa _ _ _ rfl 2 ec_ar_55_2 ⟨g3, 0, none⟩ (F.e rfl) .i64 _ (F.e rfl) j rfl (by omega) ⟨g3, j, none⟩ ((addr_add _ _ _).trans (by rw [Nat.zero_add]))) hS ?_; clear F a; intro a F
   refine any_val F 18 rfl (by kernel_rfl) (F.wants 126 false rfl (by kernel_rfl) rfl true rfl) rfl rfl (.pointer (some ⟨z.g, 0, none⟩)) (fun w' hS' => ex_load _ _ rfl _ (F.e rfl) _ (lv1 ec_one_53 (hS'.cell (i := 0) rfl (j := j) (arr_get (pcs_get hz))))) hS ?_; clear F a; intro a F
   refine any_val F 20 rfl (by kernel_rfl) (F.wants 126 false rfl (by kernel_rfl) rfl true rfl) rfl rfl (.int .i64 ((j : Nat) : Int)) (fun w' hS' => ex_move _ rfl _ (F.e rfl)) hS ?_; clear F a; intro a F
   refine any_val F 21 rfl (by kernel_rfl) (F.wants 126 false rfl (by kernel_rfl) rfl true rfl) rfl rfl (.pointer (some ⟨g4, j, none⟩)) (fun w' hS' => ex_ixa _ _ _ rfl 2 ec_ar_56_2 ⟨g4, 0, none⟩ (F.e rfl) .i64 _ (F.e rfl) j rfl (by omega) ⟨g4, j, none⟩ ((addr_add _ _ _).trans (by rw [Nat.zero_add]))) hS ?_; clear F a; intro a F
   refine any_val F 22 rfl (by kernel_rfl) (F.wants 126 false rfl (by kernel_rfl) rfl true rfl) rfl rfl (.slice z.B z.ap.length z.c) (fun w' hS' => ex_load _ _ rfl _ (F.e rfl) _ (lv1 ec_one_23 (hS'.cell (i := 1) rfl (j := j) (arr_get (acs_get hz))))) hS ?_; clear F a; intro a F
   refine any_val F 23 rfl (by kernel_rfl) (F.wants 126 false rfl (by kernel_rfl) rfl true rfl) rfl rfl (.int .i64 ((z.ap.length : Nat) : Int)) (fun w' hS' => ex_len _ _ rfl 1 ec_sl_23_1 _ _ _ (F.e rfl)) hS ?_; clear F a; intro a F
   refine any_val F 24 rfl (by kernel_rfl) (F.wants 126 false rfl (by kernel_rfl) rfl true rfl) rfl rfl (.int .u64 ((BitVec.ofNat 64 z.wr.length).toNat : Int)) (fun w' hS' => ex_conv _ _ _ rfl _ .u64 ec_cv_3_62_u64 _ (F.e rfl) _ ((w64 _).trans (by rw [hwz]))) hS ?_; clear F a; intro a F
   refine any_ready [19] (by kernel_rfl) (by simp) ?_
   refine ready_do rfl (F.wants 126 false rfl (by kernel_rfl) rfl true rfl) (fun K hK => ?_) AllReadyH.nil
   refine ow_call rfl rfl F 36 #[.pointer (some ⟨z.g, 0, none⟩)] (ex_call 36 _ _ rfl rfl ec_ent_36 _ (map1 (F.e rfl))) (len_fam Z_ hz) (fun e v hR => ?_)
   obtain ⟨he, hb⟩ := hR
   refine ⟨.int .u64 ((BitVec.ofNat 64 z.wr.length).toNat : Int), he, ?_⟩; clear he F a; intro a F
   replace hS : Mm w v [⟨g3, (pcs hs).toArray, 55⟩, ⟨g4, (acs hs).toArray, 56⟩] := (by refine (M.below hb).pick' [1, 0] _ ?_ (by decide); exact ⟨rfl, rfl, trivial⟩)
   refine hK _ _ hS ?_
   clear hK K
   replace R_ := R_.below hb
   replace Z_ := Z_.below hb
   replace M := M.below hb; clear hb; try clear u
   refine any_val F 25 rfl (by kernel_rfl) (F.wants 126 false rfl (by kernel_rfl) rfl true rfl) rfl rfl (.bool false) (fun w' hS' => ex_bin .neq _ _ _ _ rfl .u64 _ _ (F.e rfl) (F.e rfl) _ (b_neq (by simp))) hS ?_; clear F a; intro a F
   refine any_val F 26 rfl (by kernel_rfl) (wn rfl) rfl rfl (.bool false) (fun w' hS' => ex_pick_f _ _ _ rfl (F.e rfl) _ (F.e rfl)) hS ?_; clear F a; intro a F
   refine any_done (by kernel_rfl) ?_
   exact ⟨F.keep ⟨rfl, rfl, rfl, rfl, rfl, rfl, rfl, rfl, trivial⟩, (by refine M.pick' [0, 1] _ ?_ (by decide); exact ⟨rfl, rfl, trivial⟩), R_, Z_⟩
  clear F M a R_ Z_
  intro a u hR; obtain ⟨F, M, R_, Z_⟩ := hR; try clear v
  refine then_n ?_
  refine wp_cond_false (F.e rfl) ?_
  refine wp_skip ?_
  refine in_n ?_
  refine then_n ?_
  refine wp_region_lit ?_
  refine list_val F (wn rfl) rfl rfl (.int .i64 ((j : Nat) : Int)) (ex_move _ rfl _ (F.e rfl)) ?_; clear F a; intro a F
  refine list_val F (wn rfl) rfl rfl (.int .i64 ((j + 1 : Nat) : Int)) (ex_bin .add _ _ _ _ rfl .i64 _ _ (F.e rfl) rfl _ (b_add ((w_i64 (by omega) (by omega)).trans (by omega)))) ?_; clear F a; intro a F
  refine list_val F (wn rfl) rfl rfl (.int .i64 ((j + 1 : Nat) : Int)) (ex_assign _ rfl _ (F.e rfl)) ?_; clear F a; intro a F
  refine wpList_nil ?_
  replace F : Fr 139 a [(0, .slice Ls n cl), (2, .bool false), (3, .pointer (some ⟨g3, 0, none⟩)), (4, .pointer (some ⟨g4, 0, none⟩)), (10, .int .i64 ((j + 1 : Nat) : Int)), (17, .bool false), (108, .bool true), (137, .bool false)] := F.keep ⟨rfl, rfl, rfl, rfl, rfl, rfl, rfl, rfl, trivial⟩
  refine then_n ?_
  exact ⟨2 - (j + 1), by omega, (j + 1), F.keep ⟨rfl, rfl, rfl, rfl, rfl, rfl, trivial⟩, (by refine M.pick' [0, 1] _ ?_ (by decide); exact ⟨rfl, rfl, trivial⟩), R_, Z_, (by omega), (by omega)⟩
 refine wp_seq ?_
 refine wp_seq ?_
 refine wp_region_lit ?_
 refine list_val F (wn rfl) rfl rfl (.int .i64 ((j : Nat) : Int)) (ex_move _ rfl _ (F.e rfl)) ?_; clear F a; intro a F
 refine list_val F (wn rfl) rfl rfl (.bool false) (ex_bin .lss _ _ _ _ rfl .i64 _ _ (F.e rfl) rfl _ (b_lss (decide_eq_false (by omega)))) ?_; clear F a; intro a F
 refine wpList_nil ?_
 replace F : Fr 139 a [(0, .slice Ls n cl), (2, .bool false), (3, .pointer (some ⟨g3, 0, none⟩)), (4, .pointer (some ⟨g4, 0, none⟩)), (10, .int .i64 ((j : Nat) : Int)), (17, .bool false), (108, .bool false)] := F.keep ⟨rfl, rfl, rfl, rfl, rfl, rfl, rfl, trivial⟩
 refine then_n ?_
 refine wp_cond_false (F.e rfl) ?_
 refine wp_exit ?_
 refine then_x ?_
 refine then_x ?_
 refine in_hit ?_
 refine then_n ?_
 refine wp_seq ?_
 refine wp_region_lit ?_
 refine list_do (wn rfl) (fun K hK => ?_)
 refine ow_call rfl rfl F 19 #[] (ex_call 19 _ _ rfl rfl ec_ent_19 _ (map0)) (wakes_any _ (hKt.below M.bel)) (fun e u hR => ?_)
 obtain ⟨he, hb⟩ := hR
 refine ⟨.bool true, he, ?_⟩; clear he F a; intro a F
 refine hK _ _ ?_
 clear hK K
 replace R_ := R_.below hb
 replace Z_ := Z_.below hb
 replace M := M.below hb; clear hb; try clear v
 refine list_val F (wn rfl) rfl rfl (.bool true) (ex_assign _ rfl _ (F.e rfl)) ?_; clear F a; intro a F
 refine wpList_nil ?_
 replace F : Fr 139 a [(0, .slice Ls n cl), (2, .bool true), (3, .pointer (some ⟨g3, 0, none⟩)), (4, .pointer (some ⟨g4, 0, none⟩)), (10, .int .i64 ((j : Nat) : Int)), (17, .bool false), (108, .bool false)] := F.keep ⟨rfl, rfl, rfl, rfl, rfl, rfl, rfl, trivial⟩
 refine then_n ?_
 refine wp_ret ?_
 exact ret_tmp F rfl rfl ⟨rfl, M.bel⟩
end Go.Proofs.YtkppipeadibfkaaDoor
