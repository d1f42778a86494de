/- RevokeTurns (4): steps of unlike grants in two orders tell one list. Conditions: the script is read. -/
import Derived.Test.YtnjbjjmoglogeaaR6
namespace Go.Proofs.Ytnjbjjmoglogeaa
open Go.RowKit Go.Proofs.YtnjbjjmoglogeaaW.PrintWords KB WG RO
set_option linter.unusedVariables false
set_option linter.unusedSimpArgs false
set_option linter.unnecessarySimpa false
theorem s29 : (Try.prog.info? 29).map (·.size) = some 20 := by kernel_rfl
theorem two_of {o : St} (h1 : ¬ o.do_ = 1) (h2 : o.do_ = 2) : o.do_ = 1 ∨ o.do_ = 2 := .inr h2
theorem fold_no {l l0 : List Rv} {ss : List St} {i : Nat} {o : St} (hl : l = (ss.take i).foldl stepF l0) (ho : ss[i]? = some o) (h1 : ¬ o.do_ = 1) (h2 : ¬ o.do_ = 2) : l = (ss.take (i + 1)).foldl stepF l0 := by rw [fold_snoc ho, ← hl, stepF_no h1 h2]
theorem fold_yes {l l0 : List Rv} {ss : List St} {i : Nat} {o : St} (hl : l = (ss.take i).foldl stepF l0) (ho : ss[i]? = some o) : stepF l o = (ss.take (i + 1)).foldl stepF l0 := by rw [fold_snoc ho, ← hl]
def inG (ss : List St) (g : Int) (i : Nat) (m : List Rv) : List Rv := ((ss.take i).filter (fun x => x.grant == g)).foldl stepF m
theorem inG_yes {ss : List St} {m m2 : List Rv} {g : Int} {i : Nat} {o : St} (h : m2 = inG ss g i m) (ho : ss[i]? = some o) (hg : o.grant = g) : stepF m2 o = inG ss g (i + 1) m := by unfold inG at h ⊢; rw [inner_snoc ho, if_pos hg, ← h]
theorem inG_oth {ss : List St} {m m2 : List Rv} {g : Int} {i : Nat} {o : St} (h : m2 = inG ss g i m) (ho : ss[i]? = some o) (hg : ¬ o.grant = g) : m2 = inG ss g (i + 1) m := by unfold inG at h ⊢; rw [inner_snoc ho, if_neg hg, ← h]
theorem inG_no {ss : List St} {m m2 : List Rv} {g : Int} {i : Nat} {o : St} (h : m2 = inG ss g i m) (ho : ss[i]? = some o) (hg : o.grant = g) (h1 : ¬ o.do_ = 1) (h2 : ¬ o.do_ = 2) : m2 = inG ss g (i + 1) m := by unfold inG at h ⊢; rw [inner_snoc ho, if_pos hg, ← h, stepF_no h1 h2]
theorem inG_end {ss : List St} {m m2 : List Rv} {j : Nat} {o : St} (h : Done ss (j + 1) m) (ho : ss[j]? = some o) (hL : LaterIs ss j false) (hm : m2 = inG ss o.grant ss.length m) : Done ss j m2 := by rw [hm]; unfold inG; rw [List.take_length]; exact h.run ho hL
theorem inG_is {ss : List St} {m m2 : List Rv} {g : Int} {i : Nat} (hm : IsL m) (h : m2 = inG ss g i m) : IsL m2 ∧ m2.length ≤ m.length + i := by rw [h]; exact ⟨IsL.fold _ hm, inner_len hm g i⟩
theorem fold_is {l : List Rv} {ss : List St} {i : Nat} (hl : l = (ss.take i).foldl stepF []) : IsL l ∧ l.length ≤ i := by
  rw [hl]
  have h := fold_len (ss.take i) IsL.nil
  rw [List.length_take, List.length_nil] at h
  exact ⟨IsL.fold _ IsL.nil, by omega⟩
theorem C_cut {w : World} {A : Option Addr} {ss : List St} (hr : kSt.C w A ss.length ss) (h : 40 ≤ ss.length) : kSt.C w A (ss.take 40).length (ss.take 40) := by
  have h2 : kSt.C w A 40 (ss.take 40) := C_fst hr h
  rw [show (ss.take 40).length = 40 from h2.1]
  exact h2
theorem r7_sl_22_20 : sl? Try.prog 22 20 = true := by kernel_rfl
theorem r7_fa_29_0_0 : fa? Try.prog 29 0 0 = true := by kernel_rfl
theorem r7_one_3 : one? Try.prog 3 = true := by kernel_rfl
theorem r7_ent_16 : ent? Try.prog 16 = true := by kernel_rfl
theorem r7_ent_17 : ent? Try.prog 17 = true := by kernel_rfl
theorem r7_follows_mixedOrders : Try.prog.follows .mixedOrders = true := by kernel_rfl
theorem r7_fa_29_1_1 : fa? Try.prog 29 1 1 = true := by kernel_rfl
theorem r7_one_25 : one? Try.prog 25 = true := by kernel_rfl
theorem r7_ent_18 : ent? Try.prog 18 = true := by kernel_rfl
theorem r7_ent_15 : ent? Try.prog 15 = true := by kernel_rfl
set_option maxHeartbeats 1000000 in
set_option maxRecDepth 100000 in
theorem turns_any (ss : List St) (A : Option Addr) (c : Nat) (w : World) (hr : kSt.C w A ss.length ss) (hc : ss.length ≤ c) (hmx : ss.length ≤ 4611686018427387904) :
    Calls Try.prog 4 #[.slice A ss.length c] w fun e w' => e = .returned (.bool true) ∧ Below w.heap.size w w' := by
 have O_l : Ow kRv 48 w w.heap.size (.slice none 0 0) [] := Ow.nil _ _ _ _
 have O_m : Ow kRv 48 w w.heap.size (.slice none 0 0) [] := Ow.nil _ _ _ _
 refine calls_start Try.func4 rfl rfl rfl (fun a F => ?_)
 have M : Mm w w [] := Mm.nil w
 refine wp_seq ?_
 refine wp_region_lit ?_
 refine list_val F (wn rfl) rfl rfl (.bool false) (ex_assign _ rfl _ rfl) ?_; clear F a; intro a F
 refine wpList_nil ?_
 replace F : Fr 96 a [(0, .slice A ss.length c), (2, .bool false)] := F.keep ⟨rfl, rfl, trivial⟩
 refine then_n ?_
 refine wp_seq ?_
 refine wp_region_lit ?_
 refine list_val F (wn rfl) rfl rfl (.slice none 0 0) (ex_assign _ rfl _ rfl) ?_; clear F a; intro a F
 refine wpList_nil ?_
 replace F : Fr 96 a [(0, .slice A ss.length c), (2, .bool false), (3, .slice none 0 0)] := F.keep ⟨rfl, rfl, rfl, trivial⟩
 refine then_n ?_
 refine wp_seq ?_
 refine wp_region_lit ?_
 refine list_val F (wn rfl) rfl rfl (.slice none 0 0) (ex_assign _ rfl _ rfl) ?_; clear F a; intro a F
 refine wpList_nil ?_
 replace F : Fr 96 a [(0, .slice A ss.length c), (2, .bool false), (3, .slice none 0 0), (4, .slice none 0 0)] := F.keep ⟨rfl, rfl, rfl, rfl, trivial⟩
 refine then_n ?_
 refine wp_seq ?_
 refine wp_region_lit ?_
 refine list_val F (wn rfl) rfl rfl (.slice A ss.length c) (ex_move _ rfl _ (F.e rfl)) ?_; clear F a; intro a F
 refine list_val F (wn rfl) rfl rfl (.slice A ss.length c) (ex_assign _ rfl _ (F.e rfl)) ?_; clear F a; intro a F
 refine wpList_nil ?_
 replace F : Fr 96 a [(0, .slice A ss.length c), (2, .bool false), (3, .slice none 0 0), (4, .slice none 0 0), (5, .slice A ss.length c)] := F.keep ⟨rfl, rfl, rfl, rfl, rfl, trivial⟩
 refine then_n ?_
 refine wp_seq ?_
 refine wp_only (fun ar wr => ∃ (ct : List St), Fr 96 ar [(0, .slice A ss.length c), (2, .bool false), (3, .slice none 0 0), (4, .slice none 0 0), (5, .slice A ct.length c)] ∧ Mm w wr [] ∧ Ow kRv 48 wr w.heap.size (.slice none 0 0) ([] : List Rv) ∧ Ow kRv 48 wr w.heap.size (.slice none 0 0) ([] : List Rv) ∧ kSt.C w A ct.length ct ∧ ct.length ≤ 40) ?_ ?_
 ·
  refine wp_seq ?_
  by_cases h40 : 40 < ss.length
  ·
   refine wp_region_lit ?_
   refine list_val F (wn rfl) rfl rfl (.slice A ss.length c) (ex_move _ rfl _ (F.e rfl)) ?_; clear F a; intro a F
   refine list_val F (wn rfl) rfl rfl (.int .i64 ((ss.length : Nat) : Int)) (ex_len _ _ rfl 20 r7_sl_22_20 _ _ _ (F.e rfl)) ?_; clear F a; intro a F
   refine list_val F (wn rfl) rfl rfl (.bool true) (ex_bin .gtr _ _ _ _ rfl .i64 _ _ (F.e rfl) rfl _ (b_gtr (decide_eq_true (by omega)))) ?_; clear F a; intro a F
   refine wpList_nil ?_
   replace F : Fr 96 a [(0, .slice A ss.length c), (2, .bool false), (3, .slice none 0 0), (4, .slice none 0 0), (5, .slice A ss.length c), (12, .bool true)] := F.keep ⟨rfl, rfl, rfl, rfl, rfl, rfl, trivial⟩
   refine then_n ?_
   refine wp_cond_true (F.e rfl) ?_
   refine wp_region_lit ?_
   refine list_val F (wn rfl) rfl rfl (.slice A ss.length c) (ex_move _ rfl _ (F.e rfl)) ?_; clear F a; intro a F
   refine list_val F (wn rfl) rfl rfl (.slice A ((ss.take 40).length) c) (ex_cutto 22 29 20 Try.underlying22 s29 _ _ rfl A ss.length c (F.e rfl) _ rfl (ss.take 40).length (by rw [List.length_take]; omega) (by rw [List.length_take]; omega)) ?_; clear F a; intro a F
   refine list_val F (wn rfl) rfl rfl (.slice A ((ss.take 40).length) c) (ex_assign _ rfl _ (F.e rfl)) ?_; clear F a; intro a F
   refine wpList_nil ?_
   replace F : Fr 96 a [(0, .slice A ss.length c), (2, .bool false), (3, .slice none 0 0), (4, .slice none 0 0), (5, .slice A ((ss.take 40).length) c), (12, .bool true)] := F.keep ⟨rfl, rfl, rfl, rfl, rfl, rfl, trivial⟩
   refine only_n ?_
   exact ⟨(ss.take 40), F.keep ⟨rfl, rfl, rfl, rfl, rfl, trivial⟩, (by refine M.pick' [] _ ?_ (by decide); exact trivial), O_l, O_m, (C_cut hr (by omega)), (by rw [List.length_take]; omega)⟩
  refine wp_region_lit ?_
  refine list_val F (wn rfl) rfl rfl (.slice A ss.length c) (ex_move _ rfl _ (F.e rfl)) ?_; clear F a; intro a F
  refine list_val F (wn rfl) rfl rfl (.int .i64 ((ss.length : Nat) : Int)) (ex_len _ _ rfl 20 r7_sl_22_20 _ _ _ (F.e rfl)) ?_; clear F a; intro a F
  refine list_val F (wn rfl) rfl rfl (.bool false) (ex_bin .gtr _ _ _ _ rfl .i64 _ _ (F.e rfl) rfl _ (b_gtr (decide_eq_false (by omega)))) ?_; clear F a; intro a F
  refine wpList_nil ?_
  replace F : Fr 96 a [(0, .slice A ss.length c), (2, .bool false), (3, .slice none 0 0), (4, .slice none 0 0), (5, .slice A ss.length c), (12, .bool false)] := F.keep ⟨rfl, rfl, rfl, rfl, rfl, rfl, trivial⟩
  refine then_n ?_
  refine wp_cond_false (F.e rfl) ?_
  refine wp_skip ?_
  refine only_n ?_
  exact ⟨ss, F.keep ⟨rfl, rfl, rfl, rfl, rfl, trivial⟩, (by refine M.pick' [] _ ?_ (by decide); exact trivial), O_l, O_m, hr, (by omega)⟩
 clear F M a O_l O_m
 intro a v hR; obtain ⟨ct, F, M, O_l, O_m, hct, hcl⟩ := hR; try clear w
 refine then_n ?_
 refine wp_seq ?_
 refine wp_seq ?_
 refine wp_region_lit ?_
 refine list_val F (wn rfl) rfl rfl (.int .i64 0) (ex_assign _ rfl _ rfl) ?_; clear F a; intro a F
 refine wpList_nil ?_
 replace F : Fr 96 a [(0, .slice A ss.length c), (2, .bool false), (3, .slice none 0 0), (4, .slice none 0 0), (5, .slice A ct.length c), (6, .int .i64 0)] := F.keep ⟨rfl, rfl, rfl, rfl, rfl, rfl, trivial⟩
 refine then_n ?_
 refine wp_block ?_
 refine wp_loopN (fun mq ar wr => ∃ (i : Nat), ∃ (A_l : Option Addr), ∃ (c_l : Nat), ∃ (l : List Rv), Fr 96 ar [(0, .slice A ss.length c), (2, .bool false), (3, .slice A_l l.length c_l), (4, .slice none 0 0), (5, .slice A ct.length c), (6, .int .i64 ((i : Nat) : Int))] ∧ Mm w wr [] ∧ Ow kRv 48 wr w.heap.size (.slice A_l l.length c_l) l ∧ Ow kRv 48 wr w.heap.size (.slice none 0 0) ([] : List Rv) ∧ i ≤ ct.length ∧ l = (ct.take i).foldl stepF [] ∧ mq + i = ct.length) ct.length ?_ ?_
 ·
  exact ⟨0, none, 0, [], F.keep ⟨rfl, rfl, rfl, rfl, rfl, rfl, trivial⟩, M, O_l, O_m, (Nat.zero_le _), rfl, (by omega)⟩
 clear F M a O_l O_m
 rintro mq a u ⟨i, A_l, c_l, l, F, M, O_l, O_m, hi, hl, hq⟩; try clear v
 by_cases hin : i < ct.length
 ·
  obtain ⟨x, hx⟩ : ∃ x, ct[i]? = some x := ⟨_, List.getElem?_eq_getElem (by omega)⟩
  obtain ⟨ad, hA, z⟩ := C_ix hct hx
  subst hA
  refine wp_seq ?_
  refine wp_seq ?_
  refine wp_region_lit ?_
  refine list_val F (wn rfl) rfl rfl (.int .i64 ((i : Nat) : Int)) (ex_move _ rfl _ (F.e rfl)) ?_; clear F a; intro a F
  refine list_val F (wn rfl) rfl rfl (.slice (some ad) ct.length c) (ex_move _ rfl _ (F.e rfl)) ?_; clear F a; intro a F
  refine list_val F (wn rfl) rfl rfl (.int .i64 ((ct.length : Nat) : Int)) (ex_len _ _ rfl 20 r7_sl_22_20 _ _ _ (F.e rfl)) ?_; clear F a; intro a F
  refine list_val F (wn rfl) rfl rfl (.bool true) (ex_bin .lss _ _ _ _ rfl .i64 _ _ (F.e rfl) (F.e rfl) _ (b_lss (decide_eq_true (by omega)))) ?_; clear F a; intro a F
  refine wpList_nil ?_
  replace F : Fr 96 a [(0, .slice (some ad) ss.length c), (2, .bool false), (3, .slice A_l l.length c_l), (4, .slice none 0 0), (5, .slice (some ad) ct.length c), (6, .int .i64 ((i : Nat) : Int)), (18, .bool true)] := F.keep ⟨rfl, rfl, rfl, rfl, rfl, rfl, rfl, trivial⟩
  refine then_n ?_
  refine wp_cond_true (F.e rfl) ?_
  refine wp_skip ?_
  refine then_n ?_
  refine wp_seq ?_
  refine wp_block ?_
  refine wp_seq ?_
  by_cases hd1 : x.do_ = 1
  ·
   have hd : x.do_ = 1 ∨ x.do_ = 2 := .inl hd1
   refine wp_region_lit ?_
   refine list_val F (wn rfl) rfl rfl (.slice (some ad) ct.length c) (ex_move _ rfl _ (F.e rfl)) ?_; clear F a; intro a F
   refine list_val F (wn rfl) rfl rfl (.int .i64 ((i : Nat) : Int)) (ex_move _ rfl _ (F.e rfl)) ?_; clear F a; intro a F
   refine list_val F (wn rfl) rfl rfl (.pointer (some (ad.add (i * 20)))) (ex_ix _ _ _ rfl 20 r7_sl_22_20 ad _ _ (F.e rfl) .i64 _ (F.e rfl) i rfl (by omega) (ad.add (i * 20)) rfl) ?_; clear F a; intro a F
   refine list_val F (wn rfl) rfl rfl (.pointer (some (ad.add (i * 20)))) (ex_fa _ _ _ rfl _ (F.e rfl) 0 r7_fa_29_0_0 (ad.add (i * 20)) rfl) ?_; clear F a; intro a F
   refine list_val F (wn rfl) rfl rfl (.int .i64 x.do_) (ex_load _ _ rfl _ (F.e rfl) _ (lv1 r7_one_3 ((z.below M.bel).cell 0 _ (St.cs_0 _)))) ?_; clear F a; intro a F
   refine list_val F (wn rfl) rfl rfl (.bool true) (ex_bin .eql _ _ _ _ rfl .i64 _ _ (F.e rfl) rfl _ (b_eql (by simp [hd1]))) ?_; clear F a; intro a F
   refine list_val F (wn rfl) rfl rfl (.bool true) (ex_move _ rfl _ (F.e rfl)) ?_; clear F a; intro a F
   refine list_skip F (F.wants 27 true rfl (by kernel_rfl) rfl false rfl) rfl rfl ?_; clear F a; intro a F
   refine list_skip F (F.wants 27 true rfl (by kernel_rfl) rfl false rfl) rfl rfl ?_; clear F a; intro a F
   refine list_skip F (F.wants 27 true rfl (by kernel_rfl) rfl false rfl) rfl rfl ?_; clear F a; intro a F
   refine list_skip F (F.wants 27 true rfl (by kernel_rfl) rfl false rfl) rfl rfl ?_; clear F a; intro a F
   refine list_skip F (F.wants 27 true rfl (by kernel_rfl) rfl false rfl) rfl rfl ?_; clear F a; intro a F
   refine list_skip F (F.wants 27 true rfl (by kernel_rfl) rfl false rfl) rfl rfl ?_; clear F a; intro a F
   refine list_val F (wn rfl) rfl rfl (.bool true) (ex_pick_t _ _ _ rfl (F.e rfl) _ rfl) ?_; clear F a; intro a F
   refine wpList_nil ?_
   replace F : Fr 96 a [(0, .slice (some ad) ss.length c), (2, .bool false), (3, .slice A_l l.length c_l), (4, .slice none 0 0), (5, .slice (some ad) ct.length c), (6, .int .i64 ((i : Nat) : Int)), (18, .bool true), (34, .bool true)] := F.keep ⟨rfl, rfl, rfl, rfl, rfl, rfl, rfl, rfl, trivial⟩
   refine then_n ?_
   refine wp_cond_true (F.e rfl) ?_
   refine wp_region_lit ?_
   refine list_val F (wn rfl) rfl rfl (.slice A_l l.length c_l) (ex_move _ rfl _ (F.e rfl)) ?_; clear F a; intro a F
   refine list_val F (wn rfl) rfl rfl (.slice (some ad) ct.length c) (ex_move _ rfl _ (F.e rfl)) ?_; clear F a; intro a F
   refine list_val F (wn rfl) rfl rfl (.int .i64 ((i : Nat) : Int)) (ex_move _ rfl _ (F.e rfl)) ?_; clear F a; intro a F
   refine list_val F (wn rfl) rfl rfl (.pointer (some (ad.add (i * 20)))) (ex_ix _ _ _ rfl 20 r7_sl_22_20 ad _ _ (F.e rfl) .i64 _ (F.e rfl) i rfl (by omega) (ad.add (i * 20)) rfl) ?_; clear F a; intro a F
   refine list_val F (wn rfl) rfl rfl (.agg x.arr) (ex_load _ _ rfl _ (F.e rfl) _ (lrow29 x ((z.below M.bel)))) ?_; clear F a; intro a F
   refine list_do (wn rfl) (fun K hK => ?_)
   have hI := fold_is hl
   refine ow_call rfl rfl F 16 #[.slice A_l l.length c_l, .agg x.arr] (ex_call 16 _ _ rfl rfl r7_ent_16 _ (map2 (F.e rfl) (F.e rfl))) (step_any l hI.1 _ _ x hd _ O_l.rd.1 O_l.rd.2.2 (by omega)) (fun e v hR => ?_)
   obtain ⟨A_40, c_40, he, O_n, hb⟩ := hR
   replace O_n := O_n.low M.bel.size
   refine ⟨.slice A_40 ((stepF l x).length) c_40, he, ?_⟩; clear he F a; intro a F
   refine hK _ _ ?_
   clear hK K
   replace O_l := O_l.below hb
   replace O_m := O_m.below hb
   replace M := M.below hb; clear hb; try clear u
   clear O_l
   refine list_val F (wn rfl) rfl rfl (.slice A_40 ((stepF l x).length) c_40) (ex_assign _ rfl _ (F.e rfl)) ?_; clear F a; intro a F
   refine wpList_nil ?_
   replace F : Fr 96 a [(0, .slice (some ad) ss.length c), (2, .bool false), (3, .slice A_40 ((stepF l x).length) c_40), (4, .slice none 0 0), (5, .slice (some ad) ct.length c), (6, .int .i64 ((i : Nat) : Int)), (18, .bool true), (34, .bool true)] := F.keep ⟨rfl, rfl, rfl, rfl, rfl, rfl, rfl, rfl, trivial⟩
   refine in_n ?_
   refine then_n ?_
   refine wp_region_lit ?_
   refine list_val F (wn rfl) rfl rfl (.int .i64 ((i : Nat) : Int)) (ex_move _ rfl _ (F.e rfl)) ?_; clear F a; intro a F
   refine list_val F (wn rfl) rfl rfl (.int .i64 ((i + 1 : Nat) : Int)) (ex_bin .add _ _ _ _ rfl .i64 _ _ (F.e rfl) rfl _ (b_add ((w_i64 (by omega) (by omega)).trans (by omega)))) ?_; clear F a; intro a F
   refine list_val F (wn rfl) rfl rfl (.int .i64 ((i + 1 : Nat) : Int)) (ex_assign _ rfl _ (F.e rfl)) ?_; clear F a; intro a F
   refine wpList_nil ?_
   replace F : Fr 96 a [(0, .slice (some ad) ss.length c), (2, .bool false), (3, .slice A_40 ((stepF l x).length) c_40), (4, .slice none 0 0), (5, .slice (some ad) ct.length c), (6, .int .i64 ((i + 1 : Nat) : Int)), (18, .bool true), (34, .bool true)] := F.keep ⟨rfl, rfl, rfl, rfl, rfl, rfl, rfl, rfl, trivial⟩
   refine then_n ?_
   have O_l := O_n
   exact ⟨ct.length - (i + 1), by omega, (i + 1), A_40, c_40, (stepF l x), F.keep ⟨rfl, rfl, rfl, rfl, rfl, rfl, trivial⟩, (by refine M.pick' [] _ ?_ (by decide); exact trivial), O_l, O_m, (by omega), (fold_yes hl hx), (by omega)⟩
  by_cases hd2 : x.do_ = 2
  ·
   have hd : x.do_ = 1 ∨ x.do_ = 2 := .inr hd2
   refine wp_region_lit ?_
   refine list_val F (wn rfl) rfl rfl (.slice (some ad) ct.length c) (ex_move _ rfl _ (F.e rfl)) ?_; clear F a; intro a F
   refine list_val F (wn rfl) rfl rfl (.int .i64 ((i : Nat) : Int)) (ex_move _ rfl _ (F.e rfl)) ?_; clear F a; intro a F
   refine list_val F (wn rfl) rfl rfl (.pointer (some (ad.add (i * 20)))) (ex_ix _ _ _ rfl 20 r7_sl_22_20 ad _ _ (F.e rfl) .i64 _ (F.e rfl) i rfl (by omega) (ad.add (i * 20)) rfl) ?_; clear F a; intro a F
   refine list_val F (wn rfl) rfl rfl (.pointer (some (ad.add (i * 20)))) (ex_fa _ _ _ rfl _ (F.e rfl) 0 r7_fa_29_0_0 (ad.add (i * 20)) rfl) ?_; clear F a; intro a F
   refine list_val F (wn rfl) rfl rfl (.int .i64 x.do_) (ex_load _ _ rfl _ (F.e rfl) _ (lv1 r7_one_3 ((z.below M.bel).cell 0 _ (St.cs_0 _)))) ?_; clear F a; intro a F
   refine list_val F (wn rfl) rfl rfl (.bool false) (ex_bin .eql _ _ _ _ rfl .i64 _ _ (F.e rfl) rfl _ (b_eql (by simp [hd1]))) ?_; clear F a; intro a F
   refine list_val F (wn rfl) rfl rfl (.bool false) (ex_move _ rfl _ (F.e rfl)) ?_; clear F a; intro a F
   refine list_val F (F.wants 27 false rfl (by kernel_rfl) rfl true rfl) rfl rfl (.slice (some ad) ct.length c) (ex_move _ rfl _ (F.e rfl)) ?_; clear F a; intro a F
   refine list_val F (F.wants 27 false rfl (by kernel_rfl) rfl true rfl) rfl rfl (.int .i64 ((i : Nat) : Int)) (ex_move _ rfl _ (F.e rfl)) ?_; clear F a; intro a F
   refine list_val F (F.wants 27 false rfl (by kernel_rfl) rfl true rfl) rfl rfl (.pointer (some (ad.add (i * 20)))) (ex_ix _ _ _ rfl 20 r7_sl_22_20 ad _ _ (F.e rfl) .i64 _ (F.e rfl) i rfl (by omega) (ad.add (i * 20)) rfl) ?_; clear F a; intro a F
   refine list_val F (F.wants 27 false rfl (by kernel_rfl) rfl true rfl) rfl rfl (.pointer (some (ad.add (i * 20)))) (ex_fa _ _ _ rfl _ (F.e rfl) 0 r7_fa_29_0_0 (ad.add (i * 20)) rfl) ?_; clear F a; intro a F
   refine list_val F (F.wants 27 false rfl (by kernel_rfl) rfl true rfl) rfl rfl (.int .i64 x.do_) (ex_load _ _ rfl _ (F.e rfl) _ (lv1 r7_one_3 ((z.below M.bel).cell 0 _ (St.cs_0 _)))) ?_; clear F a; intro a F
   refine list_val F (F.wants 27 false rfl (by kernel_rfl) rfl true rfl) rfl rfl (.bool true) (ex_bin .eql _ _ _ _ rfl .i64 _ _ (F.e rfl) rfl _ (b_eql (by simp [hd2]))) ?_; clear F a; intro a F
   refine list_val F (wn rfl) rfl rfl (.bool true) (ex_pick_f _ _ _ rfl (F.e rfl) _ (F.e rfl)) ?_; clear F a; intro a F
   refine wpList_nil ?_
   replace F : Fr 96 a [(0, .slice (some ad) ss.length c), (2, .bool false), (3, .slice A_l l.length c_l), (4, .slice none 0 0), (5, .slice (some ad) ct.length c), (6, .int .i64 ((i : Nat) : Int)), (18, .bool true), (34, .bool true)] := F.keep ⟨rfl, rfl, rfl, rfl, rfl, rfl, rfl, rfl, trivial⟩
   refine then_n ?_
   refine wp_cond_true (F.e rfl) ?_
   refine wp_region_lit ?_
   refine list_val F (wn rfl) rfl rfl (.slice A_l l.length c_l) (ex_move _ rfl _ (F.e rfl)) ?_; clear F a; intro a F
   refine list_val F (wn rfl) rfl rfl (.slice (some ad) ct.length c) (ex_move _ rfl _ (F.e rfl)) ?_; clear F a; intro a F
   refine list_val F (wn rfl) rfl rfl (.int .i64 ((i : Nat) : Int)) (ex_move _ rfl _ (F.e rfl)) ?_; clear F a; intro a F
   refine list_val F (wn rfl) rfl rfl (.pointer (some (ad.add (i * 20)))) (ex_ix _ _ _ rfl 20 r7_sl_22_20 ad _ _ (F.e rfl) .i64 _ (F.e rfl) i rfl (by omega) (ad.add (i * 20)) rfl) ?_; clear F a; intro a F
   refine list_val F (wn rfl) rfl rfl (.agg x.arr) (ex_load _ _ rfl _ (F.e rfl) _ (lrow29 x ((z.below M.bel)))) ?_; clear F a; intro a F
   refine list_do (wn rfl) (fun K hK => ?_)
   have hI := fold_is hl
   refine ow_call rfl rfl F 16 #[.slice A_l l.length c_l, .agg x.arr] (ex_call 16 _ _ rfl rfl r7_ent_16 _ (map2 (F.e rfl) (F.e rfl))) (step_any l hI.1 _ _ x hd _ O_l.rd.1 O_l.rd.2.2 (by omega)) (fun e v hR => ?_)
   obtain ⟨A_40, c_40, he, O_n, hb⟩ := hR
   replace O_n := O_n.low M.bel.size
   refine ⟨.slice A_40 ((stepF l x).length) c_40, he, ?_⟩; clear he F a; intro a F
   refine hK _ _ ?_
   clear hK K
   replace O_l := O_l.below hb
   replace O_m := O_m.below hb
   replace M := M.below hb; clear hb; try clear u
   clear O_l
   refine list_val F (wn rfl) rfl rfl (.slice A_40 ((stepF l x).length) c_40) (ex_assign _ rfl _ (F.e rfl)) ?_; clear F a; intro a F
   refine wpList_nil ?_
   replace F : Fr 96 a [(0, .slice (some ad) ss.length c), (2, .bool false), (3, .slice A_40 ((stepF l x).length) c_40), (4, .slice none 0 0), (5, .slice (some ad) ct.length c), (6, .int .i64 ((i : Nat) : Int)), (18, .bool true), (34, .bool true)] := F.keep ⟨rfl, rfl, rfl, rfl, rfl, rfl, rfl, rfl, trivial⟩
   refine in_n ?_
   refine then_n ?_
   refine wp_region_lit ?_
   refine list_val F (wn rfl) rfl rfl (.int .i64 ((i : Nat) : Int)) (ex_move _ rfl _ (F.e rfl)) ?_; clear F a; intro a F
   refine list_val F (wn rfl) rfl rfl (.int .i64 ((i + 1 : Nat) : Int)) (ex_bin .add _ _ _ _ rfl .i64 _ _ (F.e rfl) rfl _ (b_add ((w_i64 (by omega) (by omega)).trans (by omega)))) ?_; clear F a; intro a F
   refine list_val F (wn rfl) rfl rfl (.int .i64 ((i + 1 : Nat) : Int)) (ex_assign _ rfl _ (F.e rfl)) ?_; clear F a; intro a F
   refine wpList_nil ?_
   replace F : Fr 96 a [(0, .slice (some ad) ss.length c), (2, .bool false), (3, .slice A_40 ((stepF l x).length) c_40), (4, .slice none 0 0), (5, .slice (some ad) ct.length c), (6, .int .i64 ((i + 1 : Nat) : Int)), (18, .bool true), (34, .bool true)] := F.keep ⟨rfl, rfl, rfl, rfl, rfl, rfl, rfl, rfl, trivial⟩
   refine then_n ?_
   have O_l := O_n
   exact ⟨ct.length - (i + 1), by omega, (i + 1), A_40, c_40, (stepF l x), F.keep ⟨rfl, rfl, rfl, rfl, rfl, rfl, trivial⟩, (by refine M.pick' [] _ ?_ (by decide); exact trivial), O_l, O_m, (by omega), (fold_yes hl hx), (by omega)⟩
  refine wp_region_lit ?_
  refine list_val F (wn rfl) rfl rfl (.slice (some ad) ct.length c) (ex_move _ rfl _ (F.e rfl)) ?_; clear F a; intro a F
  refine list_val F (wn rfl) rfl rfl (.int .i64 ((i : Nat) : Int)) (ex_move _ rfl _ (F.e rfl)) ?_; clear F a; intro a F
  refine list_val F (wn rfl) rfl rfl (.pointer (some (ad.add (i * 20)))) (ex_ix _ _ _ rfl 20 r7_sl_22_20 ad _ _ (F.e rfl) .i64 _ (F.e rfl) i rfl (by omega) (ad.add (i * 20)) rfl) ?_; clear F a; intro a F
  refine list_val F (wn rfl) rfl rfl (.pointer (some (ad.add (i * 20)))) (ex_fa _ _ _ rfl _ (F.e rfl) 0 r7_fa_29_0_0 (ad.add (i * 20)) rfl) ?_; clear F a; intro a F
  refine list_val F (wn rfl) rfl rfl (.int .i64 x.do_) (ex_load _ _ rfl _ (F.e rfl) _ (lv1 r7_one_3 ((z.below M.bel).cell 0 _ (St.cs_0 _)))) ?_; clear F a; intro a F
  refine list_val F (wn rfl) rfl rfl (.bool false) (ex_bin .eql _ _ _ _ rfl .i64 _ _ (F.e rfl) rfl _ (b_eql (by simp [hd1]))) ?_; clear F a; intro a F
  refine list_val F (wn rfl) rfl rfl (.bool false) (ex_move _ rfl _ (F.e rfl)) ?_; clear F a; intro a F
  refine list_val F (F.wants 27 false rfl (by kernel_rfl) rfl true rfl) rfl rfl (.slice (some ad) ct.length c) (ex_move _ rfl _ (F.e rfl)) ?_; clear F a; intro a F
  refine list_val F (F.wants 27 false rfl (by kernel_rfl) rfl true rfl) rfl rfl (.int .i64 ((i : Nat) : Int)) (ex_move _ rfl _ (F.e rfl)) ?_; clear F a; intro a F
  refine list_val F (F.wants 27 false rfl (by kernel_rfl) rfl true rfl) rfl rfl (.pointer (some (ad.add (i * 20)))) (ex_ix _ _ _ rfl 20 r7_sl_22_20 ad _ _ (F.e rfl) .i64 _ (F.e rfl) i rfl (by omega) (ad.add (i * 20)) rfl) ?_; clear F a; intro a F
  refine list_val F (F.wants 27 false rfl (by kernel_rfl) rfl true rfl) rfl rfl (.pointer (some (ad.add (i * 20)))) (ex_fa _ _ _ rfl _ (F.e rfl) 0 r7_fa_29_0_0 (ad.add (i * 20)) rfl) ?_; clear F a; intro a F
  refine list_val F (F.wants 27 false rfl (by kernel_rfl) rfl true rfl) rfl rfl (.int .i64 x.do_) (ex_load _ _ rfl _ (F.e rfl) _ (lv1 r7_one_3 ((z.below M.bel).cell 0 _ (St.cs_0 _)))) ?_; clear F a; intro a F
  refine list_val F (F.wants 27 false rfl (by kernel_rfl) rfl true rfl) rfl rfl (.bool false) (ex_bin .eql _ _ _ _ rfl .i64 _ _ (F.e rfl) rfl _ (b_eql (by simp [hd2]))) ?_; clear F a; intro a F
  refine list_val F (wn rfl) rfl rfl (.bool false) (ex_pick_f _ _ _ rfl (F.e rfl) _ (F.e rfl)) ?_; clear F a; intro a F
  refine wpList_nil ?_
  replace F : Fr 96 a [(0, .slice (some ad) ss.length c), (2, .bool false), (3, .slice A_l l.length c_l), (4, .slice none 0 0), (5, .slice (some ad) ct.length c), (6, .int .i64 ((i : Nat) : Int)), (18, .bool true), (34, .bool false)] := F.keep ⟨rfl, rfl, rfl, rfl, rfl, rfl, rfl, rfl, trivial⟩
  refine then_n ?_
  refine wp_cond_false (F.e rfl) ?_
  refine wp_skip ?_
  refine in_n ?_
  refine then_n ?_
  refine wp_region_lit ?_
  refine list_val F (wn rfl) rfl rfl (.int .i64 ((i : Nat) : Int)) (ex_move _ rfl _ (F.e rfl)) ?_; clear F a; intro a F
  refine list_val F (wn rfl) rfl rfl (.int .i64 ((i + 1 : Nat) : Int)) (ex_bin .add _ _ _ _ rfl .i64 _ _ (F.e rfl) rfl _ (b_add ((w_i64 (by omega) (by omega)).trans (by omega)))) ?_; clear F a; intro a F
  refine list_val F (wn rfl) rfl rfl (.int .i64 ((i + 1 : Nat) : Int)) (ex_assign _ rfl _ (F.e rfl)) ?_; clear F a; intro a F
  refine wpList_nil ?_
  replace F : Fr 96 a [(0, .slice (some ad) ss.length c), (2, .bool false), (3, .slice A_l l.length c_l), (4, .slice none 0 0), (5, .slice (some ad) ct.length c), (6, .int .i64 ((i + 1 : Nat) : Int)), (18, .bool true), (34, .bool false)] := F.keep ⟨rfl, rfl, rfl, rfl, rfl, rfl, rfl, rfl, trivial⟩
  refine then_n ?_
  exact ⟨ct.length - (i + 1), by omega, (i + 1), A_l, c_l, l, F.keep ⟨rfl, rfl, rfl, rfl, rfl, rfl, trivial⟩, (by refine M.pick' [] _ ?_ (by decide); exact trivial), O_l, O_m, (by omega), (fold_no hl hx hd1 hd2), (by omega)⟩
 obtain rfl : i = ct.length := by omega
 have hl0 := hl
 rw [List.take_length] at hl
 refine wp_seq ?_
 refine wp_seq ?_
 refine wp_region_lit ?_
 refine list_val F (wn rfl) rfl rfl (.int .i64 ((ct.length : Nat) : Int)) (ex_move _ rfl _ (F.e rfl)) ?_; clear F a; intro a F
 refine list_val F (wn rfl) rfl rfl (.slice A ct.length c) (ex_move _ rfl _ (F.e rfl)) ?_; clear F a; intro a F
 refine list_val F (wn rfl) rfl rfl (.int .i64 ((ct.length : Nat) : Int)) (ex_len _ _ rfl 20 r7_sl_22_20 _ _ _ (F.e rfl)) ?_; clear F a; intro a F
 refine list_val F (wn rfl) rfl rfl (.bool false) (ex_bin .lss _ _ _ _ rfl .i64 _ _ (F.e rfl) (F.e rfl) _ (b_lss (decide_eq_false (by omega)))) ?_; clear F a; intro a F
 refine wpList_nil ?_
 replace F : Fr 96 a [(0, .slice A ss.length c), (2, .bool false), (3, .slice A_l l.length c_l), (4, .slice none 0 0), (5, .slice A ct.length c), (6, .int .i64 ((ct.length : Nat) : Int)), (18, .bool false)] := F.keep ⟨rfl, rfl, rfl, rfl, rfl, rfl, rfl, trivial⟩
 refine then_n ?_
 refine wp_cond_false (F.e rfl) ?_
 refine wp_exit ?_
 refine then_x ?_
 refine then_x ?_
 refine in_hit ?_
 refine then_n ?_
 refine wp_seq ?_
 refine wp_seq ?_
 refine wp_region_lit ?_
 refine list_val F (wn rfl) rfl rfl (.slice A ct.length c) (ex_move _ rfl _ (F.e rfl)) ?_; clear F a; intro a F
 refine list_val F (wn rfl) rfl rfl (.int .i64 ((ct.length : Nat) : Int)) (ex_len _ _ rfl 20 r7_sl_22_20 _ _ _ (F.e rfl)) ?_; clear F a; intro a F
 refine list_val F (wn rfl) rfl rfl (.int .i64 (((ct.length : Nat) : Int) - 1)) (ex_bin .sub _ _ _ _ rfl .i64 _ _ (F.e rfl) rfl _ (b_sub (w_i64 (by omega) (by omega)))) ?_; clear F a; intro a F
 refine list_val F (wn rfl) rfl rfl (.int .i64 (((ct.length : Nat) : Int) - 1)) (ex_assign _ rfl _ (F.e rfl)) ?_; clear F a; intro a F
 refine wpList_nil ?_
 replace F : Fr 96 a [(0, .slice A ss.length c), (2, .bool false), (3, .slice A_l l.length c_l), (4, .slice none 0 0), (5, .slice A ct.length c), (6, .int .i64 ((ct.length : Nat) : Int)), (7, .int .i64 (((ct.length : Nat) : Int) - 1)), (18, .bool false)] := F.keep ⟨rfl, rfl, rfl, rfl, rfl, rfl, rfl, rfl, trivial⟩
 refine then_n ?_
 refine wp_block ?_
 refine wp_loopN (fun mq ar wr => ∃ (j : Nat), ∃ (A_m : Option Addr), ∃ (c_m : Nat), ∃ (m : List Rv), ∃ (r : Nat), Fr 96 ar [(0, .slice A ss.length c), (2, .bool false), (3, .slice A_l l.length c_l), (4, .slice A_m m.length c_m), (5, .slice A ct.length c), (6, .int .i64 ((ct.length : Nat) : Int)), (7, .int .i64 (((j : Nat) : Int) - 1)), (18, .bool false)] ∧ Mm w wr [] ∧ Ow kRv 48 wr w.heap.size (.slice A_l l.length c_l) l ∧ Ow kRv 48 wr w.heap.size (.slice A_m m.length c_m) m ∧ j + r = ct.length ∧ Done ct j m ∧ m.length ≤ r * 40 ∧ mq + r = ct.length) ct.length ?_ ?_
 ·
  exact ⟨ct.length, none, 0, [], 0, F.keep ⟨rfl, rfl, rfl, rfl, rfl, rfl, rfl, rfl, trivial⟩, M, O_l, O_m, (by omega), (Done.init ct), (Nat.zero_le _), (by omega)⟩
 clear F M a O_l O_m
 rintro mq a v ⟨j, A_m, c_m, m, r, F, M, O_l, O_m, hj, hm, hml, hq⟩; try clear u
 by_cases hj0 : 0 < j
 ·
  obtain ⟨k, rfl⟩ : ∃ k, j = k + 1 := ⟨j - 1, by omega⟩
  rw [show (((k + 1 : Nat) : Int) - 1) = ((k : Nat) : Int) by omega] at F
  obtain ⟨o, ho⟩ : ∃ o, ct[k]? = some o := ⟨_, List.getElem?_eq_getElem (by omega)⟩
  obtain ⟨ad, hA, z⟩ := C_ix hct ho
  subst hA
  refine wp_seq ?_
  refine wp_seq ?_
  refine wp_region_lit ?_
  refine list_val F (wn rfl) rfl rfl (.int .i64 ((k : Nat) : Int)) (ex_move _ rfl _ (F.e rfl)) ?_; clear F a; intro a F
  refine list_val F (wn rfl) rfl rfl (.bool true) (ex_bin .geq _ _ _ _ rfl .i64 _ _ (F.e rfl) rfl _ (b_geq (decide_eq_true (by omega)))) ?_; clear F a; intro a F
  refine wpList_nil ?_
  replace F : Fr 96 a [(0, .slice (some ad) ss.length c), (2, .bool false), (3, .slice A_l l.length c_l), (4, .slice A_m m.length c_m), (5, .slice (some ad) ct.length c), (6, .int .i64 ((ct.length : Nat) : Int)), (7, .int .i64 ((k : Nat) : Int)), (18, .bool false), (45, .bool true)] := F.keep ⟨rfl, rfl, rfl, rfl, rfl, rfl, rfl, rfl, rfl, trivial⟩
  refine then_n ?_
  refine wp_cond_true (F.e rfl) ?_
  refine wp_skip ?_
  refine then_n ?_
  refine wp_seq ?_
  refine wp_block ?_
  refine wp_seq ?_
  refine wp_seq ?_
  refine wp_region_lit ?_
  refine list_val F (wn rfl) rfl rfl (.slice (some ad) ct.length c) (ex_move _ rfl _ (F.e rfl)) ?_; clear F a; intro a F
  refine list_val F (wn rfl) rfl rfl (.int .i64 ((k : Nat) : Int)) (ex_move _ rfl _ (F.e rfl)) ?_; clear F a; intro a F
  refine list_do (wn rfl) (fun K hK => ?_)
  refine ow_call rfl rfl F 17 #[.slice (some ad) ct.length c, .int .i64 ((k : Nat) : Int)] (ex_call 17 _ _ rfl rfl r7_ent_17 _ (map2 (F.e rfl) (F.e rfl))) (later_any2 ct _ c k o ho _ (Kd.C_below hct M.bel) (by omega)) (fun e u hR => ?_)
  obtain ⟨b, he, hL, hb⟩ := hR
  refine ⟨.bool b, he, ?_⟩; clear he F a; intro a F
  refine hK _ _ ?_
  clear hK K
  replace O_l := O_l.below hb
  replace O_m := O_m.below hb
  replace M := M.below hb; clear hb; try clear v
  refine wpList_nil ?_
  replace F : Fr 96 a [(0, .slice (some ad) ss.length c), (2, .bool false), (3, .slice A_l l.length c_l), (4, .slice A_m m.length c_m), (5, .slice (some ad) ct.length c), (6, .int .i64 ((ct.length : Nat) : Int)), (7, .int .i64 ((k : Nat) : Int)), (18, .bool false), (45, .bool true), (50, .bool b)] := F.keep ⟨rfl, rfl, rfl, rfl, rfl, rfl, rfl, rfl, rfl, rfl, trivial⟩
  refine then_n ?_
  by_cases hb_ : b = true
  ·
   refine wp_cond_true ((F.e rfl).trans (congrArg Value.bool hb_)) ?_
   refine wp_exit ?_
   refine then_x ?_
   refine in_hit ?_
   refine then_n ?_
   refine wp_region_lit ?_
   refine list_val F (wn rfl) rfl rfl (.int .i64 ((k : Nat) : Int)) (ex_move _ rfl _ (F.e rfl)) ?_; clear F a; intro a F
   refine list_val F (wn rfl) rfl rfl (.int .i64 (((k : Nat) : Int) - 1)) (ex_bin .sub _ _ _ _ rfl .i64 _ _ (F.e rfl) rfl _ (b_sub (w_i64 (by omega) (by omega)))) ?_; clear F a; intro a F
   refine list_val F (wn rfl) rfl rfl (.int .i64 (((k : Nat) : Int) - 1)) (ex_assign _ rfl _ (F.e rfl)) ?_; clear F a; intro a F
   refine wpList_nil ?_
   replace F : Fr 96 a [(0, .slice (some ad) ss.length c), (2, .bool false), (3, .slice A_l l.length c_l), (4, .slice A_m m.length c_m), (5, .slice (some ad) ct.length c), (6, .int .i64 ((ct.length : Nat) : Int)), (7, .int .i64 (((k : Nat) : Int) - 1)), (18, .bool false), (45, .bool true), (50, .bool b)] := F.keep ⟨rfl, rfl, rfl, rfl, rfl, rfl, rfl, rfl, rfl, rfl, trivial⟩
   refine then_n ?_
   exact ⟨ct.length - (r + 1), by omega, k, A_m, c_m, m, (r + 1), F.keep ⟨rfl, rfl, rfl, rfl, rfl, rfl, rfl, rfl, trivial⟩, (by refine M.pick' [] _ ?_ (by decide); exact trivial), O_l, O_m, (by omega), (hm.skip ho (hb_ ▸ hL)), (by omega), (by omega)⟩
  refine wp_cond_false ((F.e rfl).trans (congrArg Value.bool (Bool.eq_false_iff.2 hb_))) ?_
  refine wp_skip ?_
  refine then_n ?_
  refine wp_seq ?_
  have hL' : LaterIs ct k false := Bool.eq_false_iff.2 hb_ ▸ hL
  refine wp_region_lit ?_
  refine list_val F (wn rfl) rfl rfl (.int .i64 0) (ex_assign _ rfl _ rfl) ?_; clear F a; intro a F
  refine wpList_nil ?_
  replace F : Fr 96 a [(0, .slice (some ad) ss.length c), (2, .bool false), (3, .slice A_l l.length c_l), (4, .slice A_m m.length c_m), (5, .slice (some ad) ct.length c), (6, .int .i64 ((ct.length : Nat) : Int)), (7, .int .i64 ((k : Nat) : Int)), (8, .int .i64 0), (18, .bool false), (45, .bool true), (50, .bool b)] := F.keep ⟨rfl, rfl, rfl, rfl, rfl, rfl, rfl, rfl, rfl, rfl, rfl, trivial⟩
  refine then_n ?_
  refine wp_block ?_
  refine wp_loopN (fun mq ar wr => ∃ (i : Nat), ∃ (A_m2 : Option Addr), ∃ (c_m2 : Nat), ∃ (m2 : List Rv), Fr 96 ar [(0, .slice (some ad) ss.length c), (2, .bool false), (3, .slice A_l l.length c_l), (4, .slice A_m2 m2.length c_m2), (5, .slice (some ad) ct.length c), (6, .int .i64 ((ct.length : Nat) : Int)), (7, .int .i64 ((k : Nat) : Int)), (8, .int .i64 ((i : Nat) : Int)), (18, .bool false), (45, .bool true), (50, .bool b)] ∧ Mm w wr [] ∧ Ow kRv 48 wr w.heap.size (.slice A_l l.length c_l) l ∧ Ow kRv 48 wr w.heap.size (.slice A_m2 m2.length c_m2) m2 ∧ i ≤ ct.length ∧ m2 = inG ct o.grant i m ∧ mq + i = ct.length) ct.length ?_ ?_
  ·
   exact ⟨0, A_m, c_m, m, F.keep ⟨rfl, rfl, rfl, rfl, rfl, rfl, rfl, rfl, rfl, rfl, rfl, trivial⟩, M, O_l, O_m, (Nat.zero_le _), rfl, (by omega)⟩
  clear F M a O_l O_m
  rintro mq a v ⟨i, A_m2, c_m2, m2, F, M, O_l, O_m, hi, hm2, hq⟩; try clear u
  by_cases hin : i < ct.length
  ·
   obtain ⟨x, hx⟩ : ∃ x, ct[i]? = some x := ⟨_, List.getElem?_eq_getElem (by omega)⟩
   obtain ⟨ad2, hA2, zx⟩ := C_ix hct hx
   obtain rfl := Option.some.inj hA2
   refine wp_seq ?_
   refine wp_seq ?_
   refine wp_region_lit ?_
   refine list_val F (wn rfl) rfl rfl (.int .i64 ((i : Nat) : Int)) (ex_move _ rfl _ (F.e rfl)) ?_; clear F a; intro a F
   refine list_val F (wn rfl) rfl rfl (.slice (some ad) ct.length c) (ex_move _ rfl _ (F.e rfl)) ?_; clear F a; intro a F
   refine list_val F (wn rfl) rfl rfl (.int .i64 ((ct.length : Nat) : Int)) (ex_len _ _ rfl 20 r7_sl_22_20 _ _ _ (F.e rfl)) ?_; clear F a; intro a F
   refine list_val F (wn rfl) rfl rfl (.bool true) (ex_bin .lss _ _ _ _ rfl .i64 _ _ (F.e rfl) (F.e rfl) _ (b_lss (decide_eq_true (by omega)))) ?_; clear F a; intro a F
   refine wpList_nil ?_
   replace F : Fr 96 a [(0, .slice (some ad) ss.length c), (2, .bool false), (3, .slice A_l l.length c_l), (4, .slice A_m2 m2.length c_m2), (5, .slice (some ad) ct.length c), (6, .int .i64 ((ct.length : Nat) : Int)), (7, .int .i64 ((k : Nat) : Int)), (8, .int .i64 ((i : Nat) : Int)), (18, .bool false), (45, .bool true), (50, .bool b), (54, .bool true)] := F.keep ⟨rfl, rfl, rfl, rfl, rfl, rfl, rfl, rfl, rfl, rfl, rfl, rfl, trivial⟩
   refine then_n ?_
   refine wp_cond_true (F.e rfl) ?_
   refine wp_skip ?_
   refine then_n ?_
   refine wp_seq ?_
   refine wp_block ?_
   refine wp_seq ?_
   by_cases hg : x.grant = o.grant
   ·
    by_cases hd1 : x.do_ = 1
    ·
     have hd : x.do_ = 1 ∨ x.do_ = 2 := .inl hd1
     refine region_tail 26 r7_follows_mixedOrders (by kernel_rfl) M ?_; clear M; intro u M hb
     replace O_l := O_l.below hb
     replace O_m := O_m.below hb
     clear hb; try clear v
     refine still_val F (wn rfl) rfl rfl (.slice (some ad) ct.length c) (ex_move _ rfl _ (F.e rfl)) ?_; clear F a; intro a F
     refine still_val F (wn rfl) rfl rfl (.int .i64 ((i : Nat) : Int)) (ex_move _ rfl _ (F.e rfl)) ?_; clear F a; intro a F
     refine still_val F (wn rfl) rfl rfl (.pointer (some (ad.add (i * 20)))) (ex_ix _ _ _ rfl 20 r7_sl_22_20 ad _ _ (F.e rfl) .i64 _ (F.e rfl) i rfl (by omega) (ad.add (i * 20)) rfl) ?_; clear F a; intro a F
     refine still_val F (wn rfl) rfl rfl (.pointer (some ((ad.add (i * 20)).add 1))) (ex_fa _ _ _ rfl _ (F.e rfl) 1 r7_fa_29_1_1 ((ad.add (i * 20)).add 1) rfl) ?_; clear F a; intro a F
     refine still_val F (wn rfl) rfl rfl (.int .u64 x.grant) (ex_load _ _ rfl _ (F.e rfl) _ (lv1 r7_one_25 ((zx.below M.bel).cell 1 _ (St.cs_1 _)))) ?_; clear F a; intro a F
     refine still_val F (wn rfl) rfl rfl (.slice (some ad) ct.length c) (ex_move _ rfl _ (F.e rfl)) ?_; clear F a; intro a F
     refine still_val F (wn rfl) rfl rfl (.int .i64 ((k : Nat) : Int)) (ex_move _ rfl _ (F.e rfl)) ?_; clear F a; intro a F
     refine still_val F (wn rfl) rfl rfl (.pointer (some (ad.add (k * 20)))) (ex_ix _ _ _ rfl 20 r7_sl_22_20 ad _ _ (F.e rfl) .i64 _ (F.e rfl) k rfl (by omega) (ad.add (k * 20)) rfl) ?_; clear F a; intro a F
     refine still_val F (wn rfl) rfl rfl (.pointer (some ((ad.add (k * 20)).add 1))) (ex_fa _ _ _ rfl _ (F.e rfl) 1 r7_fa_29_1_1 ((ad.add (k * 20)).add 1) rfl) ?_; clear F a; intro a F
     refine still_val F (wn rfl) rfl rfl (.int .u64 o.grant) (ex_load _ _ rfl _ (F.e rfl) _ (lv1 r7_one_25 ((z.below M.bel).cell 1 _ (St.cs_1 _)))) ?_; clear F a; intro a F
     refine still_val F (wn rfl) rfl rfl (.bool true) (ex_bin .eql _ _ _ _ rfl .u64 _ _ (F.e rfl) (F.e rfl) _ (b_eql (by simp [hg]))) ?_; clear F a; intro a F
     refine still_val F (wn rfl) rfl rfl (.bool true) (ex_move _ rfl _ (F.e rfl)) ?_; clear F a; intro a F
     refine still_val F (F.wants 68 true rfl (by kernel_rfl) rfl true rfl) rfl rfl (.slice (some ad) ct.length c) (ex_move _ rfl _ (F.e rfl)) ?_; clear F a; intro a F
     refine still_val F (F.wants 68 true rfl (by kernel_rfl) rfl true rfl) rfl rfl (.int .i64 ((i : Nat) : Int)) (ex_move _ rfl _ (F.e rfl)) ?_; clear F a; intro a F
     refine still_val F (F.wants 68 true rfl (by kernel_rfl) rfl true rfl) rfl rfl (.pointer (some (ad.add (i * 20)))) (ex_ix _ _ _ rfl 20 r7_sl_22_20 ad _ _ (F.e rfl) .i64 _ (F.e rfl) i rfl (by omega) (ad.add (i * 20)) rfl) ?_; clear F a; intro a F
     refine still_val F (F.wants 68 true rfl (by kernel_rfl) rfl true rfl) rfl rfl (.pointer (some (ad.add (i * 20)))) (ex_fa _ _ _ rfl _ (F.e rfl) 0 r7_fa_29_0_0 (ad.add (i * 20)) rfl) ?_; clear F a; intro a F
     refine still_val F (F.wants 68 true rfl (by kernel_rfl) rfl true rfl) rfl rfl (.int .i64 x.do_) (ex_load _ _ rfl _ (F.e rfl) _ (lv1 r7_one_3 ((zx.below M.bel).cell 0 _ (St.cs_0 _)))) ?_; clear F a; intro a F
     refine still_val F (F.wants 68 true rfl (by kernel_rfl) rfl true rfl) rfl rfl (.bool true) (ex_bin .eql _ _ _ _ rfl .i64 _ _ (F.e rfl) rfl _ (b_eql (by simp [hd1]))) ?_; clear F a; intro a F
     refine still_val F (F.wants 68 true rfl (by kernel_rfl) rfl true rfl) rfl rfl (.bool true) (ex_move _ rfl _ (F.e rfl)) ?_; clear F a; intro a F
     refine still_skip F (F.wants 75 true rfl (by kernel_rfl) rfl false rfl) rfl rfl ?_; clear F a; intro a F
     refine still_skip F (F.wants 75 true rfl (by kernel_rfl) rfl false rfl) rfl rfl ?_; clear F a; intro a F
     refine still_skip F (F.wants 75 true rfl (by kernel_rfl) rfl false rfl) rfl rfl ?_; clear F a; intro a F
     refine still_skip F (F.wants 75 true rfl (by kernel_rfl) rfl false rfl) rfl rfl ?_; clear F a; intro a F
     refine still_skip F (F.wants 75 true rfl (by kernel_rfl) rfl false rfl) rfl rfl ?_; clear F a; intro a F
     refine still_skip F (F.wants 75 true rfl (by kernel_rfl) rfl false rfl) rfl rfl ?_; clear F a; intro a F
     refine still_val F (F.wants 68 true rfl (by kernel_rfl) rfl true rfl) rfl rfl (.bool true) (ex_pick_t _ _ _ rfl (F.e rfl) _ rfl) ?_; clear F a; intro a F
     refine still_end ?_
     refine list_val F (wn rfl) rfl rfl (.bool true) (ex_pick_t _ _ _ rfl (F.e rfl) _ (F.e rfl)) ?_; clear F a; intro a F
     refine wpList_nil ?_
     replace F : Fr 96 a [(0, .slice (some ad) ss.length c), (2, .bool false), (3, .slice A_l l.length c_l), (4, .slice A_m2 m2.length c_m2), (5, .slice (some ad) ct.length c), (6, .int .i64 ((ct.length : Nat) : Int)), (7, .int .i64 ((k : Nat) : Int)), (8, .int .i64 ((i : Nat) : Int)), (18, .bool false), (45, .bool true), (50, .bool b), (54, .bool true), (83, .bool true)] := F.keep ⟨rfl, rfl, rfl, rfl, rfl, rfl, rfl, rfl, rfl, rfl, rfl, rfl, rfl, trivial⟩
     refine then_n ?_
     refine wp_cond_true (F.e rfl) ?_
     refine wp_region_lit ?_
     refine list_val F (wn rfl) rfl rfl (.slice A_m2 m2.length c_m2) (ex_move _ rfl _ (F.e rfl)) ?_; clear F a; intro a F
     refine list_val F (wn rfl) rfl rfl (.slice (some ad) ct.length c) (ex_move _ rfl _ (F.e rfl)) ?_; clear F a; intro a F
     refine list_val F (wn rfl) rfl rfl (.int .i64 ((i : Nat) : Int)) (ex_move _ rfl _ (F.e rfl)) ?_; clear F a; intro a F
     refine list_val F (wn rfl) rfl rfl (.pointer (some (ad.add (i * 20)))) (ex_ix _ _ _ rfl 20 r7_sl_22_20 ad _ _ (F.e rfl) .i64 _ (F.e rfl) i rfl (by omega) (ad.add (i * 20)) rfl) ?_; clear F a; intro a F
     refine list_val F (wn rfl) rfl rfl (.agg x.arr) (ex_load _ _ rfl _ (F.e rfl) _ (lrow29 x ((zx.below M.bel)))) ?_; clear F a; intro a F
     refine list_do (wn rfl) (fun K hK => ?_)
     have hI := inG_is hm.1 hm2
     refine ow_call rfl rfl F 16 #[.slice A_m2 m2.length c_m2, .agg x.arr] (ex_call 16 _ _ rfl rfl r7_ent_16 _ (map2 (F.e rfl) (F.e rfl))) (step_any m2 hI.1 _ _ x hd _ O_m.rd.1 O_m.rd.2.2 (by omega)) (fun e v hR => ?_)
     obtain ⟨A_89, c_89, he, O_n, hb⟩ := hR
     replace O_n := O_n.low M.bel.size
     refine ⟨.slice A_89 ((stepF m2 x).length) c_89, he, ?_⟩; clear he F a; intro a F
     refine hK _ _ ?_
     clear hK K
     replace O_l := O_l.below hb
     replace O_m := O_m.below hb
     replace M := M.below hb; clear hb; try clear u
     clear O_m
     refine list_val F (wn rfl) rfl rfl (.slice A_89 ((stepF m2 x).length) c_89) (ex_assign _ rfl _ (F.e rfl)) ?_; clear F a; intro a F
     refine wpList_nil ?_
     replace F : Fr 96 a [(0, .slice (some ad) ss.length c), (2, .bool false), (3, .slice A_l l.length c_l), (4, .slice A_89 ((stepF m2 x).length) c_89), (5, .slice (some ad) ct.length c), (6, .int .i64 ((ct.length : Nat) : Int)), (7, .int .i64 ((k : Nat) : Int)), (8, .int .i64 ((i : Nat) : Int)), (18, .bool false), (45, .bool true), (50, .bool b), (54, .bool true), (83, .bool true)] := F.keep ⟨rfl, rfl, rfl, rfl, rfl, rfl, rfl, rfl, rfl, rfl, rfl, rfl, rfl, trivial⟩
     refine in_n ?_
     refine then_n ?_
     refine wp_region_lit ?_
     refine list_val F (wn rfl) rfl rfl (.int .i64 ((i : Nat) : Int)) (ex_move _ rfl _ (F.e rfl)) ?_; clear F a; intro a F
     refine list_val F (wn rfl) rfl rfl (.int .i64 ((i + 1 : Nat) : Int)) (ex_bin .add _ _ _ _ rfl .i64 _ _ (F.e rfl) rfl _ (b_add ((w_i64 (by omega) (by omega)).trans (by omega)))) ?_; clear F a; intro a F
     refine list_val F (wn rfl) rfl rfl (.int .i64 ((i + 1 : Nat) : Int)) (ex_assign _ rfl _ (F.e rfl)) ?_; clear F a; intro a F
     refine wpList_nil ?_
     replace F : Fr 96 a [(0, .slice (some ad) ss.length c), (2, .bool false), (3, .slice A_l l.length c_l), (4, .slice A_89 ((stepF m2 x).length) c_89), (5, .slice (some ad) ct.length c), (6, .int .i64 ((ct.length : Nat) : Int)), (7, .int .i64 ((k : Nat) : Int)), (8, .int .i64 ((i + 1 : Nat) : Int)), (18, .bool false), (45, .bool true), (50, .bool b), (54, .bool true), (83, .bool true)] := F.keep ⟨rfl, rfl, rfl, rfl, rfl, rfl, rfl, rfl, rfl, rfl, rfl, rfl, rfl, trivial⟩
     refine then_n ?_
     have O_m := O_n
     exact ⟨ct.length - (i + 1), by omega, (i + 1), A_89, c_89, (stepF m2 x), F.keep ⟨rfl, rfl, rfl, rfl, rfl, rfl, rfl, rfl, rfl, rfl, rfl, trivial⟩, (by refine M.pick' [] _ ?_ (by decide); exact trivial), O_l, O_m, (by omega), (inG_yes hm2 hx hg), (by omega)⟩
    by_cases hd2 : x.do_ = 2
    ·
     have hd : x.do_ = 1 ∨ x.do_ = 2 := .inr hd2
     refine region_tail 26 r7_follows_mixedOrders (by kernel_rfl) M ?_; clear M; intro u M hb
     replace O_l := O_l.below hb
     replace O_m := O_m.below hb
     clear hb; try clear v
     refine still_val F (wn rfl) rfl rfl (.slice (some ad) ct.length c) (ex_move _ rfl _ (F.e rfl)) ?_; clear F a; intro a F
     refine still_val F (wn rfl) rfl rfl (.int .i64 ((i : Nat) : Int)) (ex_move _ rfl _ (F.e rfl)) ?_; clear F a; intro a F
     refine still_val F (wn rfl) rfl rfl (.pointer (some (ad.add (i * 20)))) (ex_ix _ _ _ rfl 20 r7_sl_22_20 ad _ _ (F.e rfl) .i64 _ (F.e rfl) i rfl (by omega) (ad.add (i * 20)) rfl) ?_; clear F a; intro a F
     refine still_val F (wn rfl) rfl rfl (.pointer (some ((ad.add (i * 20)).add 1))) (ex_fa _ _ _ rfl _ (F.e rfl) 1 r7_fa_29_1_1 ((ad.add (i * 20)).add 1) rfl) ?_; clear F a; intro a F
     refine still_val F (wn rfl) rfl rfl (.int .u64 x.grant) (ex_load _ _ rfl _ (F.e rfl) _ (lv1 r7_one_25 ((zx.below M.bel).cell 1 _ (St.cs_1 _)))) ?_; clear F a; intro a F
     refine still_val F (wn rfl) rfl rfl (.slice (some ad) ct.length c) (ex_move _ rfl _ (F.e rfl)) ?_; clear F a; intro a F
     refine still_val F (wn rfl) rfl rfl (.int .i64 ((k : Nat) : Int)) (ex_move _ rfl _ (F.e rfl)) ?_; clear F a; intro a F
     refine still_val F (wn rfl) rfl rfl (.pointer (some (ad.add (k * 20)))) (ex_ix _ _ _ rfl 20 r7_sl_22_20 ad _ _ (F.e rfl) .i64 _ (F.e rfl) k rfl (by omega) (ad.add (k * 20)) rfl) ?_; clear F a; intro a F
     refine still_val F (wn rfl) rfl rfl (.pointer (some ((ad.add (k * 20)).add 1))) (ex_fa _ _ _ rfl _ (F.e rfl) 1 r7_fa_29_1_1 ((ad.add (k * 20)).add 1) rfl) ?_; clear F a; intro a F
     refine still_val F (wn rfl) rfl rfl (.int .u64 o.grant) (ex_load _ _ rfl _ (F.e rfl) _ (lv1 r7_one_25 ((z.below M.bel).cell 1 _ (St.cs_1 _)))) ?_; clear F a; intro a F
     refine still_val F (wn rfl) rfl rfl (.bool true) (ex_bin .eql _ _ _ _ rfl .u64 _ _ (F.e rfl) (F.e rfl) _ (b_eql (by simp [hg]))) ?_; clear F a; intro a F
     refine still_val F (wn rfl) rfl rfl (.bool true) (ex_move _ rfl _ (F.e rfl)) ?_; clear F a; intro a F
     refine still_val F (F.wants 68 true rfl (by kernel_rfl) rfl true rfl) rfl rfl (.slice (some ad) ct.length c) (ex_move _ rfl _ (F.e rfl)) ?_; clear F a; intro a F
     refine still_val F (F.wants 68 true rfl (by kernel_rfl) rfl true rfl) rfl rfl (.int .i64 ((i : Nat) : Int)) (ex_move _ rfl _ (F.e rfl)) ?_; clear F a; intro a F
     refine still_val F (F.wants 68 true rfl (by kernel_rfl) rfl true rfl) rfl rfl (.pointer (some (ad.add (i * 20)))) (ex_ix _ _ _ rfl 20 r7_sl_22_20 ad _ _ (F.e rfl) .i64 _ (F.e rfl) i rfl (by omega) (ad.add (i * 20)) rfl) ?_; clear F a; intro a F
     refine still_val F (F.wants 68 true rfl (by kernel_rfl) rfl true rfl) rfl rfl (.pointer (some (ad.add (i * 20)))) (ex_fa _ _ _ rfl _ (F.e rfl) 0 r7_fa_29_0_0 (ad.add (i * 20)) rfl) ?_; clear F a; intro a F
     refine still_val F (F.wants 68 true rfl (by kernel_rfl) rfl true rfl) rfl rfl (.int .i64 x.do_) (ex_load _ _ rfl _ (F.e rfl) _ (lv1 r7_one_3 ((zx.below M.bel).cell 0 _ (St.cs_0 _)))) ?_; clear F a; intro a F
     refine still_val F (F.wants 68 true rfl (by kernel_rfl) rfl true rfl) rfl rfl (.bool false) (ex_bin .eql _ _ _ _ rfl .i64 _ _ (F.e rfl) rfl _ (b_eql (by simp [hd1]))) ?_; clear F a; intro a F
     refine still_val F (F.wants 68 true rfl (by kernel_rfl) rfl true rfl) rfl rfl (.bool false) (ex_move _ rfl _ (F.e rfl)) ?_; clear F a; intro a F
     refine still_val F (F.wants 75 false rfl (by kernel_rfl) rfl true rfl) rfl rfl (.slice (some ad) ct.length c) (ex_move _ rfl _ (F.e rfl)) ?_; clear F a; intro a F
     refine still_val F (F.wants 75 false rfl (by kernel_rfl) rfl true rfl) rfl rfl (.int .i64 ((i : Nat) : Int)) (ex_move _ rfl _ (F.e rfl)) ?_; clear F a; intro a F
     refine still_val F (F.wants 75 false rfl (by kernel_rfl) rfl true rfl) rfl rfl (.pointer (some (ad.add (i * 20)))) (ex_ix _ _ _ rfl 20 r7_sl_22_20 ad _ _ (F.e rfl) .i64 _ (F.e rfl) i rfl (by omega) (ad.add (i * 20)) rfl) ?_; clear F a; intro a F
     refine still_val F (F.wants 75 false rfl (by kernel_rfl) rfl true rfl) rfl rfl (.pointer (some (ad.add (i * 20)))) (ex_fa _ _ _ rfl _ (F.e rfl) 0 r7_fa_29_0_0 (ad.add (i * 20)) rfl) ?_; clear F a; intro a F
     refine still_val F (F.wants 75 false rfl (by kernel_rfl) rfl true rfl) rfl rfl (.int .i64 x.do_) (ex_load _ _ rfl _ (F.e rfl) _ (lv1 r7_one_3 ((zx.below M.bel).cell 0 _ (St.cs_0 _)))) ?_; clear F a; intro a F
     refine still_val F (F.wants 75 false rfl (by kernel_rfl) rfl true rfl) rfl rfl (.bool true) (ex_bin .eql _ _ _ _ rfl .i64 _ _ (F.e rfl) rfl _ (b_eql (by simp [hd2]))) ?_; clear F a; intro a F
     refine still_val F (F.wants 68 true rfl (by kernel_rfl) rfl true rfl) rfl rfl (.bool true) (ex_pick_f _ _ _ rfl (F.e rfl) _ (F.e rfl)) ?_; clear F a; intro a F
     refine still_end ?_
     refine list_val F (wn rfl) rfl rfl (.bool true) (ex_pick_t _ _ _ rfl (F.e rfl) _ (F.e rfl)) ?_; clear F a; intro a F
     refine wpList_nil ?_
     replace F : Fr 96 a [(0, .slice (some ad) ss.length c), (2, .bool false), (3, .slice A_l l.length c_l), (4, .slice A_m2 m2.length c_m2), (5, .slice (some ad) ct.length c), (6, .int .i64 ((ct.length : Nat) : Int)), (7, .int .i64 ((k : Nat) : Int)), (8, .int .i64 ((i : Nat) : Int)), (18, .bool false), (45, .bool true), (50, .bool b), (54, .bool true), (83, .bool true)] := F.keep ⟨rfl, rfl, rfl, rfl, rfl, rfl, rfl, rfl, rfl, rfl, rfl, rfl, rfl, trivial⟩
     refine then_n ?_
     refine wp_cond_true (F.e rfl) ?_
     refine wp_region_lit ?_
     refine list_val F (wn rfl) rfl rfl (.slice A_m2 m2.length c_m2) (ex_move _ rfl _ (F.e rfl)) ?_; clear F a; intro a F
     refine list_val F (wn rfl) rfl rfl (.slice (some ad) ct.length c) (ex_move _ rfl _ (F.e rfl)) ?_; clear F a; intro a F
     refine list_val F (wn rfl) rfl rfl (.int .i64 ((i : Nat) : Int)) (ex_move _ rfl _ (F.e rfl)) ?_; clear F a; intro a F
     refine list_val F (wn rfl) rfl rfl (.pointer (some (ad.add (i * 20)))) (ex_ix _ _ _ rfl 20 r7_sl_22_20 ad _ _ (F.e rfl) .i64 _ (F.e rfl) i rfl (by omega) (ad.add (i * 20)) rfl) ?_; clear F a; intro a F
     refine list_val F (wn rfl) rfl rfl (.agg x.arr) (ex_load _ _ rfl _ (F.e rfl) _ (lrow29 x ((zx.below M.bel)))) ?_; clear F a; intro a F
     refine list_do (wn rfl) (fun K hK => ?_)
     have hI := inG_is hm.1 hm2
     refine ow_call rfl rfl F 16 #[.slice A_m2 m2.length c_m2, .agg x.arr] (ex_call 16 _ _ rfl rfl r7_ent_16 _ (map2 (F.e rfl) (F.e rfl))) (step_any m2 hI.1 _ _ x hd _ O_m.rd.1 O_m.rd.2.2 (by omega)) (fun e v hR => ?_)
     obtain ⟨A_89, c_89, he, O_n, hb⟩ := hR
     replace O_n := O_n.low M.bel.size
     refine ⟨.slice A_89 ((stepF m2 x).length) c_89, he, ?_⟩; clear he F a; intro a F
     refine hK _ _ ?_
     clear hK K
     replace O_l := O_l.below hb
     replace O_m := O_m.below hb
     replace M := M.below hb; clear hb; try clear u
     clear O_m
     refine list_val F (wn rfl) rfl rfl (.slice A_89 ((stepF m2 x).length) c_89) (ex_assign _ rfl _ (F.e rfl)) ?_; clear F a; intro a F
     refine wpList_nil ?_
     replace F : Fr 96 a [(0, .slice (some ad) ss.length c), (2, .bool false), (3, .slice A_l l.length c_l), (4, .slice A_89 ((stepF m2 x).length) c_89), (5, .slice (some ad) ct.length c), (6, .int .i64 ((ct.length : Nat) : Int)), (7, .int .i64 ((k : Nat) : Int)), (8, .int .i64 ((i : Nat) : Int)), (18, .bool false), (45, .bool true), (50, .bool b), (54, .bool true), (83, .bool true)] := F.keep ⟨rfl, rfl, rfl, rfl, rfl, rfl, rfl, rfl, rfl, rfl, rfl, rfl, rfl, trivial⟩
     refine in_n ?_
     refine then_n ?_
     refine wp_region_lit ?_
     refine list_val F (wn rfl) rfl rfl (.int .i64 ((i : Nat) : Int)) (ex_move _ rfl _ (F.e rfl)) ?_; clear F a; intro a F
     refine list_val F (wn rfl) rfl rfl (.int .i64 ((i + 1 : Nat) : Int)) (ex_bin .add _ _ _ _ rfl .i64 _ _ (F.e rfl) rfl _ (b_add ((w_i64 (by omega) (by omega)).trans (by omega)))) ?_; clear F a; intro a F
     refine list_val F (wn rfl) rfl rfl (.int .i64 ((i + 1 : Nat) : Int)) (ex_assign _ rfl _ (F.e rfl)) ?_; clear F a; intro a F
     refine wpList_nil ?_
     replace F : Fr 96 a [(0, .slice (some ad) ss.length c), (2, .bool false), (3, .slice A_l l.length c_l), (4, .slice A_89 ((stepF m2 x).length) c_89), (5, .slice (some ad) ct.length c), (6, .int .i64 ((ct.length : Nat) : Int)), (7, .int .i64 ((k : Nat) : Int)), (8, .int .i64 ((i + 1 : Nat) : Int)), (18, .bool false), (45, .bool true), (50, .bool b), (54, .bool true), (83, .bool true)] := F.keep ⟨rfl, rfl, rfl, rfl, rfl, rfl, rfl, rfl, rfl, rfl, rfl, rfl, rfl, trivial⟩
     refine then_n ?_
     have O_m := O_n
     exact ⟨ct.length - (i + 1), by omega, (i + 1), A_89, c_89, (stepF m2 x), F.keep ⟨rfl, rfl, rfl, rfl, rfl, rfl, rfl, rfl, rfl, rfl, rfl, trivial⟩, (by refine M.pick' [] _ ?_ (by decide); exact trivial), O_l, O_m, (by omega), (inG_yes hm2 hx hg), (by omega)⟩
    refine region_tail 26 r7_follows_mixedOrders (by kernel_rfl) M ?_; clear M; intro u M hb
    replace O_l := O_l.below hb
    replace O_m := O_m.below hb
    clear hb; try clear v
    refine still_val F (wn rfl) rfl rfl (.slice (some ad) ct.length c) (ex_move _ rfl _ (F.e rfl)) ?_; clear F a; intro a F
    refine still_val F (wn rfl) rfl rfl (.int .i64 ((i : Nat) : Int)) (ex_move _ rfl _ (F.e rfl)) ?_; clear F a; intro a F
    refine still_val F (wn rfl) rfl rfl (.pointer (some (ad.add (i * 20)))) (ex_ix _ _ _ rfl 20 r7_sl_22_20 ad _ _ (F.e rfl) .i64 _ (F.e rfl) i rfl (by omega) (ad.add (i * 20)) rfl) ?_; clear F a; intro a F
    refine still_val F (wn rfl) rfl rfl (.pointer (some ((ad.add (i * 20)).add 1))) (ex_fa _ _ _ rfl _ (F.e rfl) 1 r7_fa_29_1_1 ((ad.add (i * 20)).add 1) rfl) ?_; clear F a; intro a F
    refine still_val F (wn rfl) rfl rfl (.int .u64 x.grant) (ex_load _ _ rfl _ (F.e rfl) _ (lv1 r7_one_25 ((zx.below M.bel).cell 1 _ (St.cs_1 _)))) ?_; clear F a; intro a F
    refine still_val F (wn rfl) rfl rfl (.slice (some ad) ct.length c) (ex_move _ rfl _ (F.e rfl)) ?_; clear F a; intro a F
    refine still_val F (wn rfl) rfl rfl (.int .i64 ((k : Nat) : Int)) (ex_move _ rfl _ (F.e rfl)) ?_; clear F a; intro a F
    refine still_val F (wn rfl) rfl rfl (.pointer (some (ad.add (k * 20)))) (ex_ix _ _ _ rfl 20 r7_sl_22_20 ad _ _ (F.e rfl) .i64 _ (F.e rfl) k rfl (by omega) (ad.add (k * 20)) rfl) ?_; clear F a; intro a F
    refine still_val F (wn rfl) rfl rfl (.pointer (some ((ad.add (k * 20)).add 1))) (ex_fa _ _ _ rfl _ (F.e rfl) 1 r7_fa_29_1_1 ((ad.add (k * 20)).add 1) rfl) ?_; clear F a; intro a F
    refine still_val F (wn rfl) rfl rfl (.int .u64 o.grant) (ex_load _ _ rfl _ (F.e rfl) _ (lv1 r7_one_25 ((z.below M.bel).cell 1 _ (St.cs_1 _)))) ?_; clear F a; intro a F
    refine still_val F (wn rfl) rfl rfl (.bool true) (ex_bin .eql _ _ _ _ rfl .u64 _ _ (F.e rfl) (F.e rfl) _ (b_eql (by simp [hg]))) ?_; clear F a; intro a F
    refine still_val F (wn rfl) rfl rfl (.bool true) (ex_move _ rfl _ (F.e rfl)) ?_; clear F a; intro a F
    refine still_val F (F.wants 68 true rfl (by kernel_rfl) rfl true rfl) rfl rfl (.slice (some ad) ct.length c) (ex_move _ rfl _ (F.e rfl)) ?_; clear F a; intro a F
    refine still_val F (F.wants 68 true rfl (by kernel_rfl) rfl true rfl) rfl rfl (.int .i64 ((i : Nat) : Int)) (ex_move _ rfl _ (F.e rfl)) ?_; clear F a; intro a F
    refine still_val F (F.wants 68 true rfl (by kernel_rfl) rfl true rfl) rfl rfl (.pointer (some (ad.add (i * 20)))) (ex_ix _ _ _ rfl 20 r7_sl_22_20 ad _ _ (F.e rfl) .i64 _ (F.e rfl) i rfl (by omega) (ad.add (i * 20)) rfl) ?_; clear F a; intro a F
    refine still_val F (F.wants 68 true rfl (by kernel_rfl) rfl true rfl) rfl rfl (.pointer (some (ad.add (i * 20)))) (ex_fa _ _ _ rfl _ (F.e rfl) 0 r7_fa_29_0_0 (ad.add (i * 20)) rfl) ?_; clear F a; intro a F
    refine still_val F (F.wants 68 true rfl (by kernel_rfl) rfl true rfl) rfl rfl (.int .i64 x.do_) (ex_load _ _ rfl _ (F.e rfl) _ (lv1 r7_one_3 ((zx.below M.bel).cell 0 _ (St.cs_0 _)))) ?_; clear F a; intro a F
    refine still_val F (F.wants 68 true rfl (by kernel_rfl) rfl true rfl) rfl rfl (.bool false) (ex_bin .eql _ _ _ _ rfl .i64 _ _ (F.e rfl) rfl _ (b_eql (by simp [hd1]))) ?_; clear F a; intro a F
    refine still_val F (F.wants 68 true rfl (by kernel_rfl) rfl true rfl) rfl rfl (.bool false) (ex_move _ rfl _ (F.e rfl)) ?_; clear F a; intro a F
    refine still_val F (F.wants 75 false rfl (by kernel_rfl) rfl true rfl) rfl rfl (.slice (some ad) ct.length c) (ex_move _ rfl _ (F.e rfl)) ?_; clear F a; intro a F
    refine still_val F (F.wants 75 false rfl (by kernel_rfl) rfl true rfl) rfl rfl (.int .i64 ((i : Nat) : Int)) (ex_move _ rfl _ (F.e rfl)) ?_; clear F a; intro a F
    refine still_val F (F.wants 75 false rfl (by kernel_rfl) rfl true rfl) rfl rfl (.pointer (some (ad.add (i * 20)))) (ex_ix _ _ _ rfl 20 r7_sl_22_20 ad _ _ (F.e rfl) .i64 _ (F.e rfl) i rfl (by omega) (ad.add (i * 20)) rfl) ?_; clear F a; intro a F
    refine still_val F (F.wants 75 false rfl (by kernel_rfl) rfl true rfl) rfl rfl (.pointer (some (ad.add (i * 20)))) (ex_fa _ _ _ rfl _ (F.e rfl) 0 r7_fa_29_0_0 (ad.add (i * 20)) rfl) ?_; clear F a; intro a F
    refine still_val F (F.wants 75 false rfl (by kernel_rfl) rfl true rfl) rfl rfl (.int .i64 x.do_) (ex_load _ _ rfl _ (F.e rfl) _ (lv1 r7_one_3 ((zx.below M.bel).cell 0 _ (St.cs_0 _)))) ?_; clear F a; intro a F
    refine still_val F (F.wants 75 false rfl (by kernel_rfl) rfl true rfl) rfl rfl (.bool false) (ex_bin .eql _ _ _ _ rfl .i64 _ _ (F.e rfl) rfl _ (b_eql (by simp [hd2]))) ?_; clear F a; intro a F
    refine still_val F (F.wants 68 true rfl (by kernel_rfl) rfl true rfl) rfl rfl (.bool false) (ex_pick_f _ _ _ rfl (F.e rfl) _ (F.e rfl)) ?_; clear F a; intro a F
    refine still_end ?_
    refine list_val F (wn rfl) rfl rfl (.bool false) (ex_pick_t _ _ _ rfl (F.e rfl) _ (F.e rfl)) ?_; clear F a; intro a F
    refine wpList_nil ?_
    replace F : Fr 96 a [(0, .slice (some ad) ss.length c), (2, .bool false), (3, .slice A_l l.length c_l), (4, .slice A_m2 m2.length c_m2), (5, .slice (some ad) ct.length c), (6, .int .i64 ((ct.length : Nat) : Int)), (7, .int .i64 ((k : Nat) : Int)), (8, .int .i64 ((i : Nat) : Int)), (18, .bool false), (45, .bool true), (50, .bool b), (54, .bool true), (83, .bool false)] := F.keep ⟨rfl, rfl, rfl, rfl, rfl, rfl, rfl, rfl, rfl, rfl, rfl, rfl, rfl, trivial⟩
    refine then_n ?_
    refine wp_cond_false (F.e rfl) ?_
    refine wp_skip ?_
    refine in_n ?_
    refine then_n ?_
    refine wp_region_lit ?_
    refine list_val F (wn rfl) rfl rfl (.int .i64 ((i : Nat) : Int)) (ex_move _ rfl _ (F.e rfl)) ?_; clear F a; intro a F
    refine list_val F (wn rfl) rfl rfl (.int .i64 ((i + 1 : Nat) : Int)) (ex_bin .add _ _ _ _ rfl .i64 _ _ (F.e rfl) rfl _ (b_add ((w_i64 (by omega) (by omega)).trans (by omega)))) ?_; clear F a; intro a F
    refine list_val F (wn rfl) rfl rfl (.int .i64 ((i + 1 : Nat) : Int)) (ex_assign _ rfl _ (F.e rfl)) ?_; clear F a; intro a F
    refine wpList_nil ?_
    replace F : Fr 96 a [(0, .slice (some ad) ss.length c), (2, .bool false), (3, .slice A_l l.length c_l), (4, .slice A_m2 m2.length c_m2), (5, .slice (some ad) ct.length c), (6, .int .i64 ((ct.length : Nat) : Int)), (7, .int .i64 ((k : Nat) : Int)), (8, .int .i64 ((i + 1 : Nat) : Int)), (18, .bool false), (45, .bool true), (50, .bool b), (54, .bool true), (83, .bool false)] := F.keep ⟨rfl, rfl, rfl, rfl, rfl, rfl, rfl, rfl, rfl, rfl, rfl, rfl, rfl, trivial⟩
    refine then_n ?_
    exact ⟨ct.length - (i + 1), by omega, (i + 1), A_m2, c_m2, m2, F.keep ⟨rfl, rfl, rfl, rfl, rfl, rfl, rfl, rfl, rfl, rfl, rfl, trivial⟩, (by refine M.pick' [] _ ?_ (by decide); exact trivial), O_l, O_m, (by omega), (inG_no hm2 hx hg hd1 hd2), (by omega)⟩
   refine region_tail 26 r7_follows_mixedOrders (by kernel_rfl) M ?_; clear M; intro u M hb
   replace O_l := O_l.below hb
   replace O_m := O_m.below hb
   clear hb; try clear v
   refine still_val F (wn rfl) rfl rfl (.slice (some ad) ct.length c) (ex_move _ rfl _ (F.e rfl)) ?_; clear F a; intro a F
   refine still_val F (wn rfl) rfl rfl (.int .i64 ((i : Nat) : Int)) (ex_move _ rfl _ (F.e rfl)) ?_; clear F a; intro a F
   refine still_val F (wn rfl) rfl rfl (.pointer (some (ad.add (i * 20)))) (ex_ix _ _ _ rfl 20 r7_sl_22_20 ad _ _ (F.e rfl) .i64 _ (F.e rfl) i rfl (by omega) (ad.add (i * 20)) rfl) ?_; clear F a; intro a F
   refine still_val F (wn rfl) rfl rfl (.pointer (some ((ad.add (i * 20)).add 1))) (ex_fa _ _ _ rfl _ (F.e rfl) 1 r7_fa_29_1_1 ((ad.add (i * 20)).add 1) rfl) ?_; clear F a; intro a F
   refine still_val F (wn rfl) rfl rfl (.int .u64 x.grant) (ex_load _ _ rfl _ (F.e rfl) _ (lv1 r7_one_25 ((zx.below M.bel).cell 1 _ (St.cs_1 _)))) ?_; clear F a; intro a F
   refine still_val F (wn rfl) rfl rfl (.slice (some ad) ct.length c) (ex_move _ rfl _ (F.e rfl)) ?_; clear F a; intro a F
   refine still_val F (wn rfl) rfl rfl (.int .i64 ((k : Nat) : Int)) (ex_move _ rfl _ (F.e rfl)) ?_; clear F a; intro a F
   refine still_val F (wn rfl) rfl rfl (.pointer (some (ad.add (k * 20)))) (ex_ix _ _ _ rfl 20 r7_sl_22_20 ad _ _ (F.e rfl) .i64 _ (F.e rfl) k rfl (by omega) (ad.add (k * 20)) rfl) ?_; clear F a; intro a F
   refine still_val F (wn rfl) rfl rfl (.pointer (some ((ad.add (k * 20)).add 1))) (ex_fa _ _ _ rfl _ (F.e rfl) 1 r7_fa_29_1_1 ((ad.add (k * 20)).add 1) rfl) ?_; clear F a; intro a F
   refine still_val F (wn rfl) rfl rfl (.int .u64 o.grant) (ex_load _ _ rfl _ (F.e rfl) _ (lv1 r7_one_25 ((z.below M.bel).cell 1 _ (St.cs_1 _)))) ?_; clear F a; intro a F
   refine still_val F (wn rfl) rfl rfl (.bool false) (ex_bin .eql _ _ _ _ rfl .u64 _ _ (F.e rfl) (F.e rfl) _ (b_eql (by simp [hg]))) ?_; clear F a; intro a F
   refine still_val F (wn rfl) rfl rfl (.bool false) (ex_move _ rfl _ (F.e rfl)) ?_; clear F a; intro a F
   refine still_skip F (F.wants 68 false rfl (by kernel_rfl) rfl false rfl) rfl rfl ?_; clear F a; intro a F
   refine still_skip F (F.wants 68 false rfl (by kernel_rfl) rfl false rfl) rfl rfl ?_; clear F a; intro a F
   refine still_skip F (F.wants 68 false rfl (by kernel_rfl) rfl false rfl) rfl rfl ?_; clear F a; intro a F
   refine still_skip F (F.wants 68 false rfl (by kernel_rfl) rfl false rfl) rfl rfl ?_; clear F a; intro a F
   refine still_skip F (F.wants 68 false rfl (by kernel_rfl) rfl false rfl) rfl rfl ?_; clear F a; intro a F
   refine still_skip F (F.wants 68 false rfl (by kernel_rfl) rfl false rfl) rfl rfl ?_; clear F a; intro a F
   refine still_skip F (F.wants 68 false rfl (by kernel_rfl) rfl false rfl) rfl rfl ?_; clear F a; intro a F
   refine still_skip F (F.wants0 75 rfl (by kernel_rfl) rfl) rfl rfl ?_; clear F a; intro a F
   refine still_skip F (F.wants0 75 rfl (by kernel_rfl) rfl) rfl rfl ?_; clear F a; intro a F
   refine still_skip F (F.wants0 75 rfl (by kernel_rfl) rfl) rfl rfl ?_; clear F a; intro a F
   refine still_skip F (F.wants0 75 rfl (by kernel_rfl) rfl) rfl rfl ?_; clear F a; intro a F
   refine still_skip F (F.wants0 75 rfl (by kernel_rfl) rfl) rfl rfl ?_; clear F a; intro a F
   refine still_skip F (F.wants0 75 rfl (by kernel_rfl) rfl) rfl rfl ?_; clear F a; intro a F
   refine still_skip F (F.wants 68 false rfl (by kernel_rfl) rfl false rfl) rfl rfl ?_; clear F a; intro a F
   refine still_end ?_
   refine list_val F (wn rfl) rfl rfl (.bool false) (ex_pick_f _ _ _ rfl (F.e rfl) _ rfl) ?_; clear F a; intro a F
   refine wpList_nil ?_
   replace F : Fr 96 a [(0, .slice (some ad) ss.length c), (2, .bool false), (3, .slice A_l l.length c_l), (4, .slice A_m2 m2.length c_m2), (5, .slice (some ad) ct.length c), (6, .int .i64 ((ct.length : Nat) : Int)), (7, .int .i64 ((k : Nat) : Int)), (8, .int .i64 ((i : Nat) : Int)), (18, .bool false), (45, .bool true), (50, .bool b), (54, .bool true), (83, .bool false)] := F.keep ⟨rfl, rfl, rfl, rfl, rfl, rfl, rfl, rfl, rfl, rfl, rfl, rfl, rfl, trivial⟩
   refine then_n ?_
   refine wp_cond_false (F.e rfl) ?_
   refine wp_skip ?_
   refine in_n ?_
   refine then_n ?_
   refine wp_region_lit ?_
   refine list_val F (wn rfl) rfl rfl (.int .i64 ((i : Nat) : Int)) (ex_move _ rfl _ (F.e rfl)) ?_; clear F a; intro a F
   refine list_val F (wn rfl) rfl rfl (.int .i64 ((i + 1 : Nat) : Int)) (ex_bin .add _ _ _ _ rfl .i64 _ _ (F.e rfl) rfl _ (b_add ((w_i64 (by omega) (by omega)).trans (by omega)))) ?_; clear F a; intro a F
   refine list_val F (wn rfl) rfl rfl (.int .i64 ((i + 1 : Nat) : Int)) (ex_assign _ rfl _ (F.e rfl)) ?_; clear F a; intro a F
   refine wpList_nil ?_
   replace F : Fr 96 a [(0, .slice (some ad) ss.length c), (2, .bool false), (3, .slice A_l l.length c_l), (4, .slice A_m2 m2.length c_m2), (5, .slice (some ad) ct.length c), (6, .int .i64 ((ct.length : Nat) : Int)), (7, .int .i64 ((k : Nat) : Int)), (8, .int .i64 ((i + 1 : Nat) : Int)), (18, .bool false), (45, .bool true), (50, .bool b), (54, .bool true), (83, .bool false)] := F.keep ⟨rfl, rfl, rfl, rfl, rfl, rfl, rfl, rfl, rfl, rfl, rfl, rfl, rfl, trivial⟩
   refine then_n ?_
   exact ⟨ct.length - (i + 1), by omega, (i + 1), A_m2, c_m2, m2, F.keep ⟨rfl, rfl, rfl, rfl, rfl, rfl, rfl, rfl, rfl, rfl, rfl, trivial⟩, (by refine M.pick' [] _ ?_ (by decide); exact trivial), O_l, O_m, (by omega), (inG_oth hm2 hx hg), (by omega)⟩
  obtain rfl : i = ct.length := by omega
  refine wp_seq ?_
  refine wp_seq ?_
  refine wp_region_lit ?_
  refine list_val F (wn rfl) rfl rfl (.int .i64 ((ct.length : Nat) : Int)) (ex_move _ rfl _ (F.e rfl)) ?_; clear F a; intro a F
  refine list_val F (wn rfl) rfl rfl (.slice (some ad) ct.length c) (ex_move _ rfl _ (F.e rfl)) ?_; clear F a; intro a F
  refine list_val F (wn rfl) rfl rfl (.int .i64 ((ct.length : Nat) : Int)) (ex_len _ _ rfl 20 r7_sl_22_20 _ _ _ (F.e rfl)) ?_; clear F a; intro a F
  refine list_val F (wn rfl) rfl rfl (.bool false) (ex_bin .lss _ _ _ _ rfl .i64 _ _ (F.e rfl) (F.e rfl) _ (b_lss (decide_eq_false (by omega)))) ?_; clear F a; intro a F
  refine wpList_nil ?_
  replace F : Fr 96 a [(0, .slice (some ad) ss.length c), (2, .bool false), (3, .slice A_l l.length c_l), (4, .slice A_m2 m2.length c_m2), (5, .slice (some ad) ct.length c), (6, .int .i64 ((ct.length : Nat) : Int)), (7, .int .i64 ((k : Nat) : Int)), (8, .int .i64 ((ct.length : Nat) : Int)), (18, .bool false), (45, .bool true), (50, .bool b), (54, .bool false)] := F.keep ⟨rfl, rfl, rfl, rfl, rfl, rfl, rfl, rfl, rfl, rfl, rfl, rfl, trivial⟩
  refine then_n ?_
  refine wp_cond_false (F.e rfl) ?_
  refine wp_exit ?_
  refine then_x ?_
  refine then_x ?_
  refine in_hit ?_
  refine in_n ?_
  refine then_n ?_
  refine wp_region_lit ?_
  refine list_val F (wn rfl) rfl rfl (.int .i64 ((k : Nat) : Int)) (ex_move _ rfl _ (F.e rfl)) ?_; clear F a; intro a F
  refine list_val F (wn rfl) rfl rfl (.int .i64 (((k : Nat) : Int) - 1)) (ex_bin .sub _ _ _ _ rfl .i64 _ _ (F.e rfl) rfl _ (b_sub (w_i64 (by omega) (by omega)))) ?_; clear F a; intro a F
  refine list_val F (wn rfl) rfl rfl (.int .i64 (((k : Nat) : Int) - 1)) (ex_assign _ rfl _ (F.e rfl)) ?_; clear F a; intro a F
  refine wpList_nil ?_
  replace F : Fr 96 a [(0, .slice (some ad) ss.length c), (2, .bool false), (3, .slice A_l l.length c_l), (4, .slice A_m2 m2.length c_m2), (5, .slice (some ad) ct.length c), (6, .int .i64 ((ct.length : Nat) : Int)), (7, .int .i64 (((k : Nat) : Int) - 1)), (8, .int .i64 ((ct.length : Nat) : Int)), (18, .bool false), (45, .bool true), (50, .bool b), (54, .bool false)] := F.keep ⟨rfl, rfl, rfl, rfl, rfl, rfl, rfl, rfl, rfl, rfl, rfl, rfl, trivial⟩
  refine then_n ?_
  exact ⟨ct.length - (r + 1), by omega, k, A_m2, c_m2, m2, (r + 1), F.keep ⟨rfl, rfl, rfl, rfl, rfl, rfl, rfl, rfl, trivial⟩, (by refine M.pick' [] _ ?_ (by decide); exact trivial), O_l, O_m, (by omega), (inG_end hm ho hL' hm2), (by have := (inG_is hm.1 hm2).2; omega), (by omega)⟩
 obtain rfl : j = 0 := by omega
 refine wp_seq ?_
 refine wp_seq ?_
 refine wp_region_lit ?_
 refine list_val F (wn rfl) rfl rfl (.int .i64 (((0 : Nat) : Int) - 1)) (ex_move _ rfl _ (F.e rfl)) ?_; clear F a; intro a F
 refine list_val F (wn rfl) rfl rfl (.bool false) (ex_bin .geq _ _ _ _ rfl .i64 _ _ (F.e rfl) rfl _ (b_geq (decide_eq_false (by omega)))) ?_; clear F a; intro a F
 refine wpList_nil ?_
 replace F : Fr 96 a [(0, .slice A ss.length c), (2, .bool false), (3, .slice A_l l.length c_l), (4, .slice A_m m.length c_m), (5, .slice A ct.length c), (6, .int .i64 ((ct.length : Nat) : Int)), (7, .int .i64 (((0 : Nat) : Int) - 1)), (18, .bool false), (45, .bool false)] := F.keep ⟨rfl, rfl, rfl, rfl, rfl, rfl, rfl, rfl, rfl, trivial⟩
 refine then_n ?_
 refine wp_cond_false (F.e rfl) ?_
 refine wp_exit ?_
 refine then_x ?_
 refine then_x ?_
 refine in_hit ?_
 refine then_n ?_
 refine wp_seq ?_
 obtain rfl : l = m := hl.trans hm.end
 refine wp_region_lit ?_
 refine list_val F (wn rfl) rfl rfl (.slice A_l l.length c_l) (ex_move _ rfl _ (F.e rfl)) ?_; clear F a; intro a F
 refine list_val F (wn rfl) rfl rfl (.slice A_m l.length c_m) (ex_move _ rfl _ (F.e rfl)) ?_; clear F a; intro a F
 refine list_do (wn rfl) (fun K hK => ?_)
 refine ow_call rfl rfl F 18 #[.slice A_l l.length c_l, .slice A_m l.length c_m] (ex_call 18 _ _ rfl rfl r7_ent_18 _ (map2 (F.e rfl) (F.e rfl))) (eq_any l _ _ _ _ _ O_l.rd.1 O_m.rd.1 (by have := (fold_is hl0).2; omega)) (fun e u hR => ?_)
 obtain ⟨he, hb⟩ := hR
 refine ⟨.bool true, he, ?_⟩; clear he F a; intro a F
 refine hK _ _ ?_
 clear hK K
 replace O_l := O_l.below hb
 replace O_m := O_m.below hb
 replace M := M.below hb; clear hb; try clear v
 refine list_val F (wn rfl) rfl rfl (.bool true) (ex_move _ rfl _ (F.e rfl)) ?_; clear F a; intro a F
 refine list_do (F.wants 93 true rfl (by kernel_rfl) rfl true rfl) (fun K hK => ?_)
 refine ow_call rfl rfl F 15 #[] (ex_call 15 _ _ rfl rfl r7_ent_15 _ (map0)) (wakes_any _) (fun e v hR => ?_)
 obtain ⟨he, hb⟩ := hR
 refine ⟨.bool true, he, ?_⟩; clear he F a; intro a F
 refine hK _ _ ?_
 clear hK K
 replace O_l := O_l.below hb
 replace O_m := O_m.below hb
 replace M := M.below hb; clear hb; try clear u
 refine list_val F (wn rfl) rfl rfl (.bool true) (ex_pick_t _ _ _ rfl (F.e rfl) _ (F.e rfl)) ?_; clear F a; intro a F
 refine list_val F (wn rfl) rfl rfl (.bool true) (ex_assign _ rfl _ (F.e rfl)) ?_; clear F a; intro a F
 refine wpList_nil ?_
 replace F : Fr 96 a [(0, .slice A ss.length c), (2, .bool true), (3, .slice A_l l.length c_l), (4, .slice A_m l.length c_m), (5, .slice A ct.length c), (6, .int .i64 ((ct.length : Nat) : Int)), (7, .int .i64 (((0 : Nat) : Int) - 1)), (18, .bool false), (45, .bool false)] := F.keep ⟨rfl, rfl, rfl, rfl, rfl, rfl, rfl, rfl, rfl, trivial⟩
 refine then_n ?_
 refine wp_ret ?_
 exact ret_tmp F rfl rfl ⟨rfl, M.bel⟩
end Go.Proofs.Ytnjbjjmoglogeaa
