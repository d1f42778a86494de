/- Loans of a ring's keys (posternlaw1), what is asked of a ring (posternlaw5.asks): their walks. Conditions: the ring's keys are read; there are no more than 1000000. -/
import Derived.Test.YtnechcibpmjblaaRB
namespace Go.Proofs.Ytnechcibpmjblaa
open Go.RowKit Go.Proofs.YtnechcibpmjblaaW.PrintWords KB WG
set_option linter.unusedVariables false
set_option linter.unusedSimpArgs false

/-- The mark behind a loan. -/
def mkK : Key := ⟨777, zBs 32, -777⟩
def marks : List Key := List.replicate 9 mkK
theorem build107_02 (w : World) : (Instr.build 107 #[(0, .int .u64 777), (2, .int .i64 (-777))]).run Try.prog w = .ok (.agg mkK.arr) w := by kernel_rfl
theorem build69_01 (A : Option Addr) (n c : Nat) (m : Int) (w : World) : (Instr.build 69 #[(0, .slice A n c), (1, .int .u64 m)]).run Try.prog w = .ok (.agg #[.slice A n c, .int .u64 m]) w := by kernel_rfl
theorem marks_len (ks : List Key) : (ks ++ marks).length = ks.length + 9 := by simp [marks]
section
variable {P : Program} {a : Act} {w w0 : World} {n : Nat} {L : List (Nat × Value)} {H : List Blk} {op : Oper} {K : Act → World → Prop} {Q : Exit → Act → World → Prop} {ρ : Operand → Value}
theorem ow_make (F : Fr n a L) (M : Mm w0 w H) {d : Nat} (hd : op.dst = some d) (hlt : Nat.blt d n = true) (x y : Operand) (ho : op.op = .makeSlice 55 x y) (hx : a.eval x = .int .i64 0) (m : Int) (hy : a.eval y = .int .i64 m) (c : Nat) (hm : m = (c : Int)) (hc : c ≤ 2000000)
    (h : ∀ a' g w', Fr n a' ((d, .slice (some ⟨g, 0, none⟩) 0 c) :: L) → Mm w0 w' H → OwnKeys w' w0.heap.size (.slice (some ⟨g, 0, none⟩) 0 c) [] → Below w.heap.size w w' → K a' w') : op.wp Try.prog a w K Q := by
  subst hm
  obtain ⟨i0, hi, hzz⟩ := Option.map_eq_some_iff.1 info107z
  simp only [Prod.mk.injEq] at hzz
  obtain ⟨hz0, hz1, hz2⟩ := hzz
  obtain ⟨w', hr, hown, hg⟩ := run_make_own (P := Try.prog) w w0.heap.size 55 107 i0 (.agg zKey.arr) 34 Try.underlying55 hi hz0 hz1 .i64 .i64 c (by rw [hz2]; omega) (by simp only [maxLen]; omega) M.bel.size
  have hb : Below w.heap.size w w' := (Below.refl _ w).grown hg (Nat.le_refl _) (fun k hk => by cases hk)
  unfold Oper.wp execOp
  simp only [ho, hx, hy, Sem.run_bind, hr, Result.andThen_ok, Sem.run_pure]
  exact (by rw [hd]; exact h _ _ w' (F.put _ hlt) (M.below hb) ⟨fun _ _ => trivial, [], hown, Reps.none _ _⟩ hb : K (a.put op.dst _) w')
theorem ex_cutto (x y : Operand) (ho : op.op = .slice 55 x none (some y) none) (A : Option Addr) (q c : Nat) (hx : ρ x = .slice A q c) (j : Int) (hy : ρ y = .int .i64 j) (m : Nat) (hm : j = (m : Int)) (hc : m ≤ c) :
    (execOp ρ op).run Try.prog w = .ok (.value (.slice A m c)) w := by
  subst hm
  have hel : Try.prog.elem 55 = 107 := by simp [Program.elem, Try.underlying55]
  have hu : Try.prog.underlying 55 = some (.slice (Try.prog.elem 55)) := by rw [hel]; exact Try.underlying55
  obtain ⟨i0, hi, hzz⟩ := Option.map_eq_some_iff.1 info107z
  have ha : (A.map fun x => x.add 0) = A := by cases A <;> simp [Addr.add]
  have hr : (Instr.slice 55 (.slice A q c) none (some (.int .i64 (m : Int))) none).run Try.prog w = .ok (.slice A m c) w := by
    rw [run_slice_h w 55 A q c hu .i64 (m : Int) (by omega) (by omega), hel]
    simp [sizeOf, typeInfo, hi, sliced, Result.andThen, ha]
  unfold execOp
  simp only [ho, hx, hy, Option.map_some, Option.map_none, Sem.run_bind, run_sliceAt_slice _ _ _ _ _ _ hu, hr, Result.andThen_ok, Sem.run_pure]
end
theorem C_take {w : World} {A : Option Addr} {n m : Nat} {ks ms : List Key} (h : kKey.C w A m (ks ++ ms)) (hn : ks.length = n) : kKey.C w A n ks := by
  subst hn
  obtain ⟨h1, h2, h3⟩ := h
  rw [List.length_append] at h1
  refine ⟨rfl, by omega, fun h0 => ?_⟩
  obtain ⟨ad, e, hc⟩ := h3 (by omega)
  exact ⟨ad, e, fun k x hx => hc k x (by rw [List.getElem?_append_left (List.getElem?_eq_some_iff.1 hx).1]; exact hx)⟩
theorem rdK_left {ks ms : List Key} {i : Nat} (h : i < ks.length) : rdK (ks ++ ms) (i : Int) = rdK ks (i : Int) := by
  rw [rdK_eq h, rdK_eq (by rw [List.length_append]; omega), List.getElem_append_left h]
theorem rdK_mark {ks : List Key} {i : Nat} (h : ks.length ≤ i) (h2 : i < ks.length + 9) : rdK (ks ++ marks) (i : Int) = mkK := by
  rw [rdK_eq (by rw [marks_len]; exact h2), List.getElem_append_right h]
  exact List.getElem_replicate _
/-- The lent keys, and the marks behind them, out of the block. -/
theorem lent_all {w : World} {g : Nat} {ks : List Key} {sp : List Value} (h : At w ⟨g, 0, none⟩ ((ks ++ marks).flatMap Key.cs ++ sp)) (hl : ks.length ≤ 1000000) : kKey.C w (some ⟨g, 0, none⟩) (ks ++ marks).length (ks ++ marks) := rows_C' Key.cs_len h rfl (by rw [marks_len]; simp only [maxLen]; omega)
theorem lent_C {w : World} {g : Nat} {ks : List Key} {sp : List Value} (h : At w ⟨g, 0, none⟩ ((ks ++ marks).flatMap Key.cs ++ sp)) (hl : ks.length ≤ 1000000) : kKey.C w (some ⟨g, 0, none⟩) ks.length ks := C_take (lent_all h hl) rfl
theorem rc_sl_55_34 : sl? Try.prog 55 34 = true := by kernel_rfl
set_option maxHeartbeats 4000000 in
set_option maxRecDepth 100000 in
theorem lendKeys_any (ks : List Key) (A : Option Addr) (c : Nat) (w : World) (hr : kKey.C w A ks.length ks) (hc : ks.length ≤ c) (hl : ks.length ≤ 900000) :
    Calls Try.prog 32 #[.slice A ks.length c] w fun e w' => ∃ A' c', e = .returned (.slice A' ks.length c') ∧ OwnKeys w' w.heap.size (.slice A' (ks ++ marks).length c') (ks ++ marks) ∧ Below w.heap.size w w' := by
 refine calls_start Try.func32 rfl rfl rfl (fun a F => ?_)
 have M : Mm w w [] := Mm.nil w
 refine wp_seq ?_
 refine wp_region_lit ?_
 refine list_val F (wn rfl) rfl rfl (.slice none 0 0) (ex_assign _ rfl _ rfl) ?_; clear F a; intro a F
 refine wpList_nil ?_
 replace F : Fr 24 a [(0, .slice A ks.length c), (2, .slice none 0 0)] := F.keep ⟨rfl, rfl, trivial⟩
 refine then_n ?_
 refine wp_seq ?_
 refine wp_region_lit ?_
 refine list_val F (wn rfl) rfl rfl (.slice A ks.length c) (ex_move _ rfl _ (F.e rfl)) ?_; clear F a; intro a F
 refine list_val F (wn rfl) rfl rfl (.int .i64 ((ks.length : Nat) : Int)) (ex_len _ _ rfl 34 rc_sl_55_34 _ _ _ (F.e rfl)) ?_; clear F a; intro a F
 refine list_val F (wn rfl) rfl rfl (.int .i64 (((ks.length : Nat) : Int) + 9)) (ex_bin .add _ _ _ _ rfl .i64 _ _ (F.e rfl) rfl _ (b_add (w_i64 (by omega) (by omega)))) ?_; clear F a; intro a F
 refine list_do (wn rfl) (fun K hK => ?_)
 refine ow_make F M rfl rfl _ _ rfl rfl _ (F.e rfl) (ks.length + 9) (by omega) (by omega) ?_
 clear F M a; intro a g8 v F M O_x hb
 refine hK _ _ ?_
 clear hK K
 clear hb; try clear w
 refine list_val F (wn rfl) rfl rfl (.slice (some ⟨g8, 0, none⟩) 0 (ks.length + 9)) (ex_assign _ rfl _ (F.e rfl)) ?_; clear F a; intro a F
 refine wpList_nil ?_
 replace F : Fr 24 a [(0, .slice A ks.length c), (2, .slice none 0 0), (3, .slice (some ⟨g8, 0, none⟩) 0 (ks.length + 9))] := F.keep ⟨rfl, rfl, rfl, trivial⟩
 refine then_n ?_
 refine wp_seq ?_
 refine wp_region_lit ?_
 refine list_val F (wn rfl) rfl rfl (.slice (some ⟨g8, 0, none⟩) 0 (ks.length + 9)) (ex_move _ rfl _ (F.e rfl)) ?_; clear F a; intro a F
 refine list_val F (wn rfl) rfl rfl (.slice A ks.length c) (ex_move _ rfl _ (F.e rfl)) ?_; clear F a; intro a F
 refine list_do (wn rfl) (fun K hK => ?_)
 refine ow_ownapp F M rfl rfl rfl rfl _ _ rfl _ _ _ [] ks _ _ _ (F.e rfl) (F.e rfl) O_x (Kd.C_below hr M.bel) (by simp; omega) ?_
 clear F a M O_x; intro a A_11 c_11 u F M O_x
 refine hK _ _ ?_
 clear hK K
 try clear v
 refine list_val F (wn rfl) rfl rfl (.slice A_11 (([] ++ ks).length) c_11) (ex_assign _ rfl _ (F.e rfl)) ?_; clear F a; intro a F
 refine wpList_nil ?_
 replace F : Fr 24 a [(0, .slice A ks.length c), (2, .slice none 0 0), (3, .slice A_11 (([] ++ ks).length) c_11)] := F.keep ⟨rfl, rfl, rfl, trivial⟩
 refine then_n ?_
 refine wp_seq ?_
 refine wp_seq ?_
 refine wp_region_lit ?_
 refine list_val F (wn rfl) rfl rfl (.int .i64 0) (ex_assign _ rfl _ rfl) ?_; clear F a; intro a F
 refine wpList_nil ?_
 replace F : Fr 24 a [(0, .slice A ks.length c), (2, .slice none 0 0), (3, .slice A_11 (([] ++ ks).length) c_11), (4, .int .i64 0)] := F.keep ⟨rfl, rfl, rfl, rfl, trivial⟩
 refine then_n ?_
 refine wp_block ?_
 rw [show [] ++ ks = ks ++ List.replicate 0 mkK by simp] at F O_x
 refine wp_loopN (fun mq ar wr => ∃ (i : Nat), ∃ (B : Option Addr), ∃ (b : Nat), Fr 24 ar [(0, .slice A ks.length c), (2, .slice none 0 0), (3, .slice B ((ks ++ List.replicate i mkK).length) b), (4, .int .i64 i)] ∧ Mm w wr [] ∧ OwnKeys wr w.heap.size (.slice B (ks ++ List.replicate i mkK).length b) (ks ++ List.replicate i mkK) ∧ i ≤ 9 ∧ mq + i = 9) 9 ?_ ?_
 ·
  exact ⟨0, A_11, c_11, F.keep ⟨rfl, rfl, rfl, rfl, trivial⟩, M, O_x, (Nat.zero_le _), (by omega)⟩
 clear F M a O_x
 rintro mq a v ⟨i, B, b, F, M, O_x, hi, hq⟩; try clear u
 by_cases hin : i < 9
 ·
  have hst : ks ++ List.replicate (i + 1) mkK = ks ++ List.replicate i mkK ++ [mkK] := by rw [List.replicate_succ', List.append_assoc]
  have hpl : (ks ++ List.replicate i mkK).length = ks.length + i := by simp
  refine wp_seq ?_
  refine wp_seq ?_
  refine wp_region_lit ?_
  refine list_val F (wn rfl) rfl rfl (.int .i64 i) (ex_move _ rfl _ (F.e rfl)) ?_; clear F a; intro a F
  refine list_val F (wn rfl) rfl rfl (.bool true) (ex_bin .lss _ _ _ _ rfl .i64 _ _ (F.e rfl) rfl _ (b_lss (decide_eq_true (by omega)))) ?_; clear F a; intro a F
  refine wpList_nil ?_
  replace F : Fr 24 a [(0, .slice A ks.length c), (2, .slice none 0 0), (3, .slice B ((ks ++ List.replicate i mkK).length) b), (4, .int .i64 i), (13, .bool true)] := F.keep ⟨rfl, rfl, rfl, rfl, rfl, trivial⟩
  refine then_n ?_
  refine wp_cond_true (F.e rfl) ?_
  refine wp_skip ?_
  refine then_n ?_
  refine wp_seq ?_
  refine wp_block ?_
  refine wp_region_lit ?_
  refine list_val F (wn rfl) rfl rfl (.slice B ((ks ++ List.replicate i mkK).length) b) (ex_move _ rfl _ (F.e rfl)) ?_; clear F a; intro a F
  refine list_val F (wn rfl) rfl rfl (.agg mkK.arr) (ex_build 107 _ rfl #[(0, .int .u64 777), (2, .int .i64 (-777))] (parts2 rfl rfl) (.agg mkK.arr) (build107_02 _)) ?_; clear F a; intro a F
  refine list_do (wn rfl) (fun K hK => ?_)
  refine ow_bslice F M rfl rfl 55 1 _ rfl #[(0, .agg mkK.arr)] (parts1 (F.e rfl)) mkK.arr 107 (newKeys mkK _) ?_
  clear F M a; intro a g18 u F M hb hg
  refine hK _ _ ?_
  clear hK K
  replace O_x := Kd.R_below O_x hb
  clear hb hg; try clear v
  refine list_do (wn rfl) (fun K hK => ?_)
  have hks := kKey_one mkK (M.at (i := 0) rfl)
  replace M : Mm w u [] := (by refine M.pick' [] _ ?_ (by decide); exact trivial)
  refine ow_ownapp F M rfl rfl rfl rfl _ _ rfl _ _ _ (ks ++ List.replicate i mkK) [mkK] _ 1 1 (F.e rfl) (F.e rfl) O_x hks (by omega) ?_
  clear F a M O_x hks; intro a A_19 c_19 v F M O_x
  refine hK _ _ ?_
  clear hK K
  try clear u
  refine list_val F (wn rfl) rfl rfl (.slice A_19 (((ks ++ List.replicate i mkK) ++ [mkK]).length) c_19) (ex_assign _ rfl _ (F.e rfl)) ?_; clear F a; intro a F
  refine wpList_nil ?_
  replace F : Fr 24 a [(0, .slice A ks.length c), (2, .slice none 0 0), (3, .slice A_19 (((ks ++ List.replicate i mkK) ++ [mkK]).length) c_19), (4, .int .i64 i), (13, .bool true)] := F.keep ⟨rfl, rfl, rfl, rfl, rfl, trivial⟩
  refine in_n ?_
  refine then_n ?_
  refine wp_region_lit ?_
  refine list_val F (wn rfl) rfl rfl (.int .i64 i) (ex_move _ rfl _ (F.e rfl)) ?_; clear F a; intro a F
  refine list_val F (wn rfl) rfl rfl (.int .i64 (i + 1)) (ex_bin .add _ _ _ _ rfl .i64 _ _ (F.e rfl) rfl _ (b_add (w_i64 (by omega) (by omega)))) ?_; clear F a; intro a F
  refine list_val F (wn rfl) rfl rfl (.int .i64 (i + 1)) (ex_assign _ rfl _ (F.e rfl)) ?_; clear F a; intro a F
  refine wpList_nil ?_
  replace F : Fr 24 a [(0, .slice A ks.length c), (2, .slice none 0 0), (3, .slice A_19 (((ks ++ List.replicate i mkK) ++ [mkK]).length) c_19), (4, .int .i64 (i + 1)), (13, .bool true)] := F.keep ⟨rfl, rfl, rfl, rfl, rfl, trivial⟩
  refine then_n ?_
  rw [← hst] at F O_x
  exact ⟨9 - (i + 1), by omega, (i + 1), A_19, c_19, F.keep ⟨rfl, rfl, rfl, rfl, trivial⟩, (by refine M.pick' [] _ ?_ (by decide); exact trivial), O_x, (by omega), (by omega)⟩
 obtain rfl : i = 9 := by omega
 rw [show List.replicate 9 mkK = marks from rfl] at F O_x
 refine wp_seq ?_
 refine wp_seq ?_
 refine wp_region_lit ?_
 refine list_val F (wn rfl) rfl rfl (.int .i64 ((9 : Nat) : Int)) (ex_move _ rfl _ (F.e rfl)) ?_; clear F a; intro a F
 refine list_val F (wn rfl) rfl rfl (.bool false) (ex_bin .lss _ _ _ _ rfl .i64 _ _ (F.e rfl) rfl _ (b_lss (decide_eq_false (by omega)))) ?_; clear F a; intro a F
 refine wpList_nil ?_
 replace F : Fr 24 a [(0, .slice A ks.length c), (2, .slice none 0 0), (3, .slice B ((ks ++ marks).length) b), (4, .int .i64 ((9 : Nat) : Int)), (13, .bool false)] := F.keep ⟨rfl, rfl, rfl, rfl, rfl, trivial⟩
 refine then_n ?_
 refine wp_cond_false (F.e rfl) ?_
 refine wp_exit ?_
 refine then_x ?_
 refine then_x ?_
 refine in_hit ?_
 refine then_n ?_
 refine wp_seq ?_
 refine wp_region_lit ?_
 refine list_val F (wn rfl) rfl rfl (.slice B ((ks ++ marks).length) b) (ex_move _ rfl _ (F.e rfl)) ?_; clear F a; intro a F
 refine list_val F (wn rfl) rfl rfl (.slice A ks.length c) (ex_move _ rfl _ (F.e rfl)) ?_; clear F a; intro a F
 refine list_val F (wn rfl) rfl rfl (.int .i64 ((ks.length : Nat) : Int)) (ex_len _ _ rfl 34 rc_sl_55_34 _ _ _ (F.e rfl)) ?_; clear F a; intro a F
 refine list_val F (wn rfl) rfl rfl (.slice B ks.length b) (ex_cutto _ _ rfl B ((ks ++ marks).length) b (F.e rfl) _ (F.e rfl) ks.length (by omega) (by have := (Kd.R_reads' O_x).2.1; rw [marks_len] at this; omega)) ?_; clear F a; intro a F
 refine list_val F (wn rfl) rfl rfl (.slice B ks.length b) (ex_assign _ rfl _ (F.e rfl)) ?_; clear F a; intro a F
 refine wpList_nil ?_
 replace F : Fr 24 a [(0, .slice A ks.length c), (2, .slice B ks.length b), (3, .slice B ((ks ++ marks).length) b), (4, .int .i64 ((9 : Nat) : Int)), (13, .bool false)] := F.keep ⟨rfl, rfl, rfl, rfl, rfl, trivial⟩
 refine then_n ?_
 refine wp_ret ?_
 exact ret_tmp F rfl rfl ⟨B, b, rfl, O_x, M.bel⟩
theorem rc_follows_mixedOrders : Try.prog.follows .mixedOrders = true := by kernel_rfl
theorem rc_fa_69_0_0 : fa? Try.prog 69 0 0 = true := by kernel_rfl
theorem rc_one_55 : one? Try.prog 55 = true := by kernel_rfl
theorem rc_fa_69_1_1 : fa? Try.prog 69 1 1 = true := by kernel_rfl
theorem rc_one_67 : one? Try.prog 67 = true := by kernel_rfl
theorem rc_ent_32 : ent? Try.prog 32 = true := by kernel_rfl
theorem rc_row_69_2 : row? Try.prog 69 2 = true := by kernel_rfl
set_option maxHeartbeats 4000000 in
set_option maxRecDepth 100000 in
theorem lent_any (ks : List Key) (A : Option Addr) (c : Nat) (next : Int) (w : World) (hr : kKey.C w A ks.length ks) (hc : ks.length ≤ c) (hl : ks.length ≤ 900000) :
    Calls Try.prog 8 #[.agg #[.slice A ks.length c, .int .u64 next]] w fun e w' => ∃ A' c', e = .returned (.agg #[.slice A' ks.length c', .int .u64 next]) ∧ OwnKeys w' w.heap.size (.slice A' (ks ++ marks).length c') (ks ++ marks) ∧ Below w.heap.size w w' := by
 refine calls_start Try.func8 rfl rfl rfl (fun a F => ?_)
 have M : Mm w w [] := Mm.nil w
 refine wp_seq ?_
 refine wp_region_lit ?_
 refine list_do (wn rfl) (fun K hK => ?_)
 refine ow_box F M rfl rfl 69 _ rfl _ (F.e rfl) #[.slice A ks.length c, .int .u64 next] rfl ?_
 clear F M a; intro a g1 v F M hb hg
 refine hK _ _ ?_
 clear hK K
 clear hb hg; try clear w
 refine list_do (wn rfl) (fun K hK => ?_)
 refine ow_alloc F M rfl rfl 69 rfl (.agg #[.slice none 0 0, .int .u64 0]) z69 #[.slice none 0 0, .int .u64 0] rfl ?_
 clear F M a; intro a g2 u F M hb hg
 refine hK _ _ ?_
 clear hK K
 clear hb hg; try clear v
 refine wpList_nil ?_
 replace F : Fr 9 a [(0, .agg #[.slice A ks.length c, .int .u64 next]), (1, .pointer (some ⟨g1, 0, none⟩)), (2, .pointer (some ⟨g2, 0, none⟩))] := F.keep ⟨rfl, rfl, rfl, trivial⟩
 refine then_n ?_
 refine wp_seq ?_
 refine wp_only (fun ar wr => ∃ (A_5 : Option Addr), ∃ (c_5 : Nat), Fr 9 ar [(0, .agg #[.slice A ks.length c, .int .u64 next]), (1, .pointer (some ⟨g1, 0, none⟩)), (2, .pointer (some ⟨g2, 0, none⟩))] ∧ Mm w wr [⟨g2, #[.slice A_5 ks.length c_5, .int .u64 next], 69⟩, ⟨g1, #[.slice A ks.length c, .int .u64 next], 69⟩] ∧ OwnKeys wr w.heap.size (.slice A_5 (ks ++ marks).length c_5) (ks ++ marks)) ?_ ?_
 ·
  refine region_anyM rc_follows_mixedOrders M [⟨g1, #[.slice A ks.length c, .int .u64 next], 69⟩] (fun w' M => (by refine M.pick' [1] _ ?_ (by decide); exact ⟨rfl, trivial⟩)) ?_; clear M; intro wD M hb
  clear hb; try clear u
  have hS : Mm w wD [⟨g1, #[.slice A ks.length c, .int .u64 next], 69⟩] := (by refine M.pick' [1] _ ?_ (by decide); exact ⟨rfl, trivial⟩)
  refine any_val F 0 rfl (by kernel_rfl) (wn rfl) rfl rfl (.pointer (some ⟨g1, 0, none⟩)) (fun w' hS' => ex_fa _ _ _ rfl _ (F.e rfl) 0 rc_fa_69_0_0 ⟨g1, 0, none⟩ rfl) hS ?_; clear F a; intro a F
  refine any_val F 1 rfl (by kernel_rfl) (wn rfl) rfl rfl (.slice A ks.length c) (fun w' hS' => ex_load _ _ rfl _ (F.e rfl) _ (lv1 rc_one_55 (hS'.cell (i := 0) rfl (j := 0) rfl))) hS ?_; clear F a; intro a F
  refine any_val F 3 rfl (by kernel_rfl) (wn rfl) rfl rfl (.pointer (some ⟨g1, 1, none⟩)) (fun w' hS' => ex_fa _ _ _ rfl _ (F.e rfl) 1 rc_fa_69_1_1 ⟨g1, 1, none⟩ rfl) hS ?_; clear F a; intro a F
  refine any_val F 4 rfl (by kernel_rfl) (wn rfl) rfl rfl (.int .u64 next) (fun w' hS' => ex_load _ _ rfl _ (F.e rfl) _ (lv1 rc_one_67 (hS'.cell (i := 0) rfl (j := 1) rfl))) hS ?_; clear F a; intro a F
  refine any_ready [2] (by kernel_rfl) (by simp) ?_
  refine ready_do rfl (wn rfl) (fun K hK => ?_) AllReadyH.nil
  have hcl := Kd.C_below hr M.bel
  refine ow_call rfl rfl F 32 #[.slice A ks.length c] (ex_call 32 _ _ rfl rfl rc_ent_32 _ (map1 (F.e rfl))) (lendKeys_any ks _ c _ hcl hc hl) (fun e v hR => ?_)
  obtain ⟨A_5, c_5, he, O_x, hb⟩ := hR
  replace O_x := own_low O_x M.bel.size
  refine ⟨.slice A_5 ks.length c_5, he, ?_⟩; clear he F a; intro a F
  replace hS : Mm w v [⟨g1, #[.slice A ks.length c, .int .u64 next], 69⟩] := (by refine (M.below hb).pick' [1] _ ?_ (by decide); exact ⟨rfl, trivial⟩)
  refine hK _ _ hS ?_
  clear hK K
  replace M := M.below hb; clear hb; try clear wD
  clear hcl
  refine any_val F 5 rfl (by kernel_rfl) (wn rfl) rfl rfl (.agg #[.slice A_5 ks.length c_5, .int .u64 next]) (fun w' hS' => ex_build 69 _ rfl #[(0, .slice A_5 ks.length c_5), (1, .int .u64 next)] (parts2 (F.e rfl) (F.e rfl)) (.agg #[.slice A_5 ks.length c_5, .int .u64 next]) (build69_01 A_5 ks.length c_5 next _)) hS ?_; clear F a; intro a F
  refine any_ready [6] (by kernel_rfl) (by simp) ?_
  refine ready_do rfl (wn rfl) (fun K hK => ?_) AllReadyH.nil
  refine ow_put F M rfl 69 _ _ rfl 0 _ #[.slice none 0 0, .int .u64 0] _ rfl (F.e rfl) #[.slice A_5 ks.length c_5, .int .u64 next] (F.e rfl) (sz_row (m := 2) rc_row_69_2) rfl (by simp [Value.oneCell']) ?_
  clear F a; have Mo := M; clear M; intro a u F M hgr
  replace hS : Mm w u [⟨g1, #[.slice A ks.length c, .int .u64 next], 69⟩] := (by refine M.pick' [1] _ ?_ (by decide); exact ⟨rfl, trivial⟩)
  refine hK _ _ hS ?_
  clear hK K
  replace O_x := own_grown O_x (Mo.blk 0 _ rfl) (by show 107 ≠ 69; decide) hgr
  clear Mo hgr; try clear v
  replace M : Mm w u [⟨g2, #[.slice A_5 ks.length c_5, .int .u64 next], 69⟩, ⟨g1, #[.slice A ks.length c, .int .u64 next], 69⟩] := M
  refine any_done (by kernel_rfl) ?_
  exact ⟨A_5, c_5, F.keep ⟨rfl, rfl, rfl, trivial⟩, (by refine M.pick' [0, 1] _ ?_ (by decide); exact ⟨rfl, rfl, trivial⟩), O_x⟩
 clear F M a
 intro a v hR; obtain ⟨A_5, c_5, F, M, O_x⟩ := hR; try clear u
 refine then_n ?_
 refine wp_ret ?_
 exact ret_c1 (v := .agg #[.slice A_5 ks.length c_5, .int .u64 next]) F rfl rfl (lvr (cs := [.slice A_5 ks.length c_5, .int .u64 next]) rc_row_69_2 (M.at (i := 0) rfl)) ⟨A_5, c_5, rfl, O_x, M.bel⟩
theorem rc_row_107_34 : row? Try.prog 107 34 = true := by kernel_rfl
set_option maxHeartbeats 4000000 in
set_option maxRecDepth 100000 in
theorem backKeys_any (ks : List Key) (B : Option Addr) (b : Nat) (A : Option Addr) (c : Nat) (w : World) (hx : kKey.C w B (ks ++ marks).length (ks ++ marks)) (hxc : (ks ++ marks).length ≤ b) (hr : kKey.C w A ks.length ks) (hc : ks.length ≤ c) (hl : ks.length ≤ 900000) :
    Calls Try.prog 19 #[.slice B ks.length b, .slice A ks.length c] w fun e w' => e = .returned (.bool true) ∧ Below w.heap.size w w' := by
 refine calls_start Try.func19 rfl rfl rfl (fun a F => ?_)
 have M : Mm w w [] := Mm.nil w
 refine wp_seq ?_
 refine wp_region_lit ?_
 refine list_val F (wn rfl) rfl rfl (.bool false) (ex_assign _ rfl _ rfl) ?_; clear F a; intro a F
 refine wpList_nil ?_
 replace F : Fr 47 a [(0, .slice B ks.length b), (1, .slice A ks.length c), (4, .bool false)] := F.keep ⟨rfl, rfl, rfl, trivial⟩
 refine then_n ?_
 refine wp_seq ?_
 refine wp_seq ?_
 refine wp_region_lit ?_
 refine list_val F (wn rfl) rfl rfl (.slice B ks.length b) (ex_move _ rfl _ (F.e rfl)) ?_; clear F a; intro a F
 refine list_val F (wn rfl) rfl rfl (.int .i64 ((ks.length : Nat) : Int)) (ex_len _ _ rfl 34 rc_sl_55_34 _ _ _ (F.e rfl)) ?_; clear F a; intro a F
 refine list_val F (wn rfl) rfl rfl (.slice A ks.length c) (ex_move _ rfl _ (F.e rfl)) ?_; clear F a; intro a F
 refine list_val F (wn rfl) rfl rfl (.int .i64 ((ks.length : Nat) : Int)) (ex_len _ _ rfl 34 rc_sl_55_34 _ _ _ (F.e rfl)) ?_; clear F a; intro a F
 refine list_val F (wn rfl) rfl rfl (.bool false) (ex_bin .neq _ _ _ _ rfl .i64 _ _ (F.e rfl) (F.e rfl) _ (b_neq (by simp))) ?_; clear F a; intro a F
 refine wpList_nil ?_
 replace F : Fr 47 a [(0, .slice B ks.length b), (1, .slice A ks.length c), (4, .bool false), (12, .bool false)] := F.keep ⟨rfl, rfl, rfl, rfl, trivial⟩
 refine then_n ?_
 refine wp_cond_false (F.e rfl) ?_
 refine wp_skip ?_
 refine then_n ?_
 refine wp_seq ?_
 refine wp_seq ?_
 refine wp_region_lit ?_
 refine list_val F (wn rfl) rfl rfl (.int .i64 0) (ex_assign _ rfl _ rfl) ?_; clear F a; intro a F
 refine wpList_nil ?_
 replace F : Fr 47 a [(0, .slice B ks.length b), (1, .slice A ks.length c), (4, .bool false), (5, .int .i64 0), (12, .bool false)] := F.keep ⟨rfl, rfl, rfl, rfl, rfl, trivial⟩
 refine then_n ?_
 refine wp_block ?_
 refine wp_loopN (fun mq ar wr => ∃ (i : Nat), Fr 47 ar [(0, .slice B ks.length b), (1, .slice A ks.length c), (4, .bool false), (5, .int .i64 i), (12, .bool false)] ∧ Mm w wr [] ∧ i ≤ ks.length ∧ mq + i = ks.length) ks.length ?_ ?_
 ·
  exact ⟨0, F.keep ⟨rfl, rfl, rfl, rfl, rfl, trivial⟩, M, (Nat.zero_le _), (by omega)⟩
 clear F M a
 rintro mq a v ⟨i, F, M, hi, hq⟩; try clear w
 by_cases hin : i < ks.length
 ·
  obtain ⟨adb, rfl, zx, _, _⟩ := at_Key hx (i : Int) (by omega) (by rw [marks_len]; omega)
  rw [show (i : Int).toNat = i from rfl, rdK_left hin] at zx
  obtain ⟨adr, rfl, zi, _, _⟩ := at_Key hr (i : Int) (by omega) (by omega)
  rw [show (i : Int).toNat = i from rfl] at zi
  refine wp_seq ?_
  refine wp_seq ?_
  refine wp_region_lit ?_
  refine list_val F (wn rfl) rfl rfl (.int .i64 i) (ex_move _ rfl _ (F.e rfl)) ?_; clear F a; intro a F
  refine list_val F (wn rfl) rfl rfl (.slice (some adr) ks.length c) (ex_move _ rfl _ (F.e rfl)) ?_; clear F a; intro a F
  refine list_val F (wn rfl) rfl rfl (.int .i64 ((ks.length : Nat) : Int)) (ex_len _ _ rfl 34 rc_sl_55_34 _ _ _ (F.e rfl)) ?_; clear F a; intro a F
  refine list_val F (wn rfl) rfl rfl (.bool true) (ex_bin .lss _ _ _ _ rfl .i64 _ _ (F.e rfl) (F.e rfl) _ (b_lss (decide_eq_true (by omega)))) ?_; clear F a; intro a F
  refine wpList_nil ?_
  replace F : Fr 47 a [(0, .slice (some adb) ks.length b), (1, .slice (some adr) ks.length c), (4, .bool false), (5, .int .i64 i), (12, .bool false), (16, .bool true)] := F.keep ⟨rfl, rfl, rfl, rfl, rfl, rfl, trivial⟩
  refine then_n ?_
  refine wp_cond_true (F.e rfl) ?_
  refine wp_skip ?_
  refine then_n ?_
  refine wp_seq ?_
  refine wp_block ?_
  refine wp_seq ?_
  refine region_tail 8 rc_follows_mixedOrders (by kernel_rfl) M ?_; clear M; intro u M hb
  clear hb; try clear v
  refine still_val F (wn rfl) rfl rfl (.slice (some adb) ks.length b) (ex_move _ rfl _ (F.e rfl)) ?_; clear F a; intro a F
  refine still_val F (wn rfl) rfl rfl (.int .i64 i) (ex_move _ rfl _ (F.e rfl)) ?_; clear F a; intro a F
  refine still_val F (wn rfl) rfl rfl (.pointer (some (adb.add (i * 34)))) (ex_ix _ _ _ rfl 34 rc_sl_55_34 adb _ _ (F.e rfl) .i64 _ (F.e rfl) i rfl (by omega) (adb.add (i * 34)) rfl) ?_; clear F a; intro a F
  refine still_val F (wn rfl) rfl rfl (.agg ((rdK ks (i : Int)).arr)) (ex_load _ _ rfl _ (F.e rfl) _ (lvr (cs := (rdK ks (i : Int)).cs) (by rw [Key.cs_len]; exact rc_row_107_34) ((zx.below M.bel)))) ?_; clear F a; intro a F
  refine still_val F (wn rfl) rfl rfl (.slice (some adr) ks.length c) (ex_move _ rfl _ (F.e rfl)) ?_; clear F a; intro a F
  refine still_val F (wn rfl) rfl rfl (.int .i64 i) (ex_move _ rfl _ (F.e rfl)) ?_; clear F a; intro a F
  refine still_val F (wn rfl) rfl rfl (.pointer (some (adr.add (i * 34)))) (ex_ix _ _ _ rfl 34 rc_sl_55_34 adr _ _ (F.e rfl) .i64 _ (F.e rfl) i rfl (by omega) (adr.add (i * 34)) rfl) ?_; clear F a; intro a F
  refine still_val F (wn rfl) rfl rfl (.agg ((rdK ks (i : Int)).arr)) (ex_load _ _ rfl _ (F.e rfl) _ (lvr (cs := (rdK ks (i : Int)).cs) (by rw [Key.cs_len]; exact rc_row_107_34) ((zi.below M.bel)))) ?_; clear F a; intro a F
  refine still_end ?_
  refine list_val F (wn rfl) rfl rfl (.bool false) (ex_neqk _ _ _ rfl (rdK ks (i : Int)) (rdK ks (i : Int)) (F.e rfl) (F.e rfl) false (by simp)) ?_; clear F a; intro a F
  refine wpList_nil ?_
  replace F : Fr 47 a [(0, .slice (some adb) ks.length b), (1, .slice (some adr) ks.length c), (4, .bool false), (5, .int .i64 i), (12, .bool false), (16, .bool true), (27, .bool false)] := F.keep ⟨rfl, rfl, rfl, rfl, rfl, rfl, rfl, trivial⟩
  refine then_n ?_
  refine wp_cond_false (F.e rfl) ?_
  refine wp_skip ?_
  refine in_n ?_
  refine then_n ?_
  refine wp_region_lit ?_
  refine list_val F (wn rfl) rfl rfl (.int .i64 i) (ex_move _ rfl _ (F.e rfl)) ?_; clear F a; intro a F
  refine list_val F (wn rfl) rfl rfl (.int .i64 (i + 1)) (ex_bin .add _ _ _ _ rfl .i64 _ _ (F.e rfl) rfl _ (b_add (w_i64 (by omega) (by omega)))) ?_; clear F a; intro a F
  refine list_val F (wn rfl) rfl rfl (.int .i64 (i + 1)) (ex_assign _ rfl _ (F.e rfl)) ?_; clear F a; intro a F
  refine wpList_nil ?_
  replace F : Fr 47 a [(0, .slice (some adb) ks.length b), (1, .slice (some adr) ks.length c), (4, .bool false), (5, .int .i64 (i + 1)), (12, .bool false), (16, .bool true), (27, .bool false)] := F.keep ⟨rfl, rfl, rfl, rfl, rfl, rfl, rfl, trivial⟩
  refine then_n ?_
  exact ⟨ks.length - (i + 1), by omega, (i + 1), F.keep ⟨rfl, rfl, rfl, rfl, rfl, trivial⟩, (by refine M.pick' [] _ ?_ (by decide); exact trivial), (by omega), (by omega)⟩
 obtain rfl : i = ks.length := by omega
 refine wp_seq ?_
 refine wp_seq ?_
 refine wp_region_lit ?_
 refine list_val F (wn rfl) rfl rfl (.int .i64 ((ks.length : Nat) : Int)) (ex_move _ rfl _ (F.e rfl)) ?_; clear F a; intro a F
 refine list_val F (wn rfl) rfl rfl (.slice A ks.length c) (ex_move _ rfl _ (F.e rfl)) ?_; clear F a; intro a F
 refine list_val F (wn rfl) rfl rfl (.int .i64 ((ks.length : Nat) : Int)) (ex_len _ _ rfl 34 rc_sl_55_34 _ _ _ (F.e rfl)) ?_; clear F a; intro a F
 refine list_val F (wn rfl) rfl rfl (.bool false) (ex_bin .lss _ _ _ _ rfl .i64 _ _ (F.e rfl) (F.e rfl) _ (b_lss (decide_eq_false (by omega)))) ?_; clear F a; intro a F
 refine wpList_nil ?_
 replace F : Fr 47 a [(0, .slice B ks.length b), (1, .slice A ks.length c), (4, .bool false), (5, .int .i64 ((ks.length : Nat) : Int)), (12, .bool false), (16, .bool false)] := F.keep ⟨rfl, rfl, rfl, rfl, rfl, rfl, trivial⟩
 refine then_n ?_
 refine wp_cond_false (F.e rfl) ?_
 refine wp_exit ?_
 refine then_x ?_
 refine then_x ?_
 refine in_hit ?_
 refine then_n ?_
 refine wp_seq ?_
 refine wp_region_lit ?_
 refine list_val F (wn rfl) rfl rfl (.slice B ks.length b) (ex_move _ rfl _ (F.e rfl)) ?_; clear F a; intro a F
 refine list_val F (wn rfl) rfl rfl (.slice A ks.length c) (ex_move _ rfl _ (F.e rfl)) ?_; clear F a; intro a F
 refine list_val F (wn rfl) rfl rfl (.int .i64 ((ks.length : Nat) : Int)) (ex_len _ _ rfl 34 rc_sl_55_34 _ _ _ (F.e rfl)) ?_; clear F a; intro a F
 refine list_val F (wn rfl) rfl rfl (.int .i64 ((ks.length + 9 : Nat) : Int)) (ex_bin .add _ _ _ _ rfl .i64 _ _ (F.e rfl) rfl _ (b_add ((w_i64 (by omega) (by omega)).trans (by omega)))) ?_; clear F a; intro a F
 refine list_val F (wn rfl) rfl rfl (.slice B (ks.length + 9) b) (ex_cutto _ _ rfl B ks.length b (F.e rfl) _ (F.e rfl) (ks.length + 9) (by omega) (by rw [marks_len] at hxc; exact hxc)) ?_; clear F a; intro a F
 refine list_val F (wn rfl) rfl rfl (.slice B (ks.length + 9) b) (ex_assign _ rfl _ (F.e rfl)) ?_; clear F a; intro a F
 refine wpList_nil ?_
 replace F : Fr 47 a [(0, .slice B ks.length b), (1, .slice A ks.length c), (4, .bool false), (5, .int .i64 ((ks.length : Nat) : Int)), (6, .slice B (ks.length + 9) b), (12, .bool false), (16, .bool false)] := F.keep ⟨rfl, rfl, rfl, rfl, rfl, rfl, rfl, trivial⟩
 refine then_n ?_
 refine wp_seq ?_
 refine wp_seq ?_
 refine wp_region_lit ?_
 refine list_val F (wn rfl) rfl rfl (.slice A ks.length c) (ex_move _ rfl _ (F.e rfl)) ?_; clear F a; intro a F
 refine list_val F (wn rfl) rfl rfl (.int .i64 ((ks.length : Nat) : Int)) (ex_len _ _ rfl 34 rc_sl_55_34 _ _ _ (F.e rfl)) ?_; clear F a; intro a F
 refine list_val F (wn rfl) rfl rfl (.int .i64 ((ks.length : Nat) : Int)) (ex_assign _ rfl _ (F.e rfl)) ?_; clear F a; intro a F
 refine wpList_nil ?_
 replace F : Fr 47 a [(0, .slice B ks.length b), (1, .slice A ks.length c), (4, .bool false), (5, .int .i64 ((ks.length : Nat) : Int)), (6, .slice B (ks.length + 9) b), (7, .int .i64 ((ks.length : Nat) : Int)), (12, .bool false), (16, .bool false)] := F.keep ⟨rfl, rfl, rfl, rfl, rfl, rfl, rfl, rfl, trivial⟩
 refine then_n ?_
 refine wp_block ?_
 refine wp_loopN (fun mq ar wr => ∃ (k : Nat), Fr 47 ar [(0, .slice B ks.length b), (1, .slice A ks.length c), (4, .bool false), (5, .int .i64 ((ks.length : Nat) : Int)), (6, .slice B (ks.length + 9) b), (7, .int .i64 k), (12, .bool false), (16, .bool false)] ∧ Mm w wr [] ∧ ks.length ≤ k ∧ k ≤ ks.length + 9 ∧ mq + (k - ks.length) = 9) 9 ?_ ?_
 ·
  exact ⟨ks.length, F.keep ⟨rfl, rfl, rfl, rfl, rfl, rfl, rfl, rfl, trivial⟩, M, (Nat.le_refl _), (by omega), (by omega)⟩
 clear F M a
 rintro mq a u ⟨k, F, M, hk0, hk1, hq⟩; try clear v
 by_cases hkn : k < ks.length + 9
 ·
  obtain ⟨adb, rfl, zx, _, _⟩ := at_Key hx (k : Int) (by omega) (by rw [marks_len]; omega)
  rw [show (k : Int).toNat = k from rfl, rdK_mark hk0 hkn] at zx
  refine wp_seq ?_
  refine wp_seq ?_
  refine wp_region_lit ?_
  refine list_val F (wn rfl) rfl rfl (.int .i64 k) (ex_move _ rfl _ (F.e rfl)) ?_; clear F a; intro a F
  refine list_val F (wn rfl) rfl rfl (.slice (some adb) (ks.length + 9) b) (ex_move _ rfl _ (F.e rfl)) ?_; clear F a; intro a F
  refine list_val F (wn rfl) rfl rfl (.int .i64 (((ks.length + 9) : Nat) : Int)) (ex_len _ _ rfl 34 rc_sl_55_34 _ _ _ (F.e rfl)) ?_; clear F a; intro a F
  refine list_val F (wn rfl) rfl rfl (.bool true) (ex_bin .lss _ _ _ _ rfl .i64 _ _ (F.e rfl) (F.e rfl) _ (b_lss (decide_eq_true (by omega)))) ?_; clear F a; intro a F
  refine wpList_nil ?_
  replace F : Fr 47 a [(0, .slice (some adb) ks.length b), (1, .slice A ks.length c), (4, .bool false), (5, .int .i64 ((ks.length : Nat) : Int)), (6, .slice (some adb) (ks.length + 9) b), (7, .int .i64 k), (12, .bool false), (16, .bool false), (38, .bool true)] := F.keep ⟨rfl, rfl, rfl, rfl, rfl, rfl, rfl, rfl, rfl, trivial⟩
  refine then_n ?_
  refine wp_cond_true (F.e rfl) ?_
  refine wp_skip ?_
  refine then_n ?_
  refine wp_seq ?_
  refine wp_block ?_
  refine wp_seq ?_
  refine wp_region_lit ?_
  refine list_val F (wn rfl) rfl rfl (.slice (some adb) (ks.length + 9) b) (ex_move _ rfl _ (F.e rfl)) ?_; clear F a; intro a F
  refine list_val F (wn rfl) rfl rfl (.int .i64 k) (ex_move _ rfl _ (F.e rfl)) ?_; clear F a; intro a F
  refine list_val F (wn rfl) rfl rfl (.pointer (some (adb.add (k * 34)))) (ex_ix _ _ _ rfl 34 rc_sl_55_34 adb _ _ (F.e rfl) .i64 _ (F.e rfl) k rfl (by omega) (adb.add (k * 34)) rfl) ?_; clear F a; intro a F
  refine list_val F (wn rfl) rfl rfl (.agg mkK.arr) (ex_load _ _ rfl _ (F.e rfl) _ (lvr (cs := mkK.cs) (by rw [Key.cs_len]; exact rc_row_107_34) ((zx.below M.bel)))) ?_; clear F a; intro a F
  refine list_val F (wn rfl) rfl rfl (.agg mkK.arr) (ex_build 107 _ rfl #[(0, .int .u64 777), (2, .int .i64 (-777))] (parts2 rfl rfl) (.agg mkK.arr) (build107_02 _)) ?_; clear F a; intro a F
  refine list_val F (wn rfl) rfl rfl (.bool false) (ex_neqk _ _ _ rfl mkK mkK (F.e rfl) (F.e rfl) false (by simp)) ?_; clear F a; intro a F
  refine wpList_nil ?_
  replace F : Fr 47 a [(0, .slice (some adb) ks.length b), (1, .slice A ks.length c), (4, .bool false), (5, .int .i64 ((ks.length : Nat) : Int)), (6, .slice (some adb) (ks.length + 9) b), (7, .int .i64 k), (12, .bool false), (16, .bool false), (38, .bool true), (46, .bool false)] := F.keep ⟨rfl, rfl, rfl, rfl, rfl, rfl, rfl, rfl, rfl, rfl, trivial⟩
  refine then_n ?_
  refine wp_cond_false (F.e rfl) ?_
  refine wp_skip ?_
  refine in_n ?_
  refine then_n ?_
  refine wp_region_lit ?_
  refine list_val F (wn rfl) rfl rfl (.int .i64 k) (ex_move _ rfl _ (F.e rfl)) ?_; clear F a; intro a F
  refine list_val F (wn rfl) rfl rfl (.int .i64 (k + 1)) (ex_bin .add _ _ _ _ rfl .i64 _ _ (F.e rfl) rfl _ (b_add (w_i64 (by omega) (by omega)))) ?_; clear F a; intro a F
  refine list_val F (wn rfl) rfl rfl (.int .i64 (k + 1)) (ex_assign _ rfl _ (F.e rfl)) ?_; clear F a; intro a F
  refine wpList_nil ?_
  replace F : Fr 47 a [(0, .slice (some adb) ks.length b), (1, .slice A ks.length c), (4, .bool false), (5, .int .i64 ((ks.length : Nat) : Int)), (6, .slice (some adb) (ks.length + 9) b), (7, .int .i64 (k + 1)), (12, .bool false), (16, .bool false), (38, .bool true), (46, .bool false)] := F.keep ⟨rfl, rfl, rfl, rfl, rfl, rfl, rfl, rfl, rfl, rfl, trivial⟩
  refine then_n ?_
  exact ⟨9 - ((k - ks.length) + 1), by omega, (k + 1), F.keep ⟨rfl, rfl, rfl, rfl, rfl, rfl, rfl, rfl, trivial⟩, (by refine M.pick' [] _ ?_ (by decide); exact trivial), (by omega), (by omega), (by omega)⟩
 refine wp_seq ?_
 refine wp_seq ?_
 refine wp_region_lit ?_
 refine list_val F (wn rfl) rfl rfl (.int .i64 k) (ex_move _ rfl _ (F.e rfl)) ?_; clear F a; intro a F
 refine list_val F (wn rfl) rfl rfl (.slice B (ks.length + 9) b) (ex_move _ rfl _ (F.e rfl)) ?_; clear F a; intro a F
 refine list_val F (wn rfl) rfl rfl (.int .i64 (((ks.length + 9) : Nat) : Int)) (ex_len _ _ rfl 34 rc_sl_55_34 _ _ _ (F.e rfl)) ?_; clear F a; intro a F
 refine list_val F (wn rfl) rfl rfl (.bool false) (ex_bin .lss _ _ _ _ rfl .i64 _ _ (F.e rfl) (F.e rfl) _ (b_lss (decide_eq_false (by omega)))) ?_; clear F a; intro a F
 refine wpList_nil ?_
 replace F : Fr 47 a [(0, .slice B ks.length b), (1, .slice A ks.length c), (4, .bool false), (5, .int .i64 ((ks.length : Nat) : Int)), (6, .slice B (ks.length + 9) b), (7, .int .i64 k), (12, .bool false), (16, .bool false), (38, .bool false)] := F.keep ⟨rfl, rfl, rfl, rfl, rfl, rfl, rfl, rfl, rfl, trivial⟩
 refine then_n ?_
 refine wp_cond_false (F.e rfl) ?_
 refine wp_exit ?_
 refine then_x ?_
 refine then_x ?_
 refine in_hit ?_
 refine then_n ?_
 refine wp_seq ?_
 refine wp_region_lit ?_
 refine list_val F (wn rfl) rfl rfl (.bool true) (ex_assign _ rfl _ rfl) ?_; clear F a; intro a F
 refine wpList_nil ?_
 replace F : Fr 47 a [(0, .slice B ks.length b), (1, .slice A ks.length c), (4, .bool true), (5, .int .i64 ((ks.length : Nat) : Int)), (6, .slice B (ks.length + 9) b), (7, .int .i64 k), (12, .bool false), (16, .bool false), (38, .bool false)] := F.keep ⟨rfl, rfl, rfl, rfl, rfl, rfl, rfl, rfl, rfl, trivial⟩
 refine then_n ?_
 refine wp_ret ?_
 exact ret_tmp F rfl rfl ⟨rfl, M.bel⟩
theorem rc_ent_8 : ent? Try.prog 8 = true := by kernel_rfl
theorem rc_ent_31 : ent? Try.prog 31 = true := by kernel_rfl
theorem rc_ent_22 : ent? Try.prog 22 = true := by kernel_rfl
theorem rc_ent_33 : ent? Try.prog 33 = true := by kernel_rfl
theorem rc_ent_29 : ent? Try.prog 29 = true := by kernel_rfl
theorem rc_ent_39 : ent? Try.prog 39 = true := by kernel_rfl
theorem rc_ent_30 : ent? Try.prog 30 = true := by kernel_rfl
theorem rc_ent_37 : ent? Try.prog 37 = true := by kernel_rfl
theorem rc_bool_4 : bool? Try.prog 4 = true := by kernel_rfl
theorem rc_ent_19 : ent? Try.prog 19 = true := by kernel_rfl
set_option maxHeartbeats 4000000 in
set_option maxRecDepth 100000 in
theorem asks_any (ks : List Key) (A : Option Addr) (c : Nat) (next kid : Int) (w : World) (hr : kKey.C w A ks.length ks) (hc : ks.length ≤ c) (hl : ks.length ≤ 900000) :
    Calls Try.prog 17 #[.agg #[.slice A ks.length c, .int .u64 next], .int .u64 kid] w fun e w' => e = .returned (.bool true) ∧ Below w.heap.size w w' := by
 refine calls_start Try.func17 rfl rfl rfl (fun a F => ?_)
 have M : Mm w w [] := Mm.nil w
 refine wp_seq ?_
 refine wp_region_lit ?_
 refine list_do (wn rfl) (fun K hK => ?_)
 refine ow_box F M rfl rfl 69 _ rfl _ (F.e rfl) #[.slice A ks.length c, .int .u64 next] rfl ?_
 clear F M a; intro a g2 v F M hb hg
 refine hK _ _ ?_
 clear hK K
 clear hb hg; try clear w
 refine list_val F (wn rfl) rfl rfl (.bool false) (ex_assign _ rfl _ rfl) ?_; clear F a; intro a F
 refine wpList_nil ?_
 replace F : Fr 79 a [(0, .agg #[.slice A ks.length c, .int .u64 next]), (1, .int .u64 kid), (2, .pointer (some ⟨g2, 0, none⟩)), (4, .bool false)] := F.keep ⟨rfl, rfl, rfl, rfl, trivial⟩
 refine then_n ?_
 refine wp_seq ?_
 refine wp_region_lit ?_
 refine list_val F (wn rfl) rfl rfl (.agg #[.slice A ks.length c, .int .u64 next]) (ex_load _ _ rfl _ (F.e rfl) _ (lvr (cs := [.slice A ks.length c, .int .u64 next]) rc_row_69_2 (M.at (i := 0) rfl))) ?_; clear F a; intro a F
 refine list_do (wn rfl) (fun K hK => ?_)
 have hcl := Kd.C_below hr M.bel
 refine ow_call rfl rfl F 8 #[.agg #[.slice A ks.length c, .int .u64 next]] (ex_call 8 _ _ rfl rfl rc_ent_8 _ (map1 (F.e rfl))) (lent_any ks _ c next _ hcl hc hl) (fun e u hR => ?_)
 obtain ⟨A_16, cr, he, O_x, hb⟩ := hR
 obtain ⟨gr, sp, rfl, _, M1, hcap, hqc, hcm, hgr0⟩ := Mm.adopt M hb O_x (by rw [marks_len]; omega)
 have hcr : ks.length ≤ cr := by rw [marks_len] at hqc; omega
 refine ⟨.agg #[.slice (some ⟨gr, 0, none⟩) ks.length cr, .int .u64 next], he, ?_⟩; clear he F a; intro a F
 refine hK _ _ ?_
 clear hK K
 replace M := M.below hb; clear hb; try clear v
 replace M := M1; clear M1 O_x hcl hgr0 hcap
 refine list_do (wn rfl) (fun K hK => ?_)
 refine ow_alloc F M rfl rfl 69 rfl (.agg #[.slice none 0 0, .int .u64 0]) z69 #[.slice none 0 0, .int .u64 0] rfl ?_
 clear F M a; intro a g5 v F M hb hg
 refine hK _ _ ?_
 clear hK K
 clear hb hg; try clear u
 refine list_do (wn rfl) (fun K hK => ?_)
 refine ow_put F M rfl 69 _ _ rfl 0 _ #[.slice none 0 0, .int .u64 0] _ rfl (F.e rfl) #[.slice (some ⟨gr, 0, none⟩) ks.length cr, .int .u64 next] (F.e rfl) (sz_row (m := 2) rc_row_69_2) rfl (by simp [Value.oneCell']) ?_
 clear F a; have Mo := M; clear M; intro a u F M hgr
 refine hK _ _ ?_
 clear hK K
 clear Mo hgr; try clear v
 replace M : Mm w u [⟨g5, #[.slice (some ⟨gr, 0, none⟩) ks.length cr, .int .u64 next], 69⟩, ⟨gr, (((ks ++ marks).flatMap Key.cs ++ sp).toArray), 107⟩, ⟨g2, #[.slice A ks.length c, .int .u64 next], 69⟩] := M
 refine wpList_nil ?_
 replace F : Fr 79 a [(0, .agg #[.slice A ks.length c, .int .u64 next]), (1, .int .u64 kid), (2, .pointer (some ⟨g2, 0, none⟩)), (4, .bool false), (5, .pointer (some ⟨g5, 0, none⟩))] := F.keep ⟨rfl, rfl, rfl, rfl, rfl, trivial⟩
 refine then_n ?_
 refine wp_seq ?_
 refine wp_seq ?_
 refine wp_region_lit ?_
 refine list_val F (wn rfl) rfl rfl (.int .i64 0) (ex_assign _ rfl _ rfl) ?_; clear F a; intro a F
 refine wpList_nil ?_
 replace F : Fr 79 a [(0, .agg #[.slice A ks.length c, .int .u64 next]), (1, .int .u64 kid), (2, .pointer (some ⟨g2, 0, none⟩)), (4, .bool false), (5, .pointer (some ⟨g5, 0, none⟩)), (6, .int .i64 0)] := F.keep ⟨rfl, rfl, rfl, rfl, rfl, rfl, trivial⟩
 refine then_n ?_
 refine wp_block ?_
 refine wp_loopN (fun mq ar wr => ∃ (i : Nat), Fr 79 ar [(0, .agg #[.slice A ks.length c, .int .u64 next]), (1, .int .u64 kid), (2, .pointer (some ⟨g2, 0, none⟩)), (4, .bool false), (5, .pointer (some ⟨g5, 0, none⟩)), (6, .int .i64 i)] ∧ Mm w wr [⟨g5, #[.slice (some ⟨gr, 0, none⟩) ks.length cr, .int .u64 next], 69⟩, ⟨gr, (((ks ++ marks).flatMap Key.cs ++ sp).toArray), 107⟩, ⟨g2, #[.slice A ks.length c, .int .u64 next], 69⟩] ∧ i ≤ 2 ∧ mq + i = 2) 2 ?_ ?_
 ·
  exact ⟨0, F.keep ⟨rfl, rfl, rfl, rfl, rfl, rfl, trivial⟩, (by refine M.pick' [0, 1, 2] _ ?_ (by decide); exact ⟨rfl, rfl, rfl, trivial⟩), (Nat.zero_le _), (by omega)⟩
 clear F M a
 rintro mq a v ⟨i, F, M, hi, hq⟩; try clear u
 by_cases hin : i < 2
 ·
  refine wp_seq ?_
  refine wp_seq ?_
  refine wp_region_lit ?_
  refine list_val F (wn rfl) rfl rfl (.int .i64 i) (ex_move _ rfl _ (F.e rfl)) ?_; clear F a; intro a F
  refine list_val F (wn rfl) rfl rfl (.bool true) (ex_bin .lss _ _ _ _ rfl .i64 _ _ (F.e rfl) rfl _ (b_lss (decide_eq_true (by omega)))) ?_; clear F a; intro a F
  refine wpList_nil ?_
  replace F : Fr 79 a [(0, .agg #[.slice A ks.length c, .int .u64 next]), (1, .int .u64 kid), (2, .pointer (some ⟨g2, 0, none⟩)), (4, .bool false), (5, .pointer (some ⟨g5, 0, none⟩)), (6, .int .i64 i), (18, .bool true)] := F.keep ⟨rfl, rfl, rfl, rfl, rfl, rfl, rfl, trivial⟩
  refine then_n ?_
  refine wp_cond_true (F.e rfl) ?_
  refine wp_skip ?_
  refine then_n ?_
  refine wp_seq ?_
  refine wp_block ?_
  refine wp_seq ?_
  refine wp_seq ?_
  refine wp_only (fun ar wr => Fr 79 ar [(0, .agg #[.slice A ks.length c, .int .u64 next]), (1, .int .u64 kid), (2, .pointer (some ⟨g2, 0, none⟩)), (4, .bool false), (5, .pointer (some ⟨g5, 0, none⟩)), (6, .int .i64 i), (18, .bool true), (26, .bool false)] ∧ Mm w wr [⟨g5, #[.slice (some ⟨gr, 0, none⟩) ks.length cr, .int .u64 next], 69⟩, ⟨gr, (((ks ++ marks).flatMap Key.cs ++ sp).toArray), 107⟩, ⟨g2, #[.slice A ks.length c, .int .u64 next], 69⟩]) ?_ ?_
  ·
   refine region_anyM rc_follows_mixedOrders M [⟨g2, #[.slice A ks.length c, .int .u64 next], 69⟩, ⟨g5, #[.slice (some ⟨gr, 0, none⟩) ks.length cr, .int .u64 next], 69⟩, ⟨gr, (((ks ++ marks).flatMap Key.cs ++ sp).toArray), 107⟩] (fun w' M => (by refine M.pick' [2, 0, 1] _ ?_ (by decide); exact ⟨rfl, rfl, rfl, trivial⟩)) ?_; clear M; intro wD M hb
   clear hb; try clear v
   have hS : Mm w wD [⟨g2, #[.slice A ks.length c, .int .u64 next], 69⟩, ⟨g5, #[.slice (some ⟨gr, 0, none⟩) ks.length cr, .int .u64 next], 69⟩, ⟨gr, (((ks ++ marks).flatMap Key.cs ++ sp).toArray), 107⟩] := (by refine M.pick' [2, 0, 1] _ ?_ (by decide); exact ⟨rfl, rfl, rfl, trivial⟩)
   refine any_val F 0 rfl (by kernel_rfl) (wn rfl) rfl rfl (.agg #[.slice (some ⟨gr, 0, none⟩) ks.length cr, .int .u64 next]) (fun w' hS' => ex_load _ _ rfl _ (F.e rfl) _ (lvr (cs := [.slice (some ⟨gr, 0, none⟩) ks.length cr, .int .u64 next]) rc_row_69_2 (hS'.at (i := 1) rfl))) hS ?_; clear F a; intro a F
   refine any_val F 3 rfl (by kernel_rfl) (wn rfl) rfl rfl (.agg #[.slice A ks.length c, .int .u64 next]) (fun w' hS' => ex_load _ _ rfl _ (F.e rfl) _ (lvr (cs := [.slice A ks.length c, .int .u64 next]) rc_row_69_2 (hS'.at (i := 0) rfl))) hS ?_; clear F a; intro a F
   refine any_ready [1] (by kernel_rfl) (by simp) ?_
   refine ready_do rfl (wn rfl) (fun K hK => ?_) AllReadyH.nil
   refine ow_call rfl rfl F 31 #[.agg #[.slice (some ⟨gr, 0, none⟩) ks.length cr, .int .u64 next]] (ex_call 31 _ _ rfl rfl rc_ent_31 _ (map1 (F.e rfl))) (check_any ks _ cr next _ (lent_C (M.at (i := 1) rfl) (by omega)) hcr) (fun e v hR => ?_)
   obtain ⟨he, hb⟩ := hR
   refine ⟨.int .i64 (errK ks next), he, ?_⟩; clear he F a; intro a F
   replace hS : Mm w v [⟨g2, #[.slice A ks.length c, .int .u64 next], 69⟩, ⟨g5, #[.slice (some ⟨gr, 0, none⟩) ks.length cr, .int .u64 next], 69⟩, ⟨gr, (((ks ++ marks).flatMap Key.cs ++ sp).toArray), 107⟩] := (by refine (M.below hb).pick' [2, 0, 1] _ ?_ (by decide); exact ⟨rfl, rfl, rfl, trivial⟩)
   refine hK _ _ hS ?_
   clear hK K
   replace M := M.below hb; clear hb; try clear wD
   refine any_ready [2] (by kernel_rfl) (by simp) ?_
   refine ready_do rfl (wn rfl) (fun K hK => ?_) AllReadyH.nil
   refine ow_call rfl rfl F 22 #[.int .i64 (errK ks next)] (ex_call 22 _ _ rfl rfl rc_ent_22 _ (map1 (F.e rfl))) (num_any _ _) (fun e u hR => ?_)
   obtain ⟨he, hw⟩ := hR
   refine ⟨.int .i64 (errK ks next), he, ?_⟩; clear he F a; intro a F
   obtain rfl := hw
   replace hS : Mm w v [⟨g2, #[.slice A ks.length c, .int .u64 next], 69⟩, ⟨g5, #[.slice (some ⟨gr, 0, none⟩) ks.length cr, .int .u64 next], 69⟩, ⟨gr, (((ks ++ marks).flatMap Key.cs ++ sp).toArray), 107⟩] := (by refine M.pick' [2, 0, 1] _ ?_ (by decide); exact ⟨rfl, rfl, rfl, trivial⟩)
   refine hK _ _ hS ?_
   clear hK K
   refine any_ready [4] (by kernel_rfl) (by simp) ?_
   refine ready_do rfl (wn rfl) (fun K hK => ?_) AllReadyH.nil
   refine ow_call rfl rfl F 33 #[.agg #[.slice A ks.length c, .int .u64 next]] (ex_call 33 _ _ rfl rfl rc_ent_33 _ (map1 (F.e rfl))) (refCheck_any ks _ c next _ (Kd.C_below hr M.bel) hc) (fun e u hR => ?_)
   obtain ⟨he, hb⟩ := hR
   refine ⟨.int .i64 (errK ks next), he, ?_⟩; clear he F a; intro a F
   replace hS : Mm w u [⟨g2, #[.slice A ks.length c, .int .u64 next], 69⟩, ⟨g5, #[.slice (some ⟨gr, 0, none⟩) ks.length cr, .int .u64 next], 69⟩, ⟨gr, (((ks ++ marks).flatMap Key.cs ++ sp).toArray), 107⟩] := (by refine (M.below hb).pick' [2, 0, 1] _ ?_ (by decide); exact ⟨rfl, rfl, rfl, trivial⟩)
   refine hK _ _ hS ?_
   clear hK K
   replace M := M.below hb; clear hb; try clear v
   refine any_val F 5 rfl (by kernel_rfl) (wn rfl) rfl rfl (.bool false) (fun w' hS' => ex_bin .neq _ _ _ _ rfl .i64 _ _ (F.e rfl) (F.e rfl) _ (b_neq (by simp))) hS ?_; clear F a; intro a F
   refine any_done (by kernel_rfl) ?_
   exact ⟨F.keep ⟨rfl, rfl, rfl, rfl, rfl, rfl, rfl, rfl, trivial⟩, (by refine M.pick' [0, 1, 2] _ ?_ (by decide); exact ⟨rfl, rfl, rfl, trivial⟩)⟩
  clear F M a
  intro a u hR; obtain ⟨F, M⟩ := hR; try clear v
  refine then_n ?_
  refine wp_cond_false (F.e rfl) ?_
  refine wp_skip ?_
  refine then_n ?_
  refine wp_seq ?_
  refine wp_region_lit ?_
  refine list_val F (wn rfl) rfl rfl (.agg #[.slice (some ⟨gr, 0, none⟩) ks.length cr, .int .u64 next]) (ex_load _ _ rfl _ (F.e rfl) _ (lvr (cs := [.slice (some ⟨gr, 0, none⟩) ks.length cr, .int .u64 next]) rc_row_69_2 (M.at (i := 0) rfl))) ?_; clear F a; intro a F
  refine list_do (wn rfl) (fun K hK => ?_)
  refine ow_call rfl rfl F 29 #[.agg #[.slice (some ⟨gr, 0, none⟩) ks.length cr, .int .u64 next]] (ex_call 29 _ _ rfl rfl rc_ent_29 _ (map1 (F.e rfl))) (cur_any ks _ cr next _ (lent_C (M.at (i := 1) rfl) (by omega)) hcr) (fun e v hR => ?_)
  obtain ⟨he, hb⟩ := hR
  refine ⟨.tuple #[.agg ((curF ks next).arr), .bool (!decide (curF ks next = zKey))], he, ?_⟩; clear he F a; intro a F
  refine hK _ _ ?_
  clear hK K
  replace M := M.below hb; clear hb; try clear u
  refine list_val F (wn rfl) rfl rfl (.tuple #[.agg ((curF ks next).arr), .bool (!decide (curF ks next = zKey))]) (ex_move _ rfl _ (F.e rfl)) ?_; clear F a; intro a F
  refine list_val F (wn rfl) rfl rfl (.agg ((curF ks next).arr)) (ex_extract _ _ rfl _ (F.e rfl) _ rfl) ?_; clear F a; intro a F
  refine list_val F (wn rfl) rfl rfl (.bool (!decide (curF ks next = zKey))) (ex_extract _ _ rfl _ (F.e rfl) _ rfl) ?_; clear F a; intro a F
  refine list_do (wn rfl) (fun K hK => ?_)
  refine ow_alloc F M rfl rfl 107 rfl (.agg zKey.arr) zero107 zKey.arr rfl ?_
  clear F M a; intro a g7 u F M hb hg
  refine hK _ _ ?_
  clear hK K
  clear hb hg; try clear v
  refine list_do (wn rfl) (fun K hK => ?_)
  refine ow_put F M rfl 107 _ _ rfl 0 _ zKey.arr _ rfl (F.e rfl) ((curF ks next).arr) (F.e rfl) (by rw [Key.arr_size]; exact info107) (by simp only [Key.arr_size]) (Key.arr_one _) ?_
  clear F a; have Mo := M; clear M; intro a v F M hgr
  refine hK _ _ ?_
  clear hK K
  clear Mo hgr; try clear u
  replace M : Mm w v [⟨g7, (curF ks next).arr, 107⟩, ⟨g5, #[.slice (some ⟨gr, 0, none⟩) ks.length cr, .int .u64 next], 69⟩, ⟨gr, (((ks ++ marks).flatMap Key.cs ++ sp).toArray), 107⟩, ⟨g2, #[.slice A ks.length c, .int .u64 next], 69⟩] := M
  refine list_val F (wn rfl) rfl rfl (.bool (!decide (curF ks next = zKey))) (ex_assign _ rfl _ (F.e rfl)) ?_; clear F a; intro a F
  refine wpList_nil ?_
  replace F : Fr 79 a [(0, .agg #[.slice A ks.length c, .int .u64 next]), (1, .int .u64 kid), (2, .pointer (some ⟨g2, 0, none⟩)), (4, .bool false), (5, .pointer (some ⟨g5, 0, none⟩)), (6, .int .i64 i), (7, .pointer (some ⟨g7, 0, none⟩)), (8, .bool (!decide (curF ks next = zKey))), (18, .bool true), (26, .bool false)] := F.keep ⟨rfl, rfl, rfl, rfl, rfl, rfl, rfl, rfl, rfl, rfl, trivial⟩
  refine then_n ?_
  refine wp_seq ?_
  refine wp_region_lit ?_
  refine list_val F (wn rfl) rfl rfl (.agg #[.slice A ks.length c, .int .u64 next]) (ex_load _ _ rfl _ (F.e rfl) _ (lvr (cs := [.slice A ks.length c, .int .u64 next]) rc_row_69_2 (M.at (i := 3) rfl))) ?_; clear F a; intro a F
  refine list_do (wn rfl) (fun K hK => ?_)
  refine ow_call rfl rfl F 39 #[.agg #[.slice A ks.length c, .int .u64 next]] (ex_call 39 _ _ rfl rfl rc_ent_39 _ (map1 (F.e rfl))) (refCur_any ks _ c next _ (Kd.C_below hr M.bel) hc) (fun e u hR => ?_)
  obtain ⟨he, hb⟩ := hR
  refine ⟨.tuple #[.agg ((curF ks next).arr), .bool (!decide (curF ks next = zKey))], he, ?_⟩; clear he F a; intro a F
  refine hK _ _ ?_
  clear hK K
  replace M := M.below hb; clear hb; try clear v
  refine list_val F (wn rfl) rfl rfl (.tuple #[.agg ((curF ks next).arr), .bool (!decide (curF ks next = zKey))]) (ex_move _ rfl _ (F.e rfl)) ?_; clear F a; intro a F
  refine list_val F (wn rfl) rfl rfl (.agg ((curF ks next).arr)) (ex_extract _ _ rfl _ (F.e rfl) _ rfl) ?_; clear F a; intro a F
  refine list_val F (wn rfl) rfl rfl (.bool (!decide (curF ks next = zKey))) (ex_extract _ _ rfl _ (F.e rfl) _ rfl) ?_; clear F a; intro a F
  refine list_do (wn rfl) (fun K hK => ?_)
  refine ow_alloc F M rfl rfl 107 rfl (.agg zKey.arr) zero107 zKey.arr rfl ?_
  clear F M a; intro a g9 v F M hb hg
  refine hK _ _ ?_
  clear hK K
  clear hb hg; try clear u
  refine list_do (wn rfl) (fun K hK => ?_)
  refine ow_put F M rfl 107 _ _ rfl 0 _ zKey.arr _ rfl (F.e rfl) ((curF ks next).arr) (F.e rfl) (by rw [Key.arr_size]; exact info107) (by simp only [Key.arr_size]) (Key.arr_one _) ?_
  clear F a; have Mo := M; clear M; intro a u F M hgr
  refine hK _ _ ?_
  clear hK K
  clear Mo hgr; try clear v
  replace M : Mm w u [⟨g9, (curF ks next).arr, 107⟩, ⟨g7, (curF ks next).arr, 107⟩, ⟨g5, #[.slice (some ⟨gr, 0, none⟩) ks.length cr, .int .u64 next], 69⟩, ⟨gr, (((ks ++ marks).flatMap Key.cs ++ sp).toArray), 107⟩, ⟨g2, #[.slice A ks.length c, .int .u64 next], 69⟩] := M
  refine list_val F (wn rfl) rfl rfl (.bool (!decide (curF ks next = zKey))) (ex_assign _ rfl _ (F.e rfl)) ?_; clear F a; intro a F
  refine wpList_nil ?_
  replace F : Fr 79 a [(0, .agg #[.slice A ks.length c, .int .u64 next]), (1, .int .u64 kid), (2, .pointer (some ⟨g2, 0, none⟩)), (4, .bool false), (5, .pointer (some ⟨g5, 0, none⟩)), (6, .int .i64 i), (7, .pointer (some ⟨g7, 0, none⟩)), (8, .bool (!decide (curF ks next = zKey))), (9, .pointer (some ⟨g9, 0, none⟩)), (10, .bool (!decide (curF ks next = zKey))), (18, .bool true), (26, .bool false)] := F.keep ⟨rfl, rfl, rfl, rfl, rfl, rfl, rfl, rfl, rfl, rfl, rfl, rfl, trivial⟩
  refine then_n ?_
  refine wp_seq ?_
  refine wp_region_lit ?_
  refine list_val F (wn rfl) rfl rfl (.agg #[.slice (some ⟨gr, 0, none⟩) ks.length cr, .int .u64 next]) (ex_load _ _ rfl _ (F.e rfl) _ (lvr (cs := [.slice (some ⟨gr, 0, none⟩) ks.length cr, .int .u64 next]) rc_row_69_2 (M.at (i := 2) rfl))) ?_; clear F a; intro a F
  refine list_val F (wn rfl) rfl rfl (.int .u64 kid) (ex_move _ rfl _ (F.e rfl)) ?_; clear F a; intro a F
  refine list_do (wn rfl) (fun K hK => ?_)
  refine ow_call rfl rfl F 30 #[.agg #[.slice (some ⟨gr, 0, none⟩) ks.length cr, .int .u64 next], .int .u64 kid] (ex_call 30 _ _ rfl rfl rc_ent_30 _ (map2 (F.e rfl) (F.e rfl))) (find_any kid ks _ cr next _ (lent_C (M.at (i := 3) rfl) (by omega)) hcr) (fun e v hR => ?_)
  obtain ⟨he, hb⟩ := hR
  refine ⟨.tuple #[.agg ((findF kid ks next).arr), .bool (!decide (findF kid ks next = zKey))], he, ?_⟩; clear he F a; intro a F
  refine hK _ _ ?_
  clear hK K
  replace M := M.below hb; clear hb; try clear u
  refine list_val F (wn rfl) rfl rfl (.tuple #[.agg ((findF kid ks next).arr), .bool (!decide (findF kid ks next = zKey))]) (ex_move _ rfl _ (F.e rfl)) ?_; clear F a; intro a F
  refine list_val F (wn rfl) rfl rfl (.agg ((findF kid ks next).arr)) (ex_extract _ _ rfl _ (F.e rfl) _ rfl) ?_; clear F a; intro a F
  refine list_val F (wn rfl) rfl rfl (.bool (!decide (findF kid ks next = zKey))) (ex_extract _ _ rfl _ (F.e rfl) _ rfl) ?_; clear F a; intro a F
  refine list_do (wn rfl) (fun K hK => ?_)
  refine ow_alloc F M rfl rfl 107 rfl (.agg zKey.arr) zero107 zKey.arr rfl ?_
  clear F M a; intro a g11 u F M hb hg
  refine hK _ _ ?_
  clear hK K
  clear hb hg; try clear v
  refine list_do (wn rfl) (fun K hK => ?_)
  refine ow_put F M rfl 107 _ _ rfl 0 _ zKey.arr _ rfl (F.e rfl) ((findF kid ks next).arr) (F.e rfl) (by rw [Key.arr_size]; exact info107) (by simp only [Key.arr_size]) (Key.arr_one _) ?_
  clear F a; have Mo := M; clear M; intro a v F M hgr
  refine hK _ _ ?_
  clear hK K
  clear Mo hgr; try clear u
  replace M : Mm w v [⟨g11, (findF kid ks next).arr, 107⟩, ⟨g9, (curF ks next).arr, 107⟩, ⟨g7, (curF ks next).arr, 107⟩, ⟨g5, #[.slice (some ⟨gr, 0, none⟩) ks.length cr, .int .u64 next], 69⟩, ⟨gr, (((ks ++ marks).flatMap Key.cs ++ sp).toArray), 107⟩, ⟨g2, #[.slice A ks.length c, .int .u64 next], 69⟩] := M
  refine list_val F (wn rfl) rfl rfl (.bool (!decide (findF kid ks next = zKey))) (ex_assign _ rfl _ (F.e rfl)) ?_; clear F a; intro a F
  refine wpList_nil ?_
  replace F : Fr 79 a [(0, .agg #[.slice A ks.length c, .int .u64 next]), (1, .int .u64 kid), (2, .pointer (some ⟨g2, 0, none⟩)), (4, .bool false), (5, .pointer (some ⟨g5, 0, none⟩)), (6, .int .i64 i), (7, .pointer (some ⟨g7, 0, none⟩)), (8, .bool (!decide (curF ks next = zKey))), (9, .pointer (some ⟨g9, 0, none⟩)), (10, .bool (!decide (curF ks next = zKey))), (11, .pointer (some ⟨g11, 0, none⟩)), (12, .bool (!decide (findF kid ks next = zKey))), (18, .bool true), (26, .bool false)] := F.keep ⟨rfl, rfl, rfl, rfl, rfl, rfl, rfl, rfl, rfl, rfl, rfl, rfl, rfl, rfl, trivial⟩
  refine then_n ?_
  refine wp_seq ?_
  refine wp_region_lit ?_
  refine list_val F (wn rfl) rfl rfl (.agg #[.slice A ks.length c, .int .u64 next]) (ex_load _ _ rfl _ (F.e rfl) _ (lvr (cs := [.slice A ks.length c, .int .u64 next]) rc_row_69_2 (M.at (i := 5) rfl))) ?_; clear F a; intro a F
  refine list_val F (wn rfl) rfl rfl (.int .u64 kid) (ex_move _ rfl _ (F.e rfl)) ?_; clear F a; intro a F
  refine list_do (wn rfl) (fun K hK => ?_)
  refine ow_call rfl rfl F 37 #[.agg #[.slice A ks.length c, .int .u64 next], .int .u64 kid] (ex_call 37 _ _ rfl rfl rc_ent_37 _ (map2 (F.e rfl) (F.e rfl))) (refFind_any kid ks _ c next _ (Kd.C_below hr M.bel) hc) (fun e u hR => ?_)
  obtain ⟨he, hb⟩ := hR
  refine ⟨.tuple #[.agg ((findF kid ks next).arr), .bool (!decide (findF kid ks next = zKey))], he, ?_⟩; clear he F a; intro a F
  refine hK _ _ ?_
  clear hK K
  replace M := M.below hb; clear hb; try clear v
  refine list_val F (wn rfl) rfl rfl (.tuple #[.agg ((findF kid ks next).arr), .bool (!decide (findF kid ks next = zKey))]) (ex_move _ rfl _ (F.e rfl)) ?_; clear F a; intro a F
  refine list_val F (wn rfl) rfl rfl (.agg ((findF kid ks next).arr)) (ex_extract _ _ rfl _ (F.e rfl) _ rfl) ?_; clear F a; intro a F
  refine list_val F (wn rfl) rfl rfl (.bool (!decide (findF kid ks next = zKey))) (ex_extract _ _ rfl _ (F.e rfl) _ rfl) ?_; clear F a; intro a F
  refine list_do (wn rfl) (fun K hK => ?_)
  refine ow_alloc F M rfl rfl 107 rfl (.agg zKey.arr) zero107 zKey.arr rfl ?_
  clear F M a; intro a g13 v F M hb hg
  refine hK _ _ ?_
  clear hK K
  clear hb hg; try clear u
  refine list_do (wn rfl) (fun K hK => ?_)
  refine ow_put F M rfl 107 _ _ rfl 0 _ zKey.arr _ rfl (F.e rfl) ((findF kid ks next).arr) (F.e rfl) (by rw [Key.arr_size]; exact info107) (by simp only [Key.arr_size]) (Key.arr_one _) ?_
  clear F a; have Mo := M; clear M; intro a u F M hgr
  refine hK _ _ ?_
  clear hK K
  clear Mo hgr; try clear v
  replace M : Mm w u [⟨g13, (findF kid ks next).arr, 107⟩, ⟨g11, (findF kid ks next).arr, 107⟩, ⟨g9, (curF ks next).arr, 107⟩, ⟨g7, (curF ks next).arr, 107⟩, ⟨g5, #[.slice (some ⟨gr, 0, none⟩) ks.length cr, .int .u64 next], 69⟩, ⟨gr, (((ks ++ marks).flatMap Key.cs ++ sp).toArray), 107⟩, ⟨g2, #[.slice A ks.length c, .int .u64 next], 69⟩] := M
  refine list_val F (wn rfl) rfl rfl (.bool (!decide (findF kid ks next = zKey))) (ex_assign _ rfl _ (F.e rfl)) ?_; clear F a; intro a F
  refine wpList_nil ?_
  replace F : Fr 79 a [(0, .agg #[.slice A ks.length c, .int .u64 next]), (1, .int .u64 kid), (2, .pointer (some ⟨g2, 0, none⟩)), (4, .bool false), (5, .pointer (some ⟨g5, 0, none⟩)), (6, .int .i64 i), (7, .pointer (some ⟨g7, 0, none⟩)), (8, .bool (!decide (curF ks next = zKey))), (9, .pointer (some ⟨g9, 0, none⟩)), (10, .bool (!decide (curF ks next = zKey))), (11, .pointer (some ⟨g11, 0, none⟩)), (12, .bool (!decide (findF kid ks next = zKey))), (13, .pointer (some ⟨g13, 0, none⟩)), (14, .bool (!decide (findF kid ks next = zKey))), (18, .bool true), (26, .bool false)] := F.keep ⟨rfl, rfl, rfl, rfl, rfl, rfl, rfl, rfl, rfl, rfl, rfl, rfl, rfl, rfl, rfl, rfl, trivial⟩
  refine then_n ?_
  refine wp_seq ?_
  refine wp_region_lit ?_
  refine list_val F (wn rfl) rfl rfl (.agg ((curF ks next).arr)) (ex_load _ _ rfl _ (F.e rfl) _ (lvr (cs := (curF ks next).cs) (by rw [Key.cs_len]; exact rc_row_107_34) (M.at (i := 3) rfl))) ?_; clear F a; intro a F
  refine list_val F (wn rfl) rfl rfl (.agg ((curF ks next).arr)) (ex_load _ _ rfl _ (F.e rfl) _ (lvr (cs := (curF ks next).cs) (by rw [Key.cs_len]; exact rc_row_107_34) (M.at (i := 2) rfl))) ?_; clear F a; intro a F
  refine list_val F (wn rfl) rfl rfl (.bool false) (ex_neqk _ _ _ rfl (curF ks next) (curF ks next) (F.e rfl) (F.e rfl) false (by simp)) ?_; clear F a; intro a F
  refine list_val F (wn rfl) rfl rfl (.bool false) (ex_move _ rfl _ (F.e rfl)) ?_; clear F a; intro a F
  refine list_val F (F.wants 52 false rfl (by kernel_rfl) rfl true rfl) rfl rfl (.bool (!decide (curF ks next = zKey))) (ex_move _ rfl _ (F.e rfl)) ?_; clear F a; intro a F
  refine list_val F (F.wants 52 false rfl (by kernel_rfl) rfl true rfl) rfl rfl (.bool (!decide (curF ks next = zKey))) (ex_move _ rfl _ (F.e rfl)) ?_; clear F a; intro a F
  refine list_val F (F.wants 52 false rfl (by kernel_rfl) rfl true rfl) rfl rfl (.bool false) (ex_neqb _ _ _ _ rfl rc_bool_4 (!decide (curF ks next = zKey)) (!decide (curF ks next = zKey)) (F.e rfl) (F.e rfl) false (by simp)) ?_; clear F a; intro a F
  refine list_val F (wn rfl) rfl rfl (.bool false) (ex_pick_f _ _ _ rfl (F.e rfl) _ (F.e rfl)) ?_; clear F a; intro a F
  refine list_val F (wn rfl) rfl rfl (.bool false) (ex_move _ rfl _ (F.e rfl)) ?_; clear F a; intro a F
  refine list_val F (F.wants 57 false rfl (by kernel_rfl) rfl true rfl) rfl rfl (.agg ((findF kid ks next).arr)) (ex_load _ _ rfl _ (F.e rfl) _ (lvr (cs := (findF kid ks next).cs) (by rw [Key.cs_len]; exact rc_row_107_34) (M.at (i := 1) rfl))) ?_; clear F a; intro a F
  refine list_val F (F.wants 57 false rfl (by kernel_rfl) rfl true rfl) rfl rfl (.agg ((findF kid ks next).arr)) (ex_load _ _ rfl _ (F.e rfl) _ (lvr (cs := (findF kid ks next).cs) (by rw [Key.cs_len]; exact rc_row_107_34) (M.at (i := 0) rfl))) ?_; clear F a; intro a F
  refine list_val F (F.wants 57 false rfl (by kernel_rfl) rfl true rfl) rfl rfl (.bool false) (ex_neqk _ _ _ rfl (findF kid ks next) (findF kid ks next) (F.e rfl) (F.e rfl) false (by simp)) ?_; clear F a; intro a F
  refine list_val F (wn rfl) rfl rfl (.bool false) (ex_pick_f _ _ _ rfl (F.e rfl) _ (F.e rfl)) ?_; clear F a; intro a F
  refine list_val F (wn rfl) rfl rfl (.bool false) (ex_move _ rfl _ (F.e rfl)) ?_; clear F a; intro a F
  refine list_val F (F.wants 62 false rfl (by kernel_rfl) rfl true rfl) rfl rfl (.bool (!decide (findF kid ks next = zKey))) (ex_move _ rfl _ (F.e rfl)) ?_; clear F a; intro a F
  refine list_val F (F.wants 62 false rfl (by kernel_rfl) rfl true rfl) rfl rfl (.bool (!decide (findF kid ks next = zKey))) (ex_move _ rfl _ (F.e rfl)) ?_; clear F a; intro a F
  refine list_val F (F.wants 62 false rfl (by kernel_rfl) rfl true rfl) rfl rfl (.bool false) (ex_neqb _ _ _ _ rfl rc_bool_4 (!decide (findF kid ks next = zKey)) (!decide (findF kid ks next = zKey)) (F.e rfl) (F.e rfl) false (by simp)) ?_; clear F a; intro a F
  refine list_val F (wn rfl) rfl rfl (.bool false) (ex_pick_f _ _ _ rfl (F.e rfl) _ (F.e rfl)) ?_; clear F a; intro a F
  refine wpList_nil ?_
  replace F : Fr 79 a [(0, .agg #[.slice A ks.length c, .int .u64 next]), (1, .int .u64 kid), (2, .pointer (some ⟨g2, 0, none⟩)), (4, .bool false), (5, .pointer (some ⟨g5, 0, none⟩)), (6, .int .i64 i), (7, .pointer (some ⟨g7, 0, none⟩)), (8, .bool (!decide (curF ks next = zKey))), (9, .pointer (some ⟨g9, 0, none⟩)), (10, .bool (!decide (curF ks next = zKey))), (11, .pointer (some ⟨g11, 0, none⟩)), (12, .bool (!decide (findF kid ks next = zKey))), (13, .pointer (some ⟨g13, 0, none⟩)), (14, .bool (!decide (findF kid ks next = zKey))), (18, .bool true), (26, .bool false), (66, .bool false)] := F.keep ⟨rfl, rfl, rfl, rfl, rfl, rfl, rfl, rfl, rfl, rfl, rfl, rfl, rfl, rfl, rfl, rfl, rfl, trivial⟩
  refine then_n ?_
  refine wp_cond_false (F.e rfl) ?_
  refine wp_skip ?_
  refine in_n ?_
  refine then_n ?_
  refine wp_region_lit ?_
  refine list_val F (wn rfl) rfl rfl (.int .i64 i) (ex_move _ rfl _ (F.e rfl)) ?_; clear F a; intro a F
  refine list_val F (wn rfl) rfl rfl (.int .i64 (i + 1)) (ex_bin .add _ _ _ _ rfl .i64 _ _ (F.e rfl) rfl _ (b_add (w_i64 (by omega) (by omega)))) ?_; clear F a; intro a F
  refine list_val F (wn rfl) rfl rfl (.int .i64 (i + 1)) (ex_assign _ rfl _ (F.e rfl)) ?_; clear F a; intro a F
  refine wpList_nil ?_
  replace F : Fr 79 a [(0, .agg #[.slice A ks.length c, .int .u64 next]), (1, .int .u64 kid), (2, .pointer (some ⟨g2, 0, none⟩)), (4, .bool false), (5, .pointer (some ⟨g5, 0, none⟩)), (6, .int .i64 (i + 1)), (7, .pointer (some ⟨g7, 0, none⟩)), (8, .bool (!decide (curF ks next = zKey))), (9, .pointer (some ⟨g9, 0, none⟩)), (10, .bool (!decide (curF ks next = zKey))), (11, .pointer (some ⟨g11, 0, none⟩)), (12, .bool (!decide (findF kid ks next = zKey))), (13, .pointer (some ⟨g13, 0, none⟩)), (14, .bool (!decide (findF kid ks next = zKey))), (18, .bool true), (26, .bool false), (66, .bool false)] := F.keep ⟨rfl, rfl, rfl, rfl, rfl, rfl, rfl, rfl, rfl, rfl, rfl, rfl, rfl, rfl, rfl, rfl, rfl, trivial⟩
  refine then_n ?_
  exact ⟨2 - (i + 1), by omega, (i + 1), F.keep ⟨rfl, rfl, rfl, rfl, rfl, rfl, trivial⟩, (by refine M.pick' [4, 5, 6] _ ?_ (by decide); exact ⟨rfl, rfl, rfl, trivial⟩), (by omega), (by omega)⟩
 refine wp_seq ?_
 refine wp_seq ?_
 refine wp_region_lit ?_
 refine list_val F (wn rfl) rfl rfl (.int .i64 i) (ex_move _ rfl _ (F.e rfl)) ?_; clear F a; intro a F
 refine list_val F (wn rfl) rfl rfl (.bool false) (ex_bin .lss _ _ _ _ rfl .i64 _ _ (F.e rfl) rfl _ (b_lss (decide_eq_false (by omega)))) ?_; clear F a; intro a F
 refine wpList_nil ?_
 replace F : Fr 79 a [(0, .agg #[.slice A ks.length c, .int .u64 next]), (1, .int .u64 kid), (2, .pointer (some ⟨g2, 0, none⟩)), (4, .bool false), (5, .pointer (some ⟨g5, 0, none⟩)), (6, .int .i64 i), (18, .bool false)] := F.keep ⟨rfl, rfl, rfl, rfl, rfl, rfl, rfl, trivial⟩
 refine then_n ?_
 refine wp_cond_false (F.e rfl) ?_
 refine wp_exit ?_
 refine then_x ?_
 refine then_x ?_
 refine in_hit ?_
 refine then_n ?_
 refine wp_seq ?_
 refine wp_region_lit ?_
 refine list_val F (wn rfl) rfl rfl (.pointer (some ⟨g5, 0, none⟩)) (ex_fa _ _ _ rfl _ (F.e rfl) 0 rc_fa_69_0_0 ⟨g5, 0, none⟩ rfl) ?_; clear F a; intro a F
 refine list_val F (wn rfl) rfl rfl (.slice (some ⟨gr, 0, none⟩) ks.length cr) (ex_load _ _ rfl _ (F.e rfl) _ (lv1 rc_one_55 (M.cell (i := 0) rfl (j := 0) rfl))) ?_; clear F a; intro a F
 refine list_val F (wn rfl) rfl rfl (.pointer (some ⟨g2, 0, none⟩)) (ex_fa _ _ _ rfl _ (F.e rfl) 0 rc_fa_69_0_0 ⟨g2, 0, none⟩ rfl) ?_; clear F a; intro a F
 refine list_val F (wn rfl) rfl rfl (.slice A ks.length c) (ex_load _ _ rfl _ (F.e rfl) _ (lv1 rc_one_55 (M.cell (i := 2) rfl (j := 0) rfl))) ?_; clear F a; intro a F
 refine list_do (wn rfl) (fun K hK => ?_)
 refine ow_call rfl rfl F 19 #[.slice (some ⟨gr, 0, none⟩) ks.length cr, .slice A ks.length c] (ex_call 19 _ _ rfl rfl rc_ent_19 _ (map2 (F.e rfl) (F.e rfl))) (backKeys_any ks _ cr _ c _ (lent_all (M.at (i := 1) rfl) (by omega)) hqc (Kd.C_below hr M.bel) hc hl) (fun e u hR => ?_)
 obtain ⟨he, hb⟩ := hR
 refine ⟨.bool true, he, ?_⟩; clear he F a; intro a F
 refine hK _ _ ?_
 clear hK K
 replace M := M.below hb; clear hb; try clear v
 refine list_val F (wn rfl) rfl rfl (.bool true) (ex_move _ rfl _ (F.e rfl)) ?_; clear F a; intro a F
 refine list_val F (F.wants 72 true rfl (by kernel_rfl) rfl true rfl) rfl rfl (.pointer (some ⟨g5, 1, none⟩)) (ex_fa _ _ _ rfl _ (F.e rfl) 1 rc_fa_69_1_1 ⟨g5, 1, none⟩ rfl) ?_; clear F a; intro a F
 refine list_val F (F.wants 72 true rfl (by kernel_rfl) rfl true rfl) rfl rfl (.int .u64 next) (ex_load _ _ rfl _ (F.e rfl) _ (lv1 rc_one_67 (M.cell (i := 0) rfl (j := 1) rfl))) ?_; clear F a; intro a F
 refine list_val F (F.wants 72 true rfl (by kernel_rfl) rfl true rfl) rfl rfl (.pointer (some ⟨g2, 1, none⟩)) (ex_fa _ _ _ rfl _ (F.e rfl) 1 rc_fa_69_1_1 ⟨g2, 1, none⟩ rfl) ?_; clear F a; intro a F
 refine list_val F (F.wants 72 true rfl (by kernel_rfl) rfl true rfl) rfl rfl (.int .u64 next) (ex_load _ _ rfl _ (F.e rfl) _ (lv1 rc_one_67 (M.cell (i := 2) rfl (j := 1) rfl))) ?_; clear F a; intro a F
 refine list_val F (F.wants 72 true rfl (by kernel_rfl) rfl true rfl) rfl rfl (.bool true) (ex_bin .eql _ _ _ _ rfl .u64 _ _ (F.e rfl) (F.e rfl) _ (b_eql (by simp))) ?_; clear F a; intro a F
 refine list_val F (wn rfl) rfl rfl (.bool true) (ex_pick_t _ _ _ rfl (F.e rfl) _ (F.e rfl)) ?_; clear F a; intro a F
 refine list_val F (wn rfl) rfl rfl (.bool true) (ex_assign _ rfl _ (F.e rfl)) ?_; clear F a; intro a F
 refine wpList_nil ?_
 replace F : Fr 79 a [(0, .agg #[.slice A ks.length c, .int .u64 next]), (1, .int .u64 kid), (2, .pointer (some ⟨g2, 0, none⟩)), (4, .bool true), (5, .pointer (some ⟨g5, 0, none⟩)), (6, .int .i64 i), (18, .bool false)] := F.keep ⟨rfl, rfl, rfl, rfl, rfl, rfl, rfl, trivial⟩
 refine then_n ?_
 refine wp_ret ?_
 exact ret_tmp F rfl rfl ⟨rfl, M.bel⟩
end Go.Proofs.Ytnechcibpmjblaa
