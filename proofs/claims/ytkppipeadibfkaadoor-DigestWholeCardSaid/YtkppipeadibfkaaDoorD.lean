/- The document's own block of SHA-256 (posternref4.changed): its walk. Conditions: the block's bytes are read. -/
import Derived.Test.YtkppipeadibfkaaDoorC
namespace Go.Proofs.YtkppipeadibfkaaDoor
open Go.RowKit Go.Proofs.YtkppipeadibfkaaDoorW.PrintWords KB WG
set_option linter.unusedVariables false
set_option linter.unusedSimpArgs false
theorem quo_shr (x : Wd) (n : Nat) : IntKind.u32.wrap ((x.toNat : Int).tdiv ((2 ^ n : Nat) : Int)) = ((x >>> n).toNat : Int) := by
  rw [tdiv_nat, BitVec.toNat_ushiftRight, Nat.shiftRight_eq_div_pow]
theorem ex_quow {P : Program} {op : Oper} {ρ : Operand → Value} {w : World} (T T' : TypeId) (x y : Operand) (ho : op.op = .binOp .quo T x y T') (a : Wd) (n : Nat) (m : Int) (hm : m = ((2 ^ n : Nat) : Int)) (hx : ρ x = wv a) (hy : ρ y = .int .u32 m) : (execOp ρ op).run P w = .ok (.value (wv (a >>> n))) w := by
  subst hm
  exact ex_bin .quo T T' x y ho .u32 _ _ hx hy _ (b_quo (p2_ne n) (quo_shr a n))
/-- The words moved on by one, down to a place. -/
def sh (v : List Wd) (i : Nat) : List Wd := v.take (i + 1) ++ (v.drop i).take (7 - i)
theorem eight_of {v : List Wd} (h : v.length = 8) : ∃ a b c d e f g k, v = [a, b, c, d, e, f, g, k] := by
  match v, h with
  | [a, b, c, d, e, f, g, k], _ => exact ⟨a, b, c, d, e, f, g, k, rfl⟩
theorem sh_start {v : List Wd} (h : v.length = 8) : sh v 7 = v := by obtain ⟨a, b, c, d, e, f, g, k, rfl⟩ := eight_of h; rfl
theorem sh_len {v : List Wd} (h : v.length = 8) {i : Nat} (hi : i ≤ 7) : (sh v i).length = 8 := by unfold sh; simp; omega
theorem sh_get {v : List Wd} (h : v.length = 8) {i : Nat} (h0 : 0 < i) (hi : i ≤ 7) : (sh v i).getD (i - 1) 0 = v.getD (i - 1) 0 := by
  obtain ⟨a, b, c, d, e, f, g, k, rfl⟩ := eight_of h
  have : i = 1 ∨ i = 2 ∨ i = 3 ∨ i = 4 ∨ i = 5 ∨ i = 6 ∨ i = 7 := by omega
  rcases this with rfl | rfl | rfl | rfl | rfl | rfl | rfl <;> rfl
theorem sh_step {v : List Wd} (h : v.length = 8) {i : Nat} (h0 : 0 < i) (hi : i ≤ 7) : (sh v i).set i ((sh v i).getD (i - 1) 0) = sh v (i - 1) := by
  obtain ⟨a, b, c, d, e, f, g, k, rfl⟩ := eight_of h
  have : i = 1 ∨ i = 2 ∨ i = 3 ∨ i = 4 ∨ i = 5 ∨ i = 6 ∨ i = 7 := by omega
  rcases this with rfl | rfl | rfl | rfl | rfl | rfl | rfl <;> rfl
theorem sh_rnd {v : List Wd} (h : v.length = 8) (k w : Wd) : ((sh v 0).set 4 ((sh v 0).getD 4 0 + rndP v k w)).set 0 (rndP v k w + rndQ v) = rnd v k w := by
  obtain ⟨a, b, c, d, e, f, g, z, rfl⟩ := eight_of h
  rfl
theorem word_drop (b : List By) (t : Nat) : word (b.drop (4 * t)) 0 = word b t := by
  unfold word
  simp only [List.getD_eq_getElem?_getD, List.getElem?_drop, Nat.mul_zero, Nat.zero_add, Nat.add_zero]
theorem sz84 {l : List Wd} (h : l.length = 64) : (Tryd.prog.info? 84).map (·.size) = some ((wcs l).toArray).size := by
  rw [List.size_toArray, wcs_len, h]
  kernel_rfl
theorem sz_eqn {n : Nat} {l m : List Wd} (h : l.length = n) (h2 : m.length = n) : ((wcs l).toArray).size = ((wcs m).toArray).size := by rw [List.size_toArray, List.size_toArray, wcs_len, wcs_len, h, h2]
theorem at_drop {w : World} {p : Addr} {b : List By} (h : At w p (bcs b)) (k : Nat) : At w (p.add k) (bcs (b.drop k)) := fun j v hv => by
  rw [Addr.add_add]
  refine h (k + j) v ?_
  rw [bcs, List.map_drop, List.getElem?_drop] at hv
  exact hv
theorem sched_at {b : List By} {ws : List Wd} {t : Nat} (ht : t < 64) (h : ws = sched b (t + 1) ++ List.replicate (64 - (t + 1)) 0) : ws.getD t 0 = nextW b (sched b t) := by
  rw [h, List.getD_eq_getElem?_getD, List.getElem?_append_left (by rw [sched_len]; omega), sched, List.getElem?_append_right (by rw [sched_len]; exact Nat.le_refl _), sched_len, Nat.sub_self]
  rfl
theorem sched_pre (b : List By) {t : Nat} : ∀ {n : Nat}, t < n → (sched b n).getD t 0 = nextW b (sched b t)
  | n + 1, h => by
    rw [sched, List.getD_eq_getElem?_getD]
    rcases Nat.lt_or_eq_of_le (Nat.le_of_lt_succ h) with h1 | rfl
    · rw [List.getElem?_append_left (by rw [sched_len]; exact h1), ← List.getD_eq_getElem?_getD]; exact sched_pre b h1
    · rw [List.getElem?_append_right (by rw [sched_len]; exact Nat.le_refl _), sched_len, Nat.sub_self]; rfl
theorem sched_letter (b : List By) (h : List Wd) : ∃ W : List Wd, (∀ t, t < 64 → W.getD t 0 = nextW b (sched b t)) ∧ blk h b = addW h (rounds W h 64) := ⟨sched b 64, fun t ht => sched_pre b ht, rfl⟩
theorem ex_cutfrom {ρ : Operand → Value} {w : World} {op : Oper} (x y : Operand) (ho : op.op = .slice 23 x (some y) none none) (ad : Addr) (q c : Nat) (hx : ρ x = .slice (some ad) q c) (j : Int) (hy : ρ y = .int .i64 j) (m : Nat) (hm : j = (m : Int)) (hq : m ≤ q) (hc : m < c) :
    (execOp ρ op).run Tryd.prog w = .ok (.value (.slice (some (ad.add m)) (q - m) (c - m))) w := by
  subst hm
  have h5 : (Tryd.prog.info? 5).map (·.size) = some 1 := by kernel_rfl
  obtain ⟨inf, hi, h1⟩ := Option.map_eq_some_iff.1 h5
  have hr := cut_from (P := Tryd.prog) 23 5 .i64 Tryd.underlying23 hi 1 h1 (some ad) q c (m : Int) (by omega) (by omega) w
  have hel : Tryd.prog.elem 23 = 5 := by simp [Program.elem, Tryd.underlying23]
  have hu : Tryd.prog.underlying 23 = some (.slice (Tryd.prog.elem 23)) := by rw [hel]; exact Tryd.underlying23
  rw [show ((m : Int)).toNat = m from rfl, if_neg (by omega), Nat.mul_one] at hr
  unfold execOp
  simp only [ho, hx, hy, Option.map_some, Option.map_none, Sem.run_bind, run_sliceAt_slice _ _ _ _ _ _ hu, hr, Result.andThen_ok, Sem.run_pure]
theorem df_ent_47 : ent? Tryd.prog 47 = true := by kernel_rfl
theorem df_row_74_8 : row? Tryd.prog 74 8 = true := by kernel_rfl
theorem df_ent_48 : ent? Tryd.prog 48 = true := by kernel_rfl
theorem df_ar_84_64 : ar? Tryd.prog 84 64 = true := by kernel_rfl
theorem df_info_73_map_size_some_1 : (Tryd.prog.info? 73).map (·.size) = some 1 := by kernel_rfl
theorem df_one_73 : one? Tryd.prog 73 = true := by kernel_rfl
theorem df_follows_mixedOrders : Tryd.prog.follows .mixedOrders = true := by kernel_rfl
theorem df_ent_49 : ent? Tryd.prog 49 = true := by kernel_rfl
theorem df_ar_74_8 : ar? Tryd.prog 74 8 = true := by kernel_rfl
set_option maxHeartbeats 4000000 in
set_option maxRecDepth 100000 in
theorem changed_any (h : List Wd) (hh : h.length = 8) (b : List By) (hbl : b.length = 64) (adb : Addr) (n c : Nat) (hn : n = 64) (hc : n ≤ c) (w : World) (hB : At w adb (bcs b)) :
    Calls Tryd.prog 41 #[.agg (wcs h).toArray, .slice (some adb) n c] w fun e w' => e = .returned (.agg (wcs (blk h b)).toArray) ∧ Below w.heap.size w w' := by
 obtain ⟨W0, hW, hblk⟩ := sched_letter b h
 have hkl := kTab_len
 refine calls_start Tryd.func41 rfl rfl rfl (fun a F => ?_)
 have M : Mm w w [] := Mm.nil w
 refine wp_seq ?_
 refine wp_region_lit ?_
 refine list_do (wn rfl) (fun K hK => ?_)
 refine ow_box F M rfl rfl 74 _ rfl _ (F.e rfl) ((wcs h).toArray) rfl ?_
 clear F M a; intro a g2 v F M hb hg
 refine hK _ _ ?_
 clear hK K
 clear hb hg; try clear w
 refine list_do (wn rfl) (fun K hK => ?_)
 refine ow_alloc F M rfl rfl 74 rfl (.agg (wcs zW8).toArray) z74 ((wcs zW8).toArray) rfl ?_
 clear F M a; intro a g4 u F M hb hg
 refine hK _ _ ?_
 clear hK K
 clear hb hg; try clear v
 refine wpList_nil ?_
 replace F : Fr 164 a [(0, .agg ((wcs h).toArray)), (1, .slice (some adb) n c), (2, .pointer (some ⟨g2, 0, none⟩)), (4, .pointer (some ⟨g4, 0, none⟩))] := F.keep ⟨rfl, rfl, rfl, rfl, trivial⟩
 refine then_n ?_
 refine wp_seq ?_
 refine wp_region_lit ?_
 refine list_do (wn rfl) (fun K hK => ?_)
 refine ow_call rfl rfl F 47 #[] (ex_call 47 _ _ rfl rfl df_ent_47 _ (map0)) (factor_any _) (fun e v hR => ?_)
 obtain ⟨he, hb⟩ := hR
 refine ⟨.agg ((wcs kTab).toArray), he, ?_⟩; clear he F a; intro a F
 refine hK _ _ ?_
 clear hK K
 replace M := M.below hb; clear hb; try clear u
 refine list_do (wn rfl) (fun K hK => ?_)
 refine ow_alloc F M rfl rfl 84 rfl (.agg (wcs zW64).toArray) z84 ((wcs zW64).toArray) rfl ?_
 clear F M a; intro a g5 u F M hb hg
 refine hK _ _ ?_
 clear hK K
 clear hb hg; try clear v
 refine list_do (wn rfl) (fun K hK => ?_)
 refine ow_put F M rfl 84 _ _ rfl 0 _ ((wcs zW64).toArray) _ rfl (F.e rfl) ((wcs kTab).toArray) (F.e rfl) (sz84 kTab_len) (sz_eqn (n := 64) rfl kTab_len) (all_oneCell_toArray (wcs_one _)) ?_
 clear F a; have Mo := M; clear M; intro a v F M hgr
 refine hK _ _ ?_
 clear hK K
 clear Mo hgr; try clear u
 replace M : Mm w v [⟨g5, (wcs kTab).toArray, 84⟩, ⟨g4, ((wcs zW8).toArray), 74⟩, ⟨g2, ((wcs h).toArray), 74⟩] := M
 refine wpList_nil ?_
 replace F : Fr 164 a [(0, .agg ((wcs h).toArray)), (1, .slice (some adb) n c), (2, .pointer (some ⟨g2, 0, none⟩)), (4, .pointer (some ⟨g4, 0, none⟩)), (5, .pointer (some ⟨g5, 0, none⟩))] := F.keep ⟨rfl, rfl, rfl, rfl, rfl, trivial⟩
 refine then_n ?_
 refine wp_seq ?_
 refine wp_region_lit ?_
 refine list_do (wn rfl) (fun K hK => ?_)
 refine ow_alloc F M rfl rfl 84 rfl (.agg (wcs zW64).toArray) z84 ((wcs zW64).toArray) rfl ?_
 clear F M a; intro a g6 u F M hb hg
 refine hK _ _ ?_
 clear hK K
 clear hb hg; try clear v
 refine wpList_nil ?_
 replace F : Fr 164 a [(0, .agg ((wcs h).toArray)), (1, .slice (some adb) n c), (2, .pointer (some ⟨g2, 0, none⟩)), (4, .pointer (some ⟨g4, 0, none⟩)), (5, .pointer (some ⟨g5, 0, none⟩)), (6, .pointer (some ⟨g6, 0, none⟩))] := F.keep ⟨rfl, rfl, rfl, rfl, rfl, rfl, trivial⟩
 refine then_n ?_
 refine wp_seq ?_
 refine wp_region_lit ?_
 refine list_val F (wn rfl) rfl rfl (.agg ((wcs h).toArray)) (ex_load _ _ rfl _ (F.e rfl) _ (lvr (cs := wcs h) (by rw [wcs_len, show _ = 8 from hh]; exact df_row_74_8) (M.at (i := 3) rfl))) ?_; clear F a; intro a F
 refine list_do (wn rfl) (fun K hK => ?_)
 refine ow_alloc F M rfl rfl 74 rfl (.agg (wcs zW8).toArray) z74 ((wcs zW8).toArray) rfl ?_
 clear F M a; intro a g7 v F M hb hg
 refine hK _ _ ?_
 clear hK K
 clear hb hg; try clear u
 refine list_do (wn rfl) (fun K hK => ?_)
 refine ow_put F M rfl 74 _ _ rfl 0 _ ((wcs zW8).toArray) _ rfl (F.e rfl) ((wcs h).toArray) (F.e rfl) (sz74 hh) (sz_eqn (n := 8) rfl hh) (all_oneCell_toArray (wcs_one _)) ?_
 clear F a; have Mo := M; clear M; intro a u F M hgr
 refine hK _ _ ?_
 clear hK K
 clear Mo hgr; try clear v
 replace M : Mm w u [⟨g7, (wcs h).toArray, 74⟩, ⟨g6, ((wcs zW64).toArray), 84⟩, ⟨g5, (wcs kTab).toArray, 84⟩, ⟨g4, ((wcs zW8).toArray), 74⟩, ⟨g2, ((wcs h).toArray), 74⟩] := M
 refine wpList_nil ?_
 replace F : Fr 164 a [(0, .agg ((wcs h).toArray)), (1, .slice (some adb) n c), (2, .pointer (some ⟨g2, 0, none⟩)), (4, .pointer (some ⟨g4, 0, none⟩)), (5, .pointer (some ⟨g5, 0, none⟩)), (6, .pointer (some ⟨g6, 0, none⟩)), (7, .pointer (some ⟨g7, 0, none⟩))] := F.keep ⟨rfl, rfl, rfl, rfl, rfl, rfl, rfl, trivial⟩
 refine then_n ?_
 refine wp_seq ?_
 refine wp_seq ?_
 refine wp_region_lit ?_
 refine list_val F (wn rfl) rfl rfl (.int .i64 0) (ex_assign _ rfl _ rfl) ?_; clear F a; intro a F
 refine wpList_nil ?_
 replace F : Fr 164 a [(0, .agg ((wcs h).toArray)), (1, .slice (some adb) n c), (2, .pointer (some ⟨g2, 0, none⟩)), (4, .pointer (some ⟨g4, 0, none⟩)), (5, .pointer (some ⟨g5, 0, none⟩)), (6, .pointer (some ⟨g6, 0, none⟩)), (7, .pointer (some ⟨g7, 0, none⟩)), (8, .int .i64 0)] := F.keep ⟨rfl, rfl, rfl, rfl, rfl, rfl, rfl, rfl, trivial⟩
 refine then_n ?_
 refine wp_block ?_
 refine wp_loopN (fun mq ar wr => ∃ (t : Nat), ∃ (ws : List Wd), ∃ (v8 : List Wd), Fr 164 ar [(0, .agg ((wcs h).toArray)), (1, .slice (some adb) n c), (2, .pointer (some ⟨g2, 0, none⟩)), (4, .pointer (some ⟨g4, 0, none⟩)), (5, .pointer (some ⟨g5, 0, none⟩)), (6, .pointer (some ⟨g6, 0, none⟩)), (7, .pointer (some ⟨g7, 0, none⟩)), (8, .int .i64 t)] ∧ Mm w wr [⟨g7, (wcs v8).toArray, 74⟩, ⟨g6, (wcs ws).toArray, 84⟩, ⟨g5, (wcs kTab).toArray, 84⟩, ⟨g4, ((wcs zW8).toArray), 74⟩, ⟨g2, ((wcs h).toArray), 74⟩] ∧ t ≤ 64 ∧ ws = sched b t ++ List.replicate (64 - t) 0 ∧ ws.length = 64 ∧ v8 = rounds W0 h t ∧ v8.length = 8 ∧ mq + t = 64) 64 ?_ ?_
 ·
  exact ⟨0, zW64, h, F.keep ⟨rfl, rfl, rfl, rfl, rfl, rfl, rfl, rfl, trivial⟩, (by refine M.pick' [0, 1, 2, 3, 4] _ ?_ (by decide); exact ⟨rfl, rfl, rfl, rfl, rfl, trivial⟩), (Nat.zero_le _), rfl, rfl, rfl, hh, (by omega)⟩
 clear F M a
 rintro mq a v ⟨t, ws, v8, F, M, ht1, hws, hwl, hv, hvl, hq⟩; try clear u
 by_cases ht : t < 64
 ·
  refine wp_seq ?_
  refine wp_seq ?_
  refine wp_region_lit ?_
  refine list_val F (wn rfl) rfl rfl (.int .i64 t) (ex_move _ rfl _ (F.e rfl)) ?_; clear F a; intro a F
  refine list_val F (wn rfl) rfl rfl (.bool true) (ex_bin .lss _ _ _ _ rfl .i64 _ _ (F.e rfl) rfl _ (b_lss (decide_eq_true (by omega)))) ?_; clear F a; intro a F
  refine wpList_nil ?_
  replace F : Fr 164 a [(0, .agg ((wcs h).toArray)), (1, .slice (some adb) n c), (2, .pointer (some ⟨g2, 0, none⟩)), (4, .pointer (some ⟨g4, 0, none⟩)), (5, .pointer (some ⟨g5, 0, none⟩)), (6, .pointer (some ⟨g6, 0, none⟩)), (7, .pointer (some ⟨g7, 0, none⟩)), (8, .int .i64 t), (18, .bool true)] := F.keep ⟨rfl, rfl, rfl, rfl, rfl, rfl, rfl, rfl, rfl, trivial⟩
  refine then_n ?_
  refine wp_cond_true (F.e rfl) ?_
  refine wp_skip ?_
  refine then_n ?_
  refine wp_seq ?_
  refine wp_block ?_
  refine wp_seq ?_
  refine wp_only (fun ar wr => ∃ (ws2 : List Wd), Fr 164 ar [(0, .agg ((wcs h).toArray)), (1, .slice (some adb) n c), (2, .pointer (some ⟨g2, 0, none⟩)), (4, .pointer (some ⟨g4, 0, none⟩)), (5, .pointer (some ⟨g5, 0, none⟩)), (6, .pointer (some ⟨g6, 0, none⟩)), (7, .pointer (some ⟨g7, 0, none⟩)), (8, .int .i64 t), (18, .bool true)] ∧ Mm w wr [⟨g7, (wcs v8).toArray, 74⟩, ⟨g6, (wcs ws2).toArray, 84⟩, ⟨g5, (wcs kTab).toArray, 84⟩, ⟨g4, ((wcs zW8).toArray), 74⟩, ⟨g2, ((wcs h).toArray), 74⟩] ∧ ws2 = sched b (t + 1) ++ List.replicate (64 - (t + 1)) 0 ∧ ws2.length = 64) ?_ ?_
  ·
   refine wp_seq ?_
   refine wp_region_lit ?_
   refine list_val F (wn rfl) rfl rfl (.int .i64 t) (ex_move _ rfl _ (F.e rfl)) ?_; clear F a; intro a F
   refine list_val F (wn rfl) rfl rfl (.bool (decide (t < 16))) (ex_bin .lss _ _ _ _ rfl .i64 _ _ (F.e rfl) rfl _ (b_lss (decide_eq_decide.2 (by omega)))) ?_; clear F a; intro a F
   refine wpList_nil ?_
   replace F : Fr 164 a [(0, .agg ((wcs h).toArray)), (1, .slice (some adb) n c), (2, .pointer (some ⟨g2, 0, none⟩)), (4, .pointer (some ⟨g4, 0, none⟩)), (5, .pointer (some ⟨g5, 0, none⟩)), (6, .pointer (some ⟨g6, 0, none⟩)), (7, .pointer (some ⟨g7, 0, none⟩)), (8, .int .i64 t), (18, .bool true), (22, .bool (decide (t < 16)))] := F.keep ⟨rfl, rfl, rfl, rfl, rfl, rfl, rfl, rfl, rfl, rfl, trivial⟩
   refine then_n ?_
   by_cases h16 : t < 16
   ·
    refine wp_cond_true ((F.e rfl).trans (congrArg Value.bool (decide_eq_true h16))) ?_
    refine wp_region_lit ?_
    refine list_val F (wn rfl) rfl rfl (.int .i64 t) (ex_move _ rfl _ (F.e rfl)) ?_; clear F a; intro a F
    refine list_val F (wn rfl) rfl rfl (.slice (some adb) n c) (ex_move _ rfl _ (F.e rfl)) ?_; clear F a; intro a F
    refine list_val F (wn rfl) rfl rfl (.int .i64 t) (ex_move _ rfl _ (F.e rfl)) ?_; clear F a; intro a F
    refine list_val F (wn rfl) rfl rfl (.int .i64 ((4 * t : Nat) : Int)) (ex_bin .mul _ _ _ _ rfl .i64 _ _ rfl (F.e rfl) _ (b_mul ((w_i64 (by omega) (by omega)).trans (by omega)))) ?_; clear F a; intro a F
    refine list_val F (wn rfl) rfl rfl (.slice (some (adb.add (4 * t))) (n - 4 * t) (c - 4 * t)) (ex_cutfrom _ _ rfl adb n c (F.e rfl) _ (F.e rfl) (4 * t) rfl (by omega) (by omega)) ?_; clear F a; intro a F
    refine list_do (wn rfl) (fun K hK => ?_)
    have hcl := (at_drop hB (4 * t)).below M.bel
    refine ow_call rfl rfl F 48 #[.slice (some (adb.add (4 * t))) (n - 4 * t) (c - 4 * t)] (ex_call 48 _ _ rfl rfl df_ent_48 _ (map1 (F.e rfl))) (four_any (b.drop (4 * t)) (by rw [List.length_drop]; omega) _ _ _ (by omega) _ hcl) (fun e u hR => ?_)
    obtain ⟨he, hb⟩ := hR
    rw [word_drop] at he
    refine ⟨wv (word b t), he, ?_⟩; clear he F a; intro a F
    refine hK _ _ ?_
    clear hK K
    replace M := M.below hb; clear hb; try clear v
    clear hcl
    refine list_val F (wn rfl) rfl rfl (.pointer (some ⟨g6, t, none⟩)) (ex_ixa _ _ _ rfl 64 df_ar_84_64 ⟨g6, 0, none⟩ (F.e rfl) .i64 _ (F.e rfl) t rfl (by omega) ⟨g6, t, none⟩ ((addr_add _ _ _).trans (by rw [Nat.zero_add]))) ?_; clear F a; intro a F
    refine list_do (wn rfl) (fun K hK => ?_)
    refine ow_store F M rfl 73 _ _ rfl 1 g6 _ _ rfl (t) (F.e rfl) _ (F.e rfl) [wv (word b t)] rfl df_info_73_map_size_some_1 (by rw [List.size_toArray, wcs_len]; simp; omega) (by simp [wv, Value.oneCell']) (wcs (ws.set t (word b t))).toArray (congrArg List.toArray (wcs_set _ _ _ (by first | omega | (simp only [List.length_set]; omega)))) ?_
    clear F a; have Mo := M; clear M; intro a v F M hgr
    refine hK _ _ ?_
    clear hK K
    clear Mo hgr; try clear u
    replace M : Mm w v [⟨g7, (wcs v8).toArray, 74⟩, ⟨g6, (wcs (ws.set t (word b t))).toArray, 84⟩, ⟨g5, (wcs kTab).toArray, 84⟩, ⟨g4, ((wcs zW8).toArray), 74⟩, ⟨g2, ((wcs h).toArray), 74⟩] := M
    refine wpList_nil ?_
    replace F : Fr 164 a [(0, .agg ((wcs h).toArray)), (1, .slice (some adb) n c), (2, .pointer (some ⟨g2, 0, none⟩)), (4, .pointer (some ⟨g4, 0, none⟩)), (5, .pointer (some ⟨g5, 0, none⟩)), (6, .pointer (some ⟨g6, 0, none⟩)), (7, .pointer (some ⟨g7, 0, none⟩)), (8, .int .i64 t), (18, .bool true), (22, .bool (decide (t < 16)))] := F.keep ⟨rfl, rfl, rfl, rfl, rfl, rfl, rfl, rfl, rfl, rfl, trivial⟩
    refine only_n ?_
    have hx : word b t = nextW b (sched b t) := by
      rw [next_lo h16]
    exact ⟨(ws.set t (word b t)), F.keep ⟨rfl, rfl, rfl, rfl, rfl, rfl, rfl, rfl, rfl, trivial⟩, (by refine M.pick' [0, 1, 2, 3, 4] _ ?_ (by decide); exact ⟨rfl, rfl, rfl, rfl, rfl, trivial⟩), (sched_set hws ht _ hx), (by rw [List.length_set]; exact hwl)⟩
   refine wp_cond_false ((F.e rfl).trans (congrArg Value.bool (decide_eq_false h16))) ?_
   refine wp_seq ?_
   refine wp_region_lit ?_
   refine list_val F (wn rfl) rfl rfl (.int .i64 t) (ex_move _ rfl _ (F.e rfl)) ?_; clear F a; intro a F
   refine list_val F (wn rfl) rfl rfl (.int .i64 ((t - 15 : Nat) : Int)) (ex_bin .sub _ _ _ _ rfl .i64 _ _ (F.e rfl) rfl _ (b_sub ((w_i64 (by omega) (by omega)).trans (by omega)))) ?_; clear F a; intro a F
   refine list_val F (wn rfl) rfl rfl (.pointer (some ⟨g6, t - 15, none⟩)) (ex_ixa _ _ _ rfl 64 df_ar_84_64 ⟨g6, 0, none⟩ (F.e rfl) .i64 _ (F.e rfl) (t - 15) rfl (by omega) ⟨g6, t - 15, none⟩ ((addr_add _ _ _).trans (by rw [Nat.zero_add]))) ?_; clear F a; intro a F
   refine list_val F (wn rfl) rfl rfl (wv (ws.getD (t - 15) 0)) (ex_load _ _ rfl _ (F.e rfl) _ (lv1 df_one_73 (M.cell (i := 1) rfl (j := t - 15) (wcs_arr (by omega))))) ?_; clear F a; intro a F
   refine list_val F (wn rfl) rfl rfl (wv (ws.getD (t - 15) 0)) (ex_assign _ rfl _ (F.e rfl)) ?_; clear F a; intro a F
   refine wpList_nil ?_
   replace F : Fr 164 a [(0, .agg ((wcs h).toArray)), (1, .slice (some adb) n c), (2, .pointer (some ⟨g2, 0, none⟩)), (4, .pointer (some ⟨g4, 0, none⟩)), (5, .pointer (some ⟨g5, 0, none⟩)), (6, .pointer (some ⟨g6, 0, none⟩)), (7, .pointer (some ⟨g7, 0, none⟩)), (8, .int .i64 t), (9, wv (ws.getD (t - 15) 0)), (18, .bool true), (22, .bool (decide (t < 16)))] := F.keep ⟨rfl, rfl, rfl, rfl, rfl, rfl, rfl, rfl, rfl, rfl, rfl, trivial⟩
   refine then_n ?_
   refine wp_seq ?_
   refine wp_region_lit ?_
   refine list_val F (wn rfl) rfl rfl (.int .i64 t) (ex_move _ rfl _ (F.e rfl)) ?_; clear F a; intro a F
   refine list_val F (wn rfl) rfl rfl (.int .i64 ((t - 2 : Nat) : Int)) (ex_bin .sub _ _ _ _ rfl .i64 _ _ (F.e rfl) rfl _ (b_sub ((w_i64 (by omega) (by omega)).trans (by omega)))) ?_; clear F a; intro a F
   refine list_val F (wn rfl) rfl rfl (.pointer (some ⟨g6, t - 2, none⟩)) (ex_ixa _ _ _ rfl 64 df_ar_84_64 ⟨g6, 0, none⟩ (F.e rfl) .i64 _ (F.e rfl) (t - 2) rfl (by omega) ⟨g6, t - 2, none⟩ ((addr_add _ _ _).trans (by rw [Nat.zero_add]))) ?_; clear F a; intro a F
   refine list_val F (wn rfl) rfl rfl (wv (ws.getD (t - 2) 0)) (ex_load _ _ rfl _ (F.e rfl) _ (lv1 df_one_73 (M.cell (i := 1) rfl (j := t - 2) (wcs_arr (by omega))))) ?_; clear F a; intro a F
   refine list_val F (wn rfl) rfl rfl (wv (ws.getD (t - 2) 0)) (ex_assign _ rfl _ (F.e rfl)) ?_; clear F a; intro a F
   refine wpList_nil ?_
   replace F : Fr 164 a [(0, .agg ((wcs h).toArray)), (1, .slice (some adb) n c), (2, .pointer (some ⟨g2, 0, none⟩)), (4, .pointer (some ⟨g4, 0, none⟩)), (5, .pointer (some ⟨g5, 0, none⟩)), (6, .pointer (some ⟨g6, 0, none⟩)), (7, .pointer (some ⟨g7, 0, none⟩)), (8, .int .i64 t), (9, wv (ws.getD (t - 15) 0)), (10, wv (ws.getD (t - 2) 0)), (18, .bool true), (22, .bool (decide (t < 16)))] := F.keep ⟨rfl, rfl, rfl, rfl, rfl, rfl, rfl, rfl, rfl, rfl, rfl, rfl, trivial⟩
   refine then_n ?_
   refine wp_only (fun ar wr => Fr 164 ar [(0, .agg ((wcs h).toArray)), (1, .slice (some adb) n c), (2, .pointer (some ⟨g2, 0, none⟩)), (4, .pointer (some ⟨g4, 0, none⟩)), (5, .pointer (some ⟨g5, 0, none⟩)), (6, .pointer (some ⟨g6, 0, none⟩)), (7, .pointer (some ⟨g7, 0, none⟩)), (8, .int .i64 t), (9, wv (ws.getD (t - 15) 0)), (10, wv (ws.getD (t - 2) 0)), (18, .bool true), (22, .bool (decide (t < 16)))] ∧ Mm w wr [⟨g7, (wcs v8).toArray, 74⟩, ⟨g6, (wcs (ws.set t ((((ws.getD (t - 16) 0) + (((rr (ws.getD (t - 15) 0) 7) ^^^ (rr (ws.getD (t - 15) 0) 18)) ^^^ ((ws.getD (t - 15) 0) >>> 3))) + (ws.getD (t - 7) 0)) + (((rr (ws.getD (t - 2) 0) 17) ^^^ (rr (ws.getD (t - 2) 0) 19)) ^^^ ((ws.getD (t - 2) 0) >>> 10))))).toArray, 84⟩, ⟨g5, (wcs kTab).toArray, 84⟩, ⟨g4, ((wcs zW8).toArray), 74⟩, ⟨g2, ((wcs h).toArray), 74⟩]) ?_ ?_
   ·
    refine region_anyL df_follows_mixedOrders M [] (fun w' M => (by refine M.pick' [] _ ?_ (by decide); exact trivial)) (fun w' => Low w' g6 ws t) (fun w' M => (by first | exact low_of (M.at (i := 1) rfl) (by omega) | exact low_set (M.at (i := 1) rfl) (by omega))) ?_; clear M; intro wD M hb
    clear hb; try clear v
    have hS : Mm w wD [] ∧ Low wD g6 ws t := ⟨(by refine M.pick' [] _ ?_ (by decide); exact trivial), (by first | exact low_of (M.at (i := 1) rfl) (by omega) | exact low_set (M.at (i := 1) rfl) (by omega))⟩
    refine any_val F 0 rfl (by kernel_rfl) (wn rfl) rfl rfl (.int .i64 t) (fun w' hS' => ex_move _ rfl _ (F.e rfl)) hS ?_; clear F a; intro a F
    refine any_val F 1 rfl (by kernel_rfl) (wn rfl) rfl rfl (.int .i64 t) (fun w' hS' => ex_move _ rfl _ (F.e rfl)) hS ?_; clear F a; intro a F
    refine any_val F 2 rfl (by kernel_rfl) (wn rfl) rfl rfl (.int .i64 ((t - 16 : Nat) : Int)) (fun w' hS' => ex_bin .sub _ _ _ _ rfl .i64 _ _ (F.e rfl) rfl _ (b_sub ((w_i64 (by omega) (by omega)).trans (by omega)))) hS ?_; clear F a; intro a F
    refine any_val F 3 rfl (by kernel_rfl) (wn rfl) rfl rfl (.pointer (some ⟨g6, t - 16, none⟩)) (fun w' hS' => ex_ixa _ _ _ rfl 64 df_ar_84_64 ⟨g6, 0, none⟩ (F.e rfl) .i64 _ (F.e rfl) (t - 16) rfl (by omega) ⟨g6, t - 16, none⟩ ((addr_add _ _ _).trans (by rw [Nat.zero_add]))) hS ?_; clear F a; intro a F
    refine any_val F 4 rfl (by kernel_rfl) (wn rfl) rfl rfl (wv (ws.getD (t - 16) 0)) (fun w' hS' => ex_load _ _ rfl _ (F.e rfl) _ (lv1 df_one_73 (hS'.2 (t - 16) (by omega)))) hS ?_; clear F a; intro a F
    refine any_val F 5 rfl (by kernel_rfl) (wn rfl) rfl rfl (wv (ws.getD (t - 15) 0)) (fun w' hS' => ex_move _ rfl _ (F.e rfl)) hS ?_; clear F a; intro a F
    refine any_val F 7 rfl (by kernel_rfl) (wn rfl) rfl rfl (wv (ws.getD (t - 15) 0)) (fun w' hS' => ex_move _ rfl _ (F.e rfl)) hS ?_; clear F a; intro a F
    refine any_val F 10 rfl (by kernel_rfl) (wn rfl) rfl rfl (wv (ws.getD (t - 15) 0)) (fun w' hS' => ex_move _ rfl _ (F.e rfl)) hS ?_; clear F a; intro a F
    refine any_val F 11 rfl (by kernel_rfl) (wn rfl) rfl rfl (wv ((ws.getD (t - 15) 0) >>> 3)) (fun w' hS' => ex_quow _ _ _ _ rfl (ws.getD (t - 15) 0) 3 _ rfl (F.e rfl) rfl) hS ?_; clear F a; intro a F
    refine any_val F 14 rfl (by kernel_rfl) (wn rfl) rfl rfl (.int .i64 t) (fun w' hS' => ex_move _ rfl _ (F.e rfl)) hS ?_; clear F a; intro a F
    refine any_val F 15 rfl (by kernel_rfl) (wn rfl) rfl rfl (.int .i64 ((t - 7 : Nat) : Int)) (fun w' hS' => ex_bin .sub _ _ _ _ rfl .i64 _ _ (F.e rfl) rfl _ (b_sub ((w_i64 (by omega) (by omega)).trans (by omega)))) hS ?_; clear F a; intro a F
    refine any_val F 16 rfl (by kernel_rfl) (wn rfl) rfl rfl (.pointer (some ⟨g6, t - 7, none⟩)) (fun w' hS' => ex_ixa _ _ _ rfl 64 df_ar_84_64 ⟨g6, 0, none⟩ (F.e rfl) .i64 _ (F.e rfl) (t - 7) rfl (by omega) ⟨g6, t - 7, none⟩ ((addr_add _ _ _).trans (by rw [Nat.zero_add]))) hS ?_; clear F a; intro a F
    refine any_val F 17 rfl (by kernel_rfl) (wn rfl) rfl rfl (wv (ws.getD (t - 7) 0)) (fun w' hS' => ex_load _ _ rfl _ (F.e rfl) _ (lv1 df_one_73 (hS'.2 (t - 7) (by omega)))) hS ?_; clear F a; intro a F
    refine any_val F 19 rfl (by kernel_rfl) (wn rfl) rfl rfl (wv (ws.getD (t - 2) 0)) (fun w' hS' => ex_move _ rfl _ (F.e rfl)) hS ?_; clear F a; intro a F
    refine any_val F 21 rfl (by kernel_rfl) (wn rfl) rfl rfl (wv (ws.getD (t - 2) 0)) (fun w' hS' => ex_move _ rfl _ (F.e rfl)) hS ?_; clear F a; intro a F
    refine any_val F 24 rfl (by kernel_rfl) (wn rfl) rfl rfl (wv (ws.getD (t - 2) 0)) (fun w' hS' => ex_move _ rfl _ (F.e rfl)) hS ?_; clear F a; intro a F
    refine any_val F 25 rfl (by kernel_rfl) (wn rfl) rfl rfl (wv ((ws.getD (t - 2) 0) >>> 10)) (fun w' hS' => ex_quow _ _ _ _ rfl (ws.getD (t - 2) 0) 10 _ rfl (F.e rfl) rfl) hS ?_; clear F a; intro a F
    refine any_ready [6] (by kernel_rfl) (by simp) ?_
    refine ready_do rfl (wn rfl) (fun K hK => ?_) AllReadyH.nil
    refine ow_call rfl rfl F 49 #[wv (ws.getD (t - 15) 0), .int .u64 7] (ex_call 49 _ _ rfl rfl df_ent_49 _ (map2 (F.e rfl) rfl)) (turn_any (ws.getD (t - 15) 0) 7 (by decide) (by decide) _) (fun e v hR => ?_)
    obtain ⟨he, hb⟩ := hR
    refine ⟨wv (rr (ws.getD (t - 15) 0) 7), he, ?_⟩; clear he F a; intro a F
    replace hS : Mm w v [] ∧ Low v g6 ws t := ⟨(by refine (M.below hb).pick' [] _ ?_ (by decide); exact trivial), (by first | exact low_of ((M.below hb).at (i := 1) rfl) (by omega) | exact low_set ((M.below hb).at (i := 1) rfl) (by omega))⟩
    refine hK _ _ hS ?_
    clear hK K
    replace M := M.below hb; clear hb; try clear wD
    refine any_ready [8] (by kernel_rfl) (by simp) ?_
    refine ready_do rfl (wn rfl) (fun K hK => ?_) AllReadyH.nil
    refine ow_call rfl rfl F 49 #[wv (ws.getD (t - 15) 0), .int .u64 18] (ex_call 49 _ _ rfl rfl df_ent_49 _ (map2 (F.e rfl) rfl)) (turn_any (ws.getD (t - 15) 0) 18 (by decide) (by decide) _) (fun e u hR => ?_)
    obtain ⟨he, hb⟩ := hR
    refine ⟨wv (rr (ws.getD (t - 15) 0) 18), he, ?_⟩; clear he F a; intro a F
    replace hS : Mm w u [] ∧ Low u g6 ws t := ⟨(by refine (M.below hb).pick' [] _ ?_ (by decide); exact trivial), (by first | exact low_of ((M.below hb).at (i := 1) rfl) (by omega) | exact low_set ((M.below hb).at (i := 1) rfl) (by omega))⟩
    refine hK _ _ hS ?_
    clear hK K
    replace M := M.below hb; clear hb; try clear v
    refine any_val F 9 rfl (by kernel_rfl) (wn rfl) rfl rfl (wv ((rr (ws.getD (t - 15) 0) 7) ^^^ (rr (ws.getD (t - 15) 0) 18))) (fun w' hS' => ex_bit .xor (.inr (.inr rfl)) _ _ _ _ rfl (rr (ws.getD (t - 15) 0) 7) (rr (ws.getD (t - 15) 0) 18) (F.e rfl) (F.e rfl)) hS ?_; clear F a; intro a F
    refine any_val F 12 rfl (by kernel_rfl) (wn rfl) rfl rfl (wv (((rr (ws.getD (t - 15) 0) 7) ^^^ (rr (ws.getD (t - 15) 0) 18)) ^^^ ((ws.getD (t - 15) 0) >>> 3))) (fun w' hS' => ex_bit .xor (.inr (.inr rfl)) _ _ _ _ rfl ((rr (ws.getD (t - 15) 0) 7) ^^^ (rr (ws.getD (t - 15) 0) 18)) ((ws.getD (t - 15) 0) >>> 3) (F.e rfl) (F.e rfl)) hS ?_; clear F a; intro a F
    refine any_val F 13 rfl (by kernel_rfl) (wn rfl) rfl rfl (wv ((ws.getD (t - 16) 0) + (((rr (ws.getD (t - 15) 0) 7) ^^^ (rr (ws.getD (t - 15) 0) 18)) ^^^ ((ws.getD (t - 15) 0) >>> 3)))) (fun w' hS' => ex_addw _ _ _ _ rfl (ws.getD (t - 16) 0) (((rr (ws.getD (t - 15) 0) 7) ^^^ (rr (ws.getD (t - 15) 0) 18)) ^^^ ((ws.getD (t - 15) 0) >>> 3)) (F.e rfl) (F.e rfl)) hS ?_; clear F a; intro a F
    refine any_val F 18 rfl (by kernel_rfl) (wn rfl) rfl rfl (wv (((ws.getD (t - 16) 0) + (((rr (ws.getD (t - 15) 0) 7) ^^^ (rr (ws.getD (t - 15) 0) 18)) ^^^ ((ws.getD (t - 15) 0) >>> 3))) + (ws.getD (t - 7) 0))) (fun w' hS' => ex_addw _ _ _ _ rfl ((ws.getD (t - 16) 0) + (((rr (ws.getD (t - 15) 0) 7) ^^^ (rr (ws.getD (t - 15) 0) 18)) ^^^ ((ws.getD (t - 15) 0) >>> 3))) (ws.getD (t - 7) 0) (F.e rfl) (F.e rfl)) hS ?_; clear F a; intro a F
    refine any_ready [20] (by kernel_rfl) (by simp) ?_
    refine ready_do rfl (wn rfl) (fun K hK => ?_) AllReadyH.nil
    refine ow_call rfl rfl F 49 #[wv (ws.getD (t - 2) 0), .int .u64 17] (ex_call 49 _ _ rfl rfl df_ent_49 _ (map2 (F.e rfl) rfl)) (turn_any (ws.getD (t - 2) 0) 17 (by decide) (by decide) _) (fun e v hR => ?_)
    obtain ⟨he, hb⟩ := hR
    refine ⟨wv (rr (ws.getD (t - 2) 0) 17), he, ?_⟩; clear he F a; intro a F
    replace hS : Mm w v [] ∧ Low v g6 ws t := ⟨(by refine (M.below hb).pick' [] _ ?_ (by decide); exact trivial), (by first | exact low_of ((M.below hb).at (i := 1) rfl) (by omega) | exact low_set ((M.below hb).at (i := 1) rfl) (by omega))⟩
    refine hK _ _ hS ?_
    clear hK K
    replace M := M.below hb; clear hb; try clear u
    refine any_ready [22] (by kernel_rfl) (by simp) ?_
    refine ready_do rfl (wn rfl) (fun K hK => ?_) AllReadyH.nil
    refine ow_call rfl rfl F 49 #[wv (ws.getD (t - 2) 0), .int .u64 19] (ex_call 49 _ _ rfl rfl df_ent_49 _ (map2 (F.e rfl) rfl)) (turn_any (ws.getD (t - 2) 0) 19 (by decide) (by decide) _) (fun e u hR => ?_)
    obtain ⟨he, hb⟩ := hR
    refine ⟨wv (rr (ws.getD (t - 2) 0) 19), he, ?_⟩; clear he F a; intro a F
    replace hS : Mm w u [] ∧ Low u g6 ws t := ⟨(by refine (M.below hb).pick' [] _ ?_ (by decide); exact trivial), (by first | exact low_of ((M.below hb).at (i := 1) rfl) (by omega) | exact low_set ((M.below hb).at (i := 1) rfl) (by omega))⟩
    refine hK _ _ hS ?_
    clear hK K
    replace M := M.below hb; clear hb; try clear v
    refine any_val F 23 rfl (by kernel_rfl) (wn rfl) rfl rfl (wv ((rr (ws.getD (t - 2) 0) 17) ^^^ (rr (ws.getD (t - 2) 0) 19))) (fun w' hS' => ex_bit .xor (.inr (.inr rfl)) _ _ _ _ rfl (rr (ws.getD (t - 2) 0) 17) (rr (ws.getD (t - 2) 0) 19) (F.e rfl) (F.e rfl)) hS ?_; clear F a; intro a F
    refine any_val F 26 rfl (by kernel_rfl) (wn rfl) rfl rfl (wv (((rr (ws.getD (t - 2) 0) 17) ^^^ (rr (ws.getD (t - 2) 0) 19)) ^^^ ((ws.getD (t - 2) 0) >>> 10))) (fun w' hS' => ex_bit .xor (.inr (.inr rfl)) _ _ _ _ rfl ((rr (ws.getD (t - 2) 0) 17) ^^^ (rr (ws.getD (t - 2) 0) 19)) ((ws.getD (t - 2) 0) >>> 10) (F.e rfl) (F.e rfl)) hS ?_; clear F a; intro a F
    refine any_val F 27 rfl (by kernel_rfl) (wn rfl) rfl rfl (wv ((((ws.getD (t - 16) 0) + (((rr (ws.getD (t - 15) 0) 7) ^^^ (rr (ws.getD (t - 15) 0) 18)) ^^^ ((ws.getD (t - 15) 0) >>> 3))) + (ws.getD (t - 7) 0)) + (((rr (ws.getD (t - 2) 0) 17) ^^^ (rr (ws.getD (t - 2) 0) 19)) ^^^ ((ws.getD (t - 2) 0) >>> 10)))) (fun w' hS' => ex_addw _ _ _ _ rfl (((ws.getD (t - 16) 0) + (((rr (ws.getD (t - 15) 0) 7) ^^^ (rr (ws.getD (t - 15) 0) 18)) ^^^ ((ws.getD (t - 15) 0) >>> 3))) + (ws.getD (t - 7) 0)) (((rr (ws.getD (t - 2) 0) 17) ^^^ (rr (ws.getD (t - 2) 0) 19)) ^^^ ((ws.getD (t - 2) 0) >>> 10)) (F.e rfl) (F.e rfl)) hS ?_; clear F a; intro a F
    refine any_val F 28 rfl (by kernel_rfl) (wn rfl) rfl rfl (.pointer (some ⟨g6, t, none⟩)) (fun w' hS' => ex_ixa _ _ _ rfl 64 df_ar_84_64 ⟨g6, 0, none⟩ (F.e rfl) .i64 _ (F.e rfl) t rfl (by omega) ⟨g6, t, none⟩ ((addr_add _ _ _).trans (by rw [Nat.zero_add]))) hS ?_; clear F a; intro a F
    refine any_ready [29] (by kernel_rfl) (by simp) ?_
    refine ready_do rfl (wn rfl) (fun K hK => ?_) AllReadyH.nil
    refine ow_store F M rfl 73 _ _ rfl 1 g6 _ _ rfl (t) (F.e rfl) _ (F.e rfl) [wv ((((ws.getD (t - 16) 0) + (((rr (ws.getD (t - 15) 0) 7) ^^^ (rr (ws.getD (t - 15) 0) 18)) ^^^ ((ws.getD (t - 15) 0) >>> 3))) + (ws.getD (t - 7) 0)) + (((rr (ws.getD (t - 2) 0) 17) ^^^ (rr (ws.getD (t - 2) 0) 19)) ^^^ ((ws.getD (t - 2) 0) >>> 10)))] rfl df_info_73_map_size_some_1 (by rw [List.size_toArray, wcs_len]; simp; omega) (by simp [wv, Value.oneCell']) (wcs (ws.set t ((((ws.getD (t - 16) 0) + (((rr (ws.getD (t - 15) 0) 7) ^^^ (rr (ws.getD (t - 15) 0) 18)) ^^^ ((ws.getD (t - 15) 0) >>> 3))) + (ws.getD (t - 7) 0)) + (((rr (ws.getD (t - 2) 0) 17) ^^^ (rr (ws.getD (t - 2) 0) 19)) ^^^ ((ws.getD (t - 2) 0) >>> 10))))).toArray (congrArg List.toArray (wcs_set _ _ _ (by first | omega | (simp only [List.length_set]; omega)))) ?_
    clear F a; have Mo := M; clear M; intro a v F M hgr
    replace hS : Mm w v [] ∧ Low v g6 ws t := ⟨(by refine M.pick' [] _ ?_ (by decide); exact trivial), (by first | exact low_of (M.at (i := 1) rfl) (by omega) | exact low_set (M.at (i := 1) rfl) (by omega))⟩
    refine hK _ _ hS ?_
    clear hK K
    clear Mo hgr; try clear u
    replace M : Mm w v [⟨g7, (wcs v8).toArray, 74⟩, ⟨g6, (wcs (ws.set t ((((ws.getD (t - 16) 0) + (((rr (ws.getD (t - 15) 0) 7) ^^^ (rr (ws.getD (t - 15) 0) 18)) ^^^ ((ws.getD (t - 15) 0) >>> 3))) + (ws.getD (t - 7) 0)) + (((rr (ws.getD (t - 2) 0) 17) ^^^ (rr (ws.getD (t - 2) 0) 19)) ^^^ ((ws.getD (t - 2) 0) >>> 10))))).toArray, 84⟩, ⟨g5, (wcs kTab).toArray, 84⟩, ⟨g4, ((wcs zW8).toArray), 74⟩, ⟨g2, ((wcs h).toArray), 74⟩] := M
    refine any_done (by kernel_rfl) ?_
    exact ⟨F.keep ⟨rfl, rfl, rfl, rfl, rfl, rfl, rfl, rfl, rfl, rfl, rfl, rfl, trivial⟩, (by refine M.pick' [0, 1, 2, 3, 4] _ ?_ (by decide); exact ⟨rfl, rfl, rfl, rfl, rfl, trivial⟩)⟩
   clear F M a
   intro a u hR; obtain ⟨F, M⟩ := hR; try clear v
   refine only_n ?_
   have hx : (((ws.getD (t - 16) 0) + (((rr (ws.getD (t - 15) 0) 7) ^^^ (rr (ws.getD (t - 15) 0) 18)) ^^^ ((ws.getD (t - 15) 0) >>> 3))) + (ws.getD (t - 7) 0)) + (((rr (ws.getD (t - 2) 0) 17) ^^^ (rr (ws.getD (t - 2) 0) 19)) ^^^ ((ws.getD (t - 2) 0) >>> 10)) = nextW b (sched b t) := by
     rw [next_hi h16, hws, sched_getD (i := t - 16) (by omega), sched_getD (i := t - 15) (by omega), sched_getD (i := t - 7) (by omega), sched_getD (i := t - 2) (by omega)]
     rfl
   exact ⟨(ws.set t ((((ws.getD (t - 16) 0) + (((rr (ws.getD (t - 15) 0) 7) ^^^ (rr (ws.getD (t - 15) 0) 18)) ^^^ ((ws.getD (t - 15) 0) >>> 3))) + (ws.getD (t - 7) 0)) + (((rr (ws.getD (t - 2) 0) 17) ^^^ (rr (ws.getD (t - 2) 0) 19)) ^^^ ((ws.getD (t - 2) 0) >>> 10)))), F.keep ⟨rfl, rfl, rfl, rfl, rfl, rfl, rfl, rfl, rfl, trivial⟩, (by refine M.pick' [0, 1, 2, 3, 4] _ ?_ (by decide); exact ⟨rfl, rfl, rfl, rfl, rfl, trivial⟩), (sched_set hws ht _ hx), (by rw [List.length_set]; exact hwl)⟩
  clear F M a
  intro a u hR; obtain ⟨ws2, F, M, hws2, hw2l⟩ := hR; try clear v
  have hWt := (hW t ht).trans (sched_at ht hws2).symm
  refine then_n ?_
  refine wp_seq ?_
  refine wp_only (fun ar wr => Fr 164 ar [(0, .agg ((wcs h).toArray)), (1, .slice (some adb) n c), (2, .pointer (some ⟨g2, 0, none⟩)), (4, .pointer (some ⟨g4, 0, none⟩)), (5, .pointer (some ⟨g5, 0, none⟩)), (6, .pointer (some ⟨g6, 0, none⟩)), (7, .pointer (some ⟨g7, 0, none⟩)), (8, .int .i64 t), (11, wv (((((v8.getD 7 0) + (((rr (v8.getD 4 0) 6) ^^^ (rr (v8.getD 4 0) 11)) ^^^ (rr (v8.getD 4 0) 25))) + (((v8.getD 4 0) &&& (v8.getD 5 0)) ^^^ ((~~~(v8.getD 4 0)) &&& (v8.getD 6 0)))) + (kTab.getD t 0)) + (ws2.getD t 0))), (18, .bool true)] ∧ Mm w wr [⟨g7, (wcs v8).toArray, 74⟩, ⟨g6, (wcs ws2).toArray, 84⟩, ⟨g5, (wcs kTab).toArray, 84⟩, ⟨g4, ((wcs zW8).toArray), 74⟩, ⟨g2, ((wcs h).toArray), 74⟩]) ?_ ?_
  ·
   refine region_anyM df_follows_mixedOrders M [⟨g5, (wcs kTab).toArray, 84⟩, ⟨g6, (wcs ws2).toArray, 84⟩, ⟨g7, (wcs v8).toArray, 74⟩] (fun w' M => (by refine M.pick' [2, 1, 0] _ ?_ (by decide); exact ⟨rfl, rfl, rfl, trivial⟩)) ?_; clear M; intro wD M hb
   clear hb; try clear u
   have hS : Mm w wD [⟨g5, (wcs kTab).toArray, 84⟩, ⟨g6, (wcs ws2).toArray, 84⟩, ⟨g7, (wcs v8).toArray, 74⟩] := (by refine M.pick' [2, 1, 0] _ ?_ (by decide); exact ⟨rfl, rfl, rfl, trivial⟩)
   refine any_val F 0 rfl (by kernel_rfl) (wn rfl) rfl rfl (.pointer (some ⟨g7, 7, none⟩)) (fun w' hS' => ex_ixa _ _ _ rfl 8 df_ar_74_8 ⟨g7, 0, none⟩ (F.e rfl) .i64 _ rfl 7 rfl (by omega) ⟨g7, 7, none⟩ ((addr_add _ _ _).trans (by rw [Nat.zero_add]))) hS ?_; clear F a; intro a F
   refine any_val F 1 rfl (by kernel_rfl) (wn rfl) rfl rfl (wv (v8.getD 7 0)) (fun w' hS' => ex_load _ _ rfl _ (F.e rfl) _ (lv1 df_one_73 (hS'.cell (i := 2) rfl (j := 7) (wcs_arr (by omega))))) hS ?_; clear F a; intro a F
   refine any_val F 2 rfl (by kernel_rfl) (wn rfl) rfl rfl (.pointer (some ⟨g7, 4, none⟩)) (fun w' hS' => ex_ixa _ _ _ rfl 8 df_ar_74_8 ⟨g7, 0, none⟩ (F.e rfl) .i64 _ rfl 4 rfl (by omega) ⟨g7, 4, none⟩ ((addr_add _ _ _).trans (by rw [Nat.zero_add]))) hS ?_; clear F a; intro a F
   refine any_val F 3 rfl (by kernel_rfl) (wn rfl) rfl rfl (wv (v8.getD 4 0)) (fun w' hS' => ex_load _ _ rfl _ (F.e rfl) _ (lv1 df_one_73 (hS'.cell (i := 2) rfl (j := 4) (wcs_arr (by omega))))) hS ?_; clear F a; intro a F
   refine any_val F 5 rfl (by kernel_rfl) (wn rfl) rfl rfl (.pointer (some ⟨g7, 4, none⟩)) (fun w' hS' => ex_ixa _ _ _ rfl 8 df_ar_74_8 ⟨g7, 0, none⟩ (F.e rfl) .i64 _ rfl 4 rfl (by omega) ⟨g7, 4, none⟩ ((addr_add _ _ _).trans (by rw [Nat.zero_add]))) hS ?_; clear F a; intro a F
   refine any_val F 6 rfl (by kernel_rfl) (wn rfl) rfl rfl (wv (v8.getD 4 0)) (fun w' hS' => ex_load _ _ rfl _ (F.e rfl) _ (lv1 df_one_73 (hS'.cell (i := 2) rfl (j := 4) (wcs_arr (by omega))))) hS ?_; clear F a; intro a F
   refine any_val F 9 rfl (by kernel_rfl) (wn rfl) rfl rfl (.pointer (some ⟨g7, 4, none⟩)) (fun w' hS' => ex_ixa _ _ _ rfl 8 df_ar_74_8 ⟨g7, 0, none⟩ (F.e rfl) .i64 _ rfl 4 rfl (by omega) ⟨g7, 4, none⟩ ((addr_add _ _ _).trans (by rw [Nat.zero_add]))) hS ?_; clear F a; intro a F
   refine any_val F 10 rfl (by kernel_rfl) (wn rfl) rfl rfl (wv (v8.getD 4 0)) (fun w' hS' => ex_load _ _ rfl _ (F.e rfl) _ (lv1 df_one_73 (hS'.cell (i := 2) rfl (j := 4) (wcs_arr (by omega))))) hS ?_; clear F a; intro a F
   refine any_val F 14 rfl (by kernel_rfl) (wn rfl) rfl rfl (.pointer (some ⟨g7, 4, none⟩)) (fun w' hS' => ex_ixa _ _ _ rfl 8 df_ar_74_8 ⟨g7, 0, none⟩ (F.e rfl) .i64 _ rfl 4 rfl (by omega) ⟨g7, 4, none⟩ ((addr_add _ _ _).trans (by rw [Nat.zero_add]))) hS ?_; clear F a; intro a F
   refine any_val F 15 rfl (by kernel_rfl) (wn rfl) rfl rfl (wv (v8.getD 4 0)) (fun w' hS' => ex_load _ _ rfl _ (F.e rfl) _ (lv1 df_one_73 (hS'.cell (i := 2) rfl (j := 4) (wcs_arr (by omega))))) hS ?_; clear F a; intro a F
   refine any_val F 16 rfl (by kernel_rfl) (wn rfl) rfl rfl (.pointer (some ⟨g7, 5, none⟩)) (fun w' hS' => ex_ixa _ _ _ rfl 8 df_ar_74_8 ⟨g7, 0, none⟩ (F.e rfl) .i64 _ rfl 5 rfl (by omega) ⟨g7, 5, none⟩ ((addr_add _ _ _).trans (by rw [Nat.zero_add]))) hS ?_; clear F a; intro a F
   refine any_val F 17 rfl (by kernel_rfl) (wn rfl) rfl rfl (wv (v8.getD 5 0)) (fun w' hS' => ex_load _ _ rfl _ (F.e rfl) _ (lv1 df_one_73 (hS'.cell (i := 2) rfl (j := 5) (wcs_arr (by omega))))) hS ?_; clear F a; intro a F
   refine any_val F 18 rfl (by kernel_rfl) (wn rfl) rfl rfl (wv ((v8.getD 4 0) &&& (v8.getD 5 0))) (fun w' hS' => ex_bit .and (.inl rfl) _ _ _ _ rfl (v8.getD 4 0) (v8.getD 5 0) (F.e rfl) (F.e rfl)) hS ?_; clear F a; intro a F
   refine any_val F 19 rfl (by kernel_rfl) (wn rfl) rfl rfl (.pointer (some ⟨g7, 4, none⟩)) (fun w' hS' => ex_ixa _ _ _ rfl 8 df_ar_74_8 ⟨g7, 0, none⟩ (F.e rfl) .i64 _ rfl 4 rfl (by omega) ⟨g7, 4, none⟩ ((addr_add _ _ _).trans (by rw [Nat.zero_add]))) hS ?_; clear F a; intro a F
   refine any_val F 20 rfl (by kernel_rfl) (wn rfl) rfl rfl (wv (v8.getD 4 0)) (fun w' hS' => ex_load _ _ rfl _ (F.e rfl) _ (lv1 df_one_73 (hS'.cell (i := 2) rfl (j := 4) (wcs_arr (by omega))))) hS ?_; clear F a; intro a F
   refine any_val F 21 rfl (by kernel_rfl) (wn rfl) rfl rfl (wv (~~~(v8.getD 4 0))) (fun w' hS' => ex_notw _ _ rfl (v8.getD 4 0) (F.e rfl)) hS ?_; clear F a; intro a F
   refine any_val F 22 rfl (by kernel_rfl) (wn rfl) rfl rfl (.pointer (some ⟨g7, 6, none⟩)) (fun w' hS' => ex_ixa _ _ _ rfl 8 df_ar_74_8 ⟨g7, 0, none⟩ (F.e rfl) .i64 _ rfl 6 rfl (by omega) ⟨g7, 6, none⟩ ((addr_add _ _ _).trans (by rw [Nat.zero_add]))) hS ?_; clear F a; intro a F
   refine any_val F 23 rfl (by kernel_rfl) (wn rfl) rfl rfl (wv (v8.getD 6 0)) (fun w' hS' => ex_load _ _ rfl _ (F.e rfl) _ (lv1 df_one_73 (hS'.cell (i := 2) rfl (j := 6) (wcs_arr (by omega))))) hS ?_; clear F a; intro a F
   refine any_val F 24 rfl (by kernel_rfl) (wn rfl) rfl rfl (wv ((~~~(v8.getD 4 0)) &&& (v8.getD 6 0))) (fun w' hS' => ex_bit .and (.inl rfl) _ _ _ _ rfl (~~~(v8.getD 4 0)) (v8.getD 6 0) (F.e rfl) (F.e rfl)) hS ?_; clear F a; intro a F
   refine any_val F 25 rfl (by kernel_rfl) (wn rfl) rfl rfl (wv (((v8.getD 4 0) &&& (v8.getD 5 0)) ^^^ ((~~~(v8.getD 4 0)) &&& (v8.getD 6 0)))) (fun w' hS' => ex_bit .xor (.inr (.inr rfl)) _ _ _ _ rfl ((v8.getD 4 0) &&& (v8.getD 5 0)) ((~~~(v8.getD 4 0)) &&& (v8.getD 6 0)) (F.e rfl) (F.e rfl)) hS ?_; clear F a; intro a F
   refine any_val F 27 rfl (by kernel_rfl) (wn rfl) rfl rfl (.int .i64 t) (fun w' hS' => ex_move _ rfl _ (F.e rfl)) hS ?_; clear F a; intro a F
   refine any_val F 28 rfl (by kernel_rfl) (wn rfl) rfl rfl (.pointer (some ⟨g5, t, none⟩)) (fun w' hS' => ex_ixa _ _ _ rfl 64 df_ar_84_64 ⟨g5, 0, none⟩ (F.e rfl) .i64 _ (F.e rfl) t rfl (by omega) ⟨g5, t, none⟩ ((addr_add _ _ _).trans (by rw [Nat.zero_add]))) hS ?_; clear F a; intro a F
   refine any_val F 29 rfl (by kernel_rfl) (wn rfl) rfl rfl (wv (kTab.getD t 0)) (fun w' hS' => ex_load _ _ rfl _ (F.e rfl) _ (lv1 df_one_73 (hS'.cell (i := 0) rfl (j := t) (wcs_arr (by omega))))) hS ?_; clear F a; intro a F
   refine any_val F 31 rfl (by kernel_rfl) (wn rfl) rfl rfl (.int .i64 t) (fun w' hS' => ex_move _ rfl _ (F.e rfl)) hS ?_; clear F a; intro a F
   refine any_val F 32 rfl (by kernel_rfl) (wn rfl) rfl rfl (.pointer (some ⟨g6, t, none⟩)) (fun w' hS' => ex_ixa _ _ _ rfl 64 df_ar_84_64 ⟨g6, 0, none⟩ (F.e rfl) .i64 _ (F.e rfl) t rfl (by omega) ⟨g6, t, none⟩ ((addr_add _ _ _).trans (by rw [Nat.zero_add]))) hS ?_; clear F a; intro a F
   refine any_val F 33 rfl (by kernel_rfl) (wn rfl) rfl rfl (wv (ws2.getD t 0)) (fun w' hS' => ex_load _ _ rfl _ (F.e rfl) _ (lv1 df_one_73 (hS'.cell (i := 1) rfl (j := t) (wcs_arr (by omega))))) hS ?_; clear F a; intro a F
   refine any_ready [4] (by kernel_rfl) (by simp) ?_
   refine ready_do rfl (wn rfl) (fun K hK => ?_) AllReadyH.nil
   refine ow_call rfl rfl F 49 #[wv (v8.getD 4 0), .int .u64 6] (ex_call 49 _ _ rfl rfl df_ent_49 _ (map2 (F.e rfl) rfl)) (turn_any (v8.getD 4 0) 6 (by decide) (by decide) _) (fun e v hR => ?_)
   obtain ⟨he, hb⟩ := hR
   refine ⟨wv (rr (v8.getD 4 0) 6), he, ?_⟩; clear he F a; intro a F
   replace hS : Mm w v [⟨g5, (wcs kTab).toArray, 84⟩, ⟨g6, (wcs ws2).toArray, 84⟩, ⟨g7, (wcs v8).toArray, 74⟩] := (by refine (M.below hb).pick' [2, 1, 0] _ ?_ (by decide); exact ⟨rfl, rfl, rfl, trivial⟩)
   refine hK _ _ hS ?_
   clear hK K
   replace M := M.below hb; clear hb; try clear wD
   refine any_ready [7] (by kernel_rfl) (by simp) ?_
   refine ready_do rfl (wn rfl) (fun K hK => ?_) AllReadyH.nil
   refine ow_call rfl rfl F 49 #[wv (v8.getD 4 0), .int .u64 11] (ex_call 49 _ _ rfl rfl df_ent_49 _ (map2 (F.e rfl) rfl)) (turn_any (v8.getD 4 0) 11 (by decide) (by decide) _) (fun e u hR => ?_)
   obtain ⟨he, hb⟩ := hR
   refine ⟨wv (rr (v8.getD 4 0) 11), he, ?_⟩; clear he F a; intro a F
   replace hS : Mm w u [⟨g5, (wcs kTab).toArray, 84⟩, ⟨g6, (wcs ws2).toArray, 84⟩, ⟨g7, (wcs v8).toArray, 74⟩] := (by refine (M.below hb).pick' [2, 1, 0] _ ?_ (by decide); exact ⟨rfl, rfl, rfl, trivial⟩)
   refine hK _ _ hS ?_
   clear hK K
   replace M := M.below hb; clear hb; try clear v
   refine any_val F 8 rfl (by kernel_rfl) (wn rfl) rfl rfl (wv ((rr (v8.getD 4 0) 6) ^^^ (rr (v8.getD 4 0) 11))) (fun w' hS' => ex_bit .xor (.inr (.inr rfl)) _ _ _ _ rfl (rr (v8.getD 4 0) 6) (rr (v8.getD 4 0) 11) (F.e rfl) (F.e rfl)) hS ?_; clear F a; intro a F
   refine any_ready [11] (by kernel_rfl) (by simp) ?_
   refine ready_do rfl (wn rfl) (fun K hK => ?_) AllReadyH.nil
   refine ow_call rfl rfl F 49 #[wv (v8.getD 4 0), .int .u64 25] (ex_call 49 _ _ rfl rfl df_ent_49 _ (map2 (F.e rfl) rfl)) (turn_any (v8.getD 4 0) 25 (by decide) (by decide) _) (fun e v hR => ?_)
   obtain ⟨he, hb⟩ := hR
   refine ⟨wv (rr (v8.getD 4 0) 25), he, ?_⟩; clear he F a; intro a F
   replace hS : Mm w v [⟨g5, (wcs kTab).toArray, 84⟩, ⟨g6, (wcs ws2).toArray, 84⟩, ⟨g7, (wcs v8).toArray, 74⟩] := (by refine (M.below hb).pick' [2, 1, 0] _ ?_ (by decide); exact ⟨rfl, rfl, rfl, trivial⟩)
   refine hK _ _ hS ?_
   clear hK K
   replace M := M.below hb; clear hb; try clear u
   refine any_val F 12 rfl (by kernel_rfl) (wn rfl) rfl rfl (wv (((rr (v8.getD 4 0) 6) ^^^ (rr (v8.getD 4 0) 11)) ^^^ (rr (v8.getD 4 0) 25))) (fun w' hS' => ex_bit .xor (.inr (.inr rfl)) _ _ _ _ rfl ((rr (v8.getD 4 0) 6) ^^^ (rr (v8.getD 4 0) 11)) (rr (v8.getD 4 0) 25) (F.e rfl) (F.e rfl)) hS ?_; clear F a; intro a F
   refine any_val F 13 rfl (by kernel_rfl) (wn rfl) rfl rfl (wv ((v8.getD 7 0) + (((rr (v8.getD 4 0) 6) ^^^ (rr (v8.getD 4 0) 11)) ^^^ (rr (v8.getD 4 0) 25)))) (fun w' hS' => ex_addw _ _ _ _ rfl (v8.getD 7 0) (((rr (v8.getD 4 0) 6) ^^^ (rr (v8.getD 4 0) 11)) ^^^ (rr (v8.getD 4 0) 25)) (F.e rfl) (F.e rfl)) hS ?_; clear F a; intro a F
   refine any_val F 26 rfl (by kernel_rfl) (wn rfl) rfl rfl (wv (((v8.getD 7 0) + (((rr (v8.getD 4 0) 6) ^^^ (rr (v8.getD 4 0) 11)) ^^^ (rr (v8.getD 4 0) 25))) + (((v8.getD 4 0) &&& (v8.getD 5 0)) ^^^ ((~~~(v8.getD 4 0)) &&& (v8.getD 6 0))))) (fun w' hS' => ex_addw _ _ _ _ rfl ((v8.getD 7 0) + (((rr (v8.getD 4 0) 6) ^^^ (rr (v8.getD 4 0) 11)) ^^^ (rr (v8.getD 4 0) 25))) (((v8.getD 4 0) &&& (v8.getD 5 0)) ^^^ ((~~~(v8.getD 4 0)) &&& (v8.getD 6 0))) (F.e rfl) (F.e rfl)) hS ?_; clear F a; intro a F
   refine any_val F 30 rfl (by kernel_rfl) (wn rfl) rfl rfl (wv ((((v8.getD 7 0) + (((rr (v8.getD 4 0) 6) ^^^ (rr (v8.getD 4 0) 11)) ^^^ (rr (v8.getD 4 0) 25))) + (((v8.getD 4 0) &&& (v8.getD 5 0)) ^^^ ((~~~(v8.getD 4 0)) &&& (v8.getD 6 0)))) + (kTab.getD t 0))) (fun w' hS' => ex_addw _ _ _ _ rfl (((v8.getD 7 0) + (((rr (v8.getD 4 0) 6) ^^^ (rr (v8.getD 4 0) 11)) ^^^ (rr (v8.getD 4 0) 25))) + (((v8.getD 4 0) &&& (v8.getD 5 0)) ^^^ ((~~~(v8.getD 4 0)) &&& (v8.getD 6 0)))) (kTab.getD t 0) (F.e rfl) (F.e rfl)) hS ?_; clear F a; intro a F
   refine any_val F 34 rfl (by kernel_rfl) (wn rfl) rfl rfl (wv (((((v8.getD 7 0) + (((rr (v8.getD 4 0) 6) ^^^ (rr (v8.getD 4 0) 11)) ^^^ (rr (v8.getD 4 0) 25))) + (((v8.getD 4 0) &&& (v8.getD 5 0)) ^^^ ((~~~(v8.getD 4 0)) &&& (v8.getD 6 0)))) + (kTab.getD t 0)) + (ws2.getD t 0))) (fun w' hS' => ex_addw _ _ _ _ rfl ((((v8.getD 7 0) + (((rr (v8.getD 4 0) 6) ^^^ (rr (v8.getD 4 0) 11)) ^^^ (rr (v8.getD 4 0) 25))) + (((v8.getD 4 0) &&& (v8.getD 5 0)) ^^^ ((~~~(v8.getD 4 0)) &&& (v8.getD 6 0)))) + (kTab.getD t 0)) (ws2.getD t 0) (F.e rfl) (F.e rfl)) hS ?_; clear F a; intro a F
   refine any_val F 35 rfl (by kernel_rfl) (wn rfl) rfl rfl (wv (((((v8.getD 7 0) + (((rr (v8.getD 4 0) 6) ^^^ (rr (v8.getD 4 0) 11)) ^^^ (rr (v8.getD 4 0) 25))) + (((v8.getD 4 0) &&& (v8.getD 5 0)) ^^^ ((~~~(v8.getD 4 0)) &&& (v8.getD 6 0)))) + (kTab.getD t 0)) + (ws2.getD t 0))) (fun w' hS' => ex_assign _ rfl _ (F.e rfl)) hS ?_; clear F a; intro a F
   refine any_done (by kernel_rfl) ?_
   exact ⟨F.keep ⟨rfl, rfl, rfl, rfl, rfl, rfl, rfl, rfl, rfl, rfl, trivial⟩, (by refine M.pick' [0, 1, 2, 3, 4] _ ?_ (by decide); exact ⟨rfl, rfl, rfl, rfl, rfl, trivial⟩)⟩
  clear F M a
  intro a v hR; obtain ⟨F, M⟩ := hR; try clear u
  refine then_n ?_
  refine wp_seq ?_
  refine wp_only (fun ar wr => Fr 164 ar [(0, .agg ((wcs h).toArray)), (1, .slice (some adb) n c), (2, .pointer (some ⟨g2, 0, none⟩)), (4, .pointer (some ⟨g4, 0, none⟩)), (5, .pointer (some ⟨g5, 0, none⟩)), (6, .pointer (some ⟨g6, 0, none⟩)), (7, .pointer (some ⟨g7, 0, none⟩)), (8, .int .i64 t), (11, wv (((((v8.getD 7 0) + (((rr (v8.getD 4 0) 6) ^^^ (rr (v8.getD 4 0) 11)) ^^^ (rr (v8.getD 4 0) 25))) + (((v8.getD 4 0) &&& (v8.getD 5 0)) ^^^ ((~~~(v8.getD 4 0)) &&& (v8.getD 6 0)))) + (kTab.getD t 0)) + (ws2.getD t 0))), (12, wv ((((rr (v8.getD 0 0) 2) ^^^ (rr (v8.getD 0 0) 13)) ^^^ (rr (v8.getD 0 0) 22)) + ((((v8.getD 0 0) &&& (v8.getD 1 0)) ^^^ ((v8.getD 0 0) &&& (v8.getD 2 0))) ^^^ ((v8.getD 1 0) &&& (v8.getD 2 0))))), (18, .bool true)] ∧ Mm w wr [⟨g7, (wcs v8).toArray, 74⟩, ⟨g6, (wcs ws2).toArray, 84⟩, ⟨g5, (wcs kTab).toArray, 84⟩, ⟨g4, ((wcs zW8).toArray), 74⟩, ⟨g2, ((wcs h).toArray), 74⟩]) ?_ ?_
  ·
   refine region_anyM df_follows_mixedOrders M [⟨g7, (wcs v8).toArray, 74⟩] (fun w' M => (by refine M.pick' [0] _ ?_ (by decide); exact ⟨rfl, trivial⟩)) ?_; clear M; intro wD M hb
   clear hb; try clear v
   have hS : Mm w wD [⟨g7, (wcs v8).toArray, 74⟩] := (by refine M.pick' [0] _ ?_ (by decide); exact ⟨rfl, trivial⟩)
   refine any_val F 0 rfl (by kernel_rfl) (wn rfl) rfl rfl (.pointer (some ⟨g7, 0, none⟩)) (fun w' hS' => ex_ixa _ _ _ rfl 8 df_ar_74_8 ⟨g7, 0, none⟩ (F.e rfl) .i64 _ rfl 0 rfl (by omega) ⟨g7, 0, none⟩ ((addr_add _ _ _).trans (by rw [Nat.zero_add]))) hS ?_; clear F a; intro a F
   refine any_val F 1 rfl (by kernel_rfl) (wn rfl) rfl rfl (wv (v8.getD 0 0)) (fun w' hS' => ex_load _ _ rfl _ (F.e rfl) _ (lv1 df_one_73 (hS'.cell (i := 0) rfl (j := 0) (wcs_arr (by omega))))) hS ?_; clear F a; intro a F
   refine any_val F 3 rfl (by kernel_rfl) (wn rfl) rfl rfl (.pointer (some ⟨g7, 0, none⟩)) (fun w' hS' => ex_ixa _ _ _ rfl 8 df_ar_74_8 ⟨g7, 0, none⟩ (F.e rfl) .i64 _ rfl 0 rfl (by omega) ⟨g7, 0, none⟩ ((addr_add _ _ _).trans (by rw [Nat.zero_add]))) hS ?_; clear F a; intro a F
   refine any_val F 4 rfl (by kernel_rfl) (wn rfl) rfl rfl (wv (v8.getD 0 0)) (fun w' hS' => ex_load _ _ rfl _ (F.e rfl) _ (lv1 df_one_73 (hS'.cell (i := 0) rfl (j := 0) (wcs_arr (by omega))))) hS ?_; clear F a; intro a F
   refine any_val F 7 rfl (by kernel_rfl) (wn rfl) rfl rfl (.pointer (some ⟨g7, 0, none⟩)) (fun w' hS' => ex_ixa _ _ _ rfl 8 df_ar_74_8 ⟨g7, 0, none⟩ (F.e rfl) .i64 _ rfl 0 rfl (by omega) ⟨g7, 0, none⟩ ((addr_add _ _ _).trans (by rw [Nat.zero_add]))) hS ?_; clear F a; intro a F
   refine any_val F 8 rfl (by kernel_rfl) (wn rfl) rfl rfl (wv (v8.getD 0 0)) (fun w' hS' => ex_load _ _ rfl _ (F.e rfl) _ (lv1 df_one_73 (hS'.cell (i := 0) rfl (j := 0) (wcs_arr (by omega))))) hS ?_; clear F a; intro a F
   refine any_val F 11 rfl (by kernel_rfl) (wn rfl) rfl rfl (.pointer (some ⟨g7, 0, none⟩)) (fun w' hS' => ex_ixa _ _ _ rfl 8 df_ar_74_8 ⟨g7, 0, none⟩ (F.e rfl) .i64 _ rfl 0 rfl (by omega) ⟨g7, 0, none⟩ ((addr_add _ _ _).trans (by rw [Nat.zero_add]))) hS ?_; clear F a; intro a F
   refine any_val F 12 rfl (by kernel_rfl) (wn rfl) rfl rfl (wv (v8.getD 0 0)) (fun w' hS' => ex_load _ _ rfl _ (F.e rfl) _ (lv1 df_one_73 (hS'.cell (i := 0) rfl (j := 0) (wcs_arr (by omega))))) hS ?_; clear F a; intro a F
   refine any_val F 13 rfl (by kernel_rfl) (wn rfl) rfl rfl (.pointer (some ⟨g7, 1, none⟩)) (fun w' hS' => ex_ixa _ _ _ rfl 8 df_ar_74_8 ⟨g7, 0, none⟩ (F.e rfl) .i64 _ rfl 1 rfl (by omega) ⟨g7, 1, none⟩ ((addr_add _ _ _).trans (by rw [Nat.zero_add]))) hS ?_; clear F a; intro a F
   refine any_val F 14 rfl (by kernel_rfl) (wn rfl) rfl rfl (wv (v8.getD 1 0)) (fun w' hS' => ex_load _ _ rfl _ (F.e rfl) _ (lv1 df_one_73 (hS'.cell (i := 0) rfl (j := 1) (wcs_arr (by omega))))) hS ?_; clear F a; intro a F
   refine any_val F 15 rfl (by kernel_rfl) (wn rfl) rfl rfl (wv ((v8.getD 0 0) &&& (v8.getD 1 0))) (fun w' hS' => ex_bit .and (.inl rfl) _ _ _ _ rfl (v8.getD 0 0) (v8.getD 1 0) (F.e rfl) (F.e rfl)) hS ?_; clear F a; intro a F
   refine any_val F 16 rfl (by kernel_rfl) (wn rfl) rfl rfl (.pointer (some ⟨g7, 0, none⟩)) (fun w' hS' => ex_ixa _ _ _ rfl 8 df_ar_74_8 ⟨g7, 0, none⟩ (F.e rfl) .i64 _ rfl 0 rfl (by omega) ⟨g7, 0, none⟩ ((addr_add _ _ _).trans (by rw [Nat.zero_add]))) hS ?_; clear F a; intro a F
   refine any_val F 17 rfl (by kernel_rfl) (wn rfl) rfl rfl (wv (v8.getD 0 0)) (fun w' hS' => ex_load _ _ rfl _ (F.e rfl) _ (lv1 df_one_73 (hS'.cell (i := 0) rfl (j := 0) (wcs_arr (by omega))))) hS ?_; clear F a; intro a F
   refine any_val F 18 rfl (by kernel_rfl) (wn rfl) rfl rfl (.pointer (some ⟨g7, 2, none⟩)) (fun w' hS' => ex_ixa _ _ _ rfl 8 df_ar_74_8 ⟨g7, 0, none⟩ (F.e rfl) .i64 _ rfl 2 rfl (by omega) ⟨g7, 2, none⟩ ((addr_add _ _ _).trans (by rw [Nat.zero_add]))) hS ?_; clear F a; intro a F
   refine any_val F 19 rfl (by kernel_rfl) (wn rfl) rfl rfl (wv (v8.getD 2 0)) (fun w' hS' => ex_load _ _ rfl _ (F.e rfl) _ (lv1 df_one_73 (hS'.cell (i := 0) rfl (j := 2) (wcs_arr (by omega))))) hS ?_; clear F a; intro a F
   refine any_val F 20 rfl (by kernel_rfl) (wn rfl) rfl rfl (wv ((v8.getD 0 0) &&& (v8.getD 2 0))) (fun w' hS' => ex_bit .and (.inl rfl) _ _ _ _ rfl (v8.getD 0 0) (v8.getD 2 0) (F.e rfl) (F.e rfl)) hS ?_; clear F a; intro a F
   refine any_val F 21 rfl (by kernel_rfl) (wn rfl) rfl rfl (wv (((v8.getD 0 0) &&& (v8.getD 1 0)) ^^^ ((v8.getD 0 0) &&& (v8.getD 2 0)))) (fun w' hS' => ex_bit .xor (.inr (.inr rfl)) _ _ _ _ rfl ((v8.getD 0 0) &&& (v8.getD 1 0)) ((v8.getD 0 0) &&& (v8.getD 2 0)) (F.e rfl) (F.e rfl)) hS ?_; clear F a; intro a F
   refine any_val F 22 rfl (by kernel_rfl) (wn rfl) rfl rfl (.pointer (some ⟨g7, 1, none⟩)) (fun w' hS' => ex_ixa _ _ _ rfl 8 df_ar_74_8 ⟨g7, 0, none⟩ (F.e rfl) .i64 _ rfl 1 rfl (by omega) ⟨g7, 1, none⟩ ((addr_add _ _ _).trans (by rw [Nat.zero_add]))) hS ?_; clear F a; intro a F
   refine any_val F 23 rfl (by kernel_rfl) (wn rfl) rfl rfl (wv (v8.getD 1 0)) (fun w' hS' => ex_load _ _ rfl _ (F.e rfl) _ (lv1 df_one_73 (hS'.cell (i := 0) rfl (j := 1) (wcs_arr (by omega))))) hS ?_; clear F a; intro a F
   refine any_val F 24 rfl (by kernel_rfl) (wn rfl) rfl rfl (.pointer (some ⟨g7, 2, none⟩)) (fun w' hS' => ex_ixa _ _ _ rfl 8 df_ar_74_8 ⟨g7, 0, none⟩ (F.e rfl) .i64 _ rfl 2 rfl (by omega) ⟨g7, 2, none⟩ ((addr_add _ _ _).trans (by rw [Nat.zero_add]))) hS ?_; clear F a; intro a F
   refine any_val F 25 rfl (by kernel_rfl) (wn rfl) rfl rfl (wv (v8.getD 2 0)) (fun w' hS' => ex_load _ _ rfl _ (F.e rfl) _ (lv1 df_one_73 (hS'.cell (i := 0) rfl (j := 2) (wcs_arr (by omega))))) hS ?_; clear F a; intro a F
   refine any_val F 26 rfl (by kernel_rfl) (wn rfl) rfl rfl (wv ((v8.getD 1 0) &&& (v8.getD 2 0))) (fun w' hS' => ex_bit .and (.inl rfl) _ _ _ _ rfl (v8.getD 1 0) (v8.getD 2 0) (F.e rfl) (F.e rfl)) hS ?_; clear F a; intro a F
   refine any_val F 27 rfl (by kernel_rfl) (wn rfl) rfl rfl (wv ((((v8.getD 0 0) &&& (v8.getD 1 0)) ^^^ ((v8.getD 0 0) &&& (v8.getD 2 0))) ^^^ ((v8.getD 1 0) &&& (v8.getD 2 0)))) (fun w' hS' => ex_bit .xor (.inr (.inr rfl)) _ _ _ _ rfl (((v8.getD 0 0) &&& (v8.getD 1 0)) ^^^ ((v8.getD 0 0) &&& (v8.getD 2 0))) ((v8.getD 1 0) &&& (v8.getD 2 0)) (F.e rfl) (F.e rfl)) hS ?_; clear F a; intro a F
   refine any_ready [2] (by kernel_rfl) (by simp) ?_
   refine ready_do rfl (wn rfl) (fun K hK => ?_) AllReadyH.nil
   refine ow_call rfl rfl F 49 #[wv (v8.getD 0 0), .int .u64 2] (ex_call 49 _ _ rfl rfl df_ent_49 _ (map2 (F.e rfl) rfl)) (turn_any (v8.getD 0 0) 2 (by decide) (by decide) _) (fun e v hR => ?_)
   obtain ⟨he, hb⟩ := hR
   refine ⟨wv (rr (v8.getD 0 0) 2), he, ?_⟩; clear he F a; intro a F
   replace hS : Mm w v [⟨g7, (wcs v8).toArray, 74⟩] := (by refine (M.below hb).pick' [0] _ ?_ (by decide); exact ⟨rfl, trivial⟩)
   refine hK _ _ hS ?_
   clear hK K
   replace M := M.below hb; clear hb; try clear wD
   refine any_ready [5] (by kernel_rfl) (by simp) ?_
   refine ready_do rfl (wn rfl) (fun K hK => ?_) AllReadyH.nil
   refine ow_call rfl rfl F 49 #[wv (v8.getD 0 0), .int .u64 13] (ex_call 49 _ _ rfl rfl df_ent_49 _ (map2 (F.e rfl) rfl)) (turn_any (v8.getD 0 0) 13 (by decide) (by decide) _) (fun e u hR => ?_)
   obtain ⟨he, hb⟩ := hR
   refine ⟨wv (rr (v8.getD 0 0) 13), he, ?_⟩; clear he F a; intro a F
   replace hS : Mm w u [⟨g7, (wcs v8).toArray, 74⟩] := (by refine (M.below hb).pick' [0] _ ?_ (by decide); exact ⟨rfl, trivial⟩)
   refine hK _ _ hS ?_
   clear hK K
   replace M := M.below hb; clear hb; try clear v
   refine any_val F 6 rfl (by kernel_rfl) (wn rfl) rfl rfl (wv ((rr (v8.getD 0 0) 2) ^^^ (rr (v8.getD 0 0) 13))) (fun w' hS' => ex_bit .xor (.inr (.inr rfl)) _ _ _ _ rfl (rr (v8.getD 0 0) 2) (rr (v8.getD 0 0) 13) (F.e rfl) (F.e rfl)) hS ?_; clear F a; intro a F
   refine any_ready [9] (by kernel_rfl) (by simp) ?_
   refine ready_do rfl (wn rfl) (fun K hK => ?_) AllReadyH.nil
   refine ow_call rfl rfl F 49 #[wv (v8.getD 0 0), .int .u64 22] (ex_call 49 _ _ rfl rfl df_ent_49 _ (map2 (F.e rfl) rfl)) (turn_any (v8.getD 0 0) 22 (by decide) (by decide) _) (fun e v hR => ?_)
   obtain ⟨he, hb⟩ := hR
   refine ⟨wv (rr (v8.getD 0 0) 22), he, ?_⟩; clear he F a; intro a F
   replace hS : Mm w v [⟨g7, (wcs v8).toArray, 74⟩] := (by refine (M.below hb).pick' [0] _ ?_ (by decide); exact ⟨rfl, trivial⟩)
   refine hK _ _ hS ?_
   clear hK K
   replace M := M.below hb; clear hb; try clear u
   refine any_val F 10 rfl (by kernel_rfl) (wn rfl) rfl rfl (wv (((rr (v8.getD 0 0) 2) ^^^ (rr (v8.getD 0 0) 13)) ^^^ (rr (v8.getD 0 0) 22))) (fun w' hS' => ex_bit .xor (.inr (.inr rfl)) _ _ _ _ rfl ((rr (v8.getD 0 0) 2) ^^^ (rr (v8.getD 0 0) 13)) (rr (v8.getD 0 0) 22) (F.e rfl) (F.e rfl)) hS ?_; clear F a; intro a F
   refine any_val F 28 rfl (by kernel_rfl) (wn rfl) rfl rfl (wv ((((rr (v8.getD 0 0) 2) ^^^ (rr (v8.getD 0 0) 13)) ^^^ (rr (v8.getD 0 0) 22)) + ((((v8.getD 0 0) &&& (v8.getD 1 0)) ^^^ ((v8.getD 0 0) &&& (v8.getD 2 0))) ^^^ ((v8.getD 1 0) &&& (v8.getD 2 0))))) (fun w' hS' => ex_addw _ _ _ _ rfl (((rr (v8.getD 0 0) 2) ^^^ (rr (v8.getD 0 0) 13)) ^^^ (rr (v8.getD 0 0) 22)) ((((v8.getD 0 0) &&& (v8.getD 1 0)) ^^^ ((v8.getD 0 0) &&& (v8.getD 2 0))) ^^^ ((v8.getD 1 0) &&& (v8.getD 2 0))) (F.e rfl) (F.e rfl)) hS ?_; clear F a; intro a F
   refine any_val F 29 rfl (by kernel_rfl) (wn rfl) rfl rfl (wv ((((rr (v8.getD 0 0) 2) ^^^ (rr (v8.getD 0 0) 13)) ^^^ (rr (v8.getD 0 0) 22)) + ((((v8.getD 0 0) &&& (v8.getD 1 0)) ^^^ ((v8.getD 0 0) &&& (v8.getD 2 0))) ^^^ ((v8.getD 1 0) &&& (v8.getD 2 0))))) (fun w' hS' => ex_assign _ rfl _ (F.e rfl)) hS ?_; clear F a; intro a F
   refine any_done (by kernel_rfl) ?_
   exact ⟨F.keep ⟨rfl, rfl, rfl, rfl, rfl, rfl, rfl, rfl, rfl, rfl, rfl, trivial⟩, (by refine M.pick' [0, 1, 2, 3, 4] _ ?_ (by decide); exact ⟨rfl, rfl, rfl, rfl, rfl, trivial⟩)⟩
  clear F M a
  intro a u hR; obtain ⟨F, M⟩ := hR; try clear v
  refine then_n ?_
  refine wp_seq ?_
  refine wp_seq ?_
  refine wp_region_lit ?_
  refine list_val F (wn rfl) rfl rfl (.int .i64 7) (ex_assign _ rfl _ rfl) ?_; clear F a; intro a F
  refine wpList_nil ?_
  replace F : Fr 164 a [(0, .agg ((wcs h).toArray)), (1, .slice (some adb) n c), (2, .pointer (some ⟨g2, 0, none⟩)), (4, .pointer (some ⟨g4, 0, none⟩)), (5, .pointer (some ⟨g5, 0, none⟩)), (6, .pointer (some ⟨g6, 0, none⟩)), (7, .pointer (some ⟨g7, 0, none⟩)), (8, .int .i64 t), (11, wv (((((v8.getD 7 0) + (((rr (v8.getD 4 0) 6) ^^^ (rr (v8.getD 4 0) 11)) ^^^ (rr (v8.getD 4 0) 25))) + (((v8.getD 4 0) &&& (v8.getD 5 0)) ^^^ ((~~~(v8.getD 4 0)) &&& (v8.getD 6 0)))) + (kTab.getD t 0)) + (ws2.getD t 0))), (12, wv ((((rr (v8.getD 0 0) 2) ^^^ (rr (v8.getD 0 0) 13)) ^^^ (rr (v8.getD 0 0) 22)) + ((((v8.getD 0 0) &&& (v8.getD 1 0)) ^^^ ((v8.getD 0 0) &&& (v8.getD 2 0))) ^^^ ((v8.getD 1 0) &&& (v8.getD 2 0))))), (13, .int .i64 7), (18, .bool true)] := F.keep ⟨rfl, rfl, rfl, rfl, rfl, rfl, rfl, rfl, rfl, rfl, rfl, rfl, trivial⟩
  refine then_n ?_
  refine wp_block ?_
  refine wp_loopN (fun mq ar wr => ∃ (i : Nat), ∃ (v2 : List Wd), Fr 164 ar [(0, .agg ((wcs h).toArray)), (1, .slice (some adb) n c), (2, .pointer (some ⟨g2, 0, none⟩)), (4, .pointer (some ⟨g4, 0, none⟩)), (5, .pointer (some ⟨g5, 0, none⟩)), (6, .pointer (some ⟨g6, 0, none⟩)), (7, .pointer (some ⟨g7, 0, none⟩)), (8, .int .i64 t), (11, wv (((((v8.getD 7 0) + (((rr (v8.getD 4 0) 6) ^^^ (rr (v8.getD 4 0) 11)) ^^^ (rr (v8.getD 4 0) 25))) + (((v8.getD 4 0) &&& (v8.getD 5 0)) ^^^ ((~~~(v8.getD 4 0)) &&& (v8.getD 6 0)))) + (kTab.getD t 0)) + (ws2.getD t 0))), (12, wv ((((rr (v8.getD 0 0) 2) ^^^ (rr (v8.getD 0 0) 13)) ^^^ (rr (v8.getD 0 0) 22)) + ((((v8.getD 0 0) &&& (v8.getD 1 0)) ^^^ ((v8.getD 0 0) &&& (v8.getD 2 0))) ^^^ ((v8.getD 1 0) &&& (v8.getD 2 0))))), (13, .int .i64 i), (18, .bool true)] ∧ Mm w wr [⟨g7, (wcs v2).toArray, 74⟩, ⟨g6, (wcs ws2).toArray, 84⟩, ⟨g5, (wcs kTab).toArray, 84⟩, ⟨g4, ((wcs zW8).toArray), 74⟩, ⟨g2, ((wcs h).toArray), 74⟩] ∧ i ≤ 7 ∧ v2 = sh v8 i ∧ v2.length = 8 ∧ mq + (7 - i) = 7) 7 ?_ ?_
  ·
   exact ⟨7, v8, F.keep ⟨rfl, rfl, rfl, rfl, rfl, rfl, rfl, rfl, rfl, rfl, rfl, rfl, trivial⟩, (by refine M.pick' [0, 1, 2, 3, 4] _ ?_ (by decide); exact ⟨rfl, rfl, rfl, rfl, rfl, trivial⟩), (Nat.le_refl _), (sh_start hvl).symm, hvl, (by omega)⟩
  clear F M a
  rintro mq a v ⟨i, v2, F, M, hi, hv2, hv2l, hq⟩; try clear u
  by_cases h0 : 0 < i
  ·
   refine wp_seq ?_
   refine wp_seq ?_
   refine wp_region_lit ?_
   refine list_val F (wn rfl) rfl rfl (.int .i64 i) (ex_move _ rfl _ (F.e rfl)) ?_; clear F a; intro a F
   refine list_val F (wn rfl) rfl rfl (.bool true) (ex_bin .gtr _ _ _ _ rfl .i64 _ _ (F.e rfl) rfl _ (b_gtr (decide_eq_true (by omega)))) ?_; clear F a; intro a F
   refine wpList_nil ?_
   replace F : Fr 164 a [(0, .agg ((wcs h).toArray)), (1, .slice (some adb) n c), (2, .pointer (some ⟨g2, 0, none⟩)), (4, .pointer (some ⟨g4, 0, none⟩)), (5, .pointer (some ⟨g5, 0, none⟩)), (6, .pointer (some ⟨g6, 0, none⟩)), (7, .pointer (some ⟨g7, 0, none⟩)), (8, .int .i64 t), (11, wv (((((v8.getD 7 0) + (((rr (v8.getD 4 0) 6) ^^^ (rr (v8.getD 4 0) 11)) ^^^ (rr (v8.getD 4 0) 25))) + (((v8.getD 4 0) &&& (v8.getD 5 0)) ^^^ ((~~~(v8.getD 4 0)) &&& (v8.getD 6 0)))) + (kTab.getD t 0)) + (ws2.getD t 0))), (12, wv ((((rr (v8.getD 0 0) 2) ^^^ (rr (v8.getD 0 0) 13)) ^^^ (rr (v8.getD 0 0) 22)) + ((((v8.getD 0 0) &&& (v8.getD 1 0)) ^^^ ((v8.getD 0 0) &&& (v8.getD 2 0))) ^^^ ((v8.getD 1 0) &&& (v8.getD 2 0))))), (13, .int .i64 i), (18, .bool true), (132, .bool true)] := F.keep ⟨rfl, rfl, rfl, rfl, rfl, rfl, rfl, rfl, rfl, rfl, rfl, rfl, rfl, trivial⟩
   refine then_n ?_
   refine wp_cond_true (F.e rfl) ?_
   refine wp_skip ?_
   refine then_n ?_
   refine wp_seq ?_
   refine wp_block ?_
   refine wp_region_lit ?_
   refine list_val F (wn rfl) rfl rfl (.int .i64 i) (ex_move _ rfl _ (F.e rfl)) ?_; clear F a; intro a F
   refine list_val F (wn rfl) rfl rfl (.int .i64 i) (ex_move _ rfl _ (F.e rfl)) ?_; clear F a; intro a F
   refine list_val F (wn rfl) rfl rfl (.int .i64 ((i - 1 : Nat) : Int)) (ex_bin .sub _ _ _ _ rfl .i64 _ _ (F.e rfl) rfl _ (b_sub ((w_i64 (by omega) (by omega)).trans (by omega)))) ?_; clear F a; intro a F
   refine list_val F (wn rfl) rfl rfl (.pointer (some ⟨g7, i - 1, none⟩)) (ex_ixa _ _ _ rfl 8 df_ar_74_8 ⟨g7, 0, none⟩ (F.e rfl) .i64 _ (F.e rfl) (i - 1) rfl (by omega) ⟨g7, i - 1, none⟩ ((addr_add _ _ _).trans (by rw [Nat.zero_add]))) ?_; clear F a; intro a F
   refine list_val F (wn rfl) rfl rfl (wv (v2.getD (i - 1) 0)) (ex_load _ _ rfl _ (F.e rfl) _ (lv1 df_one_73 (M.cell (i := 0) rfl (j := i - 1) (wcs_arr (by omega))))) ?_; clear F a; intro a F
   refine list_val F (wn rfl) rfl rfl (.pointer (some ⟨g7, i, none⟩)) (ex_ixa _ _ _ rfl 8 df_ar_74_8 ⟨g7, 0, none⟩ (F.e rfl) .i64 _ (F.e rfl) i rfl (by omega) ⟨g7, i, none⟩ ((addr_add _ _ _).trans (by rw [Nat.zero_add]))) ?_; clear F a; intro a F
   refine list_do (wn rfl) (fun K hK => ?_)
   refine ow_store F M rfl 73 _ _ rfl 0 g7 _ _ rfl (i) (F.e rfl) _ (F.e rfl) [wv (v2.getD (i - 1) 0)] rfl df_info_73_map_size_some_1 (by rw [List.size_toArray, wcs_len]; simp; omega) (by simp [wv, Value.oneCell']) (wcs (v2.set i (v2.getD (i - 1) 0))).toArray (congrArg List.toArray (wcs_set _ _ _ (by first | omega | (simp only [List.length_set]; omega)))) ?_
   clear F a; have Mo := M; clear M; intro a u F M hgr
   refine hK _ _ ?_
   clear hK K
   clear Mo hgr; try clear v
   replace M : Mm w u [⟨g7, (wcs (v2.set i (v2.getD (i - 1) 0))).toArray, 74⟩, ⟨g6, (wcs ws2).toArray, 84⟩, ⟨g5, (wcs kTab).toArray, 84⟩, ⟨g4, ((wcs zW8).toArray), 74⟩, ⟨g2, ((wcs h).toArray), 74⟩] := M
   refine wpList_nil ?_
   replace F : Fr 164 a [(0, .agg ((wcs h).toArray)), (1, .slice (some adb) n c), (2, .pointer (some ⟨g2, 0, none⟩)), (4, .pointer (some ⟨g4, 0, none⟩)), (5, .pointer (some ⟨g5, 0, none⟩)), (6, .pointer (some ⟨g6, 0, none⟩)), (7, .pointer (some ⟨g7, 0, none⟩)), (8, .int .i64 t), (11, wv (((((v8.getD 7 0) + (((rr (v8.getD 4 0) 6) ^^^ (rr (v8.getD 4 0) 11)) ^^^ (rr (v8.getD 4 0) 25))) + (((v8.getD 4 0) &&& (v8.getD 5 0)) ^^^ ((~~~(v8.getD 4 0)) &&& (v8.getD 6 0)))) + (kTab.getD t 0)) + (ws2.getD t 0))), (12, wv ((((rr (v8.getD 0 0) 2) ^^^ (rr (v8.getD 0 0) 13)) ^^^ (rr (v8.getD 0 0) 22)) + ((((v8.getD 0 0) &&& (v8.getD 1 0)) ^^^ ((v8.getD 0 0) &&& (v8.getD 2 0))) ^^^ ((v8.getD 1 0) &&& (v8.getD 2 0))))), (13, .int .i64 i), (18, .bool true), (132, .bool true)] := F.keep ⟨rfl, rfl, rfl, rfl, rfl, rfl, rfl, rfl, rfl, rfl, rfl, rfl, rfl, trivial⟩
   refine in_n ?_
   refine then_n ?_
   refine wp_region_lit ?_
   refine list_val F (wn rfl) rfl rfl (.int .i64 i) (ex_move _ rfl _ (F.e rfl)) ?_; clear F a; intro a F
   refine list_val F (wn rfl) rfl rfl (.int .i64 ((i - 1 : Nat) : Int)) (ex_bin .sub _ _ _ _ rfl .i64 _ _ (F.e rfl) rfl _ (b_sub ((w_i64 (by omega) (by omega)).trans (by omega)))) ?_; clear F a; intro a F
   refine list_val F (wn rfl) rfl rfl (.int .i64 ((i - 1 : Nat) : Int)) (ex_assign _ rfl _ (F.e rfl)) ?_; clear F a; intro a F
   refine wpList_nil ?_
   replace F : Fr 164 a [(0, .agg ((wcs h).toArray)), (1, .slice (some adb) n c), (2, .pointer (some ⟨g2, 0, none⟩)), (4, .pointer (some ⟨g4, 0, none⟩)), (5, .pointer (some ⟨g5, 0, none⟩)), (6, .pointer (some ⟨g6, 0, none⟩)), (7, .pointer (some ⟨g7, 0, none⟩)), (8, .int .i64 t), (11, wv (((((v8.getD 7 0) + (((rr (v8.getD 4 0) 6) ^^^ (rr (v8.getD 4 0) 11)) ^^^ (rr (v8.getD 4 0) 25))) + (((v8.getD 4 0) &&& (v8.getD 5 0)) ^^^ ((~~~(v8.getD 4 0)) &&& (v8.getD 6 0)))) + (kTab.getD t 0)) + (ws2.getD t 0))), (12, wv ((((rr (v8.getD 0 0) 2) ^^^ (rr (v8.getD 0 0) 13)) ^^^ (rr (v8.getD 0 0) 22)) + ((((v8.getD 0 0) &&& (v8.getD 1 0)) ^^^ ((v8.getD 0 0) &&& (v8.getD 2 0))) ^^^ ((v8.getD 1 0) &&& (v8.getD 2 0))))), (13, .int .i64 ((i - 1 : Nat) : Int)), (18, .bool true), (132, .bool true)] := F.keep ⟨rfl, rfl, rfl, rfl, rfl, rfl, rfl, rfl, rfl, rfl, rfl, rfl, rfl, trivial⟩
   refine then_n ?_
   exact ⟨7 - ((7 - i) + 1), by omega, (i - 1), (v2.set i (v2.getD (i - 1) 0)), F.keep ⟨rfl, rfl, rfl, rfl, rfl, rfl, rfl, rfl, rfl, rfl, rfl, rfl, trivial⟩, (by refine M.pick' [0, 1, 2, 3, 4] _ ?_ (by decide); exact ⟨rfl, rfl, rfl, rfl, rfl, trivial⟩), (by omega), (by rw [hv2]; exact sh_step hvl h0 hi), (by rw [List.length_set]; exact hv2l), (by omega)⟩
  obtain rfl : i = 0 := by omega
  refine wp_seq ?_
  refine wp_seq ?_
  refine wp_region_lit ?_
  refine list_val F (wn rfl) rfl rfl (.int .i64 ((0 : Nat) : Int)) (ex_move _ rfl _ (F.e rfl)) ?_; clear F a; intro a F
  refine list_val F (wn rfl) rfl rfl (.bool false) (ex_bin .gtr _ _ _ _ rfl .i64 _ _ (F.e rfl) rfl _ (b_gtr (decide_eq_false (by omega)))) ?_; clear F a; intro a F
  refine wpList_nil ?_
  replace F : Fr 164 a [(0, .agg ((wcs h).toArray)), (1, .slice (some adb) n c), (2, .pointer (some ⟨g2, 0, none⟩)), (4, .pointer (some ⟨g4, 0, none⟩)), (5, .pointer (some ⟨g5, 0, none⟩)), (6, .pointer (some ⟨g6, 0, none⟩)), (7, .pointer (some ⟨g7, 0, none⟩)), (8, .int .i64 t), (11, wv (((((v8.getD 7 0) + (((rr (v8.getD 4 0) 6) ^^^ (rr (v8.getD 4 0) 11)) ^^^ (rr (v8.getD 4 0) 25))) + (((v8.getD 4 0) &&& (v8.getD 5 0)) ^^^ ((~~~(v8.getD 4 0)) &&& (v8.getD 6 0)))) + (kTab.getD t 0)) + (ws2.getD t 0))), (12, wv ((((rr (v8.getD 0 0) 2) ^^^ (rr (v8.getD 0 0) 13)) ^^^ (rr (v8.getD 0 0) 22)) + ((((v8.getD 0 0) &&& (v8.getD 1 0)) ^^^ ((v8.getD 0 0) &&& (v8.getD 2 0))) ^^^ ((v8.getD 1 0) &&& (v8.getD 2 0))))), (13, .int .i64 ((0 : Nat) : Int)), (18, .bool true), (132, .bool false)] := F.keep ⟨rfl, rfl, rfl, rfl, rfl, rfl, rfl, rfl, rfl, rfl, rfl, rfl, rfl, trivial⟩
  refine then_n ?_
  refine wp_cond_false (F.e rfl) ?_
  refine wp_exit ?_
  refine then_x ?_
  refine then_x ?_
  refine in_hit ?_
  refine then_n ?_
  refine wp_seq ?_
  refine wp_region_lit ?_
  refine list_val F (wn rfl) rfl rfl (.pointer (some ⟨g7, 4, none⟩)) (ex_ixa _ _ _ rfl 8 df_ar_74_8 ⟨g7, 0, none⟩ (F.e rfl) .i64 _ rfl 4 rfl (by omega) ⟨g7, 4, none⟩ ((addr_add _ _ _).trans (by rw [Nat.zero_add]))) ?_; clear F a; intro a F
  refine list_val F (wn rfl) rfl rfl (wv (v2.getD 4 0)) (ex_load _ _ rfl _ (F.e rfl) _ (lv1 df_one_73 (M.cell (i := 0) rfl (j := 4) (wcs_arr (by omega))))) ?_; clear F a; intro a F
  refine list_val F (wn rfl) rfl rfl (wv (((((v8.getD 7 0) + (((rr (v8.getD 4 0) 6) ^^^ (rr (v8.getD 4 0) 11)) ^^^ (rr (v8.getD 4 0) 25))) + (((v8.getD 4 0) &&& (v8.getD 5 0)) ^^^ ((~~~(v8.getD 4 0)) &&& (v8.getD 6 0)))) + (kTab.getD t 0)) + (ws2.getD t 0))) (ex_move _ rfl _ (F.e rfl)) ?_; clear F a; intro a F
  refine list_val F (wn rfl) rfl rfl (wv ((v2.getD 4 0) + (((((v8.getD 7 0) + (((rr (v8.getD 4 0) 6) ^^^ (rr (v8.getD 4 0) 11)) ^^^ (rr (v8.getD 4 0) 25))) + (((v8.getD 4 0) &&& (v8.getD 5 0)) ^^^ ((~~~(v8.getD 4 0)) &&& (v8.getD 6 0)))) + (kTab.getD t 0)) + (ws2.getD t 0)))) (ex_addw _ _ _ _ rfl (v2.getD 4 0) (((((v8.getD 7 0) + (((rr (v8.getD 4 0) 6) ^^^ (rr (v8.getD 4 0) 11)) ^^^ (rr (v8.getD 4 0) 25))) + (((v8.getD 4 0) &&& (v8.getD 5 0)) ^^^ ((~~~(v8.getD 4 0)) &&& (v8.getD 6 0)))) + (kTab.getD t 0)) + (ws2.getD t 0)) (F.e rfl) (F.e rfl)) ?_; clear F a; intro a F
  refine list_val F (wn rfl) rfl rfl (.pointer (some ⟨g7, 4, none⟩)) (ex_ixa _ _ _ rfl 8 df_ar_74_8 ⟨g7, 0, none⟩ (F.e rfl) .i64 _ rfl 4 rfl (by omega) ⟨g7, 4, none⟩ ((addr_add _ _ _).trans (by rw [Nat.zero_add]))) ?_; clear F a; intro a F
  refine list_do (wn rfl) (fun K hK => ?_)
  refine ow_store F M rfl 73 _ _ rfl 0 g7 _ _ rfl (4) (F.e rfl) _ (F.e rfl) [wv ((v2.getD 4 0) + (((((v8.getD 7 0) + (((rr (v8.getD 4 0) 6) ^^^ (rr (v8.getD 4 0) 11)) ^^^ (rr (v8.getD 4 0) 25))) + (((v8.getD 4 0) &&& (v8.getD 5 0)) ^^^ ((~~~(v8.getD 4 0)) &&& (v8.getD 6 0)))) + (kTab.getD t 0)) + (ws2.getD t 0)))] rfl df_info_73_map_size_some_1 (by rw [List.size_toArray, wcs_len]; simp; omega) (by simp [wv, Value.oneCell']) (wcs (v2.set 4 ((v2.getD 4 0) + (((((v8.getD 7 0) + (((rr (v8.getD 4 0) 6) ^^^ (rr (v8.getD 4 0) 11)) ^^^ (rr (v8.getD 4 0) 25))) + (((v8.getD 4 0) &&& (v8.getD 5 0)) ^^^ ((~~~(v8.getD 4 0)) &&& (v8.getD 6 0)))) + (kTab.getD t 0)) + (ws2.getD t 0))))).toArray (congrArg List.toArray (wcs_set _ _ _ (by first | omega | (simp only [List.length_set]; omega)))) ?_
  clear F a; have Mo := M; clear M; intro a u F M hgr
  refine hK _ _ ?_
  clear hK K
  clear Mo hgr; try clear v
  replace M : Mm w u [⟨g7, (wcs (v2.set 4 ((v2.getD 4 0) + (((((v8.getD 7 0) + (((rr (v8.getD 4 0) 6) ^^^ (rr (v8.getD 4 0) 11)) ^^^ (rr (v8.getD 4 0) 25))) + (((v8.getD 4 0) &&& (v8.getD 5 0)) ^^^ ((~~~(v8.getD 4 0)) &&& (v8.getD 6 0)))) + (kTab.getD t 0)) + (ws2.getD t 0))))).toArray, 74⟩, ⟨g6, (wcs ws2).toArray, 84⟩, ⟨g5, (wcs kTab).toArray, 84⟩, ⟨g4, ((wcs zW8).toArray), 74⟩, ⟨g2, ((wcs h).toArray), 74⟩] := M
  refine wpList_nil ?_
  replace F : Fr 164 a [(0, .agg ((wcs h).toArray)), (1, .slice (some adb) n c), (2, .pointer (some ⟨g2, 0, none⟩)), (4, .pointer (some ⟨g4, 0, none⟩)), (5, .pointer (some ⟨g5, 0, none⟩)), (6, .pointer (some ⟨g6, 0, none⟩)), (7, .pointer (some ⟨g7, 0, none⟩)), (8, .int .i64 t), (11, wv (((((v8.getD 7 0) + (((rr (v8.getD 4 0) 6) ^^^ (rr (v8.getD 4 0) 11)) ^^^ (rr (v8.getD 4 0) 25))) + (((v8.getD 4 0) &&& (v8.getD 5 0)) ^^^ ((~~~(v8.getD 4 0)) &&& (v8.getD 6 0)))) + (kTab.getD t 0)) + (ws2.getD t 0))), (12, wv ((((rr (v8.getD 0 0) 2) ^^^ (rr (v8.getD 0 0) 13)) ^^^ (rr (v8.getD 0 0) 22)) + ((((v8.getD 0 0) &&& (v8.getD 1 0)) ^^^ ((v8.getD 0 0) &&& (v8.getD 2 0))) ^^^ ((v8.getD 1 0) &&& (v8.getD 2 0))))), (13, .int .i64 ((0 : Nat) : Int)), (18, .bool true), (132, .bool false)] := F.keep ⟨rfl, rfl, rfl, rfl, rfl, rfl, rfl, rfl, rfl, rfl, rfl, rfl, rfl, trivial⟩
  refine then_n ?_
  refine wp_region_lit ?_
  refine list_val F (wn rfl) rfl rfl (wv (((((v8.getD 7 0) + (((rr (v8.getD 4 0) 6) ^^^ (rr (v8.getD 4 0) 11)) ^^^ (rr (v8.getD 4 0) 25))) + (((v8.getD 4 0) &&& (v8.getD 5 0)) ^^^ ((~~~(v8.getD 4 0)) &&& (v8.getD 6 0)))) + (kTab.getD t 0)) + (ws2.getD t 0))) (ex_move _ rfl _ (F.e rfl)) ?_; clear F a; intro a F
  refine list_val F (wn rfl) rfl rfl (wv ((((rr (v8.getD 0 0) 2) ^^^ (rr (v8.getD 0 0) 13)) ^^^ (rr (v8.getD 0 0) 22)) + ((((v8.getD 0 0) &&& (v8.getD 1 0)) ^^^ ((v8.getD 0 0) &&& (v8.getD 2 0))) ^^^ ((v8.getD 1 0) &&& (v8.getD 2 0))))) (ex_move _ rfl _ (F.e rfl)) ?_; clear F a; intro a F
  refine list_val F (wn rfl) rfl rfl (wv ((((((v8.getD 7 0) + (((rr (v8.getD 4 0) 6) ^^^ (rr (v8.getD 4 0) 11)) ^^^ (rr (v8.getD 4 0) 25))) + (((v8.getD 4 0) &&& (v8.getD 5 0)) ^^^ ((~~~(v8.getD 4 0)) &&& (v8.getD 6 0)))) + (kTab.getD t 0)) + (ws2.getD t 0)) + ((((rr (v8.getD 0 0) 2) ^^^ (rr (v8.getD 0 0) 13)) ^^^ (rr (v8.getD 0 0) 22)) + ((((v8.getD 0 0) &&& (v8.getD 1 0)) ^^^ ((v8.getD 0 0) &&& (v8.getD 2 0))) ^^^ ((v8.getD 1 0) &&& (v8.getD 2 0)))))) (ex_addw _ _ _ _ rfl (((((v8.getD 7 0) + (((rr (v8.getD 4 0) 6) ^^^ (rr (v8.getD 4 0) 11)) ^^^ (rr (v8.getD 4 0) 25))) + (((v8.getD 4 0) &&& (v8.getD 5 0)) ^^^ ((~~~(v8.getD 4 0)) &&& (v8.getD 6 0)))) + (kTab.getD t 0)) + (ws2.getD t 0)) ((((rr (v8.getD 0 0) 2) ^^^ (rr (v8.getD 0 0) 13)) ^^^ (rr (v8.getD 0 0) 22)) + ((((v8.getD 0 0) &&& (v8.getD 1 0)) ^^^ ((v8.getD 0 0) &&& (v8.getD 2 0))) ^^^ ((v8.getD 1 0) &&& (v8.getD 2 0)))) (F.e rfl) (F.e rfl)) ?_; clear F a; intro a F
  refine list_val F (wn rfl) rfl rfl (.pointer (some ⟨g7, 0, none⟩)) (ex_ixa _ _ _ rfl 8 df_ar_74_8 ⟨g7, 0, none⟩ (F.e rfl) .i64 _ rfl 0 rfl (by omega) ⟨g7, 0, none⟩ ((addr_add _ _ _).trans (by rw [Nat.zero_add]))) ?_; clear F a; intro a F
  refine list_do (wn rfl) (fun K hK => ?_)
  refine ow_store F M rfl 73 _ _ rfl 0 g7 _ _ rfl (0) (F.e rfl) _ (F.e rfl) [wv ((((((v8.getD 7 0) + (((rr (v8.getD 4 0) 6) ^^^ (rr (v8.getD 4 0) 11)) ^^^ (rr (v8.getD 4 0) 25))) + (((v8.getD 4 0) &&& (v8.getD 5 0)) ^^^ ((~~~(v8.getD 4 0)) &&& (v8.getD 6 0)))) + (kTab.getD t 0)) + (ws2.getD t 0)) + ((((rr (v8.getD 0 0) 2) ^^^ (rr (v8.getD 0 0) 13)) ^^^ (rr (v8.getD 0 0) 22)) + ((((v8.getD 0 0) &&& (v8.getD 1 0)) ^^^ ((v8.getD 0 0) &&& (v8.getD 2 0))) ^^^ ((v8.getD 1 0) &&& (v8.getD 2 0)))))] rfl df_info_73_map_size_some_1 (by rw [List.size_toArray, wcs_len]; simp; omega) (by simp [wv, Value.oneCell']) (wcs ((v2.set 4 ((v2.getD 4 0) + (((((v8.getD 7 0) + (((rr (v8.getD 4 0) 6) ^^^ (rr (v8.getD 4 0) 11)) ^^^ (rr (v8.getD 4 0) 25))) + (((v8.getD 4 0) &&& (v8.getD 5 0)) ^^^ ((~~~(v8.getD 4 0)) &&& (v8.getD 6 0)))) + (kTab.getD t 0)) + (ws2.getD t 0)))).set 0 ((((((v8.getD 7 0) + (((rr (v8.getD 4 0) 6) ^^^ (rr (v8.getD 4 0) 11)) ^^^ (rr (v8.getD 4 0) 25))) + (((v8.getD 4 0) &&& (v8.getD 5 0)) ^^^ ((~~~(v8.getD 4 0)) &&& (v8.getD 6 0)))) + (kTab.getD t 0)) + (ws2.getD t 0)) + ((((rr (v8.getD 0 0) 2) ^^^ (rr (v8.getD 0 0) 13)) ^^^ (rr (v8.getD 0 0) 22)) + ((((v8.getD 0 0) &&& (v8.getD 1 0)) ^^^ ((v8.getD 0 0) &&& (v8.getD 2 0))) ^^^ ((v8.getD 1 0) &&& (v8.getD 2 0))))))).toArray (congrArg List.toArray (wcs_set _ _ _ (by first | omega | (simp only [List.length_set]; omega)))) ?_
  clear F a; have Mo := M; clear M; intro a v F M hgr
  refine hK _ _ ?_
  clear hK K
  clear Mo hgr; try clear u
  replace M : Mm w v [⟨g7, (wcs ((v2.set 4 ((v2.getD 4 0) + (((((v8.getD 7 0) + (((rr (v8.getD 4 0) 6) ^^^ (rr (v8.getD 4 0) 11)) ^^^ (rr (v8.getD 4 0) 25))) + (((v8.getD 4 0) &&& (v8.getD 5 0)) ^^^ ((~~~(v8.getD 4 0)) &&& (v8.getD 6 0)))) + (kTab.getD t 0)) + (ws2.getD t 0)))).set 0 ((((((v8.getD 7 0) + (((rr (v8.getD 4 0) 6) ^^^ (rr (v8.getD 4 0) 11)) ^^^ (rr (v8.getD 4 0) 25))) + (((v8.getD 4 0) &&& (v8.getD 5 0)) ^^^ ((~~~(v8.getD 4 0)) &&& (v8.getD 6 0)))) + (kTab.getD t 0)) + (ws2.getD t 0)) + ((((rr (v8.getD 0 0) 2) ^^^ (rr (v8.getD 0 0) 13)) ^^^ (rr (v8.getD 0 0) 22)) + ((((v8.getD 0 0) &&& (v8.getD 1 0)) ^^^ ((v8.getD 0 0) &&& (v8.getD 2 0))) ^^^ ((v8.getD 1 0) &&& (v8.getD 2 0))))))).toArray, 74⟩, ⟨g6, (wcs ws2).toArray, 84⟩, ⟨g5, (wcs kTab).toArray, 84⟩, ⟨g4, ((wcs zW8).toArray), 74⟩, ⟨g2, ((wcs h).toArray), 74⟩] := M
  refine wpList_nil ?_
  replace F : Fr 164 a [(0, .agg ((wcs h).toArray)), (1, .slice (some adb) n c), (2, .pointer (some ⟨g2, 0, none⟩)), (4, .pointer (some ⟨g4, 0, none⟩)), (5, .pointer (some ⟨g5, 0, none⟩)), (6, .pointer (some ⟨g6, 0, none⟩)), (7, .pointer (some ⟨g7, 0, none⟩)), (8, .int .i64 t), (11, wv (((((v8.getD 7 0) + (((rr (v8.getD 4 0) 6) ^^^ (rr (v8.getD 4 0) 11)) ^^^ (rr (v8.getD 4 0) 25))) + (((v8.getD 4 0) &&& (v8.getD 5 0)) ^^^ ((~~~(v8.getD 4 0)) &&& (v8.getD 6 0)))) + (kTab.getD t 0)) + (ws2.getD t 0))), (12, wv ((((rr (v8.getD 0 0) 2) ^^^ (rr (v8.getD 0 0) 13)) ^^^ (rr (v8.getD 0 0) 22)) + ((((v8.getD 0 0) &&& (v8.getD 1 0)) ^^^ ((v8.getD 0 0) &&& (v8.getD 2 0))) ^^^ ((v8.getD 1 0) &&& (v8.getD 2 0))))), (13, .int .i64 ((0 : Nat) : Int)), (18, .bool true), (132, .bool false)] := F.keep ⟨rfl, rfl, rfl, rfl, rfl, rfl, rfl, rfl, rfl, rfl, rfl, rfl, rfl, trivial⟩
  refine in_n ?_
  refine then_n ?_
  refine wp_region_lit ?_
  refine list_val F (wn rfl) rfl rfl (.int .i64 t) (ex_move _ rfl _ (F.e rfl)) ?_; clear F a; intro a F
  refine list_val F (wn rfl) rfl rfl (.int .i64 (t + 1)) (ex_bin .add _ _ _ _ rfl .i64 _ _ (F.e rfl) rfl _ (b_add (w_i64 (by omega) (by omega)))) ?_; clear F a; intro a F
  refine list_val F (wn rfl) rfl rfl (.int .i64 (t + 1)) (ex_assign _ rfl _ (F.e rfl)) ?_; clear F a; intro a F
  refine wpList_nil ?_
  replace F : Fr 164 a [(0, .agg ((wcs h).toArray)), (1, .slice (some adb) n c), (2, .pointer (some ⟨g2, 0, none⟩)), (4, .pointer (some ⟨g4, 0, none⟩)), (5, .pointer (some ⟨g5, 0, none⟩)), (6, .pointer (some ⟨g6, 0, none⟩)), (7, .pointer (some ⟨g7, 0, none⟩)), (8, .int .i64 (t + 1)), (11, wv (((((v8.getD 7 0) + (((rr (v8.getD 4 0) 6) ^^^ (rr (v8.getD 4 0) 11)) ^^^ (rr (v8.getD 4 0) 25))) + (((v8.getD 4 0) &&& (v8.getD 5 0)) ^^^ ((~~~(v8.getD 4 0)) &&& (v8.getD 6 0)))) + (kTab.getD t 0)) + (ws2.getD t 0))), (12, wv ((((rr (v8.getD 0 0) 2) ^^^ (rr (v8.getD 0 0) 13)) ^^^ (rr (v8.getD 0 0) 22)) + ((((v8.getD 0 0) &&& (v8.getD 1 0)) ^^^ ((v8.getD 0 0) &&& (v8.getD 2 0))) ^^^ ((v8.getD 1 0) &&& (v8.getD 2 0))))), (13, .int .i64 ((0 : Nat) : Int)), (18, .bool true), (132, .bool false)] := F.keep ⟨rfl, rfl, rfl, rfl, rfl, rfl, rfl, rfl, rfl, rfl, rfl, rfl, rfl, trivial⟩
  refine then_n ?_
  exact ⟨64 - (t + 1), by omega, (t + 1), ws2, ((v2.set 4 ((v2.getD 4 0) + (((((v8.getD 7 0) + (((rr (v8.getD 4 0) 6) ^^^ (rr (v8.getD 4 0) 11)) ^^^ (rr (v8.getD 4 0) 25))) + (((v8.getD 4 0) &&& (v8.getD 5 0)) ^^^ ((~~~(v8.getD 4 0)) &&& (v8.getD 6 0)))) + (kTab.getD t 0)) + (ws2.getD t 0)))).set 0 ((((((v8.getD 7 0) + (((rr (v8.getD 4 0) 6) ^^^ (rr (v8.getD 4 0) 11)) ^^^ (rr (v8.getD 4 0) 25))) + (((v8.getD 4 0) &&& (v8.getD 5 0)) ^^^ ((~~~(v8.getD 4 0)) &&& (v8.getD 6 0)))) + (kTab.getD t 0)) + (ws2.getD t 0)) + ((((rr (v8.getD 0 0) 2) ^^^ (rr (v8.getD 0 0) 13)) ^^^ (rr (v8.getD 0 0) 22)) + ((((v8.getD 0 0) &&& (v8.getD 1 0)) ^^^ ((v8.getD 0 0) &&& (v8.getD 2 0))) ^^^ ((v8.getD 1 0) &&& (v8.getD 2 0)))))), F.keep ⟨rfl, rfl, rfl, rfl, rfl, rfl, rfl, rfl, trivial⟩, (by refine M.pick' [0, 1, 2, 3, 4] _ ?_ (by decide); exact ⟨rfl, rfl, rfl, rfl, rfl, trivial⟩), (by omega), hws2, hw2l, (by rw [hv2, rounds, ← hv, hWt]; exact sh_rnd hvl _ _), (by simp only [List.length_set]; exact hv2l), (by omega)⟩
 obtain rfl : t = 64 := by omega
 refine wp_seq ?_
 refine wp_seq ?_
 refine wp_region_lit ?_
 refine list_val F (wn rfl) rfl rfl (.int .i64 ((64 : Nat) : Int)) (ex_move _ rfl _ (F.e rfl)) ?_; clear F a; intro a F
 refine list_val F (wn rfl) rfl rfl (.bool false) (ex_bin .lss _ _ _ _ rfl .i64 _ _ (F.e rfl) rfl _ (b_lss (decide_eq_false (by omega)))) ?_; clear F a; intro a F
 refine wpList_nil ?_
 replace F : Fr 164 a [(0, .agg ((wcs h).toArray)), (1, .slice (some adb) n c), (2, .pointer (some ⟨g2, 0, none⟩)), (4, .pointer (some ⟨g4, 0, none⟩)), (5, .pointer (some ⟨g5, 0, none⟩)), (6, .pointer (some ⟨g6, 0, none⟩)), (7, .pointer (some ⟨g7, 0, none⟩)), (8, .int .i64 ((64 : Nat) : Int)), (18, .bool false)] := F.keep ⟨rfl, rfl, rfl, rfl, rfl, rfl, rfl, rfl, rfl, trivial⟩
 refine then_n ?_
 refine wp_cond_false (F.e rfl) ?_
 refine wp_exit ?_
 refine then_x ?_
 refine then_x ?_
 refine in_hit ?_
 refine then_n ?_
 refine wp_seq ?_
 refine wp_seq ?_
 refine wp_region_lit ?_
 refine list_val F (wn rfl) rfl rfl (.int .i64 0) (ex_assign _ rfl _ rfl) ?_; clear F a; intro a F
 refine wpList_nil ?_
 replace F : Fr 164 a [(0, .agg ((wcs h).toArray)), (1, .slice (some adb) n c), (2, .pointer (some ⟨g2, 0, none⟩)), (4, .pointer (some ⟨g4, 0, none⟩)), (5, .pointer (some ⟨g5, 0, none⟩)), (6, .pointer (some ⟨g6, 0, none⟩)), (7, .pointer (some ⟨g7, 0, none⟩)), (8, .int .i64 ((64 : Nat) : Int)), (14, .int .i64 0), (18, .bool false)] := F.keep ⟨rfl, rfl, rfl, rfl, rfl, rfl, rfl, rfl, rfl, rfl, trivial⟩
 refine then_n ?_
 refine wp_block ?_
 refine wp_loopN (fun mq ar wr => ∃ (i : Nat), ∃ (h2 : List Wd), Fr 164 ar [(0, .agg ((wcs h).toArray)), (1, .slice (some adb) n c), (2, .pointer (some ⟨g2, 0, none⟩)), (4, .pointer (some ⟨g4, 0, none⟩)), (5, .pointer (some ⟨g5, 0, none⟩)), (6, .pointer (some ⟨g6, 0, none⟩)), (7, .pointer (some ⟨g7, 0, none⟩)), (8, .int .i64 ((64 : Nat) : Int)), (14, .int .i64 i), (18, .bool false)] ∧ Mm w wr [⟨g7, (wcs v8).toArray, 74⟩, ⟨g4, ((wcs zW8).toArray), 74⟩, ⟨g2, (wcs h2).toArray, 74⟩] ∧ i ≤ 8 ∧ h2 = addTo h v8 i ∧ h2.length = 8 ∧ mq + i = 8) 8 ?_ ?_
 ·
  exact ⟨0, h, F.keep ⟨rfl, rfl, rfl, rfl, rfl, rfl, rfl, rfl, rfl, rfl, trivial⟩, (by refine M.pick' [0, 3, 4] _ ?_ (by decide); exact ⟨rfl, rfl, rfl, trivial⟩), (Nat.zero_le _), (addTo_zero _ _).symm, hh, (by omega)⟩
 clear F M a
 rintro mq a u ⟨i, h2, F, M, hi1, hh2, h2l, hq⟩; try clear v
 by_cases hi : i < 8
 ·
  refine wp_seq ?_
  refine wp_seq ?_
  refine wp_region_lit ?_
  refine list_val F (wn rfl) rfl rfl (.int .i64 i) (ex_move _ rfl _ (F.e rfl)) ?_; clear F a; intro a F
  refine list_val F (wn rfl) rfl rfl (.bool true) (ex_bin .lss _ _ _ _ rfl .i64 _ _ (F.e rfl) rfl _ (b_lss (decide_eq_true (by omega)))) ?_; clear F a; intro a F
  refine wpList_nil ?_
  replace F : Fr 164 a [(0, .agg ((wcs h).toArray)), (1, .slice (some adb) n c), (2, .pointer (some ⟨g2, 0, none⟩)), (4, .pointer (some ⟨g4, 0, none⟩)), (5, .pointer (some ⟨g5, 0, none⟩)), (6, .pointer (some ⟨g6, 0, none⟩)), (7, .pointer (some ⟨g7, 0, none⟩)), (8, .int .i64 ((64 : Nat) : Int)), (14, .int .i64 i), (18, .bool false), (151, .bool true)] := F.keep ⟨rfl, rfl, rfl, rfl, rfl, rfl, rfl, rfl, rfl, rfl, rfl, trivial⟩
  refine then_n ?_
  refine wp_cond_true (F.e rfl) ?_
  refine wp_skip ?_
  refine then_n ?_
  refine wp_seq ?_
  refine wp_block ?_
  refine region_tail 9 df_follows_mixedOrders (by kernel_rfl) M ?_; clear M; intro v M hb
  clear hb; try clear u
  refine still_val F (wn rfl) rfl rfl (.int .i64 i) (ex_move _ rfl _ (F.e rfl)) ?_; clear F a; intro a F
  refine still_val F (wn rfl) rfl rfl (.int .i64 i) (ex_move _ rfl _ (F.e rfl)) ?_; clear F a; intro a F
  refine still_val F (wn rfl) rfl rfl (.pointer (some ⟨g2, i, none⟩)) (ex_ixa _ _ _ rfl 8 df_ar_74_8 ⟨g2, 0, none⟩ (F.e rfl) .i64 _ (F.e rfl) i rfl (by omega) ⟨g2, i, none⟩ ((addr_add _ _ _).trans (by rw [Nat.zero_add]))) ?_; clear F a; intro a F
  refine still_val F (wn rfl) rfl rfl (wv (h2.getD i 0)) (ex_load _ _ rfl _ (F.e rfl) _ (lv1 df_one_73 (M.cell (i := 2) rfl (j := i) (wcs_arr (by omega))))) ?_; clear F a; intro a F
  refine still_val F (wn rfl) rfl rfl (.int .i64 i) (ex_move _ rfl _ (F.e rfl)) ?_; clear F a; intro a F
  refine still_val F (wn rfl) rfl rfl (.pointer (some ⟨g7, i, none⟩)) (ex_ixa _ _ _ rfl 8 df_ar_74_8 ⟨g7, 0, none⟩ (F.e rfl) .i64 _ (F.e rfl) i rfl (by omega) ⟨g7, i, none⟩ ((addr_add _ _ _).trans (by rw [Nat.zero_add]))) ?_; clear F a; intro a F
  refine still_val F (wn rfl) rfl rfl (wv (v8.getD i 0)) (ex_load _ _ rfl _ (F.e rfl) _ (lv1 df_one_73 (M.cell (i := 0) rfl (j := i) (wcs_arr (by omega))))) ?_; clear F a; intro a F
  refine still_val F (wn rfl) rfl rfl (wv ((h2.getD i 0) + (v8.getD i 0))) (ex_addw _ _ _ _ rfl (h2.getD i 0) (v8.getD i 0) (F.e rfl) (F.e rfl)) ?_; clear F a; intro a F
  refine still_val F (wn rfl) rfl rfl (.pointer (some ⟨g2, i, none⟩)) (ex_ixa _ _ _ rfl 8 df_ar_74_8 ⟨g2, 0, none⟩ (F.e rfl) .i64 _ (F.e rfl) i rfl (by omega) ⟨g2, i, none⟩ ((addr_add _ _ _).trans (by rw [Nat.zero_add]))) ?_; clear F a; intro a F
  refine still_end ?_
  refine list_do (wn rfl) (fun K hK => ?_)
  refine ow_store F M rfl 73 _ _ rfl 2 g2 _ _ rfl (i) (F.e rfl) _ (F.e rfl) [wv ((h2.getD i 0) + (v8.getD i 0))] rfl df_info_73_map_size_some_1 (by rw [List.size_toArray, wcs_len]; simp; omega) (by simp [wv, Value.oneCell']) (wcs (h2.set i ((h2.getD i 0) + (v8.getD i 0)))).toArray (congrArg List.toArray (wcs_set _ _ _ (by first | omega | (simp only [List.length_set]; omega)))) ?_
  clear F a; have Mo := M; clear M; intro a u F M hgr
  refine hK _ _ ?_
  clear hK K
  clear Mo hgr; try clear v
  replace M : Mm w u [⟨g7, (wcs v8).toArray, 74⟩, ⟨g4, ((wcs zW8).toArray), 74⟩, ⟨g2, (wcs (h2.set i ((h2.getD i 0) + (v8.getD i 0)))).toArray, 74⟩] := M
  refine wpList_nil ?_
  replace F : Fr 164 a [(0, .agg ((wcs h).toArray)), (1, .slice (some adb) n c), (2, .pointer (some ⟨g2, 0, none⟩)), (4, .pointer (some ⟨g4, 0, none⟩)), (5, .pointer (some ⟨g5, 0, none⟩)), (6, .pointer (some ⟨g6, 0, none⟩)), (7, .pointer (some ⟨g7, 0, none⟩)), (8, .int .i64 ((64 : Nat) : Int)), (14, .int .i64 i), (18, .bool false), (151, .bool true)] := F.keep ⟨rfl, rfl, rfl, rfl, rfl, rfl, rfl, rfl, rfl, rfl, rfl, trivial⟩
  refine in_n ?_
  refine then_n ?_
  refine wp_region_lit ?_
  refine list_val F (wn rfl) rfl rfl (.int .i64 i) (ex_move _ rfl _ (F.e rfl)) ?_; clear F a; intro a F
  refine list_val F (wn rfl) rfl rfl (.int .i64 (i + 1)) (ex_bin .add _ _ _ _ rfl .i64 _ _ (F.e rfl) rfl _ (b_add (w_i64 (by omega) (by omega)))) ?_; clear F a; intro a F
  refine list_val F (wn rfl) rfl rfl (.int .i64 (i + 1)) (ex_assign _ rfl _ (F.e rfl)) ?_; clear F a; intro a F
  refine wpList_nil ?_
  replace F : Fr 164 a [(0, .agg ((wcs h).toArray)), (1, .slice (some adb) n c), (2, .pointer (some ⟨g2, 0, none⟩)), (4, .pointer (some ⟨g4, 0, none⟩)), (5, .pointer (some ⟨g5, 0, none⟩)), (6, .pointer (some ⟨g6, 0, none⟩)), (7, .pointer (some ⟨g7, 0, none⟩)), (8, .int .i64 ((64 : Nat) : Int)), (14, .int .i64 (i + 1)), (18, .bool false), (151, .bool true)] := F.keep ⟨rfl, rfl, rfl, rfl, rfl, rfl, rfl, rfl, rfl, rfl, rfl, trivial⟩
  refine then_n ?_
  exact ⟨8 - (i + 1), by omega, (i + 1), (h2.set i ((h2.getD i 0) + (v8.getD i 0))), F.keep ⟨rfl, rfl, rfl, rfl, rfl, rfl, rfl, rfl, rfl, rfl, trivial⟩, (by refine M.pick' [0, 1, 2] _ ?_ (by decide); exact ⟨rfl, rfl, rfl, trivial⟩), (by omega), (by rw [hh2, addTo_get hh hvl hi]; exact addTo_step hh hvl hi), (by rw [List.length_set]; exact h2l), (by omega)⟩
 obtain rfl : i = 8 := by omega
 rw [addTo_all hh hvl] at hh2
 have hfin : blk h b = h2 := by rw [hblk, ← hv]; exact hh2.symm
 refine wp_seq ?_
 refine wp_seq ?_
 refine wp_region_lit ?_
 refine list_val F (wn rfl) rfl rfl (.int .i64 ((8 : Nat) : Int)) (ex_move _ rfl _ (F.e rfl)) ?_; clear F a; intro a F
 refine list_val F (wn rfl) rfl rfl (.bool false) (ex_bin .lss _ _ _ _ rfl .i64 _ _ (F.e rfl) rfl _ (b_lss (decide_eq_false (by omega)))) ?_; clear F a; intro a F
 refine wpList_nil ?_
 replace F : Fr 164 a [(0, .agg ((wcs h).toArray)), (1, .slice (some adb) n c), (2, .pointer (some ⟨g2, 0, none⟩)), (4, .pointer (some ⟨g4, 0, none⟩)), (5, .pointer (some ⟨g5, 0, none⟩)), (6, .pointer (some ⟨g6, 0, none⟩)), (7, .pointer (some ⟨g7, 0, none⟩)), (8, .int .i64 ((64 : Nat) : Int)), (14, .int .i64 ((8 : Nat) : Int)), (18, .bool false), (151, .bool false)] := F.keep ⟨rfl, rfl, rfl, rfl, rfl, rfl, rfl, rfl, rfl, rfl, rfl, trivial⟩
 refine then_n ?_
 refine wp_cond_false (F.e rfl) ?_
 refine wp_exit ?_
 refine then_x ?_
 refine then_x ?_
 refine in_hit ?_
 refine then_n ?_
 refine wp_seq ?_
 refine wp_region_lit ?_
 refine list_val F (wn rfl) rfl rfl (.agg ((wcs h2).toArray)) (ex_load _ _ rfl _ (F.e rfl) _ (lvr (cs := wcs h2) (by rw [wcs_len, show _ = 8 from h2l]; exact df_row_74_8) (M.at (i := 2) rfl))) ?_; clear F a; intro a F
 refine list_do (wn rfl) (fun K hK => ?_)
 refine ow_put F M rfl 74 _ _ rfl 1 _ ((wcs zW8).toArray) _ rfl (F.e rfl) ((wcs h2).toArray) (F.e rfl) (sz74 h2l) (sz_eqn (n := 8) rfl h2l) (all_oneCell_toArray (wcs_one _)) ?_
 clear F a; have Mo := M; clear M; intro a v F M hgr
 refine hK _ _ ?_
 clear hK K
 clear Mo hgr; try clear u
 replace M : Mm w v [⟨g7, (wcs v8).toArray, 74⟩, ⟨g4, (wcs h2).toArray, 74⟩, ⟨g2, (wcs h2).toArray, 74⟩] := M
 refine wpList_nil ?_
 replace F : Fr 164 a [(0, .agg ((wcs h).toArray)), (1, .slice (some adb) n c), (2, .pointer (some ⟨g2, 0, none⟩)), (4, .pointer (some ⟨g4, 0, none⟩)), (5, .pointer (some ⟨g5, 0, none⟩)), (6, .pointer (some ⟨g6, 0, none⟩)), (7, .pointer (some ⟨g7, 0, none⟩)), (8, .int .i64 ((64 : Nat) : Int)), (14, .int .i64 ((8 : Nat) : Int)), (18, .bool false), (151, .bool false)] := F.keep ⟨rfl, rfl, rfl, rfl, rfl, rfl, rfl, rfl, rfl, rfl, rfl, trivial⟩
 refine then_n ?_
 refine wp_ret ?_
 rw [hfin]
 exact ret_c1 (v := .agg ((wcs h2).toArray)) F rfl rfl (lvr (cs := wcs h2) (by rw [wcs_len, show _ = 8 from h2l]; exact df_row_74_8) (M.at (i := 1) rfl)) ⟨rfl, M.bel⟩
end Go.Proofs.YtkppipeadibfkaaDoor
