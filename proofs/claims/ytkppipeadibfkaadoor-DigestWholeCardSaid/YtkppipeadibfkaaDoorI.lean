/- Package digest: Mac, Same, Pass. Conditions: the table is laid; what is handed in is read. -/
import Derived.Test.YtkppipeadibfkaaDoorH
namespace Go.Proofs.YtkppipeadibfkaaDoor
open Go.RowKit Go.Proofs.YtkppipeadibfkaaDoorW.PrintWords KB WG
set_option linter.unusedVariables false
set_option linter.unusedSimpArgs false
set_option linter.unnecessarySimpa false
theorem z80 (w : World) : (zeroValue 80).run Tryd.prog w = .ok (.agg (bcs (List.replicate 64 0)).toArray) w := by kernel_rfl
theorem b24_0 (w : World) : (Instr.build 24 #[]).run Tryd.prog w = .ok (.agg (bcs (List.replicate 32 0)).toArray) w := by kernel_rfl
theorem bs22_2 (B C : Option Addr) (n c m d : Nat) (w : World) : (Instr.buildSlice 22 2 #[(0, .slice B n c), (1, .slice C m d)]).run Tryd.prog w = .ok (.slice (some ⟨w.heap.size, 0, none⟩) 2 2) (w.alloc (.cells #[.slice B n c, .slice C m d] 23)) := by kernel_rfl
theorem bs22_3 (B C D : Option Addr) (n c m d q e : Nat) (w : World) : (Instr.buildSlice 22 3 #[(0, .slice B n c), (1, .slice C m d), (2, .slice D q e)]).run Tryd.prog w = .ok (.slice (some ⟨w.heap.size, 0, none⟩) 3 3) (w.alloc (.cells #[.slice B n c, .slice C m d, .slice D q e] 23)) := by kernel_rfl
theorem rows_two {w : World} {g : Nat} {B C : Option Addr} {n c m d : Nat} {b b' : List By} (h : w.cell? ⟨g, 0, none⟩ = some (.slice B n c)) (h' : w.cell? ⟨g, 1, none⟩ = some (.slice C m d)) (hB : Rb w B n b) (hc : n ≤ c) (hC : Rb w C m b') (hd : m ≤ d) : RowsB w (some ⟨g, 0, none⟩) 2 [b, b'] := ⟨rfl, fun _ => ⟨_, rfl, fun i x hx => by
  match i, hx with
  | 0, hx => obtain rfl : b = x := by simpa using hx
             exact ⟨B, n, c, by rw [addr_add]; exact h, hB, hc⟩
  | 1, hx => obtain rfl : b' = x := by simpa using hx
             exact ⟨C, m, d, by rw [addr_add]; exact h', hC, hd⟩⟩⟩
theorem rows_three {w : World} {g : Nat} {B C D : Option Addr} {n c m d q e : Nat} {b b' b2 : List By} (h : w.cell? ⟨g, 0, none⟩ = some (.slice B n c)) (h' : w.cell? ⟨g, 1, none⟩ = some (.slice C m d)) (h2 : w.cell? ⟨g, 2, none⟩ = some (.slice D q e)) (hB : Rb w B n b) (hc : n ≤ c) (hC : Rb w C m b') (hd : m ≤ d) (hD : Rb w D q b2) (he : q ≤ e) : RowsB w (some ⟨g, 0, none⟩) 3 [b, b', b2] := ⟨rfl, fun _ => ⟨_, rfl, fun i x hx => by
  match i, hx with
  | 0, hx => obtain rfl : b = x := by simpa using hx
             exact ⟨B, n, c, by rw [addr_add]; exact h, hB, hc⟩
  | 1, hx => obtain rfl : b' = x := by simpa using hx
             exact ⟨C, m, d, by rw [addr_add]; exact h', hC, hd⟩
  | 2, hx => obtain rfl : b2 = x := by simpa using hx
             exact ⟨D, q, e, by rw [addr_add]; exact h2, hD, he⟩⟩⟩
theorem of_to (ls : List (List By)) (all : List By) (ha : ls.flatten = all) (Ls : Option Addr) (n cl : Nat) (hn : n ≤ 1000000) (w : World) (hK : At w ⟨0, 0, none⟩ (wcs kTab)) (hl : RowsB w Ls n ls) :
    Calls Tryd.prog 43 #[.slice Ls n cl] w fun e w' => e = .returned (.agg (bcs (sha all)).toArray) ∧ Below w.heap.size w w' := by subst ha; exact of_any ls Ls n cl hn w hK hl
theorem key_short {k : List By} {n : Nat} (hk : k.length = n) (h : ¬ 64 < n) : k.take 64 ++ (List.replicate 64 (0 : By)).drop n = key64 k := by
  subst hk
  unfold key64
  rw [if_neg h, List.take_of_length_le (by omega), List.drop_replicate]
theorem key_long {k : List By} {n : Nat} (hk : k.length = n) (h : 64 < n) : (sha k).take 64 ++ (List.replicate 64 (0 : By)).drop 32 = key64 k := by
  subst hk
  unfold key64
  rw [if_pos h, List.take_of_length_le (by rw [sha_len]; decide), List.drop_replicate, sha_len]
/-- A list each byte of which is changed, one after another. -/
def xin (k : List By) (x : By) (i : Nat) : List By := (k.map (· ^^^ x)).take i ++ k.drop i
theorem xin_zero (k : List By) (x : By) : xin k x 0 = k := by simp [xin]
theorem xin_all {k : List By} {n : Nat} (x : By) (h : k.length = n) : xin k x n = k.map (· ^^^ x) := by subst h; unfold xin; rw [List.take_of_length_le (by simp), List.drop_length, List.append_nil]
theorem xin_len {k : List By} {n i : Nat} (x : By) (h : k.length = n) (hi : i ≤ n) : (xin k x i).length = n := by simp [xin]; omega
theorem xin_set {k : List By} {n i : Nat} (x : By) (h : k.length = n) (hi : i < n) : (xin k x i).set i (k.getD i 0 ^^^ x) = xin k x (i + 1) := by
  have h1 : ((k.map (· ^^^ x)).take i).length = i := by rw [List.length_take, List.length_map]; omega
  have hx : k.getD i 0 = k[i] := by rw [List.getD_eq_getElem?_getD, List.getElem?_eq_getElem (by omega)]; rfl
  unfold xin
  rw [List.set_append_right _ _ (by omega), h1, Nat.sub_self, List.drop_eq_getElem_cons (by omega), List.set_cons_zero, hx, List.take_succ_eq_append_getElem (by rw [List.length_map]; omega), List.getElem_map, List.append_assoc]
  rfl
theorem xfill_set {k : List By} {n i : Nat} (x : By) (h : k.length = n) (hi : i < n) : (fill (k.map (· ^^^ x)) n i).set i (k.getD i 0 ^^^ x) = fill (k.map (· ^^^ x)) n (i + 1) := by
  have e : k.getD i 0 ^^^ x = (k.map (· ^^^ x)).getD i 0 := by
    rw [List.getD_eq_getElem?_getD, List.getD_eq_getElem?_getD, List.getElem?_map, List.getElem?_eq_getElem (by omega)]; rfl
  rw [e]
  exact fill_set (by rw [List.length_map]; exact h) hi
theorem sz80 {l : List By} (h : l.length = 64) : (Tryd.prog.info? 80).map (·.size) = some ((bcs l).toArray).size := by rw [List.size_toArray, bcs_len, h]; kernel_rfl
/-- A row's beginning, filled up. -/
def pd (a : List By) (n : Nat) : List By := a.take 32 ++ (List.replicate 32 (0 : By)).drop n
theorem pd_len {a : List By} {n : Nat} (h : a.length = n) : (pd a n).length = 32 := by subst h; simp [pd]; omega
theorem pd_iff {a b : List By} {n : Nat} (ha : a.length = n) (hb : b.length = n) : pd a n = pd b n ↔ a.take 32 = b.take 32 := by
  unfold pd
  exact ⟨fun h => List.append_inj_left h (by rw [List.length_take, List.length_take]; omega), fun h => by rw [h]⟩
theorem same_step {a b : List By} {n : Nat} (ha : a.length = n) (hb : b.length = n) : (a = b) ↔ (pd a n = pd b n ∧ a.drop (min n 32) = b.drop (min n 32)) := by
  rw [pd_iff ha hb]
  constructor
  · rintro rfl; exact ⟨rfl, rfl⟩
  · rintro ⟨h1, h2⟩
    rcases Nat.le_total n 32 with h | h
    · rw [List.take_of_length_le (by omega), List.take_of_length_le (by omega)] at h1; exact h1
    · rw [Nat.min_eq_right h] at h2
      rw [← List.take_append_drop 32 a, ← List.take_append_drop 32 b, h1, h2]
/-- What Pass tells. -/
def passF (s t : List By) (r : Int) : List By × Int := if r < 1 ∨ 4096 < r then (List.replicate 32 0, 40) else (pass s t (r - 1).toNat, 0)
theorem passF_no {s t : List By} {r : Int} (h : r < 1 ∨ 4096 < r) : passF s t r = (List.replicate 32 0, 40) := if_pos h
theorem passF_yes {s t : List By} {r : Int} {m : Nat} (h1 : ¬ r < 1) (h2 : ¬ 4096 < r) (hm : (m : Int) = r - 1) : passF s t r = (pass s t m, 0) := by
  unfold passF; rw [if_neg (by omega), show (r - 1).toNat = m by omega]
theorem passF_len (s t : List By) (r : Int) : (passF s t r).1.length = 32 := by
  unfold passF; split
  · rfl
  · exact pass_len _ _ _
theorem di_sl_23_1 : sl? Tryd.prog 23 1 = true := by kernel_rfl
theorem di_ent_15 : ent? Tryd.prog 15 = true := by kernel_rfl
theorem di_sa_24_32 : sa? Tryd.prog 24 32 = true := by kernel_rfl
theorem di_sa_80_64 : sa? Tryd.prog 80 64 = true := by kernel_rfl
theorem di_row_80_64 : row? Tryd.prog 80 64 = true := by kernel_rfl
theorem di_plainKey_5 : Tryd.prog.plainKey 5 = true := by kernel_rfl
theorem di_info_5_map_size_some_1 : (Tryd.prog.info? 5).map (·.size) = some 1 := by kernel_rfl
theorem di_ar_80_64 : ar? Tryd.prog 80 64 = true := by kernel_rfl
theorem di_ent_43 : ent? Tryd.prog 43 = true := by kernel_rfl
theorem di_follows_mixedOrders : Tryd.prog.follows .mixedOrders = true := by kernel_rfl
theorem di_row_24_32 : row? Tryd.prog 24 32 = true := by kernel_rfl
set_option maxHeartbeats 4000000 in
set_option maxRecDepth 100000 in
theorem mac_any (k b : List By) (B D : Option Addr) (n c m d : Nat) (w : World) (hKt : At w ⟨0, 0, none⟩ (wcs kTab)) (hB : Rb w B n k) (hc : n ≤ c) (hD : Rb w D m b) (hd : m ≤ d) :
    Calls Tryd.prog 21 #[.slice B n c, .slice D m d] w fun e w' => e = .returned (.agg (bcs (mac k b)).toArray) ∧ Below w.heap.size w w' := by
 refine calls_start Tryd.func21 rfl rfl rfl (fun a F => ?_)
 have M : Mm w w [] := Mm.nil w
 refine wp_seq ?_
 refine wp_region_lit ?_
 refine list_do (wn rfl) (fun K hK => ?_)
 refine ow_alloc F M rfl rfl 24 rfl (.agg (bcs (List.replicate 32 0)).toArray) z24 ((bcs (List.replicate 32 0)).toArray) rfl ?_
 clear F M a; intro a g4 v F M hb hg
 refine hK _ _ ?_
 clear hK K
 clear hb hg; try clear w
 refine wpList_nil ?_
 replace F : Fr 42 a [(0, .slice B n c), (1, .slice D m d), (4, .pointer (some ⟨g4, 0, none⟩))] := F.keep ⟨rfl, rfl, rfl, trivial⟩
 refine then_n ?_
 refine wp_seq ?_
 refine wp_seq ?_
 by_cases hk : 64 < n
 ·
  refine wp_region_lit ?_
  refine list_val F (wn rfl) rfl rfl (.slice B n c) (ex_move _ rfl _ (F.e rfl)) ?_; clear F a; intro a F
  refine list_val F (wn rfl) rfl rfl (.int .i64 ((n : Nat) : Int)) (ex_len _ _ rfl 1 di_sl_23_1 _ _ _ (F.e rfl)) ?_; clear F a; intro a F
  refine list_val F (wn rfl) rfl rfl (.bool true) (ex_bin .gtr _ _ _ _ rfl .i64 _ _ (F.e rfl) rfl _ (b_gtr (decide_eq_true (by omega)))) ?_; clear F a; intro a F
  refine wpList_nil ?_
  replace F : Fr 42 a [(0, .slice B n c), (1, .slice D m d), (4, .pointer (some ⟨g4, 0, none⟩)), (13, .bool true)] := F.keep ⟨rfl, rfl, rfl, rfl, trivial⟩
  refine then_n ?_
  refine wp_cond_true (F.e rfl) ?_
  refine wp_seq ?_
  refine wp_region_lit ?_
  refine list_val F (wn rfl) rfl rfl (.slice B n c) (ex_move _ rfl _ (F.e rfl)) ?_; clear F a; intro a F
  refine list_do (wn rfl) (fun K hK => ?_)
  refine ow_call rfl rfl F 15 #[.slice B n c] (ex_call 15 _ _ rfl rfl di_ent_15 _ (map1 (F.e rfl))) (sum_bytes k _ n c _ (hKt.below M.bel) (hB.below M.bel) hc) (fun e u hR => ?_)
  obtain ⟨he, hb⟩ := hR
  refine ⟨.agg ((bcs (sha k)).toArray), he, ?_⟩; clear he F a; intro a F
  refine hK _ _ ?_
  clear hK K
  replace M := M.below hb; clear hb; try clear v
  refine list_do (wn rfl) (fun K hK => ?_)
  refine ow_alloc F M rfl rfl 24 rfl (.agg (bcs (List.replicate 32 0)).toArray) z24 ((bcs (List.replicate 32 0)).toArray) rfl ?_
  clear F M a; intro a g5 v F M hb hg
  refine hK _ _ ?_
  clear hK K
  clear hb hg; try clear u
  refine list_do (wn rfl) (fun K hK => ?_)
  refine ow_put F M rfl 24 _ _ rfl 0 _ ((bcs (List.replicate 32 0)).toArray) _ rfl (F.e rfl) ((bcs (sha k)).toArray) (F.e rfl) (sz24 (sha_len _)) (sz_eqb 32 rfl (sha_len _)) (all_oneCell_toArray (bcs_one _)) ?_
  clear F a; have Mo := M; clear M; intro a u F M hgr
  refine hK _ _ ?_
  clear hK K
  clear Mo hgr; try clear v
  replace M : Mm w u [⟨g5, (bcs (sha k)).toArray, 24⟩, ⟨g4, ((bcs (List.replicate 32 0)).toArray), 24⟩] := M
  refine wpList_nil ?_
  replace F : Fr 42 a [(0, .slice B n c), (1, .slice D m d), (4, .pointer (some ⟨g4, 0, none⟩)), (5, .pointer (some ⟨g5, 0, none⟩)), (13, .bool true)] := F.keep ⟨rfl, rfl, rfl, rfl, rfl, trivial⟩
  refine then_n ?_
  refine wp_region_lit ?_
  refine list_val F (wn rfl) rfl rfl (.slice (some ⟨g5, 0, none⟩) 32 32) (ex_all 24 _ rfl 32 di_sa_24_32 ⟨g5, 0, none⟩ (F.e rfl)) ?_; clear F a; intro a F
  refine list_val F (wn rfl) rfl rfl (.slice (some ⟨g5, 0, none⟩) 32 32) (ex_assign _ rfl _ (F.e rfl)) ?_; clear F a; intro a F
  refine wpList_nil ?_
  replace F : Fr 42 a [(0, .slice (some ⟨g5, 0, none⟩) 32 32), (1, .slice D m d), (4, .pointer (some ⟨g4, 0, none⟩)), (5, .pointer (some ⟨g5, 0, none⟩)), (13, .bool true)] := F.keep ⟨rfl, rfl, rfl, rfl, rfl, trivial⟩
  refine then_n ?_
  refine wp_seq ?_
  refine wp_region_lit ?_
  refine list_do (wn rfl) (fun K hK => ?_)
  refine ow_alloc F M rfl rfl 80 rfl (.agg (bcs (List.replicate 64 0)).toArray) z80 ((bcs (List.replicate 64 0)).toArray) rfl ?_
  clear F M a; intro a g6 v F M hb hg
  refine hK _ _ ?_
  clear hK K
  clear hb hg; try clear u
  refine list_do (wn rfl) (fun K hK => ?_)
  refine ow_alloc F M rfl rfl 80 rfl (.agg (bcs (List.replicate 64 0)).toArray) z80 ((bcs (List.replicate 64 0)).toArray) rfl ?_
  clear F M a; intro a g7 u F M hb hg
  refine hK _ _ ?_
  clear hK K
  clear hb hg; try clear v
  refine wpList_nil ?_
  replace F : Fr 42 a [(0, .slice (some ⟨g5, 0, none⟩) 32 32), (1, .slice D m d), (4, .pointer (some ⟨g4, 0, none⟩)), (5, .pointer (some ⟨g5, 0, none⟩)), (6, .pointer (some ⟨g6, 0, none⟩)), (7, .pointer (some ⟨g7, 0, none⟩)), (13, .bool true)] := F.keep ⟨rfl, rfl, rfl, rfl, rfl, rfl, rfl, trivial⟩
  refine then_n ?_
  refine wp_seq ?_
  refine wp_region_lit ?_
  refine list_val F (wn rfl) rfl rfl (.slice (some ⟨g6, 0, none⟩) 64 64) (ex_all 80 _ rfl 64 di_sa_80_64 ⟨g6, 0, none⟩ (F.e rfl)) ?_; clear F a; intro a F
  refine list_val F (wn rfl) rfl rfl (.slice (some ⟨g5, 0, none⟩) 32 32) (ex_move _ rfl _ (F.e rfl)) ?_; clear F a; intro a F
  refine list_do (wn rfl) (fun K hK => ?_)
  refine ow_copy F M rfl rfl _ _ rfl 1 g6 (List.replicate 64 0) 80 rfl 64 rfl (F.e rfl) (some ⟨g5, 0, none⟩) 32 32 (sha k) (F.e rfl) (Rb.mk' (M.at (i := 2) rfl) (sha_len _) (by decide)) (key64 k) ((key_long hB.1 hk)) 32 (rfl) ?_
  clear F a; have Mo := M; clear M; intro a v F M hgr
  refine hK _ _ ?_
  clear hK K
  clear Mo hgr; try clear u
  replace M : Mm w v [⟨g7, ((bcs (List.replicate 64 0)).toArray), 80⟩, ⟨g6, (bcs (key64 k)).toArray, 80⟩, ⟨g5, (bcs (sha k)).toArray, 24⟩, ⟨g4, ((bcs (List.replicate 32 0)).toArray), 24⟩] := M
  refine wpList_nil ?_
  replace F : Fr 42 a [(0, .slice (some ⟨g5, 0, none⟩) 32 32), (1, .slice D m d), (4, .pointer (some ⟨g4, 0, none⟩)), (5, .pointer (some ⟨g5, 0, none⟩)), (6, .pointer (some ⟨g6, 0, none⟩)), (7, .pointer (some ⟨g7, 0, none⟩)), (13, .bool true)] := F.keep ⟨rfl, rfl, rfl, rfl, rfl, rfl, rfl, trivial⟩
  refine then_n ?_
  refine wp_seq ?_
  refine wp_seq ?_
  refine wp_region_lit ?_
  refine list_val F (wn rfl) rfl rfl (.agg ((bcs (key64 k)).toArray)) (ex_load _ _ rfl _ (F.e rfl) _ (lvr (cs := bcs (key64 k)) (by rw [bcs_len, show _ = 64 from (key64_len _)]; exact di_row_80_64) (M.at (i := 1) rfl))) ?_; clear F a; intro a F
  refine list_val F (wn rfl) rfl rfl (.int .i64 0) (ex_move _ rfl _ rfl) ?_; clear F a; intro a F
  refine wpList_nil ?_
  replace F : Fr 42 a [(0, .slice (some ⟨g5, 0, none⟩) 32 32), (1, .slice D m d), (4, .pointer (some ⟨g4, 0, none⟩)), (5, .pointer (some ⟨g5, 0, none⟩)), (6, .pointer (some ⟨g6, 0, none⟩)), (7, .pointer (some ⟨g7, 0, none⟩)), (13, .bool true), (20, .agg ((bcs (key64 k)).toArray)), (21, .int .i64 0)] := F.keep ⟨rfl, rfl, rfl, rfl, rfl, rfl, rfl, rfl, rfl, trivial⟩
  refine then_n ?_
  refine wp_block ?_
  refine wp_loopN (fun mq ar wr => ∃ (i : Nat), ∃ (l6 : List By), ∃ (l7 : List By), Fr 42 ar [(0, .slice (some ⟨g5, 0, none⟩) 32 32), (1, .slice D m d), (4, .pointer (some ⟨g4, 0, none⟩)), (5, .pointer (some ⟨g5, 0, none⟩)), (6, .pointer (some ⟨g6, 0, none⟩)), (7, .pointer (some ⟨g7, 0, none⟩)), (13, .bool true), (20, .agg ((bcs (key64 k)).toArray)), (21, .int .i64 ((i : Nat) : Int))] ∧ Mm w wr [⟨g7, (bcs l7).toArray, 80⟩, ⟨g6, (bcs l6).toArray, 80⟩, ⟨g5, (bcs (sha k)).toArray, 24⟩, ⟨g4, ((bcs (List.replicate 32 0)).toArray), 24⟩] ∧ i ≤ 64 ∧ l6 = xin (key64 k) 54 i ∧ l7 = fill ((key64 k).map (· ^^^ 92)) 64 i ∧ mq + i = 64) 64 ?_ ?_
  ·
   exact ⟨0, (key64 k), (List.replicate 64 0), F.keep ⟨rfl, rfl, rfl, rfl, rfl, rfl, rfl, rfl, rfl, trivial⟩, M, (Nat.zero_le _), (xin_zero _ _).symm, (fill_zero _ _).symm, (by omega)⟩
  clear F M a
  rintro mq a u ⟨i, l6, l7, F, M, hi, hl6, hl7, hq⟩; try clear v
  have hll6 : l6.length = 64 := by rw [hl6]; exact xin_len _ (key64_len k) hi
  have hll7 : l7.length = 64 := by rw [hl7]; exact fill_len (by rw [List.length_map]; exact key64_len k) hi
  by_cases hin : i < 64
  ·
   refine wp_seq ?_
   refine wp_region_lit ?_
   refine list_val F (wn rfl) rfl rfl (.bool true) (ex_bin .lss _ _ _ _ rfl .i64 _ _ (F.e rfl) rfl _ (b_lss (decide_eq_true (by omega)))) ?_; clear F a; intro a F
   refine wpList_nil ?_
   replace F : Fr 42 a [(0, .slice (some ⟨g5, 0, none⟩) 32 32), (1, .slice D m d), (4, .pointer (some ⟨g4, 0, none⟩)), (5, .pointer (some ⟨g5, 0, none⟩)), (6, .pointer (some ⟨g6, 0, none⟩)), (7, .pointer (some ⟨g7, 0, none⟩)), (13, .bool true), (20, .agg ((bcs (key64 k)).toArray)), (21, .int .i64 ((i : Nat) : Int)), (22, .bool true)] := F.keep ⟨rfl, rfl, rfl, rfl, rfl, rfl, rfl, rfl, rfl, rfl, trivial⟩
   refine then_n ?_
   refine wp_seq ?_
   refine wp_cond_true (F.e rfl) ?_
   refine wp_skip ?_
   refine then_n ?_
   refine wp_seq ?_
   refine wp_block ?_
   refine wp_seq ?_
   refine wp_region_lit ?_
   refine list_val F (wn rfl) rfl rfl (.int .i64 ((i : Nat) : Int)) (ex_move _ rfl _ (F.e rfl)) ?_; clear F a; intro a F
   refine list_val F (wn rfl) rfl rfl (bv ((key64 k).getD i 0)) (ex_ixv 80 5 _ _ rfl 64 Tryd.underlying80 di_plainKey_5 di_info_5_map_size_some_1 _ (F.e rfl) .i64 _ (F.e rfl) i rfl (by omega) _ (bcs_arr (by rw [key64_len]; omega))) ?_; clear F a; intro a F
   refine list_val F (wn rfl) rfl rfl (.int .i64 ((i : Nat) : Int)) (ex_assign _ rfl _ (F.e rfl)) ?_; clear F a; intro a F
   refine list_val F (wn rfl) rfl rfl (bv ((key64 k).getD i 0)) (ex_assign _ rfl _ (F.e rfl)) ?_; clear F a; intro a F
   refine wpList_nil ?_
   replace F : Fr 42 a [(0, .slice (some ⟨g5, 0, none⟩) 32 32), (1, .slice D m d), (4, .pointer (some ⟨g4, 0, none⟩)), (5, .pointer (some ⟨g5, 0, none⟩)), (6, .pointer (some ⟨g6, 0, none⟩)), (7, .pointer (some ⟨g7, 0, none⟩)), (8, .int .i64 ((i : Nat) : Int)), (9, bv ((key64 k).getD i 0)), (13, .bool true), (20, .agg ((bcs (key64 k)).toArray)), (21, .int .i64 ((i : Nat) : Int)), (22, .bool true)] := F.keep ⟨rfl, rfl, rfl, rfl, rfl, rfl, rfl, rfl, rfl, rfl, rfl, rfl, trivial⟩
   refine then_n ?_
   refine wp_region_lit ?_
   refine list_val F (wn rfl) rfl rfl (.int .i64 ((i : Nat) : Int)) (ex_move _ rfl _ (F.e rfl)) ?_; clear F a; intro a F
   refine list_val F (wn rfl) rfl rfl (.int .i64 ((i : Nat) : Int)) (ex_move _ rfl _ (F.e rfl)) ?_; clear F a; intro a F
   refine list_val F (wn rfl) rfl rfl (bv ((key64 k).getD i 0)) (ex_move _ rfl _ (F.e rfl)) ?_; clear F a; intro a F
   refine list_val F (wn rfl) rfl rfl (bv (((key64 k).getD i 0) ^^^ 54)) (ex_xorb _ _ _ _ rfl ((key64 k).getD i 0) 54 (F.e rfl) rfl) ?_; clear F a; intro a F
   refine list_val F (wn rfl) rfl rfl (bv ((key64 k).getD i 0)) (ex_move _ rfl _ (F.e rfl)) ?_; clear F a; intro a F
   refine list_val F (wn rfl) rfl rfl (bv (((key64 k).getD i 0) ^^^ 92)) (ex_xorb _ _ _ _ rfl ((key64 k).getD i 0) 92 (F.e rfl) rfl) ?_; clear F a; intro a F
   refine list_val F (wn rfl) rfl rfl (.pointer (some ⟨g6, i, none⟩)) (ex_ixa _ _ _ rfl 64 di_ar_80_64 ⟨g6, 0, none⟩ (F.e rfl) .i64 _ (F.e rfl) i rfl (by omega) ⟨g6, i, none⟩ ((addr_add _ _ _).trans (by rw [Nat.zero_add]))) ?_; clear F a; intro a F
   refine list_do (wn rfl) (fun K hK => ?_)
   refine ow_store F M rfl 5 _ _ rfl 1 g6 _ _ rfl (i) (F.e rfl) _ (F.e rfl) [bv (((key64 k).getD i 0) ^^^ 54)] rfl di_info_5_map_size_some_1 (by rw [List.size_toArray, bcs_len]; simp only [List.length_set, List.length_cons, List.length_nil, Nat.zero_add]; omega) (by simp [bv, Value.oneCell']) (bcs (l6.set i (((key64 k).getD i 0) ^^^ 54))).toArray (congrArg List.toArray (bcs_set _ _ _ (by (try simp only [List.length_set]); omega))) ?_
   clear F a; have Mo := M; clear M; intro a v F M hgr
   refine hK _ _ ?_
   clear hK K
   clear Mo hgr; try clear u
   replace M : Mm w v [⟨g7, (bcs l7).toArray, 80⟩, ⟨g6, (bcs (l6.set i (((key64 k).getD i 0) ^^^ 54))).toArray, 80⟩, ⟨g5, (bcs (sha k)).toArray, 24⟩, ⟨g4, ((bcs (List.replicate 32 0)).toArray), 24⟩] := M
   refine list_val F (wn rfl) rfl rfl (.pointer (some ⟨g7, i, none⟩)) (ex_ixa _ _ _ rfl 64 di_ar_80_64 ⟨g7, 0, none⟩ (F.e rfl) .i64 _ (F.e rfl) i rfl (by omega) ⟨g7, i, none⟩ ((addr_add _ _ _).trans (by rw [Nat.zero_add]))) ?_; clear F a; intro a F
   refine list_do (wn rfl) (fun K hK => ?_)
   refine ow_store F M rfl 5 _ _ rfl 0 g7 _ _ rfl (i) (F.e rfl) _ (F.e rfl) [bv (((key64 k).getD i 0) ^^^ 92)] rfl di_info_5_map_size_some_1 (by rw [List.size_toArray, bcs_len]; simp only [List.length_set, List.length_cons, List.length_nil, Nat.zero_add]; omega) (by simp [bv, Value.oneCell']) (bcs (l7.set i (((key64 k).getD i 0) ^^^ 92))).toArray (congrArg List.toArray (bcs_set _ _ _ (by (try simp only [List.length_set]); omega))) ?_
   clear F a; have Mo := M; clear M; intro a u F M hgr
   refine hK _ _ ?_
   clear hK K
   clear Mo hgr; try clear v
   replace M : Mm w u [⟨g7, (bcs (l7.set i (((key64 k).getD i 0) ^^^ 92))).toArray, 80⟩, ⟨g6, (bcs (l6.set i (((key64 k).getD i 0) ^^^ 54))).toArray, 80⟩, ⟨g5, (bcs (sha k)).toArray, 24⟩, ⟨g4, ((bcs (List.replicate 32 0)).toArray), 24⟩] := M
   refine wpList_nil ?_
   replace F : Fr 42 a [(0, .slice (some ⟨g5, 0, none⟩) 32 32), (1, .slice D m d), (4, .pointer (some ⟨g4, 0, none⟩)), (5, .pointer (some ⟨g5, 0, none⟩)), (6, .pointer (some ⟨g6, 0, none⟩)), (7, .pointer (some ⟨g7, 0, none⟩)), (8, .int .i64 ((i : Nat) : Int)), (9, bv ((key64 k).getD i 0)), (13, .bool true), (20, .agg ((bcs (key64 k)).toArray)), (21, .int .i64 ((i : Nat) : Int)), (22, .bool true)] := F.keep ⟨rfl, rfl, rfl, rfl, rfl, rfl, rfl, rfl, rfl, rfl, rfl, rfl, trivial⟩
   refine in_n ?_
   refine then_n ?_
   refine wp_region_lit ?_
   refine list_val F (wn rfl) rfl rfl (.int .i64 ((i + 1 : Nat) : Int)) (ex_bin .add _ _ _ _ rfl .i64 _ _ (F.e rfl) rfl _ (b_add ((w_i64 (by omega) (by omega)).trans (by omega)))) ?_; clear F a; intro a F
   refine list_val F (wn rfl) rfl rfl (.int .i64 ((i + 1 : Nat) : Int)) (ex_move _ rfl _ (F.e rfl)) ?_; clear F a; intro a F
   refine wpList_nil ?_
   replace F : Fr 42 a [(0, .slice (some ⟨g5, 0, none⟩) 32 32), (1, .slice D m d), (4, .pointer (some ⟨g4, 0, none⟩)), (5, .pointer (some ⟨g5, 0, none⟩)), (6, .pointer (some ⟨g6, 0, none⟩)), (7, .pointer (some ⟨g7, 0, none⟩)), (8, .int .i64 ((i : Nat) : Int)), (9, bv ((key64 k).getD i 0)), (13, .bool true), (20, .agg ((bcs (key64 k)).toArray)), (21, .int .i64 ((i + 1 : Nat) : Int)), (22, .bool true)] := F.keep ⟨rfl, rfl, rfl, rfl, rfl, rfl, rfl, rfl, rfl, rfl, rfl, rfl, trivial⟩
   refine then_n ?_
   exact ⟨64 - (i + 1), by omega, (i + 1), (l6.set i (((key64 k).getD i 0) ^^^ 54)), (l7.set i (((key64 k).getD i 0) ^^^ 92)), F.keep ⟨rfl, rfl, rfl, rfl, rfl, rfl, rfl, rfl, rfl, trivial⟩, (by refine M.pick' [0, 1, 2, 3] _ ?_ (by decide); exact ⟨rfl, rfl, rfl, rfl, trivial⟩), (by omega), (by rw [hl6]; exact xin_set _ (key64_len k) hin), (by rw [hl7]; exact xfill_set _ (key64_len k) hin), (by omega)⟩
  have hmac : mac k b = sha (l7 ++ sha (l6 ++ b)) := by rw [hl6, hl7, show i = 64 by omega, xin_all _ (key64_len k), fill_all (by rw [List.length_map]; exact key64_len k)]; rfl
  refine wp_seq ?_
  refine wp_region_lit ?_
  refine list_val F (wn rfl) rfl rfl (.bool false) (ex_bin .lss _ _ _ _ rfl .i64 _ _ (F.e rfl) rfl _ (b_lss (decide_eq_false (by omega)))) ?_; clear F a; intro a F
  refine wpList_nil ?_
  replace F : Fr 42 a [(0, .slice (some ⟨g5, 0, none⟩) 32 32), (1, .slice D m d), (4, .pointer (some ⟨g4, 0, none⟩)), (5, .pointer (some ⟨g5, 0, none⟩)), (6, .pointer (some ⟨g6, 0, none⟩)), (7, .pointer (some ⟨g7, 0, none⟩)), (13, .bool true), (20, .agg ((bcs (key64 k)).toArray)), (21, .int .i64 ((i : Nat) : Int)), (22, .bool false)] := F.keep ⟨rfl, rfl, rfl, rfl, rfl, rfl, rfl, rfl, rfl, rfl, trivial⟩
  refine then_n ?_
  refine wp_seq ?_
  refine wp_cond_false (F.e rfl) ?_
  refine wp_exit ?_
  refine then_x ?_
  refine then_x ?_
  refine in_hit ?_
  refine then_n ?_
  refine wp_seq ?_
  refine wp_region_lit ?_
  refine list_val F (wn rfl) rfl rfl (.slice (some ⟨g6, 0, none⟩) 64 64) (ex_all 80 _ rfl 64 di_sa_80_64 ⟨g6, 0, none⟩ (F.e rfl)) ?_; clear F a; intro a F
  refine list_val F (wn rfl) rfl rfl (.slice D m d) (ex_move _ rfl _ (F.e rfl)) ?_; clear F a; intro a F
  refine list_do (wn rfl) (fun K hK => ?_)
  refine ow_bslice F M rfl rfl 22 2 _ rfl #[(0, .slice (some ⟨g6, 0, none⟩) 64 64), (1, .slice D m d)] (parts2 (F.e rfl) (F.e rfl)) #[.slice (some ⟨g6, 0, none⟩) 64 64, .slice D m d] 23 (bs22_2 (some ⟨g6, 0, none⟩) D 64 64 m d _) ?_
  clear F M a; intro a g36 v F M hb hg
  refine hK _ _ ?_
  clear hK K
  clear hb hg; try clear u
  refine list_do (wn rfl) (fun K hK => ?_)
  have hl := rows_two (M.cell (i := 0) rfl (j := 0) rfl) (M.cell (i := 0) rfl (j := 1) rfl) (Rb.mk' (M.at (i := 2) rfl) hll6 (by decide)) (Nat.le_refl _) (hD.below M.bel) hd
  refine ow_call rfl rfl F 43 #[.slice (some ⟨g36, 0, none⟩) 2 2] (ex_call 43 _ _ rfl rfl di_ent_43 _ (map1 (F.e rfl))) (of_to [l6, b] (l6 ++ b) (by simp) _ 2 2 (by decide) _ (hKt.below M.bel) hl) (fun e u hR => ?_)
  obtain ⟨he, hb⟩ := hR
  refine ⟨.agg ((bcs (sha (l6 ++ b))).toArray), he, ?_⟩; clear he F a; intro a F
  refine hK _ _ ?_
  clear hK K
  replace M := M.below hb; clear hb; try clear v
  clear hl
  refine list_do (wn rfl) (fun K hK => ?_)
  refine ow_alloc F M rfl rfl 24 rfl (.agg (bcs (List.replicate 32 0)).toArray) z24 ((bcs (List.replicate 32 0)).toArray) rfl ?_
  clear F M a; intro a g10 v F M hb hg
  refine hK _ _ ?_
  clear hK K
  clear hb hg; try clear u
  refine list_do (wn rfl) (fun K hK => ?_)
  refine ow_put F M rfl 24 _ _ rfl 0 _ ((bcs (List.replicate 32 0)).toArray) _ rfl (F.e rfl) ((bcs (sha (l6 ++ b))).toArray) (F.e rfl) (sz24 (sha_len _)) (sz_eqb 32 rfl (sha_len _)) (all_oneCell_toArray (bcs_one _)) ?_
  clear F a; have Mo := M; clear M; intro a u F M hgr
  refine hK _ _ ?_
  clear hK K
  clear Mo hgr; try clear v
  replace M : Mm w u [⟨g10, (bcs (sha (l6 ++ b))).toArray, 24⟩, ⟨g36, #[.slice (some ⟨g6, 0, none⟩) 64 64, .slice D m d], 23⟩, ⟨g7, (bcs l7).toArray, 80⟩, ⟨g6, (bcs l6).toArray, 80⟩, ⟨g5, (bcs (sha k)).toArray, 24⟩, ⟨g4, ((bcs (List.replicate 32 0)).toArray), 24⟩] := M
  refine wpList_nil ?_
  replace F : Fr 42 a [(0, .slice (some ⟨g5, 0, none⟩) 32 32), (1, .slice D m d), (4, .pointer (some ⟨g4, 0, none⟩)), (5, .pointer (some ⟨g5, 0, none⟩)), (6, .pointer (some ⟨g6, 0, none⟩)), (7, .pointer (some ⟨g7, 0, none⟩)), (10, .pointer (some ⟨g10, 0, none⟩)), (13, .bool true), (20, .agg ((bcs (key64 k)).toArray)), (21, .int .i64 ((i : Nat) : Int)), (22, .bool false)] := F.keep ⟨rfl, rfl, rfl, rfl, rfl, rfl, rfl, rfl, rfl, rfl, rfl, trivial⟩
  refine then_n ?_
  refine wp_seq ?_
  refine region_tail 2 di_follows_mixedOrders (by kernel_rfl) M ?_; clear M; intro v M hb
  clear hb; try clear u
  refine still_val F (wn rfl) rfl rfl (.slice (some ⟨g7, 0, none⟩) 64 64) (ex_all 80 _ rfl 64 di_sa_80_64 ⟨g7, 0, none⟩ (F.e rfl)) ?_; clear F a; intro a F
  refine still_val F (wn rfl) rfl rfl (.slice (some ⟨g10, 0, none⟩) 32 32) (ex_all 24 _ rfl 32 di_sa_24_32 ⟨g10, 0, none⟩ (F.e rfl)) ?_; clear F a; intro a F
  refine still_end ?_
  refine list_do (wn rfl) (fun K hK => ?_)
  refine ow_bslice F M rfl rfl 22 2 _ rfl #[(0, .slice (some ⟨g7, 0, none⟩) 64 64), (1, .slice (some ⟨g10, 0, none⟩) 32 32)] (parts2 (F.e rfl) (F.e rfl)) #[.slice (some ⟨g7, 0, none⟩) 64 64, .slice (some ⟨g10, 0, none⟩) 32 32] 23 (bs22_2 (some ⟨g7, 0, none⟩) (some ⟨g10, 0, none⟩) 64 64 32 32 _) ?_
  clear F M a; intro a g40 u F M hb hg
  refine hK _ _ ?_
  clear hK K
  clear hb hg; try clear v
  refine list_do (wn rfl) (fun K hK => ?_)
  have hl := rows_two (M.cell (i := 0) rfl (j := 0) rfl) (M.cell (i := 0) rfl (j := 1) rfl) (Rb.mk' (M.at (i := 3) rfl) hll7 (by decide)) (Nat.le_refl _) (Rb.mk' (M.at (i := 1) rfl) (sha_len _) (by decide)) (Nat.le_refl _)
  refine ow_call rfl rfl F 43 #[.slice (some ⟨g40, 0, none⟩) 2 2] (ex_call 43 _ _ rfl rfl di_ent_43 _ (map1 (F.e rfl))) (of_to [l7, (sha (l6 ++ b))] (l7 ++ sha (l6 ++ b)) (by simp) _ 2 2 (by decide) _ (hKt.below M.bel) hl) (fun e v hR => ?_)
  obtain ⟨he, hb⟩ := hR
  refine ⟨.agg ((bcs (sha (l7 ++ sha (l6 ++ b)))).toArray), he, ?_⟩; clear he F a; intro a F
  refine hK _ _ ?_
  clear hK K
  replace M := M.below hb; clear hb; try clear u
  clear hl
  refine list_do (wn rfl) (fun K hK => ?_)
  refine ow_put F M rfl 24 _ _ rfl 6 _ ((bcs (List.replicate 32 0)).toArray) _ rfl (F.e rfl) ((bcs (sha (l7 ++ sha (l6 ++ b)))).toArray) (F.e rfl) (sz24 (sha_len _)) (sz_eqb 32 rfl (sha_len _)) (all_oneCell_toArray (bcs_one _)) ?_
  clear F a; have Mo := M; clear M; intro a u F M hgr
  refine hK _ _ ?_
  clear hK K
  clear Mo hgr; try clear v
  replace M : Mm w u [⟨g40, #[.slice (some ⟨g7, 0, none⟩) 64 64, .slice (some ⟨g10, 0, none⟩) 32 32], 23⟩, ⟨g10, (bcs (sha (l6 ++ b))).toArray, 24⟩, ⟨g36, #[.slice (some ⟨g6, 0, none⟩) 64 64, .slice D m d], 23⟩, ⟨g7, (bcs l7).toArray, 80⟩, ⟨g6, (bcs l6).toArray, 80⟩, ⟨g5, (bcs (sha k)).toArray, 24⟩, ⟨g4, (bcs (sha (l7 ++ sha (l6 ++ b)))).toArray, 24⟩] := M
  refine wpList_nil ?_
  replace F : Fr 42 a [(0, .slice (some ⟨g5, 0, none⟩) 32 32), (1, .slice D m d), (4, .pointer (some ⟨g4, 0, none⟩)), (5, .pointer (some ⟨g5, 0, none⟩)), (6, .pointer (some ⟨g6, 0, none⟩)), (7, .pointer (some ⟨g7, 0, none⟩)), (10, .pointer (some ⟨g10, 0, none⟩)), (13, .bool true), (20, .agg ((bcs (key64 k)).toArray)), (21, .int .i64 ((i : Nat) : Int)), (22, .bool false)] := F.keep ⟨rfl, rfl, rfl, rfl, rfl, rfl, rfl, rfl, rfl, rfl, rfl, trivial⟩
  refine then_n ?_
  refine wp_ret ?_
  rw [hmac]
  exact ret_c1 (v := .agg ((bcs (sha (l7 ++ sha (l6 ++ b)))).toArray)) F rfl rfl (lvr (cs := bcs (sha (l7 ++ sha (l6 ++ b)))) (by rw [bcs_len, show _ = 32 from (sha_len _)]; exact di_row_24_32) (M.at (i := 6) rfl)) ⟨rfl, M.bel⟩
 refine wp_region_lit ?_
 refine list_val F (wn rfl) rfl rfl (.slice B n c) (ex_move _ rfl _ (F.e rfl)) ?_; clear F a; intro a F
 refine list_val F (wn rfl) rfl rfl (.int .i64 ((n : Nat) : Int)) (ex_len _ _ rfl 1 di_sl_23_1 _ _ _ (F.e rfl)) ?_; clear F a; intro a F
 refine list_val F (wn rfl) rfl rfl (.bool false) (ex_bin .gtr _ _ _ _ rfl .i64 _ _ (F.e rfl) rfl _ (b_gtr (decide_eq_false (by omega)))) ?_; clear F a; intro a F
 refine wpList_nil ?_
 replace F : Fr 42 a [(0, .slice B n c), (1, .slice D m d), (4, .pointer (some ⟨g4, 0, none⟩)), (13, .bool false)] := F.keep ⟨rfl, rfl, rfl, rfl, trivial⟩
 refine then_n ?_
 refine wp_cond_false (F.e rfl) ?_
 refine wp_skip ?_
 refine then_n ?_
 refine wp_seq ?_
 refine wp_region_lit ?_
 refine list_do (wn rfl) (fun K hK => ?_)
 refine ow_alloc F M rfl rfl 80 rfl (.agg (bcs (List.replicate 64 0)).toArray) z80 ((bcs (List.replicate 64 0)).toArray) rfl ?_
 clear F M a; intro a g6 u F M hb hg
 refine hK _ _ ?_
 clear hK K
 clear hb hg; try clear v
 refine list_do (wn rfl) (fun K hK => ?_)
 refine ow_alloc F M rfl rfl 80 rfl (.agg (bcs (List.replicate 64 0)).toArray) z80 ((bcs (List.replicate 64 0)).toArray) rfl ?_
 clear F M a; intro a g7 v F M hb hg
 refine hK _ _ ?_
 clear hK K
 clear hb hg; try clear u
 refine wpList_nil ?_
 replace F : Fr 42 a [(0, .slice B n c), (1, .slice D m d), (4, .pointer (some ⟨g4, 0, none⟩)), (6, .pointer (some ⟨g6, 0, none⟩)), (7, .pointer (some ⟨g7, 0, none⟩)), (13, .bool false)] := F.keep ⟨rfl, rfl, rfl, rfl, rfl, rfl, trivial⟩
 refine then_n ?_
 refine wp_seq ?_
 refine wp_region_lit ?_
 refine list_val F (wn rfl) rfl rfl (.slice (some ⟨g6, 0, none⟩) 64 64) (ex_all 80 _ rfl 64 di_sa_80_64 ⟨g6, 0, none⟩ (F.e rfl)) ?_; clear F a; intro a F
 refine list_val F (wn rfl) rfl rfl (.slice B n c) (ex_move _ rfl _ (F.e rfl)) ?_; clear F a; intro a F
 refine list_do (wn rfl) (fun K hK => ?_)
 refine ow_copy F M rfl rfl _ _ rfl 1 g6 (List.replicate 64 0) 80 rfl 64 rfl (F.e rfl) B n c k (F.e rfl) (hB.below M.bel) (key64 k) ((key_short hB.1 hk)) ((n : Nat) : Int) ((by rw [Nat.min_eq_left (by omega)])) ?_
 clear F a; have Mo := M; clear M; intro a u F M hgr
 refine hK _ _ ?_
 clear hK K
 clear Mo hgr; try clear v
 replace M : Mm w u [⟨g7, ((bcs (List.replicate 64 0)).toArray), 80⟩, ⟨g6, (bcs (key64 k)).toArray, 80⟩, ⟨g4, ((bcs (List.replicate 32 0)).toArray), 24⟩] := M
 refine wpList_nil ?_
 replace F : Fr 42 a [(0, .slice B n c), (1, .slice D m d), (4, .pointer (some ⟨g4, 0, none⟩)), (6, .pointer (some ⟨g6, 0, none⟩)), (7, .pointer (some ⟨g7, 0, none⟩)), (13, .bool false)] := F.keep ⟨rfl, rfl, rfl, rfl, rfl, rfl, trivial⟩
 refine then_n ?_
 refine wp_seq ?_
 refine wp_seq ?_
 refine wp_region_lit ?_
 refine list_val F (wn rfl) rfl rfl (.agg ((bcs (key64 k)).toArray)) (ex_load _ _ rfl _ (F.e rfl) _ (lvr (cs := bcs (key64 k)) (by rw [bcs_len, show _ = 64 from (key64_len _)]; exact di_row_80_64) (M.at (i := 1) rfl))) ?_; clear F a; intro a F
 refine list_val F (wn rfl) rfl rfl (.int .i64 0) (ex_move _ rfl _ rfl) ?_; clear F a; intro a F
 refine wpList_nil ?_
 replace F : Fr 42 a [(0, .slice B n c), (1, .slice D m d), (4, .pointer (some ⟨g4, 0, none⟩)), (6, .pointer (some ⟨g6, 0, none⟩)), (7, .pointer (some ⟨g7, 0, none⟩)), (13, .bool false), (20, .agg ((bcs (key64 k)).toArray)), (21, .int .i64 0)] := F.keep ⟨rfl, rfl, rfl, rfl, rfl, rfl, rfl, rfl, trivial⟩
 refine then_n ?_
 refine wp_block ?_
 refine wp_loopN (fun mq ar wr => ∃ (i : Nat), ∃ (l6 : List By), ∃ (l7 : List By), Fr 42 ar [(0, .slice B n c), (1, .slice D m d), (4, .pointer (some ⟨g4, 0, none⟩)), (6, .pointer (some ⟨g6, 0, none⟩)), (7, .pointer (some ⟨g7, 0, none⟩)), (13, .bool false), (20, .agg ((bcs (key64 k)).toArray)), (21, .int .i64 ((i : Nat) : Int))] ∧ Mm w wr [⟨g7, (bcs l7).toArray, 80⟩, ⟨g6, (bcs l6).toArray, 80⟩, ⟨g4, ((bcs (List.replicate 32 0)).toArray), 24⟩] ∧ i ≤ 64 ∧ l6 = xin (key64 k) 54 i ∧ l7 = fill ((key64 k).map (· ^^^ 92)) 64 i ∧ mq + i = 64) 64 ?_ ?_
 ·
  exact ⟨0, (key64 k), (List.replicate 64 0), F.keep ⟨rfl, rfl, rfl, rfl, rfl, rfl, rfl, rfl, trivial⟩, M, (Nat.zero_le _), (xin_zero _ _).symm, (fill_zero _ _).symm, (by omega)⟩
 clear F M a
 rintro mq a v ⟨i, l6, l7, F, M, hi, hl6, hl7, hq⟩; try clear u
 have hll6 : l6.length = 64 := by rw [hl6]; exact xin_len _ (key64_len k) hi
 have hll7 : l7.length = 64 := by rw [hl7]; exact fill_len (by rw [List.length_map]; exact key64_len k) hi
 by_cases hin : i < 64
 ·
  refine wp_seq ?_
  refine wp_region_lit ?_
  refine list_val F (wn rfl) rfl rfl (.bool true) (ex_bin .lss _ _ _ _ rfl .i64 _ _ (F.e rfl) rfl _ (b_lss (decide_eq_true (by omega)))) ?_; clear F a; intro a F
  refine wpList_nil ?_
  replace F : Fr 42 a [(0, .slice B n c), (1, .slice D m d), (4, .pointer (some ⟨g4, 0, none⟩)), (6, .pointer (some ⟨g6, 0, none⟩)), (7, .pointer (some ⟨g7, 0, none⟩)), (13, .bool false), (20, .agg ((bcs (key64 k)).toArray)), (21, .int .i64 ((i : Nat) : Int)), (22, .bool true)] := F.keep ⟨rfl, rfl, rfl, rfl, rfl, rfl, rfl, rfl, rfl, trivial⟩
  refine then_n ?_
  refine wp_seq ?_
  refine wp_cond_true (F.e rfl) ?_
  refine wp_skip ?_
  refine then_n ?_
  refine wp_seq ?_
  refine wp_block ?_
  refine wp_seq ?_
  refine wp_region_lit ?_
  refine list_val F (wn rfl) rfl rfl (.int .i64 ((i : Nat) : Int)) (ex_move _ rfl _ (F.e rfl)) ?_; clear F a; intro a F
  refine list_val F (wn rfl) rfl rfl (bv ((key64 k).getD i 0)) (ex_ixv 80 5 _ _ rfl 64 Tryd.underlying80 di_plainKey_5 di_info_5_map_size_some_1 _ (F.e rfl) .i64 _ (F.e rfl) i rfl (by omega) _ (bcs_arr (by rw [key64_len]; omega))) ?_; clear F a; intro a F
  refine list_val F (wn rfl) rfl rfl (.int .i64 ((i : Nat) : Int)) (ex_assign _ rfl _ (F.e rfl)) ?_; clear F a; intro a F
  refine list_val F (wn rfl) rfl rfl (bv ((key64 k).getD i 0)) (ex_assign _ rfl _ (F.e rfl)) ?_; clear F a; intro a F
  refine wpList_nil ?_
  replace F : Fr 42 a [(0, .slice B n c), (1, .slice D m d), (4, .pointer (some ⟨g4, 0, none⟩)), (6, .pointer (some ⟨g6, 0, none⟩)), (7, .pointer (some ⟨g7, 0, none⟩)), (8, .int .i64 ((i : Nat) : Int)), (9, bv ((key64 k).getD i 0)), (13, .bool false), (20, .agg ((bcs (key64 k)).toArray)), (21, .int .i64 ((i : Nat) : Int)), (22, .bool true)] := F.keep ⟨rfl, rfl, rfl, rfl, rfl, rfl, rfl, rfl, rfl, rfl, rfl, trivial⟩
  refine then_n ?_
  refine wp_region_lit ?_
  refine list_val F (wn rfl) rfl rfl (.int .i64 ((i : Nat) : Int)) (ex_move _ rfl _ (F.e rfl)) ?_; clear F a; intro a F
  refine list_val F (wn rfl) rfl rfl (.int .i64 ((i : Nat) : Int)) (ex_move _ rfl _ (F.e rfl)) ?_; clear F a; intro a F
  refine list_val F (wn rfl) rfl rfl (bv ((key64 k).getD i 0)) (ex_move _ rfl _ (F.e rfl)) ?_; clear F a; intro a F
  refine list_val F (wn rfl) rfl rfl (bv (((key64 k).getD i 0) ^^^ 54)) (ex_xorb _ _ _ _ rfl ((key64 k).getD i 0) 54 (F.e rfl) rfl) ?_; clear F a; intro a F
  refine list_val F (wn rfl) rfl rfl (bv ((key64 k).getD i 0)) (ex_move _ rfl _ (F.e rfl)) ?_; clear F a; intro a F
  refine list_val F (wn rfl) rfl rfl (bv (((key64 k).getD i 0) ^^^ 92)) (ex_xorb _ _ _ _ rfl ((key64 k).getD i 0) 92 (F.e rfl) rfl) ?_; clear F a; intro a F
  refine list_val F (wn rfl) rfl rfl (.pointer (some ⟨g6, i, none⟩)) (ex_ixa _ _ _ rfl 64 di_ar_80_64 ⟨g6, 0, none⟩ (F.e rfl) .i64 _ (F.e rfl) i rfl (by omega) ⟨g6, i, none⟩ ((addr_add _ _ _).trans (by rw [Nat.zero_add]))) ?_; clear F a; intro a F
  refine list_do (wn rfl) (fun K hK => ?_)
  refine ow_store F M rfl 5 _ _ rfl 1 g6 _ _ rfl (i) (F.e rfl) _ (F.e rfl) [bv (((key64 k).getD i 0) ^^^ 54)] rfl di_info_5_map_size_some_1 (by rw [List.size_toArray, bcs_len]; simp only [List.length_set, List.length_cons, List.length_nil, Nat.zero_add]; omega) (by simp [bv, Value.oneCell']) (bcs (l6.set i (((key64 k).getD i 0) ^^^ 54))).toArray (congrArg List.toArray (bcs_set _ _ _ (by (try simp only [List.length_set]); omega))) ?_
  clear F a; have Mo := M; clear M; intro a u F M hgr
  refine hK _ _ ?_
  clear hK K
  clear Mo hgr; try clear v
  replace M : Mm w u [⟨g7, (bcs l7).toArray, 80⟩, ⟨g6, (bcs (l6.set i (((key64 k).getD i 0) ^^^ 54))).toArray, 80⟩, ⟨g4, ((bcs (List.replicate 32 0)).toArray), 24⟩] := M
  refine list_val F (wn rfl) rfl rfl (.pointer (some ⟨g7, i, none⟩)) (ex_ixa _ _ _ rfl 64 di_ar_80_64 ⟨g7, 0, none⟩ (F.e rfl) .i64 _ (F.e rfl) i rfl (by omega) ⟨g7, i, none⟩ ((addr_add _ _ _).trans (by rw [Nat.zero_add]))) ?_; clear F a; intro a F
  refine list_do (wn rfl) (fun K hK => ?_)
  refine ow_store F M rfl 5 _ _ rfl 0 g7 _ _ rfl (i) (F.e rfl) _ (F.e rfl) [bv (((key64 k).getD i 0) ^^^ 92)] rfl di_info_5_map_size_some_1 (by rw [List.size_toArray, bcs_len]; simp only [List.length_set, List.length_cons, List.length_nil, Nat.zero_add]; omega) (by simp [bv, Value.oneCell']) (bcs (l7.set i (((key64 k).getD i 0) ^^^ 92))).toArray (congrArg List.toArray (bcs_set _ _ _ (by (try simp only [List.length_set]); omega))) ?_
  clear F a; have Mo := M; clear M; intro a v F M hgr
  refine hK _ _ ?_
  clear hK K
  clear Mo hgr; try clear u
  replace M : Mm w v [⟨g7, (bcs (l7.set i (((key64 k).getD i 0) ^^^ 92))).toArray, 80⟩, ⟨g6, (bcs (l6.set i (((key64 k).getD i 0) ^^^ 54))).toArray, 80⟩, ⟨g4, ((bcs (List.replicate 32 0)).toArray), 24⟩] := M
  refine wpList_nil ?_
  replace F : Fr 42 a [(0, .slice B n c), (1, .slice D m d), (4, .pointer (some ⟨g4, 0, none⟩)), (6, .pointer (some ⟨g6, 0, none⟩)), (7, .pointer (some ⟨g7, 0, none⟩)), (8, .int .i64 ((i : Nat) : Int)), (9, bv ((key64 k).getD i 0)), (13, .bool false), (20, .agg ((bcs (key64 k)).toArray)), (21, .int .i64 ((i : Nat) : Int)), (22, .bool true)] := F.keep ⟨rfl, rfl, rfl, rfl, rfl, rfl, rfl, rfl, rfl, rfl, rfl, trivial⟩
  refine in_n ?_
  refine then_n ?_
  refine wp_region_lit ?_
  refine list_val F (wn rfl) rfl rfl (.int .i64 ((i + 1 : Nat) : Int)) (ex_bin .add _ _ _ _ rfl .i64 _ _ (F.e rfl) rfl _ (b_add ((w_i64 (by omega) (by omega)).trans (by omega)))) ?_; clear F a; intro a F
  refine list_val F (wn rfl) rfl rfl (.int .i64 ((i + 1 : Nat) : Int)) (ex_move _ rfl _ (F.e rfl)) ?_; clear F a; intro a F
  refine wpList_nil ?_
  replace F : Fr 42 a [(0, .slice B n c), (1, .slice D m d), (4, .pointer (some ⟨g4, 0, none⟩)), (6, .pointer (some ⟨g6, 0, none⟩)), (7, .pointer (some ⟨g7, 0, none⟩)), (8, .int .i64 ((i : Nat) : Int)), (9, bv ((key64 k).getD i 0)), (13, .bool false), (20, .agg ((bcs (key64 k)).toArray)), (21, .int .i64 ((i + 1 : Nat) : Int)), (22, .bool true)] := F.keep ⟨rfl, rfl, rfl, rfl, rfl, rfl, rfl, rfl, rfl, rfl, rfl, trivial⟩
  refine then_n ?_
  exact ⟨64 - (i + 1), by omega, (i + 1), (l6.set i (((key64 k).getD i 0) ^^^ 54)), (l7.set i (((key64 k).getD i 0) ^^^ 92)), F.keep ⟨rfl, rfl, rfl, rfl, rfl, rfl, rfl, rfl, trivial⟩, (by refine M.pick' [0, 1, 2] _ ?_ (by decide); exact ⟨rfl, rfl, rfl, trivial⟩), (by omega), (by rw [hl6]; exact xin_set _ (key64_len k) hin), (by rw [hl7]; exact xfill_set _ (key64_len k) hin), (by omega)⟩
 have hmac : mac k b = sha (l7 ++ sha (l6 ++ b)) := by rw [hl6, hl7, show i = 64 by omega, xin_all _ (key64_len k), fill_all (by rw [List.length_map]; exact key64_len k)]; rfl
 refine wp_seq ?_
 refine wp_region_lit ?_
 refine list_val F (wn rfl) rfl rfl (.bool false) (ex_bin .lss _ _ _ _ rfl .i64 _ _ (F.e rfl) rfl _ (b_lss (decide_eq_false (by omega)))) ?_; clear F a; intro a F
 refine wpList_nil ?_
 replace F : Fr 42 a [(0, .slice B n c), (1, .slice D m d), (4, .pointer (some ⟨g4, 0, none⟩)), (6, .pointer (some ⟨g6, 0, none⟩)), (7, .pointer (some ⟨g7, 0, none⟩)), (13, .bool false), (20, .agg ((bcs (key64 k)).toArray)), (21, .int .i64 ((i : Nat) : Int)), (22, .bool false)] := F.keep ⟨rfl, rfl, rfl, rfl, rfl, rfl, rfl, rfl, rfl, trivial⟩
 refine then_n ?_
 refine wp_seq ?_
 refine wp_cond_false (F.e rfl) ?_
 refine wp_exit ?_
 refine then_x ?_
 refine then_x ?_
 refine in_hit ?_
 refine then_n ?_
 refine wp_seq ?_
 refine wp_region_lit ?_
 refine list_val F (wn rfl) rfl rfl (.slice (some ⟨g6, 0, none⟩) 64 64) (ex_all 80 _ rfl 64 di_sa_80_64 ⟨g6, 0, none⟩ (F.e rfl)) ?_; clear F a; intro a F
 refine list_val F (wn rfl) rfl rfl (.slice D m d) (ex_move _ rfl _ (F.e rfl)) ?_; clear F a; intro a F
 refine list_do (wn rfl) (fun K hK => ?_)
 refine ow_bslice F M rfl rfl 22 2 _ rfl #[(0, .slice (some ⟨g6, 0, none⟩) 64 64), (1, .slice D m d)] (parts2 (F.e rfl) (F.e rfl)) #[.slice (some ⟨g6, 0, none⟩) 64 64, .slice D m d] 23 (bs22_2 (some ⟨g6, 0, none⟩) D 64 64 m d _) ?_
 clear F M a; intro a g36 u F M hb hg
 refine hK _ _ ?_
 clear hK K
 clear hb hg; try clear v
 refine list_do (wn rfl) (fun K hK => ?_)
 have hl := rows_two (M.cell (i := 0) rfl (j := 0) rfl) (M.cell (i := 0) rfl (j := 1) rfl) (Rb.mk' (M.at (i := 2) rfl) hll6 (by decide)) (Nat.le_refl _) (hD.below M.bel) hd
 refine ow_call rfl rfl F 43 #[.slice (some ⟨g36, 0, none⟩) 2 2] (ex_call 43 _ _ rfl rfl di_ent_43 _ (map1 (F.e rfl))) (of_to [l6, b] (l6 ++ b) (by simp) _ 2 2 (by decide) _ (hKt.below M.bel) hl) (fun e v hR => ?_)
 obtain ⟨he, hb⟩ := hR
 refine ⟨.agg ((bcs (sha (l6 ++ b))).toArray), he, ?_⟩; clear he F a; intro a F
 refine hK _ _ ?_
 clear hK K
 replace M := M.below hb; clear hb; try clear u
 clear hl
 refine list_do (wn rfl) (fun K hK => ?_)
 refine ow_alloc F M rfl rfl 24 rfl (.agg (bcs (List.replicate 32 0)).toArray) z24 ((bcs (List.replicate 32 0)).toArray) rfl ?_
 clear F M a; intro a g10 u F M hb hg
 refine hK _ _ ?_
 clear hK K
 clear hb hg; try clear v
 refine list_do (wn rfl) (fun K hK => ?_)
 refine ow_put F M rfl 24 _ _ rfl 0 _ ((bcs (List.replicate 32 0)).toArray) _ rfl (F.e rfl) ((bcs (sha (l6 ++ b))).toArray) (F.e rfl) (sz24 (sha_len _)) (sz_eqb 32 rfl (sha_len _)) (all_oneCell_toArray (bcs_one _)) ?_
 clear F a; have Mo := M; clear M; intro a v F M hgr
 refine hK _ _ ?_
 clear hK K
 clear Mo hgr; try clear u
 replace M : Mm w v [⟨g10, (bcs (sha (l6 ++ b))).toArray, 24⟩, ⟨g36, #[.slice (some ⟨g6, 0, none⟩) 64 64, .slice D m d], 23⟩, ⟨g7, (bcs l7).toArray, 80⟩, ⟨g6, (bcs l6).toArray, 80⟩, ⟨g4, ((bcs (List.replicate 32 0)).toArray), 24⟩] := M
 refine wpList_nil ?_
 replace F : Fr 42 a [(0, .slice B n c), (1, .slice D m d), (4, .pointer (some ⟨g4, 0, none⟩)), (6, .pointer (some ⟨g6, 0, none⟩)), (7, .pointer (some ⟨g7, 0, none⟩)), (10, .pointer (some ⟨g10, 0, none⟩)), (13, .bool false), (20, .agg ((bcs (key64 k)).toArray)), (21, .int .i64 ((i : Nat) : Int)), (22, .bool false)] := F.keep ⟨rfl, rfl, rfl, rfl, rfl, rfl, rfl, rfl, rfl, rfl, trivial⟩
 refine then_n ?_
 refine wp_seq ?_
 refine region_tail 2 di_follows_mixedOrders (by kernel_rfl) M ?_; clear M; intro u M hb
 clear hb; try clear v
 refine still_val F (wn rfl) rfl rfl (.slice (some ⟨g7, 0, none⟩) 64 64) (ex_all 80 _ rfl 64 di_sa_80_64 ⟨g7, 0, none⟩ (F.e rfl)) ?_; clear F a; intro a F
 refine still_val F (wn rfl) rfl rfl (.slice (some ⟨g10, 0, none⟩) 32 32) (ex_all 24 _ rfl 32 di_sa_24_32 ⟨g10, 0, none⟩ (F.e rfl)) ?_; clear F a; intro a F
 refine still_end ?_
 refine list_do (wn rfl) (fun K hK => ?_)
 refine ow_bslice F M rfl rfl 22 2 _ rfl #[(0, .slice (some ⟨g7, 0, none⟩) 64 64), (1, .slice (some ⟨g10, 0, none⟩) 32 32)] (parts2 (F.e rfl) (F.e rfl)) #[.slice (some ⟨g7, 0, none⟩) 64 64, .slice (some ⟨g10, 0, none⟩) 32 32] 23 (bs22_2 (some ⟨g7, 0, none⟩) (some ⟨g10, 0, none⟩) 64 64 32 32 _) ?_
 clear F M a; intro a g40 v F M hb hg
 refine hK _ _ ?_
 clear hK K
 clear hb hg; try clear u
 refine list_do (wn rfl) (fun K hK => ?_)
 have hl := rows_two (M.cell (i := 0) rfl (j := 0) rfl) (M.cell (i := 0) rfl (j := 1) rfl) (Rb.mk' (M.at (i := 3) rfl) hll7 (by decide)) (Nat.le_refl _) (Rb.mk' (M.at (i := 1) rfl) (sha_len _) (by decide)) (Nat.le_refl _)
 refine ow_call rfl rfl F 43 #[.slice (some ⟨g40, 0, none⟩) 2 2] (ex_call 43 _ _ rfl rfl di_ent_43 _ (map1 (F.e rfl))) (of_to [l7, (sha (l6 ++ b))] (l7 ++ sha (l6 ++ b)) (by simp) _ 2 2 (by decide) _ (hKt.below M.bel) hl) (fun e u hR => ?_)
 obtain ⟨he, hb⟩ := hR
 refine ⟨.agg ((bcs (sha (l7 ++ sha (l6 ++ b)))).toArray), he, ?_⟩; clear he F a; intro a F
 refine hK _ _ ?_
 clear hK K
 replace M := M.below hb; clear hb; try clear v
 clear hl
 refine list_do (wn rfl) (fun K hK => ?_)
 refine ow_put F M rfl 24 _ _ rfl 5 _ ((bcs (List.replicate 32 0)).toArray) _ rfl (F.e rfl) ((bcs (sha (l7 ++ sha (l6 ++ b)))).toArray) (F.e rfl) (sz24 (sha_len _)) (sz_eqb 32 rfl (sha_len _)) (all_oneCell_toArray (bcs_one _)) ?_
 clear F a; have Mo := M; clear M; intro a v F M hgr
 refine hK _ _ ?_
 clear hK K
 clear Mo hgr; try clear u
 replace M : Mm w v [⟨g40, #[.slice (some ⟨g7, 0, none⟩) 64 64, .slice (some ⟨g10, 0, none⟩) 32 32], 23⟩, ⟨g10, (bcs (sha (l6 ++ b))).toArray, 24⟩, ⟨g36, #[.slice (some ⟨g6, 0, none⟩) 64 64, .slice D m d], 23⟩, ⟨g7, (bcs l7).toArray, 80⟩, ⟨g6, (bcs l6).toArray, 80⟩, ⟨g4, (bcs (sha (l7 ++ sha (l6 ++ b)))).toArray, 24⟩] := M
 refine wpList_nil ?_
 replace F : Fr 42 a [(0, .slice B n c), (1, .slice D m d), (4, .pointer (some ⟨g4, 0, none⟩)), (6, .pointer (some ⟨g6, 0, none⟩)), (7, .pointer (some ⟨g7, 0, none⟩)), (10, .pointer (some ⟨g10, 0, none⟩)), (13, .bool false), (20, .agg ((bcs (key64 k)).toArray)), (21, .int .i64 ((i : Nat) : Int)), (22, .bool false)] := F.keep ⟨rfl, rfl, rfl, rfl, rfl, rfl, rfl, rfl, rfl, rfl, trivial⟩
 refine then_n ?_
 refine wp_ret ?_
 rw [hmac]
 exact ret_c1 (v := .agg ((bcs (sha (l7 ++ sha (l6 ++ b)))).toArray)) F rfl rfl (lvr (cs := bcs (sha (l7 ++ sha (l6 ++ b)))) (by rw [bcs_len, show _ = 32 from (sha_len _)]; exact di_row_24_32) (M.at (i := 5) rfl)) ⟨rfl, M.bel⟩
theorem di_ab_24_32 : ab? Tryd.prog 24 32 = true := by kernel_rfl
set_option maxHeartbeats 4000000 in
set_option maxRecDepth 100000 in
theorem same_any (xa xb : List By) (A D : Option Addr) (n c m d : Nat) (w : World) (hA : Rb w A n xa) (hc : n ≤ c) (hD : Rb w D m xb) (hd : m ≤ d) :
    Calls Tryd.prog 23 #[.slice A n c, .slice D m d] w fun e w' => e = .returned (.bool (decide (xa = xb))) ∧ Below w.heap.size w w' := by
 refine calls_start Tryd.func23 rfl rfl rfl (fun a F => ?_)
 have M : Mm w w [] := Mm.nil w
 refine wp_seq ?_
 refine wp_region_lit ?_
 refine list_val F (wn rfl) rfl rfl (.bool false) (ex_assign _ rfl _ rfl) ?_; clear F a; intro a F
 refine wpList_nil ?_
 replace F : Fr 34 a [(0, .slice A n c), (1, .slice D m d), (4, .bool false)] := F.keep ⟨rfl, rfl, rfl, trivial⟩
 refine then_n ?_
 refine wp_seq ?_
 refine wp_seq ?_
 by_cases hnm : n ≠ m
 ·
  refine wp_region_lit ?_
  refine list_val F (wn rfl) rfl rfl (.slice A n c) (ex_move _ rfl _ (F.e rfl)) ?_; clear F a; intro a F
  refine list_val F (wn rfl) rfl rfl (.int .i64 ((n : Nat) : Int)) (ex_len _ _ rfl 1 di_sl_23_1 _ _ _ (F.e rfl)) ?_; clear F a; intro a F
  refine list_val F (wn rfl) rfl rfl (.slice D m d) (ex_move _ rfl _ (F.e rfl)) ?_; clear F a; intro a F
  refine list_val F (wn rfl) rfl rfl (.int .i64 ((m : Nat) : Int)) (ex_len _ _ rfl 1 di_sl_23_1 _ _ _ (F.e rfl)) ?_; clear F a; intro a F
  refine list_val F (wn rfl) rfl rfl (.bool true) (ex_bin .neq _ _ _ _ rfl .i64 _ _ (F.e rfl) (F.e rfl) _ (b_neq (by simp; omega))) ?_; clear F a; intro a F
  refine wpList_nil ?_
  replace F : Fr 34 a [(0, .slice A n c), (1, .slice D m d), (4, .bool false), (13, .bool true)] := F.keep ⟨rfl, rfl, rfl, rfl, trivial⟩
  refine then_n ?_
  refine wp_cond_true (F.e rfl) ?_
  refine wp_seq ?_
  refine wp_region_lit ?_
  refine list_val F (wn rfl) rfl rfl (.bool false) (ex_assign _ rfl _ rfl) ?_; clear F a; intro a F
  refine wpList_nil ?_
  replace F : Fr 34 a [(0, .slice A n c), (1, .slice D m d), (4, .bool false), (13, .bool true)] := F.keep ⟨rfl, rfl, rfl, rfl, trivial⟩
  refine then_n ?_
  refine wp_ret ?_
  refine then_r ?_
  have hne : decide (xa = xb) = false := decide_eq_false (fun e => hnm (by rw [← hA.1, ← hD.1, e]))
  rw [hne]
  exact ret_tmp F rfl rfl ⟨rfl, M.bel⟩
 obtain rfl : n = m := by omega
 refine wp_region_lit ?_
 refine list_val F (wn rfl) rfl rfl (.slice A n c) (ex_move _ rfl _ (F.e rfl)) ?_; clear F a; intro a F
 refine list_val F (wn rfl) rfl rfl (.int .i64 ((n : Nat) : Int)) (ex_len _ _ rfl 1 di_sl_23_1 _ _ _ (F.e rfl)) ?_; clear F a; intro a F
 refine list_val F (wn rfl) rfl rfl (.slice D n d) (ex_move _ rfl _ (F.e rfl)) ?_; clear F a; intro a F
 refine list_val F (wn rfl) rfl rfl (.int .i64 ((n : Nat) : Int)) (ex_len _ _ rfl 1 di_sl_23_1 _ _ _ (F.e rfl)) ?_; clear F a; intro a F
 refine list_val F (wn rfl) rfl rfl (.bool false) (ex_bin .neq _ _ _ _ rfl .i64 _ _ (F.e rfl) (F.e rfl) _ (b_neq (by simp))) ?_; clear F a; intro a F
 refine wpList_nil ?_
 replace F : Fr 34 a [(0, .slice A n c), (1, .slice D n d), (4, .bool false), (13, .bool false)] := F.keep ⟨rfl, rfl, rfl, rfl, trivial⟩
 refine then_n ?_
 refine wp_cond_false (F.e rfl) ?_
 refine wp_skip ?_
 refine then_n ?_
 refine wp_seq ?_
 refine wp_region_lit ?_
 refine list_val F (wn rfl) rfl rfl (.bool false) (ex_assign _ rfl _ rfl) ?_; clear F a; intro a F
 refine wpList_nil ?_
 replace F : Fr 34 a [(0, .slice A n c), (1, .slice D n d), (4, .bool false), (5, .bool false), (13, .bool false)] := F.keep ⟨rfl, rfl, rfl, rfl, rfl, trivial⟩
 refine then_n ?_
 refine wp_seq ?_
 refine wp_block ?_
 refine wp_loopN (fun mq ar wr => ∃ (j : Nat), ∃ (A2 : Option Addr), ∃ (B2 : Option Addr), ∃ (n2 : Nat), ∃ (c2 : Nat), ∃ (d2 : Nat), ∃ (a2 : List By), ∃ (b2 : List By), ∃ (un : Bool), Fr 34 ar [(0, .slice A2 n2 c2), (1, .slice B2 n2 d2), (4, .bool false), (5, .bool un), (13, .bool false)] ∧ Mm w wr [] ∧ j + n2 ≤ n ∧ Rb w A2 n2 a2 ∧ Rb w B2 n2 b2 ∧ n2 ≤ c2 ∧ n2 ≤ d2 ∧ decide (xa = xb) = (!un && decide (a2 = b2)) ∧ mq + j = n) n ?_ ?_
 ·
  exact ⟨0, A, D, n, c, d, xa, xb, false, F.keep ⟨rfl, rfl, rfl, rfl, rfl, trivial⟩, (by refine M.pick' [] _ ?_ (by decide); exact trivial), (by omega), hA, hD, hc, hd, rfl, (by omega)⟩
 clear F M a
 rintro mq a v ⟨j, A2, B2, n2, c2, d2, a2, b2, un, F, M, hj, hA2, hB2, hc2, hd2, hun, hq⟩; try clear w
 by_cases hin : 0 < n2
 ·
  refine wp_seq ?_
  refine wp_seq ?_
  refine wp_region_lit ?_
  refine list_val F (wn rfl) rfl rfl (.slice A2 n2 c2) (ex_move _ rfl _ (F.e rfl)) ?_; clear F a; intro a F
  refine list_val F (wn rfl) rfl rfl (.int .i64 ((n2 : Nat) : Int)) (ex_len _ _ rfl 1 di_sl_23_1 _ _ _ (F.e rfl)) ?_; clear F a; intro a F
  refine list_val F (wn rfl) rfl rfl (.bool true) (ex_bin .gtr _ _ _ _ rfl .i64 _ _ (F.e rfl) rfl _ (b_gtr (decide_eq_true (by omega)))) ?_; clear F a; intro a F
  refine wpList_nil ?_
  replace F : Fr 34 a [(0, .slice A2 n2 c2), (1, .slice B2 n2 d2), (4, .bool false), (5, .bool un), (13, .bool false), (16, .bool true)] := F.keep ⟨rfl, rfl, rfl, rfl, rfl, rfl, trivial⟩
  refine then_n ?_
  refine wp_cond_true (F.e rfl) ?_
  refine wp_skip ?_
  refine then_n ?_
  refine wp_block ?_
  refine wp_seq ?_
  refine wp_region_lit ?_
  refine list_do (wn rfl) (fun K hK => ?_)
  refine ow_alloc F M rfl rfl 24 rfl (.agg (bcs (List.replicate 32 0)).toArray) z24 ((bcs (List.replicate 32 0)).toArray) rfl ?_
  clear F M a; intro a g6 u F M hb hg
  refine hK _ _ ?_
  clear hK K
  clear hb hg; try clear v
  refine list_do (wn rfl) (fun K hK => ?_)
  refine ow_alloc F M rfl rfl 24 rfl (.agg (bcs (List.replicate 32 0)).toArray) z24 ((bcs (List.replicate 32 0)).toArray) rfl ?_
  clear F M a; intro a g7 v F M hb hg
  refine hK _ _ ?_
  clear hK K
  clear hb hg; try clear u
  refine wpList_nil ?_
  replace F : Fr 34 a [(0, .slice A2 n2 c2), (1, .slice B2 n2 d2), (4, .bool false), (5, .bool un), (6, .pointer (some ⟨g6, 0, none⟩)), (7, .pointer (some ⟨g7, 0, none⟩)), (13, .bool false), (16, .bool true)] := F.keep ⟨rfl, rfl, rfl, rfl, rfl, rfl, rfl, rfl, trivial⟩
  refine then_n ?_
  refine wp_seq ?_
  refine wp_region_lit ?_
  refine list_val F (wn rfl) rfl rfl (.slice (some ⟨g6, 0, none⟩) 32 32) (ex_all 24 _ rfl 32 di_sa_24_32 ⟨g6, 0, none⟩ (F.e rfl)) ?_; clear F a; intro a F
  refine list_val F (wn rfl) rfl rfl (.slice A2 n2 c2) (ex_move _ rfl _ (F.e rfl)) ?_; clear F a; intro a F
  refine list_do (wn rfl) (fun K hK => ?_)
  refine ow_copy F M rfl rfl _ _ rfl 1 g6 (List.replicate 32 0) 24 rfl 32 rfl (F.e rfl) A2 n2 c2 a2 (F.e rfl) (hA2.below M.bel) (pd a2 n2) (rfl) ((min n2 32 : Nat) : Int) (rfl) ?_
  clear F a; have Mo := M; clear M; intro a u F M hgr
  refine hK _ _ ?_
  clear hK K
  clear Mo hgr; try clear v
  replace M : Mm w u [⟨g7, ((bcs (List.replicate 32 0)).toArray), 24⟩, ⟨g6, (bcs (pd a2 n2)).toArray, 24⟩] := M
  refine list_val F (wn rfl) rfl rfl (.int .i64 ((min n2 32 : Nat) : Int)) (ex_assign _ rfl _ (F.e rfl)) ?_; clear F a; intro a F
  refine wpList_nil ?_
  replace F : Fr 34 a [(0, .slice A2 n2 c2), (1, .slice B2 n2 d2), (4, .bool false), (5, .bool un), (6, .pointer (some ⟨g6, 0, none⟩)), (7, .pointer (some ⟨g7, 0, none⟩)), (8, .int .i64 ((min n2 32 : Nat) : Int)), (13, .bool false), (16, .bool true)] := F.keep ⟨rfl, rfl, rfl, rfl, rfl, rfl, rfl, rfl, rfl, trivial⟩
  refine then_n ?_
  refine wp_seq ?_
  refine wp_region_lit ?_
  refine list_val F (wn rfl) rfl rfl (.slice (some ⟨g7, 0, none⟩) 32 32) (ex_all 24 _ rfl 32 di_sa_24_32 ⟨g7, 0, none⟩ (F.e rfl)) ?_; clear F a; intro a F
  refine list_val F (wn rfl) rfl rfl (.slice B2 n2 d2) (ex_move _ rfl _ (F.e rfl)) ?_; clear F a; intro a F
  refine list_do (wn rfl) (fun K hK => ?_)
  refine ow_copy F M rfl rfl _ _ rfl 0 g7 (List.replicate 32 0) 24 rfl 32 rfl (F.e rfl) B2 n2 d2 b2 (F.e rfl) (hB2.below M.bel) (pd b2 n2) (rfl) ((min n2 32 : Nat) : Int) (rfl) ?_
  clear F a; have Mo := M; clear M; intro a v F M hgr
  refine hK _ _ ?_
  clear hK K
  clear Mo hgr; try clear u
  replace M : Mm w v [⟨g7, (bcs (pd b2 n2)).toArray, 24⟩, ⟨g6, (bcs (pd a2 n2)).toArray, 24⟩] := M
  refine wpList_nil ?_
  replace F : Fr 34 a [(0, .slice A2 n2 c2), (1, .slice B2 n2 d2), (4, .bool false), (5, .bool un), (6, .pointer (some ⟨g6, 0, none⟩)), (7, .pointer (some ⟨g7, 0, none⟩)), (8, .int .i64 ((min n2 32 : Nat) : Int)), (13, .bool false), (16, .bool true)] := F.keep ⟨rfl, rfl, rfl, rfl, rfl, rfl, rfl, rfl, rfl, trivial⟩
  refine then_n ?_
  refine wp_seq ?_
  refine wp_seq ?_
  by_cases hpd : pd a2 n2 = pd b2 n2
  ·
   refine wp_region_lit ?_
   refine list_val F (wn rfl) rfl rfl (.agg ((bcs (pd a2 n2)).toArray)) (ex_load _ _ rfl _ (F.e rfl) _ (lvr (cs := bcs (pd a2 n2)) (by rw [bcs_len, show _ = 32 from (pd_len hA2.1)]; exact di_row_24_32) (M.at (i := 1) rfl))) ?_; clear F a; intro a F
   refine list_val F (wn rfl) rfl rfl (.agg ((bcs (pd b2 n2)).toArray)) (ex_load _ _ rfl _ (F.e rfl) _ (lvr (cs := bcs (pd b2 n2)) (by rw [bcs_len, show _ = 32 from (pd_len hB2.1)]; exact di_row_24_32) (M.at (i := 0) rfl))) ?_; clear F a; intro a F
   refine list_val F (wn rfl) rfl rfl (.bool false) (ex_neqA 24 _ _ _ rfl 32 di_ab_24_32 (pd a2 n2) (pd b2 n2) (pd_len hA2.1) (pd_len hB2.1) (F.e rfl) (F.e rfl) false (by rw [decide_eq_true hpd]; rfl)) ?_; clear F a; intro a F
   refine wpList_nil ?_
   replace F : Fr 34 a [(0, .slice A2 n2 c2), (1, .slice B2 n2 d2), (4, .bool false), (5, .bool un), (6, .pointer (some ⟨g6, 0, none⟩)), (7, .pointer (some ⟨g7, 0, none⟩)), (8, .int .i64 ((min n2 32 : Nat) : Int)), (13, .bool false), (16, .bool true), (25, .bool false)] := F.keep ⟨rfl, rfl, rfl, rfl, rfl, rfl, rfl, rfl, rfl, rfl, trivial⟩
   refine then_n ?_
   refine wp_cond_false (F.e rfl) ?_
   refine wp_skip ?_
   refine then_n ?_
   refine region_tail 7 di_follows_mixedOrders (by kernel_rfl) M ?_; clear M; intro u M hb
   clear hb; try clear v
   refine still_val F (wn rfl) rfl rfl (.slice A2 n2 c2) (ex_move _ rfl _ (F.e rfl)) ?_; clear F a; intro a F
   refine still_val F (wn rfl) rfl rfl (.int .i64 ((min n2 32 : Nat) : Int)) (ex_move _ rfl _ (F.e rfl)) ?_; clear F a; intro a F
   refine still_val F (wn rfl) rfl rfl (.slice (cutA A2 (min n2 32) c2) (n2 - min n2 32) (c2 - min n2 32)) (ex_cutend _ _ rfl A2 n2 c2 (F.e rfl) _ (F.e rfl) (min n2 32) rfl (Nat.min_le_left _ _)) ?_; clear F a; intro a F
   refine still_val F (wn rfl) rfl rfl (.slice B2 n2 d2) (ex_move _ rfl _ (F.e rfl)) ?_; clear F a; intro a F
   refine still_val F (wn rfl) rfl rfl (.int .i64 ((min n2 32 : Nat) : Int)) (ex_move _ rfl _ (F.e rfl)) ?_; clear F a; intro a F
   refine still_val F (wn rfl) rfl rfl (.slice (cutA B2 (min n2 32) d2) (n2 - min n2 32) (d2 - min n2 32)) (ex_cutend _ _ rfl B2 n2 d2 (F.e rfl) _ (F.e rfl) (min n2 32) rfl (Nat.min_le_left _ _)) ?_; clear F a; intro a F
   refine still_val F (wn rfl) rfl rfl (.slice (cutA A2 (min n2 32) c2) (n2 - min n2 32) (c2 - min n2 32)) (ex_assign _ rfl _ (F.e rfl)) ?_; clear F a; intro a F
   refine still_end ?_
   refine list_val F (wn rfl) rfl rfl (.slice (cutA B2 (min n2 32) d2) (n2 - min n2 32) (d2 - min n2 32)) (ex_assign _ rfl _ (F.e rfl)) ?_; clear F a; intro a F
   refine wpList_nil ?_
   replace F : Fr 34 a [(0, .slice (cutA A2 (min n2 32) c2) (n2 - min n2 32) (c2 - min n2 32)), (1, .slice (cutA B2 (min n2 32) d2) (n2 - min n2 32) (d2 - min n2 32)), (4, .bool false), (5, .bool un), (6, .pointer (some ⟨g6, 0, none⟩)), (7, .pointer (some ⟨g7, 0, none⟩)), (8, .int .i64 ((min n2 32 : Nat) : Int)), (13, .bool false), (16, .bool true), (25, .bool false)] := F.keep ⟨rfl, rfl, rfl, rfl, rfl, rfl, rfl, rfl, rfl, rfl, trivial⟩
   refine in_n ?_
   refine then_n ?_
   have hst := same_step hA2.1 hB2.1
   exact ⟨n - (j + 1), by omega, (j + 1), (cutA A2 (min n2 32) c2), (cutA B2 (min n2 32) d2), (n2 - min n2 32), (c2 - min n2 32), (d2 - min n2 32), (a2.drop (min n2 32)), (b2.drop (min n2 32)), un, F.keep ⟨rfl, rfl, rfl, rfl, rfl, trivial⟩, (by refine M.pick' [] _ ?_ (by decide); exact trivial), (by omega), (hA2.drop (Nat.min_le_left _ _) hc2), (hB2.drop (Nat.min_le_left _ _) hd2), (by omega), (by omega), (by rw [hun, show decide (a2 = b2) = decide (a2.drop (min n2 32) = b2.drop (min n2 32)) from decide_eq_decide.2 ⟨fun h => (hst.1 h).2, fun h => hst.2 ⟨hpd, h⟩⟩]), (by omega)⟩
  refine wp_region_lit ?_
  refine list_val F (wn rfl) rfl rfl (.agg ((bcs (pd a2 n2)).toArray)) (ex_load _ _ rfl _ (F.e rfl) _ (lvr (cs := bcs (pd a2 n2)) (by rw [bcs_len, show _ = 32 from (pd_len hA2.1)]; exact di_row_24_32) (M.at (i := 1) rfl))) ?_; clear F a; intro a F
  refine list_val F (wn rfl) rfl rfl (.agg ((bcs (pd b2 n2)).toArray)) (ex_load _ _ rfl _ (F.e rfl) _ (lvr (cs := bcs (pd b2 n2)) (by rw [bcs_len, show _ = 32 from (pd_len hB2.1)]; exact di_row_24_32) (M.at (i := 0) rfl))) ?_; clear F a; intro a F
  refine list_val F (wn rfl) rfl rfl (.bool true) (ex_neqA 24 _ _ _ rfl 32 di_ab_24_32 (pd a2 n2) (pd b2 n2) (pd_len hA2.1) (pd_len hB2.1) (F.e rfl) (F.e rfl) true (by rw [decide_eq_false hpd]; rfl)) ?_; clear F a; intro a F
  refine wpList_nil ?_
  replace F : Fr 34 a [(0, .slice A2 n2 c2), (1, .slice B2 n2 d2), (4, .bool false), (5, .bool un), (6, .pointer (some ⟨g6, 0, none⟩)), (7, .pointer (some ⟨g7, 0, none⟩)), (8, .int .i64 ((min n2 32 : Nat) : Int)), (13, .bool false), (16, .bool true), (25, .bool true)] := F.keep ⟨rfl, rfl, rfl, rfl, rfl, rfl, rfl, rfl, rfl, rfl, trivial⟩
  refine then_n ?_
  refine wp_cond_true (F.e rfl) ?_
  refine wp_region_lit ?_
  refine list_val F (wn rfl) rfl rfl (.bool true) (ex_assign _ rfl _ rfl) ?_; clear F a; intro a F
  refine wpList_nil ?_
  replace F : Fr 34 a [(0, .slice A2 n2 c2), (1, .slice B2 n2 d2), (4, .bool false), (5, .bool true), (6, .pointer (some ⟨g6, 0, none⟩)), (7, .pointer (some ⟨g7, 0, none⟩)), (8, .int .i64 ((min n2 32 : Nat) : Int)), (13, .bool false), (16, .bool true), (25, .bool true)] := F.keep ⟨rfl, rfl, rfl, rfl, rfl, rfl, rfl, rfl, rfl, rfl, trivial⟩
  refine then_n ?_
  refine region_tail 7 di_follows_mixedOrders (by kernel_rfl) M ?_; clear M; intro u M hb
  clear hb; try clear v
  refine still_val F (wn rfl) rfl rfl (.slice A2 n2 c2) (ex_move _ rfl _ (F.e rfl)) ?_; clear F a; intro a F
  refine still_val F (wn rfl) rfl rfl (.int .i64 ((min n2 32 : Nat) : Int)) (ex_move _ rfl _ (F.e rfl)) ?_; clear F a; intro a F
  refine still_val F (wn rfl) rfl rfl (.slice (cutA A2 (min n2 32) c2) (n2 - min n2 32) (c2 - min n2 32)) (ex_cutend _ _ rfl A2 n2 c2 (F.e rfl) _ (F.e rfl) (min n2 32) rfl (Nat.min_le_left _ _)) ?_; clear F a; intro a F
  refine still_val F (wn rfl) rfl rfl (.slice B2 n2 d2) (ex_move _ rfl _ (F.e rfl)) ?_; clear F a; intro a F
  refine still_val F (wn rfl) rfl rfl (.int .i64 ((min n2 32 : Nat) : Int)) (ex_move _ rfl _ (F.e rfl)) ?_; clear F a; intro a F
  refine still_val F (wn rfl) rfl rfl (.slice (cutA B2 (min n2 32) d2) (n2 - min n2 32) (d2 - min n2 32)) (ex_cutend _ _ rfl B2 n2 d2 (F.e rfl) _ (F.e rfl) (min n2 32) rfl (Nat.min_le_left _ _)) ?_; clear F a; intro a F
  refine still_val F (wn rfl) rfl rfl (.slice (cutA A2 (min n2 32) c2) (n2 - min n2 32) (c2 - min n2 32)) (ex_assign _ rfl _ (F.e rfl)) ?_; clear F a; intro a F
  refine still_end ?_
  refine list_val F (wn rfl) rfl rfl (.slice (cutA B2 (min n2 32) d2) (n2 - min n2 32) (d2 - min n2 32)) (ex_assign _ rfl _ (F.e rfl)) ?_; clear F a; intro a F
  refine wpList_nil ?_
  replace F : Fr 34 a [(0, .slice (cutA A2 (min n2 32) c2) (n2 - min n2 32) (c2 - min n2 32)), (1, .slice (cutA B2 (min n2 32) d2) (n2 - min n2 32) (d2 - min n2 32)), (4, .bool false), (5, .bool true), (6, .pointer (some ⟨g6, 0, none⟩)), (7, .pointer (some ⟨g7, 0, none⟩)), (8, .int .i64 ((min n2 32 : Nat) : Int)), (13, .bool false), (16, .bool true), (25, .bool true)] := F.keep ⟨rfl, rfl, rfl, rfl, rfl, rfl, rfl, rfl, rfl, rfl, trivial⟩
  refine in_n ?_
  refine then_n ?_
  have hst := same_step hA2.1 hB2.1
  exact ⟨n - (j + 1), by omega, (j + 1), (cutA A2 (min n2 32) c2), (cutA B2 (min n2 32) d2), (n2 - min n2 32), (c2 - min n2 32), (d2 - min n2 32), (a2.drop (min n2 32)), (b2.drop (min n2 32)), true, F.keep ⟨rfl, rfl, rfl, rfl, rfl, trivial⟩, (by refine M.pick' [] _ ?_ (by decide); exact trivial), (by omega), (hA2.drop (Nat.min_le_left _ _) hc2), (hB2.drop (Nat.min_le_left _ _) hd2), (by omega), (by omega), (by rw [hun, show decide (a2 = b2) = false from decide_eq_false (fun h => hpd (hst.1 h).1)]; simp), (by omega)⟩
 obtain rfl : n2 = 0 := by omega
 have ha0 : a2 = [] := List.eq_nil_of_length_eq_zero hA2.1
 have hb0 : b2 = [] := List.eq_nil_of_length_eq_zero hB2.1
 rw [ha0, hb0, decide_eq_true rfl, Bool.and_true] at hun
 refine wp_seq ?_
 refine wp_seq ?_
 refine wp_region_lit ?_
 refine list_val F (wn rfl) rfl rfl (.slice A2 0 c2) (ex_move _ rfl _ (F.e rfl)) ?_; clear F a; intro a F
 refine list_val F (wn rfl) rfl rfl (.int .i64 0) (ex_len _ _ rfl 1 di_sl_23_1 _ _ _ (F.e rfl)) ?_; clear F a; intro a F
 refine list_val F (wn rfl) rfl rfl (.bool false) (ex_bin .gtr _ _ _ _ rfl .i64 _ _ (F.e rfl) rfl _ (b_gtr (decide_eq_false (by omega)))) ?_; clear F a; intro a F
 refine wpList_nil ?_
 replace F : Fr 34 a [(0, .slice A2 0 c2), (1, .slice B2 0 d2), (4, .bool false), (5, .bool un), (13, .bool false), (16, .bool false)] := F.keep ⟨rfl, rfl, rfl, rfl, rfl, rfl, trivial⟩
 refine then_n ?_
 refine wp_cond_false (F.e rfl) ?_
 refine wp_exit ?_
 refine then_x ?_
 refine then_x ?_
 refine in_hit ?_
 refine then_n ?_
 refine wp_seq ?_
 refine wp_region_lit ?_
 refine list_val F (wn rfl) rfl rfl (.bool un) (ex_move _ rfl _ (F.e rfl)) ?_; clear F a; intro a F
 refine list_val F (wn rfl) rfl rfl (.bool (!un)) (ex_not _ _ rfl _ (F.e rfl) _ rfl) ?_; clear F a; intro a F
 refine list_val F (wn rfl) rfl rfl (.bool (!un)) (ex_assign _ rfl _ (F.e rfl)) ?_; clear F a; intro a F
 refine wpList_nil ?_
 replace F : Fr 34 a [(0, .slice A2 0 c2), (1, .slice B2 0 d2), (4, .bool (!un)), (5, .bool un), (13, .bool false), (16, .bool false)] := F.keep ⟨rfl, rfl, rfl, rfl, rfl, rfl, trivial⟩
 refine then_n ?_
 refine wp_ret ?_
 rw [hun]
 exact ret_tmp F rfl rfl ⟨rfl, M.bel⟩
theorem di_sa_40_16 : sa? Tryd.prog 40 16 = true := by kernel_rfl
theorem di_cv_3_62_u64 : cv? Tryd.prog 3 62 .u64 = true := by kernel_rfl
theorem di_ent_44 : ent? Tryd.prog 44 = true := by kernel_rfl
set_option maxHeartbeats 4000000 in
set_option maxRecDepth 100000 in
theorem pass_any (s t : List By) (hs : s.length = 16) (ht : t.length ≤ maxLen) (r : Int) (w : World) (hKt : At w ⟨0, 0, none⟩ (wcs kTab)) :
    Calls Tryd.prog 25 #[.agg (bcs s).toArray, .string (strB t), .int .i64 r] w fun e w' => e = .returned (.tuple #[.agg (bcs (passF s t r).1).toArray, .int .i64 (passF s t r).2]) ∧ Below w.heap.size w w' := by
 refine calls_start Tryd.func25 rfl rfl rfl (fun a F => ?_)
 have M : Mm w w [] := Mm.nil w
 refine wp_seq ?_
 refine wp_region_lit ?_
 refine list_do (wn rfl) (fun K hK => ?_)
 refine ow_box F M rfl rfl 40 _ rfl _ (F.e rfl) ((bcs s).toArray) rfl ?_
 clear F M a; intro a g3 v F M hb hg
 refine hK _ _ ?_
 clear hK K
 clear hb hg; try clear w
 refine list_do (wn rfl) (fun K hK => ?_)
 refine ow_alloc F M rfl rfl 24 rfl (.agg (bcs (List.replicate 32 0)).toArray) z24 ((bcs (List.replicate 32 0)).toArray) rfl ?_
 clear F M a; intro a g6 u F M hb hg
 refine hK _ _ ?_
 clear hK K
 clear hb hg; try clear v
 refine list_val F (wn rfl) rfl rfl (.int .i64 0) (ex_assign _ rfl _ rfl) ?_; clear F a; intro a F
 refine wpList_nil ?_
 replace F : Fr 35 a [(0, .agg ((bcs s).toArray)), (1, .string (strB t)), (2, .int .i64 r), (3, .pointer (some ⟨g3, 0, none⟩)), (6, .pointer (some ⟨g6, 0, none⟩)), (7, .int .i64 0)] := F.keep ⟨rfl, rfl, rfl, rfl, rfl, rfl, trivial⟩
 refine then_n ?_
 refine wp_seq ?_
 refine wp_seq ?_
 by_cases h1 : r < 1
 ·
  refine wp_region_lit ?_
  refine list_val F (wn rfl) rfl rfl (.int .i64 r) (ex_move _ rfl _ (F.e rfl)) ?_; clear F a; intro a F
  refine list_val F (wn rfl) rfl rfl (.bool true) (ex_bin .lss _ _ _ _ rfl .i64 _ _ (F.e rfl) rfl _ (b_lss (decide_eq_true h1))) ?_; clear F a; intro a F
  refine list_val F (wn rfl) rfl rfl (.bool true) (ex_move _ rfl _ (F.e rfl)) ?_; clear F a; intro a F
  refine list_skip F (F.wants 11 true rfl (by kernel_rfl) rfl false rfl) rfl rfl ?_; clear F a; intro a F
  refine list_skip F (F.wants 11 true rfl (by kernel_rfl) rfl false rfl) rfl rfl ?_; clear F a; intro a F
  refine list_val F (wn rfl) rfl rfl (.bool true) (ex_pick_t _ _ _ rfl (F.e rfl) _ rfl) ?_; clear F a; intro a F
  refine wpList_nil ?_
  replace F : Fr 35 a [(0, .agg ((bcs s).toArray)), (1, .string (strB t)), (2, .int .i64 r), (3, .pointer (some ⟨g3, 0, none⟩)), (6, .pointer (some ⟨g6, 0, none⟩)), (7, .int .i64 0), (14, .bool true)] := F.keep ⟨rfl, rfl, rfl, rfl, rfl, rfl, rfl, trivial⟩
  refine then_n ?_
  refine wp_cond_true (F.e rfl) ?_
  refine wp_seq ?_
  refine wp_region_lit ?_
  refine list_val F (wn rfl) rfl rfl (.agg ((bcs (List.replicate 32 0)).toArray)) (ex_build 24 _ rfl #[] parts0 (.agg ((bcs (List.replicate 32 0)).toArray)) (b24_0 _)) ?_; clear F a; intro a F
  refine list_do (wn rfl) (fun K hK => ?_)
  refine ow_put F M rfl 24 _ _ rfl 0 _ ((bcs (List.replicate 32 0)).toArray) _ rfl (F.e rfl) ((bcs (List.replicate 32 0)).toArray) (F.e rfl) (sz24 rfl) (sz_eqb 32 rfl rfl) (all_oneCell_toArray (bcs_one _)) ?_
  clear F a; have Mo := M; clear M; intro a v F M hgr
  refine hK _ _ ?_
  clear hK K
  clear Mo hgr; try clear u
  replace M : Mm w v [⟨g6, (bcs (List.replicate 32 0)).toArray, 24⟩, ⟨g3, ((bcs s).toArray), 40⟩] := M
  refine list_val F (wn rfl) rfl rfl (.int .i64 40) (ex_assign _ rfl _ rfl) ?_; clear F a; intro a F
  refine wpList_nil ?_
  replace F : Fr 35 a [(0, .agg ((bcs s).toArray)), (1, .string (strB t)), (2, .int .i64 r), (3, .pointer (some ⟨g3, 0, none⟩)), (6, .pointer (some ⟨g6, 0, none⟩)), (7, .int .i64 40), (14, .bool true)] := F.keep ⟨rfl, rfl, rfl, rfl, rfl, rfl, rfl, trivial⟩
  refine then_n ?_
  refine wp_ret ?_
  refine then_r ?_
  rw [passF_no (.inl h1)]
  exact ret_c2 (v := .agg ((bcs (List.replicate 32 0)).toArray)) F rfl rfl rfl (lvr (cs := bcs (List.replicate 32 0)) (by rw [bcs_len, show _ = 32 from rfl]; exact di_row_24_32) (M.at (i := 0) rfl)) ⟨rfl, M.bel⟩
 by_cases h2 : 4096 < r
 ·
  refine wp_region_lit ?_
  refine list_val F (wn rfl) rfl rfl (.int .i64 r) (ex_move _ rfl _ (F.e rfl)) ?_; clear F a; intro a F
  refine list_val F (wn rfl) rfl rfl (.bool false) (ex_bin .lss _ _ _ _ rfl .i64 _ _ (F.e rfl) rfl _ (b_lss (decide_eq_false h1))) ?_; clear F a; intro a F
  refine list_val F (wn rfl) rfl rfl (.bool false) (ex_move _ rfl _ (F.e rfl)) ?_; clear F a; intro a F
  refine list_val F (F.wants 11 false rfl (by kernel_rfl) rfl true rfl) rfl rfl (.int .i64 r) (ex_move _ rfl _ (F.e rfl)) ?_; clear F a; intro a F
  refine list_val F (F.wants 11 false rfl (by kernel_rfl) rfl true rfl) rfl rfl (.bool true) (ex_bin .gtr _ _ _ _ rfl .i64 _ _ (F.e rfl) rfl _ (b_gtr (decide_eq_true h2))) ?_; clear F a; intro a F
  refine list_val F (wn rfl) rfl rfl (.bool true) (ex_pick_f _ _ _ rfl (F.e rfl) _ (F.e rfl)) ?_; clear F a; intro a F
  refine wpList_nil ?_
  replace F : Fr 35 a [(0, .agg ((bcs s).toArray)), (1, .string (strB t)), (2, .int .i64 r), (3, .pointer (some ⟨g3, 0, none⟩)), (6, .pointer (some ⟨g6, 0, none⟩)), (7, .int .i64 0), (14, .bool true)] := F.keep ⟨rfl, rfl, rfl, rfl, rfl, rfl, rfl, trivial⟩
  refine then_n ?_
  refine wp_cond_true (F.e rfl) ?_
  refine wp_seq ?_
  refine wp_region_lit ?_
  refine list_val F (wn rfl) rfl rfl (.agg ((bcs (List.replicate 32 0)).toArray)) (ex_build 24 _ rfl #[] parts0 (.agg ((bcs (List.replicate 32 0)).toArray)) (b24_0 _)) ?_; clear F a; intro a F
  refine list_do (wn rfl) (fun K hK => ?_)
  refine ow_put F M rfl 24 _ _ rfl 0 _ ((bcs (List.replicate 32 0)).toArray) _ rfl (F.e rfl) ((bcs (List.replicate 32 0)).toArray) (F.e rfl) (sz24 rfl) (sz_eqb 32 rfl rfl) (all_oneCell_toArray (bcs_one _)) ?_
  clear F a; have Mo := M; clear M; intro a v F M hgr
  refine hK _ _ ?_
  clear hK K
  clear Mo hgr; try clear u
  replace M : Mm w v [⟨g6, (bcs (List.replicate 32 0)).toArray, 24⟩, ⟨g3, ((bcs s).toArray), 40⟩] := M
  refine list_val F (wn rfl) rfl rfl (.int .i64 40) (ex_assign _ rfl _ rfl) ?_; clear F a; intro a F
  refine wpList_nil ?_
  replace F : Fr 35 a [(0, .agg ((bcs s).toArray)), (1, .string (strB t)), (2, .int .i64 r), (3, .pointer (some ⟨g3, 0, none⟩)), (6, .pointer (some ⟨g6, 0, none⟩)), (7, .int .i64 40), (14, .bool true)] := F.keep ⟨rfl, rfl, rfl, rfl, rfl, rfl, rfl, trivial⟩
  refine then_n ?_
  refine wp_ret ?_
  refine then_r ?_
  rw [passF_no (.inr h2)]
  exact ret_c2 (v := .agg ((bcs (List.replicate 32 0)).toArray)) F rfl rfl rfl (lvr (cs := bcs (List.replicate 32 0)) (by rw [bcs_len, show _ = 32 from rfl]; exact di_row_24_32) (M.at (i := 0) rfl)) ⟨rfl, M.bel⟩
 obtain ⟨q, hq1⟩ : ∃ q : Nat, (q : Int) = r - 1 := ⟨(r - 1).toNat, by omega⟩
 have hlen : t.length ≤ 9223372036854775807 := by simp only [maxLen] at ht; exact ht
 refine wp_region_lit ?_
 refine list_val F (wn rfl) rfl rfl (.int .i64 r) (ex_move _ rfl _ (F.e rfl)) ?_; clear F a; intro a F
 refine list_val F (wn rfl) rfl rfl (.bool false) (ex_bin .lss _ _ _ _ rfl .i64 _ _ (F.e rfl) rfl _ (b_lss (decide_eq_false h1))) ?_; clear F a; intro a F
 refine list_val F (wn rfl) rfl rfl (.bool false) (ex_move _ rfl _ (F.e rfl)) ?_; clear F a; intro a F
 refine list_val F (F.wants 11 false rfl (by kernel_rfl) rfl true rfl) rfl rfl (.int .i64 r) (ex_move _ rfl _ (F.e rfl)) ?_; clear F a; intro a F
 refine list_val F (F.wants 11 false rfl (by kernel_rfl) rfl true rfl) rfl rfl (.bool false) (ex_bin .gtr _ _ _ _ rfl .i64 _ _ (F.e rfl) rfl _ (b_gtr (decide_eq_false h2))) ?_; clear F a; intro a F
 refine list_val F (wn rfl) rfl rfl (.bool false) (ex_pick_f _ _ _ rfl (F.e rfl) _ (F.e rfl)) ?_; clear F a; intro a F
 refine wpList_nil ?_
 replace F : Fr 35 a [(0, .agg ((bcs s).toArray)), (1, .string (strB t)), (2, .int .i64 r), (3, .pointer (some ⟨g3, 0, none⟩)), (6, .pointer (some ⟨g6, 0, none⟩)), (7, .int .i64 0), (14, .bool false)] := F.keep ⟨rfl, rfl, rfl, rfl, rfl, rfl, rfl, trivial⟩
 refine then_n ?_
 refine wp_cond_false (F.e rfl) ?_
 refine wp_skip ?_
 refine then_n ?_
 refine wp_seq ?_
 refine wp_only (fun ar wr => ∃ (g20 : Nat), ∃ (g22 : Nat), ∃ (c_22 : Nat), ∃ (g23 : Nat), ∃ (g8 : Nat), Fr 35 ar [(0, .agg ((bcs s).toArray)), (1, .string (strB t)), (2, .int .i64 r), (3, .pointer (some ⟨g3, 0, none⟩)), (6, .pointer (some ⟨g6, 0, none⟩)), (7, .int .i64 0), (8, .pointer (some ⟨g8, 0, none⟩)), (14, .bool false)] ∧ Mm w wr [⟨g8, (bcs (sha (s ++ be8 (BitVec.ofNat 64 t.length) ++ t))).toArray, 24⟩, ⟨g23, #[.slice (some ⟨g3, 0, none⟩) 16 16, .slice (some ⟨g20, 0, none⟩) 8 8, .slice (some ⟨g22, 0, none⟩) t.length c_22], 23⟩, ⟨g6, ((bcs (List.replicate 32 0)).toArray), 24⟩, ⟨g3, ((bcs s).toArray), 40⟩]) ?_ ?_
 ·
  refine region_any di_follows_mixedOrders M ?_; clear M; intro wD M hb
  clear hb; try clear u
  have hS : Below wD.heap.size wD wD := Below.refl _ _; have MD := M
  refine any_val F 0 rfl (by kernel_rfl) (wn rfl) rfl rfl (.slice (some ⟨g3, 0, none⟩) 16 16) (fun w' hS' => ex_all 40 _ rfl 16 di_sa_40_16 ⟨g3, 0, none⟩ (F.e rfl)) hS ?_; clear F a; intro a F
  refine any_val F 1 rfl (by kernel_rfl) (wn rfl) rfl rfl (.string (strB t)) (fun w' hS' => ex_move _ rfl _ (F.e rfl)) hS ?_; clear F a; intro a F
  refine any_val F 2 rfl (by kernel_rfl) (wn rfl) rfl rfl (.int .i64 ((t.length : Nat) : Int)) (fun w' hS' => ex_lens _ _ rfl (by kernel_rfl) t (F.e rfl)) hS ?_; clear F a; intro a F
  refine any_val F 3 rfl (by kernel_rfl) (wn rfl) rfl rfl (.int .u64 ((BitVec.ofNat 64 t.length).toNat : Int)) (fun w' hS' => ex_conv _ _ _ rfl _ .u64 di_cv_3_62_u64 _ (F.e rfl) _ (w64 _)) hS ?_; clear F a; intro a F
  refine any_val F 5 rfl (by kernel_rfl) (wn rfl) rfl rfl (.string (strB t)) (fun w' hS' => ex_move _ rfl _ (F.e rfl)) hS ?_; clear F a; intro a F
  refine any_ready [4, 6, 9] (by kernel_rfl) (by simp) ?_
  refine ready_do rfl (wn rfl) (fun K hK => ?_) ?_
  ·
   refine ow_call rfl rfl F 44 #[.int .u64 ((BitVec.ofNat 64 t.length).toNat : Int)] (ex_call 44 _ _ rfl rfl di_ent_44 _ (map1 (F.e rfl))) (eight_any (BitVec.ofNat 64 t.length) _) (fun e v hR => ?_)
   obtain ⟨g20, he, hg20, hL20, hb⟩ := hR
   clear hg20
   refine ⟨.slice (some ⟨g20, 0, none⟩) 8 8, he, ?_⟩; clear he F a; intro a F
   refine hK _ _ (S_below hS hb) ?_
   replace hS := S_below hS hb
   clear hK K
   replace M := M.below hb; clear hb; try clear wD
   refine any_ready [6, 9] (by kernel_rfl) (by simp) ?_
   refine ready_do rfl (wn rfl) (fun K hK => ?_) ?_
   ·
    refine ow_bytes F rfl rfl _ rfl t (F.e rfl) ht ?_
    clear F a; intro a g22 c_22 u F hL22 hc22 hb hg
    refine hK _ _ (S_below hS hb) ?_
    replace hS := S_below hS hb
    clear hK K
    replace hL20 := hL20.below hb
    replace M := M.below hb; clear hb hg; try clear v
    refine any_ready [7, 9] (by kernel_rfl) (by simp) ?_
    refine ready_do rfl (wn rfl) (fun K hK => ?_) ?_
    ·
     refine ow_bslice F M rfl rfl 22 3 _ rfl #[(0, .slice (some ⟨g3, 0, none⟩) 16 16), (1, .slice (some ⟨g20, 0, none⟩) 8 8), (2, .slice (some ⟨g22, 0, none⟩) t.length c_22)] (parts3 (F.e rfl) (F.e rfl) (F.e rfl)) #[.slice (some ⟨g3, 0, none⟩) 16 16, .slice (some ⟨g20, 0, none⟩) 8 8, .slice (some ⟨g22, 0, none⟩) t.length c_22] 23 (bs22_3 (some ⟨g3, 0, none⟩) (some ⟨g20, 0, none⟩) (some ⟨g22, 0, none⟩) 16 16 8 8 t.length c_22 _) ?_
     clear F M a; intro a g23 v F M hb hg
     have los_g23 := Nat.le_trans hS.size hg
     refine hK _ _ (S_below hS hb) ?_
     replace hS := S_below hS hb
     clear hK K
     replace hL20 := hL20.below hb
     replace hL22 := hL22.below hb
     replace hc22 := hc22
     clear hb hg; try clear u
     refine any_ready [8, 9] (by kernel_rfl) (by simp) ?_
     refine ready_do rfl (wn rfl) (fun K hK => ?_) ?_
     ·
      have hl := rows_three (M.cell (i := 0) rfl (j := 0) rfl) (M.cell (i := 0) rfl (j := 1) rfl) (M.cell (i := 0) rfl (j := 2) rfl) (Rb.mk' (M.at (i := 2) rfl) hs (by decide)) (Nat.le_refl _) hL20 (Nat.le_refl _) hL22 hc22
      refine ow_call rfl rfl F 43 #[.slice (some ⟨g23, 0, none⟩) 3 3] (ex_call 43 _ _ rfl rfl di_ent_43 _ (map1 (F.e rfl))) (of_to [s, (be8 (BitVec.ofNat 64 t.length)), t] (s ++ be8 (BitVec.ofNat 64 t.length) ++ t) (by simp) _ 3 3 (by decide) _ (hKt.below M.bel) hl) (fun e u hR => ?_)
      obtain ⟨he, hb⟩ := hR
      refine ⟨.agg ((bcs (sha (s ++ be8 (BitVec.ofNat 64 t.length) ++ t))).toArray), he, ?_⟩; clear he F a; intro a F
      refine hK _ _ (S_below hS hb) ?_
      replace hS := S_below hS hb
      clear hK K
      replace hL20 := hL20.below hb
      replace hL22 := hL22.below hb
      replace hc22 := hc22
      replace M := M.below hb; clear hb; try clear v
      clear hL20
      clear hL22
      clear hc22
      clear hl
      refine any_ready [9] (by kernel_rfl) (by simp) ?_
      refine ready_do rfl (wn rfl) (fun K hK => ?_) AllReadyH.nil
      refine ow_alloc F M rfl rfl 24 rfl (.agg (bcs (List.replicate 32 0)).toArray) z24 ((bcs (List.replicate 32 0)).toArray) rfl ?_
      clear F M a; intro a g8 v F M hb hg
      have los_g8 := Nat.le_trans hS.size hg
      refine hK _ _ (S_below hS hb) ?_
      replace hS := S_below hS hb
      clear hK K
      clear hb hg; try clear u
      refine any_ready [10] (by kernel_rfl) (by simp) ?_
      refine ready_do rfl (wn rfl) (fun K hK => ?_) AllReadyH.nil
      refine ow_put F M rfl 24 _ _ rfl 0 _ ((bcs (List.replicate 32 0)).toArray) _ rfl (F.e rfl) ((bcs (sha (s ++ be8 (BitVec.ofNat 64 t.length) ++ t))).toArray) (F.e rfl) (sz24 (sha_len _)) (sz_eqb 32 rfl (sha_len _)) (all_oneCell_toArray (bcs_one _)) ?_
      clear F a; have Mo := M; clear M; intro a u F M hgr
      refine hK _ _ (S_grown hS hgr los_g8) ?_
      replace hS := S_grown hS hgr los_g8
      clear hK K
      clear Mo hgr; try clear v
      replace M : Mm w u [⟨g8, (bcs (sha (s ++ be8 (BitVec.ofNat 64 t.length) ++ t))).toArray, 24⟩, ⟨g23, #[.slice (some ⟨g3, 0, none⟩) 16 16, .slice (some ⟨g20, 0, none⟩) 8 8, .slice (some ⟨g22, 0, none⟩) t.length c_22], 23⟩, ⟨g6, ((bcs (List.replicate 32 0)).toArray), 24⟩, ⟨g3, ((bcs s).toArray), 40⟩] := M
      refine any_done (by kernel_rfl) ?_
      exact ⟨g20, g22, c_22, g23, g8, F.keep ⟨rfl, rfl, rfl, rfl, rfl, rfl, rfl, rfl, trivial⟩, (by refine M.pick' [0, 1, 2, 3] _ ?_ (by decide); exact ⟨rfl, rfl, rfl, rfl, trivial⟩)⟩
     refine ready_do rfl (wn rfl) (fun K hK => ?_) AllReadyH.nil
     refine ow_alloc F M rfl rfl 24 rfl (.agg (bcs (List.replicate 32 0)).toArray) z24 ((bcs (List.replicate 32 0)).toArray) rfl ?_
     clear F M a; intro a g8 u F M hb hg
     have los_g8 := Nat.le_trans hS.size hg
     refine hK _ _ (S_below hS hb) ?_
     replace hS := S_below hS hb
     clear hK K
     replace hL20 := hL20.below hb
     replace hL22 := hL22.below hb
     replace hc22 := hc22
     clear hb hg; try clear v
     refine any_ready [8] (by kernel_rfl) (by simp) ?_
     refine ready_do rfl (wn rfl) (fun K hK => ?_) AllReadyH.nil
     have hl := rows_three (M.cell (i := 1) rfl (j := 0) rfl) (M.cell (i := 1) rfl (j := 1) rfl) (M.cell (i := 1) rfl (j := 2) rfl) (Rb.mk' (M.at (i := 3) rfl) hs (by decide)) (Nat.le_refl _) hL20 (Nat.le_refl _) hL22 hc22
     refine ow_call rfl rfl F 43 #[.slice (some ⟨g23, 0, none⟩) 3 3] (ex_call 43 _ _ rfl rfl di_ent_43 _ (map1 (F.e rfl))) (of_to [s, (be8 (BitVec.ofNat 64 t.length)), t] (s ++ be8 (BitVec.ofNat 64 t.length) ++ t) (by simp) _ 3 3 (by decide) _ (hKt.below M.bel) hl) (fun e v hR => ?_)
     obtain ⟨he, hb⟩ := hR
     refine ⟨.agg ((bcs (sha (s ++ be8 (BitVec.ofNat 64 t.length) ++ t))).toArray), he, ?_⟩; clear he F a; intro a F
     refine hK _ _ (S_below hS hb) ?_
     replace hS := S_below hS hb
     clear hK K
     replace hL20 := hL20.below hb
     replace hL22 := hL22.below hb
     replace hc22 := hc22
     replace M := M.below hb; clear hb; try clear u
     clear hL20
     clear hL22
     clear hc22
     clear hl
     refine any_ready [10] (by kernel_rfl) (by simp) ?_
     refine ready_do rfl (wn rfl) (fun K hK => ?_) AllReadyH.nil
     refine ow_put F M rfl 24 _ _ rfl 0 _ ((bcs (List.replicate 32 0)).toArray) _ rfl (F.e rfl) ((bcs (sha (s ++ be8 (BitVec.ofNat 64 t.length) ++ t))).toArray) (F.e rfl) (sz24 (sha_len _)) (sz_eqb 32 rfl (sha_len _)) (all_oneCell_toArray (bcs_one _)) ?_
     clear F a; have Mo := M; clear M; intro a u F M hgr
     refine hK _ _ (S_grown hS hgr los_g8) ?_
     replace hS := S_grown hS hgr los_g8
     clear hK K
     clear Mo hgr; try clear v
     replace M : Mm w u [⟨g8, (bcs (sha (s ++ be8 (BitVec.ofNat 64 t.length) ++ t))).toArray, 24⟩, ⟨g23, #[.slice (some ⟨g3, 0, none⟩) 16 16, .slice (some ⟨g20, 0, none⟩) 8 8, .slice (some ⟨g22, 0, none⟩) t.length c_22], 23⟩, ⟨g6, ((bcs (List.replicate 32 0)).toArray), 24⟩, ⟨g3, ((bcs s).toArray), 40⟩] := M
     refine any_done (by kernel_rfl) ?_
     exact ⟨g20, g22, c_22, g23, g8, F.keep ⟨rfl, rfl, rfl, rfl, rfl, rfl, rfl, rfl, trivial⟩, (by refine M.pick' [0, 1, 2, 3] _ ?_ (by decide); exact ⟨rfl, rfl, rfl, rfl, trivial⟩)⟩
    refine ready_do rfl (wn rfl) (fun K hK => ?_) AllReadyH.nil
    refine ow_alloc F M rfl rfl 24 rfl (.agg (bcs (List.replicate 32 0)).toArray) z24 ((bcs (List.replicate 32 0)).toArray) rfl ?_
    clear F M a; intro a g8 v F M hb hg
    have los_g8 := Nat.le_trans hS.size hg
    refine hK _ _ (S_below hS hb) ?_
    replace hS := S_below hS hb
    clear hK K
    replace hL20 := hL20.below hb
    replace hL22 := hL22.below hb
    replace hc22 := hc22
    clear hb hg; try clear u
    refine any_ready [7] (by kernel_rfl) (by simp) ?_
    refine ready_do rfl (wn rfl) (fun K hK => ?_) AllReadyH.nil
    refine ow_bslice F M rfl rfl 22 3 _ rfl #[(0, .slice (some ⟨g3, 0, none⟩) 16 16), (1, .slice (some ⟨g20, 0, none⟩) 8 8), (2, .slice (some ⟨g22, 0, none⟩) t.length c_22)] (parts3 (F.e rfl) (F.e rfl) (F.e rfl)) #[.slice (some ⟨g3, 0, none⟩) 16 16, .slice (some ⟨g20, 0, none⟩) 8 8, .slice (some ⟨g22, 0, none⟩) t.length c_22] 23 (bs22_3 (some ⟨g3, 0, none⟩) (some ⟨g20, 0, none⟩) (some ⟨g22, 0, none⟩) 16 16 8 8 t.length c_22 _) ?_
    clear F M a; intro a g23 u F M hb hg
    have los_g23 := Nat.le_trans hS.size hg
    refine hK _ _ (S_below hS hb) ?_
    replace hS := S_below hS hb
    clear hK K
    replace hL20 := hL20.below hb
    replace hL22 := hL22.below hb
    replace hc22 := hc22
    clear hb hg; try clear v
    refine any_ready [8] (by kernel_rfl) (by simp) ?_
    refine ready_do rfl (wn rfl) (fun K hK => ?_) AllReadyH.nil
    have hl := rows_three (M.cell (i := 0) rfl (j := 0) rfl) (M.cell (i := 0) rfl (j := 1) rfl) (M.cell (i := 0) rfl (j := 2) rfl) (Rb.mk' (M.at (i := 3) rfl) hs (by decide)) (Nat.le_refl _) hL20 (Nat.le_refl _) hL22 hc22
    refine ow_call rfl rfl F 43 #[.slice (some ⟨g23, 0, none⟩) 3 3] (ex_call 43 _ _ rfl rfl di_ent_43 _ (map1 (F.e rfl))) (of_to [s, (be8 (BitVec.ofNat 64 t.length)), t] (s ++ be8 (BitVec.ofNat 64 t.length) ++ t) (by simp) _ 3 3 (by decide) _ (hKt.below M.bel) hl) (fun e v hR => ?_)
    obtain ⟨he, hb⟩ := hR
    refine ⟨.agg ((bcs (sha (s ++ be8 (BitVec.ofNat 64 t.length) ++ t))).toArray), he, ?_⟩; clear he F a; intro a F
    refine hK _ _ (S_below hS hb) ?_
    replace hS := S_below hS hb
    clear hK K
    replace hL20 := hL20.below hb
    replace hL22 := hL22.below hb
    replace hc22 := hc22
    replace M := M.below hb; clear hb; try clear u
    clear hL20
    clear hL22
    clear hc22
    clear hl
    refine any_ready [10] (by kernel_rfl) (by simp) ?_
    refine ready_do rfl (wn rfl) (fun K hK => ?_) AllReadyH.nil
    refine ow_put F M rfl 24 _ _ rfl 1 _ ((bcs (List.replicate 32 0)).toArray) _ rfl (F.e rfl) ((bcs (sha (s ++ be8 (BitVec.ofNat 64 t.length) ++ t))).toArray) (F.e rfl) (sz24 (sha_len _)) (sz_eqb 32 rfl (sha_len _)) (all_oneCell_toArray (bcs_one _)) ?_
    clear F a; have Mo := M; clear M; intro a u F M hgr
    refine hK _ _ (S_grown hS hgr los_g8) ?_
    replace hS := S_grown hS hgr los_g8
    clear hK K
    clear Mo hgr; try clear v
    replace M : Mm w u [⟨g23, #[.slice (some ⟨g3, 0, none⟩) 16 16, .slice (some ⟨g20, 0, none⟩) 8 8, .slice (some ⟨g22, 0, none⟩) t.length c_22], 23⟩, ⟨g8, (bcs (sha (s ++ be8 (BitVec.ofNat 64 t.length) ++ t))).toArray, 24⟩, ⟨g6, ((bcs (List.replicate 32 0)).toArray), 24⟩, ⟨g3, ((bcs s).toArray), 40⟩] := M
    refine any_done (by kernel_rfl) ?_
    exact ⟨g20, g22, c_22, g23, g8, F.keep ⟨rfl, rfl, rfl, rfl, rfl, rfl, rfl, rfl, trivial⟩, (by refine M.pick' [1, 0, 2, 3] _ ?_ (by decide); exact ⟨rfl, rfl, rfl, rfl, trivial⟩)⟩
   refine ready_do rfl (wn rfl) (fun K hK => ?_) AllReadyH.nil
   refine ow_alloc F M rfl rfl 24 rfl (.agg (bcs (List.replicate 32 0)).toArray) z24 ((bcs (List.replicate 32 0)).toArray) rfl ?_
   clear F M a; intro a g8 u F M hb hg
   have los_g8 := Nat.le_trans hS.size hg
   refine hK _ _ (S_below hS hb) ?_
   replace hS := S_below hS hb
   clear hK K
   replace hL20 := hL20.below hb
   clear hb hg; try clear v
   refine any_ready [6] (by kernel_rfl) (by simp) ?_
   refine ready_do rfl (wn rfl) (fun K hK => ?_) AllReadyH.nil
   refine ow_bytes F rfl rfl _ rfl t (F.e rfl) ht ?_
   clear F a; intro a g22 c_22 v F hL22 hc22 hb hg
   refine hK _ _ (S_below hS hb) ?_
   replace hS := S_below hS hb
   clear hK K
   replace hL20 := hL20.below hb
   replace M := M.below hb; clear hb hg; try clear u
   refine any_ready [7] (by kernel_rfl) (by simp) ?_
   refine ready_do rfl (wn rfl) (fun K hK => ?_) AllReadyH.nil
   refine ow_bslice F M rfl rfl 22 3 _ rfl #[(0, .slice (some ⟨g3, 0, none⟩) 16 16), (1, .slice (some ⟨g20, 0, none⟩) 8 8), (2, .slice (some ⟨g22, 0, none⟩) t.length c_22)] (parts3 (F.e rfl) (F.e rfl) (F.e rfl)) #[.slice (some ⟨g3, 0, none⟩) 16 16, .slice (some ⟨g20, 0, none⟩) 8 8, .slice (some ⟨g22, 0, none⟩) t.length c_22] 23 (bs22_3 (some ⟨g3, 0, none⟩) (some ⟨g20, 0, none⟩) (some ⟨g22, 0, none⟩) 16 16 8 8 t.length c_22 _) ?_
   clear F M a; intro a g23 u F M hb hg
   have los_g23 := Nat.le_trans hS.size hg
   refine hK _ _ (S_below hS hb) ?_
   replace hS := S_below hS hb
   clear hK K
   replace hL20 := hL20.below hb
   replace hL22 := hL22.below hb
   replace hc22 := hc22
   clear hb hg; try clear v
   refine any_ready [8] (by kernel_rfl) (by simp) ?_
   refine ready_do rfl (wn rfl) (fun K hK => ?_) AllReadyH.nil
   have hl := rows_three (M.cell (i := 0) rfl (j := 0) rfl) (M.cell (i := 0) rfl (j := 1) rfl) (M.cell (i := 0) rfl (j := 2) rfl) (Rb.mk' (M.at (i := 3) rfl) hs (by decide)) (Nat.le_refl _) hL20 (Nat.le_refl _) hL22 hc22
   refine ow_call rfl rfl F 43 #[.slice (some ⟨g23, 0, none⟩) 3 3] (ex_call 43 _ _ rfl rfl di_ent_43 _ (map1 (F.e rfl))) (of_to [s, (be8 (BitVec.ofNat 64 t.length)), t] (s ++ be8 (BitVec.ofNat 64 t.length) ++ t) (by simp) _ 3 3 (by decide) _ (hKt.below M.bel) hl) (fun e v hR => ?_)
   obtain ⟨he, hb⟩ := hR
   refine ⟨.agg ((bcs (sha (s ++ be8 (BitVec.ofNat 64 t.length) ++ t))).toArray), he, ?_⟩; clear he F a; intro a F
   refine hK _ _ (S_below hS hb) ?_
   replace hS := S_below hS hb
   clear hK K
   replace hL20 := hL20.below hb
   replace hL22 := hL22.below hb
   replace hc22 := hc22
   replace M := M.below hb; clear hb; try clear u
   clear hL20
   clear hL22
   clear hc22
   clear hl
   refine any_ready [10] (by kernel_rfl) (by simp) ?_
   refine ready_do rfl (wn rfl) (fun K hK => ?_) AllReadyH.nil
   refine ow_put F M rfl 24 _ _ rfl 1 _ ((bcs (List.replicate 32 0)).toArray) _ rfl (F.e rfl) ((bcs (sha (s ++ be8 (BitVec.ofNat 64 t.length) ++ t))).toArray) (F.e rfl) (sz24 (sha_len _)) (sz_eqb 32 rfl (sha_len _)) (all_oneCell_toArray (bcs_one _)) ?_
   clear F a; have Mo := M; clear M; intro a u F M hgr
   refine hK _ _ (S_grown hS hgr los_g8) ?_
   replace hS := S_grown hS hgr los_g8
   clear hK K
   clear Mo hgr; try clear v
   replace M : Mm w u [⟨g23, #[.slice (some ⟨g3, 0, none⟩) 16 16, .slice (some ⟨g20, 0, none⟩) 8 8, .slice (some ⟨g22, 0, none⟩) t.length c_22], 23⟩, ⟨g8, (bcs (sha (s ++ be8 (BitVec.ofNat 64 t.length) ++ t))).toArray, 24⟩, ⟨g6, ((bcs (List.replicate 32 0)).toArray), 24⟩, ⟨g3, ((bcs s).toArray), 40⟩] := M
   refine any_done (by kernel_rfl) ?_
   exact ⟨g20, g22, c_22, g23, g8, F.keep ⟨rfl, rfl, rfl, rfl, rfl, rfl, rfl, rfl, trivial⟩, (by refine M.pick' [1, 0, 2, 3] _ ?_ (by decide); exact ⟨rfl, rfl, rfl, rfl, trivial⟩)⟩
  refine ready_do rfl (wn rfl) (fun K hK => ?_) ?_
  ·
   refine ow_bytes F rfl rfl _ rfl t (F.e rfl) ht ?_
   clear F a; intro a g22 c_22 v F hL22 hc22 hb hg
   refine hK _ _ (S_below hS hb) ?_
   replace hS := S_below hS hb
   clear hK K
   replace M := M.below hb; clear hb hg; try clear wD
   refine any_ready [4, 9] (by kernel_rfl) (by simp) ?_
   refine ready_do rfl (wn rfl) (fun K hK => ?_) ?_
   ·
    refine ow_call rfl rfl F 44 #[.int .u64 ((BitVec.ofNat 64 t.length).toNat : Int)] (ex_call 44 _ _ rfl rfl di_ent_44 _ (map1 (F.e rfl))) (eight_any (BitVec.ofNat 64 t.length) _) (fun e u hR => ?_)
    obtain ⟨g20, he, hg20, hL20, hb⟩ := hR
    clear hg20
    refine ⟨.slice (some ⟨g20, 0, none⟩) 8 8, he, ?_⟩; clear he F a; intro a F
    refine hK _ _ (S_below hS hb) ?_
    replace hS := S_below hS hb
    clear hK K
    replace hL22 := hL22.below hb
    replace hc22 := hc22
    replace M := M.below hb; clear hb; try clear v
    refine any_ready [7, 9] (by kernel_rfl) (by simp) ?_
    refine ready_do rfl (wn rfl) (fun K hK => ?_) ?_
    ·
     refine ow_bslice F M rfl rfl 22 3 _ rfl #[(0, .slice (some ⟨g3, 0, none⟩) 16 16), (1, .slice (some ⟨g20, 0, none⟩) 8 8), (2, .slice (some ⟨g22, 0, none⟩) t.length c_22)] (parts3 (F.e rfl) (F.e rfl) (F.e rfl)) #[.slice (some ⟨g3, 0, none⟩) 16 16, .slice (some ⟨g20, 0, none⟩) 8 8, .slice (some ⟨g22, 0, none⟩) t.length c_22] 23 (bs22_3 (some ⟨g3, 0, none⟩) (some ⟨g20, 0, none⟩) (some ⟨g22, 0, none⟩) 16 16 8 8 t.length c_22 _) ?_
     clear F M a; intro a g23 v F M hb hg
     have los_g23 := Nat.le_trans hS.size hg
     refine hK _ _ (S_below hS hb) ?_
     replace hS := S_below hS hb
     clear hK K
     replace hL22 := hL22.below hb
     replace hc22 := hc22
     replace hL20 := hL20.below hb
     clear hb hg; try clear u
     refine any_ready [8, 9] (by kernel_rfl) (by simp) ?_
     refine ready_do rfl (wn rfl) (fun K hK => ?_) ?_
     ·
      have hl := rows_three (M.cell (i := 0) rfl (j := 0) rfl) (M.cell (i := 0) rfl (j := 1) rfl) (M.cell (i := 0) rfl (j := 2) rfl) (Rb.mk' (M.at (i := 2) rfl) hs (by decide)) (Nat.le_refl _) hL20 (Nat.le_refl _) hL22 hc22
      refine ow_call rfl rfl F 43 #[.slice (some ⟨g23, 0, none⟩) 3 3] (ex_call 43 _ _ rfl rfl di_ent_43 _ (map1 (F.e rfl))) (of_to [s, (be8 (BitVec.ofNat 64 t.length)), t] (s ++ be8 (BitVec.ofNat 64 t.length) ++ t) (by simp) _ 3 3 (by decide) _ (hKt.below M.bel) hl) (fun e u hR => ?_)
      obtain ⟨he, hb⟩ := hR
      refine ⟨.agg ((bcs (sha (s ++ be8 (BitVec.ofNat 64 t.length) ++ t))).toArray), he, ?_⟩; clear he F a; intro a F
      refine hK _ _ (S_below hS hb) ?_
      replace hS := S_below hS hb
      clear hK K
      replace hL22 := hL22.below hb
      replace hc22 := hc22
      replace hL20 := hL20.below hb
      replace M := M.below hb; clear hb; try clear v
      clear hL20
      clear hL22
      clear hc22
      clear hl
      refine any_ready [9] (by kernel_rfl) (by simp) ?_
      refine ready_do rfl (wn rfl) (fun K hK => ?_) AllReadyH.nil
      refine ow_alloc F M rfl rfl 24 rfl (.agg (bcs (List.replicate 32 0)).toArray) z24 ((bcs (List.replicate 32 0)).toArray) rfl ?_
      clear F M a; intro a g8 v F M hb hg
      have los_g8 := Nat.le_trans hS.size hg
      refine hK _ _ (S_below hS hb) ?_
      replace hS := S_below hS hb
      clear hK K
      clear hb hg; try clear u
      refine any_ready [10] (by kernel_rfl) (by simp) ?_
      refine ready_do rfl (wn rfl) (fun K hK => ?_) AllReadyH.nil
      refine ow_put F M rfl 24 _ _ rfl 0 _ ((bcs (List.replicate 32 0)).toArray) _ rfl (F.e rfl) ((bcs (sha (s ++ be8 (BitVec.ofNat 64 t.length) ++ t))).toArray) (F.e rfl) (sz24 (sha_len _)) (sz_eqb 32 rfl (sha_len _)) (all_oneCell_toArray (bcs_one _)) ?_
      clear F a; have Mo := M; clear M; intro a u F M hgr
      refine hK _ _ (S_grown hS hgr los_g8) ?_
      replace hS := S_grown hS hgr los_g8
      clear hK K
      clear Mo hgr; try clear v
      replace M : Mm w u [⟨g8, (bcs (sha (s ++ be8 (BitVec.ofNat 64 t.length) ++ t))).toArray, 24⟩, ⟨g23, #[.slice (some ⟨g3, 0, none⟩) 16 16, .slice (some ⟨g20, 0, none⟩) 8 8, .slice (some ⟨g22, 0, none⟩) t.length c_22], 23⟩, ⟨g6, ((bcs (List.replicate 32 0)).toArray), 24⟩, ⟨g3, ((bcs s).toArray), 40⟩] := M
      refine any_done (by kernel_rfl) ?_
      exact ⟨g20, g22, c_22, g23, g8, F.keep ⟨rfl, rfl, rfl, rfl, rfl, rfl, rfl, rfl, trivial⟩, (by refine M.pick' [0, 1, 2, 3] _ ?_ (by decide); exact ⟨rfl, rfl, rfl, rfl, trivial⟩)⟩
     refine ready_do rfl (wn rfl) (fun K hK => ?_) AllReadyH.nil
     refine ow_alloc F M rfl rfl 24 rfl (.agg (bcs (List.replicate 32 0)).toArray) z24 ((bcs (List.replicate 32 0)).toArray) rfl ?_
     clear F M a; intro a g8 u F M hb hg
     have los_g8 := Nat.le_trans hS.size hg
     refine hK _ _ (S_below hS hb) ?_
     replace hS := S_below hS hb
     clear hK K
     replace hL22 := hL22.below hb
     replace hc22 := hc22
     replace hL20 := hL20.below hb
     clear hb hg; try clear v
     refine any_ready [8] (by kernel_rfl) (by simp) ?_
     refine ready_do rfl (wn rfl) (fun K hK => ?_) AllReadyH.nil
     have hl := rows_three (M.cell (i := 1) rfl (j := 0) rfl) (M.cell (i := 1) rfl (j := 1) rfl) (M.cell (i := 1) rfl (j := 2) rfl) (Rb.mk' (M.at (i := 3) rfl) hs (by decide)) (Nat.le_refl _) hL20 (Nat.le_refl _) hL22 hc22
     refine ow_call rfl rfl F 43 #[.slice (some ⟨g23, 0, none⟩) 3 3] (ex_call 43 _ _ rfl rfl di_ent_43 _ (map1 (F.e rfl))) (of_to [s, (be8 (BitVec.ofNat 64 t.length)), t] (s ++ be8 (BitVec.ofNat 64 t.length) ++ t) (by simp) _ 3 3 (by decide) _ (hKt.below M.bel) hl) (fun e v hR => ?_)
     obtain ⟨he, hb⟩ := hR
     refine ⟨.agg ((bcs (sha (s ++ be8 (BitVec.ofNat 64 t.length) ++ t))).toArray), he, ?_⟩; clear he F a; intro a F
     refine hK _ _ (S_below hS hb) ?_
     replace hS := S_below hS hb
     clear hK K
     replace hL22 := hL22.below hb
     replace hc22 := hc22
     replace hL20 := hL20.below hb
     replace M := M.below hb; clear hb; try clear u
     clear hL20
     clear hL22
     clear hc22
     clear hl
     refine any_ready [10] (by kernel_rfl) (by simp) ?_
     refine ready_do rfl (wn rfl) (fun K hK => ?_) AllReadyH.nil
     refine ow_put F M rfl 24 _ _ rfl 0 _ ((bcs (List.replicate 32 0)).toArray) _ rfl (F.e rfl) ((bcs (sha (s ++ be8 (BitVec.ofNat 64 t.length) ++ t))).toArray) (F.e rfl) (sz24 (sha_len _)) (sz_eqb 32 rfl (sha_len _)) (all_oneCell_toArray (bcs_one _)) ?_
     clear F a; have Mo := M; clear M; intro a u F M hgr
     refine hK _ _ (S_grown hS hgr los_g8) ?_
     replace hS := S_grown hS hgr los_g8
     clear hK K
     clear Mo hgr; try clear v
     replace M : Mm w u [⟨g8, (bcs (sha (s ++ be8 (BitVec.ofNat 64 t.length) ++ t))).toArray, 24⟩, ⟨g23, #[.slice (some ⟨g3, 0, none⟩) 16 16, .slice (some ⟨g20, 0, none⟩) 8 8, .slice (some ⟨g22, 0, none⟩) t.length c_22], 23⟩, ⟨g6, ((bcs (List.replicate 32 0)).toArray), 24⟩, ⟨g3, ((bcs s).toArray), 40⟩] := M
     refine any_done (by kernel_rfl) ?_
     exact ⟨g20, g22, c_22, g23, g8, F.keep ⟨rfl, rfl, rfl, rfl, rfl, rfl, rfl, rfl, trivial⟩, (by refine M.pick' [0, 1, 2, 3] _ ?_ (by decide); exact ⟨rfl, rfl, rfl, rfl, trivial⟩)⟩
    refine ready_do rfl (wn rfl) (fun K hK => ?_) AllReadyH.nil
    refine ow_alloc F M rfl rfl 24 rfl (.agg (bcs (List.replicate 32 0)).toArray) z24 ((bcs (List.replicate 32 0)).toArray) rfl ?_
    clear F M a; intro a g8 v F M hb hg
    have los_g8 := Nat.le_trans hS.size hg
    refine hK _ _ (S_below hS hb) ?_
    replace hS := S_below hS hb
    clear hK K
    replace hL22 := hL22.below hb
    replace hc22 := hc22
    replace hL20 := hL20.below hb
    clear hb hg; try clear u
    refine any_ready [7] (by kernel_rfl) (by simp) ?_
    refine ready_do rfl (wn rfl) (fun K hK => ?_) AllReadyH.nil
    refine ow_bslice F M rfl rfl 22 3 _ rfl #[(0, .slice (some ⟨g3, 0, none⟩) 16 16), (1, .slice (some ⟨g20, 0, none⟩) 8 8), (2, .slice (some ⟨g22, 0, none⟩) t.length c_22)] (parts3 (F.e rfl) (F.e rfl) (F.e rfl)) #[.slice (some ⟨g3, 0, none⟩) 16 16, .slice (some ⟨g20, 0, none⟩) 8 8, .slice (some ⟨g22, 0, none⟩) t.length c_22] 23 (bs22_3 (some ⟨g3, 0, none⟩) (some ⟨g20, 0, none⟩) (some ⟨g22, 0, none⟩) 16 16 8 8 t.length c_22 _) ?_
    clear F M a; intro a g23 u F M hb hg
    have los_g23 := Nat.le_trans hS.size hg
    refine hK _ _ (S_below hS hb) ?_
    replace hS := S_below hS hb
    clear hK K
    replace hL22 := hL22.below hb
    replace hc22 := hc22
    replace hL20 := hL20.below hb
    clear hb hg; try clear v
    refine any_ready [8] (by kernel_rfl) (by simp) ?_
    refine ready_do rfl (wn rfl) (fun K hK => ?_) AllReadyH.nil
    have hl := rows_three (M.cell (i := 0) rfl (j := 0) rfl) (M.cell (i := 0) rfl (j := 1) rfl) (M.cell (i := 0) rfl (j := 2) rfl) (Rb.mk' (M.at (i := 3) rfl) hs (by decide)) (Nat.le_refl _) hL20 (Nat.le_refl _) hL22 hc22
    refine ow_call rfl rfl F 43 #[.slice (some ⟨g23, 0, none⟩) 3 3] (ex_call 43 _ _ rfl rfl di_ent_43 _ (map1 (F.e rfl))) (of_to [s, (be8 (BitVec.ofNat 64 t.length)), t] (s ++ be8 (BitVec.ofNat 64 t.length) ++ t) (by simp) _ 3 3 (by decide) _ (hKt.below M.bel) hl) (fun e v hR => ?_)
    obtain ⟨he, hb⟩ := hR
    refine ⟨.agg ((bcs (sha (s ++ be8 (BitVec.ofNat 64 t.length) ++ t))).toArray), he, ?_⟩; clear he F a; intro a F
    refine hK _ _ (S_below hS hb) ?_
    replace hS := S_below hS hb
    clear hK K
    replace hL22 := hL22.below hb
    replace hc22 := hc22
    replace hL20 := hL20.below hb
    replace M := M.below hb; clear hb; try clear u
    clear hL20
    clear hL22
    clear hc22
    clear hl
    refine any_ready [10] (by kernel_rfl) (by simp) ?_
    refine ready_do rfl (wn rfl) (fun K hK => ?_) AllReadyH.nil
    refine ow_put F M rfl 24 _ _ rfl 1 _ ((bcs (List.replicate 32 0)).toArray) _ rfl (F.e rfl) ((bcs (sha (s ++ be8 (BitVec.ofNat 64 t.length) ++ t))).toArray) (F.e rfl) (sz24 (sha_len _)) (sz_eqb 32 rfl (sha_len _)) (all_oneCell_toArray (bcs_one _)) ?_
    clear F a; have Mo := M; clear M; intro a u F M hgr
    refine hK _ _ (S_grown hS hgr los_g8) ?_
    replace hS := S_grown hS hgr los_g8
    clear hK K
    clear Mo hgr; try clear v
    replace M : Mm w u [⟨g23, #[.slice (some ⟨g3, 0, none⟩) 16 16, .slice (some ⟨g20, 0, none⟩) 8 8, .slice (some ⟨g22, 0, none⟩) t.length c_22], 23⟩, ⟨g8, (bcs (sha (s ++ be8 (BitVec.ofNat 64 t.length) ++ t))).toArray, 24⟩, ⟨g6, ((bcs (List.replicate 32 0)).toArray), 24⟩, ⟨g3, ((bcs s).toArray), 40⟩] := M
    refine any_done (by kernel_rfl) ?_
    exact ⟨g20, g22, c_22, g23, g8, F.keep ⟨rfl, rfl, rfl, rfl, rfl, rfl, rfl, rfl, trivial⟩, (by refine M.pick' [1, 0, 2, 3] _ ?_ (by decide); exact ⟨rfl, rfl, rfl, rfl, trivial⟩)⟩
   refine ready_do rfl (wn rfl) (fun K hK => ?_) AllReadyH.nil
   refine ow_alloc F M rfl rfl 24 rfl (.agg (bcs (List.replicate 32 0)).toArray) z24 ((bcs (List.replicate 32 0)).toArray) rfl ?_
   clear F M a; intro a g8 u F M hb hg
   have los_g8 := Nat.le_trans hS.size hg
   refine hK _ _ (S_below hS hb) ?_
   replace hS := S_below hS hb
   clear hK K
   replace hL22 := hL22.below hb
   replace hc22 := hc22
   clear hb hg; try clear v
   refine any_ready [4] (by kernel_rfl) (by simp) ?_
   refine ready_do rfl (wn rfl) (fun K hK => ?_) AllReadyH.nil
   refine ow_call rfl rfl F 44 #[.int .u64 ((BitVec.ofNat 64 t.length).toNat : Int)] (ex_call 44 _ _ rfl rfl di_ent_44 _ (map1 (F.e rfl))) (eight_any (BitVec.ofNat 64 t.length) _) (fun e v hR => ?_)
   obtain ⟨g20, he, hg20, hL20, hb⟩ := hR
   clear hg20
   refine ⟨.slice (some ⟨g20, 0, none⟩) 8 8, he, ?_⟩; clear he F a; intro a F
   refine hK _ _ (S_below hS hb) ?_
   replace hS := S_below hS hb
   clear hK K
   replace hL22 := hL22.below hb
   replace hc22 := hc22
   replace M := M.below hb; clear hb; try clear u
   refine any_ready [7] (by kernel_rfl) (by simp) ?_
   refine ready_do rfl (wn rfl) (fun K hK => ?_) AllReadyH.nil
   refine ow_bslice F M rfl rfl 22 3 _ rfl #[(0, .slice (some ⟨g3, 0, none⟩) 16 16), (1, .slice (some ⟨g20, 0, none⟩) 8 8), (2, .slice (some ⟨g22, 0, none⟩) t.length c_22)] (parts3 (F.e rfl) (F.e rfl) (F.e rfl)) #[.slice (some ⟨g3, 0, none⟩) 16 16, .slice (some ⟨g20, 0, none⟩) 8 8, .slice (some ⟨g22, 0, none⟩) t.length c_22] 23 (bs22_3 (some ⟨g3, 0, none⟩) (some ⟨g20, 0, none⟩) (some ⟨g22, 0, none⟩) 16 16 8 8 t.length c_22 _) ?_
   clear F M a; intro a g23 u F M hb hg
   have los_g23 := Nat.le_trans hS.size hg
   refine hK _ _ (S_below hS hb) ?_
   replace hS := S_below hS hb
   clear hK K
   replace hL22 := hL22.below hb
   replace hc22 := hc22
   replace hL20 := hL20.below hb
   clear hb hg; try clear v
   refine any_ready [8] (by kernel_rfl) (by simp) ?_
   refine ready_do rfl (wn rfl) (fun K hK => ?_) AllReadyH.nil
   have hl := rows_three (M.cell (i := 0) rfl (j := 0) rfl) (M.cell (i := 0) rfl (j := 1) rfl) (M.cell (i := 0) rfl (j := 2) rfl) (Rb.mk' (M.at (i := 3) rfl) hs (by decide)) (Nat.le_refl _) hL20 (Nat.le_refl _) hL22 hc22
   refine ow_call rfl rfl F 43 #[.slice (some ⟨g23, 0, none⟩) 3 3] (ex_call 43 _ _ rfl rfl di_ent_43 _ (map1 (F.e rfl))) (of_to [s, (be8 (BitVec.ofNat 64 t.length)), t] (s ++ be8 (BitVec.ofNat 64 t.length) ++ t) (by simp) _ 3 3 (by decide) _ (hKt.below M.bel) hl) (fun e v hR => ?_)
   obtain ⟨he, hb⟩ := hR
   refine ⟨.agg ((bcs (sha (s ++ be8 (BitVec.ofNat 64 t.length) ++ t))).toArray), he, ?_⟩; clear he F a; intro a F
   refine hK _ _ (S_below hS hb) ?_
   replace hS := S_below hS hb
   clear hK K
   replace hL22 := hL22.below hb
   replace hc22 := hc22
   replace hL20 := hL20.below hb
   replace M := M.below hb; clear hb; try clear u
   clear hL20
   clear hL22
   clear hc22
   clear hl
   refine any_ready [10] (by kernel_rfl) (by simp) ?_
   refine ready_do rfl (wn rfl) (fun K hK => ?_) AllReadyH.nil
   refine ow_put F M rfl 24 _ _ rfl 1 _ ((bcs (List.replicate 32 0)).toArray) _ rfl (F.e rfl) ((bcs (sha (s ++ be8 (BitVec.ofNat 64 t.length) ++ t))).toArray) (F.e rfl) (sz24 (sha_len _)) (sz_eqb 32 rfl (sha_len _)) (all_oneCell_toArray (bcs_one _)) ?_
   clear F a; have Mo := M; clear M; intro a u F M hgr
   refine hK _ _ (S_grown hS hgr los_g8) ?_
   replace hS := S_grown hS hgr los_g8
   clear hK K
   clear Mo hgr; try clear v
   replace M : Mm w u [⟨g23, #[.slice (some ⟨g3, 0, none⟩) 16 16, .slice (some ⟨g20, 0, none⟩) 8 8, .slice (some ⟨g22, 0, none⟩) t.length c_22], 23⟩, ⟨g8, (bcs (sha (s ++ be8 (BitVec.ofNat 64 t.length) ++ t))).toArray, 24⟩, ⟨g6, ((bcs (List.replicate 32 0)).toArray), 24⟩, ⟨g3, ((bcs s).toArray), 40⟩] := M
   refine any_done (by kernel_rfl) ?_
   exact ⟨g20, g22, c_22, g23, g8, F.keep ⟨rfl, rfl, rfl, rfl, rfl, rfl, rfl, rfl, trivial⟩, (by refine M.pick' [1, 0, 2, 3] _ ?_ (by decide); exact ⟨rfl, rfl, rfl, rfl, trivial⟩)⟩
  refine ready_do rfl (wn rfl) (fun K hK => ?_) AllReadyH.nil
  refine ow_alloc F M rfl rfl 24 rfl (.agg (bcs (List.replicate 32 0)).toArray) z24 ((bcs (List.replicate 32 0)).toArray) rfl ?_
  clear F M a; intro a g8 v F M hb hg
  have los_g8 := Nat.le_trans hS.size hg
  refine hK _ _ (S_below hS hb) ?_
  replace hS := S_below hS hb
  clear hK K
  clear hb hg; try clear wD
  refine any_ready [4, 6] (by kernel_rfl) (by simp) ?_
  refine ready_do rfl (wn rfl) (fun K hK => ?_) ?_
  ·
   refine ow_call rfl rfl F 44 #[.int .u64 ((BitVec.ofNat 64 t.length).toNat : Int)] (ex_call 44 _ _ rfl rfl di_ent_44 _ (map1 (F.e rfl))) (eight_any (BitVec.ofNat 64 t.length) _) (fun e u hR => ?_)
   obtain ⟨g20, he, hg20, hL20, hb⟩ := hR
   clear hg20
   refine ⟨.slice (some ⟨g20, 0, none⟩) 8 8, he, ?_⟩; clear he F a; intro a F
   refine hK _ _ (S_below hS hb) ?_
   replace hS := S_below hS hb
   clear hK K
   replace M := M.below hb; clear hb; try clear v
   refine any_ready [6] (by kernel_rfl) (by simp) ?_
   refine ready_do rfl (wn rfl) (fun K hK => ?_) AllReadyH.nil
   refine ow_bytes F rfl rfl _ rfl t (F.e rfl) ht ?_
   clear F a; intro a g22 c_22 v F hL22 hc22 hb hg
   refine hK _ _ (S_below hS hb) ?_
   replace hS := S_below hS hb
   clear hK K
   replace hL20 := hL20.below hb
   replace M := M.below hb; clear hb hg; try clear u
   refine any_ready [7] (by kernel_rfl) (by simp) ?_
   refine ready_do rfl (wn rfl) (fun K hK => ?_) AllReadyH.nil
   refine ow_bslice F M rfl rfl 22 3 _ rfl #[(0, .slice (some ⟨g3, 0, none⟩) 16 16), (1, .slice (some ⟨g20, 0, none⟩) 8 8), (2, .slice (some ⟨g22, 0, none⟩) t.length c_22)] (parts3 (F.e rfl) (F.e rfl) (F.e rfl)) #[.slice (some ⟨g3, 0, none⟩) 16 16, .slice (some ⟨g20, 0, none⟩) 8 8, .slice (some ⟨g22, 0, none⟩) t.length c_22] 23 (bs22_3 (some ⟨g3, 0, none⟩) (some ⟨g20, 0, none⟩) (some ⟨g22, 0, none⟩) 16 16 8 8 t.length c_22 _) ?_
   clear F M a; intro a g23 u F M hb hg
   have los_g23 := Nat.le_trans hS.size hg
   refine hK _ _ (S_below hS hb) ?_
   replace hS := S_below hS hb
   clear hK K
   replace hL20 := hL20.below hb
   replace hL22 := hL22.below hb
   replace hc22 := hc22
   clear hb hg; try clear v
   refine any_ready [8] (by kernel_rfl) (by simp) ?_
   refine ready_do rfl (wn rfl) (fun K hK => ?_) AllReadyH.nil
   have hl := rows_three (M.cell (i := 0) rfl (j := 0) rfl) (M.cell (i := 0) rfl (j := 1) rfl) (M.cell (i := 0) rfl (j := 2) rfl) (Rb.mk' (M.at (i := 3) rfl) hs (by decide)) (Nat.le_refl _) hL20 (Nat.le_refl _) hL22 hc22
   refine ow_call rfl rfl F 43 #[.slice (some ⟨g23, 0, none⟩) 3 3] (ex_call 43 _ _ rfl rfl di_ent_43 _ (map1 (F.e rfl))) (of_to [s, (be8 (BitVec.ofNat 64 t.length)), t] (s ++ be8 (BitVec.ofNat 64 t.length) ++ t) (by simp) _ 3 3 (by decide) _ (hKt.below M.bel) hl) (fun e v hR => ?_)
   obtain ⟨he, hb⟩ := hR
   refine ⟨.agg ((bcs (sha (s ++ be8 (BitVec.ofNat 64 t.length) ++ t))).toArray), he, ?_⟩; clear he F a; intro a F
   refine hK _ _ (S_below hS hb) ?_
   replace hS := S_below hS hb
   clear hK K
   replace hL20 := hL20.below hb
   replace hL22 := hL22.below hb
   replace hc22 := hc22
   replace M := M.below hb; clear hb; try clear u
   clear hL20
   clear hL22
   clear hc22
   clear hl
   refine any_ready [10] (by kernel_rfl) (by simp) ?_
   refine ready_do rfl (wn rfl) (fun K hK => ?_) AllReadyH.nil
   refine ow_put F M rfl 24 _ _ rfl 1 _ ((bcs (List.replicate 32 0)).toArray) _ rfl (F.e rfl) ((bcs (sha (s ++ be8 (BitVec.ofNat 64 t.length) ++ t))).toArray) (F.e rfl) (sz24 (sha_len _)) (sz_eqb 32 rfl (sha_len _)) (all_oneCell_toArray (bcs_one _)) ?_
   clear F a; have Mo := M; clear M; intro a u F M hgr
   refine hK _ _ (S_grown hS hgr los_g8) ?_
   replace hS := S_grown hS hgr los_g8
   clear hK K
   clear Mo hgr; try clear v
   replace M : Mm w u [⟨g23, #[.slice (some ⟨g3, 0, none⟩) 16 16, .slice (some ⟨g20, 0, none⟩) 8 8, .slice (some ⟨g22, 0, none⟩) t.length c_22], 23⟩, ⟨g8, (bcs (sha (s ++ be8 (BitVec.ofNat 64 t.length) ++ t))).toArray, 24⟩, ⟨g6, ((bcs (List.replicate 32 0)).toArray), 24⟩, ⟨g3, ((bcs s).toArray), 40⟩] := M
   refine any_done (by kernel_rfl) ?_
   exact ⟨g20, g22, c_22, g23, g8, F.keep ⟨rfl, rfl, rfl, rfl, rfl, rfl, rfl, rfl, trivial⟩, (by refine M.pick' [1, 0, 2, 3] _ ?_ (by decide); exact ⟨rfl, rfl, rfl, rfl, trivial⟩)⟩
  refine ready_do rfl (wn rfl) (fun K hK => ?_) AllReadyH.nil
  refine ow_bytes F rfl rfl _ rfl t (F.e rfl) ht ?_
  clear F a; intro a g22 c_22 u F hL22 hc22 hb hg
  refine hK _ _ (S_below hS hb) ?_
  replace hS := S_below hS hb
  clear hK K
  replace M := M.below hb; clear hb hg; try clear v
  refine any_ready [4] (by kernel_rfl) (by simp) ?_
  refine ready_do rfl (wn rfl) (fun K hK => ?_) AllReadyH.nil
  refine ow_call rfl rfl F 44 #[.int .u64 ((BitVec.ofNat 64 t.length).toNat : Int)] (ex_call 44 _ _ rfl rfl di_ent_44 _ (map1 (F.e rfl))) (eight_any (BitVec.ofNat 64 t.length) _) (fun e v hR => ?_)
  obtain ⟨g20, he, hg20, hL20, hb⟩ := hR
  clear hg20
  refine ⟨.slice (some ⟨g20, 0, none⟩) 8 8, he, ?_⟩; clear he F a; intro a F
  refine hK _ _ (S_below hS hb) ?_
  replace hS := S_below hS hb
  clear hK K
  replace hL22 := hL22.below hb
  replace hc22 := hc22
  replace M := M.below hb; clear hb; try clear u
  refine any_ready [7] (by kernel_rfl) (by simp) ?_
  refine ready_do rfl (wn rfl) (fun K hK => ?_) AllReadyH.nil
  refine ow_bslice F M rfl rfl 22 3 _ rfl #[(0, .slice (some ⟨g3, 0, none⟩) 16 16), (1, .slice (some ⟨g20, 0, none⟩) 8 8), (2, .slice (some ⟨g22, 0, none⟩) t.length c_22)] (parts3 (F.e rfl) (F.e rfl) (F.e rfl)) #[.slice (some ⟨g3, 0, none⟩) 16 16, .slice (some ⟨g20, 0, none⟩) 8 8, .slice (some ⟨g22, 0, none⟩) t.length c_22] 23 (bs22_3 (some ⟨g3, 0, none⟩) (some ⟨g20, 0, none⟩) (some ⟨g22, 0, none⟩) 16 16 8 8 t.length c_22 _) ?_
  clear F M a; intro a g23 u F M hb hg
  have los_g23 := Nat.le_trans hS.size hg
  refine hK _ _ (S_below hS hb) ?_
  replace hS := S_below hS hb
  clear hK K
  replace hL22 := hL22.below hb
  replace hc22 := hc22
  replace hL20 := hL20.below hb
  clear hb hg; try clear v
  refine any_ready [8] (by kernel_rfl) (by simp) ?_
  refine ready_do rfl (wn rfl) (fun K hK => ?_) AllReadyH.nil
  have hl := rows_three (M.cell (i := 0) rfl (j := 0) rfl) (M.cell (i := 0) rfl (j := 1) rfl) (M.cell (i := 0) rfl (j := 2) rfl) (Rb.mk' (M.at (i := 3) rfl) hs (by decide)) (Nat.le_refl _) hL20 (Nat.le_refl _) hL22 hc22
  refine ow_call rfl rfl F 43 #[.slice (some ⟨g23, 0, none⟩) 3 3] (ex_call 43 _ _ rfl rfl di_ent_43 _ (map1 (F.e rfl))) (of_to [s, (be8 (BitVec.ofNat 64 t.length)), t] (s ++ be8 (BitVec.ofNat 64 t.length) ++ t) (by simp) _ 3 3 (by decide) _ (hKt.below M.bel) hl) (fun e v hR => ?_)
  obtain ⟨he, hb⟩ := hR
  refine ⟨.agg ((bcs (sha (s ++ be8 (BitVec.ofNat 64 t.length) ++ t))).toArray), he, ?_⟩; clear he F a; intro a F
  refine hK _ _ (S_below hS hb) ?_
  replace hS := S_below hS hb
  clear hK K
  replace hL22 := hL22.below hb
  replace hc22 := hc22
  replace hL20 := hL20.below hb
  replace M := M.below hb; clear hb; try clear u
  clear hL20
  clear hL22
  clear hc22
  clear hl
  refine any_ready [10] (by kernel_rfl) (by simp) ?_
  refine ready_do rfl (wn rfl) (fun K hK => ?_) AllReadyH.nil
  refine ow_put F M rfl 24 _ _ rfl 1 _ ((bcs (List.replicate 32 0)).toArray) _ rfl (F.e rfl) ((bcs (sha (s ++ be8 (BitVec.ofNat 64 t.length) ++ t))).toArray) (F.e rfl) (sz24 (sha_len _)) (sz_eqb 32 rfl (sha_len _)) (all_oneCell_toArray (bcs_one _)) ?_
  clear F a; have Mo := M; clear M; intro a u F M hgr
  refine hK _ _ (S_grown hS hgr los_g8) ?_
  replace hS := S_grown hS hgr los_g8
  clear hK K
  clear Mo hgr; try clear v
  replace M : Mm w u [⟨g23, #[.slice (some ⟨g3, 0, none⟩) 16 16, .slice (some ⟨g20, 0, none⟩) 8 8, .slice (some ⟨g22, 0, none⟩) t.length c_22], 23⟩, ⟨g8, (bcs (sha (s ++ be8 (BitVec.ofNat 64 t.length) ++ t))).toArray, 24⟩, ⟨g6, ((bcs (List.replicate 32 0)).toArray), 24⟩, ⟨g3, ((bcs s).toArray), 40⟩] := M
  refine any_done (by kernel_rfl) ?_
  exact ⟨g20, g22, c_22, g23, g8, F.keep ⟨rfl, rfl, rfl, rfl, rfl, rfl, rfl, rfl, trivial⟩, (by refine M.pick' [1, 0, 2, 3] _ ?_ (by decide); exact ⟨rfl, rfl, rfl, rfl, trivial⟩)⟩
 clear F M a
 intro a v hR; obtain ⟨g20, g22, c_22, g23, g8, F, M⟩ := hR; try clear u
 refine then_n ?_
 refine wp_seq ?_
 refine wp_seq ?_
 refine wp_region_lit ?_
 refine list_val F (wn rfl) rfl rfl (.int .i64 r) (ex_move _ rfl _ (F.e rfl)) ?_; clear F a; intro a F
 refine list_val F (wn rfl) rfl rfl (.int .i64 ((q : Nat) : Int)) (ex_bin .sub _ _ _ _ rfl .i64 _ _ (F.e rfl) rfl _ (b_sub ((w_i64 (by omega) (by omega)).trans hq1.symm))) ?_; clear F a; intro a F
 refine list_val F (wn rfl) rfl rfl (.int .i64 0) (ex_move _ rfl _ rfl) ?_; clear F a; intro a F
 refine wpList_nil ?_
 replace F : Fr 35 a [(0, .agg ((bcs s).toArray)), (1, .string (strB t)), (2, .int .i64 r), (3, .pointer (some ⟨g3, 0, none⟩)), (6, .pointer (some ⟨g6, 0, none⟩)), (7, .int .i64 0), (8, .pointer (some ⟨g8, 0, none⟩)), (14, .bool false), (26, .int .i64 ((q : Nat) : Int)), (27, .int .i64 0)] := F.keep ⟨rfl, rfl, rfl, rfl, rfl, rfl, rfl, rfl, rfl, rfl, trivial⟩
 refine then_n ?_
 refine wp_block ?_
 refine wp_loopN (fun mq ar wr => ∃ (i : Nat), ∃ (d8 : List By), Fr 35 ar [(0, .agg ((bcs s).toArray)), (1, .string (strB t)), (2, .int .i64 r), (3, .pointer (some ⟨g3, 0, none⟩)), (6, .pointer (some ⟨g6, 0, none⟩)), (7, .int .i64 0), (8, .pointer (some ⟨g8, 0, none⟩)), (14, .bool false), (26, .int .i64 ((q : Nat) : Int)), (27, .int .i64 ((i : Nat) : Int))] ∧ Mm w wr [⟨g8, (bcs d8).toArray, 24⟩, ⟨g6, ((bcs (List.replicate 32 0)).toArray), 24⟩, ⟨g3, ((bcs s).toArray), 40⟩] ∧ i ≤ q ∧ d8 = passR s (sha (s ++ be8 (BitVec.ofNat 64 t.length) ++ t)) i ∧ d8.length = 32 ∧ mq + i = q) q ?_ ?_
 ·
  exact ⟨0, (sha (s ++ be8 (BitVec.ofNat 64 t.length) ++ t)), F.keep ⟨rfl, rfl, rfl, rfl, rfl, rfl, rfl, rfl, rfl, rfl, trivial⟩, (by refine M.pick' [0, 2, 3] _ ?_ (by decide); exact ⟨rfl, rfl, rfl, trivial⟩), (Nat.zero_le _), rfl, (sha_len _), (by omega)⟩
 clear F M a
 rintro mq a u ⟨i, d8, F, M, hi, hdp, hd8, hq⟩; try clear v
 by_cases hin : i < q
 ·
  refine wp_seq ?_
  refine wp_region_lit ?_
  refine list_val F (wn rfl) rfl rfl (.bool true) (ex_bin .lss _ _ _ _ rfl .i64 _ _ (F.e rfl) (F.e rfl) _ (b_lss (decide_eq_true (by omega)))) ?_; clear F a; intro a F
  refine wpList_nil ?_
  replace F : Fr 35 a [(0, .agg ((bcs s).toArray)), (1, .string (strB t)), (2, .int .i64 r), (3, .pointer (some ⟨g3, 0, none⟩)), (6, .pointer (some ⟨g6, 0, none⟩)), (7, .int .i64 0), (8, .pointer (some ⟨g8, 0, none⟩)), (14, .bool false), (26, .int .i64 ((q : Nat) : Int)), (27, .int .i64 ((i : Nat) : Int)), (28, .bool true)] := F.keep ⟨rfl, rfl, rfl, rfl, rfl, rfl, rfl, rfl, rfl, rfl, rfl, trivial⟩
  refine then_n ?_
  refine wp_seq ?_
  refine wp_cond_true (F.e rfl) ?_
  refine wp_skip ?_
  refine then_n ?_
  refine wp_seq ?_
  refine wp_block ?_
  refine region_tail 2 di_follows_mixedOrders (by kernel_rfl) M ?_; clear M; intro v M hb
  clear hb; try clear u
  refine still_val F (wn rfl) rfl rfl (.slice (some ⟨g8, 0, none⟩) 32 32) (ex_all 24 _ rfl 32 di_sa_24_32 ⟨g8, 0, none⟩ (F.e rfl)) ?_; clear F a; intro a F
  refine still_val F (wn rfl) rfl rfl (.slice (some ⟨g3, 0, none⟩) 16 16) (ex_all 40 _ rfl 16 di_sa_40_16 ⟨g3, 0, none⟩ (F.e rfl)) ?_; clear F a; intro a F
  refine still_end ?_
  refine list_do (wn rfl) (fun K hK => ?_)
  refine ow_bslice F M rfl rfl 22 2 _ rfl #[(0, .slice (some ⟨g8, 0, none⟩) 32 32), (1, .slice (some ⟨g3, 0, none⟩) 16 16)] (parts2 (F.e rfl) (F.e rfl)) #[.slice (some ⟨g8, 0, none⟩) 32 32, .slice (some ⟨g3, 0, none⟩) 16 16] 23 (bs22_2 (some ⟨g8, 0, none⟩) (some ⟨g3, 0, none⟩) 32 32 16 16 _) ?_
  clear F M a; intro a g31 u F M hb hg
  refine hK _ _ ?_
  clear hK K
  clear hb hg; try clear v
  refine list_do (wn rfl) (fun K hK => ?_)
  have hl := rows_two (M.cell (i := 0) rfl (j := 0) rfl) (M.cell (i := 0) rfl (j := 1) rfl) (Rb.mk' (M.at (i := 1) rfl) hd8 (by decide)) (Nat.le_refl _) (Rb.mk' (M.at (i := 3) rfl) hs (by decide)) (Nat.le_refl _)
  refine ow_call rfl rfl F 43 #[.slice (some ⟨g31, 0, none⟩) 2 2] (ex_call 43 _ _ rfl rfl di_ent_43 _ (map1 (F.e rfl))) (of_to [d8, s] (d8 ++ s) (by simp) _ 2 2 (by decide) _ (hKt.below M.bel) hl) (fun e v hR => ?_)
  obtain ⟨he, hb⟩ := hR
  refine ⟨.agg ((bcs (sha (d8 ++ s))).toArray), he, ?_⟩; clear he F a; intro a F
  refine hK _ _ ?_
  clear hK K
  replace M := M.below hb; clear hb; try clear u
  clear hl
  refine list_do (wn rfl) (fun K hK => ?_)
  refine ow_put F M rfl 24 _ _ rfl 1 _ ((bcs d8).toArray) _ rfl (F.e rfl) ((bcs (sha (d8 ++ s))).toArray) (F.e rfl) (sz24 (sha_len _)) (sz_eqb 32 hd8 (sha_len _)) (all_oneCell_toArray (bcs_one _)) ?_
  clear F a; have Mo := M; clear M; intro a u F M hgr
  refine hK _ _ ?_
  clear hK K
  clear Mo hgr; try clear v
  replace M : Mm w u [⟨g31, #[.slice (some ⟨g8, 0, none⟩) 32 32, .slice (some ⟨g3, 0, none⟩) 16 16], 23⟩, ⟨g8, (bcs (sha (d8 ++ s))).toArray, 24⟩, ⟨g6, ((bcs (List.replicate 32 0)).toArray), 24⟩, ⟨g3, ((bcs s).toArray), 40⟩] := M
  refine wpList_nil ?_
  replace F : Fr 35 a [(0, .agg ((bcs s).toArray)), (1, .string (strB t)), (2, .int .i64 r), (3, .pointer (some ⟨g3, 0, none⟩)), (6, .pointer (some ⟨g6, 0, none⟩)), (7, .int .i64 0), (8, .pointer (some ⟨g8, 0, none⟩)), (14, .bool false), (26, .int .i64 ((q : Nat) : Int)), (27, .int .i64 ((i : Nat) : Int)), (28, .bool true)] := F.keep ⟨rfl, rfl, rfl, rfl, rfl, rfl, rfl, rfl, rfl, rfl, rfl, trivial⟩
  refine in_n ?_
  refine then_n ?_
  refine wp_region_lit ?_
  refine list_val F (wn rfl) rfl rfl (.int .i64 ((i + 1 : Nat) : Int)) (ex_bin .add _ _ _ _ rfl .i64 _ _ (F.e rfl) rfl _ (b_add ((w_i64 (by omega) (by omega)).trans (by omega)))) ?_; clear F a; intro a F
  refine list_val F (wn rfl) rfl rfl (.int .i64 ((i + 1 : Nat) : Int)) (ex_move _ rfl _ (F.e rfl)) ?_; clear F a; intro a F
  refine wpList_nil ?_
  replace F : Fr 35 a [(0, .agg ((bcs s).toArray)), (1, .string (strB t)), (2, .int .i64 r), (3, .pointer (some ⟨g3, 0, none⟩)), (6, .pointer (some ⟨g6, 0, none⟩)), (7, .int .i64 0), (8, .pointer (some ⟨g8, 0, none⟩)), (14, .bool false), (26, .int .i64 ((q : Nat) : Int)), (27, .int .i64 ((i + 1 : Nat) : Int)), (28, .bool true)] := F.keep ⟨rfl, rfl, rfl, rfl, rfl, rfl, rfl, rfl, rfl, rfl, rfl, trivial⟩
  refine then_n ?_
  exact ⟨q - (i + 1), by omega, (i + 1), (sha (d8 ++ s)), F.keep ⟨rfl, rfl, rfl, rfl, rfl, rfl, rfl, rfl, rfl, rfl, trivial⟩, (by refine M.pick' [1, 2, 3] _ ?_ (by decide); exact ⟨rfl, rfl, rfl, trivial⟩), (by omega), (by rw [hdp]; rfl), (sha_len _), (by omega)⟩
 obtain rfl : i = q := by omega
 have hfin : passF s t r = (d8, 0) := by rw [passF_yes h1 h2 hq1, hdp]; rfl
 refine wp_seq ?_
 refine wp_region_lit ?_
 refine list_val F (wn rfl) rfl rfl (.bool false) (ex_bin .lss _ _ _ _ rfl .i64 _ _ (F.e rfl) (F.e rfl) _ (b_lss (decide_eq_false (by omega)))) ?_; clear F a; intro a F
 refine wpList_nil ?_
 replace F : Fr 35 a [(0, .agg ((bcs s).toArray)), (1, .string (strB t)), (2, .int .i64 r), (3, .pointer (some ⟨g3, 0, none⟩)), (6, .pointer (some ⟨g6, 0, none⟩)), (7, .int .i64 0), (8, .pointer (some ⟨g8, 0, none⟩)), (14, .bool false), (26, .int .i64 ((i : Nat) : Int)), (27, .int .i64 ((i : Nat) : Int)), (28, .bool false)] := F.keep ⟨rfl, rfl, rfl, rfl, rfl, rfl, rfl, rfl, rfl, rfl, rfl, trivial⟩
 refine then_n ?_
 refine wp_seq ?_
 refine wp_cond_false (F.e rfl) ?_
 refine wp_exit ?_
 refine then_x ?_
 refine then_x ?_
 refine in_hit ?_
 refine then_n ?_
 refine wp_seq ?_
 refine wp_region_lit ?_
 refine list_val F (wn rfl) rfl rfl (.agg ((bcs d8).toArray)) (ex_load _ _ rfl _ (F.e rfl) _ (lvr (cs := bcs d8) (by rw [bcs_len, show _ = 32 from hd8]; exact di_row_24_32) (M.at (i := 0) rfl))) ?_; clear F a; intro a F
 refine list_do (wn rfl) (fun K hK => ?_)
 refine ow_put F M rfl 24 _ _ rfl 1 _ ((bcs (List.replicate 32 0)).toArray) _ rfl (F.e rfl) ((bcs d8).toArray) (F.e rfl) (sz24 hd8) (sz_eqb 32 rfl hd8) (all_oneCell_toArray (bcs_one _)) ?_
 clear F a; have Mo := M; clear M; intro a v F M hgr
 refine hK _ _ ?_
 clear hK K
 clear Mo hgr; try clear u
 replace M : Mm w v [⟨g8, (bcs d8).toArray, 24⟩, ⟨g6, (bcs d8).toArray, 24⟩, ⟨g3, ((bcs s).toArray), 40⟩] := M
 refine list_val F (wn rfl) rfl rfl (.int .i64 0) (ex_assign _ rfl _ rfl) ?_; clear F a; intro a F
 refine wpList_nil ?_
 replace F : Fr 35 a [(0, .agg ((bcs s).toArray)), (1, .string (strB t)), (2, .int .i64 r), (3, .pointer (some ⟨g3, 0, none⟩)), (6, .pointer (some ⟨g6, 0, none⟩)), (7, .int .i64 0), (8, .pointer (some ⟨g8, 0, none⟩)), (14, .bool false), (26, .int .i64 ((i : Nat) : Int)), (27, .int .i64 ((i : Nat) : Int)), (28, .bool false)] := F.keep ⟨rfl, rfl, rfl, rfl, rfl, rfl, rfl, rfl, rfl, rfl, rfl, trivial⟩
 refine then_n ?_
 refine wp_ret ?_
 rw [hfin]
 exact ret_c2 (v := .agg ((bcs d8).toArray)) F rfl rfl rfl (lvr (cs := bcs d8) (by rw [bcs_len, show _ = 32 from hd8]; exact di_row_24_32) (M.at (i := 1) rfl)) ⟨rfl, M.bel⟩
end Go.Proofs.YtkppipeadibfkaaDoor
