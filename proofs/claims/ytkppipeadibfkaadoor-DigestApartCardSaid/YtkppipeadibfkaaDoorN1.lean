/- posternlaw4.filled (28), word (29). Conditions: the table is laid; what is handed in is read. -/
import Derived.Test.YtkppipeadibfkaaDoorLW
namespace Go.Proofs.YtkppipeadibfkaaDoor
open Go.RowKit Go.Proofs.YtkppipeadibfkaaDoorW.PrintWords KB WG
set_option linter.unusedVariables false
set_option linter.unusedSimpArgs false
set_option linter.unnecessarySimpa false
def flB (k : List By) (y : By) : Nat → List By
  | 0 => []
  | i + 1 => flB k y i ++ [k.getD i 0 ^^^ y]
theorem flB_len (k : List By) (y : By) : ∀ i, (flB k y i).length = i
  | 0 => rfl
  | i + 1 => by rw [flB, List.length_append, flB_len k y i]; rfl
theorem flB_next (k : List By) (y : By) (i : Nat) : flB k y i ++ [k.getD i 0 ^^^ y] = flB k y (i + 1) := rfl
theorem flB_get (k : List By) (y : By) : ∀ (n i : Nat), i < n → (flB k y n).getD i 0 = k.getD i 0 ^^^ y
  | 0, i, h => absurd h (Nat.not_lt_zero _)
  | n + 1, i, h => by
    rw [flB, List.getD_eq_getElem?_getD]
    rcases Nat.lt_or_ge i n with h2 | h2
    · rw [List.getElem?_append_left (by rw [flB_len]; exact h2), ← List.getD_eq_getElem?_getD, flB_get k y n i h2]
    · rw [List.getElem?_append_right (by rw [flB_len]; exact h2), flB_len, show i - n = 0 by omega, show i = n by omega]; rfl
theorem getD_ge {k : List By} {i : Nat} (h : k.length ≤ i) : k.getD i 0 = 0 := by rw [List.getD_eq_getElem?_getD, List.getElem?_eq_none h]; rfl
theorem getD_pad (k : List By) (m i : Nat) : (k ++ List.replicate m 0).getD i 0 = k.getD i 0 := by
  rcases Nat.lt_or_ge i k.length with h | h
  · rw [List.getD_eq_getElem?_getD, List.getElem?_append_left h, ← List.getD_eq_getElem?_getD]
  · rw [getD_ge h, List.getD_eq_getElem?_getD, List.getElem?_append_right h, List.getElem?_replicate]
    split <;> rfl
theorem flB_key (k : List By) (y : By) : flB (kRow k) y 64 = (key64 k).map (· ^^^ y) := by
  refine ext_getD (n := 64) (flB_len _ _ _) (by rw [List.length_map]; exact key64_len k) (fun j hj => ?_)
  rw [flB_get _ _ _ _ hj, List.getD_eq_getElem?_getD (l := List.map _ _), List.getElem?_map, key64_row]
  have hl : j < (kRow k ++ List.replicate (64 - (kRow k).length) 0).length := by have := kRow_len k; simp; omega
  have h1 := getD_pad (kRow k) (64 - (kRow k).length) j
  rw [List.getD_eq_getElem?_getD, List.getElem?_eq_getElem hl] at h1
  rw [List.getElem?_eq_getElem hl]
  exact congrArg (· ^^^ y) h1.symm
theorem flB_zero (k : List By) : flB (kRow k) 0 64 = key64 k := by
  rw [flB_key]
  have : (fun x : By => x ^^^ 0) = id := by funext x; simp
  rw [this, List.map_id]
theorem key_key (k : List By) : key64 (key64 k) = key64 k := by
  have h := key64_len k
  rw [key64_row (key64 k)]
  unfold kRow
  rw [if_neg (by omega), h]
  simp
theorem mac_key (k b : List By) : mac (key64 k) b = mac k b := by unfold mac; rw [key_key]
theorem be8_next (s : List By) (x : Nm) {j : Nat} (hj : j < 8) : s ++ (be8 x).take j ++ [(x >>> (56 - 8 * j)).setWidth 8] = s ++ (be8 x).take (j + 1) := by
  rw [← be8_get x hj, List.take_succ_eq_append_getElem (by rw [be8_len]; exact hj), List.append_assoc, List.getD_eq_getElem?_getD, List.getElem?_eq_getElem (by rw [be8_len]; exact hj)]
  rfl
theorem z40 (w : World) : (zeroValue 40).run Tryd.prog w = .ok (.agg (bcs (List.replicate 16 0)).toArray) w := by kernel_rfl
/-- A salt out of a key. -/
def saltF (k : List By) (n : Nat) : List By := k.take 16 ++ (List.replicate 16 (0 : By)).drop n
theorem saltF_len {k : List By} {n : Nat} (h : k.length = n) : (saltF k n).length = 16 := by subst h; simp [saltF]; omega
theorem passF_step {s t : List By} {n : Nat} (h : n ≤ 4) : passF s t ((n + 1 : Nat) : Int) = (passR s (sha (s ++ be8 (BitVec.ofNat 64 t.length) ++ t)) n, 0) := passF_yes (by omega) (by omega) (by omega)
theorem dq_sl_23_1 : sl? Tryd.prog 23 1 = true := by kernel_rfl
set_option maxHeartbeats 4000000 in
set_option maxRecDepth 100000 in
theorem filled_any (k : List By) (y : By) (B : Option Addr) (n c : Nat) (hn : n ≤ 70000000000000) (w : World) (hB : Rb w B n k) :
    Calls Tryd.prog 28 #[.slice B n c, bv y] w fun e w' => ∃ A' c', e = .returned (.slice A' (flB k y 64).length c') ∧ OwB w' w.heap.size (.slice A' (flB k y 64).length c') (flB k y 64) ∧ Below w.heap.size w w' := by
 have R_ : Rs w w [] := Rs.nil w w
 refine calls_start Tryd.func28 rfl rfl rfl (fun a F => ?_)
 have M : Mm w w [] := Mm.nil w
 refine wp_seq ?_
 refine wp_region_lit ?_
 refine list_val F (wn rfl) rfl rfl (.slice none 0 0) (ex_assign _ rfl _ rfl) ?_; clear F a; intro a F
 refine wpList_nil ?_
 replace F : Fr 27 a [(0, .slice B n c), (1, bv y), (4, .slice none 0 0)] := F.keep ⟨rfl, rfl, rfl, trivial⟩
 refine then_n ?_
 refine wp_seq ?_
 refine wp_region_lit ?_
 refine list_val F (wn rfl) rfl rfl (.slice none 0 0) (ex_assign _ rfl _ rfl) ?_; clear F a; intro a F
 refine wpList_nil ?_
 replace F : Fr 27 a [(0, .slice B n c), (1, bv y), (4, .slice none 0 0), (5, .slice none 0 0)] := F.keep ⟨rfl, rfl, rfl, rfl, trivial⟩
 refine then_n ?_
 refine wp_seq ?_
 refine wp_seq ?_
 refine wp_region_lit ?_
 refine list_val F (wn rfl) rfl rfl (.int .i64 0) (ex_assign _ rfl _ rfl) ?_; clear F a; intro a F
 refine wpList_nil ?_
 replace F : Fr 27 a [(0, .slice B n c), (1, bv y), (4, .slice none 0 0), (5, .slice none 0 0), (6, .int .i64 0)] := F.keep ⟨rfl, rfl, rfl, rfl, rfl, trivial⟩
 refine then_n ?_
 refine wp_block ?_
 refine wp_loopN (fun mq ar wr => ∃ (i : Nat), ∃ (A2 : Option Addr), ∃ (c2 : Nat), Fr 27 ar [(0, .slice B n c), (1, bv y), (4, .slice none 0 0), (5, .slice A2 ((flB k y i).length) c2), (6, .int .i64 ((i : Nat) : Int))] ∧ Mm w wr [] ∧ Rs w wr [(.slice A2 ((flB k y i).length) c2, (flB k y i))] ∧ i ≤ 64 ∧ mq + i = 64) 64 ?_ ?_
 ·
  exact ⟨0, none, 0, F.keep ⟨rfl, rfl, rfl, rfl, rfl, trivial⟩, M, R_.addnil, (Nat.zero_le _), (by omega)⟩
 clear F M a R_
 rintro mq a v ⟨i, A2, c2, F, M, R_, hi, hq⟩; try clear w
 have hfl := flB_len k y i
 by_cases hin : i < 64
 ·
  refine wp_seq ?_
  refine wp_seq ?_
  refine wp_region_lit ?_
  refine list_val F (wn rfl) rfl rfl (.int .i64 ((i : Nat) : Int)) (ex_move _ rfl _ (F.e rfl)) ?_; clear F a; intro a F
  refine list_val F (wn rfl) rfl rfl (.bool true) (ex_bin .lss _ _ _ _ rfl .i64 _ _ (F.e rfl) rfl _ (b_lss (decide_eq_true (by omega)))) ?_; clear F a; intro a F
  refine wpList_nil ?_
  replace F : Fr 27 a [(0, .slice B n c), (1, bv y), (4, .slice none 0 0), (5, .slice A2 ((flB k y i).length) c2), (6, .int .i64 ((i : Nat) : Int)), (9, .bool true)] := F.keep ⟨rfl, rfl, rfl, rfl, rfl, rfl, trivial⟩
  refine then_n ?_
  refine wp_cond_true (F.e rfl) ?_
  refine wp_skip ?_
  refine then_n ?_
  refine wp_seq ?_
  refine wp_block ?_
  refine wp_seq ?_
  refine wp_region_lit ?_
  refine list_val F (wn rfl) rfl rfl (.int .u8 0) (ex_assign _ rfl _ rfl) ?_; clear F a; intro a F
  refine wpList_nil ?_
  replace F : Fr 27 a [(0, .slice B n c), (1, bv y), (4, .slice none 0 0), (5, .slice A2 ((flB k y i).length) c2), (6, .int .i64 ((i : Nat) : Int)), (7, .int .u8 0), (9, .bool true)] := F.keep ⟨rfl, rfl, rfl, rfl, rfl, rfl, rfl, trivial⟩
  refine then_n ?_
  refine wp_seq ?_
  refine wp_seq ?_
  by_cases hik : i < n
  ·
   refine wp_region_lit ?_
   refine list_val F (wn rfl) rfl rfl (.int .i64 ((i : Nat) : Int)) (ex_move _ rfl _ (F.e rfl)) ?_; clear F a; intro a F
   refine list_val F (wn rfl) rfl rfl (.slice B n c) (ex_move _ rfl _ (F.e rfl)) ?_; clear F a; intro a F
   refine list_val F (wn rfl) rfl rfl (.int .i64 ((n : Nat) : Int)) (ex_len _ _ rfl 1 dq_sl_23_1 _ _ _ (F.e rfl)) ?_; clear F a; intro a F
   refine list_val F (wn rfl) rfl rfl (.bool true) (ex_bin .lss _ _ _ _ rfl .i64 _ _ (F.e rfl) (F.e rfl) _ (b_lss (decide_eq_true (by omega)))) ?_; clear F a; intro a F
   refine wpList_nil ?_
   replace F : Fr 27 a [(0, .slice B n c), (1, bv y), (4, .slice none 0 0), (5, .slice A2 ((flB k y i).length) c2), (6, .int .i64 ((i : Nat) : Int)), (7, .int .u8 0), (9, .bool true), (15, .bool true)] := F.keep ⟨rfl, rfl, rfl, rfl, rfl, rfl, rfl, rfl, trivial⟩
   refine then_n ?_
   refine wp_cond_true (F.e rfl) ?_
   refine wp_region_lit ?_
   refine list_val F (wn rfl) rfl rfl (.slice B n c) (ex_move _ rfl _ (F.e rfl)) ?_; clear F a; intro a F
   refine list_val F (wn rfl) rfl rfl (.int .i64 ((i : Nat) : Int)) (ex_move _ rfl _ (F.e rfl)) ?_; clear F a; intro a F
   refine list_val F (wn rfl) rfl rfl (.pointer (B.map (·.add i))) (ex_ixB _ _ rfl B n c (F.e rfl) .i64 _ (F.e rfl) i rfl (by omega) k (hB.below M.bel)) ?_; clear F a; intro a F
   refine list_val F (wn rfl) rfl rfl (bv (k.getD i 0)) (ex_ldB _ rfl B n i k (F.e rfl) (by omega) (hB.below M.bel)) ?_; clear F a; intro a F
   refine list_val F (wn rfl) rfl rfl (bv (k.getD i 0)) (ex_assign _ rfl _ (F.e rfl)) ?_; clear F a; intro a F
   refine wpList_nil ?_
   replace F : Fr 27 a [(0, .slice B n c), (1, bv y), (4, .slice none 0 0), (5, .slice A2 ((flB k y i).length) c2), (6, .int .i64 ((i : Nat) : Int)), (7, bv (k.getD i 0)), (9, .bool true), (15, .bool true)] := F.keep ⟨rfl, rfl, rfl, rfl, rfl, rfl, rfl, rfl, trivial⟩
   refine then_n ?_
   refine wp_region_lit ?_
   refine list_val F (wn rfl) rfl rfl (.slice A2 ((flB k y i).length) c2) (ex_move _ rfl _ (F.e rfl)) ?_; clear F a; intro a F
   refine list_val F (wn rfl) rfl rfl (bv (k.getD i 0)) (ex_move _ rfl _ (F.e rfl)) ?_; clear F a; intro a F
   refine list_val F (wn rfl) rfl rfl (bv y) (ex_move _ rfl _ (F.e rfl)) ?_; clear F a; intro a F
   refine list_val F (wn rfl) rfl rfl (bv ((k.getD i 0) ^^^ y)) (ex_xorb _ _ _ _ rfl (k.getD i 0) y (F.e rfl) (F.e rfl)) ?_; clear F a; intro a F
   refine list_do (wn rfl) (fun K hK => ?_)
   refine ow_lit F M R_ rfl rfl 1 _ rfl #[(0, bv ((k.getD i 0) ^^^ y))] (parts1 (F.e rfl)) [((k.getD i 0) ^^^ y)] rfl rfl (lit1 ((k.getD i 0) ^^^ y) _) ?_
   clear F M R_; intro a g24 u F M R_ hb
   refine hK _ _ ?_
   clear hK K
   clear hb; try clear v
   refine list_do (wn rfl) (fun K hK => ?_)
   refine ow_appR F M R_ rfl rfl rfl rfl _ _ rfl 1 A2 ((flB k y i).length) c2 (flB k y i) ([((k.getD i 0) ^^^ y)]) (flB k y (i + 1)) rfl (flB_next k y i) (some ⟨g24, 0, none⟩) 1 1 (F.e rfl) (F.e rfl) (R_.rb (i := 0) rfl) (by omega) ?_
   clear F M R_; intro a A_25 c_25 v F M R_
   refine hK _ _ ?_
   clear hK K
   try clear u
   refine list_val F (wn rfl) rfl rfl (.slice A_25 ((flB k y (i + 1)).length) c_25) (ex_assign _ rfl _ (F.e rfl)) ?_; clear F a; intro a F
   refine wpList_nil ?_
   replace F : Fr 27 a [(0, .slice B n c), (1, bv y), (4, .slice none 0 0), (5, .slice A_25 ((flB k y (i + 1)).length) c_25), (6, .int .i64 ((i : Nat) : Int)), (7, bv (k.getD i 0)), (9, .bool true), (15, .bool true)] := F.keep ⟨rfl, rfl, rfl, rfl, rfl, rfl, rfl, rfl, trivial⟩
   refine in_n ?_
   refine then_n ?_
   refine wp_region_lit ?_
   refine list_val F (wn rfl) rfl rfl (.int .i64 ((i : Nat) : Int)) (ex_move _ rfl _ (F.e rfl)) ?_; clear F a; intro a F
   refine list_val F (wn rfl) rfl rfl (.int .i64 ((i + 1 : Nat) : Int)) (ex_bin .add _ _ _ _ rfl .i64 _ _ (F.e rfl) rfl _ (b_add ((w_i64 (by omega) (by omega)).trans (by omega)))) ?_; clear F a; intro a F
   refine list_val F (wn rfl) rfl rfl (.int .i64 ((i + 1 : Nat) : Int)) (ex_assign _ rfl _ (F.e rfl)) ?_; clear F a; intro a F
   refine wpList_nil ?_
   replace F : Fr 27 a [(0, .slice B n c), (1, bv y), (4, .slice none 0 0), (5, .slice A_25 ((flB k y (i + 1)).length) c_25), (6, .int .i64 ((i + 1 : Nat) : Int)), (7, bv (k.getD i 0)), (9, .bool true), (15, .bool true)] := F.keep ⟨rfl, rfl, rfl, rfl, rfl, rfl, rfl, rfl, trivial⟩
   refine then_n ?_
   replace R_ := R_.pick [1] [_] ⟨rfl, trivial⟩ (by decide)
   exact ⟨64 - (i + 1), by omega, (i + 1), A_25, c_25, F.keep ⟨rfl, rfl, rfl, rfl, rfl, trivial⟩, (by refine M.pick' [] _ ?_ (by decide); exact trivial), R_, (by omega), (by omega)⟩
  refine wp_region_lit ?_
  refine list_val F (wn rfl) rfl rfl (.int .i64 ((i : Nat) : Int)) (ex_move _ rfl _ (F.e rfl)) ?_; clear F a; intro a F
  refine list_val F (wn rfl) rfl rfl (.slice B n c) (ex_move _ rfl _ (F.e rfl)) ?_; clear F a; intro a F
  refine list_val F (wn rfl) rfl rfl (.int .i64 ((n : Nat) : Int)) (ex_len _ _ rfl 1 dq_sl_23_1 _ _ _ (F.e rfl)) ?_; clear F a; intro a F
  refine list_val F (wn rfl) rfl rfl (.bool false) (ex_bin .lss _ _ _ _ rfl .i64 _ _ (F.e rfl) (F.e rfl) _ (b_lss (decide_eq_false (by omega)))) ?_; clear F a; intro a F
  refine wpList_nil ?_
  replace F : Fr 27 a [(0, .slice B n c), (1, bv y), (4, .slice none 0 0), (5, .slice A2 ((flB k y i).length) c2), (6, .int .i64 ((i : Nat) : Int)), (7, .int .u8 0), (9, .bool true), (15, .bool false)] := F.keep ⟨rfl, rfl, rfl, rfl, rfl, rfl, rfl, rfl, trivial⟩
  refine then_n ?_
  refine wp_cond_false (F.e rfl) ?_
  refine wp_skip ?_
  refine then_n ?_
  rw [show (Value.int .u8 0) = bv (k.getD i 0) by rw [getD_ge (by rw [hB.1]; omega)]; rfl] at F
  refine wp_region_lit ?_
  refine list_val F (wn rfl) rfl rfl (.slice A2 ((flB k y i).length) c2) (ex_move _ rfl _ (F.e rfl)) ?_; clear F a; intro a F
  refine list_val F (wn rfl) rfl rfl (bv (k.getD i 0)) (ex_move _ rfl _ (F.e rfl)) ?_; clear F a; intro a F
  refine list_val F (wn rfl) rfl rfl (bv y) (ex_move _ rfl _ (F.e rfl)) ?_; clear F a; intro a F
  refine list_val F (wn rfl) rfl rfl (bv ((k.getD i 0) ^^^ y)) (ex_xorb _ _ _ _ rfl (k.getD i 0) y (F.e rfl) (F.e rfl)) ?_; clear F a; intro a F
  refine list_do (wn rfl) (fun K hK => ?_)
  refine ow_lit F M R_ rfl rfl 1 _ rfl #[(0, bv ((k.getD i 0) ^^^ y))] (parts1 (F.e rfl)) [((k.getD i 0) ^^^ y)] rfl rfl (lit1 ((k.getD i 0) ^^^ y) _) ?_
  clear F M R_; intro a g24 u F M R_ hb
  refine hK _ _ ?_
  clear hK K
  clear hb; try clear v
  refine list_do (wn rfl) (fun K hK => ?_)
  refine ow_appR F M R_ rfl rfl rfl rfl _ _ rfl 1 A2 ((flB k y i).length) c2 (flB k y i) ([((k.getD i 0) ^^^ y)]) (flB k y (i + 1)) rfl (flB_next k y i) (some ⟨g24, 0, none⟩) 1 1 (F.e rfl) (F.e rfl) (R_.rb (i := 0) rfl) (by omega) ?_
  clear F M R_; intro a A_25 c_25 v F M R_
  refine hK _ _ ?_
  clear hK K
  try clear u
  refine list_val F (wn rfl) rfl rfl (.slice A_25 ((flB k y (i + 1)).length) c_25) (ex_assign _ rfl _ (F.e rfl)) ?_; clear F a; intro a F
  refine wpList_nil ?_
  replace F : Fr 27 a [(0, .slice B n c), (1, bv y), (4, .slice none 0 0), (5, .slice A_25 ((flB k y (i + 1)).length) c_25), (6, .int .i64 ((i : Nat) : Int)), (7, bv (k.getD i 0)), (9, .bool true), (15, .bool false)] := F.keep ⟨rfl, rfl, rfl, rfl, rfl, rfl, rfl, rfl, trivial⟩
  refine in_n ?_
  refine then_n ?_
  refine wp_region_lit ?_
  refine list_val F (wn rfl) rfl rfl (.int .i64 ((i : Nat) : Int)) (ex_move _ rfl _ (F.e rfl)) ?_; clear F a; intro a F
  refine list_val F (wn rfl) rfl rfl (.int .i64 ((i + 1 : Nat) : Int)) (ex_bin .add _ _ _ _ rfl .i64 _ _ (F.e rfl) rfl _ (b_add ((w_i64 (by omega) (by omega)).trans (by omega)))) ?_; clear F a; intro a F
  refine list_val F (wn rfl) rfl rfl (.int .i64 ((i + 1 : Nat) : Int)) (ex_assign _ rfl _ (F.e rfl)) ?_; clear F a; intro a F
  refine wpList_nil ?_
  replace F : Fr 27 a [(0, .slice B n c), (1, bv y), (4, .slice none 0 0), (5, .slice A_25 ((flB k y (i + 1)).length) c_25), (6, .int .i64 ((i + 1 : Nat) : Int)), (7, bv (k.getD i 0)), (9, .bool true), (15, .bool false)] := F.keep ⟨rfl, rfl, rfl, rfl, rfl, rfl, rfl, rfl, trivial⟩
  refine then_n ?_
  replace R_ := R_.pick [1] [_] ⟨rfl, trivial⟩ (by decide)
  exact ⟨64 - (i + 1), by omega, (i + 1), A_25, c_25, F.keep ⟨rfl, rfl, rfl, rfl, rfl, trivial⟩, (by refine M.pick' [] _ ?_ (by decide); exact trivial), R_, (by omega), (by omega)⟩
 obtain rfl : i = 64 := by omega
 refine wp_seq ?_
 refine wp_seq ?_
 refine wp_region_lit ?_
 refine list_val F (wn rfl) rfl rfl (.int .i64 ((64 : Nat) : Int)) (ex_move _ rfl _ (F.e rfl)) ?_; clear F a; intro a F
 refine list_val F (wn rfl) rfl rfl (.bool false) (ex_bin .lss _ _ _ _ rfl .i64 _ _ (F.e rfl) rfl _ (b_lss (decide_eq_false (by omega)))) ?_; clear F a; intro a F
 refine wpList_nil ?_
 replace F : Fr 27 a [(0, .slice B n c), (1, bv y), (4, .slice none 0 0), (5, .slice A2 ((flB k y 64).length) c2), (6, .int .i64 ((64 : Nat) : Int)), (9, .bool false)] := F.keep ⟨rfl, rfl, rfl, rfl, rfl, rfl, trivial⟩
 refine then_n ?_
 refine wp_cond_false (F.e rfl) ?_
 refine wp_exit ?_
 refine then_x ?_
 refine then_x ?_
 refine in_hit ?_
 refine then_n ?_
 refine wp_seq ?_
 refine wp_region_lit ?_
 refine list_val F (wn rfl) rfl rfl (.slice A2 ((flB k y 64).length) c2) (ex_move _ rfl _ (F.e rfl)) ?_; clear F a; intro a F
 refine list_val F (wn rfl) rfl rfl (.slice A2 ((flB k y 64).length) c2) (ex_assign _ rfl _ (F.e rfl)) ?_; clear F a; intro a F
 refine wpList_nil ?_
 replace F : Fr 27 a [(0, .slice B n c), (1, bv y), (4, .slice A2 ((flB k y 64).length) c2), (5, .slice A2 ((flB k y 64).length) c2), (6, .int .i64 ((64 : Nat) : Int)), (9, .bool false)] := F.keep ⟨rfl, rfl, rfl, rfl, rfl, rfl, trivial⟩
 refine then_n ?_
 refine wp_ret ?_
 exact ret_tmp F rfl rfl ⟨A2, c2, rfl, R_.own 0 _ _ rfl, M.bel⟩
theorem dq_sa_40_16 : sa? Tryd.prog 40 16 = true := by kernel_rfl
theorem dq_ent_27 : ent? Tryd.prog 27 = true := by kernel_rfl
theorem dq_cv_3_62_u64 : cv? Tryd.prog 3 62 .u64 = true := by kernel_rfl
theorem dq_cv_3_77_u64 : cv? Tryd.prog 3 77 .u64 = true := by kernel_rfl
theorem dq_cv_62_5_u8 : cv? Tryd.prog 62 5 .u8 = true := by kernel_rfl
theorem dq_ent_15 : ent? Tryd.prog 15 = true := by kernel_rfl
theorem dq_row_40_16 : row? Tryd.prog 40 16 = true := by kernel_rfl
theorem dq_ent_25 : ent? Tryd.prog 25 = true := by kernel_rfl
theorem dq_ent_26 : ent? Tryd.prog 26 = true := by kernel_rfl
theorem dq_row_24_32 : row? Tryd.prog 24 32 = true := by kernel_rfl
theorem dq_ab_24_32 : ab? Tryd.prog 24 32 = true := by kernel_rfl
theorem dq_follows_mixedOrders : Tryd.prog.follows .mixedOrders = true := by kernel_rfl
theorem dq_sa_24_32 : sa? Tryd.prog 24 32 = true := by kernel_rfl
set_option maxHeartbeats 4000000 in
set_option maxRecDepth 100000 in
theorem wordB_any (k t : List By) (B D : Option Addr) (n c m d : Nat) (hm : m ≤ 50000000000000) (w : World) (hKt : At w ⟨0, 0, none⟩ (wcs kTab)) (hB : Rb w B n k) (hD : Rb w D m t) :
    Calls Tryd.prog 29 #[.slice B n c, .slice D m d] w fun e w' => e = .returned (.bool true) ∧ Below w.heap.size w w' := by
 have R_ : Rs w w [] := Rs.nil w w
 have hs16 := saltF_len hB.1
 refine calls_start Tryd.func29 rfl rfl rfl (fun a F => ?_)
 have M : Mm w w [] := Mm.nil w
 refine wp_seq ?_
 refine wp_region_lit ?_
 refine list_val F (wn rfl) rfl rfl (.bool false) (ex_assign _ rfl _ rfl) ?_; clear F a; intro a F
 refine wpList_nil ?_
 replace F : Fr 60 a [(0, .slice B n c), (1, .slice D m d), (4, .bool false)] := F.keep ⟨rfl, rfl, rfl, trivial⟩
 refine then_n ?_
 refine wp_seq ?_
 refine wp_region_lit ?_
 refine list_do (wn rfl) (fun K hK => ?_)
 refine ow_alloc F M rfl rfl 40 rfl (.agg (bcs (List.replicate 16 0)).toArray) z40 ((bcs (List.replicate 16 0)).toArray) rfl ?_
 clear F M a; intro a g5 v F M hb hg
 refine hK _ _ ?_
 clear hK K
 replace R_ := R_.below hb
 clear hb hg; try clear w
 refine wpList_nil ?_
 replace F : Fr 60 a [(0, .slice B n c), (1, .slice D m d), (4, .bool false), (5, .pointer (some ⟨g5, 0, none⟩))] := F.keep ⟨rfl, rfl, rfl, rfl, trivial⟩
 refine then_n ?_
 refine wp_seq ?_
 refine wp_region_lit ?_
 refine list_val F (wn rfl) rfl rfl (.slice (some ⟨g5, 0, none⟩) 16 16) (ex_all 40 _ rfl 16 dq_sa_40_16 ⟨g5, 0, none⟩ (F.e rfl)) ?_; clear F a; intro a F
 refine list_val F (wn rfl) rfl rfl (.slice B n c) (ex_move _ rfl _ (F.e rfl)) ?_; clear F a; intro a F
 refine list_do (wn rfl) (fun K hK => ?_)
 refine ow_copy F M rfl rfl _ _ rfl 0 g5 (List.replicate 16 0) 40 rfl 16 rfl (F.e rfl) B n c k (F.e rfl) (hB.below M.bel) (saltF k n) (rfl) ((min n 16 : Nat) : Int) (rfl) ?_
 clear F a; have Mo := M; clear M; intro a u F M hgr
 refine hK _ _ ?_
 clear hK K
 replace R_ := R_.box (Mo.blk 0 _ rfl) (by show 5 ≠ 40; decide) hgr
 clear Mo hgr; try clear v
 replace M : Mm w u [⟨g5, (bcs (saltF k n)).toArray, 40⟩] := M
 refine wpList_nil ?_
 replace F : Fr 60 a [(0, .slice B n c), (1, .slice D m d), (4, .bool false), (5, .pointer (some ⟨g5, 0, none⟩))] := F.keep ⟨rfl, rfl, rfl, rfl, trivial⟩
 refine then_n ?_
 refine wp_seq ?_
 refine wp_region_lit ?_
 refine list_val F (wn rfl) rfl rfl (.slice (some ⟨g5, 0, none⟩) 16 16) (ex_all 40 _ rfl 16 dq_sa_40_16 ⟨g5, 0, none⟩ (F.e rfl)) ?_; clear F a; intro a F
 refine list_do (wn rfl) (fun K hK => ?_)
 refine ow_call rfl rfl F 27 #[.slice (some ⟨g5, 0, none⟩) 16 16] (ex_call 27 _ _ rfl rfl dq_ent_27 _ (map1 (F.e rfl))) (copy_any (saltF k n) _ 16 16 (by decide) _ (Rb.mk' (M.at (i := 0) rfl) hs16 (by decide))) (fun e v hR => ?_)
 obtain ⟨A_16, c_16, he, O_n, hb⟩ := hR
 have R1 := R_.new hb M.bel.size O_n
 refine ⟨.slice A_16 ((saltF k n).length) c_16, he, ?_⟩; clear he F a; intro a F
 refine hK _ _ ?_
 clear hK K
 replace R_ := R_.below hb
 replace M := M.below hb; clear hb; try clear u
 replace R_ := R1; clear R1 O_n
 refine list_val F (wn rfl) rfl rfl (.slice A_16 ((saltF k n).length) c_16) (ex_assign _ rfl _ (F.e rfl)) ?_; clear F a; intro a F
 refine wpList_nil ?_
 replace F : Fr 60 a [(0, .slice B n c), (1, .slice D m d), (4, .bool false), (5, .pointer (some ⟨g5, 0, none⟩)), (6, .slice A_16 ((saltF k n).length) c_16)] := F.keep ⟨rfl, rfl, rfl, rfl, rfl, trivial⟩
 refine then_n ?_
 refine wp_seq ?_
 refine wp_seq ?_
 refine wp_region_lit ?_
 refine list_val F (wn rfl) rfl rfl (.int .i64 56) (ex_assign _ rfl _ rfl) ?_; clear F a; intro a F
 refine wpList_nil ?_
 replace F : Fr 60 a [(0, .slice B n c), (1, .slice D m d), (4, .bool false), (5, .pointer (some ⟨g5, 0, none⟩)), (6, .slice A_16 ((saltF k n).length) c_16), (7, .int .i64 56)] := F.keep ⟨rfl, rfl, rfl, rfl, rfl, rfl, trivial⟩
 refine then_n ?_
 refine wp_block ?_
 rw [show (56 : Int) = 56 - 8 * ((0 : Nat) : Int) by omega] at F
 refine wp_loopN (fun mq ar wr => ∃ (j : Nat), ∃ (A2 : Option Addr), ∃ (c2 : Nat), Fr 60 ar [(0, .slice B n c), (1, .slice D m d), (4, .bool false), (5, .pointer (some ⟨g5, 0, none⟩)), (6, .slice A2 ((saltF k n ++ (be8 (BitVec.ofNat 64 m)).take j).length) c2), (7, .int .i64 (56 - 8 * ((j : Nat) : Int)))] ∧ Mm w wr [⟨g5, (bcs (saltF k n)).toArray, 40⟩] ∧ Rs w wr [(.slice A2 ((saltF k n ++ (be8 (BitVec.ofNat 64 m)).take j).length) c2, (saltF k n ++ (be8 (BitVec.ofNat 64 m)).take j))] ∧ j ≤ 8 ∧ mq + j = 8) 8 ?_ ?_
 ·
  exact ⟨0, A_16, c_16, (by rw [show saltF k n ++ (be8 (BitVec.ofNat 64 m)).take 0 = saltF k n from List.append_nil _]; exact F.keep ⟨rfl, rfl, rfl, rfl, rfl, rfl, trivial⟩), (by refine M.pick' [0] _ ?_ (by decide); exact ⟨rfl, trivial⟩), (by rw [show saltF k n ++ (be8 (BitVec.ofNat 64 m)).take 0 = saltF k n from List.append_nil _]; exact R_), (Nat.zero_le _), (by omega)⟩
 clear F M a R_
 rintro mq a u ⟨j, A2, c2, F, M, R_, hj, hq⟩; try clear v
 have hlj : (saltF k n ++ (be8 (BitVec.ofNat 64 m)).take j).length = 16 + j := by rw [List.length_append, List.length_take, be8_len, hs16]; omega
 by_cases hj8 : j < 8
 ·
  refine wp_seq ?_
  refine wp_seq ?_
  refine wp_region_lit ?_
  refine list_val F (wn rfl) rfl rfl (.int .i64 (56 - 8 * ((j : Nat) : Int))) (ex_move _ rfl _ (F.e rfl)) ?_; clear F a; intro a F
  refine list_val F (wn rfl) rfl rfl (.bool true) (ex_bin .geq _ _ _ _ rfl .i64 _ _ (F.e rfl) rfl _ (b_geq (decide_eq_true (by omega)))) ?_; clear F a; intro a F
  refine wpList_nil ?_
  replace F : Fr 60 a [(0, .slice B n c), (1, .slice D m d), (4, .bool false), (5, .pointer (some ⟨g5, 0, none⟩)), (6, .slice A2 ((saltF k n ++ (be8 (BitVec.ofNat 64 m)).take j).length) c2), (7, .int .i64 (56 - 8 * ((j : Nat) : Int))), (18, .bool true)] := F.keep ⟨rfl, rfl, rfl, rfl, rfl, rfl, rfl, trivial⟩
  refine then_n ?_
  refine wp_cond_true (F.e rfl) ?_
  refine wp_skip ?_
  refine then_n ?_
  refine wp_seq ?_
  refine wp_block ?_
  refine wp_region_lit ?_
  refine list_val F (wn rfl) rfl rfl (.slice A2 ((saltF k n ++ (be8 (BitVec.ofNat 64 m)).take j).length) c2) (ex_move _ rfl _ (F.e rfl)) ?_; clear F a; intro a F
  refine list_val F (wn rfl) rfl rfl (.slice D m d) (ex_move _ rfl _ (F.e rfl)) ?_; clear F a; intro a F
  refine list_val F (wn rfl) rfl rfl (.int .i64 ((m : Nat) : Int)) (ex_len _ _ rfl 1 dq_sl_23_1 _ _ _ (F.e rfl)) ?_; clear F a; intro a F
  refine list_val F (wn rfl) rfl rfl (.int .u64 ((BitVec.ofNat 64 m).toNat : Int)) (ex_conv _ _ _ rfl _ .u64 dq_cv_3_62_u64 _ (F.e rfl) _ (w64 _)) ?_; clear F a; intro a F
  refine list_val F (wn rfl) rfl rfl (.int .i64 (56 - 8 * ((j : Nat) : Int))) (ex_move _ rfl _ (F.e rfl)) ?_; clear F a; intro a F
  refine list_val F (wn rfl) rfl rfl (.int .u64 ((56 - 8 * j : Nat) : Int)) (ex_conv _ _ _ rfl _ .u64 dq_cv_3_77_u64 _ (F.e rfl) _ ((w_u64 (by omega) (by omega)).trans (by omega))) ?_; clear F a; intro a F
  refine list_val F (wn rfl) rfl rfl (.int .u64 (((BitVec.ofNat 64 m) >>> (56 - 8 * j)).toNat : Int)) (ex_shrn _ _ _ _ rfl (BitVec.ofNat 64 m) .u64 (56 - 8 * j) (F.e rfl) (F.e rfl) (by omega)) ?_; clear F a; intro a F
  refine list_val F (wn rfl) rfl rfl (bv (BitVec.setWidth 8 ((BitVec.ofNat 64 m) >>> (56 - 8 * j)))) (ex_lown _ _ _ rfl dq_cv_62_5_u8 ((BitVec.ofNat 64 m) >>> (56 - 8 * j)) (F.e rfl)) ?_; clear F a; intro a F
  refine list_do (wn rfl) (fun K hK => ?_)
  refine ow_lit F M R_ rfl rfl 1 _ rfl #[(0, bv (BitVec.setWidth 8 ((BitVec.ofNat 64 m) >>> (56 - 8 * j))))] (parts1 (F.e rfl)) [(BitVec.setWidth 8 ((BitVec.ofNat 64 m) >>> (56 - 8 * j)))] rfl rfl (lit1 (BitVec.setWidth 8 ((BitVec.ofNat 64 m) >>> (56 - 8 * j))) _) ?_
  clear F M R_; intro a g29 v F M R_ hb
  refine hK _ _ ?_
  clear hK K
  clear hb; try clear u
  refine list_do (wn rfl) (fun K hK => ?_)
  refine ow_appR F M R_ rfl rfl rfl rfl _ _ rfl 1 A2 ((saltF k n ++ (be8 (BitVec.ofNat 64 m)).take j).length) c2 (saltF k n ++ (be8 (BitVec.ofNat 64 m)).take j) ([(BitVec.setWidth 8 ((BitVec.ofNat 64 m) >>> (56 - 8 * j)))]) (saltF k n ++ (be8 (BitVec.ofNat 64 m)).take (j + 1)) rfl (be8_next _ _ hj8) (some ⟨g29, 0, none⟩) 1 1 (F.e rfl) (F.e rfl) (R_.rb (i := 0) rfl) (by omega) ?_
  clear F M R_; intro a A_30 c_30 u F M R_
  refine hK _ _ ?_
  clear hK K
  try clear v
  refine list_val F (wn rfl) rfl rfl (.slice A_30 ((saltF k n ++ (be8 (BitVec.ofNat 64 m)).take (j + 1)).length) c_30) (ex_assign _ rfl _ (F.e rfl)) ?_; clear F a; intro a F
  refine wpList_nil ?_
  replace F : Fr 60 a [(0, .slice B n c), (1, .slice D m d), (4, .bool false), (5, .pointer (some ⟨g5, 0, none⟩)), (6, .slice A_30 ((saltF k n ++ (be8 (BitVec.ofNat 64 m)).take (j + 1)).length) c_30), (7, .int .i64 (56 - 8 * ((j : Nat) : Int))), (18, .bool true)] := F.keep ⟨rfl, rfl, rfl, rfl, rfl, rfl, rfl, trivial⟩
  refine in_n ?_
  refine then_n ?_
  refine wp_region_lit ?_
  refine list_val F (wn rfl) rfl rfl (.int .i64 (56 - 8 * ((j : Nat) : Int))) (ex_move _ rfl _ (F.e rfl)) ?_; clear F a; intro a F
  refine list_val F (wn rfl) rfl rfl (.int .i64 (56 - 8 * ((j : Nat) : Int) - 8)) (ex_bin .sub _ _ _ _ rfl .i64 _ _ (F.e rfl) rfl _ (b_sub (w_i64 (by omega) (by omega)))) ?_; clear F a; intro a F
  refine list_val F (wn rfl) rfl rfl (.int .i64 (56 - 8 * ((j : Nat) : Int) - 8)) (ex_assign _ rfl _ (F.e rfl)) ?_; clear F a; intro a F
  refine wpList_nil ?_
  replace F : Fr 60 a [(0, .slice B n c), (1, .slice D m d), (4, .bool false), (5, .pointer (some ⟨g5, 0, none⟩)), (6, .slice A_30 ((saltF k n ++ (be8 (BitVec.ofNat 64 m)).take (j + 1)).length) c_30), (7, .int .i64 (56 - 8 * ((j : Nat) : Int) - 8)), (18, .bool true)] := F.keep ⟨rfl, rfl, rfl, rfl, rfl, rfl, rfl, trivial⟩
  refine then_n ?_
  replace R_ := R_.pick [1] [_] ⟨rfl, trivial⟩ (by decide)
  rw [show (56 : Int) - 8 * ((j : Nat) : Int) - 8 = 56 - 8 * ((j + 1 : Nat) : Int) by omega] at F
  exact ⟨8 - (j + 1), by omega, (j + 1), A_30, c_30, F.keep ⟨rfl, rfl, rfl, rfl, rfl, rfl, trivial⟩, (by refine M.pick' [0] _ ?_ (by decide); exact ⟨rfl, trivial⟩), R_, (by omega), (by omega)⟩
 rw [List.take_of_length_le (by rw [be8_len]; omega)] at F R_
 have hl8 : (saltF k n ++ be8 (BitVec.ofNat 64 m)).length = 24 := by rw [List.length_append, be8_len, hs16]
 refine wp_seq ?_
 refine wp_seq ?_
 refine wp_region_lit ?_
 refine list_val F (wn rfl) rfl rfl (.int .i64 (56 - 8 * ((j : Nat) : Int))) (ex_move _ rfl _ (F.e rfl)) ?_; clear F a; intro a F
 refine list_val F (wn rfl) rfl rfl (.bool false) (ex_bin .geq _ _ _ _ rfl .i64 _ _ (F.e rfl) rfl _ (b_geq (decide_eq_false (by omega)))) ?_; clear F a; intro a F
 refine wpList_nil ?_
 replace F : Fr 60 a [(0, .slice B n c), (1, .slice D m d), (4, .bool false), (5, .pointer (some ⟨g5, 0, none⟩)), (6, .slice A2 ((saltF k n ++ be8 (BitVec.ofNat 64 m)).length) c2), (7, .int .i64 (56 - 8 * ((j : Nat) : Int))), (18, .bool false)] := F.keep ⟨rfl, rfl, rfl, rfl, rfl, rfl, rfl, trivial⟩
 refine then_n ?_
 refine wp_cond_false (F.e rfl) ?_
 refine wp_exit ?_
 refine then_x ?_
 refine then_x ?_
 refine in_hit ?_
 refine then_n ?_
 refine wp_seq ?_
 refine wp_region_lit ?_
 refine list_val F (wn rfl) rfl rfl (.slice A2 ((saltF k n ++ be8 (BitVec.ofNat 64 m)).length) c2) (ex_move _ rfl _ (F.e rfl)) ?_; clear F a; intro a F
 refine list_val F (wn rfl) rfl rfl (.slice D m d) (ex_move _ rfl _ (F.e rfl)) ?_; clear F a; intro a F
 refine list_do (wn rfl) (fun K hK => ?_)
 refine ow_appR F M R_ rfl rfl rfl rfl _ _ rfl 0 A2 ((saltF k n ++ be8 (BitVec.ofNat 64 m)).length) c2 (saltF k n ++ be8 (BitVec.ofNat 64 m)) t ((saltF k n ++ be8 (BitVec.ofNat 64 m)) ++ t) rfl rfl D m d (F.e rfl) (F.e rfl) (hD.below M.bel) (by omega) ?_
 clear F M R_; intro a A_33 c_33 v F M R_
 refine hK _ _ ?_
 clear hK K
 try clear u
 refine list_do (wn rfl) (fun K hK => ?_)
 refine ow_call rfl rfl F 15 #[.slice A_33 (((saltF k n ++ be8 (BitVec.ofNat 64 m)) ++ t).length) c_33] (ex_call 15 _ _ rfl rfl dq_ent_15 _ (map1 (F.e rfl))) (sum_bytes ((saltF k n ++ be8 (BitVec.ofNat 64 m)) ++ t) _ ((saltF k n ++ be8 (BitVec.ofNat 64 m)) ++ t).length c_33 _ (hKt.below M.bel) (R_.rb (i := 0) rfl) (R_.cap (i := 0) rfl)) (fun e u hR => ?_)
 obtain ⟨he, hb⟩ := hR
 refine ⟨.agg ((bcs (sha ((saltF k n ++ be8 (BitVec.ofNat 64 m)) ++ t))).toArray), he, ?_⟩; clear he F a; intro a F
 refine hK _ _ ?_
 clear hK K
 replace R_ := R_.below hb
 replace M := M.below hb; clear hb; try clear v
 refine list_do (wn rfl) (fun K hK => ?_)
 refine ow_alloc F M rfl rfl 24 rfl (.agg (bcs (List.replicate 32 0)).toArray) z24 ((bcs (List.replicate 32 0)).toArray) rfl ?_
 clear F M a; intro a g8 v F M hb hg
 refine hK _ _ ?_
 clear hK K
 replace R_ := R_.below hb
 clear hb hg; try clear u
 refine list_do (wn rfl) (fun K hK => ?_)
 refine ow_put F M rfl 24 _ _ rfl 0 _ ((bcs (List.replicate 32 0)).toArray) _ rfl (F.e rfl) ((bcs (sha ((saltF k n ++ be8 (BitVec.ofNat 64 m)) ++ t))).toArray) (F.e rfl) (sz24 (sha_len _)) (sz_eqb 32 rfl (sha_len _)) (all_oneCell_toArray (bcs_one _)) ?_
 clear F a; have Mo := M; clear M; intro a u F M hgr
 refine hK _ _ ?_
 clear hK K
 replace R_ := R_.box (Mo.blk 0 _ rfl) (by show 5 ≠ 24; decide) hgr
 clear Mo hgr; try clear v
 replace M : Mm w u [⟨g8, (bcs (sha ((saltF k n ++ be8 (BitVec.ofNat 64 m)) ++ t))).toArray, 24⟩, ⟨g5, (bcs (saltF k n)).toArray, 40⟩] := M
 refine wpList_nil ?_
 replace F : Fr 60 a [(0, .slice B n c), (1, .slice D m d), (4, .bool false), (5, .pointer (some ⟨g5, 0, none⟩)), (6, .slice A2 ((saltF k n ++ be8 (BitVec.ofNat 64 m)).length) c2), (7, .int .i64 (56 - 8 * ((j : Nat) : Int))), (8, .pointer (some ⟨g8, 0, none⟩)), (18, .bool false)] := F.keep ⟨rfl, rfl, rfl, rfl, rfl, rfl, rfl, rfl, trivial⟩
 refine then_n ?_
 refine wp_seq ?_
 refine wp_seq ?_
 refine wp_region_lit ?_
 refine list_val F (wn rfl) rfl rfl (.int .i64 1) (ex_assign _ rfl _ rfl) ?_; clear F a; intro a F
 refine wpList_nil ?_
 replace F : Fr 60 a [(0, .slice B n c), (1, .slice D m d), (4, .bool false), (5, .pointer (some ⟨g5, 0, none⟩)), (6, .slice A2 ((saltF k n ++ be8 (BitVec.ofNat 64 m)).length) c2), (7, .int .i64 (56 - 8 * ((j : Nat) : Int))), (8, .pointer (some ⟨g8, 0, none⟩)), (9, .int .i64 1), (18, .bool false)] := F.keep ⟨rfl, rfl, rfl, rfl, rfl, rfl, rfl, rfl, rfl, trivial⟩
 refine then_n ?_
 refine wp_block ?_
 refine wp_loopN (fun mq ar wr => ∃ (j : Nat), ∃ (d8 : List By), Fr 60 ar [(0, .slice B n c), (1, .slice D m d), (4, .bool false), (5, .pointer (some ⟨g5, 0, none⟩)), (8, .pointer (some ⟨g8, 0, none⟩)), (9, .int .i64 ((j + 1 : Nat) : Int))] ∧ Mm w wr [⟨g8, (bcs d8).toArray, 24⟩, ⟨g5, (bcs (saltF k n)).toArray, 40⟩] ∧ Rs w wr [] ∧ j ≤ 4 ∧ d8 = passR (saltF k n) (sha (saltF k n ++ be8 (BitVec.ofNat 64 m) ++ t)) j ∧ d8.length = 32 ∧ mq + j = 4) 4 ?_ ?_
 ·
  exact ⟨0, (sha (saltF k n ++ be8 (BitVec.ofNat 64 m) ++ t)), F.keep ⟨rfl, rfl, rfl, rfl, rfl, rfl, trivial⟩, (by refine M.pick' [0, 1] _ ?_ (by decide); exact ⟨rfl, rfl, trivial⟩), (R_.pick [] [] trivial (by decide)), (Nat.zero_le _), rfl, (sha_len _), (by omega)⟩
 clear F M a R_
 rintro mq a v ⟨j, d8, F, M, R_, hj4, hdp, hd8, hq⟩; try clear u
 by_cases hj4' : j < 4
 ·
  refine wp_seq ?_
  refine wp_seq ?_
  refine wp_region_lit ?_
  refine list_val F (wn rfl) rfl rfl (.int .i64 ((j + 1 : Nat) : Int)) (ex_move _ rfl _ (F.e rfl)) ?_; clear F a; intro a F
  refine list_val F (wn rfl) rfl rfl (.bool true) (ex_bin .leq _ _ _ _ rfl .i64 _ _ (F.e rfl) rfl _ (b_leq (decide_eq_true (by omega)))) ?_; clear F a; intro a F
  refine wpList_nil ?_
  replace F : Fr 60 a [(0, .slice B n c), (1, .slice D m d), (4, .bool false), (5, .pointer (some ⟨g5, 0, none⟩)), (8, .pointer (some ⟨g8, 0, none⟩)), (9, .int .i64 ((j + 1 : Nat) : Int)), (36, .bool true)] := F.keep ⟨rfl, rfl, rfl, rfl, rfl, rfl, rfl, trivial⟩
  refine then_n ?_
  refine wp_cond_true (F.e rfl) ?_
  refine wp_skip ?_
  refine then_n ?_
  refine wp_seq ?_
  refine wp_block ?_
  refine wp_seq ?_
  refine wp_region_lit ?_
  refine list_val F (wn rfl) rfl rfl (.agg ((bcs (saltF k n)).toArray)) (ex_load _ _ rfl _ (F.e rfl) _ (lvr (cs := bcs (saltF k n)) (by rw [bcs_len, show _ = 16 from hs16]; exact dq_row_40_16) (M.at (i := 1) rfl))) ?_; clear F a; intro a F
  refine list_val F (wn rfl) rfl rfl (.slice D m d) (ex_move _ rfl _ (F.e rfl)) ?_; clear F a; intro a F
  refine list_val F (wn rfl) rfl rfl (.string (strB t)) (ex_strB _ rfl D m d t (F.e rfl) (hD.below M.bel)) ?_; clear F a; intro a F
  refine list_val F (wn rfl) rfl rfl (.int .i64 ((j + 1 : Nat) : Int)) (ex_move _ rfl _ (F.e rfl)) ?_; clear F a; intro a F
  refine list_do (wn rfl) (fun K hK => ?_)
  refine ow_call rfl rfl F 25 #[.agg ((bcs (saltF k n)).toArray), .string (strB t), .int .i64 ((j + 1 : Nat) : Int)] (ex_call 25 _ _ rfl rfl dq_ent_25 _ (map3 (F.e rfl) (F.e rfl) (F.e rfl))) (pass_any (saltF k n) t hs16 (by rw [hD.1]; exact hD.2.1) ((j + 1 : Nat) : Int) _ (hKt.below M.bel)) (fun e u hR => ?_)
  obtain ⟨he, hb⟩ := hR
  rw [passF_step hj4, hD.1] at he
  refine ⟨.tuple #[.agg ((bcs (passR (saltF k n) (sha (saltF k n ++ be8 (BitVec.ofNat 64 m) ++ t)) j)).toArray), .int .i64 0], he, ?_⟩; clear he F a; intro a F
  refine hK _ _ ?_
  clear hK K
  replace R_ := R_.below hb
  replace M := M.below hb; clear hb; try clear v
  refine list_val F (wn rfl) rfl rfl (.tuple #[.agg ((bcs (passR (saltF k n) (sha (saltF k n ++ be8 (BitVec.ofNat 64 m) ++ t)) j)).toArray), .int .i64 0]) (ex_move _ rfl _ (F.e rfl)) ?_; clear F a; intro a F
  refine list_val F (wn rfl) rfl rfl (.agg ((bcs (passR (saltF k n) (sha (saltF k n ++ be8 (BitVec.ofNat 64 m) ++ t)) j)).toArray)) (ex_extract _ _ rfl _ (F.e rfl) _ rfl) ?_; clear F a; intro a F
  refine list_val F (wn rfl) rfl rfl (.int .i64 0) (ex_extract _ _ rfl _ (F.e rfl) _ rfl) ?_; clear F a; intro a F
  refine list_do (wn rfl) (fun K hK => ?_)
  refine ow_alloc F M rfl rfl 24 rfl (.agg (bcs (List.replicate 32 0)).toArray) z24 ((bcs (List.replicate 32 0)).toArray) rfl ?_
  clear F M a; intro a g10 v F M hb hg
  refine hK _ _ ?_
  clear hK K
  replace R_ := R_.below hb
  clear hb hg; try clear u
  refine list_do (wn rfl) (fun K hK => ?_)
  refine ow_put F M rfl 24 _ _ rfl 0 _ ((bcs (List.replicate 32 0)).toArray) _ rfl (F.e rfl) ((bcs (passR (saltF k n) (sha (saltF k n ++ be8 (BitVec.ofNat 64 m) ++ t)) j)).toArray) (F.e rfl) (sz24 (passR_len (sha_len _) _)) (sz_eqb 32 rfl (passR_len (sha_len _) _)) (all_oneCell_toArray (bcs_one _)) ?_
  clear F a; have Mo := M; clear M; intro a u F M hgr
  refine hK _ _ ?_
  clear hK K
  replace R_ := R_.box (Mo.blk 0 _ rfl) (by show 5 ≠ 24; decide) hgr
  clear Mo hgr; try clear v
  replace M : Mm w u [⟨g10, (bcs (passR (saltF k n) (sha (saltF k n ++ be8 (BitVec.ofNat 64 m) ++ t)) j)).toArray, 24⟩, ⟨g8, (bcs d8).toArray, 24⟩, ⟨g5, (bcs (saltF k n)).toArray, 40⟩] := M
  refine list_val F (wn rfl) rfl rfl (.int .i64 0) (ex_assign _ rfl _ (F.e rfl)) ?_; clear F a; intro a F
  refine wpList_nil ?_
  replace F : Fr 60 a [(0, .slice B n c), (1, .slice D m d), (4, .bool false), (5, .pointer (some ⟨g5, 0, none⟩)), (8, .pointer (some ⟨g8, 0, none⟩)), (9, .int .i64 ((j + 1 : Nat) : Int)), (10, .pointer (some ⟨g10, 0, none⟩)), (11, .int .i64 0), (36, .bool true)] := F.keep ⟨rfl, rfl, rfl, rfl, rfl, rfl, rfl, rfl, rfl, trivial⟩
  refine then_n ?_
  refine wp_seq ?_
  refine wp_seq ?_
  refine wp_region_lit ?_
  refine list_val F (wn rfl) rfl rfl (.int .i64 0) (ex_move _ rfl _ (F.e rfl)) ?_; clear F a; intro a F
  refine list_do (wn rfl) (fun K hK => ?_)
  refine ow_call rfl rfl F 26 #[.int .i64 0] (ex_call 26 _ _ rfl rfl dq_ent_26 _ (map1 (F.e rfl))) (num_any _ _) (fun e v hR => ?_)
  obtain ⟨he, hw⟩ := hR
  refine ⟨.int .i64 0, he, ?_⟩; clear he F a; intro a F
  obtain rfl := hw
  refine hK _ _ ?_
  clear hK K
  refine list_val F (wn rfl) rfl rfl (.bool false) (ex_bin .neq _ _ _ _ rfl .i64 _ _ (F.e rfl) rfl _ (b_neq (by decide))) ?_; clear F a; intro a F
  refine list_val F (wn rfl) rfl rfl (.bool false) (ex_move _ rfl _ (F.e rfl)) ?_; clear F a; intro a F
  refine list_val F (F.wants 50 false rfl (by kernel_rfl) rfl true rfl) rfl rfl (.agg ((bcs (passR (saltF k n) (sha (saltF k n ++ be8 (BitVec.ofNat 64 m) ++ t)) j)).toArray)) (ex_load _ _ rfl _ (F.e rfl) _ (lvr (cs := bcs (passR (saltF k n) (sha (saltF k n ++ be8 (BitVec.ofNat 64 m) ++ t)) j)) (by rw [bcs_len, show _ = 32 from (passR_len (sha_len _) _)]; exact dq_row_24_32) (M.at (i := 0) rfl))) ?_; clear F a; intro a F
  refine list_val F (F.wants 50 false rfl (by kernel_rfl) rfl true rfl) rfl rfl (.agg ((bcs d8).toArray)) (ex_load _ _ rfl _ (F.e rfl) _ (lvr (cs := bcs d8) (by rw [bcs_len, show _ = 32 from hd8]; exact dq_row_24_32) (M.at (i := 1) rfl))) ?_; clear F a; intro a F
  refine list_val F (F.wants 50 false rfl (by kernel_rfl) rfl true rfl) rfl rfl (.bool false) (ex_neqA 24 _ _ _ rfl 32 dq_ab_24_32 (passR (saltF k n) (sha (saltF k n ++ be8 (BitVec.ofNat 64 m) ++ t)) j) d8 (passR_len (sha_len _) _) hd8 (F.e rfl) (F.e rfl) false (by rw [hdp]; exact not_self _)) ?_; clear F a; intro a F
  refine list_val F (wn rfl) rfl rfl (.bool false) (ex_pick_f _ _ _ rfl (F.e rfl) _ (F.e rfl)) ?_; clear F a; intro a F
  refine wpList_nil ?_
  replace F : Fr 60 a [(0, .slice B n c), (1, .slice D m d), (4, .bool false), (5, .pointer (some ⟨g5, 0, none⟩)), (8, .pointer (some ⟨g8, 0, none⟩)), (9, .int .i64 ((j + 1 : Nat) : Int)), (10, .pointer (some ⟨g10, 0, none⟩)), (11, .int .i64 0), (36, .bool true), (54, .bool false)] := F.keep ⟨rfl, rfl, rfl, rfl, rfl, rfl, rfl, rfl, rfl, rfl, trivial⟩
  refine then_n ?_
  refine wp_cond_false (F.e rfl) ?_
  refine wp_skip ?_
  refine then_n ?_
  refine wp_only (fun ar wr => ∃ (A_56 : Option Addr), ∃ (c_56 : Nat), ∃ (A_58 : Option Addr), ∃ (c_58 : Nat), Fr 60 ar [(0, .slice B n c), (1, .slice D m d), (4, .bool false), (5, .pointer (some ⟨g5, 0, none⟩)), (8, .pointer (some ⟨g8, 0, none⟩)), (9, .int .i64 ((j + 1 : Nat) : Int)), (10, .pointer (some ⟨g10, 0, none⟩)), (11, .int .i64 0), (36, .bool true), (54, .bool false)] ∧ Mm w wr [⟨g10, (bcs (passR (saltF k n) (sha (saltF k n ++ be8 (BitVec.ofNat 64 m) ++ t)) j)).toArray, 24⟩, ⟨g8, (bcs (sha ((passR (saltF k n) (sha (saltF k n ++ be8 (BitVec.ofNat 64 m) ++ t)) j) ++ (saltF k n)))).toArray, 24⟩, ⟨g5, (bcs (saltF k n)).toArray, 40⟩] ∧ Rs w wr [(.slice A_58 (((passR (saltF k n) (sha (saltF k n ++ be8 (BitVec.ofNat 64 m) ++ t)) j) ++ (saltF k n)).length) c_58, ((passR (saltF k n) (sha (saltF k n ++ be8 (BitVec.ofNat 64 m) ++ t)) j) ++ (saltF k n)))]) ?_ ?_
  ·
   refine region_anyM dq_follows_mixedOrders M [] (fun w' M => (by refine M.pick' [] _ ?_ (by decide); exact trivial)) ?_; clear M; intro wD M hb
   replace R_ := R_.below hb
   clear hb; try clear u
   have hS : Mm w wD [] := (by refine M.pick' [] _ ?_ (by decide); exact trivial)
   refine any_val F 0 rfl (by kernel_rfl) (wn rfl) rfl rfl (.slice (some ⟨g10, 0, none⟩) 32 32) (fun w' hS' => ex_all 24 _ rfl 32 dq_sa_24_32 ⟨g10, 0, none⟩ (F.e rfl)) hS ?_; clear F a; intro a F
   refine any_val F 2 rfl (by kernel_rfl) (wn rfl) rfl rfl (.slice (some ⟨g5, 0, none⟩) 16 16) (fun w' hS' => ex_all 40 _ rfl 16 dq_sa_40_16 ⟨g5, 0, none⟩ (F.e rfl)) hS ?_; clear F a; intro a F
   refine any_ready [1] (by kernel_rfl) (by simp) ?_
   refine ready_do rfl (wn rfl) (fun K hK => ?_) AllReadyH.nil
   refine ow_call rfl rfl F 27 #[.slice (some ⟨g10, 0, none⟩) 32 32] (ex_call 27 _ _ rfl rfl dq_ent_27 _ (map1 (F.e rfl))) (copy_any (passR (saltF k n) (sha (saltF k n ++ be8 (BitVec.ofNat 64 m) ++ t)) j) _ 32 32 (by decide) _ (Rb.mk' (M.at (i := 0) rfl) (passR_len (sha_len _) _) (by decide))) (fun e v hR => ?_)
   obtain ⟨A_56, c_56, he, O_n, hb⟩ := hR
   have R1 := R_.new hb M.bel.size O_n
   refine ⟨.slice A_56 ((passR (saltF k n) (sha (saltF k n ++ be8 (BitVec.ofNat 64 m) ++ t)) j).length) c_56, he, ?_⟩; clear he F a; intro a F
   replace hS : Mm w v [] := (by refine (M.below hb).pick' [] _ ?_ (by decide); exact trivial)
   refine hK _ _ hS ?_
   clear hK K
   replace R_ := R_.below hb
   replace M := M.below hb; clear hb; try clear wD
   replace R_ := R1; clear R1 O_n
   refine any_ready [3] (by kernel_rfl) (by simp) ?_
   refine ready_do rfl (wn rfl) (fun K hK => ?_) AllReadyH.nil
   refine ow_appR F M R_ rfl rfl rfl rfl _ _ rfl 0 A_56 ((passR (saltF k n) (sha (saltF k n ++ be8 (BitVec.ofNat 64 m) ++ t)) j).length) c_56 (passR (saltF k n) (sha (saltF k n ++ be8 (BitVec.ofNat 64 m) ++ t)) j) (saltF k n) ((passR (saltF k n) (sha (saltF k n ++ be8 (BitVec.ofNat 64 m) ++ t)) j) ++ (saltF k n)) rfl rfl (some ⟨g5, 0, none⟩) 16 16 (F.e rfl) (F.e rfl) (Rb.mk' (M.at (i := 2) rfl) hs16 (by decide)) (by rw [passR_len (sha_len _)]; decide) ?_
   clear F M R_; intro a A_58 c_58 u F M R_
   replace hS : Mm w u [] := (by refine M.pick' [] _ ?_ (by decide); exact trivial)
   refine hK _ _ hS ?_
   clear hK K
   try clear v
   refine any_ready [4] (by kernel_rfl) (by simp) ?_
   refine ready_do rfl (wn rfl) (fun K hK => ?_) AllReadyH.nil
   refine ow_call rfl rfl F 15 #[.slice A_58 (((passR (saltF k n) (sha (saltF k n ++ be8 (BitVec.ofNat 64 m) ++ t)) j) ++ (saltF k n)).length) c_58] (ex_call 15 _ _ rfl rfl dq_ent_15 _ (map1 (F.e rfl))) (sum_bytes ((passR (saltF k n) (sha (saltF k n ++ be8 (BitVec.ofNat 64 m) ++ t)) j) ++ (saltF k n)) _ ((passR (saltF k n) (sha (saltF k n ++ be8 (BitVec.ofNat 64 m) ++ t)) j) ++ (saltF k n)).length c_58 _ (hKt.below M.bel) (R_.rb (i := 0) rfl) (R_.cap (i := 0) rfl)) (fun e v hR => ?_)
   obtain ⟨he, hb⟩ := hR
   refine ⟨.agg ((bcs (sha ((passR (saltF k n) (sha (saltF k n ++ be8 (BitVec.ofNat 64 m) ++ t)) j) ++ (saltF k n)))).toArray), he, ?_⟩; clear he F a; intro a F
   replace hS : Mm w v [] := (by refine (M.below hb).pick' [] _ ?_ (by decide); exact trivial)
   refine hK _ _ hS ?_
   clear hK K
   replace R_ := R_.below hb
   replace M := M.below hb; clear hb; try clear u
   refine any_ready [5] (by kernel_rfl) (by simp) ?_
   refine ready_do rfl (wn rfl) (fun K hK => ?_) AllReadyH.nil
   refine ow_put F M rfl 24 _ _ rfl 1 _ ((bcs d8).toArray) _ rfl (F.e rfl) ((bcs (sha ((passR (saltF k n) (sha (saltF k n ++ be8 (BitVec.ofNat 64 m) ++ t)) j) ++ (saltF k n)))).toArray) (F.e rfl) (sz24 (sha_len _)) (sz_eqb 32 hd8 (sha_len _)) (all_oneCell_toArray (bcs_one _)) ?_
   clear F a; have Mo := M; clear M; intro a u F M hgr
   replace hS : Mm w u [] := (by refine M.pick' [] _ ?_ (by decide); exact trivial)
   refine hK _ _ hS ?_
   clear hK K
   replace R_ := R_.box (Mo.blk 1 _ rfl) (by show 5 ≠ 24; decide) hgr
   clear Mo hgr; try clear v
   replace M : Mm w u [⟨g10, (bcs (passR (saltF k n) (sha (saltF k n ++ be8 (BitVec.ofNat 64 m) ++ t)) j)).toArray, 24⟩, ⟨g8, (bcs (sha ((passR (saltF k n) (sha (saltF k n ++ be8 (BitVec.ofNat 64 m) ++ t)) j) ++ (saltF k n)))).toArray, 24⟩, ⟨g5, (bcs (saltF k n)).toArray, 40⟩] := M
   refine any_done (by kernel_rfl) ?_
   exact ⟨A_56, c_56, A_58, c_58, F.keep ⟨rfl, rfl, rfl, rfl, rfl, rfl, rfl, rfl, rfl, rfl, trivial⟩, (by refine M.pick' [0, 1, 2] _ ?_ (by decide); exact ⟨rfl, rfl, rfl, trivial⟩), R_⟩
  clear F M a R_
  intro a v hR; obtain ⟨A_56, c_56, A_58, c_58, F, M, R_⟩ := hR; try clear u
  refine in_n ?_
  refine then_n ?_
  refine wp_region_lit ?_
  refine list_val F (wn rfl) rfl rfl (.int .i64 ((j + 1 : Nat) : Int)) (ex_move _ rfl _ (F.e rfl)) ?_; clear F a; intro a F
  refine list_val F (wn rfl) rfl rfl (.int .i64 ((j + 1 + 1 : Nat) : Int)) (ex_bin .add _ _ _ _ rfl .i64 _ _ (F.e rfl) rfl _ (b_add ((w_i64 (by omega) (by omega)).trans (by omega)))) ?_; clear F a; intro a F
  refine list_val F (wn rfl) rfl rfl (.int .i64 ((j + 1 + 1 : Nat) : Int)) (ex_assign _ rfl _ (F.e rfl)) ?_; clear F a; intro a F
  refine wpList_nil ?_
  replace F : Fr 60 a [(0, .slice B n c), (1, .slice D m d), (4, .bool false), (5, .pointer (some ⟨g5, 0, none⟩)), (8, .pointer (some ⟨g8, 0, none⟩)), (9, .int .i64 ((j + 1 + 1 : Nat) : Int)), (10, .pointer (some ⟨g10, 0, none⟩)), (11, .int .i64 0), (36, .bool true), (54, .bool false)] := F.keep ⟨rfl, rfl, rfl, rfl, rfl, rfl, rfl, rfl, rfl, rfl, trivial⟩
  refine then_n ?_
  replace R_ := R_.pick [] [] trivial (by decide)
  exact ⟨4 - (j + 1), by omega, (j + 1), (sha (passR (saltF k n) (sha (saltF k n ++ be8 (BitVec.ofNat 64 m) ++ t)) j ++ saltF k n)), F.keep ⟨rfl, rfl, rfl, rfl, rfl, rfl, trivial⟩, (by refine M.pick' [1, 2] _ ?_ (by decide); exact ⟨rfl, rfl, trivial⟩), R_, (by omega), rfl, (sha_len _), (by omega)⟩
 refine wp_seq ?_
 refine wp_seq ?_
 refine wp_region_lit ?_
 refine list_val F (wn rfl) rfl rfl (.int .i64 ((j + 1 : Nat) : Int)) (ex_move _ rfl _ (F.e rfl)) ?_; clear F a; intro a F
 refine list_val F (wn rfl) rfl rfl (.bool false) (ex_bin .leq _ _ _ _ rfl .i64 _ _ (F.e rfl) rfl _ (b_leq (decide_eq_false (by omega)))) ?_; clear F a; intro a F
 refine wpList_nil ?_
 replace F : Fr 60 a [(0, .slice B n c), (1, .slice D m d), (4, .bool false), (5, .pointer (some ⟨g5, 0, none⟩)), (8, .pointer (some ⟨g8, 0, none⟩)), (9, .int .i64 ((j + 1 : Nat) : Int)), (36, .bool false)] := F.keep ⟨rfl, rfl, rfl, rfl, rfl, rfl, rfl, trivial⟩
 refine then_n ?_
 refine wp_cond_false (F.e rfl) ?_
 refine wp_exit ?_
 refine then_x ?_
 refine then_x ?_
 refine in_hit ?_
 refine then_n ?_
 refine wp_seq ?_
 refine wp_region_lit ?_
 refine list_val F (wn rfl) rfl rfl (.bool true) (ex_assign _ rfl _ rfl) ?_; clear F a; intro a F
 refine wpList_nil ?_
 replace F : Fr 60 a [(0, .slice B n c), (1, .slice D m d), (4, .bool true), (5, .pointer (some ⟨g5, 0, none⟩)), (8, .pointer (some ⟨g8, 0, none⟩)), (9, .int .i64 ((j + 1 : Nat) : Int)), (36, .bool false)] := F.keep ⟨rfl, rfl, rfl, rfl, rfl, rfl, rfl, trivial⟩
 refine then_n ?_
 refine wp_ret ?_
 exact ret_tmp F rfl rfl ⟨rfl, M.bel⟩
end Go.Proofs.YtkppipeadibfkaaDoor
