/- RadixBack (5), back (19), letters (30), Bytes16 (16) of longer texts. Conditions: the rows are read; the table of powers of ten is laid, ErrRange is set. -/
import Derived.Test.YtadaacoddfkalaaDoorB1
namespace Go.Proofs.YtadaacoddfkalaaDoor
open Go.RowKit Go.Proofs.YtadaacoddfkalaaDoorW.PrintWords KB WG RO
set_option linter.unusedVariables false
set_option linter.unusedSimpArgs false
set_option linter.unnecessarySimpa false
theorem no45 {x : UInt8} (h : ¬ x = 45) : (((x.toNat : Nat) : Int) == 45) = false := (u8_ieq 45 x).trans (beq_eq_false_iff_ne.2 (Ne.symm h))
theorem no95 {x : UInt8} (h : ¬ x = 95) : (((x.toNat : Nat) : Int) == 95) = false := (u8_ieq 95 x).trans (beq_eq_false_iff_ne.2 (Ne.symm h))
theorem swap_id {x : UInt8} (h : ¬ x = 45) (h2 : ¬ x = 95) : swap x = x := by unfold swap; rw [if_neg h, if_neg h2]
def ic (z : Int) : List Value := [.int .i64 z]
theorem ic_len (z : Int) : (ic z).length = 1 := rfl
theorem ic_one (z : Int) : ∀ u ∈ ic z, u.oneCell' = true := fun u hu => by rw [List.mem_singleton.1 hu]; rfl
def kI : Kd Int := kBlk ic 1 ic_len ic_one
theorem int_C {w : World} {A : Option Addr} {n : Nat} {ns : List Int} (h : (Kd.int .i64).C w A n ns) : kI.C w A n ns := h
theorem g6_follows_mixedOrders : Tryd.prog.follows .mixedOrders = true := by kernel_rfl
set_option maxHeartbeats 1000000 in
set_option maxRecDepth 100000 in
theorem letters_any (s set : List UInt8) (w : World) (hset : ∀ x ∈ s, set.contains x = true) (hm : s.length ≤ 4000000) (hm2 : set.length ≤ 4000000) :
    Calls Tryd.prog 30 #[.string (ST.str s), .string (ST.str set)] w fun e w' => e = .returned (.bool true) ∧ Below w.heap.size w w' := by
 refine calls_start Tryd.func30 rfl rfl rfl (fun a F => ?_)
 have M : Mm w w [] := Mm.nil w
 refine wp_seq ?_
 refine wp_region_lit ?_
 refine list_val F (wn rfl) rfl rfl (.bool false) (ex_assign _ rfl _ rfl) ?_; clear F a; intro a F
 refine wpList_nil ?_
 replace F : Fr 32 a [(0, .string (ST.str s)), (1, .string (ST.str set)), (4, .bool false)] := F.keep ⟨rfl, rfl, rfl, trivial⟩
 refine then_n ?_
 refine wp_seq ?_
 refine wp_seq ?_
 refine wp_region_lit ?_
 refine list_val F (wn rfl) rfl rfl (.int .i64 0) (ex_assign _ rfl _ rfl) ?_; clear F a; intro a F
 refine wpList_nil ?_
 replace F : Fr 32 a [(0, .string (ST.str s)), (1, .string (ST.str set)), (4, .bool false), (5, .int .i64 0)] := F.keep ⟨rfl, rfl, rfl, rfl, trivial⟩
 refine then_n ?_
 refine wp_block ?_
 refine wp_loopN (fun mq ar wr => ∃ (i : Nat), Fr 32 ar [(0, .string (ST.str s)), (1, .string (ST.str set)), (4, .bool false), (5, .int .i64 ((i : Nat) : Int))] ∧ Mm w wr [] ∧ i ≤ s.length ∧ mq + i = s.length) s.length ?_ ?_
 ·
  exact ⟨0, F.keep ⟨rfl, rfl, rfl, rfl, trivial⟩, M, (Nat.zero_le _), (by omega)⟩
 clear F M a
 rintro mq a v ⟨i, F, M, hi, hq⟩; try clear w
 by_cases hin : i < s.length
 ·
  obtain ⟨x, hx⟩ : ∃ x, s[i]? = some x := ⟨_, List.getElem?_eq_getElem (by omega)⟩
  refine wp_seq ?_
  refine wp_seq ?_
  refine wp_region_lit ?_
  refine list_val F (wn rfl) rfl rfl (.int .i64 ((i : Nat) : Int)) (ex_move _ rfl _ (F.e rfl)) ?_; clear F a; intro a F
  refine list_val F (wn rfl) rfl rfl (.string (ST.str s)) (ex_move _ rfl _ (F.e rfl)) ?_; clear F a; intro a F
  refine list_val F (wn rfl) rfl rfl (.int .i64 ((s.length : Nat) : Int)) (ST.ex_lens _ 9 rfl un9 s (F.e rfl)) ?_; clear F a; intro a F
  refine list_val F (wn rfl) rfl rfl (.bool true) (ex_bin .lss _ _ _ _ rfl .i64 _ _ (F.e rfl) (F.e rfl) _ (b_lss (decide_eq_true (by omega)))) ?_; clear F a; intro a F
  refine wpList_nil ?_
  replace F : Fr 32 a [(0, .string (ST.str s)), (1, .string (ST.str set)), (4, .bool false), (5, .int .i64 ((i : Nat) : Int)), (11, .bool true)] := F.keep ⟨rfl, rfl, rfl, rfl, rfl, trivial⟩
  refine then_n ?_
  refine wp_cond_true (F.e rfl) ?_
  refine wp_skip ?_
  refine then_n ?_
  refine wp_seq ?_
  refine wp_block ?_
  refine wp_seq ?_
  refine wp_region_lit ?_
  refine list_val F (wn rfl) rfl rfl (.bool false) (ex_assign _ rfl _ rfl) ?_; clear F a; intro a F
  refine wpList_nil ?_
  replace F : Fr 32 a [(0, .string (ST.str s)), (1, .string (ST.str set)), (4, .bool false), (5, .int .i64 ((i : Nat) : Int)), (6, .bool false), (11, .bool true)] := F.keep ⟨rfl, rfl, rfl, rfl, rfl, rfl, trivial⟩
  refine then_n ?_
  refine wp_seq ?_
  refine wp_seq ?_
  refine wp_region_lit ?_
  refine list_val F (wn rfl) rfl rfl (.int .i64 0) (ex_assign _ rfl _ rfl) ?_; clear F a; intro a F
  refine wpList_nil ?_
  replace F : Fr 32 a [(0, .string (ST.str s)), (1, .string (ST.str set)), (4, .bool false), (5, .int .i64 ((i : Nat) : Int)), (6, .bool false), (7, .int .i64 0), (11, .bool true)] := F.keep ⟨rfl, rfl, rfl, rfl, rfl, rfl, rfl, trivial⟩
  refine then_n ?_
  refine wp_block ?_
  refine wp_loopN (fun mq ar wr => ∃ (j : Nat), ∃ (f : Bool), Fr 32 ar [(0, .string (ST.str s)), (1, .string (ST.str set)), (4, .bool false), (5, .int .i64 ((i : Nat) : Int)), (6, .bool f), (7, .int .i64 ((j : Nat) : Int)), (11, .bool true)] ∧ Mm w wr [] ∧ j ≤ set.length ∧ f = (set.take j).contains x ∧ mq + j = set.length) set.length ?_ ?_
  ·
   exact ⟨0, false, F.keep ⟨rfl, rfl, rfl, rfl, rfl, rfl, rfl, trivial⟩, M, (Nat.zero_le _), (by simp), (by omega)⟩
  clear F M a
  rintro mq a u ⟨j, f, F, M, hj, hf, hq⟩; try clear v
  by_cases hjn : j < set.length
  ·
   obtain ⟨y, hy⟩ : ∃ y, set[j]? = some y := ⟨_, List.getElem?_eq_getElem (by omega)⟩
   refine wp_seq ?_
   refine wp_seq ?_
   refine wp_region_lit ?_
   refine list_val F (wn rfl) rfl rfl (.int .i64 ((j : Nat) : Int)) (ex_move _ rfl _ (F.e rfl)) ?_; clear F a; intro a F
   refine list_val F (wn rfl) rfl rfl (.string (ST.str set)) (ex_move _ rfl _ (F.e rfl)) ?_; clear F a; intro a F
   refine list_val F (wn rfl) rfl rfl (.int .i64 ((set.length : Nat) : Int)) (ST.ex_lens _ 9 rfl un9 set (F.e rfl)) ?_; clear F a; intro a F
   refine list_val F (wn rfl) rfl rfl (.bool true) (ex_bin .lss _ _ _ _ rfl .i64 _ _ (F.e rfl) (F.e rfl) _ (b_lss (decide_eq_true (by omega)))) ?_; clear F a; intro a F
   refine wpList_nil ?_
   replace F : Fr 32 a [(0, .string (ST.str s)), (1, .string (ST.str set)), (4, .bool false), (5, .int .i64 ((i : Nat) : Int)), (6, .bool f), (7, .int .i64 ((j : Nat) : Int)), (11, .bool true), (17, .bool true)] := F.keep ⟨rfl, rfl, rfl, rfl, rfl, rfl, rfl, rfl, trivial⟩
   refine then_n ?_
   refine wp_cond_true (F.e rfl) ?_
   refine wp_skip ?_
   refine then_n ?_
   refine wp_seq ?_
   refine wp_block ?_
   by_cases hft : f = true
   ·
    subst hft
    refine region_tail 10 g6_follows_mixedOrders (by kernel_rfl) M ?_; clear M; intro v M hb
    clear hb; try clear u
    refine still_val F (wn rfl) rfl rfl (.bool true) (ex_move _ rfl _ (F.e rfl)) ?_; clear F a; intro a F
    refine still_val F (wn rfl) rfl rfl (.bool true) (ex_move _ rfl _ (F.e rfl)) ?_; clear F a; intro a F
    refine still_skip F (F.wants 21 true rfl (by kernel_rfl) rfl false rfl) rfl rfl ?_; clear F a; intro a F
    refine still_skip F (F.wants 21 true rfl (by kernel_rfl) rfl false rfl) rfl rfl ?_; clear F a; intro a F
    refine still_skip F (F.wants 21 true rfl (by kernel_rfl) rfl false rfl) rfl rfl ?_; clear F a; intro a F
    refine still_skip F (F.wants 21 true rfl (by kernel_rfl) rfl false rfl) rfl rfl ?_; clear F a; intro a F
    refine still_skip F (F.wants 21 true rfl (by kernel_rfl) rfl false rfl) rfl rfl ?_; clear F a; intro a F
    refine still_skip F (F.wants 21 true rfl (by kernel_rfl) rfl false rfl) rfl rfl ?_; clear F a; intro a F
    refine still_skip F (F.wants 21 true rfl (by kernel_rfl) rfl false rfl) rfl rfl ?_; clear F a; intro a F
    refine still_val F (wn rfl) rfl rfl (.bool true) (ex_pick_t _ _ _ rfl (F.e rfl) _ rfl) ?_; clear F a; intro a F
    refine still_end ?_
    refine list_val F (wn rfl) rfl rfl (.bool true) (ex_assign _ rfl _ (F.e rfl)) ?_; clear F a; intro a F
    refine wpList_nil ?_
    replace F : Fr 32 a [(0, .string (ST.str s)), (1, .string (ST.str set)), (4, .bool false), (5, .int .i64 ((i : Nat) : Int)), (6, .bool true), (7, .int .i64 ((j : Nat) : Int)), (11, .bool true), (17, .bool true)] := F.keep ⟨rfl, rfl, rfl, rfl, rfl, rfl, rfl, rfl, trivial⟩
    refine in_n ?_
    refine then_n ?_
    refine wp_region_lit ?_
    refine list_val F (wn rfl) rfl rfl (.int .i64 ((j : Nat) : Int)) (ex_move _ rfl _ (F.e rfl)) ?_; clear F a; intro a F
    refine list_val F (wn rfl) rfl rfl (.int .i64 ((j + 1 : Nat) : Int)) (ex_bin .add _ _ _ _ rfl .i64 _ _ (F.e rfl) rfl _ (b_add ((w_i64 (by omega) (by omega)).trans (by omega)))) ?_; clear F a; intro a F
    refine list_val F (wn rfl) rfl rfl (.int .i64 ((j + 1 : Nat) : Int)) (ex_assign _ rfl _ (F.e rfl)) ?_; clear F a; intro a F
    refine wpList_nil ?_
    replace F : Fr 32 a [(0, .string (ST.str s)), (1, .string (ST.str set)), (4, .bool false), (5, .int .i64 ((i : Nat) : Int)), (6, .bool true), (7, .int .i64 ((j + 1 : Nat) : Int)), (11, .bool true), (17, .bool true)] := F.keep ⟨rfl, rfl, rfl, rfl, rfl, rfl, rfl, rfl, trivial⟩
    refine then_n ?_
    exact ⟨set.length - (j + 1), by omega, (j + 1), true, F.keep ⟨rfl, rfl, rfl, rfl, rfl, rfl, rfl, trivial⟩, (by refine M.pick' [] _ ?_ (by decide); exact trivial), (by omega), (by rw [has_more hy, ← hf]; rfl), (by omega)⟩
   obtain rfl : f = false := Bool.eq_false_iff.2 hft
   refine region_tail 10 g6_follows_mixedOrders (by kernel_rfl) M ?_; clear M; intro v M hb
   clear hb; try clear u
   refine still_val F (wn rfl) rfl rfl (.bool false) (ex_move _ rfl _ (F.e rfl)) ?_; clear F a; intro a F
   refine still_val F (wn rfl) rfl rfl (.bool false) (ex_move _ rfl _ (F.e rfl)) ?_; clear F a; intro a F
   refine still_val F (F.wants 21 false rfl (by kernel_rfl) rfl true rfl) rfl rfl (.string (ST.str set)) (ex_move _ rfl _ (F.e rfl)) ?_; clear F a; intro a F
   refine still_val F (F.wants 21 false rfl (by kernel_rfl) rfl true rfl) rfl rfl (.int .i64 ((j : Nat) : Int)) (ex_move _ rfl _ (F.e rfl)) ?_; clear F a; intro a F
   refine still_val F (F.wants 21 false rfl (by kernel_rfl) rfl true rfl) rfl rfl (.int .u8 ((y.toNat : Nat) : Int)) (ST.ex_ixs 9 _ _ rfl un9 set (F.e rfl) .i64 _ (F.e rfl) j rfl y hy) ?_; clear F a; intro a F
   refine still_val F (F.wants 21 false rfl (by kernel_rfl) rfl true rfl) rfl rfl (.string (ST.str s)) (ex_move _ rfl _ (F.e rfl)) ?_; clear F a; intro a F
   refine still_val F (F.wants 21 false rfl (by kernel_rfl) rfl true rfl) rfl rfl (.int .i64 ((i : Nat) : Int)) (ex_move _ rfl _ (F.e rfl)) ?_; clear F a; intro a F
   refine still_val F (F.wants 21 false rfl (by kernel_rfl) rfl true rfl) rfl rfl (.int .u8 ((x.toNat : Nat) : Int)) (ST.ex_ixs 9 _ _ rfl un9 s (F.e rfl) .i64 _ (F.e rfl) i rfl x hx) ?_; clear F a; intro a F
   refine still_val F (F.wants 21 false rfl (by kernel_rfl) rfl true rfl) rfl rfl (.bool (x == y)) (ex_bin .eql _ _ _ _ rfl .u8 _ _ (F.e rfl) (F.e rfl) _ (b_eql (u8_ieq x y))) ?_; clear F a; intro a F
   refine still_val F (wn rfl) rfl rfl (.bool (x == y)) (ex_pick_f _ _ _ rfl (F.e rfl) _ (F.e rfl)) ?_; clear F a; intro a F
   refine still_end ?_
   refine list_val F (wn rfl) rfl rfl (.bool (x == y)) (ex_assign _ rfl _ (F.e rfl)) ?_; clear F a; intro a F
   refine wpList_nil ?_
   replace F : Fr 32 a [(0, .string (ST.str s)), (1, .string (ST.str set)), (4, .bool false), (5, .int .i64 ((i : Nat) : Int)), (6, .bool (x == y)), (7, .int .i64 ((j : Nat) : Int)), (11, .bool true), (17, .bool true)] := F.keep ⟨rfl, rfl, rfl, rfl, rfl, rfl, rfl, rfl, trivial⟩
   refine in_n ?_
   refine then_n ?_
   refine wp_region_lit ?_
   refine list_val F (wn rfl) rfl rfl (.int .i64 ((j : Nat) : Int)) (ex_move _ rfl _ (F.e rfl)) ?_; clear F a; intro a F
   refine list_val F (wn rfl) rfl rfl (.int .i64 ((j + 1 : Nat) : Int)) (ex_bin .add _ _ _ _ rfl .i64 _ _ (F.e rfl) rfl _ (b_add ((w_i64 (by omega) (by omega)).trans (by omega)))) ?_; clear F a; intro a F
   refine list_val F (wn rfl) rfl rfl (.int .i64 ((j + 1 : Nat) : Int)) (ex_assign _ rfl _ (F.e rfl)) ?_; clear F a; intro a F
   refine wpList_nil ?_
   replace F : Fr 32 a [(0, .string (ST.str s)), (1, .string (ST.str set)), (4, .bool false), (5, .int .i64 ((i : Nat) : Int)), (6, .bool (x == y)), (7, .int .i64 ((j + 1 : Nat) : Int)), (11, .bool true), (17, .bool true)] := F.keep ⟨rfl, rfl, rfl, rfl, rfl, rfl, rfl, rfl, trivial⟩
   refine then_n ?_
   exact ⟨set.length - (j + 1), by omega, (j + 1), (x == y), F.keep ⟨rfl, rfl, rfl, rfl, rfl, rfl, rfl, trivial⟩, (by refine M.pick' [] _ ?_ (by decide); exact trivial), (by omega), (by rw [has_more hy, ← hf]; rfl), (by omega)⟩
  obtain rfl : j = set.length := by omega
  rw [List.take_length, hset x (List.mem_of_getElem? hx)] at hf
  subst hf
  refine wp_seq ?_
  refine wp_seq ?_
  refine wp_region_lit ?_
  refine list_val F (wn rfl) rfl rfl (.int .i64 ((set.length : Nat) : Int)) (ex_move _ rfl _ (F.e rfl)) ?_; clear F a; intro a F
  refine list_val F (wn rfl) rfl rfl (.string (ST.str set)) (ex_move _ rfl _ (F.e rfl)) ?_; clear F a; intro a F
  refine list_val F (wn rfl) rfl rfl (.int .i64 ((set.length : Nat) : Int)) (ST.ex_lens _ 9 rfl un9 set (F.e rfl)) ?_; clear F a; intro a F
  refine list_val F (wn rfl) rfl rfl (.bool false) (ex_bin .lss _ _ _ _ rfl .i64 _ _ (F.e rfl) (F.e rfl) _ (b_lss (decide_eq_false (by omega)))) ?_; clear F a; intro a F
  refine wpList_nil ?_
  replace F : Fr 32 a [(0, .string (ST.str s)), (1, .string (ST.str set)), (4, .bool false), (5, .int .i64 ((i : Nat) : Int)), (6, .bool true), (7, .int .i64 ((set.length : Nat) : Int)), (11, .bool true), (17, .bool false)] := F.keep ⟨rfl, rfl, rfl, rfl, rfl, rfl, rfl, rfl, trivial⟩
  refine then_n ?_
  refine wp_cond_false (F.e rfl) ?_
  refine wp_exit ?_
  refine then_x ?_
  refine then_x ?_
  refine in_hit ?_
  refine then_n ?_
  refine wp_seq ?_
  refine wp_region_lit ?_
  refine list_val F (wn rfl) rfl rfl (.bool true) (ex_move _ rfl _ (F.e rfl)) ?_; clear F a; intro a F
  refine list_val F (wn rfl) rfl rfl (.bool false) (ex_not _ _ rfl _ (F.e rfl) _ rfl) ?_; clear F a; intro a F
  refine wpList_nil ?_
  replace F : Fr 32 a [(0, .string (ST.str s)), (1, .string (ST.str set)), (4, .bool false), (5, .int .i64 ((i : Nat) : Int)), (6, .bool true), (7, .int .i64 ((set.length : Nat) : Int)), (11, .bool true), (17, .bool false), (31, .bool false)] := F.keep ⟨rfl, rfl, rfl, rfl, rfl, rfl, rfl, rfl, rfl, trivial⟩
  refine then_n ?_
  refine wp_cond_false (F.e rfl) ?_
  refine wp_skip ?_
  refine in_n ?_
  refine then_n ?_
  refine wp_region_lit ?_
  refine list_val F (wn rfl) rfl rfl (.int .i64 ((i : Nat) : Int)) (ex_move _ rfl _ (F.e rfl)) ?_; clear F a; intro a F
  refine list_val F (wn rfl) rfl rfl (.int .i64 ((i + 1 : Nat) : Int)) (ex_bin .add _ _ _ _ rfl .i64 _ _ (F.e rfl) rfl _ (b_add ((w_i64 (by omega) (by omega)).trans (by omega)))) ?_; clear F a; intro a F
  refine list_val F (wn rfl) rfl rfl (.int .i64 ((i + 1 : Nat) : Int)) (ex_assign _ rfl _ (F.e rfl)) ?_; clear F a; intro a F
  refine wpList_nil ?_
  replace F : Fr 32 a [(0, .string (ST.str s)), (1, .string (ST.str set)), (4, .bool false), (5, .int .i64 ((i + 1 : Nat) : Int)), (6, .bool true), (7, .int .i64 ((set.length : Nat) : Int)), (11, .bool true), (17, .bool false), (31, .bool false)] := F.keep ⟨rfl, rfl, rfl, rfl, rfl, rfl, rfl, rfl, rfl, trivial⟩
  refine then_n ?_
  exact ⟨s.length - (i + 1), by omega, (i + 1), F.keep ⟨rfl, rfl, rfl, rfl, trivial⟩, (by refine M.pick' [] _ ?_ (by decide); exact trivial), (by omega), (by omega)⟩
 refine wp_seq ?_
 refine wp_seq ?_
 refine wp_region_lit ?_
 refine list_val F (wn rfl) rfl rfl (.int .i64 ((i : Nat) : Int)) (ex_move _ rfl _ (F.e rfl)) ?_; clear F a; intro a F
 refine list_val F (wn rfl) rfl rfl (.string (ST.str s)) (ex_move _ rfl _ (F.e rfl)) ?_; clear F a; intro a F
 refine list_val F (wn rfl) rfl rfl (.int .i64 ((s.length : Nat) : Int)) (ST.ex_lens _ 9 rfl un9 s (F.e rfl)) ?_; clear F a; intro a F
 refine list_val F (wn rfl) rfl rfl (.bool false) (ex_bin .lss _ _ _ _ rfl .i64 _ _ (F.e rfl) (F.e rfl) _ (b_lss (decide_eq_false (by omega)))) ?_; clear F a; intro a F
 refine wpList_nil ?_
 replace F : Fr 32 a [(0, .string (ST.str s)), (1, .string (ST.str set)), (4, .bool false), (5, .int .i64 ((i : Nat) : Int)), (11, .bool false)] := F.keep ⟨rfl, rfl, rfl, rfl, rfl, trivial⟩
 refine then_n ?_
 refine wp_cond_false (F.e rfl) ?_
 refine wp_exit ?_
 refine then_x ?_
 refine then_x ?_
 refine in_hit ?_
 refine then_n ?_
 refine wp_seq ?_
 refine wp_region_lit ?_
 refine list_val F (wn rfl) rfl rfl (.bool true) (ex_assign _ rfl _ rfl) ?_; clear F a; intro a F
 refine wpList_nil ?_
 replace F : Fr 32 a [(0, .string (ST.str s)), (1, .string (ST.str set)), (4, .bool true), (5, .int .i64 ((i : Nat) : Int)), (11, .bool false)] := F.keep ⟨rfl, rfl, rfl, rfl, rfl, trivial⟩
 refine then_n ?_
 refine wp_ret ?_
 exact ret_tmp F rfl rfl ⟨rfl, M.bel⟩
theorem g6_ent_25 : ent? Tryd.prog 25 = true := by kernel_rfl
theorem g6_ent_26 : ent? Tryd.prog 26 = true := by kernel_rfl
theorem g6_cv_3_5_u8 : cv? Tryd.prog 3 5 .u8 = true := by kernel_rfl
set_option maxHeartbeats 1000000 in
set_option maxRecDepth 100000 in
theorem bytes16_more (s : List UInt8) (w : World) (hmx : s.length ≤ 4000000) :
    Calls Tryd.prog 16 #[.string (ST.str s)] w fun r w' => ∃ A' c', r = .returned (.tuple #[.slice A' (b16R s).1.length c', .int .i64 (b16R s).2]) ∧ Ow ST.kB 5 w' w.heap.size (.slice A' (b16R s).1.length c') (b16R s).1 ∧ Below w.heap.size w w' := by
 refine calls_start Tryd.func16 rfl rfl rfl (fun a F => ?_)
 have M : Mm w w [] := Mm.nil w
 refine wp_seq ?_
 refine wp_region_lit ?_
 refine list_val F (wn rfl) rfl rfl (.slice none 0 0) (ex_assign _ rfl _ rfl) ?_; clear F a; intro a F
 refine list_val F (wn rfl) rfl rfl (.int .i64 0) (ex_assign _ rfl _ rfl) ?_; clear F a; intro a F
 refine wpList_nil ?_
 replace F : Fr 41 a [(0, .string (ST.str s)), (2, .slice none 0 0), (3, .int .i64 0)] := F.keep ⟨rfl, rfl, rfl, trivial⟩
 refine then_n ?_
 refine wp_seq ?_
 refine wp_block ?_
 refine wp_seq ?_
 by_cases hd : Lib.trimS s sHex = []
 ·
  refine wp_region_lit ?_
  refine list_val F (wn rfl) rfl rfl (.string (ST.str s)) (ex_move _ rfl _ (F.e rfl)) ?_; clear F a; intro a F
  refine list_do (wn rfl) (fun K hK => ?_)
  refine ow_call rfl rfl F 25 #[.string (ST.str s), .string (ST.str sHex)] (ex_call 25 _ _ rfl rfl g6_ent_25 _ (map2 (F.e rfl) rfl)) (Tryd.strings_Trim_set (ST.str s) (ST.str sHex) _ (by rw [ST.str_size]; omega) (by rw [ST.str_size]; decide) hex_ascii) (fun e v hR => ?_)
  obtain ⟨he, hb⟩ := hR
  rw [ST.str_data, ST.str_data] at he
  refine ⟨.string (ST.str (Lib.trimS s sHex)), he, ?_⟩; clear he F a; intro a F
  refine hK _ _ ?_
  clear hK K
  replace M := M.below hb; clear hb; try clear w
  refine list_val F (wn rfl) rfl rfl (.bool false) (ST.ex_neqs _ _ _ _ rfl (Lib.trimS s sHex) ([] : List UInt8) (F.e rfl) rfl false (by rw [hd]; rfl)) ?_; clear F a; intro a F
  refine list_val F (wn rfl) rfl rfl (.bool false) (ex_assign _ rfl _ (F.e rfl)) ?_; clear F a; intro a F
  refine wpList_nil ?_
  replace F : Fr 41 a [(0, .string (ST.str s)), (2, .slice none 0 0), (3, .int .i64 0), (6, .bool false)] := F.keep ⟨rfl, rfl, rfl, rfl, trivial⟩
  refine then_n ?_
  refine wp_cond_false (F.e rfl) ?_
  refine wp_seq ?_
  by_cases hm2 : s.length % 2 = 0
  ·
   have hhx := (trimS_nil _ _).1 hd
   refine wp_region_lit ?_
   refine list_val F (wn rfl) rfl rfl (.string (ST.str s)) (ex_move _ rfl _ (F.e rfl)) ?_; clear F a; intro a F
   refine list_val F (wn rfl) rfl rfl (.int .i64 ((s.length : Nat) : Int)) (ST.ex_lens _ 9 rfl un9 s (F.e rfl)) ?_; clear F a; intro a F
   refine list_val F (wn rfl) rfl rfl (.int .i64 ((s.length % 2 : Nat) : Int)) (ex_bin .rem _ _ _ _ rfl .i64 _ _ (F.e rfl) rfl _ (b_rem (by decide) (i_rem _ 2))) ?_; clear F a; intro a F
   refine list_val F (wn rfl) rfl rfl (.bool false) (ex_bin .neq _ _ _ _ rfl .i64 _ _ (F.e rfl) rfl _ (b_neq (by rw [hm2]; rfl))) ?_; clear F a; intro a F
   refine list_val F (wn rfl) rfl rfl (.bool false) (ex_assign _ rfl _ (F.e rfl)) ?_; clear F a; intro a F
   refine wpList_nil ?_
   replace F : Fr 41 a [(0, .string (ST.str s)), (2, .slice none 0 0), (3, .int .i64 0), (6, .bool false), (10, .bool false)] := F.keep ⟨rfl, rfl, rfl, rfl, rfl, trivial⟩
   refine then_n ?_
   refine wp_cond_false (F.e rfl) ?_
   refine wp_skip ?_
   refine in_n ?_
   refine then_n ?_
   refine wp_seq ?_
   refine wp_region_lit ?_
   refine list_val F (wn rfl) rfl rfl (.string (ST.str s)) (ex_move _ rfl _ (F.e rfl)) ?_; clear F a; intro a F
   refine list_val F (wn rfl) rfl rfl (.int .i64 ((s.length : Nat) : Int)) (ST.ex_lens _ 9 rfl un9 s (F.e rfl)) ?_; clear F a; intro a F
   refine list_val F (wn rfl) rfl rfl (.int .i64 ((s.length / 2 : Nat) : Int)) (ex_bin .quo _ _ _ _ rfl .i64 _ _ (F.e rfl) rfl _ (b_quo (by decide) (i_quo _ 2 (by omega)))) ?_; clear F a; intro a F
   refine list_do (wn rfl) (fun K hK => ?_)
   refine ow_make0 (enc := ST.bc) (m := 1) (hl := ST.bc_len) (h1 := ST.bc_one) F M Tryd.underlying28 i5 rfl rfl _ _ rfl rfl _ (F.e rfl) (s.length / 2) rfl (by omega) (by show _ ≤ 9223372036854775807; omega) ?_
   clear F M a; intro a g18 u F M O_x hb
   refine hK _ _ ?_
   clear hK K
   clear hb; try clear v
   refine list_val F (wn rfl) rfl rfl (.slice (some ⟨g18, 0, none⟩) 0 (s.length / 2)) (ex_assign _ rfl _ (F.e rfl)) ?_; clear F a; intro a F
   refine wpList_nil ?_
   replace F : Fr 41 a [(0, .string (ST.str s)), (2, .slice none 0 0), (3, .int .i64 0), (4, .slice (some ⟨g18, 0, none⟩) 0 (s.length / 2)), (6, .bool false), (10, .bool false)] := F.keep ⟨rfl, rfl, rfl, rfl, rfl, rfl, trivial⟩
   refine then_n ?_
   refine wp_seq ?_
   refine wp_seq ?_
   refine wp_region_lit ?_
   refine list_val F (wn rfl) rfl rfl (.int .i64 0) (ex_assign _ rfl _ rfl) ?_; clear F a; intro a F
   refine wpList_nil ?_
   replace F : Fr 41 a [(0, .string (ST.str s)), (2, .slice none 0 0), (3, .int .i64 0), (4, .slice (some ⟨g18, 0, none⟩) 0 (s.length / 2)), (5, .int .i64 0), (6, .bool false), (10, .bool false)] := F.keep ⟨rfl, rfl, rfl, rfl, rfl, rfl, rfl, trivial⟩
   refine then_n ?_
   refine wp_block ?_
   refine wp_loopN (fun mq ar wr => ∃ (j : Nat), ∃ (A_o : Option Addr), ∃ (c_o : Nat), Fr 41 ar [(0, .string (ST.str s)), (2, .slice none 0 0), (3, .int .i64 0), (4, .slice A_o ((un16 (s.take (2 * j))).length) c_o), (5, .int .i64 ((2 * j : Nat) : Int)), (6, .bool false), (10, .bool false)] ∧ Mm w wr [] ∧ Ow ST.kB 5 wr w.heap.size (.slice A_o ((un16 (s.take (2 * j))).length) c_o) (un16 (s.take (2 * j))) ∧ 2 * j ≤ s.length ∧ mq + j = s.length) s.length ?_ ?_
   ·
    exact ⟨0, (some ⟨g18, 0, none⟩), (s.length / 2), F.keep ⟨rfl, rfl, rfl, rfl, rfl, rfl, rfl, trivial⟩, M, O_x, (Nat.zero_le _), (by omega)⟩
   clear F M a O_x
   rintro mq a v ⟨j, A_o, c_o, F, M, O_x, hi, hq⟩; try clear u
   by_cases hin : 2 * j < s.length
   ·
    obtain ⟨x, hx⟩ : ∃ x, s[2 * j]? = some x := ⟨_, List.getElem?_eq_getElem (by omega)⟩
    obtain ⟨y, hy⟩ : ∃ x, s[2 * j + 1]? = some x := ⟨_, List.getElem?_eq_getElem (by omega)⟩
    have hxk := hex_ix (hhx x (List.mem_of_getElem? hx))
    have hyk := hex_ix (hhx y (List.mem_of_getElem? hy))
    have hx16 := hxk.2
    have hy16 := hyk.2
    refine wp_seq ?_
    refine wp_seq ?_
    refine wp_region_lit ?_
    refine list_val F (wn rfl) rfl rfl (.int .i64 ((2 * j : Nat) : Int)) (ex_move _ rfl _ (F.e rfl)) ?_; clear F a; intro a F
    refine list_val F (wn rfl) rfl rfl (.string (ST.str s)) (ex_move _ rfl _ (F.e rfl)) ?_; clear F a; intro a F
    refine list_val F (wn rfl) rfl rfl (.int .i64 ((s.length : Nat) : Int)) (ST.ex_lens _ 9 rfl un9 s (F.e rfl)) ?_; clear F a; intro a F
    refine list_val F (wn rfl) rfl rfl (.bool true) (ex_bin .lss _ _ _ _ rfl .i64 _ _ (F.e rfl) (F.e rfl) _ (b_lss (decide_eq_true (by omega)))) ?_; clear F a; intro a F
    refine wpList_nil ?_
    replace F : Fr 41 a [(0, .string (ST.str s)), (2, .slice none 0 0), (3, .int .i64 0), (4, .slice A_o ((un16 (s.take (2 * j))).length) c_o), (5, .int .i64 ((2 * j : Nat) : Int)), (6, .bool false), (10, .bool false), (22, .bool true)] := F.keep ⟨rfl, rfl, rfl, rfl, rfl, rfl, rfl, rfl, trivial⟩
    refine then_n ?_
    refine wp_cond_true (F.e rfl) ?_
    refine wp_skip ?_
    refine then_n ?_
    refine wp_seq ?_
    refine wp_block ?_
    refine wp_only (fun ar wr => ∃ (g38 : Nat), ∃ (A_39 : Option Addr), ∃ (c_39 : Nat), Fr 41 ar [(0, .string (ST.str s)), (2, .slice none 0 0), (3, .int .i64 0), (4, .slice A_39 (((un16 (s.take (2 * j))) ++ [(UInt8.ofNat (hv x * 16 + hv y))]).length) c_39), (5, .int .i64 ((2 * j : Nat) : Int)), (6, .bool false), (10, .bool false), (22, .bool true)] ∧ Mm w wr [] ∧ Ow ST.kB 5 wr w.heap.size (.slice A_39 (((un16 (s.take (2 * j))) ++ [(UInt8.ofNat (hv x * 16 + hv y))]).length) c_39) ((un16 (s.take (2 * j))) ++ [(UInt8.ofNat (hv x * 16 + hv y))])) ?_ ?_
    ·
     refine region_anyM g6_follows_mixedOrders M [] (fun w' M => (by refine M.pick' [] _ ?_ (by decide); exact trivial)) ?_; clear M; intro wD M hb
     replace O_x := O_x.below hb
     clear hb; try clear v
     have hS : Mm w wD [] := (by refine M.pick' [] _ ?_ (by decide); exact trivial)
     refine any_val F 0 rfl (by kernel_rfl) (wn rfl) rfl rfl (.slice A_o ((un16 (s.take (2 * j))).length) c_o) (fun w' hS' => ex_move _ rfl _ (F.e rfl)) hS ?_; clear F a; intro a F
     refine any_val F 1 rfl (by kernel_rfl) (wn rfl) rfl rfl (.string (ST.str s)) (fun w' hS' => ex_move _ rfl _ (F.e rfl)) hS ?_; clear F a; intro a F
     refine any_val F 2 rfl (by kernel_rfl) (wn rfl) rfl rfl (.int .i64 ((2 * j : Nat) : Int)) (fun w' hS' => ex_move _ rfl _ (F.e rfl)) hS ?_; clear F a; intro a F
     refine any_val F 3 rfl (by kernel_rfl) (wn rfl) rfl rfl (.int .u8 ((x.toNat : Nat) : Int)) (fun w' hS' => ST.ex_ixs 9 _ _ rfl un9 s (F.e rfl) .i64 _ (F.e rfl) (2 * j) rfl x hx) hS ?_; clear F a; intro a F
     refine any_val F 6 rfl (by kernel_rfl) (wn rfl) rfl rfl (.string (ST.str s)) (fun w' hS' => ex_move _ rfl _ (F.e rfl)) hS ?_; clear F a; intro a F
     refine any_val F 7 rfl (by kernel_rfl) (wn rfl) rfl rfl (.int .i64 ((2 * j : Nat) : Int)) (fun w' hS' => ex_move _ rfl _ (F.e rfl)) hS ?_; clear F a; intro a F
     refine any_val F 8 rfl (by kernel_rfl) (wn rfl) rfl rfl (.int .i64 ((2 * j + 1 : Nat) : Int)) (fun w' hS' => ex_bin .add _ _ _ _ rfl .i64 _ _ (F.e rfl) rfl _ (b_add ((w_i64 (by omega) (by omega)).trans (by omega)))) hS ?_; clear F a; intro a F
     refine any_val F 9 rfl (by kernel_rfl) (wn rfl) rfl rfl (.int .u8 ((y.toNat : Nat) : Int)) (fun w' hS' => ST.ex_ixs 9 _ _ rfl un9 s (F.e rfl) .i64 _ (F.e rfl) (2 * j + 1) rfl y hy) hS ?_; clear F a; intro a F
     refine any_ready [4] (by kernel_rfl) (by simp) ?_
     refine ready_do rfl (wn rfl) (fun K hK => ?_) AllReadyH.nil
     refine ow_call rfl rfl F 26 #[.string (ST.str sHex), .int .u8 ((x.toNat : Nat) : Int)] (ex_call 26 _ _ rfl rfl g6_ent_26 _ (map2 rfl (F.e rfl))) (Tryd.strings_IndexByte (ST.str sHex) _ _) (fun e v hR => ?_)
     obtain ⟨he, hw⟩ := hR
     rw [ST.str_data, byte_back, index_some hxk.1] at he
     refine ⟨.int .i64 ((hv x : Nat) : Int), he, ?_⟩; clear he F a; intro a F
     replace hw := hw.symm; subst hw
     replace hS : Mm w wD [] := (by refine M.pick' [] _ ?_ (by decide); exact trivial)
     refine hK _ _ hS ?_
     clear hK K
     refine any_val F 5 rfl (by kernel_rfl) (wn rfl) rfl rfl (.int .i64 (((hv x * 16) : Nat) : Int)) (fun w' hS' => ST.ex_shlN _ _ _ _ rfl .i64 .u64 (hv x) 4 _ (F.e rfl) rfl rfl (by show _ ≤ 64; omega) (hv x * 16) rfl (w_i64 (by omega) (by omega))) hS ?_; clear F a; intro a F
     refine any_ready [10] (by kernel_rfl) (by simp) ?_
     refine ready_do rfl (wn rfl) (fun K hK => ?_) AllReadyH.nil
     refine ow_call rfl rfl F 26 #[.string (ST.str sHex), .int .u8 ((y.toNat : Nat) : Int)] (ex_call 26 _ _ rfl rfl g6_ent_26 _ (map2 rfl (F.e rfl))) (Tryd.strings_IndexByte (ST.str sHex) _ _) (fun e v hR => ?_)
     obtain ⟨he, hw⟩ := hR
     rw [ST.str_data, byte_back, index_some hyk.1] at he
     refine ⟨.int .i64 ((hv y : Nat) : Int), he, ?_⟩; clear he F a; intro a F
     replace hw := hw.symm; subst hw
     replace hS : Mm w wD [] := (by refine M.pick' [] _ ?_ (by decide); exact trivial)
     refine hK _ _ hS ?_
     clear hK K
     refine any_val F 11 rfl (by kernel_rfl) (wn rfl) rfl rfl (.int .i64 (((hv x * 16 + hv y) : Nat) : Int)) (fun w' hS' => ST.ex_orN _ _ _ _ rfl .i64 (hv x * 16) (hv y) (F.e rfl) (F.e rfl) (by show _ < 18446744073709551616; omega) (by show _ < 18446744073709551616; omega) (hv x * 16 + hv y) (or16h _ _ hy16) (w_i64 (by omega) (by omega))) hS ?_; clear F a; intro a F
     refine any_val F 12 rfl (by kernel_rfl) (wn rfl) rfl rfl (.int .u8 (((UInt8.ofNat (hv x * 16 + hv y)).toNat : Nat) : Int)) (fun w' hS' => ex_conv _ _ _ rfl _ .u8 g6_cv_3_5_u8 _ (F.e rfl) _ (by rw [o8 _ (by omega)]; exact w_u8 (by omega) (by omega))) hS ?_; clear F a; intro a F
     refine any_ready [13] (by kernel_rfl) (by simp) ?_
     refine ready_do rfl (wn rfl) (fun K hK => ?_) AllReadyH.nil
     refine ow_bslice F M rfl rfl 28 1 _ rfl #[(0, .int .u8 (((UInt8.ofNat (hv x * 16 + hv y)).toNat : Nat) : Int))] (parts1 (F.e rfl)) (([(UInt8.ofNat (hv x * 16 + hv y))].flatMap ST.bc).toArray) 5 (newby1 (UInt8.ofNat (hv x * 16 + hv y)) _) ?_
     clear F M a; intro a g38 v F M hb hg
     replace hS : Mm w v [] := (by refine M.pick' [] _ ?_ (by decide); exact trivial)
     refine hK _ _ hS ?_
     clear hK K
     replace O_x := O_x.below hb
     clear hb hg; try clear wD
     refine any_ready [14] (by kernel_rfl) (by simp) ?_
     refine ready_do rfl (wn rfl) (fun K hK => ?_) AllReadyH.nil
     have hxx := C_bytes (l := [(UInt8.ofNat (hv x * 16 + hv y))]) (by simp) (M.at (i := 0) rfl)
     replace M : Mm w v [] := (by refine M.pick' [] _ ?_ (by decide); exact trivial)
     refine og_app F M Tryd.underlying28 i5 z5s (by decide) (by decide) (Nat.le_refl _) M.bel.size trivial rfl rfl rfl _ _ rfl (.slice A_o ((un16 (s.take (2 * j))).length) c_o) (un16 (s.take (2 * j))) ([(UInt8.ofNat (hv x * 16 + hv y))]) ((un16 (s.take (2 * j))) ++ [(UInt8.ofNat (hv x * 16 + hv y))]) rfl (some ⟨g38, 0, none⟩) 1 1 (F.e rfl) (F.e rfl) O_x (hxx) (by have h_ := un16_len (s.take (2 * j)); rw [List.length_take] at h_; omega) ?_
     clear F a; have Mo := M; clear M; intro a A_39 c_39 u F M Oz hgr
     replace hS : Mm w u [] := (by refine M.pick' [] _ ?_ (by decide); exact trivial)
     refine hK _ _ hS ?_
     clear hK K
     clear O_x Mo hgr; have O_x := Oz; clear Oz; try clear v
     clear hxx
     refine any_val F 15 rfl (by kernel_rfl) (wn rfl) rfl rfl (.slice A_39 (((un16 (s.take (2 * j))) ++ [(UInt8.ofNat (hv x * 16 + hv y))]).length) c_39) (fun w' hS' => ex_assign _ rfl _ (F.e rfl)) hS ?_; clear F a; intro a F
     refine any_done (by kernel_rfl) ?_
     exact ⟨g38, A_39, c_39, F.keep ⟨rfl, rfl, rfl, rfl, rfl, rfl, rfl, rfl, trivial⟩, (by refine M.pick' [] _ ?_ (by decide); exact trivial), O_x⟩
    clear F M a O_x
    intro a u hR; obtain ⟨g38, A_39, c_39, F, M, O_x⟩ := hR; try clear v
    refine in_n ?_
    refine then_n ?_
    refine wp_region_lit ?_
    refine list_val F (wn rfl) rfl rfl (.int .i64 ((2 * j : Nat) : Int)) (ex_move _ rfl _ (F.e rfl)) ?_; clear F a; intro a F
    refine list_val F (wn rfl) rfl rfl (.int .i64 ((2 * j + 2 : Nat) : Int)) (ex_bin .add _ _ _ _ rfl .i64 _ _ (F.e rfl) rfl _ (b_add ((w_i64 (by omega) (by omega)).trans (by omega)))) ?_; clear F a; intro a F
    refine list_val F (wn rfl) rfl rfl (.int .i64 ((2 * j + 2 : Nat) : Int)) (ex_assign _ rfl _ (F.e rfl)) ?_; clear F a; intro a F
    refine wpList_nil ?_
    replace F : Fr 41 a [(0, .string (ST.str s)), (2, .slice none 0 0), (3, .int .i64 0), (4, .slice A_39 (((un16 (s.take (2 * j))) ++ [(UInt8.ofNat (hv x * 16 + hv y))]).length) c_39), (5, .int .i64 ((2 * j + 2 : Nat) : Int)), (6, .bool false), (10, .bool false), (22, .bool true)] := F.keep ⟨rfl, rfl, rfl, rfl, rfl, rfl, rfl, rfl, trivial⟩
    refine then_n ?_
    have htk := un16_snoc (l := s.take (2 * j)) (a := x) (b := y) (by rw [List.length_take]; omega)
    rw [← take_two hx hy, show 2 * j + 2 = 2 * (j + 1) by omega] at htk
    rw [← htk] at F O_x
    rw [show 2 * j + 2 = 2 * (j + 1) by omega] at F
    exact ⟨s.length - (j + 1), by omega, (j + 1), A_39, c_39, F.keep ⟨rfl, rfl, rfl, rfl, rfl, rfl, rfl, trivial⟩, (by refine M.pick' [] _ ?_ (by decide); exact trivial), O_x, (by omega), (by omega)⟩
   have hj2 : 2 * j = s.length := by omega
   rw [hj2, List.take_length] at F O_x
   refine wp_seq ?_
   refine wp_seq ?_
   refine wp_region_lit ?_
   refine list_val F (wn rfl) rfl rfl (.int .i64 ((s.length : Nat) : Int)) (ex_move _ rfl _ (F.e rfl)) ?_; clear F a; intro a F
   refine list_val F (wn rfl) rfl rfl (.string (ST.str s)) (ex_move _ rfl _ (F.e rfl)) ?_; clear F a; intro a F
   refine list_val F (wn rfl) rfl rfl (.int .i64 ((s.length : Nat) : Int)) (ST.ex_lens _ 9 rfl un9 s (F.e rfl)) ?_; clear F a; intro a F
   refine list_val F (wn rfl) rfl rfl (.bool false) (ex_bin .lss _ _ _ _ rfl .i64 _ _ (F.e rfl) (F.e rfl) _ (b_lss (decide_eq_false (by omega)))) ?_; clear F a; intro a F
   refine wpList_nil ?_
   replace F : Fr 41 a [(0, .string (ST.str s)), (2, .slice none 0 0), (3, .int .i64 0), (4, .slice A_o ((un16 s).length) c_o), (5, .int .i64 ((s.length : Nat) : Int)), (6, .bool false), (10, .bool false), (22, .bool false)] := F.keep ⟨rfl, rfl, rfl, rfl, rfl, rfl, rfl, rfl, trivial⟩
   refine then_n ?_
   refine wp_cond_false (F.e rfl) ?_
   refine wp_exit ?_
   refine then_x ?_
   refine then_x ?_
   refine in_hit ?_
   refine then_n ?_
   refine wp_seq ?_
   refine wp_region_lit ?_
   refine list_val F (wn rfl) rfl rfl (.slice A_o ((un16 s).length) c_o) (ex_move _ rfl _ (F.e rfl)) ?_; clear F a; intro a F
   refine list_val F (wn rfl) rfl rfl (.slice A_o ((un16 s).length) c_o) (ex_assign _ rfl _ (F.e rfl)) ?_; clear F a; intro a F
   refine list_val F (wn rfl) rfl rfl (.int .i64 0) (ex_assign _ rfl _ rfl) ?_; clear F a; intro a F
   refine wpList_nil ?_
   replace F : Fr 41 a [(0, .string (ST.str s)), (2, .slice A_o ((un16 s).length) c_o), (3, .int .i64 0), (4, .slice A_o ((un16 s).length) c_o), (5, .int .i64 ((s.length : Nat) : Int)), (6, .bool false), (10, .bool false), (22, .bool false)] := F.keep ⟨rfl, rfl, rfl, rfl, rfl, rfl, rfl, rfl, trivial⟩
   refine then_n ?_
   refine wp_ret ?_
   rw [b16_ok hd hm2]
   exact ret_tmp2 F rfl rfl rfl ⟨_, _, rfl, O_x, M.bel⟩
  refine wp_region_lit ?_
  refine list_val F (wn rfl) rfl rfl (.string (ST.str s)) (ex_move _ rfl _ (F.e rfl)) ?_; clear F a; intro a F
  refine list_val F (wn rfl) rfl rfl (.int .i64 ((s.length : Nat) : Int)) (ST.ex_lens _ 9 rfl un9 s (F.e rfl)) ?_; clear F a; intro a F
  refine list_val F (wn rfl) rfl rfl (.int .i64 ((s.length % 2 : Nat) : Int)) (ex_bin .rem _ _ _ _ rfl .i64 _ _ (F.e rfl) rfl _ (b_rem (by decide) (i_rem _ 2))) ?_; clear F a; intro a F
  refine list_val F (wn rfl) rfl rfl (.bool true) (ex_bin .neq _ _ _ _ rfl .i64 _ _ (F.e rfl) rfl _ (b_neq (by simp; omega))) ?_; clear F a; intro a F
  refine list_val F (wn rfl) rfl rfl (.bool true) (ex_assign _ rfl _ (F.e rfl)) ?_; clear F a; intro a F
  refine wpList_nil ?_
  replace F : Fr 41 a [(0, .string (ST.str s)), (2, .slice none 0 0), (3, .int .i64 0), (6, .bool false), (10, .bool true)] := F.keep ⟨rfl, rfl, rfl, rfl, rfl, trivial⟩
  refine then_n ?_
  refine wp_cond_true (F.e rfl) ?_
  refine wp_seq ?_
  refine wp_region_lit ?_
  refine list_val F (wn rfl) rfl rfl (.slice none 0 0) (ex_assign _ rfl _ rfl) ?_; clear F a; intro a F
  refine list_val F (wn rfl) rfl rfl (.int .i64 11) (ex_assign _ rfl _ rfl) ?_; clear F a; intro a F
  refine wpList_nil ?_
  replace F : Fr 41 a [(0, .string (ST.str s)), (2, .slice none 0 0), (3, .int .i64 11), (6, .bool false), (10, .bool true)] := F.keep ⟨rfl, rfl, rfl, rfl, rfl, trivial⟩
  refine then_n ?_
  refine wp_ret ?_
  refine in_r ?_
  refine then_r ?_
  rw [b16_odd hd hm2]
  exact ret_tmp2 F rfl rfl rfl ⟨none, 0, rfl, Ow.nil _ _ _ _, M.bel⟩
 refine wp_region_lit ?_
 refine list_val F (wn rfl) rfl rfl (.string (ST.str s)) (ex_move _ rfl _ (F.e rfl)) ?_; clear F a; intro a F
 refine list_do (wn rfl) (fun K hK => ?_)
 refine ow_call rfl rfl F 25 #[.string (ST.str s), .string (ST.str sHex)] (ex_call 25 _ _ rfl rfl g6_ent_25 _ (map2 (F.e rfl) rfl)) (Tryd.strings_Trim_set (ST.str s) (ST.str sHex) _ (by rw [ST.str_size]; omega) (by rw [ST.str_size]; decide) hex_ascii) (fun e v hR => ?_)
 obtain ⟨he, hb⟩ := hR
 rw [ST.str_data, ST.str_data] at he
 refine ⟨.string (ST.str (Lib.trimS s sHex)), he, ?_⟩; clear he F a; intro a F
 refine hK _ _ ?_
 clear hK K
 replace M := M.below hb; clear hb; try clear w
 refine list_val F (wn rfl) rfl rfl (.bool true) (ST.ex_neqs _ _ _ _ rfl (Lib.trimS s sHex) ([] : List UInt8) (F.e rfl) rfl true (by rw [decide_eq_false hd]; rfl)) ?_; clear F a; intro a F
 refine list_val F (wn rfl) rfl rfl (.bool true) (ex_assign _ rfl _ (F.e rfl)) ?_; clear F a; intro a F
 refine wpList_nil ?_
 replace F : Fr 41 a [(0, .string (ST.str s)), (2, .slice none 0 0), (3, .int .i64 0), (6, .bool true)] := F.keep ⟨rfl, rfl, rfl, rfl, trivial⟩
 refine then_n ?_
 refine wp_cond_true (F.e rfl) ?_
 refine wp_seq ?_
 refine wp_region_lit ?_
 refine list_val F (wn rfl) rfl rfl (.slice none 0 0) (ex_assign _ rfl _ rfl) ?_; clear F a; intro a F
 refine list_val F (wn rfl) rfl rfl (.int .i64 10) (ex_assign _ rfl _ rfl) ?_; clear F a; intro a F
 refine wpList_nil ?_
 replace F : Fr 41 a [(0, .string (ST.str s)), (2, .slice none 0 0), (3, .int .i64 10), (6, .bool true)] := F.keep ⟨rfl, rfl, rfl, rfl, trivial⟩
 refine then_n ?_
 refine wp_ret ?_
 refine in_r ?_
 refine then_r ?_
 rw [b16_bad hd]
 exact ret_tmp2 F rfl rfl rfl ⟨none, 0, rfl, Ow.nil _ _ _ _, M.bel⟩
theorem g6_ent_7 : ent? Tryd.prog 7 = true := by kernel_rfl
theorem g6_ent_8 : ent? Tryd.prog 8 = true := by kernel_rfl
theorem g6_ent_6 : ent? Tryd.prog 6 = true := by kernel_rfl
theorem g6_ent_14 : ent? Tryd.prog 14 = true := by kernel_rfl
theorem g6_ent_15 : ent? Tryd.prog 15 = true := by kernel_rfl
theorem g6_ent_16 : ent? Tryd.prog 16 = true := by kernel_rfl
theorem g6_ent_11 : ent? Tryd.prog 11 = true := by kernel_rfl
theorem g6_sl_28_1 : sl? Tryd.prog 28 1 = true := by kernel_rfl
theorem g6_ent_30 : ent? Tryd.prog 30 = true := by kernel_rfl
set_option maxHeartbeats 1000000 in
set_option maxRecDepth 100000 in
theorem back_any (xs : List UInt8) (A : Option Addr) (c : Nat) (w : World) (hr : ST.kB.C w A xs.length xs) (hc : xs.length ≤ c) (hmx : xs.length ≤ 524287) :
    Calls Tryd.prog 19 #[.slice A xs.length c] w fun e w' => e = .returned (.bool true) ∧ Below w.heap.size w w' := by
 have hpl := encPad_len xs
 refine calls_start Tryd.func19 rfl rfl rfl (fun a F => ?_)
 have M : Mm w w [] := Mm.nil w
 refine wp_seq ?_
 refine wp_region_lit ?_
 refine list_val F (wn rfl) rfl rfl (.bool false) (ex_assign _ rfl _ rfl) ?_; clear F a; intro a F
 refine wpList_nil ?_
 replace F : Fr 130 a [(0, .slice A xs.length c), (2, .bool false)] := F.keep ⟨rfl, rfl, trivial⟩
 refine then_n ?_
 refine wp_seq ?_
 refine wp_region_lit ?_
 refine list_val F (wn rfl) rfl rfl (.slice A xs.length c) (ex_move _ rfl _ (F.e rfl)) ?_; clear F a; intro a F
 refine list_do (wn rfl) (fun K hK => ?_)
 refine ow_call rfl rfl F 7 #[.slice A xs.length c] (ex_call 7 _ _ rfl rfl g6_ent_7 _ (map1 (F.e rfl))) (text64_any xs _ _ _ (Kd.C_below hr M.bel) hc (by omega)) (fun e v hR => ?_)
 obtain ⟨he, hb⟩ := hR
 refine ⟨.string (ST.str (enc sUrl xs)), he, ?_⟩; clear he F a; intro a F
 refine hK _ _ ?_
 clear hK K
 replace M := M.below hb; clear hb; try clear w
 refine list_val F (wn rfl) rfl rfl (.string (ST.str (enc sUrl xs))) (ex_assign _ rfl _ (F.e rfl)) ?_; clear F a; intro a F
 refine wpList_nil ?_
 replace F : Fr 130 a [(0, .slice A xs.length c), (2, .bool false), (3, .string (ST.str (enc sUrl xs)))] := F.keep ⟨rfl, rfl, rfl, trivial⟩
 refine then_n ?_
 refine wp_seq ?_
 refine wp_region_lit ?_
 refine list_val F (wn rfl) rfl rfl (.slice A xs.length c) (ex_move _ rfl _ (F.e rfl)) ?_; clear F a; intro a F
 refine list_do (wn rfl) (fun K hK => ?_)
 refine ow_call rfl rfl F 8 #[.slice A xs.length c] (ex_call 8 _ _ rfl rfl g6_ent_8 _ (map1 (F.e rfl))) (textPad_any xs _ _ _ (Kd.C_below hr M.bel) hc (by omega)) (fun e u hR => ?_)
 obtain ⟨he, hb⟩ := hR
 refine ⟨.string (ST.str (encPad xs)), he, ?_⟩; clear he F a; intro a F
 refine hK _ _ ?_
 clear hK K
 replace M := M.below hb; clear hb; try clear v
 refine list_val F (wn rfl) rfl rfl (.string (ST.str (encPad xs))) (ex_assign _ rfl _ (F.e rfl)) ?_; clear F a; intro a F
 refine wpList_nil ?_
 replace F : Fr 130 a [(0, .slice A xs.length c), (2, .bool false), (3, .string (ST.str (enc sUrl xs))), (4, .string (ST.str (encPad xs)))] := F.keep ⟨rfl, rfl, rfl, rfl, trivial⟩
 refine then_n ?_
 refine wp_seq ?_
 refine wp_region_lit ?_
 refine list_val F (wn rfl) rfl rfl (.slice A xs.length c) (ex_move _ rfl _ (F.e rfl)) ?_; clear F a; intro a F
 refine list_do (wn rfl) (fun K hK => ?_)
 refine ow_call rfl rfl F 6 #[.slice A xs.length c] (ex_call 6 _ _ rfl rfl g6_ent_6 _ (map1 (F.e rfl))) (text16_any xs _ _ _ (Kd.C_below hr M.bel) hc (by omega)) (fun e v hR => ?_)
 obtain ⟨he, hb⟩ := hR
 refine ⟨.string (ST.str (hex16 xs)), he, ?_⟩; clear he F a; intro a F
 refine hK _ _ ?_
 clear hK K
 replace M := M.below hb; clear hb; try clear u
 refine list_val F (wn rfl) rfl rfl (.string (ST.str (hex16 xs))) (ex_assign _ rfl _ (F.e rfl)) ?_; clear F a; intro a F
 refine wpList_nil ?_
 replace F : Fr 130 a [(0, .slice A xs.length c), (2, .bool false), (3, .string (ST.str (enc sUrl xs))), (4, .string (ST.str (encPad xs))), (5, .string (ST.str (hex16 xs)))] := F.keep ⟨rfl, rfl, rfl, rfl, rfl, trivial⟩
 refine then_n ?_
 refine wp_seq ?_
 refine wp_region_lit ?_
 refine list_val F (wn rfl) rfl rfl (.string (ST.str (enc sUrl xs))) (ex_move _ rfl _ (F.e rfl)) ?_; clear F a; intro a F
 refine list_do (wn rfl) (fun K hK => ?_)
 refine ow_call rfl rfl F 14 #[.string (ST.str (enc sUrl xs))] (ex_call 14 _ _ rfl rfl g6_ent_14 _ (map1 (F.e rfl))) (bytes64_any (enc sUrl xs) _ (by rw [enc_len]; omega)) (fun e u hR => ?_)
 obtain ⟨A_23, c_23, he, O_23, hb⟩ := hR
 replace O_23 := O_23.low M.bel.size
 rw [rd64_back] at he O_23
 refine ⟨.tuple #[.slice A_23 xs.length c_23, .int .i64 0], he, ?_⟩; clear he F a; intro a F
 refine hK _ _ ?_
 clear hK K
 replace M := M.below hb; clear hb; try clear v
 refine list_val F (wn rfl) rfl rfl (.tuple #[.slice A_23 xs.length c_23, .int .i64 0]) (ex_move _ rfl _ (F.e rfl)) ?_; clear F a; intro a F
 refine list_val F (wn rfl) rfl rfl (.slice A_23 xs.length c_23) (ex_extract _ _ rfl _ (F.e rfl) _ rfl) ?_; clear F a; intro a F
 refine list_val F (wn rfl) rfl rfl (.int .i64 0) (ex_extract _ _ rfl _ (F.e rfl) _ rfl) ?_; clear F a; intro a F
 refine list_val F (wn rfl) rfl rfl (.slice A_23 xs.length c_23) (ex_assign _ rfl _ (F.e rfl)) ?_; clear F a; intro a F
 refine list_val F (wn rfl) rfl rfl (.int .i64 0) (ex_assign _ rfl _ (F.e rfl)) ?_; clear F a; intro a F
 refine wpList_nil ?_
 replace F : Fr 130 a [(0, .slice A xs.length c), (2, .bool false), (3, .string (ST.str (enc sUrl xs))), (4, .string (ST.str (encPad xs))), (5, .string (ST.str (hex16 xs))), (6, .slice A_23 xs.length c_23), (7, .int .i64 0)] := F.keep ⟨rfl, rfl, rfl, rfl, rfl, rfl, rfl, trivial⟩
 refine then_n ?_
 refine wp_seq ?_
 refine wp_region_lit ?_
 refine list_val F (wn rfl) rfl rfl (.string (ST.str (encPad xs))) (ex_move _ rfl _ (F.e rfl)) ?_; clear F a; intro a F
 refine list_do (wn rfl) (fun K hK => ?_)
 refine ow_call rfl rfl F 15 #[.string (ST.str (encPad xs))] (ex_call 15 _ _ rfl rfl g6_ent_15 _ (map1 (F.e rfl))) (bytesPad_any (encPad xs) _ (by rw [encPad_len]; omega)) (fun e v hR => ?_)
 obtain ⟨A_28, c_28, he, O_28, hb⟩ := hR
 replace O_28 := O_28.low M.bel.size
 rw [rdPad_back] at he O_28
 refine ⟨.tuple #[.slice A_28 xs.length c_28, .int .i64 0], he, ?_⟩; clear he F a; intro a F
 refine hK _ _ ?_
 clear hK K
 replace O_23 := O_23.below hb
 replace M := M.below hb; clear hb; try clear u
 refine list_val F (wn rfl) rfl rfl (.tuple #[.slice A_28 xs.length c_28, .int .i64 0]) (ex_move _ rfl _ (F.e rfl)) ?_; clear F a; intro a F
 refine list_val F (wn rfl) rfl rfl (.slice A_28 xs.length c_28) (ex_extract _ _ rfl _ (F.e rfl) _ rfl) ?_; clear F a; intro a F
 refine list_val F (wn rfl) rfl rfl (.int .i64 0) (ex_extract _ _ rfl _ (F.e rfl) _ rfl) ?_; clear F a; intro a F
 refine list_val F (wn rfl) rfl rfl (.slice A_28 xs.length c_28) (ex_assign _ rfl _ (F.e rfl)) ?_; clear F a; intro a F
 refine list_val F (wn rfl) rfl rfl (.int .i64 0) (ex_assign _ rfl _ (F.e rfl)) ?_; clear F a; intro a F
 refine wpList_nil ?_
 replace F : Fr 130 a [(0, .slice A xs.length c), (2, .bool false), (3, .string (ST.str (enc sUrl xs))), (4, .string (ST.str (encPad xs))), (5, .string (ST.str (hex16 xs))), (6, .slice A_23 xs.length c_23), (7, .int .i64 0), (8, .slice A_28 xs.length c_28), (9, .int .i64 0)] := F.keep ⟨rfl, rfl, rfl, rfl, rfl, rfl, rfl, rfl, rfl, trivial⟩
 refine then_n ?_
 refine wp_seq ?_
 refine wp_region_lit ?_
 refine list_val F (wn rfl) rfl rfl (.string (ST.str (hex16 xs))) (ex_move _ rfl _ (F.e rfl)) ?_; clear F a; intro a F
 refine list_do (wn rfl) (fun K hK => ?_)
 refine ow_call rfl rfl F 16 #[.string (ST.str (hex16 xs))] (ex_call 16 _ _ rfl rfl g6_ent_16 _ (map1 (F.e rfl))) (bytes16_more (hex16 xs) _ (by rw [hex16_len]; omega)) (fun e u hR => ?_)
 obtain ⟨A_33, c_33, he, O_33, hb⟩ := hR
 replace O_33 := O_33.low M.bel.size
 rw [b16_back] at he O_33
 refine ⟨.tuple #[.slice A_33 xs.length c_33, .int .i64 0], he, ?_⟩; clear he F a; intro a F
 refine hK _ _ ?_
 clear hK K
 replace O_23 := O_23.below hb
 replace O_28 := O_28.below hb
 replace M := M.below hb; clear hb; try clear v
 refine list_val F (wn rfl) rfl rfl (.tuple #[.slice A_33 xs.length c_33, .int .i64 0]) (ex_move _ rfl _ (F.e rfl)) ?_; clear F a; intro a F
 refine list_val F (wn rfl) rfl rfl (.slice A_33 xs.length c_33) (ex_extract _ _ rfl _ (F.e rfl) _ rfl) ?_; clear F a; intro a F
 refine list_val F (wn rfl) rfl rfl (.int .i64 0) (ex_extract _ _ rfl _ (F.e rfl) _ rfl) ?_; clear F a; intro a F
 refine list_val F (wn rfl) rfl rfl (.slice A_33 xs.length c_33) (ex_assign _ rfl _ (F.e rfl)) ?_; clear F a; intro a F
 refine list_val F (wn rfl) rfl rfl (.int .i64 0) (ex_assign _ rfl _ (F.e rfl)) ?_; clear F a; intro a F
 refine wpList_nil ?_
 replace F : Fr 130 a [(0, .slice A xs.length c), (2, .bool false), (3, .string (ST.str (enc sUrl xs))), (4, .string (ST.str (encPad xs))), (5, .string (ST.str (hex16 xs))), (6, .slice A_23 xs.length c_23), (7, .int .i64 0), (8, .slice A_28 xs.length c_28), (9, .int .i64 0), (10, .slice A_33 xs.length c_33), (11, .int .i64 0)] := F.keep ⟨rfl, rfl, rfl, rfl, rfl, rfl, rfl, rfl, rfl, rfl, rfl, trivial⟩
 refine then_n ?_
 refine wp_seq ?_
 refine wp_seq ?_
 refine wp_region_lit ?_
 refine list_val F (wn rfl) rfl rfl (.int .i64 0) (ex_move _ rfl _ (F.e rfl)) ?_; clear F a; intro a F
 refine list_do (wn rfl) (fun K hK => ?_)
 refine ow_call rfl rfl F 11 #[.int .i64 0] (ex_call 11 _ _ rfl rfl g6_ent_11 _ (map1 (F.e rfl))) (num_any 0 _) (fun e v hR => ?_)
 obtain ⟨he, hb⟩ := hR
 refine ⟨.int .i64 0, he, ?_⟩; clear he F a; intro a F
 refine hK _ _ ?_
 clear hK K
 replace O_23 := O_23.below hb
 replace O_28 := O_28.below hb
 replace O_33 := O_33.below hb
 replace M := M.below hb; clear hb; try clear u
 refine list_val F (wn rfl) rfl rfl (.bool false) (ex_bin .neq _ _ _ _ rfl .i64 _ _ (F.e rfl) rfl _ (b_neq (by decide))) ?_; clear F a; intro a F
 refine list_val F (wn rfl) rfl rfl (.bool false) (ex_move _ rfl _ (F.e rfl)) ?_; clear F a; intro a F
 refine list_val F (F.wants 39 false rfl (by kernel_rfl) rfl true rfl) rfl rfl (.int .i64 0) (ex_move _ rfl _ (F.e rfl)) ?_; clear F a; intro a F
 refine list_do (F.wants 39 false rfl (by kernel_rfl) rfl true rfl) (fun K hK => ?_)
 refine ow_call rfl rfl F 11 #[.int .i64 0] (ex_call 11 _ _ rfl rfl g6_ent_11 _ (map1 (F.e rfl))) (num_any 0 _) (fun e u hR => ?_)
 obtain ⟨he, hb⟩ := hR
 refine ⟨.int .i64 0, he, ?_⟩; clear he F a; intro a F
 refine hK _ _ ?_
 clear hK K
 replace O_23 := O_23.below hb
 replace O_28 := O_28.below hb
 replace O_33 := O_33.below hb
 replace M := M.below hb; clear hb; try clear v
 refine list_val F (F.wants 39 false rfl (by kernel_rfl) rfl true rfl) rfl rfl (.bool false) (ex_bin .neq _ _ _ _ rfl .i64 _ _ (F.e rfl) rfl _ (b_neq (by decide))) ?_; clear F a; intro a F
 refine list_val F (wn rfl) rfl rfl (.bool false) (ex_pick_f _ _ _ rfl (F.e rfl) _ (F.e rfl)) ?_; clear F a; intro a F
 refine list_val F (wn rfl) rfl rfl (.bool false) (ex_move _ rfl _ (F.e rfl)) ?_; clear F a; intro a F
 refine list_val F (F.wants 44 false rfl (by kernel_rfl) rfl true rfl) rfl rfl (.int .i64 0) (ex_move _ rfl _ (F.e rfl)) ?_; clear F a; intro a F
 refine list_do (F.wants 44 false rfl (by kernel_rfl) rfl true rfl) (fun K hK => ?_)
 refine ow_call rfl rfl F 11 #[.int .i64 0] (ex_call 11 _ _ rfl rfl g6_ent_11 _ (map1 (F.e rfl))) (num_any 0 _) (fun e v hR => ?_)
 obtain ⟨he, hb⟩ := hR
 refine ⟨.int .i64 0, he, ?_⟩; clear he F a; intro a F
 refine hK _ _ ?_
 clear hK K
 replace O_23 := O_23.below hb
 replace O_28 := O_28.below hb
 replace O_33 := O_33.below hb
 replace M := M.below hb; clear hb; try clear u
 refine list_val F (F.wants 44 false rfl (by kernel_rfl) rfl true rfl) rfl rfl (.bool false) (ex_bin .neq _ _ _ _ rfl .i64 _ _ (F.e rfl) rfl _ (b_neq (by decide))) ?_; clear F a; intro a F
 refine list_val F (wn rfl) rfl rfl (.bool false) (ex_pick_f _ _ _ rfl (F.e rfl) _ (F.e rfl)) ?_; clear F a; intro a F
 refine list_val F (wn rfl) rfl rfl (.bool false) (ex_move _ rfl _ (F.e rfl)) ?_; clear F a; intro a F
 refine list_val F (F.wants 49 false rfl (by kernel_rfl) rfl true rfl) rfl rfl (.slice A_23 xs.length c_23) (ex_move _ rfl _ (F.e rfl)) ?_; clear F a; intro a F
 refine list_val F (F.wants 49 false rfl (by kernel_rfl) rfl true rfl) rfl rfl (.string (ST.str xs)) (ST.ex_tos 28 9 _ rfl 5 Tryd.underlying28 un5 un9 A_23 xs.length c_23 xs (F.e rfl) (O_23.rd.1)) ?_; clear F a; intro a F
 refine list_val F (F.wants 49 false rfl (by kernel_rfl) rfl true rfl) rfl rfl (.slice A xs.length c) (ex_move _ rfl _ (F.e rfl)) ?_; clear F a; intro a F
 refine list_val F (F.wants 49 false rfl (by kernel_rfl) rfl true rfl) rfl rfl (.string (ST.str xs)) (ST.ex_tos 28 9 _ rfl 5 Tryd.underlying28 un5 un9 A xs.length c xs (F.e rfl) ((Kd.C_below hr M.bel))) ?_; clear F a; intro a F
 refine list_val F (F.wants 49 false rfl (by kernel_rfl) rfl true rfl) rfl rfl (.bool false) (ST.ex_neqs _ _ _ _ rfl xs xs (F.e rfl) (F.e rfl) false (by simp)) ?_; clear F a; intro a F
 refine list_val F (wn rfl) rfl rfl (.bool false) (ex_pick_f _ _ _ rfl (F.e rfl) _ (F.e rfl)) ?_; clear F a; intro a F
 refine list_val F (wn rfl) rfl rfl (.bool false) (ex_move _ rfl _ (F.e rfl)) ?_; clear F a; intro a F
 refine list_val F (F.wants 56 false rfl (by kernel_rfl) rfl true rfl) rfl rfl (.slice A_28 xs.length c_28) (ex_move _ rfl _ (F.e rfl)) ?_; clear F a; intro a F
 refine list_val F (F.wants 56 false rfl (by kernel_rfl) rfl true rfl) rfl rfl (.string (ST.str xs)) (ST.ex_tos 28 9 _ rfl 5 Tryd.underlying28 un5 un9 A_28 xs.length c_28 xs (F.e rfl) (O_28.rd.1)) ?_; clear F a; intro a F
 refine list_val F (F.wants 56 false rfl (by kernel_rfl) rfl true rfl) rfl rfl (.slice A xs.length c) (ex_move _ rfl _ (F.e rfl)) ?_; clear F a; intro a F
 refine list_val F (F.wants 56 false rfl (by kernel_rfl) rfl true rfl) rfl rfl (.string (ST.str xs)) (ST.ex_tos 28 9 _ rfl 5 Tryd.underlying28 un5 un9 A xs.length c xs (F.e rfl) ((Kd.C_below hr M.bel))) ?_; clear F a; intro a F
 refine list_val F (F.wants 56 false rfl (by kernel_rfl) rfl true rfl) rfl rfl (.bool false) (ST.ex_neqs _ _ _ _ rfl xs xs (F.e rfl) (F.e rfl) false (by simp)) ?_; clear F a; intro a F
 refine list_val F (wn rfl) rfl rfl (.bool false) (ex_pick_f _ _ _ rfl (F.e rfl) _ (F.e rfl)) ?_; clear F a; intro a F
 refine list_val F (wn rfl) rfl rfl (.bool false) (ex_move _ rfl _ (F.e rfl)) ?_; clear F a; intro a F
 refine list_val F (F.wants 63 false rfl (by kernel_rfl) rfl true rfl) rfl rfl (.slice A_33 xs.length c_33) (ex_move _ rfl _ (F.e rfl)) ?_; clear F a; intro a F
 refine list_val F (F.wants 63 false rfl (by kernel_rfl) rfl true rfl) rfl rfl (.string (ST.str xs)) (ST.ex_tos 28 9 _ rfl 5 Tryd.underlying28 un5 un9 A_33 xs.length c_33 xs (F.e rfl) (O_33.rd.1)) ?_; clear F a; intro a F
 refine list_val F (F.wants 63 false rfl (by kernel_rfl) rfl true rfl) rfl rfl (.slice A xs.length c) (ex_move _ rfl _ (F.e rfl)) ?_; clear F a; intro a F
 refine list_val F (F.wants 63 false rfl (by kernel_rfl) rfl true rfl) rfl rfl (.string (ST.str xs)) (ST.ex_tos 28 9 _ rfl 5 Tryd.underlying28 un5 un9 A xs.length c xs (F.e rfl) ((Kd.C_below hr M.bel))) ?_; clear F a; intro a F
 refine list_val F (F.wants 63 false rfl (by kernel_rfl) rfl true rfl) rfl rfl (.bool false) (ST.ex_neqs _ _ _ _ rfl xs xs (F.e rfl) (F.e rfl) false (by simp)) ?_; clear F a; intro a F
 refine list_val F (wn rfl) rfl rfl (.bool false) (ex_pick_f _ _ _ rfl (F.e rfl) _ (F.e rfl)) ?_; clear F a; intro a F
 refine wpList_nil ?_
 replace F : Fr 130 a [(0, .slice A xs.length c), (2, .bool false), (3, .string (ST.str (enc sUrl xs))), (4, .string (ST.str (encPad xs))), (5, .string (ST.str (hex16 xs))), (6, .slice A_23 xs.length c_23), (7, .int .i64 0), (8, .slice A_28 xs.length c_28), (9, .int .i64 0), (10, .slice A_33 xs.length c_33), (11, .int .i64 0), (69, .bool false)] := F.keep ⟨rfl, rfl, rfl, rfl, rfl, rfl, rfl, rfl, rfl, rfl, rfl, rfl, trivial⟩
 refine then_n ?_
 refine wp_cond_false (F.e rfl) ?_
 refine wp_skip ?_
 refine then_n ?_
 refine wp_seq ?_
 refine wp_region_lit ?_
 refine list_val F (wn rfl) rfl rfl (.string (ST.str sLet)) (ex_assign _ rfl _ rfl) ?_; clear F a; intro a F
 refine wpList_nil ?_
 replace F : Fr 130 a [(0, .slice A xs.length c), (2, .bool false), (3, .string (ST.str (enc sUrl xs))), (4, .string (ST.str (encPad xs))), (5, .string (ST.str (hex16 xs))), (6, .slice A_23 xs.length c_23), (7, .int .i64 0), (8, .slice A_28 xs.length c_28), (9, .int .i64 0), (10, .slice A_33 xs.length c_33), (11, .int .i64 0), (12, .string (ST.str sLet)), (69, .bool false)] := F.keep ⟨rfl, rfl, rfl, rfl, rfl, rfl, rfl, rfl, rfl, rfl, rfl, rfl, rfl, trivial⟩
 refine then_n ?_
 refine wp_seq ?_
 refine wp_seq ?_
 refine wp_region_lit ?_
 refine list_val F (wn rfl) rfl rfl (.string (ST.str (enc sUrl xs))) (ex_move _ rfl _ (F.e rfl)) ?_; clear F a; intro a F
 refine list_val F (wn rfl) rfl rfl (.int .i64 (((enc sUrl xs).length : Nat) : Int)) (ST.ex_lens _ 9 rfl un9 (enc sUrl xs) (F.e rfl)) ?_; clear F a; intro a F
 refine list_val F (wn rfl) rfl rfl (.slice A xs.length c) (ex_move _ rfl _ (F.e rfl)) ?_; clear F a; intro a F
 refine list_val F (wn rfl) rfl rfl (.int .i64 ((xs.length : Nat) : Int)) (ex_len _ _ rfl 1 g6_sl_28_1 _ _ _ (F.e rfl)) ?_; clear F a; intro a F
 refine list_val F (wn rfl) rfl rfl (.int .i64 ((4 * xs.length : Nat) : Int)) (ex_bin .mul _ _ _ _ rfl .i64 _ _ rfl (F.e rfl) _ (b_mul ((w_i64 (by omega) (by omega)).trans (by omega)))) ?_; clear F a; intro a F
 refine list_val F (wn rfl) rfl rfl (.int .i64 ((4 * xs.length + 2 : Nat) : Int)) (ex_bin .add _ _ _ _ rfl .i64 _ _ (F.e rfl) rfl _ (b_add ((w_i64 (by omega) (by omega)).trans (by omega)))) ?_; clear F a; intro a F
 refine list_val F (wn rfl) rfl rfl (.int .i64 (((4 * xs.length + 2) / 3 : Nat) : Int)) (ex_bin .quo _ _ _ _ rfl .i64 _ _ (F.e rfl) rfl _ (b_quo (by decide) (i_quo _ 3 (by omega)))) ?_; clear F a; intro a F
 refine list_val F (wn rfl) rfl rfl (.bool false) (ex_bin .neq _ _ _ _ rfl .i64 _ _ (F.e rfl) (F.e rfl) _ (b_neq (by rw [enc_len]; simp))) ?_; clear F a; intro a F
 refine list_val F (wn rfl) rfl rfl (.bool false) (ex_move _ rfl _ (F.e rfl)) ?_; clear F a; intro a F
 refine list_val F (F.wants 78 false rfl (by kernel_rfl) rfl true rfl) rfl rfl (.string (ST.str (encPad xs))) (ex_move _ rfl _ (F.e rfl)) ?_; clear F a; intro a F
 refine list_val F (F.wants 78 false rfl (by kernel_rfl) rfl true rfl) rfl rfl (.int .i64 (((encPad xs).length : Nat) : Int)) (ST.ex_lens _ 9 rfl un9 (encPad xs) (F.e rfl)) ?_; clear F a; intro a F
 refine list_val F (F.wants 78 false rfl (by kernel_rfl) rfl true rfl) rfl rfl (.slice A xs.length c) (ex_move _ rfl _ (F.e rfl)) ?_; clear F a; intro a F
 refine list_val F (F.wants 78 false rfl (by kernel_rfl) rfl true rfl) rfl rfl (.int .i64 ((xs.length : Nat) : Int)) (ex_len _ _ rfl 1 g6_sl_28_1 _ _ _ (F.e rfl)) ?_; clear F a; intro a F
 refine list_val F (F.wants 78 false rfl (by kernel_rfl) rfl true rfl) rfl rfl (.int .i64 ((xs.length + 2 : Nat) : Int)) (ex_bin .add _ _ _ _ rfl .i64 _ _ (F.e rfl) rfl _ (b_add ((w_i64 (by omega) (by omega)).trans (by omega)))) ?_; clear F a; intro a F
 refine list_val F (F.wants 78 false rfl (by kernel_rfl) rfl true rfl) rfl rfl (.int .i64 (((xs.length + 2) / 3 : Nat) : Int)) (ex_bin .quo _ _ _ _ rfl .i64 _ _ (F.e rfl) rfl _ (b_quo (by decide) (i_quo _ 3 (by omega)))) ?_; clear F a; intro a F
 refine list_val F (F.wants 78 false rfl (by kernel_rfl) rfl true rfl) rfl rfl (.int .i64 (((xs.length + 2) / 3 * 4 : Nat) : Int)) (ex_bin .mul _ _ _ _ rfl .i64 _ _ (F.e rfl) rfl _ (b_mul ((w_i64 (by omega) (by omega)).trans (by omega)))) ?_; clear F a; intro a F
 refine list_val F (F.wants 78 false rfl (by kernel_rfl) rfl true rfl) rfl rfl (.bool false) (ex_bin .neq _ _ _ _ rfl .i64 _ _ (F.e rfl) (F.e rfl) _ (b_neq (by rw [encPad_len]; simp))) ?_; clear F a; intro a F
 refine list_val F (wn rfl) rfl rfl (.bool false) (ex_pick_f _ _ _ rfl (F.e rfl) _ (F.e rfl)) ?_; clear F a; intro a F
 refine list_val F (wn rfl) rfl rfl (.bool false) (ex_move _ rfl _ (F.e rfl)) ?_; clear F a; intro a F
 refine list_val F (F.wants 88 false rfl (by kernel_rfl) rfl true rfl) rfl rfl (.string (ST.str (hex16 xs))) (ex_move _ rfl _ (F.e rfl)) ?_; clear F a; intro a F
 refine list_val F (F.wants 88 false rfl (by kernel_rfl) rfl true rfl) rfl rfl (.int .i64 (((hex16 xs).length : Nat) : Int)) (ST.ex_lens _ 9 rfl un9 (hex16 xs) (F.e rfl)) ?_; clear F a; intro a F
 refine list_val F (F.wants 88 false rfl (by kernel_rfl) rfl true rfl) rfl rfl (.slice A xs.length c) (ex_move _ rfl _ (F.e rfl)) ?_; clear F a; intro a F
 refine list_val F (F.wants 88 false rfl (by kernel_rfl) rfl true rfl) rfl rfl (.int .i64 ((xs.length : Nat) : Int)) (ex_len _ _ rfl 1 g6_sl_28_1 _ _ _ (F.e rfl)) ?_; clear F a; intro a F
 refine list_val F (F.wants 88 false rfl (by kernel_rfl) rfl true rfl) rfl rfl (.int .i64 ((2 * xs.length : Nat) : Int)) (ex_bin .mul _ _ _ _ rfl .i64 _ _ rfl (F.e rfl) _ (b_mul ((w_i64 (by omega) (by omega)).trans (by omega)))) ?_; clear F a; intro a F
 refine list_val F (F.wants 88 false rfl (by kernel_rfl) rfl true rfl) rfl rfl (.bool false) (ex_bin .neq _ _ _ _ rfl .i64 _ _ (F.e rfl) (F.e rfl) _ (b_neq (by rw [hex16_len]; simp))) ?_; clear F a; intro a F
 refine list_val F (wn rfl) rfl rfl (.bool false) (ex_pick_f _ _ _ rfl (F.e rfl) _ (F.e rfl)) ?_; clear F a; intro a F
 refine list_val F (wn rfl) rfl rfl (.bool false) (ex_move _ rfl _ (F.e rfl)) ?_; clear F a; intro a F
 refine list_val F (F.wants 96 false rfl (by kernel_rfl) rfl true rfl) rfl rfl (.string (ST.str (enc sUrl xs))) (ex_move _ rfl _ (F.e rfl)) ?_; clear F a; intro a F
 refine list_val F (F.wants 96 false rfl (by kernel_rfl) rfl true rfl) rfl rfl (.string (ST.str sLet)) (ex_move _ rfl _ (F.e rfl)) ?_; clear F a; intro a F
 refine list_val F (F.wants 96 false rfl (by kernel_rfl) rfl true rfl) rfl rfl (.string (ST.str sUrl)) (ST.ex_adds _ _ _ _ rfl sLet ([45, 95]) (F.e rfl) rfl (by decide) sUrl rfl) ?_; clear F a; intro a F
 refine list_do (F.wants 96 false rfl (by kernel_rfl) rfl true rfl) (fun K hK => ?_)
 refine ow_call rfl rfl F 30 #[.string (ST.str (enc sUrl xs)), .string (ST.str sUrl)] (ex_call 30 _ _ rfl rfl g6_ent_30 _ (map2 (F.e rfl) (F.e rfl))) (letters_any (enc sUrl xs) sUrl _ (enc_url xs) (by rw [enc_len]; omega) (by decide)) (fun e u hR => ?_)
 obtain ⟨he, hb⟩ := hR
 refine ⟨.bool true, he, ?_⟩; clear he F a; intro a F
 refine hK _ _ ?_
 clear hK K
 replace O_23 := O_23.below hb
 replace O_28 := O_28.below hb
 replace O_33 := O_33.below hb
 replace M := M.below hb; clear hb; try clear v
 refine list_val F (F.wants 96 false rfl (by kernel_rfl) rfl true rfl) rfl rfl (.bool false) (ex_not _ _ rfl _ (F.e rfl) _ rfl) ?_; clear F a; intro a F
 refine list_val F (wn rfl) rfl rfl (.bool false) (ex_pick_f _ _ _ rfl (F.e rfl) _ (F.e rfl)) ?_; clear F a; intro a F
 refine list_val F (wn rfl) rfl rfl (.bool false) (ex_move _ rfl _ (F.e rfl)) ?_; clear F a; intro a F
 refine list_val F (F.wants 103 false rfl (by kernel_rfl) rfl true rfl) rfl rfl (.string (ST.str (hex16 xs))) (ex_move _ rfl _ (F.e rfl)) ?_; clear F a; intro a F
 refine list_do (F.wants 103 false rfl (by kernel_rfl) rfl true rfl) (fun K hK => ?_)
 refine ow_call rfl rfl F 30 #[.string (ST.str (hex16 xs)), .string (ST.str sHex)] (ex_call 30 _ _ rfl rfl g6_ent_30 _ (map2 (F.e rfl) rfl)) (letters_any (hex16 xs) sHex _ (hex_in xs) (by rw [hex16_len]; omega) (by decide)) (fun e v hR => ?_)
 obtain ⟨he, hb⟩ := hR
 refine ⟨.bool true, he, ?_⟩; clear he F a; intro a F
 refine hK _ _ ?_
 clear hK K
 replace O_23 := O_23.below hb
 replace O_28 := O_28.below hb
 replace O_33 := O_33.below hb
 replace M := M.below hb; clear hb; try clear u
 refine list_val F (F.wants 103 false rfl (by kernel_rfl) rfl true rfl) rfl rfl (.bool false) (ex_not _ _ rfl _ (F.e rfl) _ rfl) ?_; clear F a; intro a F
 refine list_val F (wn rfl) rfl rfl (.bool false) (ex_pick_f _ _ _ rfl (F.e rfl) _ (F.e rfl)) ?_; clear F a; intro a F
 refine wpList_nil ?_
 replace F : Fr 130 a [(0, .slice A xs.length c), (2, .bool false), (3, .string (ST.str (enc sUrl xs))), (4, .string (ST.str (encPad xs))), (5, .string (ST.str (hex16 xs))), (6, .slice A_23 xs.length c_23), (7, .int .i64 0), (8, .slice A_28 xs.length c_28), (9, .int .i64 0), (10, .slice A_33 xs.length c_33), (11, .int .i64 0), (12, .string (ST.str sLet)), (69, .bool false), (107, .bool false)] := F.keep ⟨rfl, rfl, rfl, rfl, rfl, rfl, rfl, rfl, rfl, rfl, rfl, rfl, rfl, rfl, trivial⟩
 refine then_n ?_
 refine wp_cond_false (F.e rfl) ?_
 refine wp_skip ?_
 refine then_n ?_
 refine wp_seq ?_
 refine wp_seq ?_
 refine wp_region_lit ?_
 refine list_val F (wn rfl) rfl rfl (.int .i64 0) (ex_assign _ rfl _ rfl) ?_; clear F a; intro a F
 refine wpList_nil ?_
 replace F : Fr 130 a [(0, .slice A xs.length c), (2, .bool false), (3, .string (ST.str (enc sUrl xs))), (4, .string (ST.str (encPad xs))), (5, .string (ST.str (hex16 xs))), (6, .slice A_23 xs.length c_23), (7, .int .i64 0), (8, .slice A_28 xs.length c_28), (9, .int .i64 0), (10, .slice A_33 xs.length c_33), (11, .int .i64 0), (12, .string (ST.str sLet)), (13, .int .i64 0), (69, .bool false), (107, .bool false)] := F.keep ⟨rfl, rfl, rfl, rfl, rfl, rfl, rfl, rfl, rfl, rfl, rfl, rfl, rfl, rfl, rfl, trivial⟩
 refine then_n ?_
 refine wp_block ?_
 refine wp_loopN (fun mq ar wr => ∃ (i : Nat), Fr 130 ar [(0, .slice A xs.length c), (2, .bool false), (3, .string (ST.str (enc sUrl xs))), (4, .string (ST.str (encPad xs))), (5, .string (ST.str (hex16 xs))), (6, .slice A_23 xs.length c_23), (7, .int .i64 0), (8, .slice A_28 xs.length c_28), (9, .int .i64 0), (10, .slice A_33 xs.length c_33), (11, .int .i64 0), (12, .string (ST.str sLet)), (13, .int .i64 ((i : Nat) : Int)), (69, .bool false), (107, .bool false)] ∧ Mm w wr [] ∧ i ≤ (encPad xs).length ∧ mq + i = (encPad xs).length) ((encPad xs).length) ?_ ?_
 ·
  exact ⟨0, F.keep ⟨rfl, rfl, rfl, rfl, rfl, rfl, rfl, rfl, rfl, rfl, rfl, rfl, rfl, rfl, rfl, trivial⟩, M, (Nat.zero_le _), (by omega)⟩
 clear F M a O_23 O_28 O_33
 rintro mq a u ⟨i, F, M, hi, hq⟩; try clear v
 by_cases hin : i < (encPad xs).length
 ·
  by_cases hu : i < (enc sUrl xs).length
  ·
   obtain ⟨x, hx⟩ : ∃ x, (enc sUrl xs)[i]? = some x := ⟨_, List.getElem?_eq_getElem (by omega)⟩
   have hp := pad_url hx
   by_cases h45 : x = 45
   ·
    refine wp_seq ?_
    refine wp_seq ?_
    refine wp_region_lit ?_
    refine list_val F (wn rfl) rfl rfl (.int .i64 ((i : Nat) : Int)) (ex_move _ rfl _ (F.e rfl)) ?_; clear F a; intro a F
    refine list_val F (wn rfl) rfl rfl (.string (ST.str (encPad xs))) (ex_move _ rfl _ (F.e rfl)) ?_; clear F a; intro a F
    refine list_val F (wn rfl) rfl rfl (.int .i64 (((encPad xs).length : Nat) : Int)) (ST.ex_lens _ 9 rfl un9 (encPad xs) (F.e rfl)) ?_; clear F a; intro a F
    refine list_val F (wn rfl) rfl rfl (.bool true) (ex_bin .lss _ _ _ _ rfl .i64 _ _ (F.e rfl) (F.e rfl) _ (b_lss (decide_eq_true (by omega)))) ?_; clear F a; intro a F
    refine wpList_nil ?_
    replace F : Fr 130 a [(0, .slice A xs.length c), (2, .bool false), (3, .string (ST.str (enc sUrl xs))), (4, .string (ST.str (encPad xs))), (5, .string (ST.str (hex16 xs))), (6, .slice A_23 xs.length c_23), (7, .int .i64 0), (8, .slice A_28 xs.length c_28), (9, .int .i64 0), (10, .slice A_33 xs.length c_33), (11, .int .i64 0), (12, .string (ST.str sLet)), (13, .int .i64 ((i : Nat) : Int)), (69, .bool false), (107, .bool false), (111, .bool true)] := F.keep ⟨rfl, rfl, rfl, rfl, rfl, rfl, rfl, rfl, rfl, rfl, rfl, rfl, rfl, rfl, rfl, rfl, trivial⟩
    refine then_n ?_
    refine wp_cond_true (F.e rfl) ?_
    refine wp_skip ?_
    refine then_n ?_
    refine wp_seq ?_
    refine wp_block ?_
    refine wp_seq ?_
    refine wp_region_lit ?_
    refine list_val F (wn rfl) rfl rfl (.int .u8 61) (ex_assign _ rfl _ rfl) ?_; clear F a; intro a F
    refine wpList_nil ?_
    replace F : Fr 130 a [(0, .slice A xs.length c), (2, .bool false), (3, .string (ST.str (enc sUrl xs))), (4, .string (ST.str (encPad xs))), (5, .string (ST.str (hex16 xs))), (6, .slice A_23 xs.length c_23), (7, .int .i64 0), (8, .slice A_28 xs.length c_28), (9, .int .i64 0), (10, .slice A_33 xs.length c_33), (11, .int .i64 0), (12, .string (ST.str sLet)), (13, .int .i64 ((i : Nat) : Int)), (14, .int .u8 61), (69, .bool false), (107, .bool false), (111, .bool true)] := F.keep ⟨rfl, rfl, rfl, rfl, rfl, rfl, rfl, rfl, rfl, rfl, rfl, rfl, rfl, rfl, rfl, rfl, rfl, trivial⟩
    refine then_n ?_
    refine wp_seq ?_
    refine wp_seq ?_
    refine wp_region_lit ?_
    refine list_val F (wn rfl) rfl rfl (.int .i64 ((i : Nat) : Int)) (ex_move _ rfl _ (F.e rfl)) ?_; clear F a; intro a F
    refine list_val F (wn rfl) rfl rfl (.string (ST.str (enc sUrl xs))) (ex_move _ rfl _ (F.e rfl)) ?_; clear F a; intro a F
    refine list_val F (wn rfl) rfl rfl (.int .i64 (((enc sUrl xs).length : Nat) : Int)) (ST.ex_lens _ 9 rfl un9 (enc sUrl xs) (F.e rfl)) ?_; clear F a; intro a F
    refine list_val F (wn rfl) rfl rfl (.bool true) (ex_bin .lss _ _ _ _ rfl .i64 _ _ (F.e rfl) (F.e rfl) _ (b_lss (decide_eq_true (by omega)))) ?_; clear F a; intro a F
    refine wpList_nil ?_
    replace F : Fr 130 a [(0, .slice A xs.length c), (2, .bool false), (3, .string (ST.str (enc sUrl xs))), (4, .string (ST.str (encPad xs))), (5, .string (ST.str (hex16 xs))), (6, .slice A_23 xs.length c_23), (7, .int .i64 0), (8, .slice A_28 xs.length c_28), (9, .int .i64 0), (10, .slice A_33 xs.length c_33), (11, .int .i64 0), (12, .string (ST.str sLet)), (13, .int .i64 ((i : Nat) : Int)), (14, .int .u8 61), (69, .bool false), (107, .bool false), (111, .bool true), (117, .bool true)] := F.keep ⟨rfl, rfl, rfl, rfl, rfl, rfl, rfl, rfl, rfl, rfl, rfl, rfl, rfl, rfl, rfl, rfl, rfl, rfl, trivial⟩
    refine then_n ?_
    refine wp_cond_true (F.e rfl) ?_
    refine wp_region_lit ?_
    refine list_val F (wn rfl) rfl rfl (.string (ST.str (enc sUrl xs))) (ex_move _ rfl _ (F.e rfl)) ?_; clear F a; intro a F
    refine list_val F (wn rfl) rfl rfl (.int .i64 ((i : Nat) : Int)) (ex_move _ rfl _ (F.e rfl)) ?_; clear F a; intro a F
    refine list_val F (wn rfl) rfl rfl (.int .u8 ((x.toNat : Nat) : Int)) (ST.ex_ixs 9 _ _ rfl un9 (enc sUrl xs) (F.e rfl) .i64 _ (F.e rfl) i rfl x hx) ?_; clear F a; intro a F
    refine list_val F (wn rfl) rfl rfl (.int .u8 ((x.toNat : Nat) : Int)) (ex_assign _ rfl _ (F.e rfl)) ?_; clear F a; intro a F
    refine wpList_nil ?_
    replace F : Fr 130 a [(0, .slice A xs.length c), (2, .bool false), (3, .string (ST.str (enc sUrl xs))), (4, .string (ST.str (encPad xs))), (5, .string (ST.str (hex16 xs))), (6, .slice A_23 xs.length c_23), (7, .int .i64 0), (8, .slice A_28 xs.length c_28), (9, .int .i64 0), (10, .slice A_33 xs.length c_33), (11, .int .i64 0), (12, .string (ST.str sLet)), (13, .int .i64 ((i : Nat) : Int)), (14, .int .u8 ((x.toNat : Nat) : Int)), (69, .bool false), (107, .bool false), (111, .bool true), (117, .bool true)] := F.keep ⟨rfl, rfl, rfl, rfl, rfl, rfl, rfl, rfl, rfl, rfl, rfl, rfl, rfl, rfl, rfl, rfl, rfl, rfl, trivial⟩
    refine then_n ?_
    refine wp_seq ?_
    refine wp_seq ?_
    refine wp_region_lit ?_
    refine list_val F (wn rfl) rfl rfl (.int .u8 ((x.toNat : Nat) : Int)) (ex_move _ rfl _ (F.e rfl)) ?_; clear F a; intro a F
    refine list_val F (wn rfl) rfl rfl (.bool true) (ex_bin .eql _ _ _ _ rfl .u8 _ _ (F.e rfl) rfl _ (b_eql (by rw [h45]; decide))) ?_; clear F a; intro a F
    refine wpList_nil ?_
    replace F : Fr 130 a [(0, .slice A xs.length c), (2, .bool false), (3, .string (ST.str (enc sUrl xs))), (4, .string (ST.str (encPad xs))), (5, .string (ST.str (hex16 xs))), (6, .slice A_23 xs.length c_23), (7, .int .i64 0), (8, .slice A_28 xs.length c_28), (9, .int .i64 0), (10, .slice A_33 xs.length c_33), (11, .int .i64 0), (12, .string (ST.str sLet)), (13, .int .i64 ((i : Nat) : Int)), (14, .int .u8 ((x.toNat : Nat) : Int)), (69, .bool false), (107, .bool false), (111, .bool true), (117, .bool true), (122, .bool true)] := F.keep ⟨rfl, rfl, rfl, rfl, rfl, rfl, rfl, rfl, rfl, rfl, rfl, rfl, rfl, rfl, rfl, rfl, rfl, rfl, rfl, trivial⟩
    refine then_n ?_
    refine wp_cond_true (F.e rfl) ?_
    refine wp_region_lit ?_
    refine list_val F (wn rfl) rfl rfl (.int .u8 43) (ex_assign _ rfl _ rfl) ?_; clear F a; intro a F
    refine wpList_nil ?_
    replace F : Fr 130 a [(0, .slice A xs.length c), (2, .bool false), (3, .string (ST.str (enc sUrl xs))), (4, .string (ST.str (encPad xs))), (5, .string (ST.str (hex16 xs))), (6, .slice A_23 xs.length c_23), (7, .int .i64 0), (8, .slice A_28 xs.length c_28), (9, .int .i64 0), (10, .slice A_33 xs.length c_33), (11, .int .i64 0), (12, .string (ST.str sLet)), (13, .int .i64 ((i : Nat) : Int)), (14, .int .u8 43), (69, .bool false), (107, .bool false), (111, .bool true), (117, .bool true), (122, .bool true)] := F.keep ⟨rfl, rfl, rfl, rfl, rfl, rfl, rfl, rfl, rfl, rfl, rfl, rfl, rfl, rfl, rfl, rfl, rfl, rfl, rfl, trivial⟩
    refine then_n ?_
    refine wp_seq ?_
    refine wp_seq ?_
    refine wp_region_lit ?_
    refine list_val F (wn rfl) rfl rfl (.int .u8 43) (ex_move _ rfl _ (F.e rfl)) ?_; clear F a; intro a F
    refine list_val F (wn rfl) rfl rfl (.bool false) (ex_bin .eql _ _ _ _ rfl .u8 _ _ (F.e rfl) rfl _ (b_eql (by decide))) ?_; clear F a; intro a F
    refine wpList_nil ?_
    replace F : Fr 130 a [(0, .slice A xs.length c), (2, .bool false), (3, .string (ST.str (enc sUrl xs))), (4, .string (ST.str (encPad xs))), (5, .string (ST.str (hex16 xs))), (6, .slice A_23 xs.length c_23), (7, .int .i64 0), (8, .slice A_28 xs.length c_28), (9, .int .i64 0), (10, .slice A_33 xs.length c_33), (11, .int .i64 0), (12, .string (ST.str sLet)), (13, .int .i64 ((i : Nat) : Int)), (14, .int .u8 43), (69, .bool false), (107, .bool false), (111, .bool true), (117, .bool true), (122, .bool true), (124, .bool false)] := F.keep ⟨rfl, rfl, rfl, rfl, rfl, rfl, rfl, rfl, rfl, rfl, rfl, rfl, rfl, rfl, rfl, rfl, rfl, rfl, rfl, rfl, trivial⟩
    refine then_n ?_
    refine wp_cond_false (F.e rfl) ?_
    refine wp_skip ?_
    refine then_n ?_
    refine wp_seq ?_
    refine wp_region_lit ?_
    refine list_val F (wn rfl) rfl rfl (.string (ST.str (encPad xs))) (ex_move _ rfl _ (F.e rfl)) ?_; clear F a; intro a F
    refine list_val F (wn rfl) rfl rfl (.int .i64 ((i : Nat) : Int)) (ex_move _ rfl _ (F.e rfl)) ?_; clear F a; intro a F
    refine list_val F (wn rfl) rfl rfl (.int .u8 (((swap x).toNat : Nat) : Int)) (ST.ex_ixs 9 _ _ rfl un9 (encPad xs) (F.e rfl) .i64 _ (F.e rfl) i rfl (swap x) hp) ?_; clear F a; intro a F
    refine list_val F (wn rfl) rfl rfl (.int .u8 43) (ex_move _ rfl _ (F.e rfl)) ?_; clear F a; intro a F
    refine list_val F (wn rfl) rfl rfl (.bool false) (ex_bin .neq _ _ _ _ rfl .u8 _ _ (F.e rfl) (F.e rfl) _ (b_neq (by rw [h45]; decide))) ?_; clear F a; intro a F
    refine wpList_nil ?_
    replace F : Fr 130 a [(0, .slice A xs.length c), (2, .bool false), (3, .string (ST.str (enc sUrl xs))), (4, .string (ST.str (encPad xs))), (5, .string (ST.str (hex16 xs))), (6, .slice A_23 xs.length c_23), (7, .int .i64 0), (8, .slice A_28 xs.length c_28), (9, .int .i64 0), (10, .slice A_33 xs.length c_33), (11, .int .i64 0), (12, .string (ST.str sLet)), (13, .int .i64 ((i : Nat) : Int)), (14, .int .u8 43), (69, .bool false), (107, .bool false), (111, .bool true), (117, .bool true), (122, .bool true), (124, .bool false), (129, .bool false)] := F.keep ⟨rfl, rfl, rfl, rfl, rfl, rfl, rfl, rfl, rfl, rfl, rfl, rfl, rfl, rfl, rfl, rfl, rfl, rfl, rfl, rfl, rfl, trivial⟩
    refine then_n ?_
    refine wp_cond_false (F.e rfl) ?_
    refine wp_skip ?_
    refine in_n ?_
    refine then_n ?_
    refine wp_region_lit ?_
    refine list_val F (wn rfl) rfl rfl (.int .i64 ((i : Nat) : Int)) (ex_move _ rfl _ (F.e rfl)) ?_; clear F a; intro a F
    refine list_val F (wn rfl) rfl rfl (.int .i64 ((i + 1 : Nat) : Int)) (ex_bin .add _ _ _ _ rfl .i64 _ _ (F.e rfl) rfl _ (b_add ((w_i64 (by omega) (by omega)).trans (by omega)))) ?_; clear F a; intro a F
    refine list_val F (wn rfl) rfl rfl (.int .i64 ((i + 1 : Nat) : Int)) (ex_assign _ rfl _ (F.e rfl)) ?_; clear F a; intro a F
    refine wpList_nil ?_
    replace F : Fr 130 a [(0, .slice A xs.length c), (2, .bool false), (3, .string (ST.str (enc sUrl xs))), (4, .string (ST.str (encPad xs))), (5, .string (ST.str (hex16 xs))), (6, .slice A_23 xs.length c_23), (7, .int .i64 0), (8, .slice A_28 xs.length c_28), (9, .int .i64 0), (10, .slice A_33 xs.length c_33), (11, .int .i64 0), (12, .string (ST.str sLet)), (13, .int .i64 ((i + 1 : Nat) : Int)), (14, .int .u8 43), (69, .bool false), (107, .bool false), (111, .bool true), (117, .bool true), (122, .bool true), (124, .bool false), (129, .bool false)] := F.keep ⟨rfl, rfl, rfl, rfl, rfl, rfl, rfl, rfl, rfl, rfl, rfl, rfl, rfl, rfl, rfl, rfl, rfl, rfl, rfl, rfl, rfl, trivial⟩
    refine then_n ?_
    exact ⟨(encPad xs).length - (i + 1), by omega, (i + 1), F.keep ⟨rfl, rfl, rfl, rfl, rfl, rfl, rfl, rfl, rfl, rfl, rfl, rfl, rfl, rfl, rfl, trivial⟩, (by refine M.pick' [] _ ?_ (by decide); exact trivial), (by omega), (by omega)⟩
   by_cases h95 : x = 95
   ·
    refine wp_seq ?_
    refine wp_seq ?_
    refine wp_region_lit ?_
    refine list_val F (wn rfl) rfl rfl (.int .i64 ((i : Nat) : Int)) (ex_move _ rfl _ (F.e rfl)) ?_; clear F a; intro a F
    refine list_val F (wn rfl) rfl rfl (.string (ST.str (encPad xs))) (ex_move _ rfl _ (F.e rfl)) ?_; clear F a; intro a F
    refine list_val F (wn rfl) rfl rfl (.int .i64 (((encPad xs).length : Nat) : Int)) (ST.ex_lens _ 9 rfl un9 (encPad xs) (F.e rfl)) ?_; clear F a; intro a F
    refine list_val F (wn rfl) rfl rfl (.bool true) (ex_bin .lss _ _ _ _ rfl .i64 _ _ (F.e rfl) (F.e rfl) _ (b_lss (decide_eq_true (by omega)))) ?_; clear F a; intro a F
    refine wpList_nil ?_
    replace F : Fr 130 a [(0, .slice A xs.length c), (2, .bool false), (3, .string (ST.str (enc sUrl xs))), (4, .string (ST.str (encPad xs))), (5, .string (ST.str (hex16 xs))), (6, .slice A_23 xs.length c_23), (7, .int .i64 0), (8, .slice A_28 xs.length c_28), (9, .int .i64 0), (10, .slice A_33 xs.length c_33), (11, .int .i64 0), (12, .string (ST.str sLet)), (13, .int .i64 ((i : Nat) : Int)), (69, .bool false), (107, .bool false), (111, .bool true)] := F.keep ⟨rfl, rfl, rfl, rfl, rfl, rfl, rfl, rfl, rfl, rfl, rfl, rfl, rfl, rfl, rfl, rfl, trivial⟩
    refine then_n ?_
    refine wp_cond_true (F.e rfl) ?_
    refine wp_skip ?_
    refine then_n ?_
    refine wp_seq ?_
    refine wp_block ?_
    refine wp_seq ?_
    refine wp_region_lit ?_
    refine list_val F (wn rfl) rfl rfl (.int .u8 61) (ex_assign _ rfl _ rfl) ?_; clear F a; intro a F
    refine wpList_nil ?_
    replace F : Fr 130 a [(0, .slice A xs.length c), (2, .bool false), (3, .string (ST.str (enc sUrl xs))), (4, .string (ST.str (encPad xs))), (5, .string (ST.str (hex16 xs))), (6, .slice A_23 xs.length c_23), (7, .int .i64 0), (8, .slice A_28 xs.length c_28), (9, .int .i64 0), (10, .slice A_33 xs.length c_33), (11, .int .i64 0), (12, .string (ST.str sLet)), (13, .int .i64 ((i : Nat) : Int)), (14, .int .u8 61), (69, .bool false), (107, .bool false), (111, .bool true)] := F.keep ⟨rfl, rfl, rfl, rfl, rfl, rfl, rfl, rfl, rfl, rfl, rfl, rfl, rfl, rfl, rfl, rfl, rfl, trivial⟩
    refine then_n ?_
    refine wp_seq ?_
    refine wp_seq ?_
    refine wp_region_lit ?_
    refine list_val F (wn rfl) rfl rfl (.int .i64 ((i : Nat) : Int)) (ex_move _ rfl _ (F.e rfl)) ?_; clear F a; intro a F
    refine list_val F (wn rfl) rfl rfl (.string (ST.str (enc sUrl xs))) (ex_move _ rfl _ (F.e rfl)) ?_; clear F a; intro a F
    refine list_val F (wn rfl) rfl rfl (.int .i64 (((enc sUrl xs).length : Nat) : Int)) (ST.ex_lens _ 9 rfl un9 (enc sUrl xs) (F.e rfl)) ?_; clear F a; intro a F
    refine list_val F (wn rfl) rfl rfl (.bool true) (ex_bin .lss _ _ _ _ rfl .i64 _ _ (F.e rfl) (F.e rfl) _ (b_lss (decide_eq_true (by omega)))) ?_; clear F a; intro a F
    refine wpList_nil ?_
    replace F : Fr 130 a [(0, .slice A xs.length c), (2, .bool false), (3, .string (ST.str (enc sUrl xs))), (4, .string (ST.str (encPad xs))), (5, .string (ST.str (hex16 xs))), (6, .slice A_23 xs.length c_23), (7, .int .i64 0), (8, .slice A_28 xs.length c_28), (9, .int .i64 0), (10, .slice A_33 xs.length c_33), (11, .int .i64 0), (12, .string (ST.str sLet)), (13, .int .i64 ((i : Nat) : Int)), (14, .int .u8 61), (69, .bool false), (107, .bool false), (111, .bool true), (117, .bool true)] := F.keep ⟨rfl, rfl, rfl, rfl, rfl, rfl, rfl, rfl, rfl, rfl, rfl, rfl, rfl, rfl, rfl, rfl, rfl, rfl, trivial⟩
    refine then_n ?_
    refine wp_cond_true (F.e rfl) ?_
    refine wp_region_lit ?_
    refine list_val F (wn rfl) rfl rfl (.string (ST.str (enc sUrl xs))) (ex_move _ rfl _ (F.e rfl)) ?_; clear F a; intro a F
    refine list_val F (wn rfl) rfl rfl (.int .i64 ((i : Nat) : Int)) (ex_move _ rfl _ (F.e rfl)) ?_; clear F a; intro a F
    refine list_val F (wn rfl) rfl rfl (.int .u8 ((x.toNat : Nat) : Int)) (ST.ex_ixs 9 _ _ rfl un9 (enc sUrl xs) (F.e rfl) .i64 _ (F.e rfl) i rfl x hx) ?_; clear F a; intro a F
    refine list_val F (wn rfl) rfl rfl (.int .u8 ((x.toNat : Nat) : Int)) (ex_assign _ rfl _ (F.e rfl)) ?_; clear F a; intro a F
    refine wpList_nil ?_
    replace F : Fr 130 a [(0, .slice A xs.length c), (2, .bool false), (3, .string (ST.str (enc sUrl xs))), (4, .string (ST.str (encPad xs))), (5, .string (ST.str (hex16 xs))), (6, .slice A_23 xs.length c_23), (7, .int .i64 0), (8, .slice A_28 xs.length c_28), (9, .int .i64 0), (10, .slice A_33 xs.length c_33), (11, .int .i64 0), (12, .string (ST.str sLet)), (13, .int .i64 ((i : Nat) : Int)), (14, .int .u8 ((x.toNat : Nat) : Int)), (69, .bool false), (107, .bool false), (111, .bool true), (117, .bool true)] := F.keep ⟨rfl, rfl, rfl, rfl, rfl, rfl, rfl, rfl, rfl, rfl, rfl, rfl, rfl, rfl, rfl, rfl, rfl, rfl, trivial⟩
    refine then_n ?_
    refine wp_seq ?_
    refine wp_seq ?_
    refine wp_region_lit ?_
    refine list_val F (wn rfl) rfl rfl (.int .u8 ((x.toNat : Nat) : Int)) (ex_move _ rfl _ (F.e rfl)) ?_; clear F a; intro a F
    refine list_val F (wn rfl) rfl rfl (.bool false) (ex_bin .eql _ _ _ _ rfl .u8 _ _ (F.e rfl) rfl _ (b_eql (no45 h45))) ?_; clear F a; intro a F
    refine wpList_nil ?_
    replace F : Fr 130 a [(0, .slice A xs.length c), (2, .bool false), (3, .string (ST.str (enc sUrl xs))), (4, .string (ST.str (encPad xs))), (5, .string (ST.str (hex16 xs))), (6, .slice A_23 xs.length c_23), (7, .int .i64 0), (8, .slice A_28 xs.length c_28), (9, .int .i64 0), (10, .slice A_33 xs.length c_33), (11, .int .i64 0), (12, .string (ST.str sLet)), (13, .int .i64 ((i : Nat) : Int)), (14, .int .u8 ((x.toNat : Nat) : Int)), (69, .bool false), (107, .bool false), (111, .bool true), (117, .bool true), (122, .bool false)] := F.keep ⟨rfl, rfl, rfl, rfl, rfl, rfl, rfl, rfl, rfl, rfl, rfl, rfl, rfl, rfl, rfl, rfl, rfl, rfl, rfl, trivial⟩
    refine then_n ?_
    refine wp_cond_false (F.e rfl) ?_
    refine wp_skip ?_
    refine then_n ?_
    refine wp_seq ?_
    refine wp_seq ?_
    refine wp_region_lit ?_
    refine list_val F (wn rfl) rfl rfl (.int .u8 ((x.toNat : Nat) : Int)) (ex_move _ rfl _ (F.e rfl)) ?_; clear F a; intro a F
    refine list_val F (wn rfl) rfl rfl (.bool true) (ex_bin .eql _ _ _ _ rfl .u8 _ _ (F.e rfl) rfl _ (b_eql (by rw [h95]; decide))) ?_; clear F a; intro a F
    refine wpList_nil ?_
    replace F : Fr 130 a [(0, .slice A xs.length c), (2, .bool false), (3, .string (ST.str (enc sUrl xs))), (4, .string (ST.str (encPad xs))), (5, .string (ST.str (hex16 xs))), (6, .slice A_23 xs.length c_23), (7, .int .i64 0), (8, .slice A_28 xs.length c_28), (9, .int .i64 0), (10, .slice A_33 xs.length c_33), (11, .int .i64 0), (12, .string (ST.str sLet)), (13, .int .i64 ((i : Nat) : Int)), (14, .int .u8 ((x.toNat : Nat) : Int)), (69, .bool false), (107, .bool false), (111, .bool true), (117, .bool true), (122, .bool false), (124, .bool true)] := F.keep ⟨rfl, rfl, rfl, rfl, rfl, rfl, rfl, rfl, rfl, rfl, rfl, rfl, rfl, rfl, rfl, rfl, rfl, rfl, rfl, rfl, trivial⟩
    refine then_n ?_
    refine wp_cond_true (F.e rfl) ?_
    refine wp_region_lit ?_
    refine list_val F (wn rfl) rfl rfl (.int .u8 47) (ex_assign _ rfl _ rfl) ?_; clear F a; intro a F
    refine wpList_nil ?_
    replace F : Fr 130 a [(0, .slice A xs.length c), (2, .bool false), (3, .string (ST.str (enc sUrl xs))), (4, .string (ST.str (encPad xs))), (5, .string (ST.str (hex16 xs))), (6, .slice A_23 xs.length c_23), (7, .int .i64 0), (8, .slice A_28 xs.length c_28), (9, .int .i64 0), (10, .slice A_33 xs.length c_33), (11, .int .i64 0), (12, .string (ST.str sLet)), (13, .int .i64 ((i : Nat) : Int)), (14, .int .u8 47), (69, .bool false), (107, .bool false), (111, .bool true), (117, .bool true), (122, .bool false), (124, .bool true)] := F.keep ⟨rfl, rfl, rfl, rfl, rfl, rfl, rfl, rfl, rfl, rfl, rfl, rfl, rfl, rfl, rfl, rfl, rfl, rfl, rfl, rfl, trivial⟩
    refine then_n ?_
    refine wp_seq ?_
    refine wp_region_lit ?_
    refine list_val F (wn rfl) rfl rfl (.string (ST.str (encPad xs))) (ex_move _ rfl _ (F.e rfl)) ?_; clear F a; intro a F
    refine list_val F (wn rfl) rfl rfl (.int .i64 ((i : Nat) : Int)) (ex_move _ rfl _ (F.e rfl)) ?_; clear F a; intro a F
    refine list_val F (wn rfl) rfl rfl (.int .u8 (((swap x).toNat : Nat) : Int)) (ST.ex_ixs 9 _ _ rfl un9 (encPad xs) (F.e rfl) .i64 _ (F.e rfl) i rfl (swap x) hp) ?_; clear F a; intro a F
    refine list_val F (wn rfl) rfl rfl (.int .u8 47) (ex_move _ rfl _ (F.e rfl)) ?_; clear F a; intro a F
    refine list_val F (wn rfl) rfl rfl (.bool false) (ex_bin .neq _ _ _ _ rfl .u8 _ _ (F.e rfl) (F.e rfl) _ (b_neq (by rw [h95]; decide))) ?_; clear F a; intro a F
    refine wpList_nil ?_
    replace F : Fr 130 a [(0, .slice A xs.length c), (2, .bool false), (3, .string (ST.str (enc sUrl xs))), (4, .string (ST.str (encPad xs))), (5, .string (ST.str (hex16 xs))), (6, .slice A_23 xs.length c_23), (7, .int .i64 0), (8, .slice A_28 xs.length c_28), (9, .int .i64 0), (10, .slice A_33 xs.length c_33), (11, .int .i64 0), (12, .string (ST.str sLet)), (13, .int .i64 ((i : Nat) : Int)), (14, .int .u8 47), (69, .bool false), (107, .bool false), (111, .bool true), (117, .bool true), (122, .bool false), (124, .bool true), (129, .bool false)] := F.keep ⟨rfl, rfl, rfl, rfl, rfl, rfl, rfl, rfl, rfl, rfl, rfl, rfl, rfl, rfl, rfl, rfl, rfl, rfl, rfl, rfl, rfl, trivial⟩
    refine then_n ?_
    refine wp_cond_false (F.e rfl) ?_
    refine wp_skip ?_
    refine in_n ?_
    refine then_n ?_
    refine wp_region_lit ?_
    refine list_val F (wn rfl) rfl rfl (.int .i64 ((i : Nat) : Int)) (ex_move _ rfl _ (F.e rfl)) ?_; clear F a; intro a F
    refine list_val F (wn rfl) rfl rfl (.int .i64 ((i + 1 : Nat) : Int)) (ex_bin .add _ _ _ _ rfl .i64 _ _ (F.e rfl) rfl _ (b_add ((w_i64 (by omega) (by omega)).trans (by omega)))) ?_; clear F a; intro a F
    refine list_val F (wn rfl) rfl rfl (.int .i64 ((i + 1 : Nat) : Int)) (ex_assign _ rfl _ (F.e rfl)) ?_; clear F a; intro a F
    refine wpList_nil ?_
    replace F : Fr 130 a [(0, .slice A xs.length c), (2, .bool false), (3, .string (ST.str (enc sUrl xs))), (4, .string (ST.str (encPad xs))), (5, .string (ST.str (hex16 xs))), (6, .slice A_23 xs.length c_23), (7, .int .i64 0), (8, .slice A_28 xs.length c_28), (9, .int .i64 0), (10, .slice A_33 xs.length c_33), (11, .int .i64 0), (12, .string (ST.str sLet)), (13, .int .i64 ((i + 1 : Nat) : Int)), (14, .int .u8 47), (69, .bool false), (107, .bool false), (111, .bool true), (117, .bool true), (122, .bool false), (124, .bool true), (129, .bool false)] := F.keep ⟨rfl, rfl, rfl, rfl, rfl, rfl, rfl, rfl, rfl, rfl, rfl, rfl, rfl, rfl, rfl, rfl, rfl, rfl, rfl, rfl, rfl, trivial⟩
    refine then_n ?_
    exact ⟨(encPad xs).length - (i + 1), by omega, (i + 1), F.keep ⟨rfl, rfl, rfl, rfl, rfl, rfl, rfl, rfl, rfl, rfl, rfl, rfl, rfl, rfl, rfl, trivial⟩, (by refine M.pick' [] _ ?_ (by decide); exact trivial), (by omega), (by omega)⟩
   refine wp_seq ?_
   refine wp_seq ?_
   refine wp_region_lit ?_
   refine list_val F (wn rfl) rfl rfl (.int .i64 ((i : Nat) : Int)) (ex_move _ rfl _ (F.e rfl)) ?_; clear F a; intro a F
   refine list_val F (wn rfl) rfl rfl (.string (ST.str (encPad xs))) (ex_move _ rfl _ (F.e rfl)) ?_; clear F a; intro a F
   refine list_val F (wn rfl) rfl rfl (.int .i64 (((encPad xs).length : Nat) : Int)) (ST.ex_lens _ 9 rfl un9 (encPad xs) (F.e rfl)) ?_; clear F a; intro a F
   refine list_val F (wn rfl) rfl rfl (.bool true) (ex_bin .lss _ _ _ _ rfl .i64 _ _ (F.e rfl) (F.e rfl) _ (b_lss (decide_eq_true (by omega)))) ?_; clear F a; intro a F
   refine wpList_nil ?_
   replace F : Fr 130 a [(0, .slice A xs.length c), (2, .bool false), (3, .string (ST.str (enc sUrl xs))), (4, .string (ST.str (encPad xs))), (5, .string (ST.str (hex16 xs))), (6, .slice A_23 xs.length c_23), (7, .int .i64 0), (8, .slice A_28 xs.length c_28), (9, .int .i64 0), (10, .slice A_33 xs.length c_33), (11, .int .i64 0), (12, .string (ST.str sLet)), (13, .int .i64 ((i : Nat) : Int)), (69, .bool false), (107, .bool false), (111, .bool true)] := F.keep ⟨rfl, rfl, rfl, rfl, rfl, rfl, rfl, rfl, rfl, rfl, rfl, rfl, rfl, rfl, rfl, rfl, trivial⟩
   refine then_n ?_
   refine wp_cond_true (F.e rfl) ?_
   refine wp_skip ?_
   refine then_n ?_
   refine wp_seq ?_
   refine wp_block ?_
   refine wp_seq ?_
   refine wp_region_lit ?_
   refine list_val F (wn rfl) rfl rfl (.int .u8 61) (ex_assign _ rfl _ rfl) ?_; clear F a; intro a F
   refine wpList_nil ?_
   replace F : Fr 130 a [(0, .slice A xs.length c), (2, .bool false), (3, .string (ST.str (enc sUrl xs))), (4, .string (ST.str (encPad xs))), (5, .string (ST.str (hex16 xs))), (6, .slice A_23 xs.length c_23), (7, .int .i64 0), (8, .slice A_28 xs.length c_28), (9, .int .i64 0), (10, .slice A_33 xs.length c_33), (11, .int .i64 0), (12, .string (ST.str sLet)), (13, .int .i64 ((i : Nat) : Int)), (14, .int .u8 61), (69, .bool false), (107, .bool false), (111, .bool true)] := F.keep ⟨rfl, rfl, rfl, rfl, rfl, rfl, rfl, rfl, rfl, rfl, rfl, rfl, rfl, rfl, rfl, rfl, rfl, trivial⟩
   refine then_n ?_
   refine wp_seq ?_
   refine wp_seq ?_
   refine wp_region_lit ?_
   refine list_val F (wn rfl) rfl rfl (.int .i64 ((i : Nat) : Int)) (ex_move _ rfl _ (F.e rfl)) ?_; clear F a; intro a F
   refine list_val F (wn rfl) rfl rfl (.string (ST.str (enc sUrl xs))) (ex_move _ rfl _ (F.e rfl)) ?_; clear F a; intro a F
   refine list_val F (wn rfl) rfl rfl (.int .i64 (((enc sUrl xs).length : Nat) : Int)) (ST.ex_lens _ 9 rfl un9 (enc sUrl xs) (F.e rfl)) ?_; clear F a; intro a F
   refine list_val F (wn rfl) rfl rfl (.bool true) (ex_bin .lss _ _ _ _ rfl .i64 _ _ (F.e rfl) (F.e rfl) _ (b_lss (decide_eq_true (by omega)))) ?_; clear F a; intro a F
   refine wpList_nil ?_
   replace F : Fr 130 a [(0, .slice A xs.length c), (2, .bool false), (3, .string (ST.str (enc sUrl xs))), (4, .string (ST.str (encPad xs))), (5, .string (ST.str (hex16 xs))), (6, .slice A_23 xs.length c_23), (7, .int .i64 0), (8, .slice A_28 xs.length c_28), (9, .int .i64 0), (10, .slice A_33 xs.length c_33), (11, .int .i64 0), (12, .string (ST.str sLet)), (13, .int .i64 ((i : Nat) : Int)), (14, .int .u8 61), (69, .bool false), (107, .bool false), (111, .bool true), (117, .bool true)] := F.keep ⟨rfl, rfl, rfl, rfl, rfl, rfl, rfl, rfl, rfl, rfl, rfl, rfl, rfl, rfl, rfl, rfl, rfl, rfl, trivial⟩
   refine then_n ?_
   refine wp_cond_true (F.e rfl) ?_
   refine wp_region_lit ?_
   refine list_val F (wn rfl) rfl rfl (.string (ST.str (enc sUrl xs))) (ex_move _ rfl _ (F.e rfl)) ?_; clear F a; intro a F
   refine list_val F (wn rfl) rfl rfl (.int .i64 ((i : Nat) : Int)) (ex_move _ rfl _ (F.e rfl)) ?_; clear F a; intro a F
   refine list_val F (wn rfl) rfl rfl (.int .u8 ((x.toNat : Nat) : Int)) (ST.ex_ixs 9 _ _ rfl un9 (enc sUrl xs) (F.e rfl) .i64 _ (F.e rfl) i rfl x hx) ?_; clear F a; intro a F
   refine list_val F (wn rfl) rfl rfl (.int .u8 ((x.toNat : Nat) : Int)) (ex_assign _ rfl _ (F.e rfl)) ?_; clear F a; intro a F
   refine wpList_nil ?_
   replace F : Fr 130 a [(0, .slice A xs.length c), (2, .bool false), (3, .string (ST.str (enc sUrl xs))), (4, .string (ST.str (encPad xs))), (5, .string (ST.str (hex16 xs))), (6, .slice A_23 xs.length c_23), (7, .int .i64 0), (8, .slice A_28 xs.length c_28), (9, .int .i64 0), (10, .slice A_33 xs.length c_33), (11, .int .i64 0), (12, .string (ST.str sLet)), (13, .int .i64 ((i : Nat) : Int)), (14, .int .u8 ((x.toNat : Nat) : Int)), (69, .bool false), (107, .bool false), (111, .bool true), (117, .bool true)] := F.keep ⟨rfl, rfl, rfl, rfl, rfl, rfl, rfl, rfl, rfl, rfl, rfl, rfl, rfl, rfl, rfl, rfl, rfl, rfl, trivial⟩
   refine then_n ?_
   refine wp_seq ?_
   refine wp_seq ?_
   refine wp_region_lit ?_
   refine list_val F (wn rfl) rfl rfl (.int .u8 ((x.toNat : Nat) : Int)) (ex_move _ rfl _ (F.e rfl)) ?_; clear F a; intro a F
   refine list_val F (wn rfl) rfl rfl (.bool false) (ex_bin .eql _ _ _ _ rfl .u8 _ _ (F.e rfl) rfl _ (b_eql (no45 h45))) ?_; clear F a; intro a F
   refine wpList_nil ?_
   replace F : Fr 130 a [(0, .slice A xs.length c), (2, .bool false), (3, .string (ST.str (enc sUrl xs))), (4, .string (ST.str (encPad xs))), (5, .string (ST.str (hex16 xs))), (6, .slice A_23 xs.length c_23), (7, .int .i64 0), (8, .slice A_28 xs.length c_28), (9, .int .i64 0), (10, .slice A_33 xs.length c_33), (11, .int .i64 0), (12, .string (ST.str sLet)), (13, .int .i64 ((i : Nat) : Int)), (14, .int .u8 ((x.toNat : Nat) : Int)), (69, .bool false), (107, .bool false), (111, .bool true), (117, .bool true), (122, .bool false)] := F.keep ⟨rfl, rfl, rfl, rfl, rfl, rfl, rfl, rfl, rfl, rfl, rfl, rfl, rfl, rfl, rfl, rfl, rfl, rfl, rfl, trivial⟩
   refine then_n ?_
   refine wp_cond_false (F.e rfl) ?_
   refine wp_skip ?_
   refine then_n ?_
   refine wp_seq ?_
   refine wp_seq ?_
   refine wp_region_lit ?_
   refine list_val F (wn rfl) rfl rfl (.int .u8 ((x.toNat : Nat) : Int)) (ex_move _ rfl _ (F.e rfl)) ?_; clear F a; intro a F
   refine list_val F (wn rfl) rfl rfl (.bool false) (ex_bin .eql _ _ _ _ rfl .u8 _ _ (F.e rfl) rfl _ (b_eql (no95 h95))) ?_; clear F a; intro a F
   refine wpList_nil ?_
   replace F : Fr 130 a [(0, .slice A xs.length c), (2, .bool false), (3, .string (ST.str (enc sUrl xs))), (4, .string (ST.str (encPad xs))), (5, .string (ST.str (hex16 xs))), (6, .slice A_23 xs.length c_23), (7, .int .i64 0), (8, .slice A_28 xs.length c_28), (9, .int .i64 0), (10, .slice A_33 xs.length c_33), (11, .int .i64 0), (12, .string (ST.str sLet)), (13, .int .i64 ((i : Nat) : Int)), (14, .int .u8 ((x.toNat : Nat) : Int)), (69, .bool false), (107, .bool false), (111, .bool true), (117, .bool true), (122, .bool false), (124, .bool false)] := F.keep ⟨rfl, rfl, rfl, rfl, rfl, rfl, rfl, rfl, rfl, rfl, rfl, rfl, rfl, rfl, rfl, rfl, rfl, rfl, rfl, rfl, trivial⟩
   refine then_n ?_
   refine wp_cond_false (F.e rfl) ?_
   refine wp_skip ?_
   refine then_n ?_
   refine wp_seq ?_
   refine wp_region_lit ?_
   refine list_val F (wn rfl) rfl rfl (.string (ST.str (encPad xs))) (ex_move _ rfl _ (F.e rfl)) ?_; clear F a; intro a F
   refine list_val F (wn rfl) rfl rfl (.int .i64 ((i : Nat) : Int)) (ex_move _ rfl _ (F.e rfl)) ?_; clear F a; intro a F
   refine list_val F (wn rfl) rfl rfl (.int .u8 (((swap x).toNat : Nat) : Int)) (ST.ex_ixs 9 _ _ rfl un9 (encPad xs) (F.e rfl) .i64 _ (F.e rfl) i rfl (swap x) hp) ?_; clear F a; intro a F
   refine list_val F (wn rfl) rfl rfl (.int .u8 ((x.toNat : Nat) : Int)) (ex_move _ rfl _ (F.e rfl)) ?_; clear F a; intro a F
   refine list_val F (wn rfl) rfl rfl (.bool false) (ex_bin .neq _ _ _ _ rfl .u8 _ _ (F.e rfl) (F.e rfl) _ (b_neq (by rw [swap_id h45 h95]; simp))) ?_; clear F a; intro a F
   refine wpList_nil ?_
   replace F : Fr 130 a [(0, .slice A xs.length c), (2, .bool false), (3, .string (ST.str (enc sUrl xs))), (4, .string (ST.str (encPad xs))), (5, .string (ST.str (hex16 xs))), (6, .slice A_23 xs.length c_23), (7, .int .i64 0), (8, .slice A_28 xs.length c_28), (9, .int .i64 0), (10, .slice A_33 xs.length c_33), (11, .int .i64 0), (12, .string (ST.str sLet)), (13, .int .i64 ((i : Nat) : Int)), (14, .int .u8 ((x.toNat : Nat) : Int)), (69, .bool false), (107, .bool false), (111, .bool true), (117, .bool true), (122, .bool false), (124, .bool false), (129, .bool false)] := F.keep ⟨rfl, rfl, rfl, rfl, rfl, rfl, rfl, rfl, rfl, rfl, rfl, rfl, rfl, rfl, rfl, rfl, rfl, rfl, rfl, rfl, rfl, trivial⟩
   refine then_n ?_
   refine wp_cond_false (F.e rfl) ?_
   refine wp_skip ?_
   refine in_n ?_
   refine then_n ?_
   refine wp_region_lit ?_
   refine list_val F (wn rfl) rfl rfl (.int .i64 ((i : Nat) : Int)) (ex_move _ rfl _ (F.e rfl)) ?_; clear F a; intro a F
   refine list_val F (wn rfl) rfl rfl (.int .i64 ((i + 1 : Nat) : Int)) (ex_bin .add _ _ _ _ rfl .i64 _ _ (F.e rfl) rfl _ (b_add ((w_i64 (by omega) (by omega)).trans (by omega)))) ?_; clear F a; intro a F
   refine list_val F (wn rfl) rfl rfl (.int .i64 ((i + 1 : Nat) : Int)) (ex_assign _ rfl _ (F.e rfl)) ?_; clear F a; intro a F
   refine wpList_nil ?_
   replace F : Fr 130 a [(0, .slice A xs.length c), (2, .bool false), (3, .string (ST.str (enc sUrl xs))), (4, .string (ST.str (encPad xs))), (5, .string (ST.str (hex16 xs))), (6, .slice A_23 xs.length c_23), (7, .int .i64 0), (8, .slice A_28 xs.length c_28), (9, .int .i64 0), (10, .slice A_33 xs.length c_33), (11, .int .i64 0), (12, .string (ST.str sLet)), (13, .int .i64 ((i + 1 : Nat) : Int)), (14, .int .u8 ((x.toNat : Nat) : Int)), (69, .bool false), (107, .bool false), (111, .bool true), (117, .bool true), (122, .bool false), (124, .bool false), (129, .bool false)] := F.keep ⟨rfl, rfl, rfl, rfl, rfl, rfl, rfl, rfl, rfl, rfl, rfl, rfl, rfl, rfl, rfl, rfl, rfl, rfl, rfl, rfl, rfl, trivial⟩
   refine then_n ?_
   exact ⟨(encPad xs).length - (i + 1), by omega, (i + 1), F.keep ⟨rfl, rfl, rfl, rfl, rfl, rfl, rfl, rfl, rfl, rfl, rfl, rfl, rfl, rfl, rfl, trivial⟩, (by refine M.pick' [] _ ?_ (by decide); exact trivial), (by omega), (by omega)⟩
  refine wp_seq ?_
  refine wp_seq ?_
  refine wp_region_lit ?_
  refine list_val F (wn rfl) rfl rfl (.int .i64 ((i : Nat) : Int)) (ex_move _ rfl _ (F.e rfl)) ?_; clear F a; intro a F
  refine list_val F (wn rfl) rfl rfl (.string (ST.str (encPad xs))) (ex_move _ rfl _ (F.e rfl)) ?_; clear F a; intro a F
  refine list_val F (wn rfl) rfl rfl (.int .i64 (((encPad xs).length : Nat) : Int)) (ST.ex_lens _ 9 rfl un9 (encPad xs) (F.e rfl)) ?_; clear F a; intro a F
  refine list_val F (wn rfl) rfl rfl (.bool true) (ex_bin .lss _ _ _ _ rfl .i64 _ _ (F.e rfl) (F.e rfl) _ (b_lss (decide_eq_true (by omega)))) ?_; clear F a; intro a F
  refine wpList_nil ?_
  replace F : Fr 130 a [(0, .slice A xs.length c), (2, .bool false), (3, .string (ST.str (enc sUrl xs))), (4, .string (ST.str (encPad xs))), (5, .string (ST.str (hex16 xs))), (6, .slice A_23 xs.length c_23), (7, .int .i64 0), (8, .slice A_28 xs.length c_28), (9, .int .i64 0), (10, .slice A_33 xs.length c_33), (11, .int .i64 0), (12, .string (ST.str sLet)), (13, .int .i64 ((i : Nat) : Int)), (69, .bool false), (107, .bool false), (111, .bool true)] := F.keep ⟨rfl, rfl, rfl, rfl, rfl, rfl, rfl, rfl, rfl, rfl, rfl, rfl, rfl, rfl, rfl, rfl, trivial⟩
  refine then_n ?_
  refine wp_cond_true (F.e rfl) ?_
  refine wp_skip ?_
  refine then_n ?_
  refine wp_seq ?_
  refine wp_block ?_
  refine wp_seq ?_
  refine wp_region_lit ?_
  refine list_val F (wn rfl) rfl rfl (.int .u8 61) (ex_assign _ rfl _ rfl) ?_; clear F a; intro a F
  refine wpList_nil ?_
  replace F : Fr 130 a [(0, .slice A xs.length c), (2, .bool false), (3, .string (ST.str (enc sUrl xs))), (4, .string (ST.str (encPad xs))), (5, .string (ST.str (hex16 xs))), (6, .slice A_23 xs.length c_23), (7, .int .i64 0), (8, .slice A_28 xs.length c_28), (9, .int .i64 0), (10, .slice A_33 xs.length c_33), (11, .int .i64 0), (12, .string (ST.str sLet)), (13, .int .i64 ((i : Nat) : Int)), (14, .int .u8 61), (69, .bool false), (107, .bool false), (111, .bool true)] := F.keep ⟨rfl, rfl, rfl, rfl, rfl, rfl, rfl, rfl, rfl, rfl, rfl, rfl, rfl, rfl, rfl, rfl, rfl, trivial⟩
  refine then_n ?_
  refine wp_seq ?_
  refine wp_seq ?_
  refine wp_region_lit ?_
  refine list_val F (wn rfl) rfl rfl (.int .i64 ((i : Nat) : Int)) (ex_move _ rfl _ (F.e rfl)) ?_; clear F a; intro a F
  refine list_val F (wn rfl) rfl rfl (.string (ST.str (enc sUrl xs))) (ex_move _ rfl _ (F.e rfl)) ?_; clear F a; intro a F
  refine list_val F (wn rfl) rfl rfl (.int .i64 (((enc sUrl xs).length : Nat) : Int)) (ST.ex_lens _ 9 rfl un9 (enc sUrl xs) (F.e rfl)) ?_; clear F a; intro a F
  refine list_val F (wn rfl) rfl rfl (.bool false) (ex_bin .lss _ _ _ _ rfl .i64 _ _ (F.e rfl) (F.e rfl) _ (b_lss (decide_eq_false (by omega)))) ?_; clear F a; intro a F
  refine wpList_nil ?_
  replace F : Fr 130 a [(0, .slice A xs.length c), (2, .bool false), (3, .string (ST.str (enc sUrl xs))), (4, .string (ST.str (encPad xs))), (5, .string (ST.str (hex16 xs))), (6, .slice A_23 xs.length c_23), (7, .int .i64 0), (8, .slice A_28 xs.length c_28), (9, .int .i64 0), (10, .slice A_33 xs.length c_33), (11, .int .i64 0), (12, .string (ST.str sLet)), (13, .int .i64 ((i : Nat) : Int)), (14, .int .u8 61), (69, .bool false), (107, .bool false), (111, .bool true), (117, .bool false)] := F.keep ⟨rfl, rfl, rfl, rfl, rfl, rfl, rfl, rfl, rfl, rfl, rfl, rfl, rfl, rfl, rfl, rfl, rfl, rfl, trivial⟩
  refine then_n ?_
  refine wp_cond_false (F.e rfl) ?_
  refine wp_skip ?_
  refine then_n ?_
  refine wp_seq ?_
  refine wp_seq ?_
  refine wp_region_lit ?_
  refine list_val F (wn rfl) rfl rfl (.int .u8 61) (ex_move _ rfl _ (F.e rfl)) ?_; clear F a; intro a F
  refine list_val F (wn rfl) rfl rfl (.bool false) (ex_bin .eql _ _ _ _ rfl .u8 _ _ (F.e rfl) rfl _ (b_eql (by decide))) ?_; clear F a; intro a F
  refine wpList_nil ?_
  replace F : Fr 130 a [(0, .slice A xs.length c), (2, .bool false), (3, .string (ST.str (enc sUrl xs))), (4, .string (ST.str (encPad xs))), (5, .string (ST.str (hex16 xs))), (6, .slice A_23 xs.length c_23), (7, .int .i64 0), (8, .slice A_28 xs.length c_28), (9, .int .i64 0), (10, .slice A_33 xs.length c_33), (11, .int .i64 0), (12, .string (ST.str sLet)), (13, .int .i64 ((i : Nat) : Int)), (14, .int .u8 61), (69, .bool false), (107, .bool false), (111, .bool true), (117, .bool false), (122, .bool false)] := F.keep ⟨rfl, rfl, rfl, rfl, rfl, rfl, rfl, rfl, rfl, rfl, rfl, rfl, rfl, rfl, rfl, rfl, rfl, rfl, rfl, trivial⟩
  refine then_n ?_
  refine wp_cond_false (F.e rfl) ?_
  refine wp_skip ?_
  refine then_n ?_
  refine wp_seq ?_
  refine wp_seq ?_
  refine wp_region_lit ?_
  refine list_val F (wn rfl) rfl rfl (.int .u8 61) (ex_move _ rfl _ (F.e rfl)) ?_; clear F a; intro a F
  refine list_val F (wn rfl) rfl rfl (.bool false) (ex_bin .eql _ _ _ _ rfl .u8 _ _ (F.e rfl) rfl _ (b_eql (by decide))) ?_; clear F a; intro a F
  refine wpList_nil ?_
  replace F : Fr 130 a [(0, .slice A xs.length c), (2, .bool false), (3, .string (ST.str (enc sUrl xs))), (4, .string (ST.str (encPad xs))), (5, .string (ST.str (hex16 xs))), (6, .slice A_23 xs.length c_23), (7, .int .i64 0), (8, .slice A_28 xs.length c_28), (9, .int .i64 0), (10, .slice A_33 xs.length c_33), (11, .int .i64 0), (12, .string (ST.str sLet)), (13, .int .i64 ((i : Nat) : Int)), (14, .int .u8 61), (69, .bool false), (107, .bool false), (111, .bool true), (117, .bool false), (122, .bool false), (124, .bool false)] := F.keep ⟨rfl, rfl, rfl, rfl, rfl, rfl, rfl, rfl, rfl, rfl, rfl, rfl, rfl, rfl, rfl, rfl, rfl, rfl, rfl, rfl, trivial⟩
  refine then_n ?_
  refine wp_cond_false (F.e rfl) ?_
  refine wp_skip ?_
  refine then_n ?_
  refine wp_seq ?_
  refine wp_region_lit ?_
  refine list_val F (wn rfl) rfl rfl (.string (ST.str (encPad xs))) (ex_move _ rfl _ (F.e rfl)) ?_; clear F a; intro a F
  refine list_val F (wn rfl) rfl rfl (.int .i64 ((i : Nat) : Int)) (ex_move _ rfl _ (F.e rfl)) ?_; clear F a; intro a F
  refine list_val F (wn rfl) rfl rfl (.int .u8 (((61 : UInt8).toNat : Nat) : Int)) (ST.ex_ixs 9 _ _ rfl un9 (encPad xs) (F.e rfl) .i64 _ (F.e rfl) i rfl (61 : UInt8) (pad_pad hu hin)) ?_; clear F a; intro a F
  refine list_val F (wn rfl) rfl rfl (.int .u8 61) (ex_move _ rfl _ (F.e rfl)) ?_; clear F a; intro a F
  refine list_val F (wn rfl) rfl rfl (.bool false) (ex_bin .neq _ _ _ _ rfl .u8 _ _ (F.e rfl) (F.e rfl) _ (b_neq (by decide))) ?_; clear F a; intro a F
  refine wpList_nil ?_
  replace F : Fr 130 a [(0, .slice A xs.length c), (2, .bool false), (3, .string (ST.str (enc sUrl xs))), (4, .string (ST.str (encPad xs))), (5, .string (ST.str (hex16 xs))), (6, .slice A_23 xs.length c_23), (7, .int .i64 0), (8, .slice A_28 xs.length c_28), (9, .int .i64 0), (10, .slice A_33 xs.length c_33), (11, .int .i64 0), (12, .string (ST.str sLet)), (13, .int .i64 ((i : Nat) : Int)), (14, .int .u8 61), (69, .bool false), (107, .bool false), (111, .bool true), (117, .bool false), (122, .bool false), (124, .bool false), (129, .bool false)] := F.keep ⟨rfl, rfl, rfl, rfl, rfl, rfl, rfl, rfl, rfl, rfl, rfl, rfl, rfl, rfl, rfl, rfl, rfl, rfl, rfl, rfl, rfl, trivial⟩
  refine then_n ?_
  refine wp_cond_false (F.e rfl) ?_
  refine wp_skip ?_
  refine in_n ?_
  refine then_n ?_
  refine wp_region_lit ?_
  refine list_val F (wn rfl) rfl rfl (.int .i64 ((i : Nat) : Int)) (ex_move _ rfl _ (F.e rfl)) ?_; clear F a; intro a F
  refine list_val F (wn rfl) rfl rfl (.int .i64 ((i + 1 : Nat) : Int)) (ex_bin .add _ _ _ _ rfl .i64 _ _ (F.e rfl) rfl _ (b_add ((w_i64 (by omega) (by omega)).trans (by omega)))) ?_; clear F a; intro a F
  refine list_val F (wn rfl) rfl rfl (.int .i64 ((i + 1 : Nat) : Int)) (ex_assign _ rfl _ (F.e rfl)) ?_; clear F a; intro a F
  refine wpList_nil ?_
  replace F : Fr 130 a [(0, .slice A xs.length c), (2, .bool false), (3, .string (ST.str (enc sUrl xs))), (4, .string (ST.str (encPad xs))), (5, .string (ST.str (hex16 xs))), (6, .slice A_23 xs.length c_23), (7, .int .i64 0), (8, .slice A_28 xs.length c_28), (9, .int .i64 0), (10, .slice A_33 xs.length c_33), (11, .int .i64 0), (12, .string (ST.str sLet)), (13, .int .i64 ((i + 1 : Nat) : Int)), (14, .int .u8 61), (69, .bool false), (107, .bool false), (111, .bool true), (117, .bool false), (122, .bool false), (124, .bool false), (129, .bool false)] := F.keep ⟨rfl, rfl, rfl, rfl, rfl, rfl, rfl, rfl, rfl, rfl, rfl, rfl, rfl, rfl, rfl, rfl, rfl, rfl, rfl, rfl, rfl, trivial⟩
  refine then_n ?_
  exact ⟨(encPad xs).length - (i + 1), by omega, (i + 1), F.keep ⟨rfl, rfl, rfl, rfl, rfl, rfl, rfl, rfl, rfl, rfl, rfl, rfl, rfl, rfl, rfl, trivial⟩, (by refine M.pick' [] _ ?_ (by decide); exact trivial), (by omega), (by omega)⟩
 refine wp_seq ?_
 refine wp_seq ?_
 refine wp_region_lit ?_
 refine list_val F (wn rfl) rfl rfl (.int .i64 ((i : Nat) : Int)) (ex_move _ rfl _ (F.e rfl)) ?_; clear F a; intro a F
 refine list_val F (wn rfl) rfl rfl (.string (ST.str (encPad xs))) (ex_move _ rfl _ (F.e rfl)) ?_; clear F a; intro a F
 refine list_val F (wn rfl) rfl rfl (.int .i64 (((encPad xs).length : Nat) : Int)) (ST.ex_lens _ 9 rfl un9 (encPad xs) (F.e rfl)) ?_; clear F a; intro a F
 refine list_val F (wn rfl) rfl rfl (.bool false) (ex_bin .lss _ _ _ _ rfl .i64 _ _ (F.e rfl) (F.e rfl) _ (b_lss (decide_eq_false (by omega)))) ?_; clear F a; intro a F
 refine wpList_nil ?_
 replace F : Fr 130 a [(0, .slice A xs.length c), (2, .bool false), (3, .string (ST.str (enc sUrl xs))), (4, .string (ST.str (encPad xs))), (5, .string (ST.str (hex16 xs))), (6, .slice A_23 xs.length c_23), (7, .int .i64 0), (8, .slice A_28 xs.length c_28), (9, .int .i64 0), (10, .slice A_33 xs.length c_33), (11, .int .i64 0), (12, .string (ST.str sLet)), (13, .int .i64 ((i : Nat) : Int)), (69, .bool false), (107, .bool false), (111, .bool false)] := F.keep ⟨rfl, rfl, rfl, rfl, rfl, rfl, rfl, rfl, rfl, rfl, rfl, rfl, rfl, rfl, rfl, rfl, trivial⟩
 refine then_n ?_
 refine wp_cond_false (F.e rfl) ?_
 refine wp_exit ?_
 refine then_x ?_
 refine then_x ?_
 refine in_hit ?_
 refine then_n ?_
 refine wp_seq ?_
 refine wp_region_lit ?_
 refine list_val F (wn rfl) rfl rfl (.bool true) (ex_assign _ rfl _ rfl) ?_; clear F a; intro a F
 refine wpList_nil ?_
 replace F : Fr 130 a [(0, .slice A xs.length c), (2, .bool true), (3, .string (ST.str (enc sUrl xs))), (4, .string (ST.str (encPad xs))), (5, .string (ST.str (hex16 xs))), (6, .slice A_23 xs.length c_23), (7, .int .i64 0), (8, .slice A_28 xs.length c_28), (9, .int .i64 0), (10, .slice A_33 xs.length c_33), (11, .int .i64 0), (12, .string (ST.str sLet)), (13, .int .i64 ((i : Nat) : Int)), (69, .bool false), (107, .bool false), (111, .bool false)] := F.keep ⟨rfl, rfl, rfl, rfl, rfl, rfl, rfl, rfl, rfl, rfl, rfl, rfl, rfl, rfl, rfl, rfl, trivial⟩
 refine then_n ?_
 refine wp_ret ?_
 exact ret_tmp F rfl rfl ⟨rfl, M.bel⟩
theorem g6_fa_27_0_0 : fa? Tryd.prog 27 0 0 = true := by kernel_rfl
theorem g6_one_22 : one? Tryd.prog 22 = true := by kernel_rfl
theorem g6_sl_22_1 : sl? Tryd.prog 22 1 = true := by kernel_rfl
theorem g6_one_28 : one? Tryd.prog 28 = true := by kernel_rfl
theorem g6_ent_19 : ent? Tryd.prog 19 = true := by kernel_rfl
theorem g6_bool_4 : bool? Tryd.prog 4 = true := by kernel_rfl
theorem g6_fa_27_2_2 : fa? Tryd.prog 27 2 2 = true := by kernel_rfl
theorem g6_one_24 : one? Tryd.prog 24 = true := by kernel_rfl
theorem g6_sl_24_1 : sl? Tryd.prog 24 1 = true := by kernel_rfl
theorem g6_one_2 : one? Tryd.prog 2 = true := by kernel_rfl
theorem g6_ent_18 : ent? Tryd.prog 18 = true := by kernel_rfl
theorem g6_ent_17 : ent? Tryd.prog 17 = true := by kernel_rfl
theorem g6_fa_27_3_3 : fa? Tryd.prog 27 3 3 = true := by kernel_rfl
theorem g6_one_25 : one? Tryd.prog 25 = true := by kernel_rfl
theorem g6_sl_25_2 : sl? Tryd.prog 25 2 = true := by kernel_rfl
theorem g6_fa_33_1_1 : fa? Tryd.prog 33 1 1 = true := by kernel_rfl
theorem g6_one_3 : one? Tryd.prog 3 = true := by kernel_rfl
theorem g6_ent_9 : ent? Tryd.prog 9 = true := by kernel_rfl
theorem g6_fa_33_0_0 : fa? Tryd.prog 33 0 0 = true := by kernel_rfl
theorem g6_one_31 : one? Tryd.prog 31 = true := by kernel_rfl
theorem g6_ent_10 : ent? Tryd.prog 10 = true := by kernel_rfl
theorem g6_cv_3_47_u64 : cv? Tryd.prog 3 47 .u64 = true := by kernel_rfl
theorem g6_ent_20 : ent? Tryd.prog 20 = true := by kernel_rfl
theorem g6_ent_13 : ent? Tryd.prog 13 = true := by kernel_rfl
set_option maxHeartbeats 1000000 in
set_option maxRecDepth 100000 in
theorem radBack_any (bs : List (List UInt8)) (ns : List Int) (ws : List Wd) (A A2 A3 D : Option Addr) (c n2 c2 c3 d : Nat) (w : World) (hE : Env w) (hR : Rows2 w A bs) (hN : kI.C w A3 ns.length ns) (hrw : kWd.C w D ws.length ws) (hz : ∀ b ∈ bs, b.length ≤ 140737488351232) (hnb : ∀ x ∈ ns, -9223372036854775808 ≤ x ∧ x ≤ 9223372036854775807) (hw64 : ∀ x ∈ ws, x.n < 18446744073709551616) (hmx : bs.length ≤ 4611686018427387904) (hmn : ns.length ≤ 4611686018427387904) (hmw : ws.length ≤ 4611686018427387904) :
    Calls Tryd.prog 5 #[.agg #[.slice A bs.length c, .slice A2 n2 c2, .slice A3 ns.length c3, .slice D ws.length d]] w fun e w' => e = .returned (.bool true) ∧ Below w.heap.size w w' := by
 refine calls_start Tryd.func5 rfl rfl rfl (fun a F => ?_)
 have M : Mm w w [] := Mm.nil w
 refine wp_seq ?_
 refine wp_region_lit ?_
 refine list_do (wn rfl) (fun K hK => ?_)
 refine ow_box F M rfl rfl 27 _ rfl _ (F.e rfl) #[.slice A bs.length c, .slice A2 n2 c2, .slice A3 ns.length c3, .slice D ws.length d] rfl ?_
 clear F M a; intro a g1 v F M hb hg
 refine hK _ _ ?_
 clear hK K
 clear hb hg; try clear w
 refine list_val F (wn rfl) rfl rfl (.bool false) (ex_assign _ rfl _ rfl) ?_; clear F a; intro a F
 refine wpList_nil ?_
 replace F : Fr 245 a [(0, .agg #[.slice A bs.length c, .slice A2 n2 c2, .slice A3 ns.length c3, .slice D ws.length d]), (1, .pointer (some ⟨g1, 0, none⟩)), (2, .bool false)] := F.keep ⟨rfl, rfl, rfl, trivial⟩
 refine then_n ?_
 refine wp_seq ?_
 refine wp_region_lit ?_
 refine list_val F (wn rfl) rfl rfl (.int .i64 0) (ex_assign _ rfl _ rfl) ?_; clear F a; intro a F
 refine wpList_nil ?_
 replace F : Fr 245 a [(0, .agg #[.slice A bs.length c, .slice A2 n2 c2, .slice A3 ns.length c3, .slice D ws.length d]), (1, .pointer (some ⟨g1, 0, none⟩)), (2, .bool false), (3, .int .i64 0)] := F.keep ⟨rfl, rfl, rfl, rfl, trivial⟩
 refine then_n ?_
 refine wp_seq ?_
 refine wp_seq ?_
 refine wp_region_lit ?_
 refine list_val F (wn rfl) rfl rfl (.int .i64 0) (ex_assign _ rfl _ rfl) ?_; clear F a; intro a F
 refine wpList_nil ?_
 replace F : Fr 245 a [(0, .agg #[.slice A bs.length c, .slice A2 n2 c2, .slice A3 ns.length c3, .slice D ws.length d]), (1, .pointer (some ⟨g1, 0, none⟩)), (2, .bool false), (3, .int .i64 0), (4, .int .i64 0)] := F.keep ⟨rfl, rfl, rfl, rfl, rfl, trivial⟩
 refine then_n ?_
 refine wp_only (fun ar wr => Fr 245 ar [(0, .agg #[.slice A bs.length c, .slice A2 n2 c2, .slice A3 ns.length c3, .slice D ws.length d]), (1, .pointer (some ⟨g1, 0, none⟩)), (2, .bool false)] ∧ Mm w wr [⟨g1, #[.slice A bs.length c, .slice A2 n2 c2, .slice A3 ns.length c3, .slice D ws.length d], 27⟩]) ?_ ?_
 ·
  refine wp_block ?_
  refine wp_loopN (fun mq ar wr => ∃ (r : Nat), ∃ (al : Nat), Fr 245 ar [(0, .agg #[.slice A bs.length c, .slice A2 n2 c2, .slice A3 ns.length c3, .slice D ws.length d]), (1, .pointer (some ⟨g1, 0, none⟩)), (2, .bool false), (3, .int .i64 ((al : Nat) : Int)), (4, .int .i64 ((r : Nat) : Int))] ∧ Mm w wr [⟨g1, #[.slice A bs.length c, .slice A2 n2 c2, .slice A3 ns.length c3, .slice D ws.length d], 27⟩] ∧ r ≤ bs.length ∧ al ≤ 524288 ∧ (∀ (k : Nat) (b : List UInt8), k < r → bs[k]? = some b → b.length ≤ 524287) ∧ mq + r = bs.length) bs.length ?_ ?_
  ·
   exact ⟨0, 0, F.keep ⟨rfl, rfl, rfl, rfl, rfl, trivial⟩, M, (Nat.zero_le _), (by decide), (fun k b hk => absurd hk (Nat.not_lt_zero k)), (by omega)⟩
  clear F M a
  rintro mq a u ⟨r, al, F, M, hr_, hal, hsm, hq⟩; try clear v
  by_cases hin : r < bs.length
  ·
   obtain ⟨bv, hbv⟩ : ∃ x, bs[r]? = some x := ⟨_, List.getElem?_eq_getElem (by omega)⟩
   obtain ⟨adbv, Bbv, cbv, hAbv, zbv, hCbv, hcbv⟩ := hR r bv hbv
   have hzbv := hz bv (List.mem_of_getElem? hbv)
   subst hAbv
   refine wp_seq ?_
   refine wp_seq ?_
   refine wp_region_lit ?_
   refine list_val F (wn rfl) rfl rfl (.int .i64 ((r : Nat) : Int)) (ex_move _ rfl _ (F.e rfl)) ?_; clear F a; intro a F
   refine list_val F (wn rfl) rfl rfl (.pointer (some ⟨g1, 0, none⟩)) (ex_fa _ _ _ rfl _ (F.e rfl) 0 g6_fa_27_0_0 ⟨g1, 0, none⟩ rfl) ?_; clear F a; intro a F
   refine list_val F (wn rfl) rfl rfl (.slice (some adbv) bs.length c) (ex_load _ _ rfl _ (F.e rfl) _ (lv1 g6_one_22 (M.cell (i := 0) rfl (j := 0) rfl))) ?_; clear F a; intro a F
   refine list_val F (wn rfl) rfl rfl (.int .i64 ((bs.length : Nat) : Int)) (ex_len _ _ rfl 1 g6_sl_22_1 _ _ _ (F.e rfl)) ?_; clear F a; intro a F
   refine list_val F (wn rfl) rfl rfl (.bool true) (ex_bin .lss _ _ _ _ rfl .i64 _ _ (F.e rfl) (F.e rfl) _ (b_lss (decide_eq_true (by omega)))) ?_; clear F a; intro a F
   refine wpList_nil ?_
   replace F : Fr 245 a [(0, .agg #[.slice (some adbv) bs.length c, .slice A2 n2 c2, .slice A3 ns.length c3, .slice D ws.length d]), (1, .pointer (some ⟨g1, 0, none⟩)), (2, .bool false), (3, .int .i64 ((al : Nat) : Int)), (4, .int .i64 ((r : Nat) : Int)), (23, .bool true)] := F.keep ⟨rfl, rfl, rfl, rfl, rfl, rfl, trivial⟩
   refine then_n ?_
   refine wp_cond_true (F.e rfl) ?_
   refine wp_skip ?_
   refine then_n ?_
   refine wp_seq ?_
   refine wp_block ?_
   refine wp_seq ?_
   refine wp_region_lit ?_
   refine list_val F (wn rfl) rfl rfl (.int .i64 ((al : Nat) : Int)) (ex_move _ rfl _ (F.e rfl)) ?_; clear F a; intro a F
   refine list_val F (wn rfl) rfl rfl (.pointer (some ⟨g1, 0, none⟩)) (ex_fa _ _ _ rfl _ (F.e rfl) 0 g6_fa_27_0_0 ⟨g1, 0, none⟩ rfl) ?_; clear F a; intro a F
   refine list_val F (wn rfl) rfl rfl (.slice (some adbv) bs.length c) (ex_load _ _ rfl _ (F.e rfl) _ (lv1 g6_one_22 (M.cell (i := 0) rfl (j := 0) rfl))) ?_; clear F a; intro a F
   refine list_val F (wn rfl) rfl rfl (.int .i64 ((r : Nat) : Int)) (ex_move _ rfl _ (F.e rfl)) ?_; clear F a; intro a F
   refine list_val F (wn rfl) rfl rfl (.pointer (some (adbv.add (r * 1)))) (ex_ix _ _ _ rfl 1 g6_sl_22_1 adbv _ _ (F.e rfl) .i64 _ (F.e rfl) r rfl (by omega) (adbv.add (r * 1)) rfl) ?_; clear F a; intro a F
   refine list_val F (wn rfl) rfl rfl (.slice Bbv bv.length cbv) (ex_load _ _ rfl _ (F.e rfl) _ (lv1 g6_one_28 ((zbv.below M.bel).cell 0 _ rfl))) ?_; clear F a; intro a F
   refine list_val F (wn rfl) rfl rfl (.int .i64 ((bv.length : Nat) : Int)) (ex_len _ _ rfl 1 g6_sl_28_1 _ _ _ (F.e rfl)) ?_; clear F a; intro a F
   refine list_val F (wn rfl) rfl rfl (.int .i64 ((al + bv.length : Nat) : Int)) (ex_bin .add _ _ _ _ rfl .i64 _ _ (F.e rfl) (F.e rfl) _ (b_add ((w_i64 (by omega) (by omega)).trans (by omega)))) ?_; clear F a; intro a F
   refine list_val F (wn rfl) rfl rfl (.int .i64 ((al + bv.length + 1 : Nat) : Int)) (ex_bin .add _ _ _ _ rfl .i64 _ _ (F.e rfl) rfl _ (b_add ((w_i64 (by omega) (by omega)).trans (by omega)))) ?_; clear F a; intro a F
   refine list_val F (wn rfl) rfl rfl (.int .i64 ((al + bv.length + 1 : Nat) : Int)) (ex_assign _ rfl _ (F.e rfl)) ?_; clear F a; intro a F
   refine wpList_nil ?_
   replace F : Fr 245 a [(0, .agg #[.slice (some adbv) bs.length c, .slice A2 n2 c2, .slice A3 ns.length c3, .slice D ws.length d]), (1, .pointer (some ⟨g1, 0, none⟩)), (2, .bool false), (3, .int .i64 ((al + bv.length + 1 : Nat) : Int)), (4, .int .i64 ((r : Nat) : Int)), (23, .bool true)] := F.keep ⟨rfl, rfl, rfl, rfl, rfl, rfl, trivial⟩
   refine then_n ?_
   refine wp_seq ?_
   refine wp_seq ?_
   by_cases hbig : 524288 < al + bv.length + 1
   ·
    refine wp_region_lit ?_
    refine list_val F (wn rfl) rfl rfl (.int .i64 ((al + bv.length + 1 : Nat) : Int)) (ex_move _ rfl _ (F.e rfl)) ?_; clear F a; intro a F
    refine list_val F (wn rfl) rfl rfl (.bool true) (ex_bin .gtr _ _ _ _ rfl .i64 _ _ (F.e rfl) rfl _ (b_gtr (decide_eq_true (by omega)))) ?_; clear F a; intro a F
    refine wpList_nil ?_
    replace F : Fr 245 a [(0, .agg #[.slice (some adbv) bs.length c, .slice A2 n2 c2, .slice A3 ns.length c3, .slice D ws.length d]), (1, .pointer (some ⟨g1, 0, none⟩)), (2, .bool false), (3, .int .i64 ((al + bv.length + 1 : Nat) : Int)), (4, .int .i64 ((r : Nat) : Int)), (23, .bool true), (36, .bool true)] := F.keep ⟨rfl, rfl, rfl, rfl, rfl, rfl, rfl, trivial⟩
    refine then_n ?_
    refine wp_cond_true (F.e rfl) ?_
    refine wp_exit ?_
    refine then_x ?_
    refine in_miss rfl ?_
    refine then_x ?_
    refine then_x ?_
    refine in_hit ?_
    refine only_n ?_
    exact ⟨F.keep ⟨rfl, rfl, rfl, trivial⟩, (by refine M.pick' [0] _ ?_ (by decide); exact ⟨rfl, trivial⟩)⟩
   have hbl : bv.length ≤ 524287 := by omega
   have hsm2 : ∀ (k : Nat) (b : List UInt8), k < r + 1 → bs[k]? = some b → b.length ≤ 524287 := fun k b hk hb => by
     by_cases hkr : k = r
     · rw [hkr, hbv] at hb
       obtain rfl := Option.some.inj hb
       exact hbl
     · exact hsm k b (by omega) hb
   refine wp_region_lit ?_
   refine list_val F (wn rfl) rfl rfl (.int .i64 ((al + bv.length + 1 : Nat) : Int)) (ex_move _ rfl _ (F.e rfl)) ?_; clear F a; intro a F
   refine list_val F (wn rfl) rfl rfl (.bool false) (ex_bin .gtr _ _ _ _ rfl .i64 _ _ (F.e rfl) rfl _ (b_gtr (decide_eq_false (by omega)))) ?_; clear F a; intro a F
   refine wpList_nil ?_
   replace F : Fr 245 a [(0, .agg #[.slice (some adbv) bs.length c, .slice A2 n2 c2, .slice A3 ns.length c3, .slice D ws.length d]), (1, .pointer (some ⟨g1, 0, none⟩)), (2, .bool false), (3, .int .i64 ((al + bv.length + 1 : Nat) : Int)), (4, .int .i64 ((r : Nat) : Int)), (23, .bool true), (36, .bool false)] := F.keep ⟨rfl, rfl, rfl, rfl, rfl, rfl, rfl, trivial⟩
   refine then_n ?_
   refine wp_cond_false (F.e rfl) ?_
   refine wp_skip ?_
   refine then_n ?_
   refine wp_seq ?_
   refine wp_region_lit ?_
   refine list_val F (wn rfl) rfl rfl (.pointer (some ⟨g1, 0, none⟩)) (ex_fa _ _ _ rfl _ (F.e rfl) 0 g6_fa_27_0_0 ⟨g1, 0, none⟩ rfl) ?_; clear F a; intro a F
   refine list_val F (wn rfl) rfl rfl (.slice (some adbv) bs.length c) (ex_load _ _ rfl _ (F.e rfl) _ (lv1 g6_one_22 (M.cell (i := 0) rfl (j := 0) rfl))) ?_; clear F a; intro a F
   refine list_val F (wn rfl) rfl rfl (.int .i64 ((r : Nat) : Int)) (ex_move _ rfl _ (F.e rfl)) ?_; clear F a; intro a F
   refine list_val F (wn rfl) rfl rfl (.pointer (some (adbv.add (r * 1)))) (ex_ix _ _ _ rfl 1 g6_sl_22_1 adbv _ _ (F.e rfl) .i64 _ (F.e rfl) r rfl (by omega) (adbv.add (r * 1)) rfl) ?_; clear F a; intro a F
   refine list_val F (wn rfl) rfl rfl (.slice Bbv bv.length cbv) (ex_load _ _ rfl _ (F.e rfl) _ (lv1 g6_one_28 ((zbv.below M.bel).cell 0 _ rfl))) ?_; clear F a; intro a F
   refine list_val F (wn rfl) rfl rfl (.slice Bbv bv.length cbv) (ex_assign _ rfl _ (F.e rfl)) ?_; clear F a; intro a F
   refine wpList_nil ?_
   replace F : Fr 245 a [(0, .agg #[.slice (some adbv) bs.length c, .slice A2 n2 c2, .slice A3 ns.length c3, .slice D ws.length d]), (1, .pointer (some ⟨g1, 0, none⟩)), (2, .bool false), (3, .int .i64 ((al + bv.length + 1 : Nat) : Int)), (4, .int .i64 ((r : Nat) : Int)), (5, .slice Bbv bv.length cbv), (23, .bool true), (36, .bool false)] := F.keep ⟨rfl, rfl, rfl, rfl, rfl, rfl, rfl, rfl, trivial⟩
   refine then_n ?_
   refine wp_seq ?_
   refine wp_seq ?_
   refine wp_region_lit ?_
   refine list_val F (wn rfl) rfl rfl (.slice Bbv bv.length cbv) (ex_move _ rfl _ (F.e rfl)) ?_; clear F a; intro a F
   refine list_do (wn rfl) (fun K hK => ?_)
   refine ow_call rfl rfl F 19 #[.slice Bbv bv.length cbv] (ex_call 19 _ _ rfl rfl g6_ent_19 _ (map1 (F.e rfl))) (back_any bv _ _ _ (Kd.C_below hCbv M.bel) hcbv (by omega)) (fun e v hR => ?_)
   obtain ⟨he, hb⟩ := hR
   refine ⟨.bool true, he, ?_⟩; clear he F a; intro a F
   refine hK _ _ ?_
   clear hK K
   replace M := M.below hb; clear hb; try clear u
   refine list_val F (wn rfl) rfl rfl (.bool false) (ex_not _ _ rfl _ (F.e rfl) _ rfl) ?_; clear F a; intro a F
   refine wpList_nil ?_
   replace F : Fr 245 a [(0, .agg #[.slice (some adbv) bs.length c, .slice A2 n2 c2, .slice A3 ns.length c3, .slice D ws.length d]), (1, .pointer (some ⟨g1, 0, none⟩)), (2, .bool false), (3, .int .i64 ((al + bv.length + 1 : Nat) : Int)), (4, .int .i64 ((r : Nat) : Int)), (5, .slice Bbv bv.length cbv), (23, .bool true), (36, .bool false), (44, .bool false)] := F.keep ⟨rfl, rfl, rfl, rfl, rfl, rfl, rfl, rfl, rfl, trivial⟩
   refine then_n ?_
   refine wp_cond_false (F.e rfl) ?_
   refine wp_skip ?_
   refine then_n ?_
   refine wp_seq ?_
   by_cases hr0 : 0 < r
   ·
    obtain ⟨av, hav⟩ : ∃ x, bs[(r - 1)]? = some x := ⟨_, List.getElem?_eq_getElem (by omega)⟩
    obtain ⟨adav, Bav, cav, hAav, zav, hCav, hcav⟩ := hR (r - 1) av hav
    have hzav := hz av (List.mem_of_getElem? hav)
    obtain rfl := Option.some.inj hAav
    have havl := hsm (r - 1) av (by omega) hav
    refine wp_region_lit ?_
    refine list_val F (wn rfl) rfl rfl (.int .i64 ((r : Nat) : Int)) (ex_move _ rfl _ (F.e rfl)) ?_; clear F a; intro a F
    refine list_val F (wn rfl) rfl rfl (.bool true) (ex_bin .gtr _ _ _ _ rfl .i64 _ _ (F.e rfl) rfl _ (b_gtr (decide_eq_true (by omega)))) ?_; clear F a; intro a F
    refine wpList_nil ?_
    replace F : Fr 245 a [(0, .agg #[.slice (some adbv) bs.length c, .slice A2 n2 c2, .slice A3 ns.length c3, .slice D ws.length d]), (1, .pointer (some ⟨g1, 0, none⟩)), (2, .bool false), (3, .int .i64 ((al + bv.length + 1 : Nat) : Int)), (4, .int .i64 ((r : Nat) : Int)), (5, .slice Bbv bv.length cbv), (23, .bool true), (36, .bool false), (44, .bool false), (46, .bool true)] := F.keep ⟨rfl, rfl, rfl, rfl, rfl, rfl, rfl, rfl, rfl, rfl, trivial⟩
    refine then_n ?_
    refine wp_cond_true (F.e rfl) ?_
    refine wp_seq ?_
    refine wp_region_lit ?_
    refine list_val F (wn rfl) rfl rfl (.pointer (some ⟨g1, 0, none⟩)) (ex_fa _ _ _ rfl _ (F.e rfl) 0 g6_fa_27_0_0 ⟨g1, 0, none⟩ rfl) ?_; clear F a; intro a F
    refine list_val F (wn rfl) rfl rfl (.slice (some adbv) bs.length c) (ex_load _ _ rfl _ (F.e rfl) _ (lv1 g6_one_22 (M.cell (i := 0) rfl (j := 0) rfl))) ?_; clear F a; intro a F
    refine list_val F (wn rfl) rfl rfl (.int .i64 ((r : Nat) : Int)) (ex_move _ rfl _ (F.e rfl)) ?_; clear F a; intro a F
    refine list_val F (wn rfl) rfl rfl (.int .i64 ((r - 1 : Nat) : Int)) (ex_bin .sub _ _ _ _ rfl .i64 _ _ (F.e rfl) rfl _ (b_sub ((w_i64 (by omega) (by omega)).trans (by omega)))) ?_; clear F a; intro a F
    refine list_val F (wn rfl) rfl rfl (.pointer (some (adbv.add ((r - 1) * 1)))) (ex_ix _ _ _ rfl 1 g6_sl_22_1 adbv _ _ (F.e rfl) .i64 _ (F.e rfl) (r - 1) rfl (by omega) (adbv.add ((r - 1) * 1)) rfl) ?_; clear F a; intro a F
    refine list_val F (wn rfl) rfl rfl (.slice Bav av.length cav) (ex_load _ _ rfl _ (F.e rfl) _ (lv1 g6_one_28 ((zav.below M.bel).cell 0 _ rfl))) ?_; clear F a; intro a F
    refine list_val F (wn rfl) rfl rfl (.slice Bav av.length cav) (ex_assign _ rfl _ (F.e rfl)) ?_; clear F a; intro a F
    refine wpList_nil ?_
    replace F : Fr 245 a [(0, .agg #[.slice (some adbv) bs.length c, .slice A2 n2 c2, .slice A3 ns.length c3, .slice D ws.length d]), (1, .pointer (some ⟨g1, 0, none⟩)), (2, .bool false), (3, .int .i64 ((al + bv.length + 1 : Nat) : Int)), (4, .int .i64 ((r : Nat) : Int)), (5, .slice Bbv bv.length cbv), (6, .slice Bav av.length cav), (23, .bool true), (36, .bool false), (44, .bool false), (46, .bool true)] := F.keep ⟨rfl, rfl, rfl, rfl, rfl, rfl, rfl, rfl, rfl, rfl, rfl, trivial⟩
    refine then_n ?_
    refine wp_seq ?_
    refine wp_region_lit ?_
    refine list_val F (wn rfl) rfl rfl (.slice Bav av.length cav) (ex_move _ rfl _ (F.e rfl)) ?_; clear F a; intro a F
    refine list_do (wn rfl) (fun K hK => ?_)
    refine ow_call rfl rfl F 6 #[.slice Bav av.length cav] (ex_call 6 _ _ rfl rfl g6_ent_6 _ (map1 (F.e rfl))) (text16_any av _ _ _ (Kd.C_below hCav M.bel) hcav (by omega)) (fun e u hR => ?_)
    obtain ⟨he, hb⟩ := hR
    refine ⟨.string (ST.str (hex16 av)), he, ?_⟩; clear he F a; intro a F
    refine hK _ _ ?_
    clear hK K
    replace M := M.below hb; clear hb; try clear v
    refine list_val F (wn rfl) rfl rfl (.string (ST.str (hex16 av))) (ex_assign _ rfl _ (F.e rfl)) ?_; clear F a; intro a F
    refine wpList_nil ?_
    replace F : Fr 245 a [(0, .agg #[.slice (some adbv) bs.length c, .slice A2 n2 c2, .slice A3 ns.length c3, .slice D ws.length d]), (1, .pointer (some ⟨g1, 0, none⟩)), (2, .bool false), (3, .int .i64 ((al + bv.length + 1 : Nat) : Int)), (4, .int .i64 ((r : Nat) : Int)), (5, .slice Bbv bv.length cbv), (6, .slice Bav av.length cav), (7, .string (ST.str (hex16 av))), (23, .bool true), (36, .bool false), (44, .bool false), (46, .bool true)] := F.keep ⟨rfl, rfl, rfl, rfl, rfl, rfl, rfl, rfl, rfl, rfl, rfl, rfl, trivial⟩
    refine then_n ?_
    refine wp_seq ?_
    refine wp_region_lit ?_
    refine list_val F (wn rfl) rfl rfl (.slice Bbv bv.length cbv) (ex_move _ rfl _ (F.e rfl)) ?_; clear F a; intro a F
    refine list_do (wn rfl) (fun K hK => ?_)
    refine ow_call rfl rfl F 6 #[.slice Bbv bv.length cbv] (ex_call 6 _ _ rfl rfl g6_ent_6 _ (map1 (F.e rfl))) (text16_any bv _ _ _ (Kd.C_below hCbv M.bel) hcbv (by omega)) (fun e v hR => ?_)
    obtain ⟨he, hb⟩ := hR
    refine ⟨.string (ST.str (hex16 bv)), he, ?_⟩; clear he F a; intro a F
    refine hK _ _ ?_
    clear hK K
    replace M := M.below hb; clear hb; try clear u
    refine list_val F (wn rfl) rfl rfl (.string (ST.str (hex16 bv))) (ex_assign _ rfl _ (F.e rfl)) ?_; clear F a; intro a F
    refine wpList_nil ?_
    replace F : Fr 245 a [(0, .agg #[.slice (some adbv) bs.length c, .slice A2 n2 c2, .slice A3 ns.length c3, .slice D ws.length d]), (1, .pointer (some ⟨g1, 0, none⟩)), (2, .bool false), (3, .int .i64 ((al + bv.length + 1 : Nat) : Int)), (4, .int .i64 ((r : Nat) : Int)), (5, .slice Bbv bv.length cbv), (6, .slice Bav av.length cav), (7, .string (ST.str (hex16 av))), (8, .string (ST.str (hex16 bv))), (23, .bool true), (36, .bool false), (44, .bool false), (46, .bool true)] := F.keep ⟨rfl, rfl, rfl, rfl, rfl, rfl, rfl, rfl, rfl, rfl, rfl, rfl, rfl, trivial⟩
    refine then_n ?_
    refine wp_seq ?_
    by_cases hle : av.length ≤ bv.length
    ·
     refine region_tail 28 g6_follows_mixedOrders (by kernel_rfl) M ?_; clear M; intro u M hb
     clear hb; try clear v
     refine still_val F (wn rfl) rfl rfl (.slice Bav av.length cav) (ex_move _ rfl _ (F.e rfl)) ?_; clear F a; intro a F
     refine still_val F (wn rfl) rfl rfl (.int .i64 ((av.length : Nat) : Int)) (ex_len _ _ rfl 1 g6_sl_28_1 _ _ _ (F.e rfl)) ?_; clear F a; intro a F
     refine still_val F (wn rfl) rfl rfl (.slice Bbv bv.length cbv) (ex_move _ rfl _ (F.e rfl)) ?_; clear F a; intro a F
     refine still_val F (wn rfl) rfl rfl (.int .i64 ((bv.length : Nat) : Int)) (ex_len _ _ rfl 1 g6_sl_28_1 _ _ _ (F.e rfl)) ?_; clear F a; intro a F
     refine still_val F (wn rfl) rfl rfl (.bool true) (ex_bin .leq _ _ _ _ rfl .i64 _ _ (F.e rfl) (F.e rfl) _ (b_leq (decide_eq_true (by omega)))) ?_; clear F a; intro a F
     refine still_val F (wn rfl) rfl rfl (.bool true) (ex_move _ rfl _ (F.e rfl)) ?_; clear F a; intro a F
     refine still_val F (F.wants 62 true rfl (by kernel_rfl) rfl true rfl) rfl rfl (.slice Bav av.length cav) (ex_move _ rfl _ (F.e rfl)) ?_; clear F a; intro a F
     refine still_val F (F.wants 62 true rfl (by kernel_rfl) rfl true rfl) rfl rfl (.string (ST.str av)) (ST.ex_tos 28 9 _ rfl 5 Tryd.underlying28 un5 un9 Bav av.length cav av (F.e rfl) ((Kd.C_below hCav M.bel))) ?_; clear F a; intro a F
     refine still_val F (F.wants 62 true rfl (by kernel_rfl) rfl true rfl) rfl rfl (.slice Bbv bv.length cbv) (ex_move _ rfl _ (F.e rfl)) ?_; clear F a; intro a F
     refine still_val F (F.wants 62 true rfl (by kernel_rfl) rfl true rfl) rfl rfl (.slice Bav av.length cav) (ex_move _ rfl _ (F.e rfl)) ?_; clear F a; intro a F
     refine still_val F (F.wants 62 true rfl (by kernel_rfl) rfl true rfl) rfl rfl (.int .i64 ((av.length : Nat) : Int)) (ex_len _ _ rfl 1 g6_sl_28_1 _ _ _ (F.e rfl)) ?_; clear F a; intro a F
     refine still_val F (F.wants 62 true rfl (by kernel_rfl) rfl true rfl) rfl rfl (.slice Bbv av.length cbv) (ex_cutto 28 5 1 Tryd.underlying28 s5 _ _ rfl Bbv bv.length cbv (F.e rfl) _ (F.e rfl) av.length rfl (by omega)) ?_; clear F a; intro a F
     refine still_val F (F.wants 62 true rfl (by kernel_rfl) rfl true rfl) rfl rfl (.string (ST.str (bv.take av.length))) (ST.ex_tos 28 9 _ rfl 5 Tryd.underlying28 un5 un9 Bbv av.length cbv (bv.take av.length) (F.e rfl) ((C_fst (Kd.C_below hCbv M.bel) (by omega)))) ?_; clear F a; intro a F
     refine still_val F (F.wants 62 true rfl (by kernel_rfl) rfl true rfl) rfl rfl (.bool (decide (av = (bv.take av.length)))) (ST.ex_eqls _ _ _ _ rfl av (bv.take av.length) (F.e rfl) (F.e rfl) (decide (av = (bv.take av.length))) rfl) ?_; clear F a; intro a F
     refine still_val F (wn rfl) rfl rfl (.bool (decide (av = (bv.take av.length)))) (ex_pick_t _ _ _ rfl (F.e rfl) _ (F.e rfl)) ?_; clear F a; intro a F
     refine still_val F (wn rfl) rfl rfl (.string (ST.str (hex16 av))) (ex_move _ rfl _ (F.e rfl)) ?_; clear F a; intro a F
     refine still_val F (wn rfl) rfl rfl (.int .i64 (((hex16 av).length : Nat) : Int)) (ST.ex_lens _ 9 rfl un9 (hex16 av) (F.e rfl)) ?_; clear F a; intro a F
     refine still_val F (wn rfl) rfl rfl (.string (ST.str (hex16 bv))) (ex_move _ rfl _ (F.e rfl)) ?_; clear F a; intro a F
     refine still_val F (wn rfl) rfl rfl (.int .i64 (((hex16 bv).length : Nat) : Int)) (ST.ex_lens _ 9 rfl un9 (hex16 bv) (F.e rfl)) ?_; clear F a; intro a F
     refine still_val F (wn rfl) rfl rfl (.bool true) (ex_bin .leq _ _ _ _ rfl .i64 _ _ (F.e rfl) (F.e rfl) _ (b_leq (decide_eq_true (by rw [hex16_len, hex16_len]; omega)))) ?_; clear F a; intro a F
     refine still_val F (wn rfl) rfl rfl (.bool true) (ex_move _ rfl _ (F.e rfl)) ?_; clear F a; intro a F
     refine still_val F (F.wants 77 true rfl (by kernel_rfl) rfl true rfl) rfl rfl (.string (ST.str (hex16 av))) (ex_move _ rfl _ (F.e rfl)) ?_; clear F a; intro a F
     refine still_val F (F.wants 77 true rfl (by kernel_rfl) rfl true rfl) rfl rfl (.string (ST.str (hex16 bv))) (ex_move _ rfl _ (F.e rfl)) ?_; clear F a; intro a F
     refine still_val F (F.wants 77 true rfl (by kernel_rfl) rfl true rfl) rfl rfl (.string (ST.str (hex16 av))) (ex_move _ rfl _ (F.e rfl)) ?_; clear F a; intro a F
     refine still_val F (F.wants 77 true rfl (by kernel_rfl) rfl true rfl) rfl rfl (.int .i64 (((hex16 av).length : Nat) : Int)) (ST.ex_lens _ 9 rfl un9 (hex16 av) (F.e rfl)) ?_; clear F a; intro a F
     refine still_val F (F.wants 77 true rfl (by kernel_rfl) rfl true rfl) rfl rfl (.string (ST.str ((hex16 bv).take ((hex16 av).length)))) (ex_cuts 9 un9 _ _ rfl (hex16 bv) (F.e rfl) _ (F.e rfl) ((hex16 av).length) rfl (by rw [hex16_len, hex16_len]; omega)) ?_; clear F a; intro a F
     refine still_val F (F.wants 77 true rfl (by kernel_rfl) rfl true rfl) rfl rfl (.bool (decide (av = bv.take av.length))) (ST.ex_eqls _ _ _ _ rfl (hex16 av) ((hex16 bv).take ((hex16 av).length)) (F.e rfl) (F.e rfl) (decide (av = bv.take av.length)) (pre_hex av bv)) ?_; clear F a; intro a F
     refine still_val F (wn rfl) rfl rfl (.bool (decide (av = bv.take av.length))) (ex_pick_t _ _ _ rfl (F.e rfl) _ (F.e rfl)) ?_; clear F a; intro a F
     refine still_end ?_
     refine list_val F (wn rfl) rfl rfl (.bool false) (WG.ex_neqb _ _ _ _ rfl g6_bool_4 (decide (av = (bv.take av.length))) (decide (av = bv.take av.length)) (F.e rfl) (F.e rfl) false (by simp)) ?_; clear F a; intro a F
     refine wpList_nil ?_
     replace F : Fr 245 a [(0, .agg #[.slice (some adbv) bs.length c, .slice A2 n2 c2, .slice A3 ns.length c3, .slice D ws.length d]), (1, .pointer (some ⟨g1, 0, none⟩)), (2, .bool false), (3, .int .i64 ((al + bv.length + 1 : Nat) : Int)), (4, .int .i64 ((r : Nat) : Int)), (5, .slice Bbv bv.length cbv), (6, .slice Bav av.length cav), (7, .string (ST.str (hex16 av))), (8, .string (ST.str (hex16 bv))), (23, .bool true), (36, .bool false), (44, .bool false), (46, .bool true), (85, .bool false)] := F.keep ⟨rfl, rfl, rfl, rfl, rfl, rfl, rfl, rfl, rfl, rfl, rfl, rfl, rfl, rfl, trivial⟩
     refine then_n ?_
     refine wp_cond_false (F.e rfl) ?_
     refine wp_skip ?_
     refine in_n ?_
     refine then_n ?_
     refine wp_region_lit ?_
     refine list_val F (wn rfl) rfl rfl (.int .i64 ((r : Nat) : Int)) (ex_move _ rfl _ (F.e rfl)) ?_; clear F a; intro a F
     refine list_val F (wn rfl) rfl rfl (.int .i64 ((r + 1 : Nat) : Int)) (ex_bin .add _ _ _ _ rfl .i64 _ _ (F.e rfl) rfl _ (b_add ((w_i64 (by omega) (by omega)).trans (by omega)))) ?_; clear F a; intro a F
     refine list_val F (wn rfl) rfl rfl (.int .i64 ((r + 1 : Nat) : Int)) (ex_assign _ rfl _ (F.e rfl)) ?_; clear F a; intro a F
     refine wpList_nil ?_
     replace F : Fr 245 a [(0, .agg #[.slice (some adbv) bs.length c, .slice A2 n2 c2, .slice A3 ns.length c3, .slice D ws.length d]), (1, .pointer (some ⟨g1, 0, none⟩)), (2, .bool false), (3, .int .i64 ((al + bv.length + 1 : Nat) : Int)), (4, .int .i64 ((r + 1 : Nat) : Int)), (5, .slice Bbv bv.length cbv), (6, .slice Bav av.length cav), (7, .string (ST.str (hex16 av))), (8, .string (ST.str (hex16 bv))), (23, .bool true), (36, .bool false), (44, .bool false), (46, .bool true), (85, .bool false)] := F.keep ⟨rfl, rfl, rfl, rfl, rfl, rfl, rfl, rfl, rfl, rfl, rfl, rfl, rfl, rfl, trivial⟩
     refine then_n ?_
     exact ⟨bs.length - (r + 1), by omega, (r + 1), (al + bv.length + 1), F.keep ⟨rfl, rfl, rfl, rfl, rfl, trivial⟩, (by refine M.pick' [0] _ ?_ (by decide); exact ⟨rfl, trivial⟩), (by omega), (by omega), hsm2, (by omega)⟩
    refine region_tail 28 g6_follows_mixedOrders (by kernel_rfl) M ?_; clear M; intro u M hb
    clear hb; try clear v
    refine still_val F (wn rfl) rfl rfl (.slice Bav av.length cav) (ex_move _ rfl _ (F.e rfl)) ?_; clear F a; intro a F
    refine still_val F (wn rfl) rfl rfl (.int .i64 ((av.length : Nat) : Int)) (ex_len _ _ rfl 1 g6_sl_28_1 _ _ _ (F.e rfl)) ?_; clear F a; intro a F
    refine still_val F (wn rfl) rfl rfl (.slice Bbv bv.length cbv) (ex_move _ rfl _ (F.e rfl)) ?_; clear F a; intro a F
    refine still_val F (wn rfl) rfl rfl (.int .i64 ((bv.length : Nat) : Int)) (ex_len _ _ rfl 1 g6_sl_28_1 _ _ _ (F.e rfl)) ?_; clear F a; intro a F
    refine still_val F (wn rfl) rfl rfl (.bool false) (ex_bin .leq _ _ _ _ rfl .i64 _ _ (F.e rfl) (F.e rfl) _ (b_leq (decide_eq_false (by omega)))) ?_; clear F a; intro a F
    refine still_val F (wn rfl) rfl rfl (.bool false) (ex_move _ rfl _ (F.e rfl)) ?_; clear F a; intro a F
    refine still_skip F (F.wants 62 false rfl (by kernel_rfl) rfl false rfl) rfl rfl ?_; clear F a; intro a F
    refine still_skip F (F.wants 62 false rfl (by kernel_rfl) rfl false rfl) rfl rfl ?_; clear F a; intro a F
    refine still_skip F (F.wants 62 false rfl (by kernel_rfl) rfl false rfl) rfl rfl ?_; clear F a; intro a F
    refine still_skip F (F.wants 62 false rfl (by kernel_rfl) rfl false rfl) rfl rfl ?_; clear F a; intro a F
    refine still_skip F (F.wants 62 false rfl (by kernel_rfl) rfl false rfl) rfl rfl ?_; clear F a; intro a F
    refine still_skip F (F.wants 62 false rfl (by kernel_rfl) rfl false rfl) rfl rfl ?_; clear F a; intro a F
    refine still_skip F (F.wants 62 false rfl (by kernel_rfl) rfl false rfl) rfl rfl ?_; clear F a; intro a F
    refine still_skip F (F.wants 62 false rfl (by kernel_rfl) rfl false rfl) rfl rfl ?_; clear F a; intro a F
    refine still_val F (wn rfl) rfl rfl (.bool false) (ex_pick_f _ _ _ rfl (F.e rfl) _ rfl) ?_; clear F a; intro a F
    refine still_val F (wn rfl) rfl rfl (.string (ST.str (hex16 av))) (ex_move _ rfl _ (F.e rfl)) ?_; clear F a; intro a F
    refine still_val F (wn rfl) rfl rfl (.int .i64 (((hex16 av).length : Nat) : Int)) (ST.ex_lens _ 9 rfl un9 (hex16 av) (F.e rfl)) ?_; clear F a; intro a F
    refine still_val F (wn rfl) rfl rfl (.string (ST.str (hex16 bv))) (ex_move _ rfl _ (F.e rfl)) ?_; clear F a; intro a F
    refine still_val F (wn rfl) rfl rfl (.int .i64 (((hex16 bv).length : Nat) : Int)) (ST.ex_lens _ 9 rfl un9 (hex16 bv) (F.e rfl)) ?_; clear F a; intro a F
    refine still_val F (wn rfl) rfl rfl (.bool false) (ex_bin .leq _ _ _ _ rfl .i64 _ _ (F.e rfl) (F.e rfl) _ (b_leq (decide_eq_false (by rw [hex16_len, hex16_len]; omega)))) ?_; clear F a; intro a F
    refine still_val F (wn rfl) rfl rfl (.bool false) (ex_move _ rfl _ (F.e rfl)) ?_; clear F a; intro a F
    refine still_skip F (F.wants 77 false rfl (by kernel_rfl) rfl false rfl) rfl rfl ?_; clear F a; intro a F
    refine still_skip F (F.wants 77 false rfl (by kernel_rfl) rfl false rfl) rfl rfl ?_; clear F a; intro a F
    refine still_skip F (F.wants 77 false rfl (by kernel_rfl) rfl false rfl) rfl rfl ?_; clear F a; intro a F
    refine still_skip F (F.wants 77 false rfl (by kernel_rfl) rfl false rfl) rfl rfl ?_; clear F a; intro a F
    refine still_skip F (F.wants 77 false rfl (by kernel_rfl) rfl false rfl) rfl rfl ?_; clear F a; intro a F
    refine still_skip F (F.wants 77 false rfl (by kernel_rfl) rfl false rfl) rfl rfl ?_; clear F a; intro a F
    refine still_val F (wn rfl) rfl rfl (.bool false) (ex_pick_f _ _ _ rfl (F.e rfl) _ rfl) ?_; clear F a; intro a F
    refine still_end ?_
    refine list_val F (wn rfl) rfl rfl (.bool false) (WG.ex_neqb _ _ _ _ rfl g6_bool_4 false false (F.e rfl) (F.e rfl) false rfl) ?_; clear F a; intro a F
    refine wpList_nil ?_
    replace F : Fr 245 a [(0, .agg #[.slice (some adbv) bs.length c, .slice A2 n2 c2, .slice A3 ns.length c3, .slice D ws.length d]), (1, .pointer (some ⟨g1, 0, none⟩)), (2, .bool false), (3, .int .i64 ((al + bv.length + 1 : Nat) : Int)), (4, .int .i64 ((r : Nat) : Int)), (5, .slice Bbv bv.length cbv), (6, .slice Bav av.length cav), (7, .string (ST.str (hex16 av))), (8, .string (ST.str (hex16 bv))), (23, .bool true), (36, .bool false), (44, .bool false), (46, .bool true), (85, .bool false)] := F.keep ⟨rfl, rfl, rfl, rfl, rfl, rfl, rfl, rfl, rfl, rfl, rfl, rfl, rfl, rfl, trivial⟩
    refine then_n ?_
    refine wp_cond_false (F.e rfl) ?_
    refine wp_skip ?_
    refine in_n ?_
    refine then_n ?_
    refine wp_region_lit ?_
    refine list_val F (wn rfl) rfl rfl (.int .i64 ((r : Nat) : Int)) (ex_move _ rfl _ (F.e rfl)) ?_; clear F a; intro a F
    refine list_val F (wn rfl) rfl rfl (.int .i64 ((r + 1 : Nat) : Int)) (ex_bin .add _ _ _ _ rfl .i64 _ _ (F.e rfl) rfl _ (b_add ((w_i64 (by omega) (by omega)).trans (by omega)))) ?_; clear F a; intro a F
    refine list_val F (wn rfl) rfl rfl (.int .i64 ((r + 1 : Nat) : Int)) (ex_assign _ rfl _ (F.e rfl)) ?_; clear F a; intro a F
    refine wpList_nil ?_
    replace F : Fr 245 a [(0, .agg #[.slice (some adbv) bs.length c, .slice A2 n2 c2, .slice A3 ns.length c3, .slice D ws.length d]), (1, .pointer (some ⟨g1, 0, none⟩)), (2, .bool false), (3, .int .i64 ((al + bv.length + 1 : Nat) : Int)), (4, .int .i64 ((r + 1 : Nat) : Int)), (5, .slice Bbv bv.length cbv), (6, .slice Bav av.length cav), (7, .string (ST.str (hex16 av))), (8, .string (ST.str (hex16 bv))), (23, .bool true), (36, .bool false), (44, .bool false), (46, .bool true), (85, .bool false)] := F.keep ⟨rfl, rfl, rfl, rfl, rfl, rfl, rfl, rfl, rfl, rfl, rfl, rfl, rfl, rfl, trivial⟩
    refine then_n ?_
    exact ⟨bs.length - (r + 1), by omega, (r + 1), (al + bv.length + 1), F.keep ⟨rfl, rfl, rfl, rfl, rfl, trivial⟩, (by refine M.pick' [0] _ ?_ (by decide); exact ⟨rfl, trivial⟩), (by omega), (by omega), hsm2, (by omega)⟩
   refine wp_region_lit ?_
   refine list_val F (wn rfl) rfl rfl (.int .i64 ((r : Nat) : Int)) (ex_move _ rfl _ (F.e rfl)) ?_; clear F a; intro a F
   refine list_val F (wn rfl) rfl rfl (.bool false) (ex_bin .gtr _ _ _ _ rfl .i64 _ _ (F.e rfl) rfl _ (b_gtr (decide_eq_false (by omega)))) ?_; clear F a; intro a F
   refine wpList_nil ?_
   replace F : Fr 245 a [(0, .agg #[.slice (some adbv) bs.length c, .slice A2 n2 c2, .slice A3 ns.length c3, .slice D ws.length d]), (1, .pointer (some ⟨g1, 0, none⟩)), (2, .bool false), (3, .int .i64 ((al + bv.length + 1 : Nat) : Int)), (4, .int .i64 ((r : Nat) : Int)), (5, .slice Bbv bv.length cbv), (23, .bool true), (36, .bool false), (44, .bool false), (46, .bool false)] := F.keep ⟨rfl, rfl, rfl, rfl, rfl, rfl, rfl, rfl, rfl, rfl, trivial⟩
   refine then_n ?_
   refine wp_cond_false (F.e rfl) ?_
   refine wp_skip ?_
   refine in_n ?_
   refine then_n ?_
   refine wp_region_lit ?_
   refine list_val F (wn rfl) rfl rfl (.int .i64 ((r : Nat) : Int)) (ex_move _ rfl _ (F.e rfl)) ?_; clear F a; intro a F
   refine list_val F (wn rfl) rfl rfl (.int .i64 ((r + 1 : Nat) : Int)) (ex_bin .add _ _ _ _ rfl .i64 _ _ (F.e rfl) rfl _ (b_add ((w_i64 (by omega) (by omega)).trans (by omega)))) ?_; clear F a; intro a F
   refine list_val F (wn rfl) rfl rfl (.int .i64 ((r + 1 : Nat) : Int)) (ex_assign _ rfl _ (F.e rfl)) ?_; clear F a; intro a F
   refine wpList_nil ?_
   replace F : Fr 245 a [(0, .agg #[.slice (some adbv) bs.length c, .slice A2 n2 c2, .slice A3 ns.length c3, .slice D ws.length d]), (1, .pointer (some ⟨g1, 0, none⟩)), (2, .bool false), (3, .int .i64 ((al + bv.length + 1 : Nat) : Int)), (4, .int .i64 ((r + 1 : Nat) : Int)), (5, .slice Bbv bv.length cbv), (23, .bool true), (36, .bool false), (44, .bool false), (46, .bool false)] := F.keep ⟨rfl, rfl, rfl, rfl, rfl, rfl, rfl, rfl, rfl, rfl, trivial⟩
   refine then_n ?_
   exact ⟨bs.length - (r + 1), by omega, (r + 1), (al + bv.length + 1), F.keep ⟨rfl, rfl, rfl, rfl, rfl, trivial⟩, (by refine M.pick' [0] _ ?_ (by decide); exact ⟨rfl, trivial⟩), (by omega), (by omega), hsm2, (by omega)⟩
  refine wp_seq ?_
  refine wp_seq ?_
  refine wp_region_lit ?_
  refine list_val F (wn rfl) rfl rfl (.int .i64 ((r : Nat) : Int)) (ex_move _ rfl _ (F.e rfl)) ?_; clear F a; intro a F
  refine list_val F (wn rfl) rfl rfl (.pointer (some ⟨g1, 0, none⟩)) (ex_fa _ _ _ rfl _ (F.e rfl) 0 g6_fa_27_0_0 ⟨g1, 0, none⟩ rfl) ?_; clear F a; intro a F
  refine list_val F (wn rfl) rfl rfl (.slice A bs.length c) (ex_load _ _ rfl _ (F.e rfl) _ (lv1 g6_one_22 (M.cell (i := 0) rfl (j := 0) rfl))) ?_; clear F a; intro a F
  refine list_val F (wn rfl) rfl rfl (.int .i64 ((bs.length : Nat) : Int)) (ex_len _ _ rfl 1 g6_sl_22_1 _ _ _ (F.e rfl)) ?_; clear F a; intro a F
  refine list_val F (wn rfl) rfl rfl (.bool false) (ex_bin .lss _ _ _ _ rfl .i64 _ _ (F.e rfl) (F.e rfl) _ (b_lss (decide_eq_false (by omega)))) ?_; clear F a; intro a F
  refine wpList_nil ?_
  replace F : Fr 245 a [(0, .agg #[.slice A bs.length c, .slice A2 n2 c2, .slice A3 ns.length c3, .slice D ws.length d]), (1, .pointer (some ⟨g1, 0, none⟩)), (2, .bool false), (3, .int .i64 ((al : Nat) : Int)), (4, .int .i64 ((r : Nat) : Int)), (23, .bool false)] := F.keep ⟨rfl, rfl, rfl, rfl, rfl, rfl, trivial⟩
  refine then_n ?_
  refine wp_cond_false (F.e rfl) ?_
  refine wp_exit ?_
  refine then_x ?_
  refine then_x ?_
  refine in_hit ?_
  refine only_n ?_
  exact ⟨F.keep ⟨rfl, rfl, rfl, trivial⟩, (by refine M.pick' [0] _ ?_ (by decide); exact ⟨rfl, trivial⟩)⟩
 clear F M a
 intro a u hR; obtain ⟨F, M⟩ := hR; try clear v
 refine then_n ?_
 refine wp_seq ?_
 refine wp_seq ?_
 refine wp_region_lit ?_
 refine list_val F (wn rfl) rfl rfl (.int .i64 0) (ex_assign _ rfl _ rfl) ?_; clear F a; intro a F
 refine wpList_nil ?_
 replace F : Fr 245 a [(0, .agg #[.slice A bs.length c, .slice A2 n2 c2, .slice A3 ns.length c3, .slice D ws.length d]), (1, .pointer (some ⟨g1, 0, none⟩)), (2, .bool false), (9, .int .i64 0)] := F.keep ⟨rfl, rfl, rfl, rfl, trivial⟩
 refine then_n ?_
 refine wp_block ?_
 refine wp_loopN (fun mq ar wr => ∃ (k : Nat), Fr 245 ar [(0, .agg #[.slice A bs.length c, .slice A2 n2 c2, .slice A3 ns.length c3, .slice D ws.length d]), (1, .pointer (some ⟨g1, 0, none⟩)), (2, .bool false), (9, .int .i64 ((k : Nat) : Int))] ∧ Mm w wr [⟨g1, #[.slice A bs.length c, .slice A2 n2 c2, .slice A3 ns.length c3, .slice D ws.length d], 27⟩] ∧ k ≤ ns.length ∧ mq + k = ns.length) ns.length ?_ ?_
 ·
  exact ⟨0, F.keep ⟨rfl, rfl, rfl, rfl, trivial⟩, M, (Nat.zero_le _), (by omega)⟩
 clear F M a
 rintro mq a v ⟨k, F, M, hk, hq⟩; try clear u
 by_cases hin : k < ns.length
 ·
  obtain ⟨x, hx⟩ : ∃ x, ns[k]? = some x := ⟨_, List.getElem?_eq_getElem (by omega)⟩
  obtain ⟨adx, hAx, zx⟩ := C_ix (enc := ic) (m := 1) (hl := ic_len) (h1 := ic_one) hN hx
  subst hAx
  have hxb := hnb x (List.mem_of_getElem? hx)
  obtain ⟨y, hy, hyx⟩ := itoa_head x
  refine wp_seq ?_
  refine wp_seq ?_
  refine wp_region_lit ?_
  refine list_val F (wn rfl) rfl rfl (.int .i64 ((k : Nat) : Int)) (ex_move _ rfl _ (F.e rfl)) ?_; clear F a; intro a F
  refine list_val F (wn rfl) rfl rfl (.pointer (some ⟨g1, 2, none⟩)) (ex_fa _ _ _ rfl _ (F.e rfl) 2 g6_fa_27_2_2 ⟨g1, 2, none⟩ rfl) ?_; clear F a; intro a F
  refine list_val F (wn rfl) rfl rfl (.slice (some adx) ns.length c3) (ex_load _ _ rfl _ (F.e rfl) _ (lv1 g6_one_24 (M.cell (i := 0) rfl (j := 2) rfl))) ?_; clear F a; intro a F
  refine list_val F (wn rfl) rfl rfl (.int .i64 ((ns.length : Nat) : Int)) (ex_len _ _ rfl 1 g6_sl_24_1 _ _ _ (F.e rfl)) ?_; clear F a; intro a F
  refine list_val F (wn rfl) rfl rfl (.bool true) (ex_bin .lss _ _ _ _ rfl .i64 _ _ (F.e rfl) (F.e rfl) _ (b_lss (decide_eq_true (by omega)))) ?_; clear F a; intro a F
  refine wpList_nil ?_
  replace F : Fr 245 a [(0, .agg #[.slice A bs.length c, .slice A2 n2 c2, .slice (some adx) ns.length c3, .slice D ws.length d]), (1, .pointer (some ⟨g1, 0, none⟩)), (2, .bool false), (9, .int .i64 ((k : Nat) : Int)), (90, .bool true)] := F.keep ⟨rfl, rfl, rfl, rfl, rfl, trivial⟩
  refine then_n ?_
  refine wp_cond_true (F.e rfl) ?_
  refine wp_skip ?_
  refine then_n ?_
  refine wp_seq ?_
  refine wp_block ?_
  refine wp_seq ?_
  refine wp_region_lit ?_
  refine list_val F (wn rfl) rfl rfl (.pointer (some ⟨g1, 2, none⟩)) (ex_fa _ _ _ rfl _ (F.e rfl) 2 g6_fa_27_2_2 ⟨g1, 2, none⟩ rfl) ?_; clear F a; intro a F
  refine list_val F (wn rfl) rfl rfl (.slice (some adx) ns.length c3) (ex_load _ _ rfl _ (F.e rfl) _ (lv1 g6_one_24 (M.cell (i := 0) rfl (j := 2) rfl))) ?_; clear F a; intro a F
  refine list_val F (wn rfl) rfl rfl (.int .i64 ((k : Nat) : Int)) (ex_move _ rfl _ (F.e rfl)) ?_; clear F a; intro a F
  refine list_val F (wn rfl) rfl rfl (.pointer (some (adx.add (k * 1)))) (ex_ix _ _ _ rfl 1 g6_sl_24_1 adx _ _ (F.e rfl) .i64 _ (F.e rfl) k rfl (by omega) (adx.add (k * 1)) rfl) ?_; clear F a; intro a F
  refine list_val F (wn rfl) rfl rfl (.int .i64 x) (ex_load _ _ rfl _ (F.e rfl) _ (lv1 g6_one_2 ((zx.below M.bel).cell 0 _ rfl))) ?_; clear F a; intro a F
  refine list_do (wn rfl) (fun K hK => ?_)
  refine ow_call rfl rfl F 18 #[.int .i64 x] (ex_call 18 _ _ rfl rfl g6_ent_18 _ (map1 (F.e rfl))) (text10_any x hxb.1 hxb.2 _ (hE.below M.bel)) (fun e u hR => ?_)
  obtain ⟨he, hb⟩ := hR
  refine ⟨.string (ST.str (Lib.itoa x)), he, ?_⟩; clear he F a; intro a F
  refine hK _ _ ?_
  clear hK K
  replace M := M.below hb; clear hb; try clear v
  refine list_val F (wn rfl) rfl rfl (.string (ST.str (Lib.itoa x))) (ex_assign _ rfl _ (F.e rfl)) ?_; clear F a; intro a F
  refine wpList_nil ?_
  replace F : Fr 245 a [(0, .agg #[.slice A bs.length c, .slice A2 n2 c2, .slice (some adx) ns.length c3, .slice D ws.length d]), (1, .pointer (some ⟨g1, 0, none⟩)), (2, .bool false), (9, .int .i64 ((k : Nat) : Int)), (10, .string (ST.str (Lib.itoa x))), (90, .bool true)] := F.keep ⟨rfl, rfl, rfl, rfl, rfl, rfl, trivial⟩
  refine then_n ?_
  refine wp_seq ?_
  refine wp_region_lit ?_
  refine list_val F (wn rfl) rfl rfl (.string (ST.str (Lib.itoa x))) (ex_move _ rfl _ (F.e rfl)) ?_; clear F a; intro a F
  refine list_do (wn rfl) (fun K hK => ?_)
  refine ow_call rfl rfl F 17 #[.string (ST.str (Lib.itoa x))] (ex_call 17 _ _ rfl rfl g6_ent_17 _ (map1 (F.e rfl))) (number10_any (Lib.itoa x) _ (hE.below M.bel) (by have := itoa_len hxb.1 hxb.2; omega)) (fun e v hR => ?_)
  obtain ⟨he, hb⟩ := hR
  rw [n10_back hxb.1 hxb.2] at he
  refine ⟨.tuple #[.int .i64 x, .int .i64 0], he, ?_⟩; clear he F a; intro a F
  refine hK _ _ ?_
  clear hK K
  replace M := M.below hb; clear hb; try clear u
  refine list_val F (wn rfl) rfl rfl (.tuple #[.int .i64 x, .int .i64 0]) (ex_move _ rfl _ (F.e rfl)) ?_; clear F a; intro a F
  refine list_val F (wn rfl) rfl rfl (.int .i64 x) (ex_extract _ _ rfl _ (F.e rfl) _ rfl) ?_; clear F a; intro a F
  refine list_val F (wn rfl) rfl rfl (.int .i64 0) (ex_extract _ _ rfl _ (F.e rfl) _ rfl) ?_; clear F a; intro a F
  refine list_val F (wn rfl) rfl rfl (.int .i64 x) (ex_assign _ rfl _ (F.e rfl)) ?_; clear F a; intro a F
  refine list_val F (wn rfl) rfl rfl (.int .i64 0) (ex_assign _ rfl _ (F.e rfl)) ?_; clear F a; intro a F
  refine wpList_nil ?_
  replace F : Fr 245 a [(0, .agg #[.slice A bs.length c, .slice A2 n2 c2, .slice (some adx) ns.length c3, .slice D ws.length d]), (1, .pointer (some ⟨g1, 0, none⟩)), (2, .bool false), (9, .int .i64 ((k : Nat) : Int)), (10, .string (ST.str (Lib.itoa x))), (11, .int .i64 x), (12, .int .i64 0), (90, .bool true)] := F.keep ⟨rfl, rfl, rfl, rfl, rfl, rfl, rfl, rfl, trivial⟩
  refine then_n ?_
  refine wp_seq ?_
  refine wp_seq ?_
  refine wp_region_lit ?_
  refine list_val F (wn rfl) rfl rfl (.int .i64 0) (ex_move _ rfl _ (F.e rfl)) ?_; clear F a; intro a F
  refine list_do (wn rfl) (fun K hK => ?_)
  refine ow_call rfl rfl F 11 #[.int .i64 0] (ex_call 11 _ _ rfl rfl g6_ent_11 _ (map1 (F.e rfl))) (num_any 0 _) (fun e u hR => ?_)
  obtain ⟨he, hb⟩ := hR
  refine ⟨.int .i64 0, he, ?_⟩; clear he F a; intro a F
  refine hK _ _ ?_
  clear hK K
  replace M := M.below hb; clear hb; try clear v
  refine list_val F (wn rfl) rfl rfl (.bool false) (ex_bin .neq _ _ _ _ rfl .i64 _ _ (F.e rfl) rfl _ (b_neq (by decide))) ?_; clear F a; intro a F
  refine list_val F (wn rfl) rfl rfl (.bool false) (ex_move _ rfl _ (F.e rfl)) ?_; clear F a; intro a F
  refine list_val F (F.wants 107 false rfl (by kernel_rfl) rfl true rfl) rfl rfl (.int .i64 x) (ex_move _ rfl _ (F.e rfl)) ?_; clear F a; intro a F
  refine list_val F (F.wants 107 false rfl (by kernel_rfl) rfl true rfl) rfl rfl (.pointer (some ⟨g1, 2, none⟩)) (ex_fa _ _ _ rfl _ (F.e rfl) 2 g6_fa_27_2_2 ⟨g1, 2, none⟩ rfl) ?_; clear F a; intro a F
  refine list_val F (F.wants 107 false rfl (by kernel_rfl) rfl true rfl) rfl rfl (.slice (some adx) ns.length c3) (ex_load _ _ rfl _ (F.e rfl) _ (lv1 g6_one_24 (M.cell (i := 0) rfl (j := 2) rfl))) ?_; clear F a; intro a F
  refine list_val F (F.wants 107 false rfl (by kernel_rfl) rfl true rfl) rfl rfl (.int .i64 ((k : Nat) : Int)) (ex_move _ rfl _ (F.e rfl)) ?_; clear F a; intro a F
  refine list_val F (F.wants 107 false rfl (by kernel_rfl) rfl true rfl) rfl rfl (.pointer (some (adx.add (k * 1)))) (ex_ix _ _ _ rfl 1 g6_sl_24_1 adx _ _ (F.e rfl) .i64 _ (F.e rfl) k rfl (by omega) (adx.add (k * 1)) rfl) ?_; clear F a; intro a F
  refine list_val F (F.wants 107 false rfl (by kernel_rfl) rfl true rfl) rfl rfl (.int .i64 x) (ex_load _ _ rfl _ (F.e rfl) _ (lv1 g6_one_2 ((zx.below M.bel).cell 0 _ rfl))) ?_; clear F a; intro a F
  refine list_val F (F.wants 107 false rfl (by kernel_rfl) rfl true rfl) rfl rfl (.bool false) (ex_bin .neq _ _ _ _ rfl .i64 _ _ (F.e rfl) (F.e rfl) _ (b_neq (by simp))) ?_; clear F a; intro a F
  refine list_val F (wn rfl) rfl rfl (.bool false) (ex_pick_f _ _ _ rfl (F.e rfl) _ (F.e rfl)) ?_; clear F a; intro a F
  refine list_val F (wn rfl) rfl rfl (.bool false) (ex_move _ rfl _ (F.e rfl)) ?_; clear F a; intro a F
  refine list_val F (F.wants 116 false rfl (by kernel_rfl) rfl true rfl) rfl rfl (.string (ST.str (Lib.itoa x))) (ex_move _ rfl _ (F.e rfl)) ?_; clear F a; intro a F
  refine list_val F (F.wants 116 false rfl (by kernel_rfl) rfl true rfl) rfl rfl (.bool false) (ST.ex_eqls _ _ _ _ rfl (Lib.itoa x) ([] : List UInt8) (F.e rfl) rfl false (decide_eq_false (itoa_ne x))) ?_; clear F a; intro a F
  refine list_val F (wn rfl) rfl rfl (.bool false) (ex_pick_f _ _ _ rfl (F.e rfl) _ (F.e rfl)) ?_; clear F a; intro a F
  refine list_val F (wn rfl) rfl rfl (.bool false) (ex_move _ rfl _ (F.e rfl)) ?_; clear F a; intro a F
  refine list_val F (F.wants 120 false rfl (by kernel_rfl) rfl true rfl) rfl rfl (.string (ST.str (Lib.itoa x))) (ex_move _ rfl _ (F.e rfl)) ?_; clear F a; intro a F
  refine list_val F (F.wants 120 false rfl (by kernel_rfl) rfl true rfl) rfl rfl (.int .u8 ((y.toNat : Nat) : Int)) (ST.ex_ixs 9 _ _ rfl un9 (Lib.itoa x) (F.e rfl) .i64 _ rfl 0 rfl y hy) ?_; clear F a; intro a F
  refine list_val F (F.wants 120 false rfl (by kernel_rfl) rfl true rfl) rfl rfl (.bool (decide (x < 0))) (ex_bin .eql _ _ _ _ rfl .u8 _ _ (F.e rfl) rfl _ (b_eql hyx)) ?_; clear F a; intro a F
  refine list_val F (F.wants 120 false rfl (by kernel_rfl) rfl true rfl) rfl rfl (.int .i64 x) (ex_move _ rfl _ (F.e rfl)) ?_; clear F a; intro a F
  refine list_val F (F.wants 120 false rfl (by kernel_rfl) rfl true rfl) rfl rfl (.bool (decide (x < 0))) (ex_bin .lss _ _ _ _ rfl .i64 _ _ (F.e rfl) rfl _ (b_lss rfl)) ?_; clear F a; intro a F
  refine list_val F (F.wants 120 false rfl (by kernel_rfl) rfl true rfl) rfl rfl (.bool false) (WG.ex_neqb _ _ _ _ rfl g6_bool_4 (decide (x < 0)) (decide (x < 0)) (F.e rfl) (F.e rfl) false (by simp)) ?_; clear F a; intro a F
  refine list_val F (wn rfl) rfl rfl (.bool false) (ex_pick_f _ _ _ rfl (F.e rfl) _ (F.e rfl)) ?_; clear F a; intro a F
  refine wpList_nil ?_
  replace F : Fr 245 a [(0, .agg #[.slice A bs.length c, .slice A2 n2 c2, .slice (some adx) ns.length c3, .slice D ws.length d]), (1, .pointer (some ⟨g1, 0, none⟩)), (2, .bool false), (9, .int .i64 ((k : Nat) : Int)), (10, .string (ST.str (Lib.itoa x))), (11, .int .i64 x), (12, .int .i64 0), (90, .bool true), (127, .bool false)] := F.keep ⟨rfl, rfl, rfl, rfl, rfl, rfl, rfl, rfl, rfl, trivial⟩
  refine then_n ?_
  refine wp_cond_false (F.e rfl) ?_
  refine wp_skip ?_
  refine then_n ?_
  refine wp_seq ?_
  by_cases hk0 : 0 < k
  ·
   obtain ⟨y2, hy2⟩ : ∃ x, ns[k - 1]? = some x := ⟨_, List.getElem?_eq_getElem (by omega)⟩
   obtain ⟨ady, hAy, zy⟩ := C_ix (enc := ic) (m := 1) (hl := ic_len) (h1 := ic_one) hN hy2
   obtain rfl := Option.some.inj hAy
   have hyb := hnb y2 (List.mem_of_getElem? hy2)
   by_cases hge : y2 ≤ x
   ·
    by_cases hp0 : 0 ≤ y2
    ·
     refine wp_only (fun ar wr => Fr 245 ar [(0, .agg #[.slice A bs.length c, .slice A2 n2 c2, .slice (some adx) ns.length c3, .slice D ws.length d]), (1, .pointer (some ⟨g1, 0, none⟩)), (2, .bool false), (9, .int .i64 ((k : Nat) : Int)), (10, .string (ST.str (Lib.itoa x))), (11, .int .i64 x), (12, .int .i64 0), (90, .bool true), (127, .bool false), (165, .bool false)] ∧ Mm w wr [⟨g1, #[.slice A bs.length c, .slice A2 n2 c2, .slice (some adx) ns.length c3, .slice D ws.length d], 27⟩]) ?_ ?_
     ·
      refine region_any g6_follows_mixedOrders M ?_; clear M; intro wD M hb
      clear hb; try clear u
      have hS : Below wD.heap.size wD wD := Below.refl _ _; have MD := M
      refine any_val F 0 rfl (by kernel_rfl) (wn rfl) rfl rfl (.int .i64 ((k : Nat) : Int)) (fun w' hS' => ex_move _ rfl _ (F.e rfl)) hS ?_; clear F a; intro a F
      refine any_val F 1 rfl (by kernel_rfl) (wn rfl) rfl rfl (.bool true) (fun w' hS' => ex_bin .gtr _ _ _ _ rfl .i64 _ _ (F.e rfl) rfl _ (b_gtr (decide_eq_true (by omega)))) hS ?_; clear F a; intro a F
      refine any_val F 2 rfl (by kernel_rfl) (wn rfl) rfl rfl (.bool true) (fun w' hS' => ex_move _ rfl _ (F.e rfl)) hS ?_; clear F a; intro a F
      refine any_val F 3 rfl (by kernel_rfl) (F.wants 130 true rfl (by kernel_rfl) rfl true rfl) rfl rfl (.pointer (some ⟨g1, 2, none⟩)) (fun w' hS' => ex_fa _ _ _ rfl _ (F.e rfl) 2 g6_fa_27_2_2 ⟨g1, 2, none⟩ rfl) hS ?_; clear F a; intro a F
      refine any_val F 4 rfl (by kernel_rfl) (F.wants 130 true rfl (by kernel_rfl) rfl true rfl) rfl rfl (.slice (some adx) ns.length c3) (fun w' hS' => ex_load _ _ rfl _ (F.e rfl) _ (lv1 g6_one_24 ((MD.below hS').cell (i := 0) rfl (j := 2) rfl))) hS ?_; clear F a; intro a F
      refine any_val F 5 rfl (by kernel_rfl) (F.wants 130 true rfl (by kernel_rfl) rfl true rfl) rfl rfl (.int .i64 ((k : Nat) : Int)) (fun w' hS' => ex_move _ rfl _ (F.e rfl)) hS ?_; clear F a; intro a F
      refine any_val F 6 rfl (by kernel_rfl) (F.wants 130 true rfl (by kernel_rfl) rfl true rfl) rfl rfl (.pointer (some (adx.add (k * 1)))) (fun w' hS' => ex_ix _ _ _ rfl 1 g6_sl_24_1 adx _ _ (F.e rfl) .i64 _ (F.e rfl) k rfl (by omega) (adx.add (k * 1)) rfl) hS ?_; clear F a; intro a F
      refine any_val F 7 rfl (by kernel_rfl) (F.wants 130 true rfl (by kernel_rfl) rfl true rfl) rfl rfl (.int .i64 x) (fun w' hS' => ex_load _ _ rfl _ (F.e rfl) _ (lv1 g6_one_2 ((zx.below (MD.below hS').bel).cell 0 _ rfl))) hS ?_; clear F a; intro a F
      refine any_val F 8 rfl (by kernel_rfl) (F.wants 130 true rfl (by kernel_rfl) rfl true rfl) rfl rfl (.pointer (some ⟨g1, 2, none⟩)) (fun w' hS' => ex_fa _ _ _ rfl _ (F.e rfl) 2 g6_fa_27_2_2 ⟨g1, 2, none⟩ rfl) hS ?_; clear F a; intro a F
      refine any_val F 9 rfl (by kernel_rfl) (F.wants 130 true rfl (by kernel_rfl) rfl true rfl) rfl rfl (.slice (some adx) ns.length c3) (fun w' hS' => ex_load _ _ rfl _ (F.e rfl) _ (lv1 g6_one_24 ((MD.below hS').cell (i := 0) rfl (j := 2) rfl))) hS ?_; clear F a; intro a F
      refine any_val F 10 rfl (by kernel_rfl) (F.wants 130 true rfl (by kernel_rfl) rfl true rfl) rfl rfl (.int .i64 ((k : Nat) : Int)) (fun w' hS' => ex_move _ rfl _ (F.e rfl)) hS ?_; clear F a; intro a F
      refine any_val F 11 rfl (by kernel_rfl) (F.wants 130 true rfl (by kernel_rfl) rfl true rfl) rfl rfl (.int .i64 ((k - 1 : Nat) : Int)) (fun w' hS' => ex_bin .sub _ _ _ _ rfl .i64 _ _ (F.e rfl) rfl _ (b_sub ((w_i64 (by omega) (by omega)).trans (by omega)))) hS ?_; clear F a; intro a F
      refine any_val F 12 rfl (by kernel_rfl) (F.wants 130 true rfl (by kernel_rfl) rfl true rfl) rfl rfl (.pointer (some (adx.add ((k - 1) * 1)))) (fun w' hS' => ex_ix _ _ _ rfl 1 g6_sl_24_1 adx _ _ (F.e rfl) .i64 _ (F.e rfl) (k - 1) rfl (by omega) (adx.add ((k - 1) * 1)) rfl) hS ?_; clear F a; intro a F
      refine any_val F 13 rfl (by kernel_rfl) (F.wants 130 true rfl (by kernel_rfl) rfl true rfl) rfl rfl (.int .i64 y2) (fun w' hS' => ex_load _ _ rfl _ (F.e rfl) _ (lv1 g6_one_2 ((zy.below (MD.below hS').bel).cell 0 _ rfl))) hS ?_; clear F a; intro a F
      refine any_val F 14 rfl (by kernel_rfl) (F.wants 130 true rfl (by kernel_rfl) rfl true rfl) rfl rfl (.bool true) (fun w' hS' => ex_bin .geq _ _ _ _ rfl .i64 _ _ (F.e rfl) (F.e rfl) _ (b_geq (decide_eq_true hge))) hS ?_; clear F a; intro a F
      refine any_val F 15 rfl (by kernel_rfl) (wn rfl) rfl rfl (.bool true) (fun w' hS' => ex_pick_t _ _ _ rfl (F.e rfl) _ (F.e rfl)) hS ?_; clear F a; intro a F
      refine any_val F 16 rfl (by kernel_rfl) (wn rfl) rfl rfl (.bool true) (fun w' hS' => ex_move _ rfl _ (F.e rfl)) hS ?_; clear F a; intro a F
      refine any_val F 17 rfl (by kernel_rfl) (F.wants 144 true rfl (by kernel_rfl) rfl true rfl) rfl rfl (.pointer (some ⟨g1, 2, none⟩)) (fun w' hS' => ex_fa _ _ _ rfl _ (F.e rfl) 2 g6_fa_27_2_2 ⟨g1, 2, none⟩ rfl) hS ?_; clear F a; intro a F
      refine any_val F 18 rfl (by kernel_rfl) (F.wants 144 true rfl (by kernel_rfl) rfl true rfl) rfl rfl (.slice (some adx) ns.length c3) (fun w' hS' => ex_load _ _ rfl _ (F.e rfl) _ (lv1 g6_one_24 ((MD.below hS').cell (i := 0) rfl (j := 2) rfl))) hS ?_; clear F a; intro a F
      refine any_val F 19 rfl (by kernel_rfl) (F.wants 144 true rfl (by kernel_rfl) rfl true rfl) rfl rfl (.int .i64 ((k : Nat) : Int)) (fun w' hS' => ex_move _ rfl _ (F.e rfl)) hS ?_; clear F a; intro a F
      refine any_val F 20 rfl (by kernel_rfl) (F.wants 144 true rfl (by kernel_rfl) rfl true rfl) rfl rfl (.int .i64 ((k - 1 : Nat) : Int)) (fun w' hS' => ex_bin .sub _ _ _ _ rfl .i64 _ _ (F.e rfl) rfl _ (b_sub ((w_i64 (by omega) (by omega)).trans (by omega)))) hS ?_; clear F a; intro a F
      refine any_val F 21 rfl (by kernel_rfl) (F.wants 144 true rfl (by kernel_rfl) rfl true rfl) rfl rfl (.pointer (some (adx.add ((k - 1) * 1)))) (fun w' hS' => ex_ix _ _ _ rfl 1 g6_sl_24_1 adx _ _ (F.e rfl) .i64 _ (F.e rfl) (k - 1) rfl (by omega) (adx.add ((k - 1) * 1)) rfl) hS ?_; clear F a; intro a F
      refine any_val F 22 rfl (by kernel_rfl) (F.wants 144 true rfl (by kernel_rfl) rfl true rfl) rfl rfl (.int .i64 y2) (fun w' hS' => ex_load _ _ rfl _ (F.e rfl) _ (lv1 g6_one_2 ((zy.below (MD.below hS').bel).cell 0 _ rfl))) hS ?_; clear F a; intro a F
      refine any_val F 23 rfl (by kernel_rfl) (F.wants 144 true rfl (by kernel_rfl) rfl true rfl) rfl rfl (.bool true) (fun w' hS' => ex_bin .geq _ _ _ _ rfl .i64 _ _ (F.e rfl) rfl _ (b_geq (decide_eq_true hp0))) hS ?_; clear F a; intro a F
      refine any_val F 24 rfl (by kernel_rfl) (wn rfl) rfl rfl (.bool true) (fun w' hS' => ex_pick_t _ _ _ rfl (F.e rfl) _ (F.e rfl)) hS ?_; clear F a; intro a F
      refine any_val F 25 rfl (by kernel_rfl) (wn rfl) rfl rfl (.bool true) (fun w' hS' => ex_move _ rfl _ (F.e rfl)) hS ?_; clear F a; intro a F
      refine any_val F 26 rfl (by kernel_rfl) (F.wants 153 true rfl (by kernel_rfl) rfl true rfl) rfl rfl (.string (ST.str (Lib.itoa x))) (fun w' hS' => ex_move _ rfl _ (F.e rfl)) hS ?_; clear F a; intro a F
      refine any_val F 27 rfl (by kernel_rfl) (F.wants 153 true rfl (by kernel_rfl) rfl true rfl) rfl rfl (.int .i64 (((Lib.itoa x).length : Nat) : Int)) (fun w' hS' => ST.ex_lens _ 9 rfl un9 (Lib.itoa x) (F.e rfl)) hS ?_; clear F a; intro a F
      refine any_val F 28 rfl (by kernel_rfl) (F.wants 153 true rfl (by kernel_rfl) rfl true rfl) rfl rfl (.pointer (some ⟨g1, 2, none⟩)) (fun w' hS' => ex_fa _ _ _ rfl _ (F.e rfl) 2 g6_fa_27_2_2 ⟨g1, 2, none⟩ rfl) hS ?_; clear F a; intro a F
      refine any_val F 29 rfl (by kernel_rfl) (F.wants 153 true rfl (by kernel_rfl) rfl true rfl) rfl rfl (.slice (some adx) ns.length c3) (fun w' hS' => ex_load _ _ rfl _ (F.e rfl) _ (lv1 g6_one_24 ((MD.below hS').cell (i := 0) rfl (j := 2) rfl))) hS ?_; clear F a; intro a F
      refine any_val F 30 rfl (by kernel_rfl) (F.wants 153 true rfl (by kernel_rfl) rfl true rfl) rfl rfl (.int .i64 ((k : Nat) : Int)) (fun w' hS' => ex_move _ rfl _ (F.e rfl)) hS ?_; clear F a; intro a F
      refine any_val F 31 rfl (by kernel_rfl) (F.wants 153 true rfl (by kernel_rfl) rfl true rfl) rfl rfl (.int .i64 ((k - 1 : Nat) : Int)) (fun w' hS' => ex_bin .sub _ _ _ _ rfl .i64 _ _ (F.e rfl) rfl _ (b_sub ((w_i64 (by omega) (by omega)).trans (by omega)))) hS ?_; clear F a; intro a F
      refine any_val F 32 rfl (by kernel_rfl) (F.wants 153 true rfl (by kernel_rfl) rfl true rfl) rfl rfl (.pointer (some (adx.add ((k - 1) * 1)))) (fun w' hS' => ex_ix _ _ _ rfl 1 g6_sl_24_1 adx _ _ (F.e rfl) .i64 _ (F.e rfl) (k - 1) rfl (by omega) (adx.add ((k - 1) * 1)) rfl) hS ?_; clear F a; intro a F
      refine any_val F 33 rfl (by kernel_rfl) (F.wants 153 true rfl (by kernel_rfl) rfl true rfl) rfl rfl (.int .i64 y2) (fun w' hS' => ex_load _ _ rfl _ (F.e rfl) _ (lv1 g6_one_2 ((zy.below (MD.below hS').bel).cell 0 _ rfl))) hS ?_; clear F a; intro a F
      refine any_ready [34] (by kernel_rfl) (by simp) ?_
      refine ready_do rfl (F.wants 153 true rfl (by kernel_rfl) rfl true rfl) (fun K hK => ?_) AllReadyH.nil
      refine ow_call rfl rfl F 18 #[.int .i64 y2] (ex_call 18 _ _ rfl rfl g6_ent_18 _ (map1 (F.e rfl))) (text10_any y2 hyb.1 hyb.2 _ (hE.below M.bel)) (fun e v hR => ?_)
      obtain ⟨he, hb⟩ := hR
      refine ⟨.string (ST.str (Lib.itoa y2)), he, ?_⟩; clear he F a; intro a F
      refine hK _ _ (S_below hS hb) ?_
      replace hS := S_below hS hb
      clear hK K
      replace M := M.below hb; clear hb; try clear wD
      refine any_val F 35 rfl (by kernel_rfl) (F.wants 153 true rfl (by kernel_rfl) rfl true rfl) rfl rfl (.int .i64 (((Lib.itoa y2).length : Nat) : Int)) (fun w' hS' => ST.ex_lens _ 9 rfl un9 (Lib.itoa y2) (F.e rfl)) hS ?_; clear F a; intro a F
      refine any_val F 36 rfl (by kernel_rfl) (F.wants 153 true rfl (by kernel_rfl) rfl true rfl) rfl rfl (.bool false) (fun w' hS' => ex_bin .lss _ _ _ _ rfl .i64 _ _ (F.e rfl) (F.e rfl) _ (b_lss (decide_eq_false (by have := itoa_mono hp0 hge; omega)))) hS ?_; clear F a; intro a F
      refine any_val F 37 rfl (by kernel_rfl) (wn rfl) rfl rfl (.bool false) (fun w' hS' => ex_pick_t _ _ _ rfl (F.e rfl) _ (F.e rfl)) hS ?_; clear F a; intro a F
      refine any_done (by kernel_rfl) ?_
      exact ⟨F.keep ⟨rfl, rfl, rfl, rfl, rfl, rfl, rfl, rfl, rfl, rfl, trivial⟩, (by refine M.pick' [0] _ ?_ (by decide); exact ⟨rfl, trivial⟩)⟩
     clear F M a
     intro a v hR; obtain ⟨F, M⟩ := hR; try clear u
     refine then_n ?_
     refine wp_cond_false (F.e rfl) ?_
     refine wp_skip ?_
     refine in_n ?_
     refine then_n ?_
     refine wp_region_lit ?_
     refine list_val F (wn rfl) rfl rfl (.int .i64 ((k : Nat) : Int)) (ex_move _ rfl _ (F.e rfl)) ?_; clear F a; intro a F
     refine list_val F (wn rfl) rfl rfl (.int .i64 ((k + 1 : Nat) : Int)) (ex_bin .add _ _ _ _ rfl .i64 _ _ (F.e rfl) rfl _ (b_add ((w_i64 (by omega) (by omega)).trans (by omega)))) ?_; clear F a; intro a F
     refine list_val F (wn rfl) rfl rfl (.int .i64 ((k + 1 : Nat) : Int)) (ex_assign _ rfl _ (F.e rfl)) ?_; clear F a; intro a F
     refine wpList_nil ?_
     replace F : Fr 245 a [(0, .agg #[.slice A bs.length c, .slice A2 n2 c2, .slice (some adx) ns.length c3, .slice D ws.length d]), (1, .pointer (some ⟨g1, 0, none⟩)), (2, .bool false), (9, .int .i64 ((k + 1 : Nat) : Int)), (10, .string (ST.str (Lib.itoa x))), (11, .int .i64 x), (12, .int .i64 0), (90, .bool true), (127, .bool false), (165, .bool false)] := F.keep ⟨rfl, rfl, rfl, rfl, rfl, rfl, rfl, rfl, rfl, rfl, trivial⟩
     refine then_n ?_
     exact ⟨ns.length - (k + 1), by omega, (k + 1), F.keep ⟨rfl, rfl, rfl, rfl, trivial⟩, (by refine M.pick' [0] _ ?_ (by decide); exact ⟨rfl, trivial⟩), (by omega), (by omega)⟩
    refine wp_only (fun ar wr => Fr 245 ar [(0, .agg #[.slice A bs.length c, .slice A2 n2 c2, .slice (some adx) ns.length c3, .slice D ws.length d]), (1, .pointer (some ⟨g1, 0, none⟩)), (2, .bool false), (9, .int .i64 ((k : Nat) : Int)), (10, .string (ST.str (Lib.itoa x))), (11, .int .i64 x), (12, .int .i64 0), (90, .bool true), (127, .bool false), (165, .bool false)] ∧ Mm w wr [⟨g1, #[.slice A bs.length c, .slice A2 n2 c2, .slice (some adx) ns.length c3, .slice D ws.length d], 27⟩]) ?_ ?_
    ·
     refine region_any g6_follows_mixedOrders M ?_; clear M; intro wD M hb
     clear hb; try clear u
     have hS : Below wD.heap.size wD wD := Below.refl _ _; have MD := M
     refine any_val F 0 rfl (by kernel_rfl) (wn rfl) rfl rfl (.int .i64 ((k : Nat) : Int)) (fun w' hS' => ex_move _ rfl _ (F.e rfl)) hS ?_; clear F a; intro a F
     refine any_val F 1 rfl (by kernel_rfl) (wn rfl) rfl rfl (.bool true) (fun w' hS' => ex_bin .gtr _ _ _ _ rfl .i64 _ _ (F.e rfl) rfl _ (b_gtr (decide_eq_true (by omega)))) hS ?_; clear F a; intro a F
     refine any_val F 2 rfl (by kernel_rfl) (wn rfl) rfl rfl (.bool true) (fun w' hS' => ex_move _ rfl _ (F.e rfl)) hS ?_; clear F a; intro a F
     refine any_val F 3 rfl (by kernel_rfl) (F.wants 130 true rfl (by kernel_rfl) rfl true rfl) rfl rfl (.pointer (some ⟨g1, 2, none⟩)) (fun w' hS' => ex_fa _ _ _ rfl _ (F.e rfl) 2 g6_fa_27_2_2 ⟨g1, 2, none⟩ rfl) hS ?_; clear F a; intro a F
     refine any_val F 4 rfl (by kernel_rfl) (F.wants 130 true rfl (by kernel_rfl) rfl true rfl) rfl rfl (.slice (some adx) ns.length c3) (fun w' hS' => ex_load _ _ rfl _ (F.e rfl) _ (lv1 g6_one_24 ((MD.below hS').cell (i := 0) rfl (j := 2) rfl))) hS ?_; clear F a; intro a F
     refine any_val F 5 rfl (by kernel_rfl) (F.wants 130 true rfl (by kernel_rfl) rfl true rfl) rfl rfl (.int .i64 ((k : Nat) : Int)) (fun w' hS' => ex_move _ rfl _ (F.e rfl)) hS ?_; clear F a; intro a F
     refine any_val F 6 rfl (by kernel_rfl) (F.wants 130 true rfl (by kernel_rfl) rfl true rfl) rfl rfl (.pointer (some (adx.add (k * 1)))) (fun w' hS' => ex_ix _ _ _ rfl 1 g6_sl_24_1 adx _ _ (F.e rfl) .i64 _ (F.e rfl) k rfl (by omega) (adx.add (k * 1)) rfl) hS ?_; clear F a; intro a F
     refine any_val F 7 rfl (by kernel_rfl) (F.wants 130 true rfl (by kernel_rfl) rfl true rfl) rfl rfl (.int .i64 x) (fun w' hS' => ex_load _ _ rfl _ (F.e rfl) _ (lv1 g6_one_2 ((zx.below (MD.below hS').bel).cell 0 _ rfl))) hS ?_; clear F a; intro a F
     refine any_val F 8 rfl (by kernel_rfl) (F.wants 130 true rfl (by kernel_rfl) rfl true rfl) rfl rfl (.pointer (some ⟨g1, 2, none⟩)) (fun w' hS' => ex_fa _ _ _ rfl _ (F.e rfl) 2 g6_fa_27_2_2 ⟨g1, 2, none⟩ rfl) hS ?_; clear F a; intro a F
     refine any_val F 9 rfl (by kernel_rfl) (F.wants 130 true rfl (by kernel_rfl) rfl true rfl) rfl rfl (.slice (some adx) ns.length c3) (fun w' hS' => ex_load _ _ rfl _ (F.e rfl) _ (lv1 g6_one_24 ((MD.below hS').cell (i := 0) rfl (j := 2) rfl))) hS ?_; clear F a; intro a F
     refine any_val F 10 rfl (by kernel_rfl) (F.wants 130 true rfl (by kernel_rfl) rfl true rfl) rfl rfl (.int .i64 ((k : Nat) : Int)) (fun w' hS' => ex_move _ rfl _ (F.e rfl)) hS ?_; clear F a; intro a F
     refine any_val F 11 rfl (by kernel_rfl) (F.wants 130 true rfl (by kernel_rfl) rfl true rfl) rfl rfl (.int .i64 ((k - 1 : Nat) : Int)) (fun w' hS' => ex_bin .sub _ _ _ _ rfl .i64 _ _ (F.e rfl) rfl _ (b_sub ((w_i64 (by omega) (by omega)).trans (by omega)))) hS ?_; clear F a; intro a F
     refine any_val F 12 rfl (by kernel_rfl) (F.wants 130 true rfl (by kernel_rfl) rfl true rfl) rfl rfl (.pointer (some (adx.add ((k - 1) * 1)))) (fun w' hS' => ex_ix _ _ _ rfl 1 g6_sl_24_1 adx _ _ (F.e rfl) .i64 _ (F.e rfl) (k - 1) rfl (by omega) (adx.add ((k - 1) * 1)) rfl) hS ?_; clear F a; intro a F
     refine any_val F 13 rfl (by kernel_rfl) (F.wants 130 true rfl (by kernel_rfl) rfl true rfl) rfl rfl (.int .i64 y2) (fun w' hS' => ex_load _ _ rfl _ (F.e rfl) _ (lv1 g6_one_2 ((zy.below (MD.below hS').bel).cell 0 _ rfl))) hS ?_; clear F a; intro a F
     refine any_val F 14 rfl (by kernel_rfl) (F.wants 130 true rfl (by kernel_rfl) rfl true rfl) rfl rfl (.bool true) (fun w' hS' => ex_bin .geq _ _ _ _ rfl .i64 _ _ (F.e rfl) (F.e rfl) _ (b_geq (decide_eq_true hge))) hS ?_; clear F a; intro a F
     refine any_val F 15 rfl (by kernel_rfl) (wn rfl) rfl rfl (.bool true) (fun w' hS' => ex_pick_t _ _ _ rfl (F.e rfl) _ (F.e rfl)) hS ?_; clear F a; intro a F
     refine any_val F 16 rfl (by kernel_rfl) (wn rfl) rfl rfl (.bool true) (fun w' hS' => ex_move _ rfl _ (F.e rfl)) hS ?_; clear F a; intro a F
     refine any_val F 17 rfl (by kernel_rfl) (F.wants 144 true rfl (by kernel_rfl) rfl true rfl) rfl rfl (.pointer (some ⟨g1, 2, none⟩)) (fun w' hS' => ex_fa _ _ _ rfl _ (F.e rfl) 2 g6_fa_27_2_2 ⟨g1, 2, none⟩ rfl) hS ?_; clear F a; intro a F
     refine any_val F 18 rfl (by kernel_rfl) (F.wants 144 true rfl (by kernel_rfl) rfl true rfl) rfl rfl (.slice (some adx) ns.length c3) (fun w' hS' => ex_load _ _ rfl _ (F.e rfl) _ (lv1 g6_one_24 ((MD.below hS').cell (i := 0) rfl (j := 2) rfl))) hS ?_; clear F a; intro a F
     refine any_val F 19 rfl (by kernel_rfl) (F.wants 144 true rfl (by kernel_rfl) rfl true rfl) rfl rfl (.int .i64 ((k : Nat) : Int)) (fun w' hS' => ex_move _ rfl _ (F.e rfl)) hS ?_; clear F a; intro a F
     refine any_val F 20 rfl (by kernel_rfl) (F.wants 144 true rfl (by kernel_rfl) rfl true rfl) rfl rfl (.int .i64 ((k - 1 : Nat) : Int)) (fun w' hS' => ex_bin .sub _ _ _ _ rfl .i64 _ _ (F.e rfl) rfl _ (b_sub ((w_i64 (by omega) (by omega)).trans (by omega)))) hS ?_; clear F a; intro a F
     refine any_val F 21 rfl (by kernel_rfl) (F.wants 144 true rfl (by kernel_rfl) rfl true rfl) rfl rfl (.pointer (some (adx.add ((k - 1) * 1)))) (fun w' hS' => ex_ix _ _ _ rfl 1 g6_sl_24_1 adx _ _ (F.e rfl) .i64 _ (F.e rfl) (k - 1) rfl (by omega) (adx.add ((k - 1) * 1)) rfl) hS ?_; clear F a; intro a F
     refine any_val F 22 rfl (by kernel_rfl) (F.wants 144 true rfl (by kernel_rfl) rfl true rfl) rfl rfl (.int .i64 y2) (fun w' hS' => ex_load _ _ rfl _ (F.e rfl) _ (lv1 g6_one_2 ((zy.below (MD.below hS').bel).cell 0 _ rfl))) hS ?_; clear F a; intro a F
     refine any_val F 23 rfl (by kernel_rfl) (F.wants 144 true rfl (by kernel_rfl) rfl true rfl) rfl rfl (.bool false) (fun w' hS' => ex_bin .geq _ _ _ _ rfl .i64 _ _ (F.e rfl) rfl _ (b_geq (decide_eq_false hp0))) hS ?_; clear F a; intro a F
     refine any_val F 24 rfl (by kernel_rfl) (wn rfl) rfl rfl (.bool false) (fun w' hS' => ex_pick_t _ _ _ rfl (F.e rfl) _ (F.e rfl)) hS ?_; clear F a; intro a F
     refine any_val F 25 rfl (by kernel_rfl) (wn rfl) rfl rfl (.bool false) (fun w' hS' => ex_move _ rfl _ (F.e rfl)) hS ?_; clear F a; intro a F
     refine any_pass F 26 rfl (by kernel_rfl) (F.wants 153 false rfl (by kernel_rfl) rfl false rfl) rfl rfl hS ?_; clear F a; intro a F
     refine any_pass F 27 rfl (by kernel_rfl) (F.wants 153 false rfl (by kernel_rfl) rfl false rfl) rfl rfl hS ?_; clear F a; intro a F
     refine any_pass F 28 rfl (by kernel_rfl) (F.wants 153 false rfl (by kernel_rfl) rfl false rfl) rfl rfl hS ?_; clear F a; intro a F
     refine any_pass F 29 rfl (by kernel_rfl) (F.wants 153 false rfl (by kernel_rfl) rfl false rfl) rfl rfl hS ?_; clear F a; intro a F
     refine any_pass F 30 rfl (by kernel_rfl) (F.wants 153 false rfl (by kernel_rfl) rfl false rfl) rfl rfl hS ?_; clear F a; intro a F
     refine any_pass F 31 rfl (by kernel_rfl) (F.wants 153 false rfl (by kernel_rfl) rfl false rfl) rfl rfl hS ?_; clear F a; intro a F
     refine any_pass F 32 rfl (by kernel_rfl) (F.wants 153 false rfl (by kernel_rfl) rfl false rfl) rfl rfl hS ?_; clear F a; intro a F
     refine any_pass F 33 rfl (by kernel_rfl) (F.wants 153 false rfl (by kernel_rfl) rfl false rfl) rfl rfl hS ?_; clear F a; intro a F
     refine any_pass F 34 rfl (by kernel_rfl) (F.wants 153 false rfl (by kernel_rfl) rfl false rfl) rfl rfl hS ?_; clear F a; intro a F
     refine any_pass F 35 rfl (by kernel_rfl) (F.wants 153 false rfl (by kernel_rfl) rfl false rfl) rfl rfl hS ?_; clear F a; intro a F
     refine any_pass F 36 rfl (by kernel_rfl) (F.wants 153 false rfl (by kernel_rfl) rfl false rfl) rfl rfl hS ?_; clear F a; intro a F
     refine any_val F 37 rfl (by kernel_rfl) (wn rfl) rfl rfl (.bool false) (fun w' hS' => ex_pick_f _ _ _ rfl (F.e rfl) _ rfl) hS ?_; clear F a; intro a F
     refine any_done (by kernel_rfl) ?_
     exact ⟨F.keep ⟨rfl, rfl, rfl, rfl, rfl, rfl, rfl, rfl, rfl, rfl, trivial⟩, (by refine M.pick' [0] _ ?_ (by decide); exact ⟨rfl, trivial⟩)⟩
    clear F M a
    intro a v hR; obtain ⟨F, M⟩ := hR; try clear u
    refine then_n ?_
    refine wp_cond_false (F.e rfl) ?_
    refine wp_skip ?_
    refine in_n ?_
    refine then_n ?_
    refine wp_region_lit ?_
    refine list_val F (wn rfl) rfl rfl (.int .i64 ((k : Nat) : Int)) (ex_move _ rfl _ (F.e rfl)) ?_; clear F a; intro a F
    refine list_val F (wn rfl) rfl rfl (.int .i64 ((k + 1 : Nat) : Int)) (ex_bin .add _ _ _ _ rfl .i64 _ _ (F.e rfl) rfl _ (b_add ((w_i64 (by omega) (by omega)).trans (by omega)))) ?_; clear F a; intro a F
    refine list_val F (wn rfl) rfl rfl (.int .i64 ((k + 1 : Nat) : Int)) (ex_assign _ rfl _ (F.e rfl)) ?_; clear F a; intro a F
    refine wpList_nil ?_
    replace F : Fr 245 a [(0, .agg #[.slice A bs.length c, .slice A2 n2 c2, .slice (some adx) ns.length c3, .slice D ws.length d]), (1, .pointer (some ⟨g1, 0, none⟩)), (2, .bool false), (9, .int .i64 ((k + 1 : Nat) : Int)), (10, .string (ST.str (Lib.itoa x))), (11, .int .i64 x), (12, .int .i64 0), (90, .bool true), (127, .bool false), (165, .bool false)] := F.keep ⟨rfl, rfl, rfl, rfl, rfl, rfl, rfl, rfl, rfl, rfl, trivial⟩
    refine then_n ?_
    exact ⟨ns.length - (k + 1), by omega, (k + 1), F.keep ⟨rfl, rfl, rfl, rfl, trivial⟩, (by refine M.pick' [0] _ ?_ (by decide); exact ⟨rfl, trivial⟩), (by omega), (by omega)⟩
   refine wp_only (fun ar wr => Fr 245 ar [(0, .agg #[.slice A bs.length c, .slice A2 n2 c2, .slice (some adx) ns.length c3, .slice D ws.length d]), (1, .pointer (some ⟨g1, 0, none⟩)), (2, .bool false), (9, .int .i64 ((k : Nat) : Int)), (10, .string (ST.str (Lib.itoa x))), (11, .int .i64 x), (12, .int .i64 0), (90, .bool true), (127, .bool false), (165, .bool false)] ∧ Mm w wr [⟨g1, #[.slice A bs.length c, .slice A2 n2 c2, .slice (some adx) ns.length c3, .slice D ws.length d], 27⟩]) ?_ ?_
   ·
    refine region_any g6_follows_mixedOrders M ?_; clear M; intro wD M hb
    clear hb; try clear u
    have hS : Below wD.heap.size wD wD := Below.refl _ _; have MD := M
    refine any_val F 0 rfl (by kernel_rfl) (wn rfl) rfl rfl (.int .i64 ((k : Nat) : Int)) (fun w' hS' => ex_move _ rfl _ (F.e rfl)) hS ?_; clear F a; intro a F
    refine any_val F 1 rfl (by kernel_rfl) (wn rfl) rfl rfl (.bool true) (fun w' hS' => ex_bin .gtr _ _ _ _ rfl .i64 _ _ (F.e rfl) rfl _ (b_gtr (decide_eq_true (by omega)))) hS ?_; clear F a; intro a F
    refine any_val F 2 rfl (by kernel_rfl) (wn rfl) rfl rfl (.bool true) (fun w' hS' => ex_move _ rfl _ (F.e rfl)) hS ?_; clear F a; intro a F
    refine any_val F 3 rfl (by kernel_rfl) (F.wants 130 true rfl (by kernel_rfl) rfl true rfl) rfl rfl (.pointer (some ⟨g1, 2, none⟩)) (fun w' hS' => ex_fa _ _ _ rfl _ (F.e rfl) 2 g6_fa_27_2_2 ⟨g1, 2, none⟩ rfl) hS ?_; clear F a; intro a F
    refine any_val F 4 rfl (by kernel_rfl) (F.wants 130 true rfl (by kernel_rfl) rfl true rfl) rfl rfl (.slice (some adx) ns.length c3) (fun w' hS' => ex_load _ _ rfl _ (F.e rfl) _ (lv1 g6_one_24 ((MD.below hS').cell (i := 0) rfl (j := 2) rfl))) hS ?_; clear F a; intro a F
    refine any_val F 5 rfl (by kernel_rfl) (F.wants 130 true rfl (by kernel_rfl) rfl true rfl) rfl rfl (.int .i64 ((k : Nat) : Int)) (fun w' hS' => ex_move _ rfl _ (F.e rfl)) hS ?_; clear F a; intro a F
    refine any_val F 6 rfl (by kernel_rfl) (F.wants 130 true rfl (by kernel_rfl) rfl true rfl) rfl rfl (.pointer (some (adx.add (k * 1)))) (fun w' hS' => ex_ix _ _ _ rfl 1 g6_sl_24_1 adx _ _ (F.e rfl) .i64 _ (F.e rfl) k rfl (by omega) (adx.add (k * 1)) rfl) hS ?_; clear F a; intro a F
    refine any_val F 7 rfl (by kernel_rfl) (F.wants 130 true rfl (by kernel_rfl) rfl true rfl) rfl rfl (.int .i64 x) (fun w' hS' => ex_load _ _ rfl _ (F.e rfl) _ (lv1 g6_one_2 ((zx.below (MD.below hS').bel).cell 0 _ rfl))) hS ?_; clear F a; intro a F
    refine any_val F 8 rfl (by kernel_rfl) (F.wants 130 true rfl (by kernel_rfl) rfl true rfl) rfl rfl (.pointer (some ⟨g1, 2, none⟩)) (fun w' hS' => ex_fa _ _ _ rfl _ (F.e rfl) 2 g6_fa_27_2_2 ⟨g1, 2, none⟩ rfl) hS ?_; clear F a; intro a F
    refine any_val F 9 rfl (by kernel_rfl) (F.wants 130 true rfl (by kernel_rfl) rfl true rfl) rfl rfl (.slice (some adx) ns.length c3) (fun w' hS' => ex_load _ _ rfl _ (F.e rfl) _ (lv1 g6_one_24 ((MD.below hS').cell (i := 0) rfl (j := 2) rfl))) hS ?_; clear F a; intro a F
    refine any_val F 10 rfl (by kernel_rfl) (F.wants 130 true rfl (by kernel_rfl) rfl true rfl) rfl rfl (.int .i64 ((k : Nat) : Int)) (fun w' hS' => ex_move _ rfl _ (F.e rfl)) hS ?_; clear F a; intro a F
    refine any_val F 11 rfl (by kernel_rfl) (F.wants 130 true rfl (by kernel_rfl) rfl true rfl) rfl rfl (.int .i64 ((k - 1 : Nat) : Int)) (fun w' hS' => ex_bin .sub _ _ _ _ rfl .i64 _ _ (F.e rfl) rfl _ (b_sub ((w_i64 (by omega) (by omega)).trans (by omega)))) hS ?_; clear F a; intro a F
    refine any_val F 12 rfl (by kernel_rfl) (F.wants 130 true rfl (by kernel_rfl) rfl true rfl) rfl rfl (.pointer (some (adx.add ((k - 1) * 1)))) (fun w' hS' => ex_ix _ _ _ rfl 1 g6_sl_24_1 adx _ _ (F.e rfl) .i64 _ (F.e rfl) (k - 1) rfl (by omega) (adx.add ((k - 1) * 1)) rfl) hS ?_; clear F a; intro a F
    refine any_val F 13 rfl (by kernel_rfl) (F.wants 130 true rfl (by kernel_rfl) rfl true rfl) rfl rfl (.int .i64 y2) (fun w' hS' => ex_load _ _ rfl _ (F.e rfl) _ (lv1 g6_one_2 ((zy.below (MD.below hS').bel).cell 0 _ rfl))) hS ?_; clear F a; intro a F
    refine any_val F 14 rfl (by kernel_rfl) (F.wants 130 true rfl (by kernel_rfl) rfl true rfl) rfl rfl (.bool false) (fun w' hS' => ex_bin .geq _ _ _ _ rfl .i64 _ _ (F.e rfl) (F.e rfl) _ (b_geq (decide_eq_false hge))) hS ?_; clear F a; intro a F
    refine any_val F 15 rfl (by kernel_rfl) (wn rfl) rfl rfl (.bool false) (fun w' hS' => ex_pick_t _ _ _ rfl (F.e rfl) _ (F.e rfl)) hS ?_; clear F a; intro a F
    refine any_val F 16 rfl (by kernel_rfl) (wn rfl) rfl rfl (.bool false) (fun w' hS' => ex_move _ rfl _ (F.e rfl)) hS ?_; clear F a; intro a F
    refine any_pass F 17 rfl (by kernel_rfl) (F.wants 144 false rfl (by kernel_rfl) rfl false rfl) rfl rfl hS ?_; clear F a; intro a F
    refine any_pass F 18 rfl (by kernel_rfl) (F.wants 144 false rfl (by kernel_rfl) rfl false rfl) rfl rfl hS ?_; clear F a; intro a F
    refine any_pass F 19 rfl (by kernel_rfl) (F.wants 144 false rfl (by kernel_rfl) rfl false rfl) rfl rfl hS ?_; clear F a; intro a F
    refine any_pass F 20 rfl (by kernel_rfl) (F.wants 144 false rfl (by kernel_rfl) rfl false rfl) rfl rfl hS ?_; clear F a; intro a F
    refine any_pass F 21 rfl (by kernel_rfl) (F.wants 144 false rfl (by kernel_rfl) rfl false rfl) rfl rfl hS ?_; clear F a; intro a F
    refine any_pass F 22 rfl (by kernel_rfl) (F.wants 144 false rfl (by kernel_rfl) rfl false rfl) rfl rfl hS ?_; clear F a; intro a F
    refine any_pass F 23 rfl (by kernel_rfl) (F.wants 144 false rfl (by kernel_rfl) rfl false rfl) rfl rfl hS ?_; clear F a; intro a F
    refine any_val F 24 rfl (by kernel_rfl) (wn rfl) rfl rfl (.bool false) (fun w' hS' => ex_pick_f _ _ _ rfl (F.e rfl) _ rfl) hS ?_; clear F a; intro a F
    refine any_val F 25 rfl (by kernel_rfl) (wn rfl) rfl rfl (.bool false) (fun w' hS' => ex_move _ rfl _ (F.e rfl)) hS ?_; clear F a; intro a F
    refine any_pass F 26 rfl (by kernel_rfl) (F.wants 153 false rfl (by kernel_rfl) rfl false rfl) rfl rfl hS ?_; clear F a; intro a F
    refine any_pass F 27 rfl (by kernel_rfl) (F.wants 153 false rfl (by kernel_rfl) rfl false rfl) rfl rfl hS ?_; clear F a; intro a F
    refine any_pass F 28 rfl (by kernel_rfl) (F.wants 153 false rfl (by kernel_rfl) rfl false rfl) rfl rfl hS ?_; clear F a; intro a F
    refine any_pass F 29 rfl (by kernel_rfl) (F.wants 153 false rfl (by kernel_rfl) rfl false rfl) rfl rfl hS ?_; clear F a; intro a F
    refine any_pass F 30 rfl (by kernel_rfl) (F.wants 153 false rfl (by kernel_rfl) rfl false rfl) rfl rfl hS ?_; clear F a; intro a F
    refine any_pass F 31 rfl (by kernel_rfl) (F.wants 153 false rfl (by kernel_rfl) rfl false rfl) rfl rfl hS ?_; clear F a; intro a F
    refine any_pass F 32 rfl (by kernel_rfl) (F.wants 153 false rfl (by kernel_rfl) rfl false rfl) rfl rfl hS ?_; clear F a; intro a F
    refine any_pass F 33 rfl (by kernel_rfl) (F.wants 153 false rfl (by kernel_rfl) rfl false rfl) rfl rfl hS ?_; clear F a; intro a F
    refine any_pass F 34 rfl (by kernel_rfl) (F.wants 153 false rfl (by kernel_rfl) rfl false rfl) rfl rfl hS ?_; clear F a; intro a F
    refine any_pass F 35 rfl (by kernel_rfl) (F.wants 153 false rfl (by kernel_rfl) rfl false rfl) rfl rfl hS ?_; clear F a; intro a F
    refine any_pass F 36 rfl (by kernel_rfl) (F.wants 153 false rfl (by kernel_rfl) rfl false rfl) rfl rfl hS ?_; clear F a; intro a F
    refine any_val F 37 rfl (by kernel_rfl) (wn rfl) rfl rfl (.bool false) (fun w' hS' => ex_pick_f _ _ _ rfl (F.e rfl) _ rfl) hS ?_; clear F a; intro a F
    refine any_done (by kernel_rfl) ?_
    exact ⟨F.keep ⟨rfl, rfl, rfl, rfl, rfl, rfl, rfl, rfl, rfl, rfl, trivial⟩, (by refine M.pick' [0] _ ?_ (by decide); exact ⟨rfl, trivial⟩)⟩
   clear F M a
   intro a v hR; obtain ⟨F, M⟩ := hR; try clear u
   refine then_n ?_
   refine wp_cond_false (F.e rfl) ?_
   refine wp_skip ?_
   refine in_n ?_
   refine then_n ?_
   refine wp_region_lit ?_
   refine list_val F (wn rfl) rfl rfl (.int .i64 ((k : Nat) : Int)) (ex_move _ rfl _ (F.e rfl)) ?_; clear F a; intro a F
   refine list_val F (wn rfl) rfl rfl (.int .i64 ((k + 1 : Nat) : Int)) (ex_bin .add _ _ _ _ rfl .i64 _ _ (F.e rfl) rfl _ (b_add ((w_i64 (by omega) (by omega)).trans (by omega)))) ?_; clear F a; intro a F
   refine list_val F (wn rfl) rfl rfl (.int .i64 ((k + 1 : Nat) : Int)) (ex_assign _ rfl _ (F.e rfl)) ?_; clear F a; intro a F
   refine wpList_nil ?_
   replace F : Fr 245 a [(0, .agg #[.slice A bs.length c, .slice A2 n2 c2, .slice (some adx) ns.length c3, .slice D ws.length d]), (1, .pointer (some ⟨g1, 0, none⟩)), (2, .bool false), (9, .int .i64 ((k + 1 : Nat) : Int)), (10, .string (ST.str (Lib.itoa x))), (11, .int .i64 x), (12, .int .i64 0), (90, .bool true), (127, .bool false), (165, .bool false)] := F.keep ⟨rfl, rfl, rfl, rfl, rfl, rfl, rfl, rfl, rfl, rfl, trivial⟩
   refine then_n ?_
   exact ⟨ns.length - (k + 1), by omega, (k + 1), F.keep ⟨rfl, rfl, rfl, rfl, trivial⟩, (by refine M.pick' [0] _ ?_ (by decide); exact ⟨rfl, trivial⟩), (by omega), (by omega)⟩
  refine wp_only (fun ar wr => Fr 245 ar [(0, .agg #[.slice A bs.length c, .slice A2 n2 c2, .slice (some adx) ns.length c3, .slice D ws.length d]), (1, .pointer (some ⟨g1, 0, none⟩)), (2, .bool false), (9, .int .i64 ((k : Nat) : Int)), (10, .string (ST.str (Lib.itoa x))), (11, .int .i64 x), (12, .int .i64 0), (90, .bool true), (127, .bool false), (165, .bool false)] ∧ Mm w wr [⟨g1, #[.slice A bs.length c, .slice A2 n2 c2, .slice (some adx) ns.length c3, .slice D ws.length d], 27⟩]) ?_ ?_
  ·
   refine region_any g6_follows_mixedOrders M ?_; clear M; intro wD M hb
   clear hb; try clear u
   have hS : Below wD.heap.size wD wD := Below.refl _ _; have MD := M
   refine any_val F 0 rfl (by kernel_rfl) (wn rfl) rfl rfl (.int .i64 ((k : Nat) : Int)) (fun w' hS' => ex_move _ rfl _ (F.e rfl)) hS ?_; clear F a; intro a F
   refine any_val F 1 rfl (by kernel_rfl) (wn rfl) rfl rfl (.bool false) (fun w' hS' => ex_bin .gtr _ _ _ _ rfl .i64 _ _ (F.e rfl) rfl _ (b_gtr (decide_eq_false (by omega)))) hS ?_; clear F a; intro a F
   refine any_val F 2 rfl (by kernel_rfl) (wn rfl) rfl rfl (.bool false) (fun w' hS' => ex_move _ rfl _ (F.e rfl)) hS ?_; clear F a; intro a F
   refine any_pass F 3 rfl (by kernel_rfl) (F.wants 130 false rfl (by kernel_rfl) rfl false rfl) rfl rfl hS ?_; clear F a; intro a F
   refine any_pass F 4 rfl (by kernel_rfl) (F.wants 130 false rfl (by kernel_rfl) rfl false rfl) rfl rfl hS ?_; clear F a; intro a F
   refine any_pass F 5 rfl (by kernel_rfl) (F.wants 130 false rfl (by kernel_rfl) rfl false rfl) rfl rfl hS ?_; clear F a; intro a F
   refine any_pass F 6 rfl (by kernel_rfl) (F.wants 130 false rfl (by kernel_rfl) rfl false rfl) rfl rfl hS ?_; clear F a; intro a F
   refine any_pass F 7 rfl (by kernel_rfl) (F.wants 130 false rfl (by kernel_rfl) rfl false rfl) rfl rfl hS ?_; clear F a; intro a F
   refine any_pass F 8 rfl (by kernel_rfl) (F.wants 130 false rfl (by kernel_rfl) rfl false rfl) rfl rfl hS ?_; clear F a; intro a F
   refine any_pass F 9 rfl (by kernel_rfl) (F.wants 130 false rfl (by kernel_rfl) rfl false rfl) rfl rfl hS ?_; clear F a; intro a F
   refine any_pass F 10 rfl (by kernel_rfl) (F.wants 130 false rfl (by kernel_rfl) rfl false rfl) rfl rfl hS ?_; clear F a; intro a F
   refine any_pass F 11 rfl (by kernel_rfl) (F.wants 130 false rfl (by kernel_rfl) rfl false rfl) rfl rfl hS ?_; clear F a; intro a F
   refine any_pass F 12 rfl (by kernel_rfl) (F.wants 130 false rfl (by kernel_rfl) rfl false rfl) rfl rfl hS ?_; clear F a; intro a F
   refine any_pass F 13 rfl (by kernel_rfl) (F.wants 130 false rfl (by kernel_rfl) rfl false rfl) rfl rfl hS ?_; clear F a; intro a F
   refine any_pass F 14 rfl (by kernel_rfl) (F.wants 130 false rfl (by kernel_rfl) rfl false rfl) rfl rfl hS ?_; clear F a; intro a F
   refine any_val F 15 rfl (by kernel_rfl) (wn rfl) rfl rfl (.bool false) (fun w' hS' => ex_pick_f _ _ _ rfl (F.e rfl) _ rfl) hS ?_; clear F a; intro a F
   refine any_val F 16 rfl (by kernel_rfl) (wn rfl) rfl rfl (.bool false) (fun w' hS' => ex_move _ rfl _ (F.e rfl)) hS ?_; clear F a; intro a F
   refine any_pass F 17 rfl (by kernel_rfl) (F.wants 144 false rfl (by kernel_rfl) rfl false rfl) rfl rfl hS ?_; clear F a; intro a F
   refine any_pass F 18 rfl (by kernel_rfl) (F.wants 144 false rfl (by kernel_rfl) rfl false rfl) rfl rfl hS ?_; clear F a; intro a F
   refine any_pass F 19 rfl (by kernel_rfl) (F.wants 144 false rfl (by kernel_rfl) rfl false rfl) rfl rfl hS ?_; clear F a; intro a F
   refine any_pass F 20 rfl (by kernel_rfl) (F.wants 144 false rfl (by kernel_rfl) rfl false rfl) rfl rfl hS ?_; clear F a; intro a F
   refine any_pass F 21 rfl (by kernel_rfl) (F.wants 144 false rfl (by kernel_rfl) rfl false rfl) rfl rfl hS ?_; clear F a; intro a F
   refine any_pass F 22 rfl (by kernel_rfl) (F.wants 144 false rfl (by kernel_rfl) rfl false rfl) rfl rfl hS ?_; clear F a; intro a F
   refine any_pass F 23 rfl (by kernel_rfl) (F.wants 144 false rfl (by kernel_rfl) rfl false rfl) rfl rfl hS ?_; clear F a; intro a F
   refine any_val F 24 rfl (by kernel_rfl) (wn rfl) rfl rfl (.bool false) (fun w' hS' => ex_pick_f _ _ _ rfl (F.e rfl) _ rfl) hS ?_; clear F a; intro a F
   refine any_val F 25 rfl (by kernel_rfl) (wn rfl) rfl rfl (.bool false) (fun w' hS' => ex_move _ rfl _ (F.e rfl)) hS ?_; clear F a; intro a F
   refine any_pass F 26 rfl (by kernel_rfl) (F.wants 153 false rfl (by kernel_rfl) rfl false rfl) rfl rfl hS ?_; clear F a; intro a F
   refine any_pass F 27 rfl (by kernel_rfl) (F.wants 153 false rfl (by kernel_rfl) rfl false rfl) rfl rfl hS ?_; clear F a; intro a F
   refine any_pass F 28 rfl (by kernel_rfl) (F.wants 153 false rfl (by kernel_rfl) rfl false rfl) rfl rfl hS ?_; clear F a; intro a F
   refine any_pass F 29 rfl (by kernel_rfl) (F.wants 153 false rfl (by kernel_rfl) rfl false rfl) rfl rfl hS ?_; clear F a; intro a F
   refine any_pass F 30 rfl (by kernel_rfl) (F.wants 153 false rfl (by kernel_rfl) rfl false rfl) rfl rfl hS ?_; clear F a; intro a F
   refine any_pass F 31 rfl (by kernel_rfl) (F.wants 153 false rfl (by kernel_rfl) rfl false rfl) rfl rfl hS ?_; clear F a; intro a F
   refine any_pass F 32 rfl (by kernel_rfl) (F.wants 153 false rfl (by kernel_rfl) rfl false rfl) rfl rfl hS ?_; clear F a; intro a F
   refine any_pass F 33 rfl (by kernel_rfl) (F.wants 153 false rfl (by kernel_rfl) rfl false rfl) rfl rfl hS ?_; clear F a; intro a F
   refine any_pass F 34 rfl (by kernel_rfl) (F.wants 153 false rfl (by kernel_rfl) rfl false rfl) rfl rfl hS ?_; clear F a; intro a F
   refine any_pass F 35 rfl (by kernel_rfl) (F.wants 153 false rfl (by kernel_rfl) rfl false rfl) rfl rfl hS ?_; clear F a; intro a F
   refine any_pass F 36 rfl (by kernel_rfl) (F.wants 153 false rfl (by kernel_rfl) rfl false rfl) rfl rfl hS ?_; clear F a; intro a F
   refine any_val F 37 rfl (by kernel_rfl) (wn rfl) rfl rfl (.bool false) (fun w' hS' => ex_pick_f _ _ _ rfl (F.e rfl) _ rfl) hS ?_; clear F a; intro a F
   refine any_done (by kernel_rfl) ?_
   exact ⟨F.keep ⟨rfl, rfl, rfl, rfl, rfl, rfl, rfl, rfl, rfl, rfl, trivial⟩, (by refine M.pick' [0] _ ?_ (by decide); exact ⟨rfl, trivial⟩)⟩
  clear F M a
  intro a v hR; obtain ⟨F, M⟩ := hR; try clear u
  refine then_n ?_
  refine wp_cond_false (F.e rfl) ?_
  refine wp_skip ?_
  refine in_n ?_
  refine then_n ?_
  refine wp_region_lit ?_
  refine list_val F (wn rfl) rfl rfl (.int .i64 ((k : Nat) : Int)) (ex_move _ rfl _ (F.e rfl)) ?_; clear F a; intro a F
  refine list_val F (wn rfl) rfl rfl (.int .i64 ((k + 1 : Nat) : Int)) (ex_bin .add _ _ _ _ rfl .i64 _ _ (F.e rfl) rfl _ (b_add ((w_i64 (by omega) (by omega)).trans (by omega)))) ?_; clear F a; intro a F
  refine list_val F (wn rfl) rfl rfl (.int .i64 ((k + 1 : Nat) : Int)) (ex_assign _ rfl _ (F.e rfl)) ?_; clear F a; intro a F
  refine wpList_nil ?_
  replace F : Fr 245 a [(0, .agg #[.slice A bs.length c, .slice A2 n2 c2, .slice (some adx) ns.length c3, .slice D ws.length d]), (1, .pointer (some ⟨g1, 0, none⟩)), (2, .bool false), (9, .int .i64 ((k + 1 : Nat) : Int)), (10, .string (ST.str (Lib.itoa x))), (11, .int .i64 x), (12, .int .i64 0), (90, .bool true), (127, .bool false), (165, .bool false)] := F.keep ⟨rfl, rfl, rfl, rfl, rfl, rfl, rfl, rfl, rfl, rfl, trivial⟩
  refine then_n ?_
  exact ⟨ns.length - (k + 1), by omega, (k + 1), F.keep ⟨rfl, rfl, rfl, rfl, trivial⟩, (by refine M.pick' [0] _ ?_ (by decide); exact ⟨rfl, trivial⟩), (by omega), (by omega)⟩
 refine wp_seq ?_
 refine wp_seq ?_
 refine wp_region_lit ?_
 refine list_val F (wn rfl) rfl rfl (.int .i64 ((k : Nat) : Int)) (ex_move _ rfl _ (F.e rfl)) ?_; clear F a; intro a F
 refine list_val F (wn rfl) rfl rfl (.pointer (some ⟨g1, 2, none⟩)) (ex_fa _ _ _ rfl _ (F.e rfl) 2 g6_fa_27_2_2 ⟨g1, 2, none⟩ rfl) ?_; clear F a; intro a F
 refine list_val F (wn rfl) rfl rfl (.slice A3 ns.length c3) (ex_load _ _ rfl _ (F.e rfl) _ (lv1 g6_one_24 (M.cell (i := 0) rfl (j := 2) rfl))) ?_; clear F a; intro a F
 refine list_val F (wn rfl) rfl rfl (.int .i64 ((ns.length : Nat) : Int)) (ex_len _ _ rfl 1 g6_sl_24_1 _ _ _ (F.e rfl)) ?_; clear F a; intro a F
 refine list_val F (wn rfl) rfl rfl (.bool false) (ex_bin .lss _ _ _ _ rfl .i64 _ _ (F.e rfl) (F.e rfl) _ (b_lss (decide_eq_false (by omega)))) ?_; clear F a; intro a F
 refine wpList_nil ?_
 replace F : Fr 245 a [(0, .agg #[.slice A bs.length c, .slice A2 n2 c2, .slice A3 ns.length c3, .slice D ws.length d]), (1, .pointer (some ⟨g1, 0, none⟩)), (2, .bool false), (9, .int .i64 ((k : Nat) : Int)), (90, .bool false)] := F.keep ⟨rfl, rfl, rfl, rfl, rfl, trivial⟩
 refine then_n ?_
 refine wp_cond_false (F.e rfl) ?_
 refine wp_exit ?_
 refine then_x ?_
 refine then_x ?_
 refine in_hit ?_
 refine then_n ?_
 refine wp_seq ?_
 refine wp_seq ?_
 refine wp_region_lit ?_
 refine list_val F (wn rfl) rfl rfl (.int .i64 0) (ex_assign _ rfl _ rfl) ?_; clear F a; intro a F
 refine wpList_nil ?_
 replace F : Fr 245 a [(0, .agg #[.slice A bs.length c, .slice A2 n2 c2, .slice A3 ns.length c3, .slice D ws.length d]), (1, .pointer (some ⟨g1, 0, none⟩)), (2, .bool false), (9, .int .i64 ((k : Nat) : Int)), (13, .int .i64 0), (90, .bool false)] := F.keep ⟨rfl, rfl, rfl, rfl, rfl, rfl, trivial⟩
 refine then_n ?_
 refine wp_block ?_
 refine wp_loopN (fun mq ar wr => ∃ (p : Nat), Fr 245 ar [(0, .agg #[.slice A bs.length c, .slice A2 n2 c2, .slice A3 ns.length c3, .slice D ws.length d]), (1, .pointer (some ⟨g1, 0, none⟩)), (2, .bool false), (9, .int .i64 ((k : Nat) : Int)), (13, .int .i64 ((p : Nat) : Int)), (90, .bool false)] ∧ Mm w wr [⟨g1, #[.slice A bs.length c, .slice A2 n2 c2, .slice A3 ns.length c3, .slice D ws.length d], 27⟩] ∧ p ≤ ws.length ∧ mq + p = ws.length) ws.length ?_ ?_
 ·
  exact ⟨0, F.keep ⟨rfl, rfl, rfl, rfl, rfl, rfl, trivial⟩, M, (Nat.zero_le _), (by omega)⟩
 clear F M a
 rintro mq a u ⟨p, F, M, hp_, hq⟩; try clear v
 by_cases hin : p < ws.length
 ·
  obtain ⟨x, hx⟩ : ∃ x, ws[p]? = some x := ⟨_, List.getElem?_eq_getElem (by omega)⟩
  obtain ⟨adx, hAx, zx⟩ := C_ix (enc := Wd.cs) (m := 2) (hl := Wd.cs_len) (h1 := Wd.cs_one) hrw hx
  subst hAx
  have hx64 := hw64 x (List.mem_of_getElem? hx)
  have hwi := wi_lt x.wd
  refine wp_seq ?_
  refine wp_seq ?_
  refine wp_region_lit ?_
  refine list_val F (wn rfl) rfl rfl (.int .i64 ((p : Nat) : Int)) (ex_move _ rfl _ (F.e rfl)) ?_; clear F a; intro a F
  refine list_val F (wn rfl) rfl rfl (.pointer (some ⟨g1, 3, none⟩)) (ex_fa _ _ _ rfl _ (F.e rfl) 3 g6_fa_27_3_3 ⟨g1, 3, none⟩ rfl) ?_; clear F a; intro a F
  refine list_val F (wn rfl) rfl rfl (.slice (some adx) ws.length d) (ex_load _ _ rfl _ (F.e rfl) _ (lv1 g6_one_25 (M.cell (i := 0) rfl (j := 3) rfl))) ?_; clear F a; intro a F
  refine list_val F (wn rfl) rfl rfl (.int .i64 ((ws.length : Nat) : Int)) (ex_len _ _ rfl 2 g6_sl_25_2 _ _ _ (F.e rfl)) ?_; clear F a; intro a F
  refine list_val F (wn rfl) rfl rfl (.bool true) (ex_bin .lss _ _ _ _ rfl .i64 _ _ (F.e rfl) (F.e rfl) _ (b_lss (decide_eq_true (by omega)))) ?_; clear F a; intro a F
  refine wpList_nil ?_
  replace F : Fr 245 a [(0, .agg #[.slice A bs.length c, .slice A2 n2 c2, .slice A3 ns.length c3, .slice (some adx) ws.length d]), (1, .pointer (some ⟨g1, 0, none⟩)), (2, .bool false), (9, .int .i64 ((k : Nat) : Int)), (13, .int .i64 ((p : Nat) : Int)), (90, .bool false), (170, .bool true)] := F.keep ⟨rfl, rfl, rfl, rfl, rfl, rfl, rfl, trivial⟩
  refine then_n ?_
  refine wp_cond_true (F.e rfl) ?_
  refine wp_skip ?_
  refine then_n ?_
  refine wp_seq ?_
  refine wp_block ?_
  refine wp_seq ?_
  refine wp_region_lit ?_
  refine list_val F (wn rfl) rfl rfl (.pointer (some ⟨g1, 3, none⟩)) (ex_fa _ _ _ rfl _ (F.e rfl) 3 g6_fa_27_3_3 ⟨g1, 3, none⟩ rfl) ?_; clear F a; intro a F
  refine list_val F (wn rfl) rfl rfl (.slice (some adx) ws.length d) (ex_load _ _ rfl _ (F.e rfl) _ (lv1 g6_one_25 (M.cell (i := 0) rfl (j := 3) rfl))) ?_; clear F a; intro a F
  refine list_val F (wn rfl) rfl rfl (.int .i64 ((p : Nat) : Int)) (ex_move _ rfl _ (F.e rfl)) ?_; clear F a; intro a F
  refine list_val F (wn rfl) rfl rfl (.pointer (some (adx.add (p * 2)))) (ex_ix _ _ _ rfl 2 g6_sl_25_2 adx _ _ (F.e rfl) .i64 _ (F.e rfl) p rfl (by omega) (adx.add (p * 2)) rfl) ?_; clear F a; intro a F
  refine list_val F (wn rfl) rfl rfl (.pointer (some ((adx.add (p * 2)).add 1))) (ex_fa _ _ _ rfl _ (F.e rfl) 1 g6_fa_33_1_1 ((adx.add (p * 2)).add 1) rfl) ?_; clear F a; intro a F
  refine list_val F (wn rfl) rfl rfl (.int .i64 x.wd) (ex_load _ _ rfl _ (F.e rfl) _ (lv1 g6_one_3 ((zx.below M.bel).cell 1 _ rfl))) ?_; clear F a; intro a F
  refine list_do (wn rfl) (fun K hK => ?_)
  refine ow_call rfl rfl F 9 #[.int .i64 x.wd, .int .i64 8] (ex_call 9 _ _ rfl rfl g6_ent_9 _ (map2 (F.e rfl) rfl)) (within_any x.wd _) (fun e v hR => ?_)
  obtain ⟨he, hb⟩ := hR
  refine ⟨.int .i64 ((wi x.wd : Nat) : Int), he, ?_⟩; clear he F a; intro a F
  refine hK _ _ ?_
  clear hK K
  replace M := M.below hb; clear hb; try clear u
  refine list_val F (wn rfl) rfl rfl (.int .i64 ((1 + wi x.wd : Nat) : Int)) (ex_bin .add _ _ _ _ rfl .i64 _ _ rfl (F.e rfl) _ (b_add ((w_i64 (by omega) (by omega)).trans (by omega)))) ?_; clear F a; intro a F
  refine list_val F (wn rfl) rfl rfl (.int .i64 ((1 + wi x.wd : Nat) : Int)) (ex_assign _ rfl _ (F.e rfl)) ?_; clear F a; intro a F
  refine wpList_nil ?_
  replace F : Fr 245 a [(0, .agg #[.slice A bs.length c, .slice A2 n2 c2, .slice A3 ns.length c3, .slice (some adx) ws.length d]), (1, .pointer (some ⟨g1, 0, none⟩)), (2, .bool false), (9, .int .i64 ((k : Nat) : Int)), (13, .int .i64 ((p : Nat) : Int)), (14, .int .i64 ((1 + wi x.wd : Nat) : Int)), (90, .bool false), (170, .bool true)] := F.keep ⟨rfl, rfl, rfl, rfl, rfl, rfl, rfl, rfl, trivial⟩
  refine then_n ?_
  refine wp_seq ?_
  by_cases h8 : 1 + wi x.wd < 8
  ·
   by_cases hz0 : x.n / 2 ^ (8 * (1 + wi x.wd)) = 0
   ·
    have hb2 : ¬ (1 + wi x.wd < 8 ∧ x.n / 2 ^ (8 * (1 + wi x.wd)) ≠ 0) := fun h => h.2 hz0
    refine wp_region_lit ?_
    refine list_val F (wn rfl) rfl rfl (.pointer (some ⟨g1, 3, none⟩)) (ex_fa _ _ _ rfl _ (F.e rfl) 3 g6_fa_27_3_3 ⟨g1, 3, none⟩ rfl) ?_; clear F a; intro a F
    refine list_val F (wn rfl) rfl rfl (.slice (some adx) ws.length d) (ex_load _ _ rfl _ (F.e rfl) _ (lv1 g6_one_25 (M.cell (i := 0) rfl (j := 3) rfl))) ?_; clear F a; intro a F
    refine list_val F (wn rfl) rfl rfl (.int .i64 ((p : Nat) : Int)) (ex_move _ rfl _ (F.e rfl)) ?_; clear F a; intro a F
    refine list_val F (wn rfl) rfl rfl (.pointer (some (adx.add (p * 2)))) (ex_ix _ _ _ rfl 2 g6_sl_25_2 adx _ _ (F.e rfl) .i64 _ (F.e rfl) p rfl (by omega) (adx.add (p * 2)) rfl) ?_; clear F a; intro a F
    refine list_val F (wn rfl) rfl rfl (.pointer (some (adx.add (p * 2)))) (ex_fa _ _ _ rfl _ (F.e rfl) 0 g6_fa_33_0_0 (adx.add (p * 2)) rfl) ?_; clear F a; intro a F
    refine list_val F (wn rfl) rfl rfl (.int .u64 ((x.n : Nat) : Int)) (ex_load _ _ rfl _ (F.e rfl) _ (lv1 g6_one_31 ((zx.below M.bel).cell 0 _ rfl))) ?_; clear F a; intro a F
    refine list_val F (wn rfl) rfl rfl (.int .i64 ((1 + wi x.wd : Nat) : Int)) (ex_move _ rfl _ (F.e rfl)) ?_; clear F a; intro a F
    refine list_do (wn rfl) (fun K hK => ?_)
    refine ow_call rfl rfl F 10 #[.int .u64 ((x.n : Nat) : Int), .int .i64 ((1 + wi x.wd : Nat) : Int)] (ex_call 10 _ _ rfl rfl g6_ent_10 _ (map2 (F.e rfl) (F.e rfl))) (lay_any x.n (1 + wi x.wd) (by omega) (by omega) hx64 _) (fun e u hR => ?_)
    obtain ⟨A_189, c_189, he, O_189, hb⟩ := hR
    replace O_189 := O_189.low M.bel.size
    rw [lay_ok hb2] at he O_189
    refine ⟨.tuple #[.slice A_189 ((be x.n (1 + wi x.wd)).length) c_189, .int .i64 0], he, ?_⟩; clear he F a; intro a F
    refine hK _ _ ?_
    clear hK K
    replace M := M.below hb; clear hb; try clear v
    refine list_val F (wn rfl) rfl rfl (.tuple #[.slice A_189 ((be x.n (1 + wi x.wd)).length) c_189, .int .i64 0]) (ex_move _ rfl _ (F.e rfl)) ?_; clear F a; intro a F
    refine list_val F (wn rfl) rfl rfl (.slice A_189 ((be x.n (1 + wi x.wd)).length) c_189) (ex_extract _ _ rfl _ (F.e rfl) _ rfl) ?_; clear F a; intro a F
    refine list_val F (wn rfl) rfl rfl (.int .i64 0) (ex_extract _ _ rfl _ (F.e rfl) _ rfl) ?_; clear F a; intro a F
    refine list_val F (wn rfl) rfl rfl (.slice A_189 ((be x.n (1 + wi x.wd)).length) c_189) (ex_assign _ rfl _ (F.e rfl)) ?_; clear F a; intro a F
    refine list_val F (wn rfl) rfl rfl (.int .i64 0) (ex_assign _ rfl _ (F.e rfl)) ?_; clear F a; intro a F
    refine wpList_nil ?_
    replace F : Fr 245 a [(0, .agg #[.slice A bs.length c, .slice A2 n2 c2, .slice A3 ns.length c3, .slice (some adx) ws.length d]), (1, .pointer (some ⟨g1, 0, none⟩)), (2, .bool false), (9, .int .i64 ((k : Nat) : Int)), (13, .int .i64 ((p : Nat) : Int)), (14, .int .i64 ((1 + wi x.wd : Nat) : Int)), (15, .slice A_189 ((be x.n (1 + wi x.wd)).length) c_189), (16, .int .i64 0), (90, .bool false), (170, .bool true)] := F.keep ⟨rfl, rfl, rfl, rfl, rfl, rfl, rfl, rfl, rfl, rfl, trivial⟩
    refine then_n ?_
    refine wp_seq ?_
    refine wp_seq ?_
    refine wp_region_lit ?_
    refine list_val F (wn rfl) rfl rfl (.int .i64 ((1 + wi x.wd : Nat) : Int)) (ex_move _ rfl _ (F.e rfl)) ?_; clear F a; intro a F
    refine list_val F (wn rfl) rfl rfl (.bool true) (ex_bin .lss _ _ _ _ rfl .i64 _ _ (F.e rfl) rfl _ (b_lss (decide_eq_true (by omega)))) ?_; clear F a; intro a F
    refine list_val F (wn rfl) rfl rfl (.bool true) (ex_move _ rfl _ (F.e rfl)) ?_; clear F a; intro a F
    refine list_val F (F.wants 194 true rfl (by kernel_rfl) rfl true rfl) rfl rfl (.pointer (some ⟨g1, 3, none⟩)) (ex_fa _ _ _ rfl _ (F.e rfl) 3 g6_fa_27_3_3 ⟨g1, 3, none⟩ rfl) ?_; clear F a; intro a F
    refine list_val F (F.wants 194 true rfl (by kernel_rfl) rfl true rfl) rfl rfl (.slice (some adx) ws.length d) (ex_load _ _ rfl _ (F.e rfl) _ (lv1 g6_one_25 (M.cell (i := 0) rfl (j := 3) rfl))) ?_; clear F a; intro a F
    refine list_val F (F.wants 194 true rfl (by kernel_rfl) rfl true rfl) rfl rfl (.int .i64 ((p : Nat) : Int)) (ex_move _ rfl _ (F.e rfl)) ?_; clear F a; intro a F
    refine list_val F (F.wants 194 true rfl (by kernel_rfl) rfl true rfl) rfl rfl (.pointer (some (adx.add (p * 2)))) (ex_ix _ _ _ rfl 2 g6_sl_25_2 adx _ _ (F.e rfl) .i64 _ (F.e rfl) p rfl (by omega) (adx.add (p * 2)) rfl) ?_; clear F a; intro a F
    refine list_val F (F.wants 194 true rfl (by kernel_rfl) rfl true rfl) rfl rfl (.pointer (some (adx.add (p * 2)))) (ex_fa _ _ _ rfl _ (F.e rfl) 0 g6_fa_33_0_0 (adx.add (p * 2)) rfl) ?_; clear F a; intro a F
    refine list_val F (F.wants 194 true rfl (by kernel_rfl) rfl true rfl) rfl rfl (.int .u64 ((x.n : Nat) : Int)) (ex_load _ _ rfl _ (F.e rfl) _ (lv1 g6_one_31 ((zx.below M.bel).cell 0 _ rfl))) ?_; clear F a; intro a F
    refine list_val F (F.wants 194 true rfl (by kernel_rfl) rfl true rfl) rfl rfl (.int .i64 ((1 + wi x.wd : Nat) : Int)) (ex_move _ rfl _ (F.e rfl)) ?_; clear F a; intro a F
    refine list_val F (F.wants 194 true rfl (by kernel_rfl) rfl true rfl) rfl rfl (.int .i64 ((8 * (1 + wi x.wd) : Nat) : Int)) (ex_bin .mul _ _ _ _ rfl .i64 _ _ rfl (F.e rfl) _ (b_mul ((w_i64 (by omega) (by omega)).trans (by omega)))) ?_; clear F a; intro a F
    refine list_val F (F.wants 194 true rfl (by kernel_rfl) rfl true rfl) rfl rfl (.int .u64 ((8 * (1 + wi x.wd) : Nat) : Int)) (ex_conv _ _ _ rfl _ .u64 g6_cv_3_47_u64 _ (F.e rfl) _ (w_u64 (by omega) (by omega))) ?_; clear F a; intro a F
    refine list_val F (F.wants 194 true rfl (by kernel_rfl) rfl true rfl) rfl rfl (.int .u64 (((x.n / 2 ^ (8 * (1 + wi x.wd))) : Nat) : Int)) (ST.ex_shrN _ _ _ _ rfl .u64 .u64 x.n (8 * (1 + wi x.wd)) _ (F.e rfl) (F.e rfl) rfl (by show _ ≤ 64; omega) (x.n / 2 ^ (8 * (1 + wi x.wd))) rfl) ?_; clear F a; intro a F
    refine list_val F (F.wants 194 true rfl (by kernel_rfl) rfl true rfl) rfl rfl (.bool false) (ex_bin .neq _ _ _ _ rfl .u64 _ _ (F.e rfl) rfl _ (b_neq (by rw [hz0]; rfl))) ?_; clear F a; intro a F
    refine list_val F (wn rfl) rfl rfl (.bool false) (ex_pick_t _ _ _ rfl (F.e rfl) _ (F.e rfl)) ?_; clear F a; intro a F
    refine wpList_nil ?_
    replace F : Fr 245 a [(0, .agg #[.slice A bs.length c, .slice A2 n2 c2, .slice A3 ns.length c3, .slice (some adx) ws.length d]), (1, .pointer (some ⟨g1, 0, none⟩)), (2, .bool false), (9, .int .i64 ((k : Nat) : Int)), (13, .int .i64 ((p : Nat) : Int)), (14, .int .i64 ((1 + wi x.wd : Nat) : Int)), (15, .slice A_189 ((be x.n (1 + wi x.wd)).length) c_189), (16, .int .i64 0), (90, .bool false), (170, .bool true), (206, .bool false)] := F.keep ⟨rfl, rfl, rfl, rfl, rfl, rfl, rfl, rfl, rfl, rfl, rfl, trivial⟩
    refine then_n ?_
    refine wp_cond_false (F.e rfl) ?_
    refine wp_skip ?_
    refine then_n ?_
    refine wp_seq ?_
    refine wp_region_lit ?_
    refine list_val F (wn rfl) rfl rfl (.slice A_189 ((be x.n (1 + wi x.wd)).length) c_189) (ex_move _ rfl _ (F.e rfl)) ?_; clear F a; intro a F
    refine list_do (wn rfl) (fun K hK => ?_)
    refine ow_call rfl rfl F 20 #[.slice A_189 ((be x.n (1 + wi x.wd)).length) c_189] (ex_call 20 _ _ rfl rfl g6_ent_20 _ (map1 (F.e rfl))) (readN_any (be x.n (1 + wi x.wd)) _ _ _ O_189.rd.1 O_189.rd.2.2 (by rw [be_len]; omega)) (fun e v hR => ?_)
    obtain ⟨he, hb⟩ := hR
    rw [lay_read (by omega) (by omega) hx64 hb2] at he
    refine ⟨.tuple #[.int .u64 ((x.n : Nat) : Int), .int .i64 0], he, ?_⟩; clear he F a; intro a F
    refine hK _ _ ?_
    clear hK K
    replace O_189 := O_189.below hb
    replace M := M.below hb; clear hb; try clear u
    refine list_val F (wn rfl) rfl rfl (.tuple #[.int .u64 ((x.n : Nat) : Int), .int .i64 0]) (ex_move _ rfl _ (F.e rfl)) ?_; clear F a; intro a F
    refine list_val F (wn rfl) rfl rfl (.int .u64 ((x.n : Nat) : Int)) (ex_extract _ _ rfl _ (F.e rfl) _ rfl) ?_; clear F a; intro a F
    refine list_val F (wn rfl) rfl rfl (.int .i64 0) (ex_extract _ _ rfl _ (F.e rfl) _ rfl) ?_; clear F a; intro a F
    refine list_val F (wn rfl) rfl rfl (.int .u64 ((x.n : Nat) : Int)) (ex_assign _ rfl _ (F.e rfl)) ?_; clear F a; intro a F
    refine list_val F (wn rfl) rfl rfl (.int .i64 0) (ex_assign _ rfl _ (F.e rfl)) ?_; clear F a; intro a F
    refine wpList_nil ?_
    replace F : Fr 245 a [(0, .agg #[.slice A bs.length c, .slice A2 n2 c2, .slice A3 ns.length c3, .slice (some adx) ws.length d]), (1, .pointer (some ⟨g1, 0, none⟩)), (2, .bool false), (9, .int .i64 ((k : Nat) : Int)), (13, .int .i64 ((p : Nat) : Int)), (14, .int .i64 ((1 + wi x.wd : Nat) : Int)), (15, .slice A_189 ((be x.n (1 + wi x.wd)).length) c_189), (16, .int .i64 0), (17, .int .u64 ((x.n : Nat) : Int)), (18, .int .i64 0), (90, .bool false), (170, .bool true), (206, .bool false)] := F.keep ⟨rfl, rfl, rfl, rfl, rfl, rfl, rfl, rfl, rfl, rfl, rfl, rfl, rfl, trivial⟩
    refine then_n ?_
    refine wp_seq ?_
    refine wp_region_lit ?_
    refine list_val F (wn rfl) rfl rfl (.int .i64 0) (ex_move _ rfl _ (F.e rfl)) ?_; clear F a; intro a F
    refine list_do (wn rfl) (fun K hK => ?_)
    refine ow_call rfl rfl F 11 #[.int .i64 0] (ex_call 11 _ _ rfl rfl g6_ent_11 _ (map1 (F.e rfl))) (num_any 0 _) (fun e u hR => ?_)
    obtain ⟨he, hb⟩ := hR
    refine ⟨.int .i64 0, he, ?_⟩; clear he F a; intro a F
    refine hK _ _ ?_
    clear hK K
    replace O_189 := O_189.below hb
    replace M := M.below hb; clear hb; try clear v
    refine list_val F (wn rfl) rfl rfl (.bool false) (ex_bin .neq _ _ _ _ rfl .i64 _ _ (F.e rfl) rfl _ (b_neq (by decide))) ?_; clear F a; intro a F
    refine list_val F (wn rfl) rfl rfl (.bool false) (ex_move _ rfl _ (F.e rfl)) ?_; clear F a; intro a F
    refine list_val F (F.wants 223 false rfl (by kernel_rfl) rfl true rfl) rfl rfl (.int .i64 0) (ex_move _ rfl _ (F.e rfl)) ?_; clear F a; intro a F
    refine list_do (F.wants 223 false rfl (by kernel_rfl) rfl true rfl) (fun K hK => ?_)
    refine ow_call rfl rfl F 11 #[.int .i64 0] (ex_call 11 _ _ rfl rfl g6_ent_11 _ (map1 (F.e rfl))) (num_any 0 _) (fun e v hR => ?_)
    obtain ⟨he, hb⟩ := hR
    refine ⟨.int .i64 0, he, ?_⟩; clear he F a; intro a F
    refine hK _ _ ?_
    clear hK K
    replace O_189 := O_189.below hb
    replace M := M.below hb; clear hb; try clear u
    refine list_val F (F.wants 223 false rfl (by kernel_rfl) rfl true rfl) rfl rfl (.bool false) (ex_bin .neq _ _ _ _ rfl .i64 _ _ (F.e rfl) rfl _ (b_neq (by decide))) ?_; clear F a; intro a F
    refine list_val F (wn rfl) rfl rfl (.bool false) (ex_pick_f _ _ _ rfl (F.e rfl) _ (F.e rfl)) ?_; clear F a; intro a F
    refine list_val F (wn rfl) rfl rfl (.bool false) (ex_move _ rfl _ (F.e rfl)) ?_; clear F a; intro a F
    refine list_val F (F.wants 228 false rfl (by kernel_rfl) rfl true rfl) rfl rfl (.slice A_189 ((be x.n (1 + wi x.wd)).length) c_189) (ex_move _ rfl _ (F.e rfl)) ?_; clear F a; intro a F
    refine list_val F (F.wants 228 false rfl (by kernel_rfl) rfl true rfl) rfl rfl (.int .i64 (((be x.n (1 + wi x.wd)).length : Nat) : Int)) (ex_len _ _ rfl 1 g6_sl_28_1 _ _ _ (F.e rfl)) ?_; clear F a; intro a F
    refine list_val F (F.wants 228 false rfl (by kernel_rfl) rfl true rfl) rfl rfl (.int .i64 ((1 + wi x.wd : Nat) : Int)) (ex_move _ rfl _ (F.e rfl)) ?_; clear F a; intro a F
    refine list_val F (F.wants 228 false rfl (by kernel_rfl) rfl true rfl) rfl rfl (.bool false) (ex_bin .neq _ _ _ _ rfl .i64 _ _ (F.e rfl) (F.e rfl) _ (b_neq (by rw [be_len]; simp))) ?_; clear F a; intro a F
    refine list_val F (wn rfl) rfl rfl (.bool false) (ex_pick_f _ _ _ rfl (F.e rfl) _ (F.e rfl)) ?_; clear F a; intro a F
    refine list_val F (wn rfl) rfl rfl (.bool false) (ex_move _ rfl _ (F.e rfl)) ?_; clear F a; intro a F
    refine list_val F (F.wants 234 false rfl (by kernel_rfl) rfl true rfl) rfl rfl (.int .u64 ((x.n : Nat) : Int)) (ex_move _ rfl _ (F.e rfl)) ?_; clear F a; intro a F
    refine list_val F (F.wants 234 false rfl (by kernel_rfl) rfl true rfl) rfl rfl (.pointer (some ⟨g1, 3, none⟩)) (ex_fa _ _ _ rfl _ (F.e rfl) 3 g6_fa_27_3_3 ⟨g1, 3, none⟩ rfl) ?_; clear F a; intro a F
    refine list_val F (F.wants 234 false rfl (by kernel_rfl) rfl true rfl) rfl rfl (.slice (some adx) ws.length d) (ex_load _ _ rfl _ (F.e rfl) _ (lv1 g6_one_25 (M.cell (i := 0) rfl (j := 3) rfl))) ?_; clear F a; intro a F
    refine list_val F (F.wants 234 false rfl (by kernel_rfl) rfl true rfl) rfl rfl (.int .i64 ((p : Nat) : Int)) (ex_move _ rfl _ (F.e rfl)) ?_; clear F a; intro a F
    refine list_val F (F.wants 234 false rfl (by kernel_rfl) rfl true rfl) rfl rfl (.pointer (some (adx.add (p * 2)))) (ex_ix _ _ _ rfl 2 g6_sl_25_2 adx _ _ (F.e rfl) .i64 _ (F.e rfl) p rfl (by omega) (adx.add (p * 2)) rfl) ?_; clear F a; intro a F
    refine list_val F (F.wants 234 false rfl (by kernel_rfl) rfl true rfl) rfl rfl (.pointer (some (adx.add (p * 2)))) (ex_fa _ _ _ rfl _ (F.e rfl) 0 g6_fa_33_0_0 (adx.add (p * 2)) rfl) ?_; clear F a; intro a F
    refine list_val F (F.wants 234 false rfl (by kernel_rfl) rfl true rfl) rfl rfl (.int .u64 ((x.n : Nat) : Int)) (ex_load _ _ rfl _ (F.e rfl) _ (lv1 g6_one_31 ((zx.below M.bel).cell 0 _ rfl))) ?_; clear F a; intro a F
    refine list_val F (F.wants 234 false rfl (by kernel_rfl) rfl true rfl) rfl rfl (.bool false) (ex_bin .neq _ _ _ _ rfl .u64 _ _ (F.e rfl) (F.e rfl) _ (b_neq (by simp))) ?_; clear F a; intro a F
    refine list_val F (wn rfl) rfl rfl (.bool false) (ex_pick_f _ _ _ rfl (F.e rfl) _ (F.e rfl)) ?_; clear F a; intro a F
    refine wpList_nil ?_
    replace F : Fr 245 a [(0, .agg #[.slice A bs.length c, .slice A2 n2 c2, .slice A3 ns.length c3, .slice (some adx) ws.length d]), (1, .pointer (some ⟨g1, 0, none⟩)), (2, .bool false), (9, .int .i64 ((k : Nat) : Int)), (13, .int .i64 ((p : Nat) : Int)), (14, .int .i64 ((1 + wi x.wd : Nat) : Int)), (15, .slice A_189 ((be x.n (1 + wi x.wd)).length) c_189), (16, .int .i64 0), (17, .int .u64 ((x.n : Nat) : Int)), (18, .int .i64 0), (90, .bool false), (170, .bool true), (206, .bool false), (243, .bool false)] := F.keep ⟨rfl, rfl, rfl, rfl, rfl, rfl, rfl, rfl, rfl, rfl, rfl, rfl, rfl, rfl, trivial⟩
    refine then_n ?_
    refine wp_cond_false (F.e rfl) ?_
    refine wp_skip ?_
    refine in_n ?_
    refine then_n ?_
    refine wp_region_lit ?_
    refine list_val F (wn rfl) rfl rfl (.int .i64 ((p : Nat) : Int)) (ex_move _ rfl _ (F.e rfl)) ?_; clear F a; intro a F
    refine list_val F (wn rfl) rfl rfl (.int .i64 ((p + 1 : Nat) : Int)) (ex_bin .add _ _ _ _ rfl .i64 _ _ (F.e rfl) rfl _ (b_add ((w_i64 (by omega) (by omega)).trans (by omega)))) ?_; clear F a; intro a F
    refine list_val F (wn rfl) rfl rfl (.int .i64 ((p + 1 : Nat) : Int)) (ex_assign _ rfl _ (F.e rfl)) ?_; clear F a; intro a F
    refine wpList_nil ?_
    replace F : Fr 245 a [(0, .agg #[.slice A bs.length c, .slice A2 n2 c2, .slice A3 ns.length c3, .slice (some adx) ws.length d]), (1, .pointer (some ⟨g1, 0, none⟩)), (2, .bool false), (9, .int .i64 ((k : Nat) : Int)), (13, .int .i64 ((p + 1 : Nat) : Int)), (14, .int .i64 ((1 + wi x.wd : Nat) : Int)), (15, .slice A_189 ((be x.n (1 + wi x.wd)).length) c_189), (16, .int .i64 0), (17, .int .u64 ((x.n : Nat) : Int)), (18, .int .i64 0), (90, .bool false), (170, .bool true), (206, .bool false), (243, .bool false)] := F.keep ⟨rfl, rfl, rfl, rfl, rfl, rfl, rfl, rfl, rfl, rfl, rfl, rfl, rfl, rfl, trivial⟩
    refine then_n ?_
    exact ⟨ws.length - (p + 1), by omega, (p + 1), F.keep ⟨rfl, rfl, rfl, rfl, rfl, rfl, trivial⟩, (by refine M.pick' [0] _ ?_ (by decide); exact ⟨rfl, trivial⟩), (by omega), (by omega)⟩
   have hb2 : 1 + wi x.wd < 8 ∧ x.n / 2 ^ (8 * (1 + wi x.wd)) ≠ 0 := ⟨h8, hz0⟩
   refine wp_region_lit ?_
   refine list_val F (wn rfl) rfl rfl (.pointer (some ⟨g1, 3, none⟩)) (ex_fa _ _ _ rfl _ (F.e rfl) 3 g6_fa_27_3_3 ⟨g1, 3, none⟩ rfl) ?_; clear F a; intro a F
   refine list_val F (wn rfl) rfl rfl (.slice (some adx) ws.length d) (ex_load _ _ rfl _ (F.e rfl) _ (lv1 g6_one_25 (M.cell (i := 0) rfl (j := 3) rfl))) ?_; clear F a; intro a F
   refine list_val F (wn rfl) rfl rfl (.int .i64 ((p : Nat) : Int)) (ex_move _ rfl _ (F.e rfl)) ?_; clear F a; intro a F
   refine list_val F (wn rfl) rfl rfl (.pointer (some (adx.add (p * 2)))) (ex_ix _ _ _ rfl 2 g6_sl_25_2 adx _ _ (F.e rfl) .i64 _ (F.e rfl) p rfl (by omega) (adx.add (p * 2)) rfl) ?_; clear F a; intro a F
   refine list_val F (wn rfl) rfl rfl (.pointer (some (adx.add (p * 2)))) (ex_fa _ _ _ rfl _ (F.e rfl) 0 g6_fa_33_0_0 (adx.add (p * 2)) rfl) ?_; clear F a; intro a F
   refine list_val F (wn rfl) rfl rfl (.int .u64 ((x.n : Nat) : Int)) (ex_load _ _ rfl _ (F.e rfl) _ (lv1 g6_one_31 ((zx.below M.bel).cell 0 _ rfl))) ?_; clear F a; intro a F
   refine list_val F (wn rfl) rfl rfl (.int .i64 ((1 + wi x.wd : Nat) : Int)) (ex_move _ rfl _ (F.e rfl)) ?_; clear F a; intro a F
   refine list_do (wn rfl) (fun K hK => ?_)
   refine ow_call rfl rfl F 10 #[.int .u64 ((x.n : Nat) : Int), .int .i64 ((1 + wi x.wd : Nat) : Int)] (ex_call 10 _ _ rfl rfl g6_ent_10 _ (map2 (F.e rfl) (F.e rfl))) (lay_any x.n (1 + wi x.wd) (by omega) (by omega) hx64 _) (fun e u hR => ?_)
   obtain ⟨A_189, c_189, he, O_189, hb⟩ := hR
   replace O_189 := O_189.low M.bel.size
   rw [lay_big hb2] at he O_189
   refine ⟨.tuple #[.slice A_189 (([] : List UInt8).length) c_189, .int .i64 14], he, ?_⟩; clear he F a; intro a F
   refine hK _ _ ?_
   clear hK K
   replace M := M.below hb; clear hb; try clear v
   refine list_val F (wn rfl) rfl rfl (.tuple #[.slice A_189 (([] : List UInt8).length) c_189, .int .i64 14]) (ex_move _ rfl _ (F.e rfl)) ?_; clear F a; intro a F
   refine list_val F (wn rfl) rfl rfl (.slice A_189 (([] : List UInt8).length) c_189) (ex_extract _ _ rfl _ (F.e rfl) _ rfl) ?_; clear F a; intro a F
   refine list_val F (wn rfl) rfl rfl (.int .i64 14) (ex_extract _ _ rfl _ (F.e rfl) _ rfl) ?_; clear F a; intro a F
   refine list_val F (wn rfl) rfl rfl (.slice A_189 (([] : List UInt8).length) c_189) (ex_assign _ rfl _ (F.e rfl)) ?_; clear F a; intro a F
   refine list_val F (wn rfl) rfl rfl (.int .i64 14) (ex_assign _ rfl _ (F.e rfl)) ?_; clear F a; intro a F
   refine wpList_nil ?_
   replace F : Fr 245 a [(0, .agg #[.slice A bs.length c, .slice A2 n2 c2, .slice A3 ns.length c3, .slice (some adx) ws.length d]), (1, .pointer (some ⟨g1, 0, none⟩)), (2, .bool false), (9, .int .i64 ((k : Nat) : Int)), (13, .int .i64 ((p : Nat) : Int)), (14, .int .i64 ((1 + wi x.wd : Nat) : Int)), (15, .slice A_189 (([] : List UInt8).length) c_189), (16, .int .i64 14), (90, .bool false), (170, .bool true)] := F.keep ⟨rfl, rfl, rfl, rfl, rfl, rfl, rfl, rfl, rfl, rfl, trivial⟩
   refine then_n ?_
   refine wp_seq ?_
   refine wp_seq ?_
   refine wp_region_lit ?_
   refine list_val F (wn rfl) rfl rfl (.int .i64 ((1 + wi x.wd : Nat) : Int)) (ex_move _ rfl _ (F.e rfl)) ?_; clear F a; intro a F
   refine list_val F (wn rfl) rfl rfl (.bool true) (ex_bin .lss _ _ _ _ rfl .i64 _ _ (F.e rfl) rfl _ (b_lss (decide_eq_true (by omega)))) ?_; clear F a; intro a F
   refine list_val F (wn rfl) rfl rfl (.bool true) (ex_move _ rfl _ (F.e rfl)) ?_; clear F a; intro a F
   refine list_val F (F.wants 194 true rfl (by kernel_rfl) rfl true rfl) rfl rfl (.pointer (some ⟨g1, 3, none⟩)) (ex_fa _ _ _ rfl _ (F.e rfl) 3 g6_fa_27_3_3 ⟨g1, 3, none⟩ rfl) ?_; clear F a; intro a F
   refine list_val F (F.wants 194 true rfl (by kernel_rfl) rfl true rfl) rfl rfl (.slice (some adx) ws.length d) (ex_load _ _ rfl _ (F.e rfl) _ (lv1 g6_one_25 (M.cell (i := 0) rfl (j := 3) rfl))) ?_; clear F a; intro a F
   refine list_val F (F.wants 194 true rfl (by kernel_rfl) rfl true rfl) rfl rfl (.int .i64 ((p : Nat) : Int)) (ex_move _ rfl _ (F.e rfl)) ?_; clear F a; intro a F
   refine list_val F (F.wants 194 true rfl (by kernel_rfl) rfl true rfl) rfl rfl (.pointer (some (adx.add (p * 2)))) (ex_ix _ _ _ rfl 2 g6_sl_25_2 adx _ _ (F.e rfl) .i64 _ (F.e rfl) p rfl (by omega) (adx.add (p * 2)) rfl) ?_; clear F a; intro a F
   refine list_val F (F.wants 194 true rfl (by kernel_rfl) rfl true rfl) rfl rfl (.pointer (some (adx.add (p * 2)))) (ex_fa _ _ _ rfl _ (F.e rfl) 0 g6_fa_33_0_0 (adx.add (p * 2)) rfl) ?_; clear F a; intro a F
   refine list_val F (F.wants 194 true rfl (by kernel_rfl) rfl true rfl) rfl rfl (.int .u64 ((x.n : Nat) : Int)) (ex_load _ _ rfl _ (F.e rfl) _ (lv1 g6_one_31 ((zx.below M.bel).cell 0 _ rfl))) ?_; clear F a; intro a F
   refine list_val F (F.wants 194 true rfl (by kernel_rfl) rfl true rfl) rfl rfl (.int .i64 ((1 + wi x.wd : Nat) : Int)) (ex_move _ rfl _ (F.e rfl)) ?_; clear F a; intro a F
   refine list_val F (F.wants 194 true rfl (by kernel_rfl) rfl true rfl) rfl rfl (.int .i64 ((8 * (1 + wi x.wd) : Nat) : Int)) (ex_bin .mul _ _ _ _ rfl .i64 _ _ rfl (F.e rfl) _ (b_mul ((w_i64 (by omega) (by omega)).trans (by omega)))) ?_; clear F a; intro a F
   refine list_val F (F.wants 194 true rfl (by kernel_rfl) rfl true rfl) rfl rfl (.int .u64 ((8 * (1 + wi x.wd) : Nat) : Int)) (ex_conv _ _ _ rfl _ .u64 g6_cv_3_47_u64 _ (F.e rfl) _ (w_u64 (by omega) (by omega))) ?_; clear F a; intro a F
   refine list_val F (F.wants 194 true rfl (by kernel_rfl) rfl true rfl) rfl rfl (.int .u64 (((x.n / 2 ^ (8 * (1 + wi x.wd))) : Nat) : Int)) (ST.ex_shrN _ _ _ _ rfl .u64 .u64 x.n (8 * (1 + wi x.wd)) _ (F.e rfl) (F.e rfl) rfl (by show _ ≤ 64; omega) (x.n / 2 ^ (8 * (1 + wi x.wd))) rfl) ?_; clear F a; intro a F
   refine list_val F (F.wants 194 true rfl (by kernel_rfl) rfl true rfl) rfl rfl (.bool true) (ex_bin .neq _ _ _ _ rfl .u64 _ _ (F.e rfl) rfl _ (b_neq (bne_iff_ne.2 (fun e => hz0 (Int.natCast_eq_zero.1 e))))) ?_; clear F a; intro a F
   refine list_val F (wn rfl) rfl rfl (.bool true) (ex_pick_t _ _ _ rfl (F.e rfl) _ (F.e rfl)) ?_; clear F a; intro a F
   refine wpList_nil ?_
   replace F : Fr 245 a [(0, .agg #[.slice A bs.length c, .slice A2 n2 c2, .slice A3 ns.length c3, .slice (some adx) ws.length d]), (1, .pointer (some ⟨g1, 0, none⟩)), (2, .bool false), (9, .int .i64 ((k : Nat) : Int)), (13, .int .i64 ((p : Nat) : Int)), (14, .int .i64 ((1 + wi x.wd : Nat) : Int)), (15, .slice A_189 (([] : List UInt8).length) c_189), (16, .int .i64 14), (90, .bool false), (170, .bool true), (206, .bool true)] := F.keep ⟨rfl, rfl, rfl, rfl, rfl, rfl, rfl, rfl, rfl, rfl, rfl, trivial⟩
   refine then_n ?_
   refine wp_cond_true (F.e rfl) ?_
   refine wp_seq ?_
   refine wp_seq ?_
   refine wp_region_lit ?_
   refine list_val F (wn rfl) rfl rfl (.int .i64 14) (ex_move _ rfl _ (F.e rfl)) ?_; clear F a; intro a F
   refine list_do (wn rfl) (fun K hK => ?_)
   refine ow_call rfl rfl F 11 #[.int .i64 14] (ex_call 11 _ _ rfl rfl g6_ent_11 _ (map1 (F.e rfl))) (num_any 14 _) (fun e v hR => ?_)
   obtain ⟨he, hb⟩ := hR
   refine ⟨.int .i64 14, he, ?_⟩; clear he F a; intro a F
   refine hK _ _ ?_
   clear hK K
   replace O_189 := O_189.below hb
   replace M := M.below hb; clear hb; try clear u
   refine list_val F (wn rfl) rfl rfl (.bool false) (ex_bin .neq _ _ _ _ rfl .i64 _ _ (F.e rfl) rfl _ (b_neq (by decide))) ?_; clear F a; intro a F
   refine list_val F (wn rfl) rfl rfl (.bool false) (ex_move _ rfl _ (F.e rfl)) ?_; clear F a; intro a F
   refine list_val F (F.wants 210 false rfl (by kernel_rfl) rfl true rfl) rfl rfl (.slice A_189 (([] : List UInt8).length) c_189) (ex_move _ rfl _ (F.e rfl)) ?_; clear F a; intro a F
   refine list_val F (F.wants 210 false rfl (by kernel_rfl) rfl true rfl) rfl rfl (.int .i64 ((([] : List UInt8).length : Nat) : Int)) (ex_len _ _ rfl 1 g6_sl_28_1 _ _ _ (F.e rfl)) ?_; clear F a; intro a F
   refine list_val F (F.wants 210 false rfl (by kernel_rfl) rfl true rfl) rfl rfl (.bool false) (ex_bin .neq _ _ _ _ rfl .i64 _ _ (F.e rfl) rfl _ (b_neq (by rfl))) ?_; clear F a; intro a F
   refine list_val F (wn rfl) rfl rfl (.bool false) (ex_pick_f _ _ _ rfl (F.e rfl) _ (F.e rfl)) ?_; clear F a; intro a F
   refine wpList_nil ?_
   replace F : Fr 245 a [(0, .agg #[.slice A bs.length c, .slice A2 n2 c2, .slice A3 ns.length c3, .slice (some adx) ws.length d]), (1, .pointer (some ⟨g1, 0, none⟩)), (2, .bool false), (9, .int .i64 ((k : Nat) : Int)), (13, .int .i64 ((p : Nat) : Int)), (14, .int .i64 ((1 + wi x.wd : Nat) : Int)), (15, .slice A_189 (([] : List UInt8).length) c_189), (16, .int .i64 14), (90, .bool false), (170, .bool true), (206, .bool true), (214, .bool false)] := F.keep ⟨rfl, rfl, rfl, rfl, rfl, rfl, rfl, rfl, rfl, rfl, rfl, rfl, trivial⟩
   refine then_n ?_
   refine wp_cond_false (F.e rfl) ?_
   refine wp_skip ?_
   refine then_n ?_
   refine wp_exit ?_
   refine then_x ?_
   refine in_hit ?_
   refine then_n ?_
   refine wp_region_lit ?_
   refine list_val F (wn rfl) rfl rfl (.int .i64 ((p : Nat) : Int)) (ex_move _ rfl _ (F.e rfl)) ?_; clear F a; intro a F
   refine list_val F (wn rfl) rfl rfl (.int .i64 ((p + 1 : Nat) : Int)) (ex_bin .add _ _ _ _ rfl .i64 _ _ (F.e rfl) rfl _ (b_add ((w_i64 (by omega) (by omega)).trans (by omega)))) ?_; clear F a; intro a F
   refine list_val F (wn rfl) rfl rfl (.int .i64 ((p + 1 : Nat) : Int)) (ex_assign _ rfl _ (F.e rfl)) ?_; clear F a; intro a F
   refine wpList_nil ?_
   replace F : Fr 245 a [(0, .agg #[.slice A bs.length c, .slice A2 n2 c2, .slice A3 ns.length c3, .slice (some adx) ws.length d]), (1, .pointer (some ⟨g1, 0, none⟩)), (2, .bool false), (9, .int .i64 ((k : Nat) : Int)), (13, .int .i64 ((p + 1 : Nat) : Int)), (14, .int .i64 ((1 + wi x.wd : Nat) : Int)), (15, .slice A_189 (([] : List UInt8).length) c_189), (16, .int .i64 14), (90, .bool false), (170, .bool true), (206, .bool true), (214, .bool false)] := F.keep ⟨rfl, rfl, rfl, rfl, rfl, rfl, rfl, rfl, rfl, rfl, rfl, rfl, trivial⟩
   refine then_n ?_
   exact ⟨ws.length - (p + 1), by omega, (p + 1), F.keep ⟨rfl, rfl, rfl, rfl, rfl, rfl, trivial⟩, (by refine M.pick' [0] _ ?_ (by decide); exact ⟨rfl, trivial⟩), (by omega), (by omega)⟩
  have hb2 : ¬ (1 + wi x.wd < 8 ∧ x.n / 2 ^ (8 * (1 + wi x.wd)) ≠ 0) := fun h => h8 h.1
  refine wp_region_lit ?_
  refine list_val F (wn rfl) rfl rfl (.pointer (some ⟨g1, 3, none⟩)) (ex_fa _ _ _ rfl _ (F.e rfl) 3 g6_fa_27_3_3 ⟨g1, 3, none⟩ rfl) ?_; clear F a; intro a F
  refine list_val F (wn rfl) rfl rfl (.slice (some adx) ws.length d) (ex_load _ _ rfl _ (F.e rfl) _ (lv1 g6_one_25 (M.cell (i := 0) rfl (j := 3) rfl))) ?_; clear F a; intro a F
  refine list_val F (wn rfl) rfl rfl (.int .i64 ((p : Nat) : Int)) (ex_move _ rfl _ (F.e rfl)) ?_; clear F a; intro a F
  refine list_val F (wn rfl) rfl rfl (.pointer (some (adx.add (p * 2)))) (ex_ix _ _ _ rfl 2 g6_sl_25_2 adx _ _ (F.e rfl) .i64 _ (F.e rfl) p rfl (by omega) (adx.add (p * 2)) rfl) ?_; clear F a; intro a F
  refine list_val F (wn rfl) rfl rfl (.pointer (some (adx.add (p * 2)))) (ex_fa _ _ _ rfl _ (F.e rfl) 0 g6_fa_33_0_0 (adx.add (p * 2)) rfl) ?_; clear F a; intro a F
  refine list_val F (wn rfl) rfl rfl (.int .u64 ((x.n : Nat) : Int)) (ex_load _ _ rfl _ (F.e rfl) _ (lv1 g6_one_31 ((zx.below M.bel).cell 0 _ rfl))) ?_; clear F a; intro a F
  refine list_val F (wn rfl) rfl rfl (.int .i64 ((1 + wi x.wd : Nat) : Int)) (ex_move _ rfl _ (F.e rfl)) ?_; clear F a; intro a F
  refine list_do (wn rfl) (fun K hK => ?_)
  refine ow_call rfl rfl F 10 #[.int .u64 ((x.n : Nat) : Int), .int .i64 ((1 + wi x.wd : Nat) : Int)] (ex_call 10 _ _ rfl rfl g6_ent_10 _ (map2 (F.e rfl) (F.e rfl))) (lay_any x.n (1 + wi x.wd) (by omega) (by omega) hx64 _) (fun e u hR => ?_)
  obtain ⟨A_189, c_189, he, O_189, hb⟩ := hR
  replace O_189 := O_189.low M.bel.size
  rw [lay_ok hb2] at he O_189
  refine ⟨.tuple #[.slice A_189 ((be x.n (1 + wi x.wd)).length) c_189, .int .i64 0], he, ?_⟩; clear he F a; intro a F
  refine hK _ _ ?_
  clear hK K
  replace M := M.below hb; clear hb; try clear v
  refine list_val F (wn rfl) rfl rfl (.tuple #[.slice A_189 ((be x.n (1 + wi x.wd)).length) c_189, .int .i64 0]) (ex_move _ rfl _ (F.e rfl)) ?_; clear F a; intro a F
  refine list_val F (wn rfl) rfl rfl (.slice A_189 ((be x.n (1 + wi x.wd)).length) c_189) (ex_extract _ _ rfl _ (F.e rfl) _ rfl) ?_; clear F a; intro a F
  refine list_val F (wn rfl) rfl rfl (.int .i64 0) (ex_extract _ _ rfl _ (F.e rfl) _ rfl) ?_; clear F a; intro a F
  refine list_val F (wn rfl) rfl rfl (.slice A_189 ((be x.n (1 + wi x.wd)).length) c_189) (ex_assign _ rfl _ (F.e rfl)) ?_; clear F a; intro a F
  refine list_val F (wn rfl) rfl rfl (.int .i64 0) (ex_assign _ rfl _ (F.e rfl)) ?_; clear F a; intro a F
  refine wpList_nil ?_
  replace F : Fr 245 a [(0, .agg #[.slice A bs.length c, .slice A2 n2 c2, .slice A3 ns.length c3, .slice (some adx) ws.length d]), (1, .pointer (some ⟨g1, 0, none⟩)), (2, .bool false), (9, .int .i64 ((k : Nat) : Int)), (13, .int .i64 ((p : Nat) : Int)), (14, .int .i64 ((1 + wi x.wd : Nat) : Int)), (15, .slice A_189 ((be x.n (1 + wi x.wd)).length) c_189), (16, .int .i64 0), (90, .bool false), (170, .bool true)] := F.keep ⟨rfl, rfl, rfl, rfl, rfl, rfl, rfl, rfl, rfl, rfl, trivial⟩
  refine then_n ?_
  refine wp_seq ?_
  refine wp_seq ?_
  refine wp_region_lit ?_
  refine list_val F (wn rfl) rfl rfl (.int .i64 ((1 + wi x.wd : Nat) : Int)) (ex_move _ rfl _ (F.e rfl)) ?_; clear F a; intro a F
  refine list_val F (wn rfl) rfl rfl (.bool false) (ex_bin .lss _ _ _ _ rfl .i64 _ _ (F.e rfl) rfl _ (b_lss (decide_eq_false (by omega)))) ?_; clear F a; intro a F
  refine list_val F (wn rfl) rfl rfl (.bool false) (ex_move _ rfl _ (F.e rfl)) ?_; clear F a; intro a F
  refine list_skip F (F.wants 194 false rfl (by kernel_rfl) rfl false rfl) rfl rfl ?_; clear F a; intro a F
  refine list_skip F (F.wants 194 false rfl (by kernel_rfl) rfl false rfl) rfl rfl ?_; clear F a; intro a F
  refine list_skip F (F.wants 194 false rfl (by kernel_rfl) rfl false rfl) rfl rfl ?_; clear F a; intro a F
  refine list_skip F (F.wants 194 false rfl (by kernel_rfl) rfl false rfl) rfl rfl ?_; clear F a; intro a F
  refine list_skip F (F.wants 194 false rfl (by kernel_rfl) rfl false rfl) rfl rfl ?_; clear F a; intro a F
  refine list_skip F (F.wants 194 false rfl (by kernel_rfl) rfl false rfl) rfl rfl ?_; clear F a; intro a F
  refine list_skip F (F.wants 194 false rfl (by kernel_rfl) rfl false rfl) rfl rfl ?_; clear F a; intro a F
  refine list_skip F (F.wants 194 false rfl (by kernel_rfl) rfl false rfl) rfl rfl ?_; clear F a; intro a F
  refine list_skip F (F.wants 194 false rfl (by kernel_rfl) rfl false rfl) rfl rfl ?_; clear F a; intro a F
  refine list_skip F (F.wants 194 false rfl (by kernel_rfl) rfl false rfl) rfl rfl ?_; clear F a; intro a F
  refine list_skip F (F.wants 194 false rfl (by kernel_rfl) rfl false rfl) rfl rfl ?_; clear F a; intro a F
  refine list_val F (wn rfl) rfl rfl (.bool false) (ex_pick_f _ _ _ rfl (F.e rfl) _ rfl) ?_; clear F a; intro a F
  refine wpList_nil ?_
  replace F : Fr 245 a [(0, .agg #[.slice A bs.length c, .slice A2 n2 c2, .slice A3 ns.length c3, .slice (some adx) ws.length d]), (1, .pointer (some ⟨g1, 0, none⟩)), (2, .bool false), (9, .int .i64 ((k : Nat) : Int)), (13, .int .i64 ((p : Nat) : Int)), (14, .int .i64 ((1 + wi x.wd : Nat) : Int)), (15, .slice A_189 ((be x.n (1 + wi x.wd)).length) c_189), (16, .int .i64 0), (90, .bool false), (170, .bool true), (206, .bool false)] := F.keep ⟨rfl, rfl, rfl, rfl, rfl, rfl, rfl, rfl, rfl, rfl, rfl, trivial⟩
  refine then_n ?_
  refine wp_cond_false (F.e rfl) ?_
  refine wp_skip ?_
  refine then_n ?_
  refine wp_seq ?_
  refine wp_region_lit ?_
  refine list_val F (wn rfl) rfl rfl (.slice A_189 ((be x.n (1 + wi x.wd)).length) c_189) (ex_move _ rfl _ (F.e rfl)) ?_; clear F a; intro a F
  refine list_do (wn rfl) (fun K hK => ?_)
  refine ow_call rfl rfl F 20 #[.slice A_189 ((be x.n (1 + wi x.wd)).length) c_189] (ex_call 20 _ _ rfl rfl g6_ent_20 _ (map1 (F.e rfl))) (readN_any (be x.n (1 + wi x.wd)) _ _ _ O_189.rd.1 O_189.rd.2.2 (by rw [be_len]; omega)) (fun e v hR => ?_)
  obtain ⟨he, hb⟩ := hR
  rw [lay_read (by omega) (by omega) hx64 hb2] at he
  refine ⟨.tuple #[.int .u64 ((x.n : Nat) : Int), .int .i64 0], he, ?_⟩; clear he F a; intro a F
  refine hK _ _ ?_
  clear hK K
  replace O_189 := O_189.below hb
  replace M := M.below hb; clear hb; try clear u
  refine list_val F (wn rfl) rfl rfl (.tuple #[.int .u64 ((x.n : Nat) : Int), .int .i64 0]) (ex_move _ rfl _ (F.e rfl)) ?_; clear F a; intro a F
  refine list_val F (wn rfl) rfl rfl (.int .u64 ((x.n : Nat) : Int)) (ex_extract _ _ rfl _ (F.e rfl) _ rfl) ?_; clear F a; intro a F
  refine list_val F (wn rfl) rfl rfl (.int .i64 0) (ex_extract _ _ rfl _ (F.e rfl) _ rfl) ?_; clear F a; intro a F
  refine list_val F (wn rfl) rfl rfl (.int .u64 ((x.n : Nat) : Int)) (ex_assign _ rfl _ (F.e rfl)) ?_; clear F a; intro a F
  refine list_val F (wn rfl) rfl rfl (.int .i64 0) (ex_assign _ rfl _ (F.e rfl)) ?_; clear F a; intro a F
  refine wpList_nil ?_
  replace F : Fr 245 a [(0, .agg #[.slice A bs.length c, .slice A2 n2 c2, .slice A3 ns.length c3, .slice (some adx) ws.length d]), (1, .pointer (some ⟨g1, 0, none⟩)), (2, .bool false), (9, .int .i64 ((k : Nat) : Int)), (13, .int .i64 ((p : Nat) : Int)), (14, .int .i64 ((1 + wi x.wd : Nat) : Int)), (15, .slice A_189 ((be x.n (1 + wi x.wd)).length) c_189), (16, .int .i64 0), (17, .int .u64 ((x.n : Nat) : Int)), (18, .int .i64 0), (90, .bool false), (170, .bool true), (206, .bool false)] := F.keep ⟨rfl, rfl, rfl, rfl, rfl, rfl, rfl, rfl, rfl, rfl, rfl, rfl, rfl, trivial⟩
  refine then_n ?_
  refine wp_seq ?_
  refine wp_region_lit ?_
  refine list_val F (wn rfl) rfl rfl (.int .i64 0) (ex_move _ rfl _ (F.e rfl)) ?_; clear F a; intro a F
  refine list_do (wn rfl) (fun K hK => ?_)
  refine ow_call rfl rfl F 11 #[.int .i64 0] (ex_call 11 _ _ rfl rfl g6_ent_11 _ (map1 (F.e rfl))) (num_any 0 _) (fun e u hR => ?_)
  obtain ⟨he, hb⟩ := hR
  refine ⟨.int .i64 0, he, ?_⟩; clear he F a; intro a F
  refine hK _ _ ?_
  clear hK K
  replace O_189 := O_189.below hb
  replace M := M.below hb; clear hb; try clear v
  refine list_val F (wn rfl) rfl rfl (.bool false) (ex_bin .neq _ _ _ _ rfl .i64 _ _ (F.e rfl) rfl _ (b_neq (by decide))) ?_; clear F a; intro a F
  refine list_val F (wn rfl) rfl rfl (.bool false) (ex_move _ rfl _ (F.e rfl)) ?_; clear F a; intro a F
  refine list_val F (F.wants 223 false rfl (by kernel_rfl) rfl true rfl) rfl rfl (.int .i64 0) (ex_move _ rfl _ (F.e rfl)) ?_; clear F a; intro a F
  refine list_do (F.wants 223 false rfl (by kernel_rfl) rfl true rfl) (fun K hK => ?_)
  refine ow_call rfl rfl F 11 #[.int .i64 0] (ex_call 11 _ _ rfl rfl g6_ent_11 _ (map1 (F.e rfl))) (num_any 0 _) (fun e v hR => ?_)
  obtain ⟨he, hb⟩ := hR
  refine ⟨.int .i64 0, he, ?_⟩; clear he F a; intro a F
  refine hK _ _ ?_
  clear hK K
  replace O_189 := O_189.below hb
  replace M := M.below hb; clear hb; try clear u
  refine list_val F (F.wants 223 false rfl (by kernel_rfl) rfl true rfl) rfl rfl (.bool false) (ex_bin .neq _ _ _ _ rfl .i64 _ _ (F.e rfl) rfl _ (b_neq (by decide))) ?_; clear F a; intro a F
  refine list_val F (wn rfl) rfl rfl (.bool false) (ex_pick_f _ _ _ rfl (F.e rfl) _ (F.e rfl)) ?_; clear F a; intro a F
  refine list_val F (wn rfl) rfl rfl (.bool false) (ex_move _ rfl _ (F.e rfl)) ?_; clear F a; intro a F
  refine list_val F (F.wants 228 false rfl (by kernel_rfl) rfl true rfl) rfl rfl (.slice A_189 ((be x.n (1 + wi x.wd)).length) c_189) (ex_move _ rfl _ (F.e rfl)) ?_; clear F a; intro a F
  refine list_val F (F.wants 228 false rfl (by kernel_rfl) rfl true rfl) rfl rfl (.int .i64 (((be x.n (1 + wi x.wd)).length : Nat) : Int)) (ex_len _ _ rfl 1 g6_sl_28_1 _ _ _ (F.e rfl)) ?_; clear F a; intro a F
  refine list_val F (F.wants 228 false rfl (by kernel_rfl) rfl true rfl) rfl rfl (.int .i64 ((1 + wi x.wd : Nat) : Int)) (ex_move _ rfl _ (F.e rfl)) ?_; clear F a; intro a F
  refine list_val F (F.wants 228 false rfl (by kernel_rfl) rfl true rfl) rfl rfl (.bool false) (ex_bin .neq _ _ _ _ rfl .i64 _ _ (F.e rfl) (F.e rfl) _ (b_neq (by rw [be_len]; simp))) ?_; clear F a; intro a F
  refine list_val F (wn rfl) rfl rfl (.bool false) (ex_pick_f _ _ _ rfl (F.e rfl) _ (F.e rfl)) ?_; clear F a; intro a F
  refine list_val F (wn rfl) rfl rfl (.bool false) (ex_move _ rfl _ (F.e rfl)) ?_; clear F a; intro a F
  refine list_val F (F.wants 234 false rfl (by kernel_rfl) rfl true rfl) rfl rfl (.int .u64 ((x.n : Nat) : Int)) (ex_move _ rfl _ (F.e rfl)) ?_; clear F a; intro a F
  refine list_val F (F.wants 234 false rfl (by kernel_rfl) rfl true rfl) rfl rfl (.pointer (some ⟨g1, 3, none⟩)) (ex_fa _ _ _ rfl _ (F.e rfl) 3 g6_fa_27_3_3 ⟨g1, 3, none⟩ rfl) ?_; clear F a; intro a F
  refine list_val F (F.wants 234 false rfl (by kernel_rfl) rfl true rfl) rfl rfl (.slice (some adx) ws.length d) (ex_load _ _ rfl _ (F.e rfl) _ (lv1 g6_one_25 (M.cell (i := 0) rfl (j := 3) rfl))) ?_; clear F a; intro a F
  refine list_val F (F.wants 234 false rfl (by kernel_rfl) rfl true rfl) rfl rfl (.int .i64 ((p : Nat) : Int)) (ex_move _ rfl _ (F.e rfl)) ?_; clear F a; intro a F
  refine list_val F (F.wants 234 false rfl (by kernel_rfl) rfl true rfl) rfl rfl (.pointer (some (adx.add (p * 2)))) (ex_ix _ _ _ rfl 2 g6_sl_25_2 adx _ _ (F.e rfl) .i64 _ (F.e rfl) p rfl (by omega) (adx.add (p * 2)) rfl) ?_; clear F a; intro a F
  refine list_val F (F.wants 234 false rfl (by kernel_rfl) rfl true rfl) rfl rfl (.pointer (some (adx.add (p * 2)))) (ex_fa _ _ _ rfl _ (F.e rfl) 0 g6_fa_33_0_0 (adx.add (p * 2)) rfl) ?_; clear F a; intro a F
  refine list_val F (F.wants 234 false rfl (by kernel_rfl) rfl true rfl) rfl rfl (.int .u64 ((x.n : Nat) : Int)) (ex_load _ _ rfl _ (F.e rfl) _ (lv1 g6_one_31 ((zx.below M.bel).cell 0 _ rfl))) ?_; clear F a; intro a F
  refine list_val F (F.wants 234 false rfl (by kernel_rfl) rfl true rfl) rfl rfl (.bool false) (ex_bin .neq _ _ _ _ rfl .u64 _ _ (F.e rfl) (F.e rfl) _ (b_neq (by simp))) ?_; clear F a; intro a F
  refine list_val F (wn rfl) rfl rfl (.bool false) (ex_pick_f _ _ _ rfl (F.e rfl) _ (F.e rfl)) ?_; clear F a; intro a F
  refine wpList_nil ?_
  replace F : Fr 245 a [(0, .agg #[.slice A bs.length c, .slice A2 n2 c2, .slice A3 ns.length c3, .slice (some adx) ws.length d]), (1, .pointer (some ⟨g1, 0, none⟩)), (2, .bool false), (9, .int .i64 ((k : Nat) : Int)), (13, .int .i64 ((p : Nat) : Int)), (14, .int .i64 ((1 + wi x.wd : Nat) : Int)), (15, .slice A_189 ((be x.n (1 + wi x.wd)).length) c_189), (16, .int .i64 0), (17, .int .u64 ((x.n : Nat) : Int)), (18, .int .i64 0), (90, .bool false), (170, .bool true), (206, .bool false), (243, .bool false)] := F.keep ⟨rfl, rfl, rfl, rfl, rfl, rfl, rfl, rfl, rfl, rfl, rfl, rfl, rfl, rfl, trivial⟩
  refine then_n ?_
  refine wp_cond_false (F.e rfl) ?_
  refine wp_skip ?_
  refine in_n ?_
  refine then_n ?_
  refine wp_region_lit ?_
  refine list_val F (wn rfl) rfl rfl (.int .i64 ((p : Nat) : Int)) (ex_move _ rfl _ (F.e rfl)) ?_; clear F a; intro a F
  refine list_val F (wn rfl) rfl rfl (.int .i64 ((p + 1 : Nat) : Int)) (ex_bin .add _ _ _ _ rfl .i64 _ _ (F.e rfl) rfl _ (b_add ((w_i64 (by omega) (by omega)).trans (by omega)))) ?_; clear F a; intro a F
  refine list_val F (wn rfl) rfl rfl (.int .i64 ((p + 1 : Nat) : Int)) (ex_assign _ rfl _ (F.e rfl)) ?_; clear F a; intro a F
  refine wpList_nil ?_
  replace F : Fr 245 a [(0, .agg #[.slice A bs.length c, .slice A2 n2 c2, .slice A3 ns.length c3, .slice (some adx) ws.length d]), (1, .pointer (some ⟨g1, 0, none⟩)), (2, .bool false), (9, .int .i64 ((k : Nat) : Int)), (13, .int .i64 ((p + 1 : Nat) : Int)), (14, .int .i64 ((1 + wi x.wd : Nat) : Int)), (15, .slice A_189 ((be x.n (1 + wi x.wd)).length) c_189), (16, .int .i64 0), (17, .int .u64 ((x.n : Nat) : Int)), (18, .int .i64 0), (90, .bool false), (170, .bool true), (206, .bool false), (243, .bool false)] := F.keep ⟨rfl, rfl, rfl, rfl, rfl, rfl, rfl, rfl, rfl, rfl, rfl, rfl, rfl, rfl, trivial⟩
  refine then_n ?_
  exact ⟨ws.length - (p + 1), by omega, (p + 1), F.keep ⟨rfl, rfl, rfl, rfl, rfl, rfl, trivial⟩, (by refine M.pick' [0] _ ?_ (by decide); exact ⟨rfl, trivial⟩), (by omega), (by omega)⟩
 refine wp_seq ?_
 refine wp_seq ?_
 refine wp_region_lit ?_
 refine list_val F (wn rfl) rfl rfl (.int .i64 ((p : Nat) : Int)) (ex_move _ rfl _ (F.e rfl)) ?_; clear F a; intro a F
 refine list_val F (wn rfl) rfl rfl (.pointer (some ⟨g1, 3, none⟩)) (ex_fa _ _ _ rfl _ (F.e rfl) 3 g6_fa_27_3_3 ⟨g1, 3, none⟩ rfl) ?_; clear F a; intro a F
 refine list_val F (wn rfl) rfl rfl (.slice D ws.length d) (ex_load _ _ rfl _ (F.e rfl) _ (lv1 g6_one_25 (M.cell (i := 0) rfl (j := 3) rfl))) ?_; clear F a; intro a F
 refine list_val F (wn rfl) rfl rfl (.int .i64 ((ws.length : Nat) : Int)) (ex_len _ _ rfl 2 g6_sl_25_2 _ _ _ (F.e rfl)) ?_; clear F a; intro a F
 refine list_val F (wn rfl) rfl rfl (.bool false) (ex_bin .lss _ _ _ _ rfl .i64 _ _ (F.e rfl) (F.e rfl) _ (b_lss (decide_eq_false (by omega)))) ?_; clear F a; intro a F
 refine wpList_nil ?_
 replace F : Fr 245 a [(0, .agg #[.slice A bs.length c, .slice A2 n2 c2, .slice A3 ns.length c3, .slice D ws.length d]), (1, .pointer (some ⟨g1, 0, none⟩)), (2, .bool false), (9, .int .i64 ((k : Nat) : Int)), (13, .int .i64 ((p : Nat) : Int)), (90, .bool false), (170, .bool false)] := F.keep ⟨rfl, rfl, rfl, rfl, rfl, rfl, rfl, trivial⟩
 refine then_n ?_
 refine wp_cond_false (F.e rfl) ?_
 refine wp_exit ?_
 refine then_x ?_
 refine then_x ?_
 refine in_hit ?_
 refine then_n ?_
 refine wp_seq ?_
 refine wp_region_lit ?_
 refine list_do (wn rfl) (fun K hK => ?_)
 refine ow_call rfl rfl F 13 #[] (ex_call 13 _ _ rfl rfl g6_ent_13 _ (map0)) (lays_any _ (hE.below M.bel)) (fun e v hR => ?_)
 obtain ⟨he, hb⟩ := hR
 refine ⟨.bool true, he, ?_⟩; clear he F a; intro a F
 refine hK _ _ ?_
 clear hK K
 replace M := M.below hb; clear hb; try clear u
 refine list_val F (wn rfl) rfl rfl (.bool true) (ex_assign _ rfl _ (F.e rfl)) ?_; clear F a; intro a F
 refine wpList_nil ?_
 replace F : Fr 245 a [(0, .agg #[.slice A bs.length c, .slice A2 n2 c2, .slice A3 ns.length c3, .slice D ws.length d]), (1, .pointer (some ⟨g1, 0, none⟩)), (2, .bool true), (9, .int .i64 ((k : Nat) : Int)), (13, .int .i64 ((p : Nat) : Int)), (90, .bool false), (170, .bool false)] := F.keep ⟨rfl, rfl, rfl, rfl, rfl, rfl, rfl, trivial⟩
 refine then_n ?_
 refine wp_ret ?_
 exact ret_tmp F rfl rfl ⟨rfl, M.bel⟩
end Go.Proofs.YtadaacoddfkalaaDoor
