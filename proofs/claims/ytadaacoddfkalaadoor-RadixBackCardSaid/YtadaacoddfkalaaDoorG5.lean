/- RadixJoins (3). Conditions: the rows are read; the table of powers of ten is laid, ErrRange is set. -/
import Derived.Test.YtadaacoddfkalaaDoorG4
namespace Go.Proofs.YtadaacoddfkalaaDoor
open Go.RowKit Go.Proofs.YtadaacoddfkalaaDoorW.PrintWords KB WG RO
set_option linter.unusedVariables false
set_option linter.unusedSimpArgs false
set_option linter.unnecessarySimpa false
theorem hex16_app (a b : List UInt8) : hex16 (a ++ b) = hex16 a ++ hex16 b := by unfold hex16; rw [List.flatMap_append]
theorem enc_third {set : List UInt8} (a b : List UInt8) : enc set (a.take (a.length / 3 * 3) ++ b) = enc set (a.take (a.length / 3 * 3)) ++ enc set b := enc_app (by rw [List.length_take]; omega)
theorem third4 (set a : List UInt8) : (enc set (a.take (a.length / 3 * 3))).length % 4 = 0 := by
  rw [enc_len, List.length_take]
  omega
theorem pad_third (a b : List UInt8) : encPad (a.take (a.length / 3 * 3) ++ b) = encPad (a.take (a.length / 3 * 3)) ++ encPad b := by
  have h4 := third4 sPlain a
  unfold encPad
  rw [enc_third]
  have e1 : padN (enc sPlain (a.take (a.length / 3 * 3))) = [] := by
    unfold padN
    rw [h4]
    rfl
  have e2 : padN (enc sPlain (a.take (a.length / 3 * 3)) ++ enc sPlain b) = padN (enc sPlain b) := by
    unfold padN
    rw [List.length_append]
    congr 1
    omega
  rw [e1, e2, List.append_nil, List.append_assoc]
/-! ### The lesser number's bytes come first -/
theorem less_append : ∀ {x y u v : List UInt8}, x.length = y.length → Op.bytesLess (x ++ u) (y ++ v) = (Op.bytesLess x y || (decide (x = y) && Op.bytesLess u v))
  | [], [], u, v, _ => by simp [Op.bytesLess]
  | [], _ :: _, _, _, h => by simp at h
  | _ :: _, [], _, _, h => by simp at h
  | a :: x, b :: y, u, v, h => by
    have ih := less_append (x := x) (y := y) (u := u) (v := v) (by simpa using h)
    show (decide (a < b) || (a == b && Op.bytesLess (x ++ u) (y ++ v))) = ((decide (a < b) || (a == b && Op.bytesLess x y)) || (decide (a :: x = b :: y) && Op.bytesLess u v))
    rw [ih]
    by_cases hab : a = b
    · subst hab
      simp
    · have : (a == b) = false := by simpa using hab
      simp [this, hab]
theorem be_snoc (n wd : Nat) : be n (wd + 1) = be (n / 256) wd ++ [UInt8.ofNat (n % 256)] := by
  unfold be
  rw [List.range_succ, List.map_append]
  congr 1
  · refine List.map_congr_left fun i hi => ?_
    have hi : i < wd := List.mem_range.1 hi
    congr 2
    rw [show 8 * (wd + 1 - 1 - i) = 8 + 8 * (wd - 1 - i) by omega, Nat.pow_add, ← Nat.div_div_eq_div_mul]
  · simp
theorem be_inj : ∀ (wd n m : Nat), n < 256 ^ wd → m < 256 ^ wd → (be n wd = be m wd ↔ n = m)
  | 0, n, m, hn, hm => by simp at hn hm; subst hn hm; simp
  | wd + 1, n, m, hn, hm => by
    rw [be_snoc, be_snoc]
    have ih := be_inj wd (n / 256) (m / 256) (by rw [Nat.pow_succ] at hn; omega) (by rw [Nat.pow_succ] at hm; omega)
    constructor
    · intro h
      obtain ⟨h1, h2⟩ := List.append_inj h (by rw [be_len, be_len])
      have h3 := ih.1 h1
      have h4 : UInt8.ofNat (n % 256) = UInt8.ofNat (m % 256) := by simpa using h2
      have h5 := congrArg UInt8.toNat h4
      rw [o8 _ (by omega), o8 _ (by omega)] at h5
      omega
    · intro h; rw [h]
theorem be_less : ∀ (wd n m : Nat), n < 256 ^ wd → m < 256 ^ wd → Op.bytesLess (be n wd) (be m wd) = decide (n < m)
  | 0, n, m, hn, hm => by simp at hn hm; subst hn hm; simp [be, Op.bytesLess]
  | wd + 1, n, m, hn, hm => by
    have hn2 : n / 256 < 256 ^ wd := by rw [Nat.pow_succ] at hn; omega
    have hm2 : m / 256 < 256 ^ wd := by rw [Nat.pow_succ] at hm; omega
    have ih := be_less wd (n / 256) (m / 256) hn2 hm2
    have hi := be_inj wd (n / 256) (m / 256) hn2 hm2
    rw [be_snoc, be_snoc, less_append (by rw [be_len, be_len]), ih]
    have e1 : Op.bytesLess [UInt8.ofNat (n % 256)] [UInt8.ofNat (m % 256)] = decide (n % 256 < m % 256) := by
      show (decide (UInt8.ofNat (n % 256) < UInt8.ofNat (m % 256)) || _ && false) = _
      rw [Bool.and_false, Bool.or_false]
      refine decide_eq_decide.2 ?_
      rw [UInt8.lt_iff_toNat_lt, o8 _ (by omega), o8 _ (by omega)]
    rw [e1]
    by_cases h1 : n / 256 = m / 256
    · rw [decide_eq_true (hi.2 h1), Bool.true_and, decide_eq_false (by omega : ¬ n / 256 < m / 256), Bool.false_or]
      exact decide_eq_decide.2 (by omega)
    · rw [decide_eq_false (fun h => h1 (hi.1 h)), Bool.false_and, Bool.or_false]
      exact decide_eq_decide.2 (by omega)
theorem lay_fits {n wd : Nat} (h8 : wd ≤ 8) (hn : n < 18446744073709551616) (h : (layR n wd).2 = 0) : (layR n wd).1 = be n wd ∧ n < 256 ^ wd := by
  unfold layR at h ⊢
  split at h
  · cases h
  · rename_i hc
    rw [if_neg hc]
    refine ⟨rfl, ?_⟩
    by_cases h2 : wd < 8
    · have h3 : n / 2 ^ (8 * wd) = 0 := Classical.byContradiction fun e => hc ⟨h2, e⟩
      have h4 : (256 : Nat) ^ wd = 2 ^ (8 * wd) := by rw [Nat.pow_mul]
      rw [h4]
      exact (Nat.div_eq_zero_iff_lt (Nat.pow_pos (by decide))).1 h3
    · obtain rfl : wd = 8 := by omega
      exact Nat.lt_of_lt_of_le hn (by decide)
theorem lay_less {n m wd : Nat} (h8 : wd ≤ 8) (hn : n < 18446744073709551616) (hm : m < 18446744073709551616) (h1 : (layR n wd).2 = 0) (h2 : (layR m wd).2 = 0) : Op.bytesLess (layR n wd).1 (layR m wd).1 = decide (n < m) := by
  obtain ⟨e1, l1⟩ := lay_fits h8 hn h1
  obtain ⟨e2, l2⟩ := lay_fits h8 hm h2
  rw [e1, e2]
  exact be_less wd n m l1 l2
/-! ### Rows of rows; widths -/
structure Wd where
  n : Nat
  wd : Int
def Wd.cs (x : Wd) : List Value := [.int .u64 (x.n : Int), .int .i64 x.wd]
theorem Wd.cs_len (x : Wd) : x.cs.length = 2 := rfl
theorem Wd.cs_one (x : Wd) : ∀ u ∈ x.cs, u.oneCell' = true := fun u hu => by
  simp only [Wd.cs, List.mem_cons, List.not_mem_nil, or_false] at hu
  rcases hu with rfl | rfl <;> rfl
def kWd : Kd Wd := kBlk Wd.cs 2 Wd.cs_len Wd.cs_one
/-- A row of rows of bytes is read. -/
def Rows2 (w : World) (A : Option Addr) (bs : List (List UInt8)) : Prop := ∀ (i : Nat) (b : List UInt8), bs[i]? = some b → ∃ ad B c, A = some ad ∧ At w (ad.add (i * 1)) [.slice B b.length c] ∧ ST.kB.C w B b.length b ∧ b.length ≤ c
theorem own_emptyB {w0 w : World} {g : Nat} {H : List Blk} (M : Mm w0 w (⟨g, (([] : List UInt8).flatMap ST.bc).toArray, 5⟩ :: H)) : Ow ST.kB 5 w w0.heap.size (.slice (some ⟨g, 0, none⟩) 0 0) [] :=
  Ow.of_block (enc := ST.bc) (m := 1) (sp := []) (M.blk 0 _ rfl) (M.lo 0 _ rfl) rfl (Nat.le_refl _) (by decide) rfl
theorem C_take3 {w : World} {B : Option Addr} {a : List UInt8} (h : ST.kB.C w B a.length a) : ST.kB.C w B (a.take (a.length / 3 * 3)).length (a.take (a.length / 3 * 3)) := by
  have h2 := C_fst (enc := ST.bc) (m := 1) (hl := ST.bc_len) (h1 := ST.bc_one) h (j := a.length / 3 * 3) (by omega)
  rw [show (a.take (a.length / 3 * 3)).length = a.length / 3 * 3 from h2.1]
  exact h2
theorem wi_lt (x : Int) : wi x ≤ 7 := by unfold wi; omega
theorem g5_fa_27_0_0 : fa? Tryd.prog 27 0 0 = true := by kernel_rfl
theorem g5_one_22 : one? Tryd.prog 22 = true := by kernel_rfl
theorem g5_sl_22_1 : sl? Tryd.prog 22 1 = true := by kernel_rfl
theorem g5_one_28 : one? Tryd.prog 28 = true := by kernel_rfl
theorem g5_sl_28_1 : sl? Tryd.prog 28 1 = true := by kernel_rfl
theorem g5_ent_6 : ent? Tryd.prog 6 = true := by kernel_rfl
theorem g5_ent_7 : ent? Tryd.prog 7 = true := by kernel_rfl
theorem g5_ent_8 : ent? Tryd.prog 8 = true := by kernel_rfl
theorem g5_fa_27_3_3 : fa? Tryd.prog 27 3 3 = true := by kernel_rfl
theorem g5_one_25 : one? Tryd.prog 25 = true := by kernel_rfl
theorem g5_sl_25_2 : sl? Tryd.prog 25 2 = true := by kernel_rfl
theorem g5_fa_33_1_1 : fa? Tryd.prog 33 1 1 = true := by kernel_rfl
theorem g5_one_3 : one? Tryd.prog 3 = true := by kernel_rfl
theorem g5_ent_9 : ent? Tryd.prog 9 = true := by kernel_rfl
theorem g5_fa_33_0_0 : fa? Tryd.prog 33 0 0 = true := by kernel_rfl
theorem g5_one_31 : one? Tryd.prog 31 = true := by kernel_rfl
theorem g5_ent_10 : ent? Tryd.prog 10 = true := by kernel_rfl
theorem g5_follows_mixedOrders : Tryd.prog.follows .mixedOrders = true := by kernel_rfl
theorem g5_ent_11 : ent? Tryd.prog 11 = true := by kernel_rfl
theorem g5_ent_12 : ent? Tryd.prog 12 = true := by kernel_rfl
theorem g5_bool_4 : bool? Tryd.prog 4 = true := by kernel_rfl
theorem g5_ent_13 : ent? Tryd.prog 13 = true := by kernel_rfl
set_option maxHeartbeats 1000000 in
set_option maxRecDepth 100000 in
theorem joins_any (bs : List (List UInt8)) (ws : List Wd) (A A2 A3 D : Option Addr) (c n2 c2 n3 c3 d : Nat) (w : World) (hE : Env w) (hR : Rows2 w A bs) (hrw : kWd.C w D ws.length ws) (hz : ∀ b ∈ bs, b.length ≤ 140737488351232) (hw64 : ∀ x ∈ ws, x.n < 18446744073709551616) (hmx : bs.length ≤ 4611686018427387904) (hmw : ws.length ≤ 4611686018427387904) :
    Calls Tryd.prog 3 #[.agg #[.slice A bs.length c, .slice A2 n2 c2, .slice A3 n3 c3, .slice D ws.length d]] w fun e w' => e = .returned (.bool true) ∧ Below w.heap.size w w' := by
 refine calls_start Tryd.func3 rfl rfl rfl (fun a F => ?_)
 have M : Mm w w [] := Mm.nil w
 refine wp_seq ?_
 refine wp_region_lit ?_
 refine list_do (wn rfl) (fun K hK => ?_)
 refine ow_box F M rfl rfl 27 _ rfl _ (F.e rfl) #[.slice A bs.length c, .slice A2 n2 c2, .slice A3 n3 c3, .slice D ws.length d] rfl ?_
 clear F M a; intro a g1 v F M hb hg
 refine hK _ _ ?_
 clear hK K
 clear hb hg; try clear w
 refine list_val F (wn rfl) rfl rfl (.bool false) (ex_assign _ rfl _ rfl) ?_; clear F a; intro a F
 refine wpList_nil ?_
 replace F : Fr 153 a [(0, .agg #[.slice A bs.length c, .slice A2 n2 c2, .slice A3 n3 c3, .slice D ws.length d]), (1, .pointer (some ⟨g1, 0, none⟩)), (2, .bool false)] := F.keep ⟨rfl, rfl, rfl, trivial⟩
 refine then_n ?_
 refine wp_seq ?_
 refine wp_region_lit ?_
 refine list_val F (wn rfl) rfl rfl (.int .i64 0) (ex_assign _ rfl _ rfl) ?_; clear F a; intro a F
 refine wpList_nil ?_
 replace F : Fr 153 a [(0, .agg #[.slice A bs.length c, .slice A2 n2 c2, .slice A3 n3 c3, .slice D ws.length d]), (1, .pointer (some ⟨g1, 0, none⟩)), (2, .bool false), (3, .int .i64 0)] := F.keep ⟨rfl, rfl, rfl, rfl, trivial⟩
 refine then_n ?_
 refine wp_seq ?_
 refine wp_seq ?_
 refine wp_region_lit ?_
 refine list_val F (wn rfl) rfl rfl (.int .i64 1) (ex_assign _ rfl _ rfl) ?_; clear F a; intro a F
 refine wpList_nil ?_
 replace F : Fr 153 a [(0, .agg #[.slice A bs.length c, .slice A2 n2 c2, .slice A3 n3 c3, .slice D ws.length d]), (1, .pointer (some ⟨g1, 0, none⟩)), (2, .bool false), (3, .int .i64 0), (4, .int .i64 1)] := F.keep ⟨rfl, rfl, rfl, rfl, rfl, trivial⟩
 refine then_n ?_
 refine wp_only (fun ar wr => Fr 153 ar [(0, .agg #[.slice A bs.length c, .slice A2 n2 c2, .slice A3 n3 c3, .slice D ws.length d]), (1, .pointer (some ⟨g1, 0, none⟩)), (2, .bool false)] ∧ Mm w wr [⟨g1, #[.slice A bs.length c, .slice A2 n2 c2, .slice A3 n3 c3, .slice D ws.length d], 27⟩]) ?_ ?_
 ·
  refine wp_block ?_
  refine wp_loopN (fun mq ar wr => ∃ (r : Nat), ∃ (al : Nat), Fr 153 ar [(0, .agg #[.slice A bs.length c, .slice A2 n2 c2, .slice A3 n3 c3, .slice D ws.length d]), (1, .pointer (some ⟨g1, 0, none⟩)), (2, .bool false), (3, .int .i64 ((al : Nat) : Int)), (4, .int .i64 ((r + 1 : Nat) : Int))] ∧ Mm w wr [⟨g1, #[.slice A bs.length c, .slice A2 n2 c2, .slice A3 n3 c3, .slice D ws.length d], 27⟩] ∧ r ≤ bs.length ∧ al ≤ 524288 ∧ mq + r = bs.length) bs.length ?_ ?_
  ·
   exact ⟨0, 0, F.keep ⟨rfl, rfl, rfl, rfl, rfl, trivial⟩, M, (Nat.zero_le _), (by decide), (by omega)⟩
  clear F M a
  rintro mq a u ⟨r, al, F, M, hr_, hal, hq⟩; try clear v
  by_cases hin : r + 1 < bs.length
  ·
   obtain ⟨av, hav⟩ : ∃ x, bs[r]? = some x := ⟨_, List.getElem?_eq_getElem (by omega)⟩
   obtain ⟨adav, Bav, cav, hAav, zav, hCav, hcav⟩ := hR r av hav
   have hzav := hz av (List.mem_of_getElem? hav)
   obtain ⟨bv, hbv⟩ : ∃ x, bs[(r + 1)]? = some x := ⟨_, List.getElem?_eq_getElem (by omega)⟩
   obtain ⟨adbv, Bbv, cbv, hAbv, zbv, hCbv, hcbv⟩ := hR (r + 1) bv hbv
   have hzbv := hz bv (List.mem_of_getElem? hbv)
   subst hAav
   obtain rfl := Option.some.inj hAbv
   refine wp_seq ?_
   refine wp_seq ?_
   refine wp_region_lit ?_
   refine list_val F (wn rfl) rfl rfl (.int .i64 ((r + 1 : Nat) : Int)) (ex_move _ rfl _ (F.e rfl)) ?_; clear F a; intro a F
   refine list_val F (wn rfl) rfl rfl (.pointer (some ⟨g1, 0, none⟩)) (ex_fa _ _ _ rfl _ (F.e rfl) 0 g5_fa_27_0_0 ⟨g1, 0, none⟩ rfl) ?_; clear F a; intro a F
   refine list_val F (wn rfl) rfl rfl (.slice (some adav) bs.length c) (ex_load _ _ rfl _ (F.e rfl) _ (lv1 g5_one_22 (M.cell (i := 0) rfl (j := 0) rfl))) ?_; clear F a; intro a F
   refine list_val F (wn rfl) rfl rfl (.int .i64 ((bs.length : Nat) : Int)) (ex_len _ _ rfl 1 g5_sl_22_1 _ _ _ (F.e rfl)) ?_; clear F a; intro a F
   refine list_val F (wn rfl) rfl rfl (.bool true) (ex_bin .lss _ _ _ _ rfl .i64 _ _ (F.e rfl) (F.e rfl) _ (b_lss (decide_eq_true (by omega)))) ?_; clear F a; intro a F
   refine wpList_nil ?_
   replace F : Fr 153 a [(0, .agg #[.slice (some adav) bs.length c, .slice A2 n2 c2, .slice A3 n3 c3, .slice D ws.length d]), (1, .pointer (some ⟨g1, 0, none⟩)), (2, .bool false), (3, .int .i64 ((al : Nat) : Int)), (4, .int .i64 ((r + 1 : Nat) : Int)), (20, .bool true)] := F.keep ⟨rfl, rfl, rfl, rfl, rfl, rfl, trivial⟩
   refine then_n ?_
   refine wp_cond_true (F.e rfl) ?_
   refine wp_skip ?_
   refine then_n ?_
   refine wp_seq ?_
   refine wp_block ?_
   refine wp_seq ?_
   refine wp_region_lit ?_
   refine list_val F (wn rfl) rfl rfl (.pointer (some ⟨g1, 0, none⟩)) (ex_fa _ _ _ rfl _ (F.e rfl) 0 g5_fa_27_0_0 ⟨g1, 0, none⟩ rfl) ?_; clear F a; intro a F
   refine list_val F (wn rfl) rfl rfl (.slice (some adav) bs.length c) (ex_load _ _ rfl _ (F.e rfl) _ (lv1 g5_one_22 (M.cell (i := 0) rfl (j := 0) rfl))) ?_; clear F a; intro a F
   refine list_val F (wn rfl) rfl rfl (.int .i64 ((r + 1 : Nat) : Int)) (ex_move _ rfl _ (F.e rfl)) ?_; clear F a; intro a F
   refine list_val F (wn rfl) rfl rfl (.int .i64 ((r : Nat) : Int)) (ex_bin .sub _ _ _ _ rfl .i64 _ _ (F.e rfl) rfl _ (b_sub ((w_i64 (by omega) (by omega)).trans (by omega)))) ?_; clear F a; intro a F
   refine list_val F (wn rfl) rfl rfl (.pointer (some (adav.add (r * 1)))) (ex_ix _ _ _ rfl 1 g5_sl_22_1 adav _ _ (F.e rfl) .i64 _ (F.e rfl) r rfl (by omega) (adav.add (r * 1)) rfl) ?_; clear F a; intro a F
   refine list_val F (wn rfl) rfl rfl (.slice Bav av.length cav) (ex_load _ _ rfl _ (F.e rfl) _ (lv1 g5_one_28 ((zav.below M.bel).cell 0 _ rfl))) ?_; clear F a; intro a F
   refine list_val F (wn rfl) rfl rfl (.slice Bav av.length cav) (ex_assign _ rfl _ (F.e rfl)) ?_; clear F a; intro a F
   refine wpList_nil ?_
   replace F : Fr 153 a [(0, .agg #[.slice (some adav) bs.length c, .slice A2 n2 c2, .slice A3 n3 c3, .slice D ws.length d]), (1, .pointer (some ⟨g1, 0, none⟩)), (2, .bool false), (3, .int .i64 ((al : Nat) : Int)), (4, .int .i64 ((r + 1 : Nat) : Int)), (5, .slice Bav av.length cav), (20, .bool true)] := F.keep ⟨rfl, rfl, rfl, rfl, rfl, rfl, rfl, trivial⟩
   refine then_n ?_
   refine wp_seq ?_
   refine wp_region_lit ?_
   refine list_val F (wn rfl) rfl rfl (.pointer (some ⟨g1, 0, none⟩)) (ex_fa _ _ _ rfl _ (F.e rfl) 0 g5_fa_27_0_0 ⟨g1, 0, none⟩ rfl) ?_; clear F a; intro a F
   refine list_val F (wn rfl) rfl rfl (.slice (some adav) bs.length c) (ex_load _ _ rfl _ (F.e rfl) _ (lv1 g5_one_22 (M.cell (i := 0) rfl (j := 0) rfl))) ?_; clear F a; intro a F
   refine list_val F (wn rfl) rfl rfl (.int .i64 ((r + 1 : Nat) : Int)) (ex_move _ rfl _ (F.e rfl)) ?_; clear F a; intro a F
   refine list_val F (wn rfl) rfl rfl (.pointer (some (adav.add ((r + 1) * 1)))) (ex_ix _ _ _ rfl 1 g5_sl_22_1 adav _ _ (F.e rfl) .i64 _ (F.e rfl) (r + 1) rfl (by omega) (adav.add ((r + 1) * 1)) rfl) ?_; clear F a; intro a F
   refine list_val F (wn rfl) rfl rfl (.slice Bbv bv.length cbv) (ex_load _ _ rfl _ (F.e rfl) _ (lv1 g5_one_28 ((zbv.below M.bel).cell 0 _ rfl))) ?_; clear F a; intro a F
   refine list_val F (wn rfl) rfl rfl (.slice Bbv bv.length cbv) (ex_assign _ rfl _ (F.e rfl)) ?_; clear F a; intro a F
   refine wpList_nil ?_
   replace F : Fr 153 a [(0, .agg #[.slice (some adav) bs.length c, .slice A2 n2 c2, .slice A3 n3 c3, .slice D ws.length d]), (1, .pointer (some ⟨g1, 0, none⟩)), (2, .bool false), (3, .int .i64 ((al : Nat) : Int)), (4, .int .i64 ((r + 1 : Nat) : Int)), (5, .slice Bav av.length cav), (6, .slice Bbv bv.length cbv), (20, .bool true)] := F.keep ⟨rfl, rfl, rfl, rfl, rfl, rfl, rfl, rfl, trivial⟩
   refine then_n ?_
   refine wp_seq ?_
   refine wp_region_lit ?_
   refine list_val F (wn rfl) rfl rfl (.int .i64 ((al : Nat) : Int)) (ex_move _ rfl _ (F.e rfl)) ?_; clear F a; intro a F
   refine list_val F (wn rfl) rfl rfl (.slice Bav av.length cav) (ex_move _ rfl _ (F.e rfl)) ?_; clear F a; intro a F
   refine list_val F (wn rfl) rfl rfl (.int .i64 ((av.length : Nat) : Int)) (ex_len _ _ rfl 1 g5_sl_28_1 _ _ _ (F.e rfl)) ?_; clear F a; intro a F
   refine list_val F (wn rfl) rfl rfl (.int .i64 ((al + av.length : Nat) : Int)) (ex_bin .add _ _ _ _ rfl .i64 _ _ (F.e rfl) (F.e rfl) _ (b_add ((w_i64 (by omega) (by omega)).trans (by omega)))) ?_; clear F a; intro a F
   refine list_val F (wn rfl) rfl rfl (.slice Bbv bv.length cbv) (ex_move _ rfl _ (F.e rfl)) ?_; clear F a; intro a F
   refine list_val F (wn rfl) rfl rfl (.int .i64 ((bv.length : Nat) : Int)) (ex_len _ _ rfl 1 g5_sl_28_1 _ _ _ (F.e rfl)) ?_; clear F a; intro a F
   refine list_val F (wn rfl) rfl rfl (.int .i64 ((al + av.length + bv.length : Nat) : Int)) (ex_bin .add _ _ _ _ rfl .i64 _ _ (F.e rfl) (F.e rfl) _ (b_add ((w_i64 (by omega) (by omega)).trans (by omega)))) ?_; clear F a; intro a F
   refine list_val F (wn rfl) rfl rfl (.int .i64 ((al + av.length + bv.length + 1 : Nat) : Int)) (ex_bin .add _ _ _ _ rfl .i64 _ _ (F.e rfl) rfl _ (b_add ((w_i64 (by omega) (by omega)).trans (by omega)))) ?_; clear F a; intro a F
   refine list_val F (wn rfl) rfl rfl (.int .i64 ((al + av.length + bv.length + 1 : Nat) : Int)) (ex_assign _ rfl _ (F.e rfl)) ?_; clear F a; intro a F
   refine wpList_nil ?_
   replace F : Fr 153 a [(0, .agg #[.slice (some adav) bs.length c, .slice A2 n2 c2, .slice A3 n3 c3, .slice D ws.length d]), (1, .pointer (some ⟨g1, 0, none⟩)), (2, .bool false), (3, .int .i64 ((al + av.length + bv.length + 1 : Nat) : Int)), (4, .int .i64 ((r + 1 : Nat) : Int)), (5, .slice Bav av.length cav), (6, .slice Bbv bv.length cbv), (20, .bool true)] := F.keep ⟨rfl, rfl, rfl, rfl, rfl, rfl, rfl, rfl, trivial⟩
   refine then_n ?_
   refine wp_seq ?_
   refine wp_seq ?_
   by_cases hbig : 524288 < al + av.length + bv.length + 1
   ·
    refine wp_region_lit ?_
    refine list_val F (wn rfl) rfl rfl (.int .i64 ((al + av.length + bv.length + 1 : Nat) : Int)) (ex_move _ rfl _ (F.e rfl)) ?_; clear F a; intro a F
    refine list_val F (wn rfl) rfl rfl (.bool true) (ex_bin .gtr _ _ _ _ rfl .i64 _ _ (F.e rfl) rfl _ (b_gtr (decide_eq_true (by omega)))) ?_; clear F a; intro a F
    refine wpList_nil ?_
    replace F : Fr 153 a [(0, .agg #[.slice (some adav) bs.length c, .slice A2 n2 c2, .slice A3 n3 c3, .slice D ws.length d]), (1, .pointer (some ⟨g1, 0, none⟩)), (2, .bool false), (3, .int .i64 ((al + av.length + bv.length + 1 : Nat) : Int)), (4, .int .i64 ((r + 1 : Nat) : Int)), (5, .slice Bav av.length cav), (6, .slice Bbv bv.length cbv), (20, .bool true), (43, .bool true)] := F.keep ⟨rfl, rfl, rfl, rfl, rfl, rfl, rfl, rfl, rfl, trivial⟩
    refine then_n ?_
    refine wp_cond_true (F.e rfl) ?_
    refine wp_exit ?_
    refine then_x ?_
    refine in_miss rfl ?_
    refine then_x ?_
    refine then_x ?_
    refine in_hit ?_
    refine only_n ?_
    exact ⟨F.keep ⟨rfl, rfl, rfl, trivial⟩, (by refine M.pick' [0] _ ?_ (by decide); exact ⟨rfl, trivial⟩)⟩
   have hCc := C_take3 hCav
   have h16a := hex16_len av
   have h16b := hex16_len bv
   have hea := enc_len sUrl (av.take (av.length / 3 * 3))
   have heb := enc_len sUrl bv
   have hpa := enc_len sPlain (av.take (av.length / 3 * 3))
   have hpb := enc_len sPlain bv
   have htk : (av.take (av.length / 3 * 3)).length ≤ av.length := by rw [List.length_take]; omega
   refine wp_region_lit ?_
   refine list_val F (wn rfl) rfl rfl (.int .i64 ((al + av.length + bv.length + 1 : Nat) : Int)) (ex_move _ rfl _ (F.e rfl)) ?_; clear F a; intro a F
   refine list_val F (wn rfl) rfl rfl (.bool false) (ex_bin .gtr _ _ _ _ rfl .i64 _ _ (F.e rfl) rfl _ (b_gtr (decide_eq_false (by omega)))) ?_; clear F a; intro a F
   refine wpList_nil ?_
   replace F : Fr 153 a [(0, .agg #[.slice (some adav) bs.length c, .slice A2 n2 c2, .slice A3 n3 c3, .slice D ws.length d]), (1, .pointer (some ⟨g1, 0, none⟩)), (2, .bool false), (3, .int .i64 ((al + av.length + bv.length + 1 : Nat) : Int)), (4, .int .i64 ((r + 1 : Nat) : Int)), (5, .slice Bav av.length cav), (6, .slice Bbv bv.length cbv), (20, .bool true), (43, .bool false)] := F.keep ⟨rfl, rfl, rfl, rfl, rfl, rfl, rfl, rfl, rfl, trivial⟩
   refine then_n ?_
   refine wp_cond_false (F.e rfl) ?_
   refine wp_skip ?_
   refine then_n ?_
   refine wp_seq ?_
   refine wp_region_lit ?_
   refine list_do (wn rfl) (fun K hK => ?_)
   refine ow_bslice F M rfl rfl 28 0 _ rfl #[] parts0 ((([] : List UInt8).flatMap ST.bc).toArray) 5 (newby0  _) ?_
   clear F M a; intro a g44 v F M hb hg
   refine hK _ _ ?_
   clear hK K
   clear hb hg; try clear u
   refine list_val F (wn rfl) rfl rfl (.slice Bav av.length cav) (ex_move _ rfl _ (F.e rfl)) ?_; clear F a; intro a F
   refine list_do (wn rfl) (fun K hK => ?_)
   have O_x := own_emptyB M
   replace M : Mm w v [⟨g1, #[.slice (some adav) bs.length c, .slice A2 n2 c2, .slice A3 n3 c3, .slice D ws.length d], 27⟩] := (by refine M.pick' [1] _ ?_ (by decide); exact ⟨rfl, trivial⟩)
   refine og_app F M Tryd.underlying28 i5 z5s (by decide) (by decide) (Nat.le_refl _) M.bel.size ⟨.inl (by show (27 : Nat) ≠ 5; decide), trivial⟩ rfl rfl rfl _ _ rfl (.slice (some ⟨g44, 0, none⟩) 0 0) ([] : List UInt8) av av rfl Bav av.length cav (F.e rfl) (F.e rfl) O_x ((Kd.C_below hCav M.bel)) (by first | omega | (simp only [List.length_nil, List.length_take]; omega)) ?_
   clear F a; have Mo := M; clear M; intro a A_46 c_46 u F M Oz hgr
   refine hK _ _ ?_
   clear hK K
   clear O_x Mo hgr; have O_x := Oz; clear Oz; try clear v
   refine list_val F (wn rfl) rfl rfl (.slice Bbv bv.length cbv) (ex_move _ rfl _ (F.e rfl)) ?_; clear F a; intro a F
   refine list_do (wn rfl) (fun K hK => ?_)
   replace M : Mm w u [⟨g1, #[.slice (some adav) bs.length c, .slice A2 n2 c2, .slice A3 n3 c3, .slice D ws.length d], 27⟩] := (by refine M.pick' [0] _ ?_ (by decide); exact ⟨rfl, trivial⟩)
   refine og_app F M Tryd.underlying28 i5 z5s (by decide) (by decide) (Nat.le_refl _) M.bel.size ⟨.inl (by show (27 : Nat) ≠ 5; decide), trivial⟩ rfl rfl rfl _ _ rfl (.slice A_46 av.length c_46) av bv (av ++ bv) rfl Bbv bv.length cbv (F.e rfl) (F.e rfl) O_x ((Kd.C_below hCbv M.bel)) (by first | omega | (simp only [List.length_nil, List.length_take]; omega)) ?_
   clear F a; have Mo := M; clear M; intro a A_48 c_48 v F M Oz hgr
   refine hK _ _ ?_
   clear hK K
   clear O_x Mo hgr; have O_x := Oz; clear Oz; try clear u
   refine list_val F (wn rfl) rfl rfl (.slice A_48 ((av ++ bv).length) c_48) (ex_assign _ rfl _ (F.e rfl)) ?_; clear F a; intro a F
   refine wpList_nil ?_
   replace F : Fr 153 a [(0, .agg #[.slice (some adav) bs.length c, .slice A2 n2 c2, .slice A3 n3 c3, .slice D ws.length d]), (1, .pointer (some ⟨g1, 0, none⟩)), (2, .bool false), (3, .int .i64 ((al + av.length + bv.length + 1 : Nat) : Int)), (4, .int .i64 ((r + 1 : Nat) : Int)), (5, .slice Bav av.length cav), (6, .slice Bbv bv.length cbv), (7, .slice A_48 ((av ++ bv).length) c_48), (20, .bool true), (43, .bool false)] := F.keep ⟨rfl, rfl, rfl, rfl, rfl, rfl, rfl, rfl, rfl, rfl, trivial⟩
   refine then_n ?_
   refine wp_seq ?_
   refine wp_seq ?_
   refine wp_region_lit ?_
   refine list_val F (wn rfl) rfl rfl (.slice A_48 ((av ++ bv).length) c_48) (ex_move _ rfl _ (F.e rfl)) ?_; clear F a; intro a F
   refine list_do (wn rfl) (fun K hK => ?_)
   refine ow_call rfl rfl F 6 #[.slice A_48 ((av ++ bv).length) c_48] (ex_call 6 _ _ rfl rfl g5_ent_6 _ (map1 (F.e rfl))) (text16_any (av ++ bv) _ _ _ (O_x.rd.1) O_x.rd.2.2 (by first | omega | (simp only [List.length_append]; omega))) (fun e u hR => ?_)
   obtain ⟨he, hb⟩ := hR
   refine ⟨.string (ST.str (hex16 (av ++ bv))), he, ?_⟩; clear he F a; intro a F
   refine hK _ _ ?_
   clear hK K
   replace O_x := O_x.below hb
   replace M := M.below hb; clear hb; try clear v
   refine list_val F (wn rfl) rfl rfl (.slice Bav av.length cav) (ex_move _ rfl _ (F.e rfl)) ?_; clear F a; intro a F
   refine list_do (wn rfl) (fun K hK => ?_)
   refine ow_call rfl rfl F 6 #[.slice Bav av.length cav] (ex_call 6 _ _ rfl rfl g5_ent_6 _ (map1 (F.e rfl))) (text16_any av _ _ _ ((Kd.C_below hCav M.bel)) hcav (by first | omega | (simp only [List.length_append]; omega))) (fun e v hR => ?_)
   obtain ⟨he, hb⟩ := hR
   refine ⟨.string (ST.str (hex16 av)), he, ?_⟩; clear he F a; intro a F
   refine hK _ _ ?_
   clear hK K
   replace O_x := O_x.below hb
   replace M := M.below hb; clear hb; try clear u
   refine list_val F (wn rfl) rfl rfl (.slice Bbv bv.length cbv) (ex_move _ rfl _ (F.e rfl)) ?_; clear F a; intro a F
   refine list_do (wn rfl) (fun K hK => ?_)
   refine ow_call rfl rfl F 6 #[.slice Bbv bv.length cbv] (ex_call 6 _ _ rfl rfl g5_ent_6 _ (map1 (F.e rfl))) (text16_any bv _ _ _ ((Kd.C_below hCbv M.bel)) hcbv (by first | omega | (simp only [List.length_append]; omega))) (fun e u hR => ?_)
   obtain ⟨he, hb⟩ := hR
   refine ⟨.string (ST.str (hex16 bv)), he, ?_⟩; clear he F a; intro a F
   refine hK _ _ ?_
   clear hK K
   replace O_x := O_x.below hb
   replace M := M.below hb; clear hb; try clear v
   refine list_val F (wn rfl) rfl rfl (.string (ST.str ((hex16 av) ++ (hex16 bv)))) (ST.ex_adds _ _ _ _ rfl (hex16 av) (hex16 bv) (F.e rfl) (F.e rfl) (by omega) ((hex16 av) ++ (hex16 bv)) rfl) ?_; clear F a; intro a F
   refine list_val F (wn rfl) rfl rfl (.bool false) (ST.ex_neqs _ _ _ _ rfl (hex16 (av ++ bv)) ((hex16 av) ++ (hex16 bv)) (F.e rfl) (F.e rfl) false (by rw [hex16_app]; simp)) ?_; clear F a; intro a F
   refine wpList_nil ?_
   replace F : Fr 153 a [(0, .agg #[.slice (some adav) bs.length c, .slice A2 n2 c2, .slice A3 n3 c3, .slice D ws.length d]), (1, .pointer (some ⟨g1, 0, none⟩)), (2, .bool false), (3, .int .i64 ((al + av.length + bv.length + 1 : Nat) : Int)), (4, .int .i64 ((r + 1 : Nat) : Int)), (5, .slice Bav av.length cav), (6, .slice Bbv bv.length cbv), (7, .slice A_48 ((av ++ bv).length) c_48), (20, .bool true), (43, .bool false), (56, .bool false)] := F.keep ⟨rfl, rfl, rfl, rfl, rfl, rfl, rfl, rfl, rfl, rfl, rfl, trivial⟩
   refine then_n ?_
   refine wp_cond_false (F.e rfl) ?_
   refine wp_skip ?_
   refine then_n ?_
   refine wp_seq ?_
   clear O_x
   refine wp_region_lit ?_
   refine list_val F (wn rfl) rfl rfl (.slice Bav av.length cav) (ex_move _ rfl _ (F.e rfl)) ?_; clear F a; intro a F
   refine list_val F (wn rfl) rfl rfl (.slice Bav av.length cav) (ex_move _ rfl _ (F.e rfl)) ?_; clear F a; intro a F
   refine list_val F (wn rfl) rfl rfl (.int .i64 ((av.length : Nat) : Int)) (ex_len _ _ rfl 1 g5_sl_28_1 _ _ _ (F.e rfl)) ?_; clear F a; intro a F
   refine list_val F (wn rfl) rfl rfl (.int .i64 ((av.length / 3 : Nat) : Int)) (ex_bin .quo _ _ _ _ rfl .i64 _ _ (F.e rfl) rfl _ (b_quo (by decide) (i_quo _ 3 (by omega)))) ?_; clear F a; intro a F
   refine list_val F (wn rfl) rfl rfl (.int .i64 ((av.length / 3 * 3 : Nat) : Int)) (ex_bin .mul _ _ _ _ rfl .i64 _ _ (F.e rfl) rfl _ (b_mul ((w_i64 (by omega) (by omega)).trans (by omega)))) ?_; clear F a; intro a F
   refine list_val F (wn rfl) rfl rfl (.slice Bav ((av.take (av.length / 3 * 3)).length) cav) (ex_cutto 28 5 1 Tryd.underlying28 s5 _ _ rfl Bav av.length cav (F.e rfl) _ (F.e rfl) (av.take (av.length / 3 * 3)).length (by rw [List.length_take]; omega) (by rw [List.length_take]; omega)) ?_; clear F a; intro a F
   refine list_val F (wn rfl) rfl rfl (.slice Bav ((av.take (av.length / 3 * 3)).length) cav) (ex_assign _ rfl _ (F.e rfl)) ?_; clear F a; intro a F
   refine wpList_nil ?_
   replace F : Fr 153 a [(0, .agg #[.slice (some adav) bs.length c, .slice A2 n2 c2, .slice A3 n3 c3, .slice D ws.length d]), (1, .pointer (some ⟨g1, 0, none⟩)), (2, .bool false), (3, .int .i64 ((al + av.length + bv.length + 1 : Nat) : Int)), (4, .int .i64 ((r + 1 : Nat) : Int)), (5, .slice Bav av.length cav), (6, .slice Bbv bv.length cbv), (7, .slice A_48 ((av ++ bv).length) c_48), (8, .slice Bav ((av.take (av.length / 3 * 3)).length) cav), (20, .bool true), (43, .bool false), (56, .bool false)] := F.keep ⟨rfl, rfl, rfl, rfl, rfl, rfl, rfl, rfl, rfl, rfl, rfl, rfl, trivial⟩
   refine then_n ?_
   refine wp_seq ?_
   refine wp_region_lit ?_
   refine list_do (wn rfl) (fun K hK => ?_)
   refine ow_bslice F M rfl rfl 28 0 _ rfl #[] parts0 ((([] : List UInt8).flatMap ST.bc).toArray) 5 (newby0  _) ?_
   clear F M a; intro a g63 v F M hb hg
   refine hK _ _ ?_
   clear hK K
   clear hb hg; try clear u
   refine list_val F (wn rfl) rfl rfl (.slice Bav ((av.take (av.length / 3 * 3)).length) cav) (ex_move _ rfl _ (F.e rfl)) ?_; clear F a; intro a F
   refine list_do (wn rfl) (fun K hK => ?_)
   have O_x := own_emptyB M
   replace M : Mm w v [⟨g1, #[.slice (some adav) bs.length c, .slice A2 n2 c2, .slice A3 n3 c3, .slice D ws.length d], 27⟩] := (by refine M.pick' [1] _ ?_ (by decide); exact ⟨rfl, trivial⟩)
   refine og_app F M Tryd.underlying28 i5 z5s (by decide) (by decide) (Nat.le_refl _) M.bel.size ⟨.inl (by show (27 : Nat) ≠ 5; decide), trivial⟩ rfl rfl rfl _ _ rfl (.slice (some ⟨g63, 0, none⟩) 0 0) ([] : List UInt8) (av.take (av.length / 3 * 3)) (av.take (av.length / 3 * 3)) rfl Bav ((av.take (av.length / 3 * 3)).length) cav (F.e rfl) (F.e rfl) O_x ((Kd.C_below hCc M.bel)) (by first | omega | (simp only [List.length_nil, List.length_take]; omega)) ?_
   clear F a; have Mo := M; clear M; intro a A_65 c_65 u F M Oz hgr
   refine hK _ _ ?_
   clear hK K
   clear O_x Mo hgr; have O_x := Oz; clear Oz; try clear v
   refine list_val F (wn rfl) rfl rfl (.slice Bbv bv.length cbv) (ex_move _ rfl _ (F.e rfl)) ?_; clear F a; intro a F
   refine list_do (wn rfl) (fun K hK => ?_)
   replace M : Mm w u [⟨g1, #[.slice (some adav) bs.length c, .slice A2 n2 c2, .slice A3 n3 c3, .slice D ws.length d], 27⟩] := (by refine M.pick' [0] _ ?_ (by decide); exact ⟨rfl, trivial⟩)
   refine og_app F M Tryd.underlying28 i5 z5s (by decide) (by decide) (Nat.le_refl _) M.bel.size ⟨.inl (by show (27 : Nat) ≠ 5; decide), trivial⟩ rfl rfl rfl _ _ rfl (.slice A_65 ((av.take (av.length / 3 * 3)).length) c_65) (av.take (av.length / 3 * 3)) bv (av.take (av.length / 3 * 3) ++ bv) rfl Bbv bv.length cbv (F.e rfl) (F.e rfl) O_x ((Kd.C_below hCbv M.bel)) (by first | omega | (simp only [List.length_nil, List.length_take]; omega)) ?_
   clear F a; have Mo := M; clear M; intro a A_67 c_67 v F M Oz hgr
   refine hK _ _ ?_
   clear hK K
   clear O_x Mo hgr; have O_x := Oz; clear Oz; try clear u
   refine list_val F (wn rfl) rfl rfl (.slice A_67 ((av.take (av.length / 3 * 3) ++ bv).length) c_67) (ex_assign _ rfl _ (F.e rfl)) ?_; clear F a; intro a F
   refine wpList_nil ?_
   replace F : Fr 153 a [(0, .agg #[.slice (some adav) bs.length c, .slice A2 n2 c2, .slice A3 n3 c3, .slice D ws.length d]), (1, .pointer (some ⟨g1, 0, none⟩)), (2, .bool false), (3, .int .i64 ((al + av.length + bv.length + 1 : Nat) : Int)), (4, .int .i64 ((r + 1 : Nat) : Int)), (5, .slice Bav av.length cav), (6, .slice Bbv bv.length cbv), (7, .slice A_48 ((av ++ bv).length) c_48), (8, .slice Bav ((av.take (av.length / 3 * 3)).length) cav), (9, .slice A_67 ((av.take (av.length / 3 * 3) ++ bv).length) c_67), (20, .bool true), (43, .bool false), (56, .bool false)] := F.keep ⟨rfl, rfl, rfl, rfl, rfl, rfl, rfl, rfl, rfl, rfl, rfl, rfl, rfl, trivial⟩
   refine then_n ?_
   refine wp_seq ?_
   refine wp_region_lit ?_
   refine list_val F (wn rfl) rfl rfl (.slice A_67 ((av.take (av.length / 3 * 3) ++ bv).length) c_67) (ex_move _ rfl _ (F.e rfl)) ?_; clear F a; intro a F
   refine list_do (wn rfl) (fun K hK => ?_)
   refine ow_call rfl rfl F 7 #[.slice A_67 ((av.take (av.length / 3 * 3) ++ bv).length) c_67] (ex_call 7 _ _ rfl rfl g5_ent_7 _ (map1 (F.e rfl))) (text64_any (av.take (av.length / 3 * 3) ++ bv) _ _ _ (O_x.rd.1) O_x.rd.2.2 (by first | omega | (simp only [List.length_append]; omega))) (fun e u hR => ?_)
   obtain ⟨he, hb⟩ := hR
   refine ⟨.string (ST.str (enc sUrl (av.take (av.length / 3 * 3) ++ bv))), he, ?_⟩; clear he F a; intro a F
   refine hK _ _ ?_
   clear hK K
   replace O_x := O_x.below hb
   replace M := M.below hb; clear hb; try clear v
   refine list_val F (wn rfl) rfl rfl (.slice Bav ((av.take (av.length / 3 * 3)).length) cav) (ex_move _ rfl _ (F.e rfl)) ?_; clear F a; intro a F
   refine list_do (wn rfl) (fun K hK => ?_)
   refine ow_call rfl rfl F 7 #[.slice Bav ((av.take (av.length / 3 * 3)).length) cav] (ex_call 7 _ _ rfl rfl g5_ent_7 _ (map1 (F.e rfl))) (text64_any (av.take (av.length / 3 * 3)) _ _ _ ((Kd.C_below hCc M.bel)) (by omega) (by first | omega | (simp only [List.length_append]; omega))) (fun e v hR => ?_)
   obtain ⟨he, hb⟩ := hR
   refine ⟨.string (ST.str (enc sUrl (av.take (av.length / 3 * 3)))), he, ?_⟩; clear he F a; intro a F
   refine hK _ _ ?_
   clear hK K
   replace O_x := O_x.below hb
   replace M := M.below hb; clear hb; try clear u
   refine list_val F (wn rfl) rfl rfl (.slice Bbv bv.length cbv) (ex_move _ rfl _ (F.e rfl)) ?_; clear F a; intro a F
   refine list_do (wn rfl) (fun K hK => ?_)
   refine ow_call rfl rfl F 7 #[.slice Bbv bv.length cbv] (ex_call 7 _ _ rfl rfl g5_ent_7 _ (map1 (F.e rfl))) (text64_any bv _ _ _ ((Kd.C_below hCbv M.bel)) hcbv (by first | omega | (simp only [List.length_append]; omega))) (fun e u hR => ?_)
   obtain ⟨he, hb⟩ := hR
   refine ⟨.string (ST.str (enc sUrl bv)), he, ?_⟩; clear he F a; intro a F
   refine hK _ _ ?_
   clear hK K
   replace O_x := O_x.below hb
   replace M := M.below hb; clear hb; try clear v
   refine list_val F (wn rfl) rfl rfl (.string (ST.str ((enc sUrl (av.take (av.length / 3 * 3))) ++ (enc sUrl bv)))) (ST.ex_adds _ _ _ _ rfl (enc sUrl (av.take (av.length / 3 * 3))) (enc sUrl bv) (F.e rfl) (F.e rfl) (by omega) ((enc sUrl (av.take (av.length / 3 * 3))) ++ (enc sUrl bv)) rfl) ?_; clear F a; intro a F
   refine list_val F (wn rfl) rfl rfl (.bool false) (ST.ex_neqs _ _ _ _ rfl (enc sUrl (av.take (av.length / 3 * 3) ++ bv)) ((enc sUrl (av.take (av.length / 3 * 3))) ++ (enc sUrl bv)) (F.e rfl) (F.e rfl) false (by rw [enc_third]; simp)) ?_; clear F a; intro a F
   refine list_val F (wn rfl) rfl rfl (.bool false) (ex_move _ rfl _ (F.e rfl)) ?_; clear F a; intro a F
   refine list_val F (F.wants 76 false rfl (by kernel_rfl) rfl true rfl) rfl rfl (.slice A_67 ((av.take (av.length / 3 * 3) ++ bv).length) c_67) (ex_move _ rfl _ (F.e rfl)) ?_; clear F a; intro a F
   refine list_do (F.wants 76 false rfl (by kernel_rfl) rfl true rfl) (fun K hK => ?_)
   refine ow_call rfl rfl F 8 #[.slice A_67 ((av.take (av.length / 3 * 3) ++ bv).length) c_67] (ex_call 8 _ _ rfl rfl g5_ent_8 _ (map1 (F.e rfl))) (textPad_any (av.take (av.length / 3 * 3) ++ bv) _ _ _ (O_x.rd.1) O_x.rd.2.2 (by first | omega | (simp only [List.length_append]; omega))) (fun e v hR => ?_)
   obtain ⟨he, hb⟩ := hR
   refine ⟨.string (ST.str (encPad (av.take (av.length / 3 * 3) ++ bv))), he, ?_⟩; clear he F a; intro a F
   refine hK _ _ ?_
   clear hK K
   replace O_x := O_x.below hb
   replace M := M.below hb; clear hb; try clear u
   refine list_val F (F.wants 76 false rfl (by kernel_rfl) rfl true rfl) rfl rfl (.slice Bav ((av.take (av.length / 3 * 3)).length) cav) (ex_move _ rfl _ (F.e rfl)) ?_; clear F a; intro a F
   refine list_do (F.wants 76 false rfl (by kernel_rfl) rfl true rfl) (fun K hK => ?_)
   refine ow_call rfl rfl F 8 #[.slice Bav ((av.take (av.length / 3 * 3)).length) cav] (ex_call 8 _ _ rfl rfl g5_ent_8 _ (map1 (F.e rfl))) (textPad_any (av.take (av.length / 3 * 3)) _ _ _ ((Kd.C_below hCc M.bel)) (by omega) (by first | omega | (simp only [List.length_append]; omega))) (fun e u hR => ?_)
   obtain ⟨he, hb⟩ := hR
   refine ⟨.string (ST.str (encPad (av.take (av.length / 3 * 3)))), he, ?_⟩; clear he F a; intro a F
   refine hK _ _ ?_
   clear hK K
   replace O_x := O_x.below hb
   replace M := M.below hb; clear hb; try clear v
   refine list_val F (F.wants 76 false rfl (by kernel_rfl) rfl true rfl) rfl rfl (.slice Bbv bv.length cbv) (ex_move _ rfl _ (F.e rfl)) ?_; clear F a; intro a F
   refine list_do (F.wants 76 false rfl (by kernel_rfl) rfl true rfl) (fun K hK => ?_)
   refine ow_call rfl rfl F 8 #[.slice Bbv bv.length cbv] (ex_call 8 _ _ rfl rfl g5_ent_8 _ (map1 (F.e rfl))) (textPad_any bv _ _ _ ((Kd.C_below hCbv M.bel)) hcbv (by first | omega | (simp only [List.length_append]; omega))) (fun e v hR => ?_)
   obtain ⟨he, hb⟩ := hR
   refine ⟨.string (ST.str (encPad bv)), he, ?_⟩; clear he F a; intro a F
   refine hK _ _ ?_
   clear hK K
   replace O_x := O_x.below hb
   replace M := M.below hb; clear hb; try clear u
   refine list_val F (F.wants 76 false rfl (by kernel_rfl) rfl true rfl) rfl rfl (.string (ST.str ((encPad (av.take (av.length / 3 * 3))) ++ (encPad bv)))) (ST.ex_adds _ _ _ _ rfl (encPad (av.take (av.length / 3 * 3))) (encPad bv) (F.e rfl) (F.e rfl) (by unfold encPad padN; simp only [List.length_append, Lib.repeatL_length, List.length_cons, List.length_nil]; omega) ((encPad (av.take (av.length / 3 * 3))) ++ (encPad bv)) rfl) ?_; clear F a; intro a F
   refine list_val F (F.wants 76 false rfl (by kernel_rfl) rfl true rfl) rfl rfl (.bool false) (ST.ex_neqs _ _ _ _ rfl (encPad (av.take (av.length / 3 * 3) ++ bv)) ((encPad (av.take (av.length / 3 * 3))) ++ (encPad bv)) (F.e rfl) (F.e rfl) false (by rw [pad_third]; simp)) ?_; clear F a; intro a F
   refine list_val F (wn rfl) rfl rfl (.bool false) (ex_pick_f _ _ _ rfl (F.e rfl) _ (F.e rfl)) ?_; clear F a; intro a F
   refine wpList_nil ?_
   replace F : Fr 153 a [(0, .agg #[.slice (some adav) bs.length c, .slice A2 n2 c2, .slice A3 n3 c3, .slice D ws.length d]), (1, .pointer (some ⟨g1, 0, none⟩)), (2, .bool false), (3, .int .i64 ((al + av.length + bv.length + 1 : Nat) : Int)), (4, .int .i64 ((r + 1 : Nat) : Int)), (5, .slice Bav av.length cav), (6, .slice Bbv bv.length cbv), (7, .slice A_48 ((av ++ bv).length) c_48), (8, .slice Bav ((av.take (av.length / 3 * 3)).length) cav), (9, .slice A_67 ((av.take (av.length / 3 * 3) ++ bv).length) c_67), (20, .bool true), (43, .bool false), (56, .bool false), (85, .bool false)] := F.keep ⟨rfl, rfl, rfl, rfl, rfl, rfl, rfl, rfl, rfl, rfl, rfl, rfl, rfl, rfl, trivial⟩
   refine then_n ?_
   refine wp_cond_false (F.e rfl) ?_
   refine wp_skip ?_
   refine in_n ?_
   refine then_n ?_
   refine wp_region_lit ?_
   refine list_val F (wn rfl) rfl rfl (.int .i64 ((r + 1 : Nat) : Int)) (ex_move _ rfl _ (F.e rfl)) ?_; clear F a; intro a F
   refine list_val F (wn rfl) rfl rfl (.int .i64 ((r + 1 + 1 : Nat) : Int)) (ex_bin .add _ _ _ _ rfl .i64 _ _ (F.e rfl) rfl _ (b_add ((w_i64 (by omega) (by omega)).trans (by omega)))) ?_; clear F a; intro a F
   refine list_val F (wn rfl) rfl rfl (.int .i64 ((r + 1 + 1 : Nat) : Int)) (ex_assign _ rfl _ (F.e rfl)) ?_; clear F a; intro a F
   refine wpList_nil ?_
   replace F : Fr 153 a [(0, .agg #[.slice (some adav) bs.length c, .slice A2 n2 c2, .slice A3 n3 c3, .slice D ws.length d]), (1, .pointer (some ⟨g1, 0, none⟩)), (2, .bool false), (3, .int .i64 ((al + av.length + bv.length + 1 : Nat) : Int)), (4, .int .i64 ((r + 1 + 1 : Nat) : Int)), (5, .slice Bav av.length cav), (6, .slice Bbv bv.length cbv), (7, .slice A_48 ((av ++ bv).length) c_48), (8, .slice Bav ((av.take (av.length / 3 * 3)).length) cav), (9, .slice A_67 ((av.take (av.length / 3 * 3) ++ bv).length) c_67), (20, .bool true), (43, .bool false), (56, .bool false), (85, .bool false)] := F.keep ⟨rfl, rfl, rfl, rfl, rfl, rfl, rfl, rfl, rfl, rfl, rfl, rfl, rfl, rfl, trivial⟩
   refine then_n ?_
   exact ⟨bs.length - (r + 1), by omega, (r + 1), (al + av.length + bv.length + 1), F.keep ⟨rfl, rfl, rfl, rfl, rfl, trivial⟩, (by refine M.pick' [0] _ ?_ (by decide); exact ⟨rfl, trivial⟩), (by omega), (by omega), (by omega)⟩
  refine wp_seq ?_
  refine wp_seq ?_
  refine wp_region_lit ?_
  refine list_val F (wn rfl) rfl rfl (.int .i64 ((r + 1 : Nat) : Int)) (ex_move _ rfl _ (F.e rfl)) ?_; clear F a; intro a F
  refine list_val F (wn rfl) rfl rfl (.pointer (some ⟨g1, 0, none⟩)) (ex_fa _ _ _ rfl _ (F.e rfl) 0 g5_fa_27_0_0 ⟨g1, 0, none⟩ rfl) ?_; clear F a; intro a F
  refine list_val F (wn rfl) rfl rfl (.slice A bs.length c) (ex_load _ _ rfl _ (F.e rfl) _ (lv1 g5_one_22 (M.cell (i := 0) rfl (j := 0) rfl))) ?_; clear F a; intro a F
  refine list_val F (wn rfl) rfl rfl (.int .i64 ((bs.length : Nat) : Int)) (ex_len _ _ rfl 1 g5_sl_22_1 _ _ _ (F.e rfl)) ?_; clear F a; intro a F
  refine list_val F (wn rfl) rfl rfl (.bool false) (ex_bin .lss _ _ _ _ rfl .i64 _ _ (F.e rfl) (F.e rfl) _ (b_lss (decide_eq_false (by omega)))) ?_; clear F a; intro a F
  refine wpList_nil ?_
  replace F : Fr 153 a [(0, .agg #[.slice A bs.length c, .slice A2 n2 c2, .slice A3 n3 c3, .slice D ws.length d]), (1, .pointer (some ⟨g1, 0, none⟩)), (2, .bool false), (3, .int .i64 ((al : Nat) : Int)), (4, .int .i64 ((r + 1 : Nat) : Int)), (20, .bool false)] := F.keep ⟨rfl, rfl, rfl, rfl, rfl, rfl, trivial⟩
  refine then_n ?_
  refine wp_cond_false (F.e rfl) ?_
  refine wp_exit ?_
  refine then_x ?_
  refine then_x ?_
  refine in_hit ?_
  refine only_n ?_
  exact ⟨F.keep ⟨rfl, rfl, rfl, trivial⟩, (by refine M.pick' [0] _ ?_ (by decide); exact ⟨rfl, trivial⟩)⟩
 clear F M a
 intro a u hR; obtain ⟨F, M⟩ := hR; try clear v
 refine then_n ?_
 refine wp_seq ?_
 refine wp_seq ?_
 refine wp_region_lit ?_
 refine list_val F (wn rfl) rfl rfl (.int .i64 1) (ex_assign _ rfl _ rfl) ?_; clear F a; intro a F
 refine wpList_nil ?_
 replace F : Fr 153 a [(0, .agg #[.slice A bs.length c, .slice A2 n2 c2, .slice A3 n3 c3, .slice D ws.length d]), (1, .pointer (some ⟨g1, 0, none⟩)), (2, .bool false), (10, .int .i64 1)] := F.keep ⟨rfl, rfl, rfl, rfl, trivial⟩
 refine then_n ?_
 refine wp_block ?_
 refine wp_loopN (fun mq ar wr => ∃ (r2 : Nat), Fr 153 ar [(0, .agg #[.slice A bs.length c, .slice A2 n2 c2, .slice A3 n3 c3, .slice D ws.length d]), (1, .pointer (some ⟨g1, 0, none⟩)), (2, .bool false), (10, .int .i64 ((r2 + 1 : Nat) : Int))] ∧ Mm w wr [⟨g1, #[.slice A bs.length c, .slice A2 n2 c2, .slice A3 n3 c3, .slice D ws.length d], 27⟩] ∧ r2 ≤ ws.length ∧ mq + r2 = ws.length) ws.length ?_ ?_
 ·
  exact ⟨0, F.keep ⟨rfl, rfl, rfl, rfl, trivial⟩, M, (Nat.zero_le _), (by omega)⟩
 clear F M a
 rintro mq a v ⟨r2, F, M, hr2, hq⟩; try clear u
 by_cases hin : r2 + 1 < ws.length
 ·
  obtain ⟨yw, hyw⟩ : ∃ x, ws[r2]? = some x := ⟨_, List.getElem?_eq_getElem (by omega)⟩
  obtain ⟨adyw, hAyw, zyw⟩ := C_ix (enc := Wd.cs) (m := 2) (hl := Wd.cs_len) (h1 := Wd.cs_one) hrw hyw
  obtain ⟨xw, hxw⟩ : ∃ x, ws[(r2 + 1)]? = some x := ⟨_, List.getElem?_eq_getElem (by omega)⟩
  obtain ⟨adxw, hAxw, zxw⟩ := C_ix (enc := Wd.cs) (m := 2) (hl := Wd.cs_len) (h1 := Wd.cs_one) hrw hxw
  subst hAyw
  obtain rfl := Option.some.inj hAxw
  have hy64 := hw64 yw (List.mem_of_getElem? hyw)
  have hx64 := hw64 xw (List.mem_of_getElem? hxw)
  have hwi := wi_lt xw.wd
  refine wp_seq ?_
  refine wp_seq ?_
  refine wp_region_lit ?_
  refine list_val F (wn rfl) rfl rfl (.int .i64 ((r2 + 1 : Nat) : Int)) (ex_move _ rfl _ (F.e rfl)) ?_; clear F a; intro a F
  refine list_val F (wn rfl) rfl rfl (.pointer (some ⟨g1, 3, none⟩)) (ex_fa _ _ _ rfl _ (F.e rfl) 3 g5_fa_27_3_3 ⟨g1, 3, none⟩ rfl) ?_; clear F a; intro a F
  refine list_val F (wn rfl) rfl rfl (.slice (some adyw) ws.length d) (ex_load _ _ rfl _ (F.e rfl) _ (lv1 g5_one_25 (M.cell (i := 0) rfl (j := 3) rfl))) ?_; clear F a; intro a F
  refine list_val F (wn rfl) rfl rfl (.int .i64 ((ws.length : Nat) : Int)) (ex_len _ _ rfl 2 g5_sl_25_2 _ _ _ (F.e rfl)) ?_; clear F a; intro a F
  refine list_val F (wn rfl) rfl rfl (.bool true) (ex_bin .lss _ _ _ _ rfl .i64 _ _ (F.e rfl) (F.e rfl) _ (b_lss (decide_eq_true (by omega)))) ?_; clear F a; intro a F
  refine wpList_nil ?_
  replace F : Fr 153 a [(0, .agg #[.slice A bs.length c, .slice A2 n2 c2, .slice A3 n3 c3, .slice (some adyw) ws.length d]), (1, .pointer (some ⟨g1, 0, none⟩)), (2, .bool false), (10, .int .i64 ((r2 + 1 : Nat) : Int)), (90, .bool true)] := F.keep ⟨rfl, rfl, rfl, rfl, rfl, trivial⟩
  refine then_n ?_
  refine wp_cond_true (F.e rfl) ?_
  refine wp_skip ?_
  refine then_n ?_
  refine wp_seq ?_
  refine wp_block ?_
  refine wp_seq ?_
  refine wp_region_lit ?_
  refine list_val F (wn rfl) rfl rfl (.pointer (some ⟨g1, 3, none⟩)) (ex_fa _ _ _ rfl _ (F.e rfl) 3 g5_fa_27_3_3 ⟨g1, 3, none⟩ rfl) ?_; clear F a; intro a F
  refine list_val F (wn rfl) rfl rfl (.slice (some adyw) ws.length d) (ex_load _ _ rfl _ (F.e rfl) _ (lv1 g5_one_25 (M.cell (i := 0) rfl (j := 3) rfl))) ?_; clear F a; intro a F
  refine list_val F (wn rfl) rfl rfl (.int .i64 ((r2 + 1 : Nat) : Int)) (ex_move _ rfl _ (F.e rfl)) ?_; clear F a; intro a F
  refine list_val F (wn rfl) rfl rfl (.pointer (some (adyw.add ((r2 + 1) * 2)))) (ex_ix _ _ _ rfl 2 g5_sl_25_2 adyw _ _ (F.e rfl) .i64 _ (F.e rfl) (r2 + 1) rfl (by omega) (adyw.add ((r2 + 1) * 2)) rfl) ?_; clear F a; intro a F
  refine list_val F (wn rfl) rfl rfl (.pointer (some ((adyw.add ((r2 + 1) * 2)).add 1))) (ex_fa _ _ _ rfl _ (F.e rfl) 1 g5_fa_33_1_1 ((adyw.add ((r2 + 1) * 2)).add 1) rfl) ?_; clear F a; intro a F
  refine list_val F (wn rfl) rfl rfl (.int .i64 xw.wd) (ex_load _ _ rfl _ (F.e rfl) _ (lv1 g5_one_3 ((zxw.below M.bel).cell 1 _ rfl))) ?_; clear F a; intro a F
  refine list_do (wn rfl) (fun K hK => ?_)
  refine ow_call rfl rfl F 9 #[.int .i64 xw.wd, .int .i64 8] (ex_call 9 _ _ rfl rfl g5_ent_9 _ (map2 (F.e rfl) rfl)) (within_any xw.wd _) (fun e u hR => ?_)
  obtain ⟨he, hb⟩ := hR
  refine ⟨.int .i64 ((wi xw.wd : Nat) : Int), he, ?_⟩; clear he F a; intro a F
  refine hK _ _ ?_
  clear hK K
  replace M := M.below hb; clear hb; try clear v
  refine list_val F (wn rfl) rfl rfl (.int .i64 ((1 + wi xw.wd : Nat) : Int)) (ex_bin .add _ _ _ _ rfl .i64 _ _ rfl (F.e rfl) _ (b_add ((w_i64 (by omega) (by omega)).trans (by omega)))) ?_; clear F a; intro a F
  refine list_val F (wn rfl) rfl rfl (.int .i64 ((1 + wi xw.wd : Nat) : Int)) (ex_assign _ rfl _ (F.e rfl)) ?_; clear F a; intro a F
  refine wpList_nil ?_
  replace F : Fr 153 a [(0, .agg #[.slice A bs.length c, .slice A2 n2 c2, .slice A3 n3 c3, .slice (some adyw) ws.length d]), (1, .pointer (some ⟨g1, 0, none⟩)), (2, .bool false), (10, .int .i64 ((r2 + 1 : Nat) : Int)), (11, .int .i64 ((1 + wi xw.wd : Nat) : Int)), (90, .bool true)] := F.keep ⟨rfl, rfl, rfl, rfl, rfl, rfl, trivial⟩
  refine then_n ?_
  refine wp_seq ?_
  refine wp_region_lit ?_
  refine list_val F (wn rfl) rfl rfl (.pointer (some ⟨g1, 3, none⟩)) (ex_fa _ _ _ rfl _ (F.e rfl) 3 g5_fa_27_3_3 ⟨g1, 3, none⟩ rfl) ?_; clear F a; intro a F
  refine list_val F (wn rfl) rfl rfl (.slice (some adyw) ws.length d) (ex_load _ _ rfl _ (F.e rfl) _ (lv1 g5_one_25 (M.cell (i := 0) rfl (j := 3) rfl))) ?_; clear F a; intro a F
  refine list_val F (wn rfl) rfl rfl (.int .i64 ((r2 + 1 : Nat) : Int)) (ex_move _ rfl _ (F.e rfl)) ?_; clear F a; intro a F
  refine list_val F (wn rfl) rfl rfl (.int .i64 ((r2 : Nat) : Int)) (ex_bin .sub _ _ _ _ rfl .i64 _ _ (F.e rfl) rfl _ (b_sub ((w_i64 (by omega) (by omega)).trans (by omega)))) ?_; clear F a; intro a F
  refine list_val F (wn rfl) rfl rfl (.pointer (some (adyw.add (r2 * 2)))) (ex_ix _ _ _ rfl 2 g5_sl_25_2 adyw _ _ (F.e rfl) .i64 _ (F.e rfl) r2 rfl (by omega) (adyw.add (r2 * 2)) rfl) ?_; clear F a; intro a F
  refine list_val F (wn rfl) rfl rfl (.pointer (some (adyw.add (r2 * 2)))) (ex_fa _ _ _ rfl _ (F.e rfl) 0 g5_fa_33_0_0 (adyw.add (r2 * 2)) rfl) ?_; clear F a; intro a F
  refine list_val F (wn rfl) rfl rfl (.int .u64 ((yw.n : Nat) : Int)) (ex_load _ _ rfl _ (F.e rfl) _ (lv1 g5_one_31 ((zyw.below M.bel).cell 0 _ rfl))) ?_; clear F a; intro a F
  refine list_val F (wn rfl) rfl rfl (.int .i64 ((1 + wi xw.wd : Nat) : Int)) (ex_move _ rfl _ (F.e rfl)) ?_; clear F a; intro a F
  refine list_do (wn rfl) (fun K hK => ?_)
  refine ow_call rfl rfl F 10 #[.int .u64 ((yw.n : Nat) : Int), .int .i64 ((1 + wi xw.wd : Nat) : Int)] (ex_call 10 _ _ rfl rfl g5_ent_10 _ (map2 (F.e rfl) (F.e rfl))) (lay_any yw.n (1 + wi xw.wd) (by omega) (by omega) hy64 _) (fun e v hR => ?_)
  obtain ⟨A_110, c_110, he, O_110, hb⟩ := hR
  replace O_110 := O_110.low M.bel.size
  refine ⟨.tuple #[.slice A_110 (((layR yw.n (1 + wi xw.wd)).1).length) c_110, .int .i64 ((layR yw.n (1 + wi xw.wd)).2)], he, ?_⟩; clear he F a; intro a F
  refine hK _ _ ?_
  clear hK K
  replace M := M.below hb; clear hb; try clear u
  refine list_val F (wn rfl) rfl rfl (.tuple #[.slice A_110 (((layR yw.n (1 + wi xw.wd)).1).length) c_110, .int .i64 ((layR yw.n (1 + wi xw.wd)).2)]) (ex_move _ rfl _ (F.e rfl)) ?_; clear F a; intro a F
  refine list_val F (wn rfl) rfl rfl (.slice A_110 (((layR yw.n (1 + wi xw.wd)).1).length) c_110) (ex_extract _ _ rfl _ (F.e rfl) _ rfl) ?_; clear F a; intro a F
  refine list_val F (wn rfl) rfl rfl (.int .i64 ((layR yw.n (1 + wi xw.wd)).2)) (ex_extract _ _ rfl _ (F.e rfl) _ rfl) ?_; clear F a; intro a F
  refine list_val F (wn rfl) rfl rfl (.slice A_110 (((layR yw.n (1 + wi xw.wd)).1).length) c_110) (ex_assign _ rfl _ (F.e rfl)) ?_; clear F a; intro a F
  refine list_val F (wn rfl) rfl rfl (.int .i64 ((layR yw.n (1 + wi xw.wd)).2)) (ex_assign _ rfl _ (F.e rfl)) ?_; clear F a; intro a F
  refine wpList_nil ?_
  replace F : Fr 153 a [(0, .agg #[.slice A bs.length c, .slice A2 n2 c2, .slice A3 n3 c3, .slice (some adyw) ws.length d]), (1, .pointer (some ⟨g1, 0, none⟩)), (2, .bool false), (10, .int .i64 ((r2 + 1 : Nat) : Int)), (11, .int .i64 ((1 + wi xw.wd : Nat) : Int)), (12, .slice A_110 (((layR yw.n (1 + wi xw.wd)).1).length) c_110), (13, .int .i64 ((layR yw.n (1 + wi xw.wd)).2)), (90, .bool true)] := F.keep ⟨rfl, rfl, rfl, rfl, rfl, rfl, rfl, rfl, trivial⟩
  refine then_n ?_
  refine wp_seq ?_
  refine wp_region_lit ?_
  refine list_val F (wn rfl) rfl rfl (.pointer (some ⟨g1, 3, none⟩)) (ex_fa _ _ _ rfl _ (F.e rfl) 3 g5_fa_27_3_3 ⟨g1, 3, none⟩ rfl) ?_; clear F a; intro a F
  refine list_val F (wn rfl) rfl rfl (.slice (some adyw) ws.length d) (ex_load _ _ rfl _ (F.e rfl) _ (lv1 g5_one_25 (M.cell (i := 0) rfl (j := 3) rfl))) ?_; clear F a; intro a F
  refine list_val F (wn rfl) rfl rfl (.int .i64 ((r2 + 1 : Nat) : Int)) (ex_move _ rfl _ (F.e rfl)) ?_; clear F a; intro a F
  refine list_val F (wn rfl) rfl rfl (.pointer (some (adyw.add ((r2 + 1) * 2)))) (ex_ix _ _ _ rfl 2 g5_sl_25_2 adyw _ _ (F.e rfl) .i64 _ (F.e rfl) (r2 + 1) rfl (by omega) (adyw.add ((r2 + 1) * 2)) rfl) ?_; clear F a; intro a F
  refine list_val F (wn rfl) rfl rfl (.pointer (some (adyw.add ((r2 + 1) * 2)))) (ex_fa _ _ _ rfl _ (F.e rfl) 0 g5_fa_33_0_0 (adyw.add ((r2 + 1) * 2)) rfl) ?_; clear F a; intro a F
  refine list_val F (wn rfl) rfl rfl (.int .u64 ((xw.n : Nat) : Int)) (ex_load _ _ rfl _ (F.e rfl) _ (lv1 g5_one_31 ((zxw.below M.bel).cell 0 _ rfl))) ?_; clear F a; intro a F
  refine list_val F (wn rfl) rfl rfl (.int .i64 ((1 + wi xw.wd : Nat) : Int)) (ex_move _ rfl _ (F.e rfl)) ?_; clear F a; intro a F
  refine list_do (wn rfl) (fun K hK => ?_)
  refine ow_call rfl rfl F 10 #[.int .u64 ((xw.n : Nat) : Int), .int .i64 ((1 + wi xw.wd : Nat) : Int)] (ex_call 10 _ _ rfl rfl g5_ent_10 _ (map2 (F.e rfl) (F.e rfl))) (lay_any xw.n (1 + wi xw.wd) (by omega) (by omega) hx64 _) (fun e u hR => ?_)
  obtain ⟨A_121, c_121, he, O_121, hb⟩ := hR
  replace O_121 := O_121.low M.bel.size
  refine ⟨.tuple #[.slice A_121 (((layR xw.n (1 + wi xw.wd)).1).length) c_121, .int .i64 ((layR xw.n (1 + wi xw.wd)).2)], he, ?_⟩; clear he F a; intro a F
  refine hK _ _ ?_
  clear hK K
  replace O_110 := O_110.below hb
  replace M := M.below hb; clear hb; try clear v
  refine list_val F (wn rfl) rfl rfl (.tuple #[.slice A_121 (((layR xw.n (1 + wi xw.wd)).1).length) c_121, .int .i64 ((layR xw.n (1 + wi xw.wd)).2)]) (ex_move _ rfl _ (F.e rfl)) ?_; clear F a; intro a F
  refine list_val F (wn rfl) rfl rfl (.slice A_121 (((layR xw.n (1 + wi xw.wd)).1).length) c_121) (ex_extract _ _ rfl _ (F.e rfl) _ rfl) ?_; clear F a; intro a F
  refine list_val F (wn rfl) rfl rfl (.int .i64 ((layR xw.n (1 + wi xw.wd)).2)) (ex_extract _ _ rfl _ (F.e rfl) _ rfl) ?_; clear F a; intro a F
  refine list_val F (wn rfl) rfl rfl (.slice A_121 (((layR xw.n (1 + wi xw.wd)).1).length) c_121) (ex_assign _ rfl _ (F.e rfl)) ?_; clear F a; intro a F
  refine list_val F (wn rfl) rfl rfl (.int .i64 ((layR xw.n (1 + wi xw.wd)).2)) (ex_assign _ rfl _ (F.e rfl)) ?_; clear F a; intro a F
  refine wpList_nil ?_
  replace F : Fr 153 a [(0, .agg #[.slice A bs.length c, .slice A2 n2 c2, .slice A3 n3 c3, .slice (some adyw) ws.length d]), (1, .pointer (some ⟨g1, 0, none⟩)), (2, .bool false), (10, .int .i64 ((r2 + 1 : Nat) : Int)), (11, .int .i64 ((1 + wi xw.wd : Nat) : Int)), (12, .slice A_110 (((layR yw.n (1 + wi xw.wd)).1).length) c_110), (13, .int .i64 ((layR yw.n (1 + wi xw.wd)).2)), (14, .slice A_121 (((layR xw.n (1 + wi xw.wd)).1).length) c_121), (15, .int .i64 ((layR xw.n (1 + wi xw.wd)).2)), (90, .bool true)] := F.keep ⟨rfl, rfl, rfl, rfl, rfl, rfl, rfl, rfl, rfl, rfl, trivial⟩
  refine then_n ?_
  refine wp_seq ?_
  by_cases h1 : (layR yw.n (1 + wi xw.wd)).2 = 0
  ·
   by_cases h2 : (layR xw.n (1 + wi xw.wd)).2 = 0
   ·
    refine wp_only (fun ar wr => Fr 153 ar [(0, .agg #[.slice A bs.length c, .slice A2 n2 c2, .slice A3 n3 c3, .slice (some adyw) ws.length d]), (1, .pointer (some ⟨g1, 0, none⟩)), (2, .bool false), (10, .int .i64 ((r2 + 1 : Nat) : Int)), (11, .int .i64 ((1 + wi xw.wd : Nat) : Int)), (12, .slice A_110 (((layR yw.n (1 + wi xw.wd)).1).length) c_110), (13, .int .i64 ((layR yw.n (1 + wi xw.wd)).2)), (14, .slice A_121 (((layR xw.n (1 + wi xw.wd)).1).length) c_121), (15, .int .i64 ((layR xw.n (1 + wi xw.wd)).2)), (90, .bool true), (151, .bool false)] ∧ Mm w wr [⟨g1, #[.slice A bs.length c, .slice A2 n2 c2, .slice A3 n3 c3, .slice (some adyw) ws.length d], 27⟩] ∧ Ow ST.kB 5 wr w.heap.size (.slice A_110 (((layR yw.n (1 + wi xw.wd)).1).length) c_110) ((layR yw.n (1 + wi xw.wd)).1) ∧ Ow ST.kB 5 wr w.heap.size (.slice A_121 (((layR xw.n (1 + wi xw.wd)).1).length) c_121) ((layR xw.n (1 + wi xw.wd)).1)) ?_ ?_
    ·
     refine region_any g5_follows_mixedOrders M ?_; clear M; intro wD M hb
     replace O_110 := O_110.below hb
     replace O_121 := O_121.below hb
     clear hb; try clear u
     have hS : Below wD.heap.size wD wD := Below.refl _ _; have MD := M
     have D_O_110 := O_110
     have D_O_121 := O_121
     refine any_val F 0 rfl (by kernel_rfl) (wn rfl) rfl rfl (.int .i64 ((layR yw.n (1 + wi xw.wd)).2)) (fun w' hS' => ex_move _ rfl _ (F.e rfl)) hS ?_; clear F a; intro a F
     refine any_ready [1] (by kernel_rfl) (by simp) ?_
     refine ready_do rfl (wn rfl) (fun K hK => ?_) AllReadyH.nil
     refine ow_call rfl rfl F 11 #[.int .i64 ((layR yw.n (1 + wi xw.wd)).2)] (ex_call 11 _ _ rfl rfl g5_ent_11 _ (map1 (F.e rfl))) (num_any ((layR yw.n (1 + wi xw.wd)).2) _) (fun e v hR => ?_)
     obtain ⟨he, hb⟩ := hR
     refine ⟨.int .i64 ((layR yw.n (1 + wi xw.wd)).2), he, ?_⟩; clear he F a; intro a F
     refine hK _ _ (S_below hS hb) ?_
     replace hS := S_below hS hb
     clear hK K
     replace O_110 := O_110.below hb
     replace O_121 := O_121.below hb
     replace M := M.below hb; clear hb; try clear wD
     refine any_val F 2 rfl (by kernel_rfl) (wn rfl) rfl rfl (.bool true) (fun w' hS' => ex_bin .eql _ _ _ _ rfl .i64 _ _ (F.e rfl) rfl _ (b_eql (by rw [h1]; rfl))) hS ?_; clear F a; intro a F
     refine any_val F 3 rfl (by kernel_rfl) (wn rfl) rfl rfl (.bool true) (fun w' hS' => ex_move _ rfl _ (F.e rfl)) hS ?_; clear F a; intro a F
     refine any_val F 4 rfl (by kernel_rfl) (F.wants 127 true rfl (by kernel_rfl) rfl true rfl) rfl rfl (.int .i64 ((layR xw.n (1 + wi xw.wd)).2)) (fun w' hS' => ex_move _ rfl _ (F.e rfl)) hS ?_; clear F a; intro a F
     refine any_ready [5] (by kernel_rfl) (by simp) ?_
     refine ready_do rfl (F.wants 127 true rfl (by kernel_rfl) rfl true rfl) (fun K hK => ?_) AllReadyH.nil
     refine ow_call rfl rfl F 11 #[.int .i64 ((layR xw.n (1 + wi xw.wd)).2)] (ex_call 11 _ _ rfl rfl g5_ent_11 _ (map1 (F.e rfl))) (num_any ((layR xw.n (1 + wi xw.wd)).2) _) (fun e u hR => ?_)
     obtain ⟨he, hb⟩ := hR
     refine ⟨.int .i64 ((layR xw.n (1 + wi xw.wd)).2), he, ?_⟩; clear he F a; intro a F
     refine hK _ _ (S_below hS hb) ?_
     replace hS := S_below hS hb
     clear hK K
     replace O_110 := O_110.below hb
     replace O_121 := O_121.below hb
     replace M := M.below hb; clear hb; try clear v
     refine any_val F 6 rfl (by kernel_rfl) (F.wants 127 true rfl (by kernel_rfl) rfl true rfl) rfl rfl (.bool true) (fun w' hS' => ex_bin .eql _ _ _ _ rfl .i64 _ _ (F.e rfl) rfl _ (b_eql (by rw [h2]; rfl))) hS ?_; clear F a; intro a F
     refine any_val F 7 rfl (by kernel_rfl) (wn rfl) rfl rfl (.bool true) (fun w' hS' => ex_pick_t _ _ _ rfl (F.e rfl) _ (F.e rfl)) hS ?_; clear F a; intro a F
     refine any_val F 8 rfl (by kernel_rfl) (wn rfl) rfl rfl (.bool true) (fun w' hS' => ex_move _ rfl _ (F.e rfl)) hS ?_; clear F a; intro a F
     refine any_val F 9 rfl (by kernel_rfl) (F.wants 132 true rfl (by kernel_rfl) rfl true rfl) rfl rfl (.slice A_110 (((layR yw.n (1 + wi xw.wd)).1).length) c_110) (fun w' hS' => ex_move _ rfl _ (F.e rfl)) hS ?_; clear F a; intro a F
     refine any_val F 10 rfl (by kernel_rfl) (F.wants 132 true rfl (by kernel_rfl) rfl true rfl) rfl rfl (.slice A_121 (((layR xw.n (1 + wi xw.wd)).1).length) c_121) (fun w' hS' => ex_move _ rfl _ (F.e rfl)) hS ?_; clear F a; intro a F
     refine any_val F 12 rfl (by kernel_rfl) (F.wants 132 true rfl (by kernel_rfl) rfl true rfl) rfl rfl (.pointer (some ⟨g1, 3, none⟩)) (fun w' hS' => ex_fa _ _ _ rfl _ (F.e rfl) 3 g5_fa_27_3_3 ⟨g1, 3, none⟩ rfl) hS ?_; clear F a; intro a F
     refine any_val F 13 rfl (by kernel_rfl) (F.wants 132 true rfl (by kernel_rfl) rfl true rfl) rfl rfl (.slice (some adyw) ws.length d) (fun w' hS' => ex_load _ _ rfl _ (F.e rfl) _ (lv1 g5_one_25 ((MD.below hS').cell (i := 0) rfl (j := 3) rfl))) hS ?_; clear F a; intro a F
     refine any_val F 14 rfl (by kernel_rfl) (F.wants 132 true rfl (by kernel_rfl) rfl true rfl) rfl rfl (.int .i64 ((r2 + 1 : Nat) : Int)) (fun w' hS' => ex_move _ rfl _ (F.e rfl)) hS ?_; clear F a; intro a F
     refine any_val F 15 rfl (by kernel_rfl) (F.wants 132 true rfl (by kernel_rfl) rfl true rfl) rfl rfl (.int .i64 ((r2 : Nat) : Int)) (fun w' hS' => ex_bin .sub _ _ _ _ rfl .i64 _ _ (F.e rfl) rfl _ (b_sub ((w_i64 (by omega) (by omega)).trans (by omega)))) hS ?_; clear F a; intro a F
     refine any_val F 16 rfl (by kernel_rfl) (F.wants 132 true rfl (by kernel_rfl) rfl true rfl) rfl rfl (.pointer (some (adyw.add (r2 * 2)))) (fun w' hS' => ex_ix _ _ _ rfl 2 g5_sl_25_2 adyw _ _ (F.e rfl) .i64 _ (F.e rfl) r2 rfl (by omega) (adyw.add (r2 * 2)) rfl) hS ?_; clear F a; intro a F
     refine any_val F 17 rfl (by kernel_rfl) (F.wants 132 true rfl (by kernel_rfl) rfl true rfl) rfl rfl (.pointer (some (adyw.add (r2 * 2)))) (fun w' hS' => ex_fa _ _ _ rfl _ (F.e rfl) 0 g5_fa_33_0_0 (adyw.add (r2 * 2)) rfl) hS ?_; clear F a; intro a F
     refine any_val F 18 rfl (by kernel_rfl) (F.wants 132 true rfl (by kernel_rfl) rfl true rfl) rfl rfl (.int .u64 ((yw.n : Nat) : Int)) (fun w' hS' => ex_load _ _ rfl _ (F.e rfl) _ (lv1 g5_one_31 ((zyw.below (MD.below hS').bel).cell 0 _ rfl))) hS ?_; clear F a; intro a F
     refine any_val F 19 rfl (by kernel_rfl) (F.wants 132 true rfl (by kernel_rfl) rfl true rfl) rfl rfl (.pointer (some ⟨g1, 3, none⟩)) (fun w' hS' => ex_fa _ _ _ rfl _ (F.e rfl) 3 g5_fa_27_3_3 ⟨g1, 3, none⟩ rfl) hS ?_; clear F a; intro a F
     refine any_val F 20 rfl (by kernel_rfl) (F.wants 132 true rfl (by kernel_rfl) rfl true rfl) rfl rfl (.slice (some adyw) ws.length d) (fun w' hS' => ex_load _ _ rfl _ (F.e rfl) _ (lv1 g5_one_25 ((MD.below hS').cell (i := 0) rfl (j := 3) rfl))) hS ?_; clear F a; intro a F
     refine any_val F 21 rfl (by kernel_rfl) (F.wants 132 true rfl (by kernel_rfl) rfl true rfl) rfl rfl (.int .i64 ((r2 + 1 : Nat) : Int)) (fun w' hS' => ex_move _ rfl _ (F.e rfl)) hS ?_; clear F a; intro a F
     refine any_val F 22 rfl (by kernel_rfl) (F.wants 132 true rfl (by kernel_rfl) rfl true rfl) rfl rfl (.pointer (some (adyw.add ((r2 + 1) * 2)))) (fun w' hS' => ex_ix _ _ _ rfl 2 g5_sl_25_2 adyw _ _ (F.e rfl) .i64 _ (F.e rfl) (r2 + 1) rfl (by omega) (adyw.add ((r2 + 1) * 2)) rfl) hS ?_; clear F a; intro a F
     refine any_val F 23 rfl (by kernel_rfl) (F.wants 132 true rfl (by kernel_rfl) rfl true rfl) rfl rfl (.pointer (some (adyw.add ((r2 + 1) * 2)))) (fun w' hS' => ex_fa _ _ _ rfl _ (F.e rfl) 0 g5_fa_33_0_0 (adyw.add ((r2 + 1) * 2)) rfl) hS ?_; clear F a; intro a F
     refine any_val F 24 rfl (by kernel_rfl) (F.wants 132 true rfl (by kernel_rfl) rfl true rfl) rfl rfl (.int .u64 ((xw.n : Nat) : Int)) (fun w' hS' => ex_load _ _ rfl _ (F.e rfl) _ (lv1 g5_one_31 ((zxw.below (MD.below hS').bel).cell 0 _ rfl))) hS ?_; clear F a; intro a F
     refine any_val F 25 rfl (by kernel_rfl) (F.wants 132 true rfl (by kernel_rfl) rfl true rfl) rfl rfl (.bool (decide (((yw.n : Nat) : Int) < ((xw.n : Nat) : Int)))) (fun w' hS' => ex_bin .lss _ _ _ _ rfl .u64 _ _ (F.e rfl) (F.e rfl) _ (b_lss rfl)) hS ?_; clear F a; intro a F
     refine any_ready [11] (by kernel_rfl) (by simp) ?_
     refine ready_do rfl (F.wants 132 true rfl (by kernel_rfl) rfl true rfl) (fun K hK => ?_) AllReadyH.nil
     refine ow_call rfl rfl F 12 #[.slice A_110 (((layR yw.n (1 + wi xw.wd)).1).length) c_110, .slice A_121 (((layR xw.n (1 + wi xw.wd)).1).length) c_121] (ex_call 12 _ _ rfl rfl g5_ent_12 _ (map2 (F.e rfl) (F.e rfl))) (before_any _ _ _ _ _ _ _ O_110.rd.1 O_121.rd.1) (fun e v hR => ?_)
     obtain ⟨he, hb⟩ := hR
     refine ⟨.bool (Op.bytesLess (layR yw.n (1 + wi xw.wd)).1 (layR xw.n (1 + wi xw.wd)).1), he, ?_⟩; clear he F a; intro a F
     refine hK _ _ (S_below hS hb) ?_
     replace hS := S_below hS hb
     clear hK K
     replace O_110 := O_110.below hb
     replace O_121 := O_121.below hb
     replace M := M.below hb; clear hb; try clear u
     refine any_val F 26 rfl (by kernel_rfl) (F.wants 132 true rfl (by kernel_rfl) rfl true rfl) rfl rfl (.bool false) (fun w' hS' => WG.ex_neqb _ _ _ _ rfl g5_bool_4 (Op.bytesLess (layR yw.n (1 + wi xw.wd)).1 (layR xw.n (1 + wi xw.wd)).1) (decide (((yw.n : Nat) : Int) < ((xw.n : Nat) : Int))) (F.e rfl) (F.e rfl) false (by rw [lay_less (by omega) hy64 hx64 h1 h2]; simp [Int.ofNat_lt])) hS ?_; clear F a; intro a F
     refine any_val F 27 rfl (by kernel_rfl) (wn rfl) rfl rfl (.bool false) (fun w' hS' => ex_pick_t _ _ _ rfl (F.e rfl) _ (F.e rfl)) hS ?_; clear F a; intro a F
     refine any_done (by kernel_rfl) ?_
     exact ⟨F.keep ⟨rfl, rfl, rfl, rfl, rfl, rfl, rfl, rfl, rfl, rfl, rfl, trivial⟩, (by refine M.pick' [0] _ ?_ (by decide); exact ⟨rfl, trivial⟩), O_110, O_121⟩
    clear F M a O_110 O_121
    intro a v hR; obtain ⟨F, M, O_110, O_121⟩ := hR; try clear u
    refine then_n ?_
    refine wp_cond_false (F.e rfl) ?_
    refine wp_skip ?_
    refine in_n ?_
    refine then_n ?_
    refine wp_region_lit ?_
    refine list_val F (wn rfl) rfl rfl (.int .i64 ((r2 + 1 : Nat) : Int)) (ex_move _ rfl _ (F.e rfl)) ?_; clear F a; intro a F
    refine list_val F (wn rfl) rfl rfl (.int .i64 ((r2 + 1 + 1 : Nat) : Int)) (ex_bin .add _ _ _ _ rfl .i64 _ _ (F.e rfl) rfl _ (b_add ((w_i64 (by omega) (by omega)).trans (by omega)))) ?_; clear F a; intro a F
    refine list_val F (wn rfl) rfl rfl (.int .i64 ((r2 + 1 + 1 : Nat) : Int)) (ex_assign _ rfl _ (F.e rfl)) ?_; clear F a; intro a F
    refine wpList_nil ?_
    replace F : Fr 153 a [(0, .agg #[.slice A bs.length c, .slice A2 n2 c2, .slice A3 n3 c3, .slice (some adyw) ws.length d]), (1, .pointer (some ⟨g1, 0, none⟩)), (2, .bool false), (10, .int .i64 ((r2 + 1 + 1 : Nat) : Int)), (11, .int .i64 ((1 + wi xw.wd : Nat) : Int)), (12, .slice A_110 (((layR yw.n (1 + wi xw.wd)).1).length) c_110), (13, .int .i64 ((layR yw.n (1 + wi xw.wd)).2)), (14, .slice A_121 (((layR xw.n (1 + wi xw.wd)).1).length) c_121), (15, .int .i64 ((layR xw.n (1 + wi xw.wd)).2)), (90, .bool true), (151, .bool false)] := F.keep ⟨rfl, rfl, rfl, rfl, rfl, rfl, rfl, rfl, rfl, rfl, rfl, trivial⟩
    refine then_n ?_
    exact ⟨ws.length - (r2 + 1), by omega, (r2 + 1), F.keep ⟨rfl, rfl, rfl, rfl, trivial⟩, (by refine M.pick' [0] _ ?_ (by decide); exact ⟨rfl, trivial⟩), (by omega), (by omega)⟩
   refine wp_only (fun ar wr => Fr 153 ar [(0, .agg #[.slice A bs.length c, .slice A2 n2 c2, .slice A3 n3 c3, .slice (some adyw) ws.length d]), (1, .pointer (some ⟨g1, 0, none⟩)), (2, .bool false), (10, .int .i64 ((r2 + 1 : Nat) : Int)), (11, .int .i64 ((1 + wi xw.wd : Nat) : Int)), (12, .slice A_110 (((layR yw.n (1 + wi xw.wd)).1).length) c_110), (13, .int .i64 ((layR yw.n (1 + wi xw.wd)).2)), (14, .slice A_121 (((layR xw.n (1 + wi xw.wd)).1).length) c_121), (15, .int .i64 ((layR xw.n (1 + wi xw.wd)).2)), (90, .bool true), (151, .bool false)] ∧ Mm w wr [⟨g1, #[.slice A bs.length c, .slice A2 n2 c2, .slice A3 n3 c3, .slice (some adyw) ws.length d], 27⟩] ∧ Ow ST.kB 5 wr w.heap.size (.slice A_110 (((layR yw.n (1 + wi xw.wd)).1).length) c_110) ((layR yw.n (1 + wi xw.wd)).1) ∧ Ow ST.kB 5 wr w.heap.size (.slice A_121 (((layR xw.n (1 + wi xw.wd)).1).length) c_121) ((layR xw.n (1 + wi xw.wd)).1)) ?_ ?_
   ·
    refine region_any g5_follows_mixedOrders M ?_; clear M; intro wD M hb
    replace O_110 := O_110.below hb
    replace O_121 := O_121.below hb
    clear hb; try clear u
    have hS : Below wD.heap.size wD wD := Below.refl _ _; have MD := M
    have D_O_110 := O_110
    have D_O_121 := O_121
    refine any_val F 0 rfl (by kernel_rfl) (wn rfl) rfl rfl (.int .i64 ((layR yw.n (1 + wi xw.wd)).2)) (fun w' hS' => ex_move _ rfl _ (F.e rfl)) hS ?_; clear F a; intro a F
    refine any_ready [1] (by kernel_rfl) (by simp) ?_
    refine ready_do rfl (wn rfl) (fun K hK => ?_) AllReadyH.nil
    refine ow_call rfl rfl F 11 #[.int .i64 ((layR yw.n (1 + wi xw.wd)).2)] (ex_call 11 _ _ rfl rfl g5_ent_11 _ (map1 (F.e rfl))) (num_any ((layR yw.n (1 + wi xw.wd)).2) _) (fun e v hR => ?_)
    obtain ⟨he, hb⟩ := hR
    refine ⟨.int .i64 ((layR yw.n (1 + wi xw.wd)).2), he, ?_⟩; clear he F a; intro a F
    refine hK _ _ (S_below hS hb) ?_
    replace hS := S_below hS hb
    clear hK K
    replace O_110 := O_110.below hb
    replace O_121 := O_121.below hb
    replace M := M.below hb; clear hb; try clear wD
    refine any_val F 2 rfl (by kernel_rfl) (wn rfl) rfl rfl (.bool true) (fun w' hS' => ex_bin .eql _ _ _ _ rfl .i64 _ _ (F.e rfl) rfl _ (b_eql (by rw [h1]; rfl))) hS ?_; clear F a; intro a F
    refine any_val F 3 rfl (by kernel_rfl) (wn rfl) rfl rfl (.bool true) (fun w' hS' => ex_move _ rfl _ (F.e rfl)) hS ?_; clear F a; intro a F
    refine any_val F 4 rfl (by kernel_rfl) (F.wants 127 true rfl (by kernel_rfl) rfl true rfl) rfl rfl (.int .i64 ((layR xw.n (1 + wi xw.wd)).2)) (fun w' hS' => ex_move _ rfl _ (F.e rfl)) hS ?_; clear F a; intro a F
    refine any_ready [5] (by kernel_rfl) (by simp) ?_
    refine ready_do rfl (F.wants 127 true rfl (by kernel_rfl) rfl true rfl) (fun K hK => ?_) AllReadyH.nil
    refine ow_call rfl rfl F 11 #[.int .i64 ((layR xw.n (1 + wi xw.wd)).2)] (ex_call 11 _ _ rfl rfl g5_ent_11 _ (map1 (F.e rfl))) (num_any ((layR xw.n (1 + wi xw.wd)).2) _) (fun e u hR => ?_)
    obtain ⟨he, hb⟩ := hR
    refine ⟨.int .i64 ((layR xw.n (1 + wi xw.wd)).2), he, ?_⟩; clear he F a; intro a F
    refine hK _ _ (S_below hS hb) ?_
    replace hS := S_below hS hb
    clear hK K
    replace O_110 := O_110.below hb
    replace O_121 := O_121.below hb
    replace M := M.below hb; clear hb; try clear v
    refine any_val F 6 rfl (by kernel_rfl) (F.wants 127 true rfl (by kernel_rfl) rfl true rfl) rfl rfl (.bool false) (fun w' hS' => ex_bin .eql _ _ _ _ rfl .i64 _ _ (F.e rfl) rfl _ (b_eql (beq_eq_false_iff_ne.2 h2))) hS ?_; clear F a; intro a F
    refine any_val F 7 rfl (by kernel_rfl) (wn rfl) rfl rfl (.bool false) (fun w' hS' => ex_pick_t _ _ _ rfl (F.e rfl) _ (F.e rfl)) hS ?_; clear F a; intro a F
    refine any_val F 8 rfl (by kernel_rfl) (wn rfl) rfl rfl (.bool false) (fun w' hS' => ex_move _ rfl _ (F.e rfl)) hS ?_; clear F a; intro a F
    refine any_pass F 9 rfl (by kernel_rfl) (F.wants 132 false rfl (by kernel_rfl) rfl false rfl) rfl rfl hS ?_; clear F a; intro a F
    refine any_pass F 10 rfl (by kernel_rfl) (F.wants 132 false rfl (by kernel_rfl) rfl false rfl) rfl rfl hS ?_; clear F a; intro a F
    refine any_pass F 11 rfl (by kernel_rfl) (F.wants 132 false rfl (by kernel_rfl) rfl false rfl) rfl rfl hS ?_; clear F a; intro a F
    refine any_pass F 12 rfl (by kernel_rfl) (F.wants 132 false rfl (by kernel_rfl) rfl false rfl) rfl rfl hS ?_; clear F a; intro a F
    refine any_pass F 13 rfl (by kernel_rfl) (F.wants 132 false rfl (by kernel_rfl) rfl false rfl) rfl rfl hS ?_; clear F a; intro a F
    refine any_pass F 14 rfl (by kernel_rfl) (F.wants 132 false rfl (by kernel_rfl) rfl false rfl) rfl rfl hS ?_; clear F a; intro a F
    refine any_pass F 15 rfl (by kernel_rfl) (F.wants 132 false rfl (by kernel_rfl) rfl false rfl) rfl rfl hS ?_; clear F a; intro a F
    refine any_pass F 16 rfl (by kernel_rfl) (F.wants 132 false rfl (by kernel_rfl) rfl false rfl) rfl rfl hS ?_; clear F a; intro a F
    refine any_pass F 17 rfl (by kernel_rfl) (F.wants 132 false rfl (by kernel_rfl) rfl false rfl) rfl rfl hS ?_; clear F a; intro a F
    refine any_pass F 18 rfl (by kernel_rfl) (F.wants 132 false rfl (by kernel_rfl) rfl false rfl) rfl rfl hS ?_; clear F a; intro a F
    refine any_pass F 19 rfl (by kernel_rfl) (F.wants 132 false rfl (by kernel_rfl) rfl false rfl) rfl rfl hS ?_; clear F a; intro a F
    refine any_pass F 20 rfl (by kernel_rfl) (F.wants 132 false rfl (by kernel_rfl) rfl false rfl) rfl rfl hS ?_; clear F a; intro a F
    refine any_pass F 21 rfl (by kernel_rfl) (F.wants 132 false rfl (by kernel_rfl) rfl false rfl) rfl rfl hS ?_; clear F a; intro a F
    refine any_pass F 22 rfl (by kernel_rfl) (F.wants 132 false rfl (by kernel_rfl) rfl false rfl) rfl rfl hS ?_; clear F a; intro a F
    refine any_pass F 23 rfl (by kernel_rfl) (F.wants 132 false rfl (by kernel_rfl) rfl false rfl) rfl rfl hS ?_; clear F a; intro a F
    refine any_pass F 24 rfl (by kernel_rfl) (F.wants 132 false rfl (by kernel_rfl) rfl false rfl) rfl rfl hS ?_; clear F a; intro a F
    refine any_pass F 25 rfl (by kernel_rfl) (F.wants 132 false rfl (by kernel_rfl) rfl false rfl) rfl rfl hS ?_; clear F a; intro a F
    refine any_pass F 26 rfl (by kernel_rfl) (F.wants 132 false rfl (by kernel_rfl) rfl false rfl) rfl rfl hS ?_; clear F a; intro a F
    refine any_val F 27 rfl (by kernel_rfl) (wn rfl) rfl rfl (.bool false) (fun w' hS' => ex_pick_f _ _ _ rfl (F.e rfl) _ rfl) hS ?_; clear F a; intro a F
    refine any_done (by kernel_rfl) ?_
    exact ⟨F.keep ⟨rfl, rfl, rfl, rfl, rfl, rfl, rfl, rfl, rfl, rfl, rfl, trivial⟩, (by refine M.pick' [0] _ ?_ (by decide); exact ⟨rfl, trivial⟩), O_110, O_121⟩
   clear F M a O_110 O_121
   intro a v hR; obtain ⟨F, M, O_110, O_121⟩ := hR; try clear u
   refine then_n ?_
   refine wp_cond_false (F.e rfl) ?_
   refine wp_skip ?_
   refine in_n ?_
   refine then_n ?_
   refine wp_region_lit ?_
   refine list_val F (wn rfl) rfl rfl (.int .i64 ((r2 + 1 : Nat) : Int)) (ex_move _ rfl _ (F.e rfl)) ?_; clear F a; intro a F
   refine list_val F (wn rfl) rfl rfl (.int .i64 ((r2 + 1 + 1 : Nat) : Int)) (ex_bin .add _ _ _ _ rfl .i64 _ _ (F.e rfl) rfl _ (b_add ((w_i64 (by omega) (by omega)).trans (by omega)))) ?_; clear F a; intro a F
   refine list_val F (wn rfl) rfl rfl (.int .i64 ((r2 + 1 + 1 : Nat) : Int)) (ex_assign _ rfl _ (F.e rfl)) ?_; clear F a; intro a F
   refine wpList_nil ?_
   replace F : Fr 153 a [(0, .agg #[.slice A bs.length c, .slice A2 n2 c2, .slice A3 n3 c3, .slice (some adyw) ws.length d]), (1, .pointer (some ⟨g1, 0, none⟩)), (2, .bool false), (10, .int .i64 ((r2 + 1 + 1 : Nat) : Int)), (11, .int .i64 ((1 + wi xw.wd : Nat) : Int)), (12, .slice A_110 (((layR yw.n (1 + wi xw.wd)).1).length) c_110), (13, .int .i64 ((layR yw.n (1 + wi xw.wd)).2)), (14, .slice A_121 (((layR xw.n (1 + wi xw.wd)).1).length) c_121), (15, .int .i64 ((layR xw.n (1 + wi xw.wd)).2)), (90, .bool true), (151, .bool false)] := F.keep ⟨rfl, rfl, rfl, rfl, rfl, rfl, rfl, rfl, rfl, rfl, rfl, trivial⟩
   refine then_n ?_
   exact ⟨ws.length - (r2 + 1), by omega, (r2 + 1), F.keep ⟨rfl, rfl, rfl, rfl, trivial⟩, (by refine M.pick' [0] _ ?_ (by decide); exact ⟨rfl, trivial⟩), (by omega), (by omega)⟩
  refine wp_only (fun ar wr => Fr 153 ar [(0, .agg #[.slice A bs.length c, .slice A2 n2 c2, .slice A3 n3 c3, .slice (some adyw) ws.length d]), (1, .pointer (some ⟨g1, 0, none⟩)), (2, .bool false), (10, .int .i64 ((r2 + 1 : Nat) : Int)), (11, .int .i64 ((1 + wi xw.wd : Nat) : Int)), (12, .slice A_110 (((layR yw.n (1 + wi xw.wd)).1).length) c_110), (13, .int .i64 ((layR yw.n (1 + wi xw.wd)).2)), (14, .slice A_121 (((layR xw.n (1 + wi xw.wd)).1).length) c_121), (15, .int .i64 ((layR xw.n (1 + wi xw.wd)).2)), (90, .bool true), (151, .bool false)] ∧ Mm w wr [⟨g1, #[.slice A bs.length c, .slice A2 n2 c2, .slice A3 n3 c3, .slice (some adyw) ws.length d], 27⟩] ∧ Ow ST.kB 5 wr w.heap.size (.slice A_110 (((layR yw.n (1 + wi xw.wd)).1).length) c_110) ((layR yw.n (1 + wi xw.wd)).1) ∧ Ow ST.kB 5 wr w.heap.size (.slice A_121 (((layR xw.n (1 + wi xw.wd)).1).length) c_121) ((layR xw.n (1 + wi xw.wd)).1)) ?_ ?_
  ·
   refine region_any g5_follows_mixedOrders M ?_; clear M; intro wD M hb
   replace O_110 := O_110.below hb
   replace O_121 := O_121.below hb
   clear hb; try clear u
   have hS : Below wD.heap.size wD wD := Below.refl _ _; have MD := M
   have D_O_110 := O_110
   have D_O_121 := O_121
   refine any_val F 0 rfl (by kernel_rfl) (wn rfl) rfl rfl (.int .i64 ((layR yw.n (1 + wi xw.wd)).2)) (fun w' hS' => ex_move _ rfl _ (F.e rfl)) hS ?_; clear F a; intro a F
   refine any_ready [1] (by kernel_rfl) (by simp) ?_
   refine ready_do rfl (wn rfl) (fun K hK => ?_) AllReadyH.nil
   refine ow_call rfl rfl F 11 #[.int .i64 ((layR yw.n (1 + wi xw.wd)).2)] (ex_call 11 _ _ rfl rfl g5_ent_11 _ (map1 (F.e rfl))) (num_any ((layR yw.n (1 + wi xw.wd)).2) _) (fun e v hR => ?_)
   obtain ⟨he, hb⟩ := hR
   refine ⟨.int .i64 ((layR yw.n (1 + wi xw.wd)).2), he, ?_⟩; clear he F a; intro a F
   refine hK _ _ (S_below hS hb) ?_
   replace hS := S_below hS hb
   clear hK K
   replace O_110 := O_110.below hb
   replace O_121 := O_121.below hb
   replace M := M.below hb; clear hb; try clear wD
   refine any_val F 2 rfl (by kernel_rfl) (wn rfl) rfl rfl (.bool false) (fun w' hS' => ex_bin .eql _ _ _ _ rfl .i64 _ _ (F.e rfl) rfl _ (b_eql (beq_eq_false_iff_ne.2 h1))) hS ?_; clear F a; intro a F
   refine any_val F 3 rfl (by kernel_rfl) (wn rfl) rfl rfl (.bool false) (fun w' hS' => ex_move _ rfl _ (F.e rfl)) hS ?_; clear F a; intro a F
   refine any_pass F 4 rfl (by kernel_rfl) (F.wants 127 false rfl (by kernel_rfl) rfl false rfl) rfl rfl hS ?_; clear F a; intro a F
   refine any_pass F 5 rfl (by kernel_rfl) (F.wants 127 false rfl (by kernel_rfl) rfl false rfl) rfl rfl hS ?_; clear F a; intro a F
   refine any_pass F 6 rfl (by kernel_rfl) (F.wants 127 false rfl (by kernel_rfl) rfl false rfl) rfl rfl hS ?_; clear F a; intro a F
   refine any_val F 7 rfl (by kernel_rfl) (wn rfl) rfl rfl (.bool false) (fun w' hS' => ex_pick_f _ _ _ rfl (F.e rfl) _ rfl) hS ?_; clear F a; intro a F
   refine any_val F 8 rfl (by kernel_rfl) (wn rfl) rfl rfl (.bool false) (fun w' hS' => ex_move _ rfl _ (F.e rfl)) hS ?_; clear F a; intro a F
   refine any_pass F 9 rfl (by kernel_rfl) (F.wants 132 false rfl (by kernel_rfl) rfl false rfl) rfl rfl hS ?_; clear F a; intro a F
   refine any_pass F 10 rfl (by kernel_rfl) (F.wants 132 false rfl (by kernel_rfl) rfl false rfl) rfl rfl hS ?_; clear F a; intro a F
   refine any_pass F 11 rfl (by kernel_rfl) (F.wants 132 false rfl (by kernel_rfl) rfl false rfl) rfl rfl hS ?_; clear F a; intro a F
   refine any_pass F 12 rfl (by kernel_rfl) (F.wants 132 false rfl (by kernel_rfl) rfl false rfl) rfl rfl hS ?_; clear F a; intro a F
   refine any_pass F 13 rfl (by kernel_rfl) (F.wants 132 false rfl (by kernel_rfl) rfl false rfl) rfl rfl hS ?_; clear F a; intro a F
   refine any_pass F 14 rfl (by kernel_rfl) (F.wants 132 false rfl (by kernel_rfl) rfl false rfl) rfl rfl hS ?_; clear F a; intro a F
   refine any_pass F 15 rfl (by kernel_rfl) (F.wants 132 false rfl (by kernel_rfl) rfl false rfl) rfl rfl hS ?_; clear F a; intro a F
   refine any_pass F 16 rfl (by kernel_rfl) (F.wants 132 false rfl (by kernel_rfl) rfl false rfl) rfl rfl hS ?_; clear F a; intro a F
   refine any_pass F 17 rfl (by kernel_rfl) (F.wants 132 false rfl (by kernel_rfl) rfl false rfl) rfl rfl hS ?_; clear F a; intro a F
   refine any_pass F 18 rfl (by kernel_rfl) (F.wants 132 false rfl (by kernel_rfl) rfl false rfl) rfl rfl hS ?_; clear F a; intro a F
   refine any_pass F 19 rfl (by kernel_rfl) (F.wants 132 false rfl (by kernel_rfl) rfl false rfl) rfl rfl hS ?_; clear F a; intro a F
   refine any_pass F 20 rfl (by kernel_rfl) (F.wants 132 false rfl (by kernel_rfl) rfl false rfl) rfl rfl hS ?_; clear F a; intro a F
   refine any_pass F 21 rfl (by kernel_rfl) (F.wants 132 false rfl (by kernel_rfl) rfl false rfl) rfl rfl hS ?_; clear F a; intro a F
   refine any_pass F 22 rfl (by kernel_rfl) (F.wants 132 false rfl (by kernel_rfl) rfl false rfl) rfl rfl hS ?_; clear F a; intro a F
   refine any_pass F 23 rfl (by kernel_rfl) (F.wants 132 false rfl (by kernel_rfl) rfl false rfl) rfl rfl hS ?_; clear F a; intro a F
   refine any_pass F 24 rfl (by kernel_rfl) (F.wants 132 false rfl (by kernel_rfl) rfl false rfl) rfl rfl hS ?_; clear F a; intro a F
   refine any_pass F 25 rfl (by kernel_rfl) (F.wants 132 false rfl (by kernel_rfl) rfl false rfl) rfl rfl hS ?_; clear F a; intro a F
   refine any_pass F 26 rfl (by kernel_rfl) (F.wants 132 false rfl (by kernel_rfl) rfl false rfl) rfl rfl hS ?_; clear F a; intro a F
   refine any_val F 27 rfl (by kernel_rfl) (wn rfl) rfl rfl (.bool false) (fun w' hS' => ex_pick_f _ _ _ rfl (F.e rfl) _ rfl) hS ?_; clear F a; intro a F
   refine any_done (by kernel_rfl) ?_
   exact ⟨F.keep ⟨rfl, rfl, rfl, rfl, rfl, rfl, rfl, rfl, rfl, rfl, rfl, trivial⟩, (by refine M.pick' [0] _ ?_ (by decide); exact ⟨rfl, trivial⟩), O_110, O_121⟩
  clear F M a O_110 O_121
  intro a v hR; obtain ⟨F, M, O_110, O_121⟩ := hR; try clear u
  refine then_n ?_
  refine wp_cond_false (F.e rfl) ?_
  refine wp_skip ?_
  refine in_n ?_
  refine then_n ?_
  refine wp_region_lit ?_
  refine list_val F (wn rfl) rfl rfl (.int .i64 ((r2 + 1 : Nat) : Int)) (ex_move _ rfl _ (F.e rfl)) ?_; clear F a; intro a F
  refine list_val F (wn rfl) rfl rfl (.int .i64 ((r2 + 1 + 1 : Nat) : Int)) (ex_bin .add _ _ _ _ rfl .i64 _ _ (F.e rfl) rfl _ (b_add ((w_i64 (by omega) (by omega)).trans (by omega)))) ?_; clear F a; intro a F
  refine list_val F (wn rfl) rfl rfl (.int .i64 ((r2 + 1 + 1 : Nat) : Int)) (ex_assign _ rfl _ (F.e rfl)) ?_; clear F a; intro a F
  refine wpList_nil ?_
  replace F : Fr 153 a [(0, .agg #[.slice A bs.length c, .slice A2 n2 c2, .slice A3 n3 c3, .slice (some adyw) ws.length d]), (1, .pointer (some ⟨g1, 0, none⟩)), (2, .bool false), (10, .int .i64 ((r2 + 1 + 1 : Nat) : Int)), (11, .int .i64 ((1 + wi xw.wd : Nat) : Int)), (12, .slice A_110 (((layR yw.n (1 + wi xw.wd)).1).length) c_110), (13, .int .i64 ((layR yw.n (1 + wi xw.wd)).2)), (14, .slice A_121 (((layR xw.n (1 + wi xw.wd)).1).length) c_121), (15, .int .i64 ((layR xw.n (1 + wi xw.wd)).2)), (90, .bool true), (151, .bool false)] := F.keep ⟨rfl, rfl, rfl, rfl, rfl, rfl, rfl, rfl, rfl, rfl, rfl, trivial⟩
  refine then_n ?_
  exact ⟨ws.length - (r2 + 1), by omega, (r2 + 1), F.keep ⟨rfl, rfl, rfl, rfl, trivial⟩, (by refine M.pick' [0] _ ?_ (by decide); exact ⟨rfl, trivial⟩), (by omega), (by omega)⟩
 refine wp_seq ?_
 refine wp_seq ?_
 refine wp_region_lit ?_
 refine list_val F (wn rfl) rfl rfl (.int .i64 ((r2 + 1 : Nat) : Int)) (ex_move _ rfl _ (F.e rfl)) ?_; clear F a; intro a F
 refine list_val F (wn rfl) rfl rfl (.pointer (some ⟨g1, 3, none⟩)) (ex_fa _ _ _ rfl _ (F.e rfl) 3 g5_fa_27_3_3 ⟨g1, 3, none⟩ rfl) ?_; clear F a; intro a F
 refine list_val F (wn rfl) rfl rfl (.slice D ws.length d) (ex_load _ _ rfl _ (F.e rfl) _ (lv1 g5_one_25 (M.cell (i := 0) rfl (j := 3) rfl))) ?_; clear F a; intro a F
 refine list_val F (wn rfl) rfl rfl (.int .i64 ((ws.length : Nat) : Int)) (ex_len _ _ rfl 2 g5_sl_25_2 _ _ _ (F.e rfl)) ?_; clear F a; intro a F
 refine list_val F (wn rfl) rfl rfl (.bool false) (ex_bin .lss _ _ _ _ rfl .i64 _ _ (F.e rfl) (F.e rfl) _ (b_lss (decide_eq_false (by omega)))) ?_; clear F a; intro a F
 refine wpList_nil ?_
 replace F : Fr 153 a [(0, .agg #[.slice A bs.length c, .slice A2 n2 c2, .slice A3 n3 c3, .slice D ws.length d]), (1, .pointer (some ⟨g1, 0, none⟩)), (2, .bool false), (10, .int .i64 ((r2 + 1 : Nat) : Int)), (90, .bool false)] := F.keep ⟨rfl, rfl, rfl, rfl, rfl, trivial⟩
 refine then_n ?_
 refine wp_cond_false (F.e rfl) ?_
 refine wp_exit ?_
 refine then_x ?_
 refine then_x ?_
 refine in_hit ?_
 refine then_n ?_
 refine wp_seq ?_
 refine wp_region_lit ?_
 refine list_do (wn rfl) (fun K hK => ?_)
 refine ow_call rfl rfl F 13 #[] (ex_call 13 _ _ rfl rfl g5_ent_13 _ (map0)) (lays_any _ (hE.below M.bel)) (fun e u hR => ?_)
 obtain ⟨he, hb⟩ := hR
 refine ⟨.bool true, he, ?_⟩; clear he F a; intro a F
 refine hK _ _ ?_
 clear hK K
 replace M := M.below hb; clear hb; try clear v
 refine list_val F (wn rfl) rfl rfl (.bool true) (ex_assign _ rfl _ (F.e rfl)) ?_; clear F a; intro a F
 refine wpList_nil ?_
 replace F : Fr 153 a [(0, .agg #[.slice A bs.length c, .slice A2 n2 c2, .slice A3 n3 c3, .slice D ws.length d]), (1, .pointer (some ⟨g1, 0, none⟩)), (2, .bool true), (10, .int .i64 ((r2 + 1 : Nat) : Int)), (90, .bool false)] := F.keep ⟨rfl, rfl, rfl, rfl, rfl, trivial⟩
 refine then_n ?_
 refine wp_ret ?_
 exact ret_tmp F rfl rfl ⟨rfl, M.bel⟩
end Go.Proofs.YtadaacoddfkalaaDoor
