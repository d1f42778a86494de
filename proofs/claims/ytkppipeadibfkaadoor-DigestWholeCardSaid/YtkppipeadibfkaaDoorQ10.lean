/- posternlaw4.DigestWhole. Conditions: the table is laid; the argument is read. -/
import Derived.Test.YtkppipeadibfkaaDoorPL
namespace Go.Proofs.YtkppipeadibfkaaDoor
open Go.RowKit Go.Proofs.YtkppipeadibfkaaDoorW.PrintWords KB WG
set_option linter.unusedVariables false
set_option linter.unusedSimpArgs false
set_option linter.unnecessarySimpa false
theorem build67 (w : World) : (Instr.build 67 #[]).run Tryd.prog w = .ok (.agg #[.slice none 0 0, .slice none 0 0]) w := by kernel_rfl
/-- A hash has taken bytes: blocks that are none of it stay. -/
theorem WG.Mm.chgo {w0 w w' : World} {H : List Blk} (N : Mm w0 w H) {g : Nat} {cs : Array Value} {sl sl' : Value} {bs : List By} (hlo : w0.heap.size ≤ g) (hgb : w.heap[g]? = some (.cells cs 82 (0, 0))) (h82 : ∀ (i : Nat) (b : Blk), H[i]? = some b → b.t ≠ 82) (hO : OwB w w0.heap.size sl bs) (hT : H.all (fun b => b.t != 5) = true) (hC : Cg w w' g sl.ownBlock sl') : Mm w0 w' H := by
  have hrow : ∀ k, sl.ownBlock = some k → w0.heap.size ≤ k ∧ ∀ (j : Nat) (b : Blk), H[j]? = some b → b.g ≠ k := fun k hk => by
    obtain ⟨h2, _, cells, hc⟩ := hO.bound hk
    refine ⟨h2, fun j b hb e => ?_⟩
    have h1 := N.blk j b hb
    rw [e, hc] at h1
    injection h1 with h1
    injection h1 with _ h1
    have := List.all_eq_true.1 hT b (List.mem_of_getElem? hb)
    rw [← h1] at this
    simp at this
  refine ⟨⟨hC.1.os.trans N.bel.os, hC.1.tape.trans N.bel.tape, hC.1.output.trans N.bel.output, Nat.le_trans N.bel.size hC.1.size, fun k hk => ?_⟩, fun j b hb => ?_, N.lo, N.nd⟩
  · rw [hC.1.block k (Nat.lt_of_lt_of_le hk N.bel.size) (by omega) (fun e => by have := (hrow k e.symm).1; omega)]
    exact N.bel.block k hk
  · have h2 := N.blk j b hb
    rw [hC.1.block _ (N.lt hb) (fun e => by
      rw [e, hgb] at h2
      injection h2 with h2
      injection h2 with _ h2
      exact h82 j b hb h2.symm) (fun e => (hrow _ e.symm).2 j b hb rfl)]
    exact h2
theorem Pl.chg {w0 w w' : World} {gp : Nat} {x : Value} (Z : Pl w0 w gp x) {g : Nat} {cs : Array Value} {sl sl' : Value} {bs : List By} (hlo : w0.heap.size ≤ g) (hgb : w.heap[g]? = some (.cells cs 82 (0, 0))) (hO : OwB w w0.heap.size sl bs) (hC : Cg w w' g sl.ownBlock sl') : Pl w0 w' gp x := by
  rcases Z with ⟨rfl, M⟩ | ⟨g1, c1, s1, g2, c2, s2, M, h1, h2⟩
  · refine .inl ⟨rfl, M.chgo hlo hgb (fun i b hi => ?_) hO rfl hC⟩
    match i, hi with
    | 0, hi => obtain rfl := Option.some.inj hi; exact (by decide : (67 : Nat) ≠ 82)
    | i + 1, hi => simp at hi
  · refine .inr ⟨g1, c1, s1, g2, c2, s2, M.chgo hlo hgb (fun i b hi => ?_) hO rfl hC, h1, h2⟩
    match i, hi with
    | 0, hi => obtain rfl := Option.some.inj hi; exact (by decide : (67 : Nat) ≠ 82)
    | 1, hi => obtain rfl := Option.some.inj hi; exact (by decide : (23 : Nat) ≠ 82)
    | 2, hi => obtain rfl := Option.some.inj hi; exact (by decide : (23 : Nat) ≠ 82)
    | i + 3, hi => simp at hi
/-- append to one of the rows beside a place. -/
theorem ow_appP {a : Act} {w w0 : World} {n : Nat} {L : List (Nat × Value)} {H : List Blk} {lr : List Rw} {op : Oper} {K : Act → World → Prop} {Q : Exit → Act → World → Prop} {gp : Nat} {px : Value} (F : Fr n a L) (M : Mm w0 w H) (R : Rs w0 w lr) (Z : Pl w0 w gp px) (hT : H.all (fun b => b.t != 5) = true) {d : Nat} (hd : op.dst = some d) (hlt : Nat.blt d n = true) (hgd : op.guard = none) (s x : Operand) (ho : op.op = .call { callee := .builtin .append, args := #[s, x], argTypes := #[23, 23] })
    (i : Nat) (B : Option Addr) (q b : Nat) (xs ys zs : List By) (hi : lr[i]? = some (.slice B q b, xs)) (hz : xs ++ ys = zs) (A : Option Addr) (m c : Nat) (hs : a.eval s = .slice B q b) (hx : a.eval x = .slice A m c) (HR : Rb w A m ys) (hl : xs.length + m ≤ 140737488355328)
    (h : ∀ a' A1 c1 w', Fr n a' ((d, .slice A1 zs.length c1) :: L) → Mm w0 w' H → Rs w0 w' (lr.set i (.slice A1 zs.length c1, zs)) → Pl w0 w' gp px → K a' w') : op.wp Tryd.prog a w K Q :=
  ow_appZ F M hT hd hlt hgd s x ho B q b xs ys zs hz A m c hs hx (R.own i _ _ hi) HR hl (fun a' A1 c1 w' F' M' O' hg hat => h a' A1 c1 w' F' M' (R.app hi hg O' hat) (Z.row (R.own i _ _ hi) hg))
theorem ef_ent_31 : ent? Tryd.prog 31 = true := by kernel_rfl
theorem ef_sl_22_1 : sl? Tryd.prog 22 1 = true := by kernel_rfl
theorem ef_sl_23_1 : sl? Tryd.prog 23 1 = true := by kernel_rfl
theorem ef_one_23 : one? Tryd.prog 23 = true := by kernel_rfl
theorem ef_ent_37 : ent? Tryd.prog 37 = true := by kernel_rfl
theorem ef_ent_33 : ent? Tryd.prog 33 = true := by kernel_rfl
theorem ef_ent_22 : ent? Tryd.prog 22 = true := by kernel_rfl
theorem ef_ent_35 : ent? Tryd.prog 35 = true := by kernel_rfl
theorem ef_ent_27 : ent? Tryd.prog 27 = true := by kernel_rfl
theorem ef_ent_15 : ent? Tryd.prog 15 = true := by kernel_rfl
theorem ef_ab_24_32 : ab? Tryd.prog 24 32 = true := by kernel_rfl
theorem ef_ent_36 : ent? Tryd.prog 36 = true := by kernel_rfl
theorem ef_cv_3_62_u64 : cv? Tryd.prog 3 62 .u64 = true := by kernel_rfl
theorem ef_ent_19 : ent? Tryd.prog 19 = true := by kernel_rfl
set_option maxHeartbeats 4000000 in
set_option maxRecDepth 100000 in
theorem whole_any (ls : List (List By)) (Ls : Option Addr) (n cl : Nat) (hn : n ≤ 5864062014805) (w : World) (hKt : At w ⟨0, 0, none⟩ (wcs kTab)) (hl : RowsB w Ls n ls) (hwf : wLs ls) :
    Calls Tryd.prog 10 #[.slice Ls n cl] w fun e w' => e = .returned (.bool true) ∧ Below w.heap.size w w' := by
 have R_ : Rs w w [] := Rs.nil w w
 have h0 := kt_pos hKt
 refine calls_start Tryd.func10 rfl rfl rfl (fun a F => ?_)
 have M : Mm w w [] := Mm.nil w
 refine wp_seq ?_
 refine wp_region_lit ?_
 refine list_val F (wn rfl) rfl rfl (.bool false) (ex_assign _ rfl _ rfl) ?_; clear F a; intro a F
 refine wpList_nil ?_
 replace F : Fr 79 a [(0, .slice Ls n cl), (2, .bool false)] := F.keep ⟨rfl, rfl, trivial⟩
 refine then_n ?_
 refine wp_seq ?_
 refine wp_region_lit ?_
 refine list_do (wn rfl) (fun K hK => ?_)
 refine ow_call rfl rfl F 31 #[] (ex_call 31 _ _ rfl rfl ef_ent_31 _ (map0)) (new_all _) (fun e v hR => ?_)
 obtain ⟨g8, he, hg, hn, hb⟩ := hR
 have M1 := M.new ⟨g8, (hcs ((feed hIni []).1) (.slice none ((feed hIni []).2.length) 0) (((BitVec.ofNat 64 0).toNat : Int))).toArray, 82⟩ hb hg hn
 have R1 := (R_.below hb).addnew
 refine ⟨.pointer (some ⟨g8, 0, none⟩), he, ?_⟩; clear he F a; intro a F
 refine hK _ _ ?_
 clear hK K
 replace R_ := R_.below hb
 replace M := M.below hb; clear hb; try clear w
 replace M := M1; replace R_ := R1; clear M1 R1 hg hn
 refine list_val F (wn rfl) rfl rfl (.pointer (some ⟨g8, 0, none⟩)) (ex_assign _ rfl _ (F.e rfl)) ?_; clear F a; intro a F
 refine wpList_nil ?_
 replace F : Fr 79 a [(0, .slice Ls n cl), (2, .bool false), (3, .pointer (some ⟨g8, 0, none⟩))] := F.keep ⟨rfl, rfl, rfl, trivial⟩
 refine then_n ?_
 refine wp_seq ?_
 refine wp_seq ?_
 refine wp_region_lit ?_
 refine list_val F (wn rfl) rfl rfl (.pointer (some ⟨g8, 0, none⟩)) (ex_move _ rfl _ (F.e rfl)) ?_; clear F a; intro a F
 refine list_val F (wn rfl) rfl rfl (.bool false) (ex_pnil _ _ _ rfl ⟨g8, 0, none⟩ (F.e rfl) rfl) ?_; clear F a; intro a F
 refine wpList_nil ?_
 replace F : Fr 79 a [(0, .slice Ls n cl), (2, .bool false), (3, .pointer (some ⟨g8, 0, none⟩)), (10, .bool false)] := F.keep ⟨rfl, rfl, rfl, rfl, trivial⟩
 refine then_n ?_
 refine wp_cond_false (F.e rfl) ?_
 refine wp_skip ?_
 refine then_n ?_
 refine wp_seq ?_
 refine wp_region_lit ?_
 refine list_val F (wn rfl) rfl rfl (.slice none 0 0) (ex_assign _ rfl _ rfl) ?_; clear F a; intro a F
 refine wpList_nil ?_
 replace F : Fr 79 a [(0, .slice Ls n cl), (2, .bool false), (3, .pointer (some ⟨g8, 0, none⟩)), (4, .slice none 0 0), (10, .bool false)] := F.keep ⟨rfl, rfl, rfl, rfl, rfl, trivial⟩
 refine then_n ?_
 refine wp_seq ?_
 refine wp_region_lit ?_
 refine list_val F (wn rfl) rfl rfl (.agg #[.slice none 0 0, .slice none 0 0]) (ex_build 67 _ rfl #[] parts0 (.agg #[.slice none 0 0, .slice none 0 0]) (build67 _)) ?_; clear F a; intro a F
 refine list_do (wn rfl) (fun K hK => ?_)
 refine ow_box F M rfl rfl 67 _ rfl _ (F.e rfl) #[.slice none 0 0, .slice none 0 0] rfl ?_
 clear F M a; intro a g12 u F M hb hg
 refine hK _ _ ?_
 clear hK K
 replace R_ := R_.below hb
 clear hb hg; try clear v
 refine list_val F (wn rfl) rfl rfl (.pointer (some ⟨g12, 0, none⟩)) (ex_assign _ rfl _ (F.e rfl)) ?_; clear F a; intro a F
 refine wpList_nil ?_
 replace F : Fr 79 a [(0, .slice Ls n cl), (2, .bool false), (3, .pointer (some ⟨g8, 0, none⟩)), (4, .slice none 0 0), (5, .pointer (some ⟨g12, 0, none⟩)), (10, .bool false)] := F.keep ⟨rfl, rfl, rfl, rfl, rfl, rfl, trivial⟩
 refine then_n ?_
 refine wp_seq ?_
 refine wp_seq ?_
 refine wp_region_lit ?_
 refine list_val F (wn rfl) rfl rfl (.int .i64 0) (ex_assign _ rfl _ rfl) ?_; clear F a; intro a F
 refine wpList_nil ?_
 replace F : Fr 79 a [(0, .slice Ls n cl), (2, .bool false), (3, .pointer (some ⟨g8, 0, none⟩)), (4, .slice none 0 0), (5, .pointer (some ⟨g12, 0, none⟩)), (6, .int .i64 0), (10, .bool false)] := F.keep ⟨rfl, rfl, rfl, rfl, rfl, rfl, rfl, trivial⟩
 refine then_n ?_
 refine wp_block ?_
 refine wp_loopN (fun mq ar wr => ∃ (i : Nat), ∃ (D : List By), ∃ (Ah : Option Addr), ∃ (kh : Nat), ∃ (Aa : Option Addr), ∃ (ca : Nat), ∃ (Ap : Option Addr), ∃ (np : Nat), ∃ (kp : Nat), ∃ (old : List By), Fr 79 ar [(0, .slice Ls n cl), (2, .bool false), (3, .pointer (some ⟨g8, 0, none⟩)), (4, .slice Aa D.length ca), (5, .pointer (some ⟨g12, 0, none⟩)), (6, .int .i64 ((i : Nat) : Int)), (10, .bool false)] ∧ Mm w wr [⟨g8, (hcs ((feed hIni D).1) (.slice Ah ((feed hIni D).2.length) kh) (((BitVec.ofNat 64 D.length).toNat : Int))).toArray, 82⟩] ∧ Rs w wr [(.slice Ap np kp, old), (.slice Aa D.length ca, D), (.slice Ah ((feed hIni D).2.length) kh, (feed hIni D).2)] ∧ Pl w wr g12 (.slice Ap np kp) ∧ i ≤ n ∧ D.length ≤ 65536 ∧ mq + i = n) n ?_ ?_
 ·
  exact ⟨0, [], none, 0, none, 0, none, 0, 0, [], F.keep ⟨rfl, rfl, rfl, rfl, rfl, rfl, rfl, trivial⟩, (by refine M.pick' [1] _ ?_ (by decide); exact ⟨rfl, trivial⟩), R_.addnil.addnil, (.inl ⟨rfl, (by refine M.pick' [0] _ ?_ (by decide); exact ⟨rfl, trivial⟩)⟩), (Nat.zero_le _), (Nat.zero_le _), (by omega)⟩
 clear F M a R_
 rintro mq a v ⟨i, D, Ah, kh, Aa, ca, Ap, np, kp, old, F, M, R_, P_, hi, hD, hq⟩; try clear u
 by_cases hin : i < n
 ·
  obtain ⟨ad, B, c, hLs, hce, hrb, hmc⟩ := hl.row hin
  obtain ⟨b, hb⟩ : ∃ b, b = ls.getD i [] := ⟨_, rfl⟩
  have hbl := wLs_row hwf (i := i)
  rw [← hb] at hce hrb hmc hbl
  subst hLs
  by_cases hfit : D.length + b.length ≤ 65536
  ·
   refine wp_seq ?_
   refine wp_seq ?_
   refine wp_region_lit ?_
   refine list_val F (wn rfl) rfl rfl (.int .i64 ((i : Nat) : Int)) (ex_move _ rfl _ (F.e rfl)) ?_; clear F a; intro a F
   refine list_val F (wn rfl) rfl rfl (.slice (some ad) n cl) (ex_move _ rfl _ (F.e rfl)) ?_; clear F a; intro a F
   refine list_val F (wn rfl) rfl rfl (.int .i64 ((n : Nat) : Int)) (ex_len _ _ rfl 1 ef_sl_22_1 _ _ _ (F.e rfl)) ?_; clear F a; intro a F
   refine list_val F (wn rfl) rfl rfl (.bool true) (ex_bin .lss _ _ _ _ rfl .i64 _ _ (F.e rfl) (F.e rfl) _ (b_lss (decide_eq_true (by omega)))) ?_; clear F a; intro a F
   refine list_val F (wn rfl) rfl rfl (.bool true) (ex_move _ rfl _ (F.e rfl)) ?_; clear F a; intro a F
   refine list_val F (F.wants 17 true rfl (by kernel_rfl) rfl true rfl) rfl rfl (.slice Aa D.length ca) (ex_move _ rfl _ (F.e rfl)) ?_; clear F a; intro a F
   refine list_val F (F.wants 17 true rfl (by kernel_rfl) rfl true rfl) rfl rfl (.int .i64 ((D.length : Nat) : Int)) (ex_len _ _ rfl 1 ef_sl_23_1 _ _ _ (F.e rfl)) ?_; clear F a; intro a F
   refine list_val F (F.wants 17 true rfl (by kernel_rfl) rfl true rfl) rfl rfl (.slice (some ad) n cl) (ex_move _ rfl _ (F.e rfl)) ?_; clear F a; intro a F
   refine list_val F (F.wants 17 true rfl (by kernel_rfl) rfl true rfl) rfl rfl (.int .i64 ((i : Nat) : Int)) (ex_move _ rfl _ (F.e rfl)) ?_; clear F a; intro a F
   refine list_val F (F.wants 17 true rfl (by kernel_rfl) rfl true rfl) rfl rfl (.pointer (some (ad.add i))) (ex_ix _ _ _ rfl 1 ef_sl_22_1 ad _ _ (F.e rfl) .i64 _ (F.e rfl) i rfl (by omega) _ (congrArg _ (Nat.mul_one _))) ?_; clear F a; intro a F
   refine list_val F (F.wants 17 true rfl (by kernel_rfl) rfl true rfl) rfl rfl (.slice B b.length c) (ex_load _ _ rfl _ (F.e rfl) _ (lv1 ef_one_23 (pw_cell_below M.bel hce))) ?_; clear F a; intro a F
   refine list_val F (F.wants 17 true rfl (by kernel_rfl) rfl true rfl) rfl rfl (.int .i64 ((b.length : Nat) : Int)) (ex_len _ _ rfl 1 ef_sl_23_1 _ _ _ (F.e rfl)) ?_; clear F a; intro a F
   refine list_val F (F.wants 17 true rfl (by kernel_rfl) rfl true rfl) rfl rfl (.int .i64 (((D.length : Nat) : Int) + ((b.length : Nat) : Int))) (ex_bin .add _ _ _ _ rfl .i64 _ _ (F.e rfl) (F.e rfl) _ (b_add (w_i64 (by omega) (by omega)))) ?_; clear F a; intro a F
   refine list_val F (F.wants 17 true rfl (by kernel_rfl) rfl true rfl) rfl rfl (.bool true) (ex_bin .leq _ _ _ _ rfl .i64 _ _ (F.e rfl) rfl _ (b_leq (decide_eq_true (by omega)))) ?_; clear F a; intro a F
   refine list_val F (wn rfl) rfl rfl (.bool true) (ex_pick_t _ _ _ rfl (F.e rfl) _ (F.e rfl)) ?_; clear F a; intro a F
   refine wpList_nil ?_
   replace F : Fr 79 a [(0, .slice (some ad) n cl), (2, .bool false), (3, .pointer (some ⟨g8, 0, none⟩)), (4, .slice Aa D.length ca), (5, .pointer (some ⟨g12, 0, none⟩)), (6, .int .i64 ((i : Nat) : Int)), (10, .bool false), (27, .bool true)] := F.keep ⟨rfl, rfl, rfl, rfl, rfl, rfl, rfl, rfl, trivial⟩
   refine then_n ?_
   refine wp_cond_true (F.e rfl) ?_
   refine wp_skip ?_
   refine then_n ?_
   refine wp_seq ?_
   refine wp_block ?_
   refine wp_seq ?_
   refine wp_region_lit ?_
   refine list_val F (wn rfl) rfl rfl (.pointer (some ⟨g12, 0, none⟩)) (ex_move _ rfl _ (F.e rfl)) ?_; clear F a; intro a F
   refine list_val F (wn rfl) rfl rfl (.slice (some ad) n cl) (ex_move _ rfl _ (F.e rfl)) ?_; clear F a; intro a F
   refine list_val F (wn rfl) rfl rfl (.int .i64 ((i : Nat) : Int)) (ex_move _ rfl _ (F.e rfl)) ?_; clear F a; intro a F
   refine list_val F (wn rfl) rfl rfl (.pointer (some (ad.add i))) (ex_ix _ _ _ rfl 1 ef_sl_22_1 ad _ _ (F.e rfl) .i64 _ (F.e rfl) i rfl (by omega) _ (congrArg _ (Nat.mul_one _))) ?_; clear F a; intro a F
   refine list_val F (wn rfl) rfl rfl (.slice B b.length c) (ex_load _ _ rfl _ (F.e rfl) _ (lv1 ef_one_23 (pw_cell_below M.bel hce))) ?_; clear F a; intro a F
   refine list_do (wn rfl) (fun K hK => ?_)
   refine ow_call rfl rfl F 37 #[.pointer (some ⟨g12, 0, none⟩), .slice B b.length c] (ex_call 37 _ _ rfl rfl ef_ent_37 _ (map2 (F.e rfl) (F.e rfl))) (bytes_any (t := [_, _]) P_ R_ M (.of rfl) hrb hbl) (fun e u hR => ?_)
   obtain ⟨A_35, k_35, he, P1, M1, R1⟩ := hR
   refine ⟨.slice A_35 b.length k_35, he, ?_⟩; clear he F a; intro a F
   refine hK _ _ ?_
   clear hK K
   replace M := M1; replace P_ := P1; replace R_ := R1; clear M1 P1 R1; try clear v
   refine list_val F (wn rfl) rfl rfl (.slice A_35 b.length k_35) (ex_assign _ rfl _ (F.e rfl)) ?_; clear F a; intro a F
   refine wpList_nil ?_
   replace F : Fr 79 a [(0, .slice (some ad) n cl), (2, .bool false), (3, .pointer (some ⟨g8, 0, none⟩)), (4, .slice Aa D.length ca), (5, .pointer (some ⟨g12, 0, none⟩)), (6, .int .i64 ((i : Nat) : Int)), (7, .slice A_35 b.length k_35), (10, .bool false), (27, .bool true)] := F.keep ⟨rfl, rfl, rfl, rfl, rfl, rfl, rfl, rfl, rfl, trivial⟩
   refine then_n ?_
   refine wp_seq ?_
   refine wp_region_lit ?_
   refine list_val F (wn rfl) rfl rfl (.pointer (some ⟨g8, 0, none⟩)) (ex_move _ rfl _ (F.e rfl)) ?_; clear F a; intro a F
   refine list_val F (wn rfl) rfl rfl (.slice A_35 b.length k_35) (ex_move _ rfl _ (F.e rfl)) ?_; clear F a; intro a F
   refine list_do (wn rfl) (fun K hK => ?_)
   have hL : RbA u A_35 b.length k_35 b g8 (.slice Ah ((feed hIni D).2.length) kh) := (R_.rba (i := 2) (j := 0) rfl (R_.rb (i := 0) rfl) (R_.cap (i := 0) rfl) rfl (by decide) (M.blk 0 _ rfl))
   refine ow_call rfl rfl F 33 #[.pointer (some ⟨g8, 0, none⟩), .slice A_35 b.length k_35] (ex_call 33 _ _ rfl rfl ef_ent_33 _ (map2 (F.e rfl) (F.e rfl))) (write_to D (D ++ b) Ah kh (BitVec.ofNat 64 D.length) (BitVec.ofNat 64 (D ++ b).length) b A_35 b.length k_35 g8 w.heap.size _ (hKt.below M.bel) h0 M.bel.size (M.lo 0 _ rfl) (M.blk 0 _ rfl) (R_.own 2 _ _ rfl) hL rfl (num_app hL.1.1 rfl)) (fun e v hR => ?_)
   obtain ⟨he, A_38, k_38, hn, O_n, hC⟩ := hR
   refine ⟨.tuple #[], he, ?_⟩; clear he F a; intro a F
   refine hK _ _ ?_
   clear hK K
   have P1 := P_.chg (M.lo 0 _ rfl) (M.blk 0 _ rfl) (R_.own 2 _ _ rfl) hC
   have M1 := M.chg (i := 0) rfl (R_.own 2 _ _ rfl) rfl hC ((hcs ((feed hIni (D ++ b)).1) (.slice A_38 ((feed hIni (D ++ b)).2.length) k_38) (((BitVec.ofNat 64 (D ++ b).length).toNat : Int))).toArray) hn
   have R1 := R_.take (i := 2) rfl (M.blk 0 _ rfl) hC O_n
   replace M := M1; replace R_ := R1; clear M1 R1 hC hn O_n hL
   replace M : Mm w v [⟨g8, (hcs ((feed hIni (D ++ b)).1) (.slice A_38 ((feed hIni (D ++ b)).2.length) k_38) (((BitVec.ofNat 64 (D ++ b).length).toNat : Int))).toArray, 82⟩] := M; try clear u
   replace P_ := P1; clear P1
   refine wpList_nil ?_
   replace F : Fr 79 a [(0, .slice (some ad) n cl), (2, .bool false), (3, .pointer (some ⟨g8, 0, none⟩)), (4, .slice Aa D.length ca), (5, .pointer (some ⟨g12, 0, none⟩)), (6, .int .i64 ((i : Nat) : Int)), (7, .slice A_35 b.length k_35), (10, .bool false), (27, .bool true)] := F.keep ⟨rfl, rfl, rfl, rfl, rfl, rfl, rfl, rfl, rfl, trivial⟩
   refine then_n ?_
   refine wp_seq ?_
   refine wp_seq ?_
   refine wp_region_lit ?_
   refine list_val F (wn rfl) rfl rfl (.slice A_35 b.length k_35) (ex_move _ rfl _ (F.e rfl)) ?_; clear F a; intro a F
   refine list_val F (wn rfl) rfl rfl (.slice (some ad) n cl) (ex_move _ rfl _ (F.e rfl)) ?_; clear F a; intro a F
   refine list_val F (wn rfl) rfl rfl (.int .i64 ((i : Nat) : Int)) (ex_move _ rfl _ (F.e rfl)) ?_; clear F a; intro a F
   refine list_val F (wn rfl) rfl rfl (.pointer (some (ad.add i))) (ex_ix _ _ _ rfl 1 ef_sl_22_1 ad _ _ (F.e rfl) .i64 _ (F.e rfl) i rfl (by omega) _ (congrArg _ (Nat.mul_one _))) ?_; clear F a; intro a F
   refine list_val F (wn rfl) rfl rfl (.slice B b.length c) (ex_load _ _ rfl _ (F.e rfl) _ (lv1 ef_one_23 (pw_cell_below M.bel hce))) ?_; clear F a; intro a F
   refine list_do (wn rfl) (fun K hK => ?_)
   refine ow_call rfl rfl F 22 #[.slice A_35 b.length k_35, .slice B b.length c] (ex_call 22 _ _ rfl rfl ef_ent_22 _ (map2 (F.e rfl) (F.e rfl))) (eq_any b b _ _ b.length k_35 b.length c _ (R_.rb (i := 0) rfl) (hrb.below M.bel)) (fun e u hR => ?_)
   obtain ⟨he, hb⟩ := hR
   rw [decide_eq_true rfl] at he
   refine ⟨.bool true, he, ?_⟩; clear he F a; intro a F
   refine hK _ _ ?_
   clear hK K
   replace R_ := R_.below hb
   replace P_ := P_.below hb
   replace M := M.below hb; clear hb; try clear v
   refine list_val F (wn rfl) rfl rfl (.bool false) (ex_not _ _ rfl _ (F.e rfl) _ rfl) ?_; clear F a; intro a F
   refine wpList_nil ?_
   replace F : Fr 79 a [(0, .slice (some ad) n cl), (2, .bool false), (3, .pointer (some ⟨g8, 0, none⟩)), (4, .slice Aa D.length ca), (5, .pointer (some ⟨g12, 0, none⟩)), (6, .int .i64 ((i : Nat) : Int)), (7, .slice A_35 b.length k_35), (10, .bool false), (27, .bool true), (45, .bool false)] := F.keep ⟨rfl, rfl, rfl, rfl, rfl, rfl, rfl, rfl, rfl, rfl, trivial⟩
   refine then_n ?_
   refine wp_cond_false (F.e rfl) ?_
   refine wp_skip ?_
   refine then_n ?_
   refine wp_seq ?_
   refine wp_region_lit ?_
   refine list_val F (wn rfl) rfl rfl (.slice Aa D.length ca) (ex_move _ rfl _ (F.e rfl)) ?_; clear F a; intro a F
   refine list_val F (wn rfl) rfl rfl (.slice (some ad) n cl) (ex_move _ rfl _ (F.e rfl)) ?_; clear F a; intro a F
   refine list_val F (wn rfl) rfl rfl (.int .i64 ((i : Nat) : Int)) (ex_move _ rfl _ (F.e rfl)) ?_; clear F a; intro a F
   refine list_val F (wn rfl) rfl rfl (.pointer (some (ad.add i))) (ex_ix _ _ _ rfl 1 ef_sl_22_1 ad _ _ (F.e rfl) .i64 _ (F.e rfl) i rfl (by omega) _ (congrArg _ (Nat.mul_one _))) ?_; clear F a; intro a F
   refine list_val F (wn rfl) rfl rfl (.slice B b.length c) (ex_load _ _ rfl _ (F.e rfl) _ (lv1 ef_one_23 (pw_cell_below M.bel hce))) ?_; clear F a; intro a F
   refine list_do (wn rfl) (fun K hK => ?_)
   refine ow_appP F M R_ P_ rfl rfl rfl rfl _ _ rfl 1 Aa D.length ca D b (D ++ b) rfl rfl B b.length c (F.e rfl) (F.e rfl) (hrb.below M.bel) (by omega) ?_
   clear F M R_ P_; intro a A_51 c_51 v F M R_ P_
   refine hK _ _ ?_
   clear hK K
   try clear u
   refine list_val F (wn rfl) rfl rfl (.slice A_51 ((D ++ b).length) c_51) (ex_assign _ rfl _ (F.e rfl)) ?_; clear F a; intro a F
   refine wpList_nil ?_
   replace F : Fr 79 a [(0, .slice (some ad) n cl), (2, .bool false), (3, .pointer (some ⟨g8, 0, none⟩)), (4, .slice A_51 ((D ++ b).length) c_51), (5, .pointer (some ⟨g12, 0, none⟩)), (6, .int .i64 ((i : Nat) : Int)), (7, .slice A_35 b.length k_35), (10, .bool false), (27, .bool true), (45, .bool false)] := F.keep ⟨rfl, rfl, rfl, rfl, rfl, rfl, rfl, rfl, rfl, rfl, trivial⟩
   refine then_n ?_
   refine wp_seq ?_
   by_cases h64 : i < 64
   ·
    refine wp_region_lit ?_
    refine list_val F (wn rfl) rfl rfl (.int .i64 ((i : Nat) : Int)) (ex_move _ rfl _ (F.e rfl)) ?_; clear F a; intro a F
    refine list_val F (wn rfl) rfl rfl (.bool true) (ex_bin .lss _ _ _ _ rfl .i64 _ _ (F.e rfl) rfl _ (b_lss (decide_eq_true (by omega)))) ?_; clear F a; intro a F
    refine list_val F (wn rfl) rfl rfl (.bool true) (ex_move _ rfl _ (F.e rfl)) ?_; clear F a; intro a F
    refine list_val F (F.wants 54 true rfl (by kernel_rfl) rfl true rfl) rfl rfl (.pointer (some ⟨g8, 0, none⟩)) (ex_move _ rfl _ (F.e rfl)) ?_; clear F a; intro a F
    refine list_do (F.wants 54 true rfl (by kernel_rfl) rfl true rfl) (fun K hK => ?_)
    refine ow_call rfl rfl F 35 #[.pointer (some ⟨g8, 0, none⟩)] (ex_call 35 _ _ rfl rfl ef_ent_35 _ (map1 (F.e rfl))) (sum_any (D ++ b) A_38 _ k_38 ⟨g8, 0, none⟩ _ (hKt.below M.bel) (M.at (i := 0) rfl) (R_.rb (i := 2) rfl)) (fun e u hR => ?_)
    obtain ⟨he, hb⟩ := hR
    refine ⟨.agg ((bcs (sha (D ++ b))).toArray), he, ?_⟩; clear he F a; intro a F
    refine hK _ _ ?_
    clear hK K
    replace R_ := R_.below hb
    replace P_ := P_.below hb
    replace M := M.below hb; clear hb; try clear v
    refine list_val F (F.wants 54 true rfl (by kernel_rfl) rfl true rfl) rfl rfl (.slice A_51 ((D ++ b).length) c_51) (ex_move _ rfl _ (F.e rfl)) ?_; clear F a; intro a F
    refine list_do (F.wants 54 true rfl (by kernel_rfl) rfl true rfl) (fun K hK => ?_)
    refine ow_call rfl rfl F 27 #[.slice A_51 ((D ++ b).length) c_51] (ex_call 27 _ _ rfl rfl ef_ent_27 _ (map1 (F.e rfl))) (copy_any (D ++ b) _ ((D ++ b).length) c_51 (by (try simp only [List.length_append]); omega) _ (R_.rb (i := 1) rfl)) (fun e v hR => ?_)
    obtain ⟨A_58, c_58, he, O_n, hb⟩ := hR
    have R1 := R_.new hb M.bel.size O_n
    refine ⟨.slice A_58 ((D ++ b).length) c_58, he, ?_⟩; clear he F a; intro a F
    refine hK _ _ ?_
    clear hK K
    replace R_ := R_.below hb
    replace P_ := P_.below hb
    replace M := M.below hb; clear hb; try clear u
    replace R_ := R1; clear R1 O_n
    refine list_do (F.wants 54 true rfl (by kernel_rfl) rfl true rfl) (fun K hK => ?_)
    refine ow_call rfl rfl F 15 #[.slice A_58 ((D ++ b).length) c_58] (ex_call 15 _ _ rfl rfl ef_ent_15 _ (map1 (F.e rfl))) (sum_bytes (D ++ b) _ (D ++ b).length c_58 _ (hKt.below M.bel) (R_.rb (i := 0) rfl) (R_.cap (i := 0) rfl)) (fun e u hR => ?_)
    obtain ⟨he, hb⟩ := hR
    refine ⟨.agg ((bcs (sha (D ++ b))).toArray), he, ?_⟩; clear he F a; intro a F
    refine hK _ _ ?_
    clear hK K
    replace R_ := R_.below hb
    replace P_ := P_.below hb
    replace M := M.below hb; clear hb; try clear v
    refine list_val F (F.wants 54 true rfl (by kernel_rfl) rfl true rfl) rfl rfl (.bool false) (ex_neqA 24 _ _ _ rfl 32 ef_ab_24_32 (sha (D ++ b)) (sha (D ++ b)) (sha_len _) (sha_len _) (F.e rfl) (F.e rfl) false (not_self _)) ?_; clear F a; intro a F
    refine list_val F (wn rfl) rfl rfl (.bool false) (ex_pick_t _ _ _ rfl (F.e rfl) _ (F.e rfl)) ?_; clear F a; intro a F
    refine wpList_nil ?_
    replace F : Fr 79 a [(0, .slice (some ad) n cl), (2, .bool false), (3, .pointer (some ⟨g8, 0, none⟩)), (4, .slice A_51 ((D ++ b).length) c_51), (5, .pointer (some ⟨g12, 0, none⟩)), (6, .int .i64 ((i : Nat) : Int)), (7, .slice A_35 b.length k_35), (10, .bool false), (27, .bool true), (45, .bool false), (61, .bool false)] := F.keep ⟨rfl, rfl, rfl, rfl, rfl, rfl, rfl, rfl, rfl, rfl, rfl, trivial⟩
    refine then_n ?_
    refine wp_cond_false (F.e rfl) ?_
    refine wp_skip ?_
    refine in_n ?_
    refine then_n ?_
    refine wp_region_lit ?_
    refine list_val F (wn rfl) rfl rfl (.int .i64 ((i : Nat) : Int)) (ex_move _ rfl _ (F.e rfl)) ?_; clear F a; intro a F
    refine list_val F (wn rfl) rfl rfl (.int .i64 ((i + 1 : Nat) : Int)) (ex_bin .add _ _ _ _ rfl .i64 _ _ (F.e rfl) rfl _ (b_add ((w_i64 (by omega) (by omega)).trans (by omega)))) ?_; clear F a; intro a F
    refine list_val F (wn rfl) rfl rfl (.int .i64 ((i + 1 : Nat) : Int)) (ex_assign _ rfl _ (F.e rfl)) ?_; clear F a; intro a F
    refine wpList_nil ?_
    replace F : Fr 79 a [(0, .slice (some ad) n cl), (2, .bool false), (3, .pointer (some ⟨g8, 0, none⟩)), (4, .slice A_51 ((D ++ b).length) c_51), (5, .pointer (some ⟨g12, 0, none⟩)), (6, .int .i64 ((i + 1 : Nat) : Int)), (7, .slice A_35 b.length k_35), (10, .bool false), (27, .bool true), (45, .bool false), (61, .bool false)] := F.keep ⟨rfl, rfl, rfl, rfl, rfl, rfl, rfl, rfl, rfl, rfl, rfl, trivial⟩
    refine then_n ?_
    replace R_ := R_.pick [1, 2, 3] [_, _, _] ⟨rfl, rfl, rfl, trivial⟩ (by decide)
    exact ⟨n - (i + 1), by omega, (i + 1), (D ++ b), A_38, k_38, A_51, c_51, A_35, b.length, k_35, b, F.keep ⟨rfl, rfl, rfl, rfl, rfl, rfl, rfl, trivial⟩, (by refine M.pick' [0] _ ?_ (by decide); exact ⟨rfl, trivial⟩), R_, P_, (by omega), (by rw [List.length_append]; exact hfit), (by omega)⟩
   refine wp_region_lit ?_
   refine list_val F (wn rfl) rfl rfl (.int .i64 ((i : Nat) : Int)) (ex_move _ rfl _ (F.e rfl)) ?_; clear F a; intro a F
   refine list_val F (wn rfl) rfl rfl (.bool false) (ex_bin .lss _ _ _ _ rfl .i64 _ _ (F.e rfl) rfl _ (b_lss (decide_eq_false (by omega)))) ?_; clear F a; intro a F
   refine list_val F (wn rfl) rfl rfl (.bool false) (ex_move _ rfl _ (F.e rfl)) ?_; clear F a; intro a F
   refine list_skip F (F.wants 54 false rfl (by kernel_rfl) rfl false rfl) rfl rfl ?_; clear F a; intro a F
   refine list_skip F (F.wants 54 false rfl (by kernel_rfl) rfl false rfl) rfl rfl ?_; clear F a; intro a F
   refine list_skip F (F.wants 54 false rfl (by kernel_rfl) rfl false rfl) rfl rfl ?_; clear F a; intro a F
   refine list_skip F (F.wants 54 false rfl (by kernel_rfl) rfl false rfl) rfl rfl ?_; clear F a; intro a F
   refine list_skip F (F.wants 54 false rfl (by kernel_rfl) rfl false rfl) rfl rfl ?_; clear F a; intro a F
   refine list_skip F (F.wants 54 false rfl (by kernel_rfl) rfl false rfl) rfl rfl ?_; clear F a; intro a F
   refine list_val F (wn rfl) rfl rfl (.bool false) (ex_pick_f _ _ _ rfl (F.e rfl) _ rfl) ?_; clear F a; intro a F
   refine wpList_nil ?_
   replace F : Fr 79 a [(0, .slice (some ad) n cl), (2, .bool false), (3, .pointer (some ⟨g8, 0, none⟩)), (4, .slice A_51 ((D ++ b).length) c_51), (5, .pointer (some ⟨g12, 0, none⟩)), (6, .int .i64 ((i : Nat) : Int)), (7, .slice A_35 b.length k_35), (10, .bool false), (27, .bool true), (45, .bool false), (61, .bool false)] := F.keep ⟨rfl, rfl, rfl, rfl, rfl, rfl, rfl, rfl, rfl, rfl, rfl, trivial⟩
   refine then_n ?_
   refine wp_cond_false (F.e rfl) ?_
   refine wp_skip ?_
   refine in_n ?_
   refine then_n ?_
   refine wp_region_lit ?_
   refine list_val F (wn rfl) rfl rfl (.int .i64 ((i : Nat) : Int)) (ex_move _ rfl _ (F.e rfl)) ?_; clear F a; intro a F
   refine list_val F (wn rfl) rfl rfl (.int .i64 ((i + 1 : Nat) : Int)) (ex_bin .add _ _ _ _ rfl .i64 _ _ (F.e rfl) rfl _ (b_add ((w_i64 (by omega) (by omega)).trans (by omega)))) ?_; clear F a; intro a F
   refine list_val F (wn rfl) rfl rfl (.int .i64 ((i + 1 : Nat) : Int)) (ex_assign _ rfl _ (F.e rfl)) ?_; clear F a; intro a F
   refine wpList_nil ?_
   replace F : Fr 79 a [(0, .slice (some ad) n cl), (2, .bool false), (3, .pointer (some ⟨g8, 0, none⟩)), (4, .slice A_51 ((D ++ b).length) c_51), (5, .pointer (some ⟨g12, 0, none⟩)), (6, .int .i64 ((i + 1 : Nat) : Int)), (7, .slice A_35 b.length k_35), (10, .bool false), (27, .bool true), (45, .bool false), (61, .bool false)] := F.keep ⟨rfl, rfl, rfl, rfl, rfl, rfl, rfl, rfl, rfl, rfl, rfl, trivial⟩
   refine then_n ?_
   replace R_ := R_.pick [0, 1, 2] [_, _, _] ⟨rfl, rfl, rfl, trivial⟩ (by decide)
   exact ⟨n - (i + 1), by omega, (i + 1), (D ++ b), A_38, k_38, A_51, c_51, A_35, b.length, k_35, b, F.keep ⟨rfl, rfl, rfl, rfl, rfl, rfl, rfl, trivial⟩, (by refine M.pick' [0] _ ?_ (by decide); exact ⟨rfl, trivial⟩), R_, P_, (by omega), (by rw [List.length_append]; exact hfit), (by omega)⟩
  refine wp_seq ?_
  refine wp_seq ?_
  refine wp_region_lit ?_
  refine list_val F (wn rfl) rfl rfl (.int .i64 ((i : Nat) : Int)) (ex_move _ rfl _ (F.e rfl)) ?_; clear F a; intro a F
  refine list_val F (wn rfl) rfl rfl (.slice (some ad) n cl) (ex_move _ rfl _ (F.e rfl)) ?_; clear F a; intro a F
  refine list_val F (wn rfl) rfl rfl (.int .i64 ((n : Nat) : Int)) (ex_len _ _ rfl 1 ef_sl_22_1 _ _ _ (F.e rfl)) ?_; clear F a; intro a F
  refine list_val F (wn rfl) rfl rfl (.bool true) (ex_bin .lss _ _ _ _ rfl .i64 _ _ (F.e rfl) (F.e rfl) _ (b_lss (decide_eq_true (by omega)))) ?_; clear F a; intro a F
  refine list_val F (wn rfl) rfl rfl (.bool true) (ex_move _ rfl _ (F.e rfl)) ?_; clear F a; intro a F
  refine list_val F (F.wants 17 true rfl (by kernel_rfl) rfl true rfl) rfl rfl (.slice Aa D.length ca) (ex_move _ rfl _ (F.e rfl)) ?_; clear F a; intro a F
  refine list_val F (F.wants 17 true rfl (by kernel_rfl) rfl true rfl) rfl rfl (.int .i64 ((D.length : Nat) : Int)) (ex_len _ _ rfl 1 ef_sl_23_1 _ _ _ (F.e rfl)) ?_; clear F a; intro a F
  refine list_val F (F.wants 17 true rfl (by kernel_rfl) rfl true rfl) rfl rfl (.slice (some ad) n cl) (ex_move _ rfl _ (F.e rfl)) ?_; clear F a; intro a F
  refine list_val F (F.wants 17 true rfl (by kernel_rfl) rfl true rfl) rfl rfl (.int .i64 ((i : Nat) : Int)) (ex_move _ rfl _ (F.e rfl)) ?_; clear F a; intro a F
  refine list_val F (F.wants 17 true rfl (by kernel_rfl) rfl true rfl) rfl rfl (.pointer (some (ad.add i))) (ex_ix _ _ _ rfl 1 ef_sl_22_1 ad _ _ (F.e rfl) .i64 _ (F.e rfl) i rfl (by omega) _ (congrArg _ (Nat.mul_one _))) ?_; clear F a; intro a F
  refine list_val F (F.wants 17 true rfl (by kernel_rfl) rfl true rfl) rfl rfl (.slice B b.length c) (ex_load _ _ rfl _ (F.e rfl) _ (lv1 ef_one_23 (pw_cell_below M.bel hce))) ?_; clear F a; intro a F
  refine list_val F (F.wants 17 true rfl (by kernel_rfl) rfl true rfl) rfl rfl (.int .i64 ((b.length : Nat) : Int)) (ex_len _ _ rfl 1 ef_sl_23_1 _ _ _ (F.e rfl)) ?_; clear F a; intro a F
  refine list_val F (F.wants 17 true rfl (by kernel_rfl) rfl true rfl) rfl rfl (.int .i64 (((D.length : Nat) : Int) + ((b.length : Nat) : Int))) (ex_bin .add _ _ _ _ rfl .i64 _ _ (F.e rfl) (F.e rfl) _ (b_add (w_i64 (by omega) (by omega)))) ?_; clear F a; intro a F
  refine list_val F (F.wants 17 true rfl (by kernel_rfl) rfl true rfl) rfl rfl (.bool false) (ex_bin .leq _ _ _ _ rfl .i64 _ _ (F.e rfl) rfl _ (b_leq (decide_eq_false (by omega)))) ?_; clear F a; intro a F
  refine list_val F (wn rfl) rfl rfl (.bool false) (ex_pick_t _ _ _ rfl (F.e rfl) _ (F.e rfl)) ?_; clear F a; intro a F
  refine wpList_nil ?_
  replace F : Fr 79 a [(0, .slice (some ad) n cl), (2, .bool false), (3, .pointer (some ⟨g8, 0, none⟩)), (4, .slice Aa D.length ca), (5, .pointer (some ⟨g12, 0, none⟩)), (6, .int .i64 ((i : Nat) : Int)), (10, .bool false), (27, .bool false)] := F.keep ⟨rfl, rfl, rfl, rfl, rfl, rfl, rfl, rfl, trivial⟩
  refine then_n ?_
  refine wp_cond_false (F.e rfl) ?_
  refine wp_exit ?_
  refine then_x ?_
  refine then_x ?_
  refine in_hit ?_
  refine then_n ?_
  refine wp_seq ?_
  refine wp_region_lit ?_
  refine list_val F (wn rfl) rfl rfl (.pointer (some ⟨g8, 0, none⟩)) (ex_move _ rfl _ (F.e rfl)) ?_; clear F a; intro a F
  refine list_do (wn rfl) (fun K hK => ?_)
  refine ow_call rfl rfl F 35 #[.pointer (some ⟨g8, 0, none⟩)] (ex_call 35 _ _ rfl rfl ef_ent_35 _ (map1 (F.e rfl))) (sum_any D Ah _ kh ⟨g8, 0, none⟩ _ (hKt.below M.bel) (M.at (i := 0) rfl) (R_.rb (i := 2) rfl)) (fun e u hR => ?_)
  obtain ⟨he, hb⟩ := hR
  refine ⟨.agg ((bcs (sha D)).toArray), he, ?_⟩; clear he F a; intro a F
  refine hK _ _ ?_
  clear hK K
  replace R_ := R_.below hb
  replace P_ := P_.below hb
  replace M := M.below hb; clear hb; try clear v
  refine list_val F (wn rfl) rfl rfl (.slice Aa D.length ca) (ex_move _ rfl _ (F.e rfl)) ?_; clear F a; intro a F
  refine list_do (wn rfl) (fun K hK => ?_)
  refine ow_call rfl rfl F 27 #[.slice Aa D.length ca] (ex_call 27 _ _ rfl rfl ef_ent_27 _ (map1 (F.e rfl))) (copy_any D _ D.length ca (by (try simp only [List.length_append]); omega) _ (R_.rb (i := 1) rfl)) (fun e v hR => ?_)
  obtain ⟨A_65, c_65, he, O_n, hb⟩ := hR
  have R1 := R_.new hb M.bel.size O_n
  refine ⟨.slice A_65 D.length c_65, he, ?_⟩; clear he F a; intro a F
  refine hK _ _ ?_
  clear hK K
  replace R_ := R_.below hb
  replace P_ := P_.below hb
  replace M := M.below hb; clear hb; try clear u
  replace R_ := R1; clear R1 O_n
  refine list_do (wn rfl) (fun K hK => ?_)
  refine ow_call rfl rfl F 15 #[.slice A_65 D.length c_65] (ex_call 15 _ _ rfl rfl ef_ent_15 _ (map1 (F.e rfl))) (sum_bytes D _ D.length c_65 _ (hKt.below M.bel) (R_.rb (i := 0) rfl) (R_.cap (i := 0) rfl)) (fun e u hR => ?_)
  obtain ⟨he, hb⟩ := hR
  refine ⟨.agg ((bcs (sha D)).toArray), he, ?_⟩; clear he F a; intro a F
  refine hK _ _ ?_
  clear hK K
  replace R_ := R_.below hb
  replace P_ := P_.below hb
  replace M := M.below hb; clear hb; try clear v
  refine list_val F (wn rfl) rfl rfl (.bool true) (ex_eqlA 24 _ _ _ rfl 32 ef_ab_24_32 (sha D) (sha D) (sha_len _) (sha_len _) (F.e rfl) (F.e rfl) true (decide_eq_true rfl)) ?_; clear F a; intro a F
  refine list_val F (wn rfl) rfl rfl (.bool true) (ex_move _ rfl _ (F.e rfl)) ?_; clear F a; intro a F
  refine list_val F (F.wants 68 true rfl (by kernel_rfl) rfl true rfl) rfl rfl (.pointer (some ⟨g8, 0, none⟩)) (ex_move _ rfl _ (F.e rfl)) ?_; clear F a; intro a F
  refine list_do (F.wants 68 true rfl (by kernel_rfl) rfl true rfl) (fun K hK => ?_)
  refine ow_call rfl rfl F 36 #[.pointer (some ⟨g8, 0, none⟩)] (ex_call 36 _ _ rfl rfl ef_ent_36 _ (map1 (F.e rfl))) (len_any D (.slice Ah ((feed hIni D).2.length) kh) _ ⟨g8, 0, none⟩ _ (M.at (i := 0) rfl)) (fun e v hR => ?_)
  obtain ⟨he, hb⟩ := hR
  refine ⟨.int .u64 ((BitVec.ofNat 64 D.length).toNat : Int), he, ?_⟩; clear he F a; intro a F
  refine hK _ _ ?_
  clear hK K
  replace R_ := R_.below hb
  replace P_ := P_.below hb
  replace M := M.below hb; clear hb; try clear u
  refine list_val F (F.wants 68 true rfl (by kernel_rfl) rfl true rfl) rfl rfl (.slice Aa D.length ca) (ex_move _ rfl _ (F.e rfl)) ?_; clear F a; intro a F
  refine list_val F (F.wants 68 true rfl (by kernel_rfl) rfl true rfl) rfl rfl (.int .i64 ((D.length : Nat) : Int)) (ex_len _ _ rfl 1 ef_sl_23_1 _ _ _ (F.e rfl)) ?_; clear F a; intro a F
  refine list_val F (F.wants 68 true rfl (by kernel_rfl) rfl true rfl) rfl rfl (.int .u64 ((BitVec.ofNat 64 D.length).toNat : Int)) (ex_conv _ _ _ rfl _ .u64 ef_cv_3_62_u64 _ (F.e rfl) _ (w64 _)) ?_; clear F a; intro a F
  refine list_val F (F.wants 68 true rfl (by kernel_rfl) rfl true rfl) rfl rfl (.bool true) (ex_bin .eql _ _ _ _ rfl .u64 _ _ (F.e rfl) (F.e rfl) _ (b_eql (by simp))) ?_; clear F a; intro a F
  refine list_val F (wn rfl) rfl rfl (.bool true) (ex_pick_t _ _ _ rfl (F.e rfl) _ (F.e rfl)) ?_; clear F a; intro a F
  refine list_val F (wn rfl) rfl rfl (.bool true) (ex_move _ rfl _ (F.e rfl)) ?_; clear F a; intro a F
  refine list_do (F.wants 76 true rfl (by kernel_rfl) rfl true rfl) (fun K hK => ?_)
  refine ow_call rfl rfl F 19 #[] (ex_call 19 _ _ rfl rfl ef_ent_19 _ (map0)) (wakes_any _ (hKt.below M.bel)) (fun e u hR => ?_)
  obtain ⟨he, hb⟩ := hR
  refine ⟨.bool true, he, ?_⟩; clear he F a; intro a F
  refine hK _ _ ?_
  clear hK K
  replace R_ := R_.below hb
  replace P_ := P_.below hb
  replace M := M.below hb; clear hb; try clear v
  refine list_val F (wn rfl) rfl rfl (.bool true) (ex_pick_t _ _ _ rfl (F.e rfl) _ (F.e rfl)) ?_; clear F a; intro a F
  refine list_val F (wn rfl) rfl rfl (.bool true) (ex_assign _ rfl _ (F.e rfl)) ?_; clear F a; intro a F
  refine wpList_nil ?_
  replace F : Fr 79 a [(0, .slice (some ad) n cl), (2, .bool true), (3, .pointer (some ⟨g8, 0, none⟩)), (4, .slice Aa D.length ca), (5, .pointer (some ⟨g12, 0, none⟩)), (6, .int .i64 ((i : Nat) : Int)), (10, .bool false), (27, .bool false)] := F.keep ⟨rfl, rfl, rfl, rfl, rfl, rfl, rfl, rfl, trivial⟩
  refine then_n ?_
  refine wp_ret ?_
  exact ret_tmp F rfl rfl ⟨rfl, M.bel⟩
 refine wp_seq ?_
 refine wp_seq ?_
 refine wp_region_lit ?_
 refine list_val F (wn rfl) rfl rfl (.int .i64 ((i : Nat) : Int)) (ex_move _ rfl _ (F.e rfl)) ?_; clear F a; intro a F
 refine list_val F (wn rfl) rfl rfl (.slice Ls n cl) (ex_move _ rfl _ (F.e rfl)) ?_; clear F a; intro a F
 refine list_val F (wn rfl) rfl rfl (.int .i64 ((n : Nat) : Int)) (ex_len _ _ rfl 1 ef_sl_22_1 _ _ _ (F.e rfl)) ?_; clear F a; intro a F
 refine list_val F (wn rfl) rfl rfl (.bool false) (ex_bin .lss _ _ _ _ rfl .i64 _ _ (F.e rfl) (F.e rfl) _ (b_lss (decide_eq_false (by omega)))) ?_; clear F a; intro a F
 refine list_val F (wn rfl) rfl rfl (.bool false) (ex_move _ rfl _ (F.e rfl)) ?_; clear F a; intro a F
 refine list_skip F (F.wants 17 false rfl (by kernel_rfl) rfl false rfl) rfl rfl ?_; clear F a; intro a F
 refine list_skip F (F.wants 17 false rfl (by kernel_rfl) rfl false rfl) rfl rfl ?_; clear F a; intro a F
 refine list_skip F (F.wants 17 false rfl (by kernel_rfl) rfl false rfl) rfl rfl ?_; clear F a; intro a F
 refine list_skip F (F.wants 17 false rfl (by kernel_rfl) rfl false rfl) rfl rfl ?_; clear F a; intro a F
 refine list_skip F (F.wants 17 false rfl (by kernel_rfl) rfl false rfl) rfl rfl ?_; clear F a; intro a F
 refine list_skip F (F.wants 17 false rfl (by kernel_rfl) rfl false rfl) rfl rfl ?_; clear F a; intro a F
 refine list_skip F (F.wants 17 false rfl (by kernel_rfl) rfl false rfl) rfl rfl ?_; clear F a; intro a F
 refine list_skip F (F.wants 17 false rfl (by kernel_rfl) rfl false rfl) rfl rfl ?_; clear F a; intro a F
 refine list_skip F (F.wants 17 false rfl (by kernel_rfl) rfl false rfl) rfl rfl ?_; clear F a; intro a F
 refine list_val F (wn rfl) rfl rfl (.bool false) (ex_pick_f _ _ _ rfl (F.e rfl) _ rfl) ?_; clear F a; intro a F
 refine wpList_nil ?_
 replace F : Fr 79 a [(0, .slice Ls n cl), (2, .bool false), (3, .pointer (some ⟨g8, 0, none⟩)), (4, .slice Aa D.length ca), (5, .pointer (some ⟨g12, 0, none⟩)), (6, .int .i64 ((i : Nat) : Int)), (10, .bool false), (27, .bool false)] := F.keep ⟨rfl, rfl, rfl, rfl, rfl, rfl, rfl, rfl, trivial⟩
 refine then_n ?_
 refine wp_cond_false (F.e rfl) ?_
 refine wp_exit ?_
 refine then_x ?_
 refine then_x ?_
 refine in_hit ?_
 refine then_n ?_
 refine wp_seq ?_
 refine wp_region_lit ?_
 refine list_val F (wn rfl) rfl rfl (.pointer (some ⟨g8, 0, none⟩)) (ex_move _ rfl _ (F.e rfl)) ?_; clear F a; intro a F
 refine list_do (wn rfl) (fun K hK => ?_)
 refine ow_call rfl rfl F 35 #[.pointer (some ⟨g8, 0, none⟩)] (ex_call 35 _ _ rfl rfl ef_ent_35 _ (map1 (F.e rfl))) (sum_any D Ah _ kh ⟨g8, 0, none⟩ _ (hKt.below M.bel) (M.at (i := 0) rfl) (R_.rb (i := 2) rfl)) (fun e u hR => ?_)
 obtain ⟨he, hb⟩ := hR
 refine ⟨.agg ((bcs (sha D)).toArray), he, ?_⟩; clear he F a; intro a F
 refine hK _ _ ?_
 clear hK K
 replace R_ := R_.below hb
 replace P_ := P_.below hb
 replace M := M.below hb; clear hb; try clear v
 refine list_val F (wn rfl) rfl rfl (.slice Aa D.length ca) (ex_move _ rfl _ (F.e rfl)) ?_; clear F a; intro a F
 refine list_do (wn rfl) (fun K hK => ?_)
 refine ow_call rfl rfl F 27 #[.slice Aa D.length ca] (ex_call 27 _ _ rfl rfl ef_ent_27 _ (map1 (F.e rfl))) (copy_any D _ D.length ca (by (try simp only [List.length_append]); omega) _ (R_.rb (i := 1) rfl)) (fun e v hR => ?_)
 obtain ⟨A_65, c_65, he, O_n, hb⟩ := hR
 have R1 := R_.new hb M.bel.size O_n
 refine ⟨.slice A_65 D.length c_65, he, ?_⟩; clear he F a; intro a F
 refine hK _ _ ?_
 clear hK K
 replace R_ := R_.below hb
 replace P_ := P_.below hb
 replace M := M.below hb; clear hb; try clear u
 replace R_ := R1; clear R1 O_n
 refine list_do (wn rfl) (fun K hK => ?_)
 refine ow_call rfl rfl F 15 #[.slice A_65 D.length c_65] (ex_call 15 _ _ rfl rfl ef_ent_15 _ (map1 (F.e rfl))) (sum_bytes D _ D.length c_65 _ (hKt.below M.bel) (R_.rb (i := 0) rfl) (R_.cap (i := 0) rfl)) (fun e u hR => ?_)
 obtain ⟨he, hb⟩ := hR
 refine ⟨.agg ((bcs (sha D)).toArray), he, ?_⟩; clear he F a; intro a F
 refine hK _ _ ?_
 clear hK K
 replace R_ := R_.below hb
 replace P_ := P_.below hb
 replace M := M.below hb; clear hb; try clear v
 refine list_val F (wn rfl) rfl rfl (.bool true) (ex_eqlA 24 _ _ _ rfl 32 ef_ab_24_32 (sha D) (sha D) (sha_len _) (sha_len _) (F.e rfl) (F.e rfl) true (decide_eq_true rfl)) ?_; clear F a; intro a F
 refine list_val F (wn rfl) rfl rfl (.bool true) (ex_move _ rfl _ (F.e rfl)) ?_; clear F a; intro a F
 refine list_val F (F.wants 68 true rfl (by kernel_rfl) rfl true rfl) rfl rfl (.pointer (some ⟨g8, 0, none⟩)) (ex_move _ rfl _ (F.e rfl)) ?_; clear F a; intro a F
 refine list_do (F.wants 68 true rfl (by kernel_rfl) rfl true rfl) (fun K hK => ?_)
 refine ow_call rfl rfl F 36 #[.pointer (some ⟨g8, 0, none⟩)] (ex_call 36 _ _ rfl rfl ef_ent_36 _ (map1 (F.e rfl))) (len_any D (.slice Ah ((feed hIni D).2.length) kh) _ ⟨g8, 0, none⟩ _ (M.at (i := 0) rfl)) (fun e v hR => ?_)
 obtain ⟨he, hb⟩ := hR
 refine ⟨.int .u64 ((BitVec.ofNat 64 D.length).toNat : Int), he, ?_⟩; clear he F a; intro a F
 refine hK _ _ ?_
 clear hK K
 replace R_ := R_.below hb
 replace P_ := P_.below hb
 replace M := M.below hb; clear hb; try clear u
 refine list_val F (F.wants 68 true rfl (by kernel_rfl) rfl true rfl) rfl rfl (.slice Aa D.length ca) (ex_move _ rfl _ (F.e rfl)) ?_; clear F a; intro a F
 refine list_val F (F.wants 68 true rfl (by kernel_rfl) rfl true rfl) rfl rfl (.int .i64 ((D.length : Nat) : Int)) (ex_len _ _ rfl 1 ef_sl_23_1 _ _ _ (F.e rfl)) ?_; clear F a; intro a F
 refine list_val F (F.wants 68 true rfl (by kernel_rfl) rfl true rfl) rfl rfl (.int .u64 ((BitVec.ofNat 64 D.length).toNat : Int)) (ex_conv _ _ _ rfl _ .u64 ef_cv_3_62_u64 _ (F.e rfl) _ (w64 _)) ?_; clear F a; intro a F
 refine list_val F (F.wants 68 true rfl (by kernel_rfl) rfl true rfl) rfl rfl (.bool true) (ex_bin .eql _ _ _ _ rfl .u64 _ _ (F.e rfl) (F.e rfl) _ (b_eql (by simp))) ?_; clear F a; intro a F
 refine list_val F (wn rfl) rfl rfl (.bool true) (ex_pick_t _ _ _ rfl (F.e rfl) _ (F.e rfl)) ?_; clear F a; intro a F
 refine list_val F (wn rfl) rfl rfl (.bool true) (ex_move _ rfl _ (F.e rfl)) ?_; clear F a; intro a F
 refine list_do (F.wants 76 true rfl (by kernel_rfl) rfl true rfl) (fun K hK => ?_)
 refine ow_call rfl rfl F 19 #[] (ex_call 19 _ _ rfl rfl ef_ent_19 _ (map0)) (wakes_any _ (hKt.below M.bel)) (fun e u hR => ?_)
 obtain ⟨he, hb⟩ := hR
 refine ⟨.bool true, he, ?_⟩; clear he F a; intro a F
 refine hK _ _ ?_
 clear hK K
 replace R_ := R_.below hb
 replace P_ := P_.below hb
 replace M := M.below hb; clear hb; try clear v
 refine list_val F (wn rfl) rfl rfl (.bool true) (ex_pick_t _ _ _ rfl (F.e rfl) _ (F.e rfl)) ?_; clear F a; intro a F
 refine list_val F (wn rfl) rfl rfl (.bool true) (ex_assign _ rfl _ (F.e rfl)) ?_; clear F a; intro a F
 refine wpList_nil ?_
 replace F : Fr 79 a [(0, .slice Ls n cl), (2, .bool true), (3, .pointer (some ⟨g8, 0, none⟩)), (4, .slice Aa D.length ca), (5, .pointer (some ⟨g12, 0, none⟩)), (6, .int .i64 ((i : Nat) : Int)), (10, .bool false), (27, .bool false)] := F.keep ⟨rfl, rfl, rfl, rfl, rfl, rfl, rfl, rfl, trivial⟩
 refine then_n ?_
 refine wp_ret ?_
 exact ret_tmp F rfl rfl ⟨rfl, M.bel⟩
end Go.Proofs.YtkppipeadibfkaaDoor
