/- One place where rows of bytes are told again and again (posternlaw1.Place): what it holds; Rows (46) of one row, Bytes (37). No conditions but those of each lemma. -/
import Derived.Test.YtkppipeadibfkaaDoorQ0
import Derived.LoopN
namespace Go.Proofs.YtkppipeadibfkaaDoor
open Go.RowKit Go.Proofs.YtkppipeadibfkaaDoorW.PrintWords KB WG
set_option linter.unusedVariables false
set_option linter.unusedSimpArgs false
set_option linter.unnecessarySimpa false
theorem rounds_do {P : Program} {Q : Exit → Act → World → Prop} {a : Act} {w : World} {c : Code} (n : Nat) (h : c.wp P (Exit.then (Code.rounds P c Q n) Q) a w) : Code.rounds P c Q (n + 1) a w := h
section
variable {P : Program} {op : Oper} {a : Act} {w w0 : World} {n : Nat} {L : List (Nat × Value)} {H : List Blk} {K : Act → World → Prop} {Q : Exit → Act → World → Prop} {ρ : Operand → Value}
/-- append to no row. -/
theorem ow_append0 (F : Fr n a L) (M : Mm w0 w H) {d : Nat} (hd : op.dst = some d) (hlt : Nat.blt d n = true) (s x : Operand) (t e m b : Nat) (ho : op.op = .call { callee := .builtin .append, args := #[s, x], argTypes := #[t, t] }) (hcl : ap? P t e m b = true)
    (hs : a.eval s = .slice none 0 0)
    (ad : Addr) (k c : Nat) (news : List Value) (hx : a.eval x = .slice (some ad) k c) (hk : 0 < k) (hl : news.length = k * m) (hnews : At w ad news) (h63 : k ≤ maxLen) (hby : k * b ≤ 140737488355328)
    (h : ∀ a' g' cap' sp' w', Fr n a' ((d, .slice (some ⟨g', 0, none⟩) k cap') :: L) → Mm w0 w' (⟨g', (news ++ sp').toArray, e⟩ :: H) → (news ++ sp').length = cap' * m → k ≤ cap' → cap' ≤ maxLen → Below w.heap.size w w' → w.heap.size ≤ g' → K a' w') : op.wp P a w K Q := by
  obtain ⟨ht, inf, z, hinf, hz, rfl, rfl, hzs⟩ := ap_split hcl
  have hsmall : k ≤ 9223372036854775807 := by simp only [maxLen] at h63; omega
  have hr := run_append_nil (P := P) w t op.type e inf z ht hinf hz ad k c news hl hnews hk (by omega) (by omega)
  unfold Oper.wp execOp
  simp only [ho, resolve, invoke, builtin, Sem.run_bind, Sem.run_pure, Result.andThen_ok, List.map_toArray, List.map_cons, List.map_nil, hs, hx, hr]
  have hge := grownCap_ge w k 0 e
  have hcm' := grownCap_le_maxLen w k 0 e h63
  have hbl : Below w.heap.size w (w.drew.alloc (.cells (news.toArray ++ Builtin.zeroCells z.cells (grownCap w k 0 e - k)) e)) := (below_drew1 (Below.refl _ w)).alloc (Nat.le_refl _) _
  have earr : news.toArray ++ Builtin.zeroCells z.cells (grownCap w k 0 e - k) = (news ++ (Builtin.zeroCells z.cells (grownCap w k 0 e - k)).toList).toArray := by
    apply Array.ext'
    simp
  have hnew := blk_of_alloc w.drew (news.toArray ++ Builtin.zeroCells z.cells (grownCap w k 0 e - k)) e
  rw [earr] at hnew hbl ⊢
  refine h _ w.heap.size (grownCap w k 0 e) _ _ (by rw [hd]; exact F.put _ hlt) (M.new ⟨w.heap.size, _, e⟩ hbl (Nat.le_refl _) hnew) ?_ hge hcm' hbl (Nat.le_refl _)
  simp only [List.length_append, Array.length_toList, size_zeroCells, hl, hzs, ← Nat.add_mul]
  congr 1
  omega
theorem el22 : Tryd.prog.elem 22 = 23 := by simp [Program.elem, Tryd.underlying22]
theorem un22 : Tryd.prog.underlying 22 = some (.slice (Tryd.prog.elem 22)) := by rw [el22]; exact Tryd.underlying22
theorem info23 : ∃ i, Tryd.prog.info? 23 = some i := by
  cases h : Tryd.prog.info? 23 with
  | some i => exact ⟨i, rfl⟩
  | none => have : (Tryd.prog.info? 23).isSome = true := by kernel_rfl
            rw [h] at this; cases this
/-- The beginning of a row of rows. -/
theorem ex_cutto22 (x y : Operand) (ho : op.op = .slice 22 x none (some y) none) (A : Option Addr) (q c : Nat) (hx : ρ x = .slice A q c) (j : Int) (hy : ρ y = .int .i64 j) (m : Nat) (hm : j = (m : Int)) (hc : m ≤ c) :
    (execOp ρ op).run Tryd.prog w = .ok (.value (.slice A m c)) w := by
  subst hm
  obtain ⟨i0, hi⟩ := info23
  have ha : (A.map fun x => x.add 0) = A := by cases A <;> simp [Addr.add]
  have hr : (Instr.slice 22 (.slice A q c) none (some (.int .i64 (m : Int))) none).run Tryd.prog w = .ok (.slice A m c) w := by
    rw [run_slice_h w 22 A q c un22 .i64 (m : Int) (by omega) (by omega), el22]
    simp [sizeOf, typeInfo, hi, sliced, Result.andThen, ha]
  unfold execOp
  simp only [ho, hx, hy, Option.map_some, Option.map_none, Sem.run_bind, run_sliceAt_slice _ _ _ _ _ _ un22, hr, Result.andThen_ok, Sem.run_pure]
/-- Blocks none of which is a place's or a row's. -/
structure Far (H : List Blk) : Prop where
  a : ∀ (i : Nat) (b : Blk), H[i]? = some b → b.t ≠ 67
  b : ∀ (i : Nat) (b : Blk), H[i]? = some b → b.t ≠ 23
  c : H.all (fun b => b.t != 5) = true
theorem Far.of {H : List Blk} (h : H.all (fun b => b.t != 67 && b.t != 23 && b.t != 5) = true) : Far H := by
  have key : ∀ b ∈ H, b.t ≠ 67 ∧ b.t ≠ 23 ∧ b.t ≠ 5 := fun b hb => by
    have := List.all_eq_true.1 h b hb
    simp only [Bool.and_eq_true, bne_iff_ne, ne_eq] at this
    exact ⟨this.1.1, this.1.2, this.2⟩
  exact ⟨fun i b hi => (key b (List.mem_of_getElem? hi)).1, fun i b hi => (key b (List.mem_of_getElem? hi)).2.1, List.all_eq_true.2 (fun b hb => by simpa using (key b hb).2.2)⟩
/-- A block that is none of them has been written. -/
theorem WG.Mm.oth {w' : World} (N : Mm w0 w H) {g t : Nat} {cells : Array Value} (hlo : w0.heap.size ≤ g) (hb : w.heap[g]? = some (.cells cells t (0, 0))) (ht : ∀ (i : Nat) (b : Blk), H[i]? = some b → b.t ≠ t) (hg : w.grownBy w' (some g)) : Mm w0 w' H where
  bel := N.bel.grown hg N.bel.size (fun k hk => by injection hk with hk; rw [← hk]; exact hlo)
  blk := fun i b h => by
    have h2 := N.blk i b h
    rw [hg.block _ (N.lt h) (fun e => by
      rw [Option.some.inj e, hb] at h2
      injection h2 with h2
      injection h2 with _ h2
      exact ht i b h h2.symm)]
    exact h2
  lo := N.lo
  nd := N.nd
theorem ow_appN {t : List Rw} {H2 : List Blk} {B : Option Addr} {q b : Nat} {xs : List By} (F : Fr n a L) (M : Mm w0 w H) (N : Mm w0 w H2) (R : Rs w0 w ([(.slice B q b, xs)] ++ t)) (hT : H.all (fun b => b.t != 5) = true) (hT2 : H2.all (fun b => b.t != 5) = true) {d : Nat} (hd : op.dst = some d) (hlt : Nat.blt d n = true) (hgd : op.guard = none) (s x : Operand) (ho : op.op = .call { callee := .builtin .append, args := #[s, x], argTypes := #[23, 23] })
    (ys zs : List By) (hz : xs ++ ys = zs) (A : Option Addr) (m c : Nat) (hs : a.eval s = .slice B q b) (hx : a.eval x = .slice A m c) (HR : Rb w A m ys) (hl : xs.length + m ≤ 140737488355328)
    (h : ∀ a' A1 c1 w', Fr n a' ((d, .slice A1 zs.length c1) :: L) → Mm w0 w' H → Mm w0 w' H2 → Rs w0 w' ([(.slice A1 zs.length c1, zs)] ++ t) → K a' w') : op.wp Tryd.prog a w K Q :=
  ow_appZ F M hT hd hlt hgd s x ho B q b xs ys zs hz A m c hs hx (R.own 0 _ _ rfl) HR hl (fun a' A1 c1 w' F' M' O' hg hat => h a' A1 c1 w' F' M' (N.grownB (R.own 0 _ _ rfl) hT2 hg) (R.app (i := 0) rfl hg O' hat))
end
theorem Rs.cut0 {w0 w : World} {t : List Rw} {A : Option Addr} {q c : Nat} {xs : List By} (R : Rs w0 w ([(.slice A q c, xs)] ++ t)) : Rs w0 w ([(.slice A 0 c, [])] ++ t) where
  own := fun i v bs h => by
    cases i with
    | zero => obtain ⟨rfl, rfl⟩ : Value.slice A 0 c = v ∧ [] = bs := by simpa using h
              exact (R.own 0 _ _ rfl).cut0
    | succ i => exact R.own (i + 1) v bs (by simpa using h)
  nd := fun i j v u bs cs k hi hj e1 e2 => by
    have key : ∀ (i : Nat) (v : Value) (bs : List By), ([((.slice A 0 c : Value), ([] : List By))] ++ t)[i]? = some (v, bs) → v.ownBlock = some k → ∃ v' bs', ([((.slice A q c : Value), xs)] ++ t)[i]? = some (v', bs') ∧ v'.ownBlock = some k := fun i v bs h e => by
      cases i with
      | zero => obtain ⟨rfl, rfl⟩ : Value.slice A 0 c = v ∧ [] = bs := by simpa using h
                exact ⟨_, _, rfl, by cases A <;> exact e⟩
      | succ i => exact ⟨v, bs, by simpa using h, e⟩
    obtain ⟨v', bs', h1, h2⟩ := key i v bs hi e1
    obtain ⟨u', cs', h3, h4⟩ := key j u cs hj e2
    exact R.nd i j v' u' bs' cs' k h1 h3 h2 h4
theorem row22 (A : Option Addr) (n c : Nat) (w : World) : (Instr.buildSlice 22 1 #[(0, .slice A n c)]).run Tryd.prog w = .ok (.slice (some ⟨w.heap.size, 0, none⟩) 1 1) (w.alloc (.cells #[.slice A n c] 23)) := by kernel_rfl
/-- What a place holds: nothing yet, or one row, in a row of rows twice. -/
def Pl (w0 w : World) (gp : Nat) (x : Value) : Prop :=
  (x = .slice none 0 0 ∧ Mm w0 w [⟨gp, #[.slice none 0 0, .slice none 0 0], 67⟩]) ∨
  ∃ g1 c1 s1 g2 c2 s2, Mm w0 w [⟨gp, #[.slice (some ⟨g1, 0, none⟩) 1 c1, .slice (some ⟨g2, 0, none⟩) 1 c2], 67⟩, ⟨g1, ([x] ++ s1).toArray, 23⟩, ⟨g2, ([x] ++ s2).toArray, 23⟩] ∧ (s1.length + 1 = c1 ∧ c1 ≤ maxLen) ∧ s2.length + 1 = c2 ∧ c2 ≤ maxLen
theorem Pl.below {w0 w w' : World} {gp : Nat} {x : Value} (Z : Pl w0 w gp x) (hb : Below w.heap.size w w') : Pl w0 w' gp x := by
  rcases Z with ⟨rfl, M⟩ | ⟨g1, c1, s1, g2, c2, s2, M, h1, h2⟩
  · exact .inl ⟨rfl, M.below hb⟩
  · exact .inr ⟨g1, c1, s1, g2, c2, s2, M.below hb, h1, h2⟩
theorem Pl.oth {w0 w w' : World} {gp : Nat} {x : Value} (Z : Pl w0 w gp x) {g t : Nat} {cells : Array Value} (hlo : w0.heap.size ≤ g) (hb : w.heap[g]? = some (.cells cells t (0, 0))) (ht : 67 ≠ t ∧ 23 ≠ t) (hg : w.grownBy w' (some g)) : Pl w0 w' gp x := by
  rcases Z with ⟨rfl, M⟩ | ⟨g1, c1, s1, g2, c2, s2, M, h1, h2⟩
  · refine .inl ⟨rfl, M.oth hlo hb (fun i b hi => ?_) hg⟩
    match i, hi with
    | 0, hi => obtain rfl := Option.some.inj hi; exact ht.1
    | i + 1, hi => simp at hi
  · refine .inr ⟨g1, c1, s1, g2, c2, s2, M.oth hlo hb (fun i b hi => ?_) hg, h1, h2⟩
    match i, hi with
    | 0, hi => obtain rfl := Option.some.inj hi; exact ht.1
    | 1, hi => obtain rfl := Option.some.inj hi; exact ht.2
    | 2, hi => obtain rfl := Option.some.inj hi; exact ht.2
    | i + 3, hi => simp at hi
theorem Pl.row {w0 w w' : World} {gp : Nat} {x : Value} (Z : Pl w0 w gp x) {v : Value} {bs : List By} (hO : OwB w w0.heap.size v bs) (hg : w.grownBy w' v.ownBlock) : Pl w0 w' gp x := by
  rcases Z with ⟨rfl, M⟩ | ⟨g1, c1, s1, g2, c2, s2, M, h1, h2⟩
  · exact .inl ⟨rfl, M.grownB hO rfl hg⟩
  · exact .inr ⟨g1, c1, s1, g2, c2, s2, M.grownB hO rfl hg, h1, h2⟩
theorem ee_fa_67_0_0 : fa? Tryd.prog 67 0 0 = true := by kernel_rfl
theorem ee_one_22 : one? Tryd.prog 22 = true := by kernel_rfl
theorem ee_info_22_map_size_some_1 : (Tryd.prog.info? 22).map (·.size) = some 1 := by kernel_rfl
theorem ee_sl_22_1 : sl? Tryd.prog 22 1 = true := by kernel_rfl
theorem ee_fa_67_1_1 : fa? Tryd.prog 67 1 1 = true := by kernel_rfl
theorem ee_ap_22_23_1_24 : ap? Tryd.prog 22 23 1 24 = true := by kernel_rfl
theorem ee_follows_mixedOrders : Tryd.prog.follows .mixedOrders = true := by kernel_rfl
theorem ee_one_23 : one? Tryd.prog 23 = true := by kernel_rfl
theorem ee_info_23_map_size_some_1 : (Tryd.prog.info? 23).map (·.size) = some 1 := by kernel_rfl
set_option maxHeartbeats 4000000 in
set_option maxRecDepth 100000 in
theorem rows_first {t : List Rw} {H : List Blk} {w0 w : World} {gl gp : Nat} {B : Option Addr} {c : Nat} {bs : List By} (hM : Mm w0 w [⟨gl, #[.slice B bs.length c], 23⟩, ⟨gp, #[.slice none 0 0, .slice none 0 0], 67⟩]) (hR : Rs w0 w ([(.slice none 0 0, [])] ++ t)) (hN : Mm w0 w H) (hT : Far H) (hB : Rb w0 B bs.length bs) (hm : bs.length ≤ 140737488351232) :
    Calls Tryd.prog 46 #[.pointer (some ⟨gp, 0, none⟩), .slice (some ⟨gl, 0, none⟩) 1 1] w fun e w' => ∃ A' k' g1 c1 s1 g2 c2 s2, e = .returned (.slice (some ⟨g1, 0, none⟩) 1 c1) ∧ Mm w0 w' [⟨gl, #[.slice B bs.length c], 23⟩, ⟨gp, #[.slice (some ⟨g1, 0, none⟩) 1 c1, .slice (some ⟨g2, 0, none⟩) 1 c2], 67⟩, ⟨g1, ([(.slice A' bs.length k' : Value)] ++ s1).toArray, 23⟩, ⟨g2, ([(.slice A' bs.length k' : Value)] ++ s2).toArray, 23⟩] ∧ (s1.length + 1 = c1 ∧ c1 ≤ maxLen) ∧ (s2.length + 1 = c2 ∧ c2 ≤ maxLen) ∧ Mm w0 w' H ∧ Rs w0 w' ([(.slice A' bs.length k', bs)] ++ t) := by
 have R_ := hR
 have N_ := hN
 refine calls_start Tryd.func46 rfl rfl rfl (fun a F => ?_)
 have M : Mm w0 w [⟨gl, #[.slice B bs.length c], 23⟩, ⟨gp, #[.slice none 0 0, .slice none 0 0], 67⟩] := hM
 refine wp_seq ?_
 refine wp_region_lit ?_
 refine list_val F (wn rfl) rfl rfl (.slice none 0 0) (ex_assign _ rfl _ rfl) ?_; clear F a; intro a F
 refine wpList_nil ?_
 replace F : Fr 71 a [(0, .pointer (some ⟨gp, 0, none⟩)), (1, .slice (some ⟨gl, 0, none⟩) 1 1), (4, .slice none 0 0)] := F.keep ⟨rfl, rfl, rfl, trivial⟩
 refine then_n ?_
 refine wp_seq ?_
 refine wp_region_lit ?_
 refine list_val F (wn rfl) rfl rfl (.pointer (some ⟨gp, 0, none⟩)) (ex_move _ rfl _ (F.e rfl)) ?_; clear F a; intro a F
 refine list_val F (wn rfl) rfl rfl (.pointer (some ⟨gp, 0, none⟩)) (ex_move _ rfl _ (F.e rfl)) ?_; clear F a; intro a F
 refine list_val F (wn rfl) rfl rfl (.pointer (some ⟨gp, 0, none⟩)) (ex_nilck _ rfl _ (F.e rfl)) ?_; clear F a; intro a F
 refine list_val F (wn rfl) rfl rfl (.pointer (some ⟨gp, 0, none⟩)) (ex_fa _ _ _ rfl _ (F.e rfl) 0 ee_fa_67_0_0 ⟨gp, 0, none⟩ rfl) ?_; clear F a; intro a F
 refine list_val F (wn rfl) rfl rfl (.slice none 0 0) (ex_load _ _ rfl _ (F.e rfl) _ (lv1 ee_one_22 (M.cell (i := 1) rfl (j := 0) rfl))) ?_; clear F a; intro a F
 refine list_val F (wn rfl) rfl rfl (.slice none 0 0) (ex_cutto22 _ _ rfl none 0 0 (F.e rfl) _ rfl 0 rfl (Nat.zero_le _)) ?_; clear F a; intro a F
 refine list_val F (wn rfl) rfl rfl (.pointer (some ⟨gp, 0, none⟩)) (ex_nilck _ rfl _ (F.e rfl)) ?_; clear F a; intro a F
 refine list_val F (wn rfl) rfl rfl (.pointer (some ⟨gp, 0, none⟩)) (ex_fa _ _ _ rfl _ (F.e rfl) 0 ee_fa_67_0_0 ⟨gp, 0, none⟩ rfl) ?_; clear F a; intro a F
 refine list_do (wn rfl) (fun K hK => ?_)
 refine ow_store F M rfl 22 _ _ rfl 1 gp _ _ rfl 0 (F.e rfl) _ (F.e rfl) [.slice none 0 0] rfl ee_info_22_map_size_some_1 (by simp) (by simp [Value.oneCell']) #[.slice none 0 0, .slice none 0 0] (congrArg List.toArray rfl) ?_
 clear F a; have Mo := M; clear M; intro a v F M hgr
 refine hK _ _ ?_
 clear hK K
 replace R_ := R_.box (Mo.blk 1 _ rfl) (by show 5 ≠ 67; decide) hgr
 replace N_ := N_.oth (Mo.lo 1 _ rfl) (Mo.blk 1 _ rfl) hT.a hgr
 clear Mo hgr; try clear w
 replace M : Mm w0 v [⟨gl, #[.slice B bs.length c], 23⟩, ⟨gp, #[.slice none 0 0, .slice none 0 0], 67⟩] := M
 refine wpList_nil ?_
 replace F : Fr 71 a [(0, .pointer (some ⟨gp, 0, none⟩)), (1, .slice (some ⟨gl, 0, none⟩) 1 1), (4, .slice none 0 0)] := F.keep ⟨rfl, rfl, rfl, trivial⟩
 refine then_n ?_
 refine wp_seq ?_
 refine wp_seq ?_
 refine wp_region_lit ?_
 refine list_val F (wn rfl) rfl rfl (.int .i64 0) (ex_assign _ rfl _ rfl) ?_; clear F a; intro a F
 refine wpList_nil ?_
 replace F : Fr 71 a [(0, .pointer (some ⟨gp, 0, none⟩)), (1, .slice (some ⟨gl, 0, none⟩) 1 1), (4, .slice none 0 0), (5, .int .i64 0)] := F.keep ⟨rfl, rfl, rfl, rfl, trivial⟩
 refine then_n ?_
 refine wp_block ?_
 refine wp_loop_rounds 2 ?_
 refine rounds_do 1 ?_
 refine wp_seq ?_
 refine wp_seq ?_
 refine wp_region_lit ?_
 refine list_val F (wn rfl) rfl rfl (.int .i64 0) (ex_move _ rfl _ (F.e rfl)) ?_; clear F a; intro a F
 refine list_val F (wn rfl) rfl rfl (.slice (some ⟨gl, 0, none⟩) 1 1) (ex_move _ rfl _ (F.e rfl)) ?_; clear F a; intro a F
 refine list_val F (wn rfl) rfl rfl (.int .i64 1) (ex_len _ _ rfl 1 ee_sl_22_1 _ _ _ (F.e rfl)) ?_; clear F a; intro a F
 refine list_val F (wn rfl) rfl rfl (.bool true) (ex_bin .lss _ _ _ _ rfl .i64 _ _ (F.e rfl) (F.e rfl) _ (b_lss (by decide))) ?_; clear F a; intro a F
 refine wpList_nil ?_
 replace F : Fr 71 a [(0, .pointer (some ⟨gp, 0, none⟩)), (1, .slice (some ⟨gl, 0, none⟩) 1 1), (4, .slice none 0 0), (5, .int .i64 0), (18, .bool true)] := F.keep ⟨rfl, rfl, rfl, rfl, rfl, trivial⟩
 refine then_n ?_
 refine wp_cond_true (F.e rfl) ?_
 refine wp_skip ?_
 refine then_n ?_
 refine wp_seq ?_
 refine wp_block ?_
 refine wp_seq ?_
 refine wp_seq ?_
 refine wp_region_lit ?_
 refine list_val F (wn rfl) rfl rfl (.int .i64 0) (ex_move _ rfl _ (F.e rfl)) ?_; clear F a; intro a F
 refine list_val F (wn rfl) rfl rfl (.pointer (some ⟨gp, 0, none⟩)) (ex_move _ rfl _ (F.e rfl)) ?_; clear F a; intro a F
 refine list_val F (wn rfl) rfl rfl (.pointer (some ⟨gp, 0, none⟩)) (ex_nilck _ rfl _ (F.e rfl)) ?_; clear F a; intro a F
 refine list_val F (wn rfl) rfl rfl (.pointer (some ⟨gp, 1, none⟩)) (ex_fa _ _ _ rfl _ (F.e rfl) 1 ee_fa_67_1_1 ⟨gp, 1, none⟩ rfl) ?_; clear F a; intro a F
 refine list_val F (wn rfl) rfl rfl (.slice none 0 0) (ex_load _ _ rfl _ (F.e rfl) _ (lv1 ee_one_22 (M.cell (i := 1) rfl (j := 1) rfl))) ?_; clear F a; intro a F
 refine list_val F (wn rfl) rfl rfl (.int .i64 0) (ex_len _ _ rfl 1 ee_sl_22_1 _ _ _ (F.e rfl)) ?_; clear F a; intro a F
 refine list_val F (wn rfl) rfl rfl (.bool true) (ex_bin .eql _ _ _ _ rfl .i64 _ _ (F.e rfl) (F.e rfl) _ (b_eql (by decide))) ?_; clear F a; intro a F
 refine wpList_nil ?_
 replace F : Fr 71 a [(0, .pointer (some ⟨gp, 0, none⟩)), (1, .slice (some ⟨gl, 0, none⟩) 1 1), (4, .slice none 0 0), (5, .int .i64 0), (18, .bool true), (27, .bool true)] := F.keep ⟨rfl, rfl, rfl, rfl, rfl, rfl, trivial⟩
 refine then_n ?_
 refine wp_cond_true (F.e rfl) ?_
 refine wp_region_lit ?_
 refine list_val F (wn rfl) rfl rfl (.pointer (some ⟨gp, 0, none⟩)) (ex_move _ rfl _ (F.e rfl)) ?_; clear F a; intro a F
 refine list_val F (wn rfl) rfl rfl (.pointer (some ⟨gp, 0, none⟩)) (ex_move _ rfl _ (F.e rfl)) ?_; clear F a; intro a F
 refine list_val F (wn rfl) rfl rfl (.pointer (some ⟨gp, 0, none⟩)) (ex_nilck _ rfl _ (F.e rfl)) ?_; clear F a; intro a F
 refine list_val F (wn rfl) rfl rfl (.pointer (some ⟨gp, 1, none⟩)) (ex_fa _ _ _ rfl _ (F.e rfl) 1 ee_fa_67_1_1 ⟨gp, 1, none⟩ rfl) ?_; clear F a; intro a F
 refine list_val F (wn rfl) rfl rfl (.slice none 0 0) (ex_load _ _ rfl _ (F.e rfl) _ (lv1 ee_one_22 (M.cell (i := 1) rfl (j := 1) rfl))) ?_; clear F a; intro a F
 refine list_do (wn rfl) (fun K hK => ?_)
 refine ow_bslice F M rfl rfl 22 1 _ rfl #[(0, .slice none 0 0)] (parts1 rfl) #[.slice none 0 0] 23 (row22 none 0 0 _) ?_
 clear F M a; intro a g33 u F M hb hg
 refine hK _ _ ?_
 clear hK K
 replace R_ := R_.below hb
 replace N_ := N_.below hb
 clear hb hg; try clear v
 refine list_do (wn rfl) (fun K hK => ?_)
 refine ow_append0 F M rfl rfl _ _ 22 23 1 24 rfl ee_ap_22_23_1_24 (F.e rfl) ⟨g33, 0, none⟩ 1 1 [.slice none 0 0] (F.e rfl) (by decide) rfl (M.at (i := 0) rfl) (by decide) (by decide) ?_
 clear F M a; intro a ga_34 ca_34 sp_34 v F M hl34 hqc34 hcm34 hb hg
 refine hK _ _ ?_
 clear hK K
 replace R_ := R_.below hb
 replace N_ := N_.below hb
 clear hb hg hqc34; try clear u
 have hs34 : sp_34.length + 1 = ca_34 := by simp at hl34; omega
 replace M : Mm w0 v [⟨ga_34, ([(.slice none 0 0 : Value)] ++ sp_34).toArray, 23⟩, ⟨g33, #[.slice none 0 0], 23⟩, ⟨gl, #[.slice B bs.length c], 23⟩, ⟨gp, #[.slice none 0 0, .slice none 0 0], 67⟩] := M
 refine list_val F (wn rfl) rfl rfl (.pointer (some ⟨gp, 0, none⟩)) (ex_nilck _ rfl _ (F.e rfl)) ?_; clear F a; intro a F
 refine list_val F (wn rfl) rfl rfl (.pointer (some ⟨gp, 1, none⟩)) (ex_fa _ _ _ rfl _ (F.e rfl) 1 ee_fa_67_1_1 ⟨gp, 1, none⟩ rfl) ?_; clear F a; intro a F
 refine list_do (wn rfl) (fun K hK => ?_)
 refine ow_store F M rfl 22 _ _ rfl 3 gp _ _ rfl 1 (F.e rfl) _ (F.e rfl) [.slice (some ⟨ga_34, 0, none⟩) 1 ca_34] rfl ee_info_22_map_size_some_1 (by simp) (by simp [Value.oneCell']) #[.slice none 0 0, .slice (some ⟨ga_34, 0, none⟩) 1 ca_34] (congrArg List.toArray rfl) ?_
 clear F a; have Mo := M; clear M; intro a u F M hgr
 refine hK _ _ ?_
 clear hK K
 replace R_ := R_.box (Mo.blk 3 _ rfl) (by show 5 ≠ 67; decide) hgr
 replace N_ := N_.oth (Mo.lo 3 _ rfl) (Mo.blk 3 _ rfl) hT.a hgr
 clear Mo hgr; try clear v
 replace M : Mm w0 u [⟨ga_34, ([(.slice none 0 0 : Value)] ++ sp_34).toArray, 23⟩, ⟨g33, #[.slice none 0 0], 23⟩, ⟨gl, #[.slice B bs.length c], 23⟩, ⟨gp, #[.slice none 0 0, .slice (some ⟨ga_34, 0, none⟩) 1 ca_34], 67⟩] := M
 refine wpList_nil ?_
 replace F : Fr 71 a [(0, .pointer (some ⟨gp, 0, none⟩)), (1, .slice (some ⟨gl, 0, none⟩) 1 1), (4, .slice none 0 0), (5, .int .i64 0), (18, .bool true), (27, .bool true)] := F.keep ⟨rfl, rfl, rfl, rfl, rfl, rfl, trivial⟩
 refine then_n ?_
 refine wp_seq ?_
 refine region_tail 12 ee_follows_mixedOrders (by kernel_rfl) M ?_; clear M; intro v M hb
 replace R_ := R_.below hb
 replace N_ := N_.below hb
 clear hb; try clear u
 refine still_val F (wn rfl) rfl rfl (.pointer (some ⟨gp, 0, none⟩)) (ex_move _ rfl _ (F.e rfl)) ?_; clear F a; intro a F
 refine still_val F (wn rfl) rfl rfl (.pointer (some ⟨gp, 0, none⟩)) (ex_nilck _ rfl _ (F.e rfl)) ?_; clear F a; intro a F
 refine still_val F (wn rfl) rfl rfl (.pointer (some ⟨gp, 1, none⟩)) (ex_fa _ _ _ rfl _ (F.e rfl) 1 ee_fa_67_1_1 ⟨gp, 1, none⟩ rfl) ?_; clear F a; intro a F
 refine still_val F (wn rfl) rfl rfl (.slice (some ⟨ga_34, 0, none⟩) 1 ca_34) (ex_load _ _ rfl _ (F.e rfl) _ (lv1 ee_one_22 (M.cell (i := 3) rfl (j := 1) rfl))) ?_; clear F a; intro a F
 refine still_val F (wn rfl) rfl rfl (.int .i64 0) (ex_move _ rfl _ (F.e rfl)) ?_; clear F a; intro a F
 refine still_val F (wn rfl) rfl rfl (.pointer (some ⟨ga_34, 0, none⟩)) (ex_ix _ _ _ rfl 1 ee_sl_22_1 ⟨ga_34, 0, none⟩ 1 ca_34 (F.e rfl) .i64 _ (F.e rfl) 0 rfl (by decide) ⟨ga_34, 0, none⟩ rfl) ?_; clear F a; intro a F
 refine still_val F (wn rfl) rfl rfl (.slice none 0 0) (ex_load _ _ rfl _ (F.e rfl) _ (lv1 ee_one_23 (M.cell (i := 0) rfl (j := 0) rfl))) ?_; clear F a; intro a F
 refine still_val F (wn rfl) rfl rfl (.slice none 0 0) (ex_cutto _ _ rfl none 0 0 (F.e rfl) _ rfl 0 rfl (Nat.zero_le _)) ?_; clear F a; intro a F
 refine still_val F (wn rfl) rfl rfl (.slice (some ⟨gl, 0, none⟩) 1 1) (ex_move _ rfl _ (F.e rfl)) ?_; clear F a; intro a F
 refine still_val F (wn rfl) rfl rfl (.int .i64 0) (ex_move _ rfl _ (F.e rfl)) ?_; clear F a; intro a F
 refine still_val F (wn rfl) rfl rfl (.pointer (some ⟨gl, 0, none⟩)) (ex_ix _ _ _ rfl 1 ee_sl_22_1 ⟨gl, 0, none⟩ 1 1 (F.e rfl) .i64 _ (F.e rfl) 0 rfl (by decide) ⟨gl, 0, none⟩ rfl) ?_; clear F a; intro a F
 refine still_val F (wn rfl) rfl rfl (.slice B bs.length c) (ex_load _ _ rfl _ (F.e rfl) _ (lv1 ee_one_23 (M.cell (i := 2) rfl (j := 0) rfl))) ?_; clear F a; intro a F
 refine still_end ?_
 refine list_do (wn rfl) (fun K hK => ?_)
 refine ow_appN F M N_ R_ rfl hT.c rfl rfl rfl _ _ rfl bs bs rfl B bs.length c (F.e rfl) (F.e rfl) (hB.below M.bel) (by simp; omega) ?_
 clear F M R_ N_; intro a A_49 c_49 u F M N_ R_
 refine hK _ _ ?_
 clear hK K
 try clear v
 refine list_val F (wn rfl) rfl rfl (.slice A_49 bs.length c_49) (ex_assign _ rfl _ (F.e rfl)) ?_; clear F a; intro a F
 refine wpList_nil ?_
 replace F : Fr 71 a [(0, .pointer (some ⟨gp, 0, none⟩)), (1, .slice (some ⟨gl, 0, none⟩) 1 1), (4, .slice none 0 0), (5, .int .i64 0), (6, .slice A_49 bs.length c_49), (18, .bool true), (27, .bool true)] := F.keep ⟨rfl, rfl, rfl, rfl, rfl, rfl, rfl, trivial⟩
 refine then_n ?_
 refine wp_seq ?_
 refine wp_region_lit ?_
 refine list_val F (wn rfl) rfl rfl (.pointer (some ⟨gp, 0, none⟩)) (ex_move _ rfl _ (F.e rfl)) ?_; clear F a; intro a F
 refine list_val F (wn rfl) rfl rfl (.pointer (some ⟨gp, 0, none⟩)) (ex_nilck _ rfl _ (F.e rfl)) ?_; clear F a; intro a F
 refine list_val F (wn rfl) rfl rfl (.pointer (some ⟨gp, 1, none⟩)) (ex_fa _ _ _ rfl _ (F.e rfl) 1 ee_fa_67_1_1 ⟨gp, 1, none⟩ rfl) ?_; clear F a; intro a F
 refine list_val F (wn rfl) rfl rfl (.slice (some ⟨ga_34, 0, none⟩) 1 ca_34) (ex_load _ _ rfl _ (F.e rfl) _ (lv1 ee_one_22 (M.cell (i := 3) rfl (j := 1) rfl))) ?_; clear F a; intro a F
 refine list_val F (wn rfl) rfl rfl (.int .i64 0) (ex_move _ rfl _ (F.e rfl)) ?_; clear F a; intro a F
 refine list_val F (wn rfl) rfl rfl (.slice A_49 bs.length c_49) (ex_move _ rfl _ (F.e rfl)) ?_; clear F a; intro a F
 refine list_val F (wn rfl) rfl rfl (.pointer (some ⟨ga_34, 0, none⟩)) (ex_ix _ _ _ rfl 1 ee_sl_22_1 ⟨ga_34, 0, none⟩ 1 ca_34 (F.e rfl) .i64 _ (F.e rfl) 0 rfl (by decide) ⟨ga_34, 0, none⟩ rfl) ?_; clear F a; intro a F
 refine list_do (wn rfl) (fun K hK => ?_)
 refine ow_store F M rfl 23 _ _ rfl 0 ga_34 _ _ rfl 0 (F.e rfl) _ (F.e rfl) [.slice A_49 bs.length c_49] rfl ee_info_23_map_size_some_1 (by simp) (by simp [Value.oneCell']) (([(.slice A_49 bs.length c_49 : Value)] ++ sp_34).toArray) (congrArg List.toArray rfl) ?_
 clear F a; have Mo := M; clear M; intro a v F M hgr
 refine hK _ _ ?_
 clear hK K
 replace R_ := R_.box (Mo.blk 0 _ rfl) (by show 5 ≠ 23; decide) hgr
 replace N_ := N_.oth (Mo.lo 0 _ rfl) (Mo.blk 0 _ rfl) hT.b hgr
 clear Mo hgr; try clear u
 replace M : Mm w0 v [⟨ga_34, ([(.slice A_49 bs.length c_49 : Value)] ++ sp_34).toArray, 23⟩, ⟨g33, #[.slice none 0 0], 23⟩, ⟨gl, #[.slice B bs.length c], 23⟩, ⟨gp, #[.slice none 0 0, .slice (some ⟨ga_34, 0, none⟩) 1 ca_34], 67⟩] := M
 refine wpList_nil ?_
 replace F : Fr 71 a [(0, .pointer (some ⟨gp, 0, none⟩)), (1, .slice (some ⟨gl, 0, none⟩) 1 1), (4, .slice none 0 0), (5, .int .i64 0), (6, .slice A_49 bs.length c_49), (18, .bool true), (27, .bool true)] := F.keep ⟨rfl, rfl, rfl, rfl, rfl, rfl, rfl, trivial⟩
 refine then_n ?_
 refine wp_region_lit ?_
 refine list_val F (wn rfl) rfl rfl (.pointer (some ⟨gp, 0, none⟩)) (ex_move _ rfl _ (F.e rfl)) ?_; clear F a; intro a F
 refine list_val F (wn rfl) rfl rfl (.pointer (some ⟨gp, 0, none⟩)) (ex_move _ rfl _ (F.e rfl)) ?_; clear F a; intro a F
 refine list_val F (wn rfl) rfl rfl (.pointer (some ⟨gp, 0, none⟩)) (ex_nilck _ rfl _ (F.e rfl)) ?_; clear F a; intro a F
 refine list_val F (wn rfl) rfl rfl (.pointer (some ⟨gp, 0, none⟩)) (ex_fa _ _ _ rfl _ (F.e rfl) 0 ee_fa_67_0_0 ⟨gp, 0, none⟩ rfl) ?_; clear F a; intro a F
 refine list_val F (wn rfl) rfl rfl (.slice none 0 0) (ex_load _ _ rfl _ (F.e rfl) _ (lv1 ee_one_22 (M.cell (i := 3) rfl (j := 0) rfl))) ?_; clear F a; intro a F
 refine list_val F (wn rfl) rfl rfl (.slice A_49 bs.length c_49) (ex_move _ rfl _ (F.e rfl)) ?_; clear F a; intro a F
 refine list_do (wn rfl) (fun K hK => ?_)
 refine ow_bslice F M rfl rfl 22 1 _ rfl #[(0, .slice A_49 bs.length c_49)] (parts1 (F.e rfl)) #[.slice A_49 bs.length c_49] 23 (row22 A_49 bs.length c_49 _) ?_
 clear F M a; intro a g63 u F M hb hg
 refine hK _ _ ?_
 clear hK K
 replace R_ := R_.below hb
 replace N_ := N_.below hb
 clear hb hg; try clear v
 refine list_do (wn rfl) (fun K hK => ?_)
 refine ow_append0 F M rfl rfl _ _ 22 23 1 24 rfl ee_ap_22_23_1_24 (F.e rfl) ⟨g63, 0, none⟩ 1 1 [.slice A_49 bs.length c_49] (F.e rfl) (by decide) rfl (M.at (i := 0) rfl) (by decide) (by decide) ?_
 clear F M a; intro a ga_64 ca_64 sp_64 v F M hl64 hqc64 hcm64 hb hg
 refine hK _ _ ?_
 clear hK K
 replace R_ := R_.below hb
 replace N_ := N_.below hb
 clear hb hg hqc64; try clear u
 have hs64 : sp_64.length + 1 = ca_64 := by simp at hl64; omega
 replace M : Mm w0 v [⟨ga_64, ([(.slice A_49 bs.length c_49 : Value)] ++ sp_64).toArray, 23⟩, ⟨g63, #[.slice A_49 bs.length c_49], 23⟩, ⟨ga_34, ([(.slice A_49 bs.length c_49 : Value)] ++ sp_34).toArray, 23⟩, ⟨g33, #[.slice none 0 0], 23⟩, ⟨gl, #[.slice B bs.length c], 23⟩, ⟨gp, #[.slice none 0 0, .slice (some ⟨ga_34, 0, none⟩) 1 ca_34], 67⟩] := M
 refine list_val F (wn rfl) rfl rfl (.pointer (some ⟨gp, 0, none⟩)) (ex_nilck _ rfl _ (F.e rfl)) ?_; clear F a; intro a F
 refine list_val F (wn rfl) rfl rfl (.pointer (some ⟨gp, 0, none⟩)) (ex_fa _ _ _ rfl _ (F.e rfl) 0 ee_fa_67_0_0 ⟨gp, 0, none⟩ rfl) ?_; clear F a; intro a F
 refine list_do (wn rfl) (fun K hK => ?_)
 refine ow_store F M rfl 22 _ _ rfl 5 gp _ _ rfl 0 (F.e rfl) _ (F.e rfl) [.slice (some ⟨ga_64, 0, none⟩) 1 ca_64] rfl ee_info_22_map_size_some_1 (by simp) (by simp [Value.oneCell']) #[.slice (some ⟨ga_64, 0, none⟩) 1 ca_64, .slice (some ⟨ga_34, 0, none⟩) 1 ca_34] (congrArg List.toArray rfl) ?_
 clear F a; have Mo := M; clear M; intro a u F M hgr
 refine hK _ _ ?_
 clear hK K
 replace R_ := R_.box (Mo.blk 5 _ rfl) (by show 5 ≠ 67; decide) hgr
 replace N_ := N_.oth (Mo.lo 5 _ rfl) (Mo.blk 5 _ rfl) hT.a hgr
 clear Mo hgr; try clear v
 replace M : Mm w0 u [⟨ga_64, ([(.slice A_49 bs.length c_49 : Value)] ++ sp_64).toArray, 23⟩, ⟨g63, #[.slice A_49 bs.length c_49], 23⟩, ⟨ga_34, ([(.slice A_49 bs.length c_49 : Value)] ++ sp_34).toArray, 23⟩, ⟨g33, #[.slice none 0 0], 23⟩, ⟨gl, #[.slice B bs.length c], 23⟩, ⟨gp, #[.slice (some ⟨ga_64, 0, none⟩) 1 ca_64, .slice (some ⟨ga_34, 0, none⟩) 1 ca_34], 67⟩] := M
 refine wpList_nil ?_
 replace F : Fr 71 a [(0, .pointer (some ⟨gp, 0, none⟩)), (1, .slice (some ⟨gl, 0, none⟩) 1 1), (4, .slice none 0 0), (5, .int .i64 0), (6, .slice A_49 bs.length c_49), (18, .bool true), (27, .bool true)] := F.keep ⟨rfl, rfl, rfl, rfl, rfl, rfl, rfl, trivial⟩
 refine in_n ?_
 refine then_n ?_
 refine wp_region_lit ?_
 refine list_val F (wn rfl) rfl rfl (.int .i64 0) (ex_move _ rfl _ (F.e rfl)) ?_; clear F a; intro a F
 refine list_val F (wn rfl) rfl rfl (.int .i64 1) (ex_bin .add _ _ _ _ rfl .i64 _ _ (F.e rfl) rfl _ (b_add (by decide))) ?_; clear F a; intro a F
 refine list_val F (wn rfl) rfl rfl (.int .i64 1) (ex_assign _ rfl _ (F.e rfl)) ?_; clear F a; intro a F
 refine wpList_nil ?_
 replace F : Fr 71 a [(0, .pointer (some ⟨gp, 0, none⟩)), (1, .slice (some ⟨gl, 0, none⟩) 1 1), (4, .slice none 0 0), (5, .int .i64 1), (6, .slice A_49 bs.length c_49), (18, .bool true), (27, .bool true)] := F.keep ⟨rfl, rfl, rfl, rfl, rfl, rfl, rfl, trivial⟩
 refine then_n ?_
 refine rounds_do 0 ?_
 refine wp_seq ?_
 refine wp_seq ?_
 refine wp_region_lit ?_
 refine list_val F (wn rfl) rfl rfl (.int .i64 1) (ex_move _ rfl _ (F.e rfl)) ?_; clear F a; intro a F
 refine list_val F (wn rfl) rfl rfl (.slice (some ⟨gl, 0, none⟩) 1 1) (ex_move _ rfl _ (F.e rfl)) ?_; clear F a; intro a F
 refine list_val F (wn rfl) rfl rfl (.int .i64 1) (ex_len _ _ rfl 1 ee_sl_22_1 _ _ _ (F.e rfl)) ?_; clear F a; intro a F
 refine list_val F (wn rfl) rfl rfl (.bool false) (ex_bin .lss _ _ _ _ rfl .i64 _ _ (F.e rfl) (F.e rfl) _ (b_lss (by decide))) ?_; clear F a; intro a F
 refine wpList_nil ?_
 replace F : Fr 71 a [(0, .pointer (some ⟨gp, 0, none⟩)), (1, .slice (some ⟨gl, 0, none⟩) 1 1), (4, .slice none 0 0), (5, .int .i64 1), (6, .slice A_49 bs.length c_49), (18, .bool false), (27, .bool true)] := F.keep ⟨rfl, rfl, rfl, rfl, rfl, rfl, rfl, trivial⟩
 refine then_n ?_
 refine wp_cond_false (F.e rfl) ?_
 refine wp_exit ?_
 refine then_x ?_
 refine then_x ?_
 refine in_hit ?_
 refine then_n ?_
 refine wp_seq ?_
 refine wp_region_lit ?_
 refine list_val F (wn rfl) rfl rfl (.pointer (some ⟨gp, 0, none⟩)) (ex_move _ rfl _ (F.e rfl)) ?_; clear F a; intro a F
 refine list_val F (wn rfl) rfl rfl (.pointer (some ⟨gp, 0, none⟩)) (ex_nilck _ rfl _ (F.e rfl)) ?_; clear F a; intro a F
 refine list_val F (wn rfl) rfl rfl (.pointer (some ⟨gp, 0, none⟩)) (ex_fa _ _ _ rfl _ (F.e rfl) 0 ee_fa_67_0_0 ⟨gp, 0, none⟩ rfl) ?_; clear F a; intro a F
 refine list_val F (wn rfl) rfl rfl (.slice (some ⟨ga_64, 0, none⟩) 1 ca_64) (ex_load _ _ rfl _ (F.e rfl) _ (lv1 ee_one_22 (M.cell (i := 5) rfl (j := 0) rfl))) ?_; clear F a; intro a F
 refine list_val F (wn rfl) rfl rfl (.slice (some ⟨ga_64, 0, none⟩) 1 ca_64) (ex_assign _ rfl _ (F.e rfl)) ?_; clear F a; intro a F
 refine wpList_nil ?_
 replace F : Fr 71 a [(0, .pointer (some ⟨gp, 0, none⟩)), (1, .slice (some ⟨gl, 0, none⟩) 1 1), (4, .slice (some ⟨ga_64, 0, none⟩) 1 ca_64), (5, .int .i64 1), (6, .slice A_49 bs.length c_49), (18, .bool false), (27, .bool true)] := F.keep ⟨rfl, rfl, rfl, rfl, rfl, rfl, rfl, trivial⟩
 refine then_n ?_
 refine wp_ret ?_
 exact ret_tmp F rfl rfl ⟨A_49, c_49, ga_64, ca_64, sp_64, ga_34, ca_34, sp_34, rfl, (by refine M.pick' [4, 5, 0, 2] _ ?_ (by decide); exact ⟨rfl, rfl, rfl, rfl, trivial⟩), ⟨hs64, hcm64⟩, ⟨hs34, hcm34⟩, N_, R_⟩
set_option maxHeartbeats 4000000 in
set_option maxRecDepth 100000 in
theorem rows_again {t : List Rw} {H : List Blk} {w0 w : World} {gl gp g1 g2 c1 c2 n k : Nat} {s1 s2 : List Value} {A B : Option Addr} {c : Nat} {bs old : List By} (hM : Mm w0 w [⟨gl, #[.slice B bs.length c], 23⟩, ⟨gp, #[.slice (some ⟨g1, 0, none⟩) 1 c1, .slice (some ⟨g2, 0, none⟩) 1 c2], 67⟩, ⟨g1, ([(.slice A n k : Value)] ++ s1).toArray, 23⟩, ⟨g2, ([(.slice A n k : Value)] ++ s2).toArray, 23⟩]) (hs1 : s1.length + 1 = c1) (hcm1 : c1 ≤ maxLen) (hs2 : s2.length + 1 = c2) (hcm2 : c2 ≤ maxLen) (hR : Rs w0 w ([(.slice A n k, old)] ++ t)) (hN : Mm w0 w H) (hT : Far H) (hB : Rb w0 B bs.length bs) (hm : bs.length ≤ 140737488351232) :
    Calls Tryd.prog 46 #[.pointer (some ⟨gp, 0, none⟩), .slice (some ⟨gl, 0, none⟩) 1 1] w fun e w' => ∃ A' k' g1 c1 s1 g2 c2 s2, e = .returned (.slice (some ⟨g1, 0, none⟩) 1 c1) ∧ Mm w0 w' [⟨gl, #[.slice B bs.length c], 23⟩, ⟨gp, #[.slice (some ⟨g1, 0, none⟩) 1 c1, .slice (some ⟨g2, 0, none⟩) 1 c2], 67⟩, ⟨g1, ([(.slice A' bs.length k' : Value)] ++ s1).toArray, 23⟩, ⟨g2, ([(.slice A' bs.length k' : Value)] ++ s2).toArray, 23⟩] ∧ (s1.length + 1 = c1 ∧ c1 ≤ maxLen) ∧ (s2.length + 1 = c2 ∧ c2 ≤ maxLen) ∧ Mm w0 w' H ∧ Rs w0 w' ([(.slice A' bs.length k', bs)] ++ t) := by
 have R_ := hR
 have N_ := hN
 refine calls_start Tryd.func46 rfl rfl rfl (fun a F => ?_)
 have M : Mm w0 w [⟨gl, #[.slice B bs.length c], 23⟩, ⟨gp, #[.slice (some ⟨g1, 0, none⟩) 1 c1, .slice (some ⟨g2, 0, none⟩) 1 c2], 67⟩, ⟨g1, ([(.slice A n k : Value)] ++ s1).toArray, 23⟩, ⟨g2, ([(.slice A n k : Value)] ++ s2).toArray, 23⟩] := hM
 refine wp_seq ?_
 refine wp_region_lit ?_
 refine list_val F (wn rfl) rfl rfl (.slice none 0 0) (ex_assign _ rfl _ rfl) ?_; clear F a; intro a F
 refine wpList_nil ?_
 replace F : Fr 71 a [(0, .pointer (some ⟨gp, 0, none⟩)), (1, .slice (some ⟨gl, 0, none⟩) 1 1), (4, .slice none 0 0)] := F.keep ⟨rfl, rfl, rfl, trivial⟩
 refine then_n ?_
 refine wp_seq ?_
 refine wp_region_lit ?_
 refine list_val F (wn rfl) rfl rfl (.pointer (some ⟨gp, 0, none⟩)) (ex_move _ rfl _ (F.e rfl)) ?_; clear F a; intro a F
 refine list_val F (wn rfl) rfl rfl (.pointer (some ⟨gp, 0, none⟩)) (ex_move _ rfl _ (F.e rfl)) ?_; clear F a; intro a F
 refine list_val F (wn rfl) rfl rfl (.pointer (some ⟨gp, 0, none⟩)) (ex_nilck _ rfl _ (F.e rfl)) ?_; clear F a; intro a F
 refine list_val F (wn rfl) rfl rfl (.pointer (some ⟨gp, 0, none⟩)) (ex_fa _ _ _ rfl _ (F.e rfl) 0 ee_fa_67_0_0 ⟨gp, 0, none⟩ rfl) ?_; clear F a; intro a F
 refine list_val F (wn rfl) rfl rfl (.slice (some ⟨g1, 0, none⟩) 1 c1) (ex_load _ _ rfl _ (F.e rfl) _ (lv1 ee_one_22 (M.cell (i := 1) rfl (j := 0) rfl))) ?_; clear F a; intro a F
 refine list_val F (wn rfl) rfl rfl (.slice (some ⟨g1, 0, none⟩) 0 c1) (ex_cutto22 _ _ rfl (some ⟨g1, 0, none⟩) 1 c1 (F.e rfl) _ rfl 0 rfl (Nat.zero_le _)) ?_; clear F a; intro a F
 refine list_val F (wn rfl) rfl rfl (.pointer (some ⟨gp, 0, none⟩)) (ex_nilck _ rfl _ (F.e rfl)) ?_; clear F a; intro a F
 refine list_val F (wn rfl) rfl rfl (.pointer (some ⟨gp, 0, none⟩)) (ex_fa _ _ _ rfl _ (F.e rfl) 0 ee_fa_67_0_0 ⟨gp, 0, none⟩ rfl) ?_; clear F a; intro a F
 refine list_do (wn rfl) (fun K hK => ?_)
 refine ow_store F M rfl 22 _ _ rfl 1 gp _ _ rfl 0 (F.e rfl) _ (F.e rfl) [.slice (some ⟨g1, 0, none⟩) 0 c1] rfl ee_info_22_map_size_some_1 (by simp) (by simp [Value.oneCell']) #[.slice (some ⟨g1, 0, none⟩) 0 c1, .slice (some ⟨g2, 0, none⟩) 1 c2] (congrArg List.toArray rfl) ?_
 clear F a; have Mo := M; clear M; intro a v F M hgr
 refine hK _ _ ?_
 clear hK K
 replace R_ := R_.box (Mo.blk 1 _ rfl) (by show 5 ≠ 67; decide) hgr
 replace N_ := N_.oth (Mo.lo 1 _ rfl) (Mo.blk 1 _ rfl) hT.a hgr
 clear Mo hgr; try clear w
 replace M : Mm w0 v [⟨gl, #[.slice B bs.length c], 23⟩, ⟨gp, #[.slice (some ⟨g1, 0, none⟩) 0 c1, .slice (some ⟨g2, 0, none⟩) 1 c2], 67⟩, ⟨g1, ([(.slice A n k : Value)] ++ s1).toArray, 23⟩, ⟨g2, ([(.slice A n k : Value)] ++ s2).toArray, 23⟩] := M
 refine wpList_nil ?_
 replace F : Fr 71 a [(0, .pointer (some ⟨gp, 0, none⟩)), (1, .slice (some ⟨gl, 0, none⟩) 1 1), (4, .slice none 0 0)] := F.keep ⟨rfl, rfl, rfl, trivial⟩
 refine then_n ?_
 refine wp_seq ?_
 refine wp_seq ?_
 refine wp_region_lit ?_
 refine list_val F (wn rfl) rfl rfl (.int .i64 0) (ex_assign _ rfl _ rfl) ?_; clear F a; intro a F
 refine wpList_nil ?_
 replace F : Fr 71 a [(0, .pointer (some ⟨gp, 0, none⟩)), (1, .slice (some ⟨gl, 0, none⟩) 1 1), (4, .slice none 0 0), (5, .int .i64 0)] := F.keep ⟨rfl, rfl, rfl, rfl, trivial⟩
 refine then_n ?_
 refine wp_block ?_
 refine wp_loop_rounds 2 ?_
 refine rounds_do 1 ?_
 refine wp_seq ?_
 refine wp_seq ?_
 refine wp_region_lit ?_
 refine list_val F (wn rfl) rfl rfl (.int .i64 0) (ex_move _ rfl _ (F.e rfl)) ?_; clear F a; intro a F
 refine list_val F (wn rfl) rfl rfl (.slice (some ⟨gl, 0, none⟩) 1 1) (ex_move _ rfl _ (F.e rfl)) ?_; clear F a; intro a F
 refine list_val F (wn rfl) rfl rfl (.int .i64 1) (ex_len _ _ rfl 1 ee_sl_22_1 _ _ _ (F.e rfl)) ?_; clear F a; intro a F
 refine list_val F (wn rfl) rfl rfl (.bool true) (ex_bin .lss _ _ _ _ rfl .i64 _ _ (F.e rfl) (F.e rfl) _ (b_lss (by decide))) ?_; clear F a; intro a F
 refine wpList_nil ?_
 replace F : Fr 71 a [(0, .pointer (some ⟨gp, 0, none⟩)), (1, .slice (some ⟨gl, 0, none⟩) 1 1), (4, .slice none 0 0), (5, .int .i64 0), (18, .bool true)] := F.keep ⟨rfl, rfl, rfl, rfl, rfl, trivial⟩
 refine then_n ?_
 refine wp_cond_true (F.e rfl) ?_
 refine wp_skip ?_
 refine then_n ?_
 refine wp_seq ?_
 refine wp_block ?_
 refine wp_seq ?_
 refine wp_seq ?_
 refine wp_region_lit ?_
 refine list_val F (wn rfl) rfl rfl (.int .i64 0) (ex_move _ rfl _ (F.e rfl)) ?_; clear F a; intro a F
 refine list_val F (wn rfl) rfl rfl (.pointer (some ⟨gp, 0, none⟩)) (ex_move _ rfl _ (F.e rfl)) ?_; clear F a; intro a F
 refine list_val F (wn rfl) rfl rfl (.pointer (some ⟨gp, 0, none⟩)) (ex_nilck _ rfl _ (F.e rfl)) ?_; clear F a; intro a F
 refine list_val F (wn rfl) rfl rfl (.pointer (some ⟨gp, 1, none⟩)) (ex_fa _ _ _ rfl _ (F.e rfl) 1 ee_fa_67_1_1 ⟨gp, 1, none⟩ rfl) ?_; clear F a; intro a F
 refine list_val F (wn rfl) rfl rfl (.slice (some ⟨g2, 0, none⟩) 1 c2) (ex_load _ _ rfl _ (F.e rfl) _ (lv1 ee_one_22 (M.cell (i := 1) rfl (j := 1) rfl))) ?_; clear F a; intro a F
 refine list_val F (wn rfl) rfl rfl (.int .i64 1) (ex_len _ _ rfl 1 ee_sl_22_1 _ _ _ (F.e rfl)) ?_; clear F a; intro a F
 refine list_val F (wn rfl) rfl rfl (.bool false) (ex_bin .eql _ _ _ _ rfl .i64 _ _ (F.e rfl) (F.e rfl) _ (b_eql (by decide))) ?_; clear F a; intro a F
 refine wpList_nil ?_
 replace F : Fr 71 a [(0, .pointer (some ⟨gp, 0, none⟩)), (1, .slice (some ⟨gl, 0, none⟩) 1 1), (4, .slice none 0 0), (5, .int .i64 0), (18, .bool true), (27, .bool false)] := F.keep ⟨rfl, rfl, rfl, rfl, rfl, rfl, trivial⟩
 refine then_n ?_
 refine wp_cond_false (F.e rfl) ?_
 refine wp_skip ?_
 refine then_n ?_
 refine wp_seq ?_
 refine region_tail 12 ee_follows_mixedOrders (by kernel_rfl) M ?_; clear M; intro u M hb
 replace R_ := R_.below hb
 replace N_ := N_.below hb
 clear hb; try clear v
 refine still_val F (wn rfl) rfl rfl (.pointer (some ⟨gp, 0, none⟩)) (ex_move _ rfl _ (F.e rfl)) ?_; clear F a; intro a F
 refine still_val F (wn rfl) rfl rfl (.pointer (some ⟨gp, 0, none⟩)) (ex_nilck _ rfl _ (F.e rfl)) ?_; clear F a; intro a F
 refine still_val F (wn rfl) rfl rfl (.pointer (some ⟨gp, 1, none⟩)) (ex_fa _ _ _ rfl _ (F.e rfl) 1 ee_fa_67_1_1 ⟨gp, 1, none⟩ rfl) ?_; clear F a; intro a F
 refine still_val F (wn rfl) rfl rfl (.slice (some ⟨g2, 0, none⟩) 1 c2) (ex_load _ _ rfl _ (F.e rfl) _ (lv1 ee_one_22 (M.cell (i := 1) rfl (j := 1) rfl))) ?_; clear F a; intro a F
 refine still_val F (wn rfl) rfl rfl (.int .i64 0) (ex_move _ rfl _ (F.e rfl)) ?_; clear F a; intro a F
 refine still_val F (wn rfl) rfl rfl (.pointer (some ⟨g2, 0, none⟩)) (ex_ix _ _ _ rfl 1 ee_sl_22_1 ⟨g2, 0, none⟩ 1 c2 (F.e rfl) .i64 _ (F.e rfl) 0 rfl (by decide) ⟨g2, 0, none⟩ rfl) ?_; clear F a; intro a F
 refine still_val F (wn rfl) rfl rfl (.slice A n k) (ex_load _ _ rfl _ (F.e rfl) _ (lv1 ee_one_23 (M.cell (i := 3) rfl (j := 0) rfl))) ?_; clear F a; intro a F
 replace R_ := R_.cut0
 refine still_val F (wn rfl) rfl rfl (.slice A 0 k) (ex_cutto _ _ rfl A n k (F.e rfl) _ rfl 0 rfl (Nat.zero_le _)) ?_; clear F a; intro a F
 refine still_val F (wn rfl) rfl rfl (.slice (some ⟨gl, 0, none⟩) 1 1) (ex_move _ rfl _ (F.e rfl)) ?_; clear F a; intro a F
 refine still_val F (wn rfl) rfl rfl (.int .i64 0) (ex_move _ rfl _ (F.e rfl)) ?_; clear F a; intro a F
 refine still_val F (wn rfl) rfl rfl (.pointer (some ⟨gl, 0, none⟩)) (ex_ix _ _ _ rfl 1 ee_sl_22_1 ⟨gl, 0, none⟩ 1 1 (F.e rfl) .i64 _ (F.e rfl) 0 rfl (by decide) ⟨gl, 0, none⟩ rfl) ?_; clear F a; intro a F
 refine still_val F (wn rfl) rfl rfl (.slice B bs.length c) (ex_load _ _ rfl _ (F.e rfl) _ (lv1 ee_one_23 (M.cell (i := 0) rfl (j := 0) rfl))) ?_; clear F a; intro a F
 refine still_end ?_
 refine list_do (wn rfl) (fun K hK => ?_)
 refine ow_appN F M N_ R_ rfl hT.c rfl rfl rfl _ _ rfl bs bs rfl B bs.length c (F.e rfl) (F.e rfl) (hB.below M.bel) (by simp; omega) ?_
 clear F M R_ N_; intro a A_49 c_49 v F M N_ R_
 refine hK _ _ ?_
 clear hK K
 try clear u
 refine list_val F (wn rfl) rfl rfl (.slice A_49 bs.length c_49) (ex_assign _ rfl _ (F.e rfl)) ?_; clear F a; intro a F
 refine wpList_nil ?_
 replace F : Fr 71 a [(0, .pointer (some ⟨gp, 0, none⟩)), (1, .slice (some ⟨gl, 0, none⟩) 1 1), (4, .slice none 0 0), (5, .int .i64 0), (6, .slice A_49 bs.length c_49), (18, .bool true), (27, .bool false)] := F.keep ⟨rfl, rfl, rfl, rfl, rfl, rfl, rfl, trivial⟩
 refine then_n ?_
 refine wp_seq ?_
 refine wp_region_lit ?_
 refine list_val F (wn rfl) rfl rfl (.pointer (some ⟨gp, 0, none⟩)) (ex_move _ rfl _ (F.e rfl)) ?_; clear F a; intro a F
 refine list_val F (wn rfl) rfl rfl (.pointer (some ⟨gp, 0, none⟩)) (ex_nilck _ rfl _ (F.e rfl)) ?_; clear F a; intro a F
 refine list_val F (wn rfl) rfl rfl (.pointer (some ⟨gp, 1, none⟩)) (ex_fa _ _ _ rfl _ (F.e rfl) 1 ee_fa_67_1_1 ⟨gp, 1, none⟩ rfl) ?_; clear F a; intro a F
 refine list_val F (wn rfl) rfl rfl (.slice (some ⟨g2, 0, none⟩) 1 c2) (ex_load _ _ rfl _ (F.e rfl) _ (lv1 ee_one_22 (M.cell (i := 1) rfl (j := 1) rfl))) ?_; clear F a; intro a F
 refine list_val F (wn rfl) rfl rfl (.int .i64 0) (ex_move _ rfl _ (F.e rfl)) ?_; clear F a; intro a F
 refine list_val F (wn rfl) rfl rfl (.slice A_49 bs.length c_49) (ex_move _ rfl _ (F.e rfl)) ?_; clear F a; intro a F
 refine list_val F (wn rfl) rfl rfl (.pointer (some ⟨g2, 0, none⟩)) (ex_ix _ _ _ rfl 1 ee_sl_22_1 ⟨g2, 0, none⟩ 1 c2 (F.e rfl) .i64 _ (F.e rfl) 0 rfl (by decide) ⟨g2, 0, none⟩ rfl) ?_; clear F a; intro a F
 refine list_do (wn rfl) (fun K hK => ?_)
 refine ow_store F M rfl 23 _ _ rfl 3 g2 _ _ rfl 0 (F.e rfl) _ (F.e rfl) [.slice A_49 bs.length c_49] rfl ee_info_23_map_size_some_1 (by simp) (by simp [Value.oneCell']) (([(.slice A_49 bs.length c_49 : Value)] ++ s2).toArray) (congrArg List.toArray rfl) ?_
 clear F a; have Mo := M; clear M; intro a u F M hgr
 refine hK _ _ ?_
 clear hK K
 replace R_ := R_.box (Mo.blk 3 _ rfl) (by show 5 ≠ 23; decide) hgr
 replace N_ := N_.oth (Mo.lo 3 _ rfl) (Mo.blk 3 _ rfl) hT.b hgr
 clear Mo hgr; try clear v
 replace M : Mm w0 u [⟨gl, #[.slice B bs.length c], 23⟩, ⟨gp, #[.slice (some ⟨g1, 0, none⟩) 0 c1, .slice (some ⟨g2, 0, none⟩) 1 c2], 67⟩, ⟨g1, ([(.slice A n k : Value)] ++ s1).toArray, 23⟩, ⟨g2, ([(.slice A_49 bs.length c_49 : Value)] ++ s2).toArray, 23⟩] := M
 refine wpList_nil ?_
 replace F : Fr 71 a [(0, .pointer (some ⟨gp, 0, none⟩)), (1, .slice (some ⟨gl, 0, none⟩) 1 1), (4, .slice none 0 0), (5, .int .i64 0), (6, .slice A_49 bs.length c_49), (18, .bool true), (27, .bool false)] := F.keep ⟨rfl, rfl, rfl, rfl, rfl, rfl, rfl, trivial⟩
 refine then_n ?_
 refine wp_region_lit ?_
 refine list_val F (wn rfl) rfl rfl (.pointer (some ⟨gp, 0, none⟩)) (ex_move _ rfl _ (F.e rfl)) ?_; clear F a; intro a F
 refine list_val F (wn rfl) rfl rfl (.pointer (some ⟨gp, 0, none⟩)) (ex_move _ rfl _ (F.e rfl)) ?_; clear F a; intro a F
 refine list_val F (wn rfl) rfl rfl (.pointer (some ⟨gp, 0, none⟩)) (ex_nilck _ rfl _ (F.e rfl)) ?_; clear F a; intro a F
 refine list_val F (wn rfl) rfl rfl (.pointer (some ⟨gp, 0, none⟩)) (ex_fa _ _ _ rfl _ (F.e rfl) 0 ee_fa_67_0_0 ⟨gp, 0, none⟩ rfl) ?_; clear F a; intro a F
 refine list_val F (wn rfl) rfl rfl (.slice (some ⟨g1, 0, none⟩) 0 c1) (ex_load _ _ rfl _ (F.e rfl) _ (lv1 ee_one_22 (M.cell (i := 1) rfl (j := 0) rfl))) ?_; clear F a; intro a F
 refine list_val F (wn rfl) rfl rfl (.slice A_49 bs.length c_49) (ex_move _ rfl _ (F.e rfl)) ?_; clear F a; intro a F
 refine list_do (wn rfl) (fun K hK => ?_)
 refine ow_bslice F M rfl rfl 22 1 _ rfl #[(0, .slice A_49 bs.length c_49)] (parts1 (F.e rfl)) #[.slice A_49 bs.length c_49] 23 (row22 A_49 bs.length c_49 _) ?_
 clear F M a; intro a g63 v F M hb hg
 refine hK _ _ ?_
 clear hK K
 replace R_ := R_.below hb
 replace N_ := N_.below hb
 clear hb hg; try clear u
 refine list_do (wn rfl) (fun K hK => ?_)
 refine ow_append F M rfl rfl _ _ 22 23 1 24 rfl ee_ap_22_23_1_24 3 g1 [] ([(.slice A n k : Value)] ++ s1) rfl 0 c1 (F.e rfl) rfl (by simp; omega) (Nat.zero_le _) hcm1 ⟨g63, 0, none⟩ 1 1 [.slice A_49 bs.length c_49] (F.e rfl) rfl (M.at (i := 0) rfl) (by simp [Value.oneCell']) (by decide) (by decide) ?_
 clear F a; have Mo := M; clear M; intro a ga_64 ca_64 sp_64 u F M hl64 hqc64 hcm64 hgr
 refine hK _ _ ?_
 clear hK K
 replace R_ := R_.box (Mo.blk 3 _ rfl) (by show 5 ≠ 23; decide) hgr
 replace N_ := N_.oth (Mo.lo 3 _ rfl) (Mo.blk 3 _ rfl) hT.b hgr
 clear Mo hgr hqc64; try clear v
 have hs64 : sp_64.length + 1 = ca_64 := by simp at hl64; omega
 replace M : Mm w0 u [⟨g63, #[.slice A_49 bs.length c_49], 23⟩, ⟨gl, #[.slice B bs.length c], 23⟩, ⟨gp, #[.slice (some ⟨g1, 0, none⟩) 0 c1, .slice (some ⟨g2, 0, none⟩) 1 c2], 67⟩, ⟨ga_64, ([(.slice A_49 bs.length c_49 : Value)] ++ sp_64).toArray, 23⟩, ⟨g2, ([(.slice A_49 bs.length c_49 : Value)] ++ s2).toArray, 23⟩] := M
 refine list_val F (wn rfl) rfl rfl (.pointer (some ⟨gp, 0, none⟩)) (ex_nilck _ rfl _ (F.e rfl)) ?_; clear F a; intro a F
 refine list_val F (wn rfl) rfl rfl (.pointer (some ⟨gp, 0, none⟩)) (ex_fa _ _ _ rfl _ (F.e rfl) 0 ee_fa_67_0_0 ⟨gp, 0, none⟩ rfl) ?_; clear F a; intro a F
 refine list_do (wn rfl) (fun K hK => ?_)
 refine ow_store F M rfl 22 _ _ rfl 2 gp _ _ rfl 0 (F.e rfl) _ (F.e rfl) [.slice (some ⟨ga_64, 0, none⟩) 1 ca_64] rfl ee_info_22_map_size_some_1 (by simp) (by simp [Value.oneCell']) #[.slice (some ⟨ga_64, 0, none⟩) 1 ca_64, .slice (some ⟨g2, 0, none⟩) 1 c2] (congrArg List.toArray rfl) ?_
 clear F a; have Mo := M; clear M; intro a v F M hgr
 refine hK _ _ ?_
 clear hK K
 replace R_ := R_.box (Mo.blk 2 _ rfl) (by show 5 ≠ 67; decide) hgr
 replace N_ := N_.oth (Mo.lo 2 _ rfl) (Mo.blk 2 _ rfl) hT.a hgr
 clear Mo hgr; try clear u
 replace M : Mm w0 v [⟨g63, #[.slice A_49 bs.length c_49], 23⟩, ⟨gl, #[.slice B bs.length c], 23⟩, ⟨gp, #[.slice (some ⟨ga_64, 0, none⟩) 1 ca_64, .slice (some ⟨g2, 0, none⟩) 1 c2], 67⟩, ⟨ga_64, ([(.slice A_49 bs.length c_49 : Value)] ++ sp_64).toArray, 23⟩, ⟨g2, ([(.slice A_49 bs.length c_49 : Value)] ++ s2).toArray, 23⟩] := M
 refine wpList_nil ?_
 replace F : Fr 71 a [(0, .pointer (some ⟨gp, 0, none⟩)), (1, .slice (some ⟨gl, 0, none⟩) 1 1), (4, .slice none 0 0), (5, .int .i64 0), (6, .slice A_49 bs.length c_49), (18, .bool true), (27, .bool false)] := F.keep ⟨rfl, rfl, rfl, rfl, rfl, rfl, rfl, trivial⟩
 refine in_n ?_
 refine then_n ?_
 refine wp_region_lit ?_
 refine list_val F (wn rfl) rfl rfl (.int .i64 0) (ex_move _ rfl _ (F.e rfl)) ?_; clear F a; intro a F
 refine list_val F (wn rfl) rfl rfl (.int .i64 1) (ex_bin .add _ _ _ _ rfl .i64 _ _ (F.e rfl) rfl _ (b_add (by decide))) ?_; clear F a; intro a F
 refine list_val F (wn rfl) rfl rfl (.int .i64 1) (ex_assign _ rfl _ (F.e rfl)) ?_; clear F a; intro a F
 refine wpList_nil ?_
 replace F : Fr 71 a [(0, .pointer (some ⟨gp, 0, none⟩)), (1, .slice (some ⟨gl, 0, none⟩) 1 1), (4, .slice none 0 0), (5, .int .i64 1), (6, .slice A_49 bs.length c_49), (18, .bool true), (27, .bool false)] := F.keep ⟨rfl, rfl, rfl, rfl, rfl, rfl, rfl, trivial⟩
 refine then_n ?_
 refine rounds_do 0 ?_
 refine wp_seq ?_
 refine wp_seq ?_
 refine wp_region_lit ?_
 refine list_val F (wn rfl) rfl rfl (.int .i64 1) (ex_move _ rfl _ (F.e rfl)) ?_; clear F a; intro a F
 refine list_val F (wn rfl) rfl rfl (.slice (some ⟨gl, 0, none⟩) 1 1) (ex_move _ rfl _ (F.e rfl)) ?_; clear F a; intro a F
 refine list_val F (wn rfl) rfl rfl (.int .i64 1) (ex_len _ _ rfl 1 ee_sl_22_1 _ _ _ (F.e rfl)) ?_; clear F a; intro a F
 refine list_val F (wn rfl) rfl rfl (.bool false) (ex_bin .lss _ _ _ _ rfl .i64 _ _ (F.e rfl) (F.e rfl) _ (b_lss (by decide))) ?_; clear F a; intro a F
 refine wpList_nil ?_
 replace F : Fr 71 a [(0, .pointer (some ⟨gp, 0, none⟩)), (1, .slice (some ⟨gl, 0, none⟩) 1 1), (4, .slice none 0 0), (5, .int .i64 1), (6, .slice A_49 bs.length c_49), (18, .bool false), (27, .bool false)] := F.keep ⟨rfl, rfl, rfl, rfl, rfl, rfl, rfl, trivial⟩
 refine then_n ?_
 refine wp_cond_false (F.e rfl) ?_
 refine wp_exit ?_
 refine then_x ?_
 refine then_x ?_
 refine in_hit ?_
 refine then_n ?_
 refine wp_seq ?_
 refine wp_region_lit ?_
 refine list_val F (wn rfl) rfl rfl (.pointer (some ⟨gp, 0, none⟩)) (ex_move _ rfl _ (F.e rfl)) ?_; clear F a; intro a F
 refine list_val F (wn rfl) rfl rfl (.pointer (some ⟨gp, 0, none⟩)) (ex_nilck _ rfl _ (F.e rfl)) ?_; clear F a; intro a F
 refine list_val F (wn rfl) rfl rfl (.pointer (some ⟨gp, 0, none⟩)) (ex_fa _ _ _ rfl _ (F.e rfl) 0 ee_fa_67_0_0 ⟨gp, 0, none⟩ rfl) ?_; clear F a; intro a F
 refine list_val F (wn rfl) rfl rfl (.slice (some ⟨ga_64, 0, none⟩) 1 ca_64) (ex_load _ _ rfl _ (F.e rfl) _ (lv1 ee_one_22 (M.cell (i := 2) rfl (j := 0) rfl))) ?_; clear F a; intro a F
 refine list_val F (wn rfl) rfl rfl (.slice (some ⟨ga_64, 0, none⟩) 1 ca_64) (ex_assign _ rfl _ (F.e rfl)) ?_; clear F a; intro a F
 refine wpList_nil ?_
 replace F : Fr 71 a [(0, .pointer (some ⟨gp, 0, none⟩)), (1, .slice (some ⟨gl, 0, none⟩) 1 1), (4, .slice (some ⟨ga_64, 0, none⟩) 1 ca_64), (5, .int .i64 1), (6, .slice A_49 bs.length c_49), (18, .bool false), (27, .bool false)] := F.keep ⟨rfl, rfl, rfl, rfl, rfl, rfl, rfl, trivial⟩
 refine then_n ?_
 refine wp_ret ?_
 exact ret_tmp F rfl rfl ⟨A_49, c_49, ga_64, ca_64, sp_64, g2, c2, s2, rfl, (by refine M.pick' [1, 2, 3, 4] _ ?_ (by decide); exact ⟨rfl, rfl, rfl, rfl, trivial⟩), ⟨hs64, hcm64⟩, ⟨hs2, hcm2⟩, N_, R_⟩
theorem ee_ent_46 : ent? Tryd.prog 46 = true := by kernel_rfl
set_option maxHeartbeats 4000000 in
set_option maxRecDepth 100000 in
theorem bytes_first {t : List Rw} {H : List Blk} {w0 w : World} {gp : Nat} {B : Option Addr} {c : Nat} {bs : List By} (hM : Mm w0 w [⟨gp, #[.slice none 0 0, .slice none 0 0], 67⟩]) (hR : Rs w0 w ([(.slice none 0 0, [])] ++ t)) (hN : Mm w0 w H) (hT : Far H) (hB : Rb w0 B bs.length bs) (hm : bs.length ≤ 140737488351232) :
    Calls Tryd.prog 37 #[.pointer (some ⟨gp, 0, none⟩), .slice B bs.length c] w fun e w' => ∃ A' k', e = .returned (.slice A' bs.length k') ∧ Pl w0 w' gp (.slice A' bs.length k') ∧ Mm w0 w' H ∧ Rs w0 w' ([(.slice A' bs.length k', bs)] ++ t) := by
 have R_ := hR
 have N_ := hN
 refine calls_start Tryd.func37 rfl rfl rfl (fun a F => ?_)
 have M : Mm w0 w [⟨gp, #[.slice none 0 0, .slice none 0 0], 67⟩] := hM
 refine wp_seq ?_
 refine wp_region_lit ?_
 refine list_val F (wn rfl) rfl rfl (.slice none 0 0) (ex_assign _ rfl _ rfl) ?_; clear F a; intro a F
 refine wpList_nil ?_
 replace F : Fr 13 a [(0, .pointer (some ⟨gp, 0, none⟩)), (1, .slice B bs.length c), (4, .slice none 0 0)] := F.keep ⟨rfl, rfl, rfl, trivial⟩
 refine then_n ?_
 refine wp_seq ?_
 refine wp_region_lit ?_
 refine list_val F (wn rfl) rfl rfl (.pointer (some ⟨gp, 0, none⟩)) (ex_move _ rfl _ (F.e rfl)) ?_; clear F a; intro a F
 refine list_val F (wn rfl) rfl rfl (.slice B bs.length c) (ex_move _ rfl _ (F.e rfl)) ?_; clear F a; intro a F
 refine list_do (wn rfl) (fun K hK => ?_)
 refine ow_bslice F M rfl rfl 22 1 _ rfl #[(0, .slice B bs.length c)] (parts1 (F.e rfl)) #[.slice B bs.length c] 23 (row22 B bs.length c _) ?_
 clear F M a; intro a g8 v F M hb hg
 refine hK _ _ ?_
 clear hK K
 replace R_ := R_.below hb
 replace N_ := N_.below hb
 clear hb hg; try clear w
 refine list_do (wn rfl) (fun K hK => ?_)
 refine ow_call rfl rfl F 46 #[.pointer (some ⟨gp, 0, none⟩), .slice (some ⟨g8, 0, none⟩) 1 1] (ex_call 46 _ _ rfl rfl ee_ent_46 _ (map2 (F.e rfl) (F.e rfl))) (rows_first (by refine M.pick' [0, 1] _ ?_ (by decide); exact ⟨rfl, rfl, trivial⟩) R_ N_ hT hB hm) (fun e u hR => ?_)
 obtain ⟨A_9, k_9, ga, ca, sa, gb, cb, sb, he, M1, hsa, hsb, N1, R1⟩ := hR
 refine ⟨.slice (some ⟨ga, 0, none⟩) 1 ca, he, ?_⟩; clear he F a; intro a F
 refine hK _ _ ?_
 clear hK K
 replace M := M1; replace N_ := N1; replace R_ := R1; clear M1 N1 R1; try clear v
 refine list_val F (wn rfl) rfl rfl (.slice (some ⟨ga, 0, none⟩) 1 ca) (ex_assign _ rfl _ (F.e rfl)) ?_; clear F a; intro a F
 refine wpList_nil ?_
 replace F : Fr 13 a [(0, .pointer (some ⟨gp, 0, none⟩)), (1, .slice B bs.length c), (4, .slice none 0 0), (5, .slice (some ⟨ga, 0, none⟩) 1 ca)] := F.keep ⟨rfl, rfl, rfl, rfl, trivial⟩
 refine then_n ?_
 refine wp_seq ?_
 refine wp_region_lit ?_
 refine list_val F (wn rfl) rfl rfl (.slice (some ⟨ga, 0, none⟩) 1 ca) (ex_move _ rfl _ (F.e rfl)) ?_; clear F a; intro a F
 refine list_val F (wn rfl) rfl rfl (.pointer (some ⟨ga, 0, none⟩)) (ex_ix _ _ _ rfl 1 ee_sl_22_1 ⟨ga, 0, none⟩ 1 ca (F.e rfl) .i64 _ rfl 0 rfl (by decide) ⟨ga, 0, none⟩ rfl) ?_; clear F a; intro a F
 refine list_val F (wn rfl) rfl rfl (.slice A_9 bs.length k_9) (ex_load _ _ rfl _ (F.e rfl) _ (lv1 ee_one_23 (M.cell (i := 2) rfl (j := 0) rfl))) ?_; clear F a; intro a F
 refine list_val F (wn rfl) rfl rfl (.slice A_9 bs.length k_9) (ex_assign _ rfl _ (F.e rfl)) ?_; clear F a; intro a F
 refine wpList_nil ?_
 replace F : Fr 13 a [(0, .pointer (some ⟨gp, 0, none⟩)), (1, .slice B bs.length c), (4, .slice A_9 bs.length k_9), (5, .slice (some ⟨ga, 0, none⟩) 1 ca)] := F.keep ⟨rfl, rfl, rfl, rfl, trivial⟩
 refine then_n ?_
 refine wp_ret ?_
 exact ret_tmp F rfl rfl ⟨A_9, k_9, rfl, .inr ⟨ga, ca, sa, gb, cb, sb, (by refine M.pick' [1, 2, 3] _ ?_ (by decide); exact ⟨rfl, rfl, rfl, trivial⟩), hsa, hsb⟩, N_, R_⟩
set_option maxHeartbeats 4000000 in
set_option maxRecDepth 100000 in
theorem bytes_again {t : List Rw} {H : List Blk} {w0 w : World} {gp g1 g2 c1 c2 n k : Nat} {s1 s2 : List Value} {A B : Option Addr} {c : Nat} {bs old : List By} (hM : Mm w0 w [⟨gp, #[.slice (some ⟨g1, 0, none⟩) 1 c1, .slice (some ⟨g2, 0, none⟩) 1 c2], 67⟩, ⟨g1, ([(.slice A n k : Value)] ++ s1).toArray, 23⟩, ⟨g2, ([(.slice A n k : Value)] ++ s2).toArray, 23⟩]) (hs1 : s1.length + 1 = c1) (hcm1 : c1 ≤ maxLen) (hs2 : s2.length + 1 = c2) (hcm2 : c2 ≤ maxLen) (hR : Rs w0 w ([(.slice A n k, old)] ++ t)) (hN : Mm w0 w H) (hT : Far H) (hB : Rb w0 B bs.length bs) (hm : bs.length ≤ 140737488351232) :
    Calls Tryd.prog 37 #[.pointer (some ⟨gp, 0, none⟩), .slice B bs.length c] w fun e w' => ∃ A' k', e = .returned (.slice A' bs.length k') ∧ Pl w0 w' gp (.slice A' bs.length k') ∧ Mm w0 w' H ∧ Rs w0 w' ([(.slice A' bs.length k', bs)] ++ t) := by
 have R_ := hR
 have N_ := hN
 refine calls_start Tryd.func37 rfl rfl rfl (fun a F => ?_)
 have M : Mm w0 w [⟨gp, #[.slice (some ⟨g1, 0, none⟩) 1 c1, .slice (some ⟨g2, 0, none⟩) 1 c2], 67⟩, ⟨g1, ([(.slice A n k : Value)] ++ s1).toArray, 23⟩, ⟨g2, ([(.slice A n k : Value)] ++ s2).toArray, 23⟩] := hM
 refine wp_seq ?_
 refine wp_region_lit ?_
 refine list_val F (wn rfl) rfl rfl (.slice none 0 0) (ex_assign _ rfl _ rfl) ?_; clear F a; intro a F
 refine wpList_nil ?_
 replace F : Fr 13 a [(0, .pointer (some ⟨gp, 0, none⟩)), (1, .slice B bs.length c), (4, .slice none 0 0)] := F.keep ⟨rfl, rfl, rfl, trivial⟩
 refine then_n ?_
 refine wp_seq ?_
 refine wp_region_lit ?_
 refine list_val F (wn rfl) rfl rfl (.pointer (some ⟨gp, 0, none⟩)) (ex_move _ rfl _ (F.e rfl)) ?_; clear F a; intro a F
 refine list_val F (wn rfl) rfl rfl (.slice B bs.length c) (ex_move _ rfl _ (F.e rfl)) ?_; clear F a; intro a F
 refine list_do (wn rfl) (fun K hK => ?_)
 refine ow_bslice F M rfl rfl 22 1 _ rfl #[(0, .slice B bs.length c)] (parts1 (F.e rfl)) #[.slice B bs.length c] 23 (row22 B bs.length c _) ?_
 clear F M a; intro a g8 v F M hb hg
 refine hK _ _ ?_
 clear hK K
 replace R_ := R_.below hb
 replace N_ := N_.below hb
 clear hb hg; try clear w
 refine list_do (wn rfl) (fun K hK => ?_)
 refine ow_call rfl rfl F 46 #[.pointer (some ⟨gp, 0, none⟩), .slice (some ⟨g8, 0, none⟩) 1 1] (ex_call 46 _ _ rfl rfl ee_ent_46 _ (map2 (F.e rfl) (F.e rfl))) (rows_again (by refine M.pick' [0, 1, 2, 3] _ ?_ (by decide); exact ⟨rfl, rfl, rfl, rfl, trivial⟩) hs1 hcm1 hs2 hcm2 R_ N_ hT hB hm) (fun e u hR => ?_)
 obtain ⟨A_9, k_9, ga, ca, sa, gb, cb, sb, he, M1, hsa, hsb, N1, R1⟩ := hR
 refine ⟨.slice (some ⟨ga, 0, none⟩) 1 ca, he, ?_⟩; clear he F a; intro a F
 refine hK _ _ ?_
 clear hK K
 replace M := M1; replace N_ := N1; replace R_ := R1; clear M1 N1 R1; try clear v
 refine list_val F (wn rfl) rfl rfl (.slice (some ⟨ga, 0, none⟩) 1 ca) (ex_assign _ rfl _ (F.e rfl)) ?_; clear F a; intro a F
 refine wpList_nil ?_
 replace F : Fr 13 a [(0, .pointer (some ⟨gp, 0, none⟩)), (1, .slice B bs.length c), (4, .slice none 0 0), (5, .slice (some ⟨ga, 0, none⟩) 1 ca)] := F.keep ⟨rfl, rfl, rfl, rfl, trivial⟩
 refine then_n ?_
 refine wp_seq ?_
 refine wp_region_lit ?_
 refine list_val F (wn rfl) rfl rfl (.slice (some ⟨ga, 0, none⟩) 1 ca) (ex_move _ rfl _ (F.e rfl)) ?_; clear F a; intro a F
 refine list_val F (wn rfl) rfl rfl (.pointer (some ⟨ga, 0, none⟩)) (ex_ix _ _ _ rfl 1 ee_sl_22_1 ⟨ga, 0, none⟩ 1 ca (F.e rfl) .i64 _ rfl 0 rfl (by decide) ⟨ga, 0, none⟩ rfl) ?_; clear F a; intro a F
 refine list_val F (wn rfl) rfl rfl (.slice A_9 bs.length k_9) (ex_load _ _ rfl _ (F.e rfl) _ (lv1 ee_one_23 (M.cell (i := 2) rfl (j := 0) rfl))) ?_; clear F a; intro a F
 refine list_val F (wn rfl) rfl rfl (.slice A_9 bs.length k_9) (ex_assign _ rfl _ (F.e rfl)) ?_; clear F a; intro a F
 refine wpList_nil ?_
 replace F : Fr 13 a [(0, .pointer (some ⟨gp, 0, none⟩)), (1, .slice B bs.length c), (4, .slice A_9 bs.length k_9), (5, .slice (some ⟨ga, 0, none⟩) 1 ca)] := F.keep ⟨rfl, rfl, rfl, rfl, trivial⟩
 refine then_n ?_
 refine wp_ret ?_
 exact ret_tmp F rfl rfl ⟨A_9, k_9, rfl, .inr ⟨ga, ca, sa, gb, cb, sb, (by refine M.pick' [1, 2, 3] _ ?_ (by decide); exact ⟨rfl, rfl, rfl, trivial⟩), hsa, hsb⟩, N_, R_⟩
/-- Bytes: whatever the place holds. -/
theorem bytes_any {t : List Rw} {H : List Blk} {w0 w : World} {gp n k : Nat} {A B : Option Addr} {c : Nat} {bs old : List By} (Z : Pl w0 w gp (.slice A n k)) (hR : Rs w0 w ([(.slice A n k, old)] ++ t)) (hN : Mm w0 w H) (hT : Far H) (hB : Rb w0 B bs.length bs) (hm : bs.length ≤ 140737488351232) :
    Calls Tryd.prog 37 #[.pointer (some ⟨gp, 0, none⟩), .slice B bs.length c] w fun e w' => ∃ A' k', e = .returned (.slice A' bs.length k') ∧ Pl w0 w' gp (.slice A' bs.length k') ∧ Mm w0 w' H ∧ Rs w0 w' ([(.slice A' bs.length k', bs)] ++ t) := by
  rcases Z with ⟨e, M⟩ | ⟨g1, c1, s1, g2, c2, s2, M, ⟨h1, h2⟩, h3, h4⟩
  · injection e with e1 e2 e3
    subst e1 e2 e3
    obtain rfl : old = [] := (hR.own 0 _ _ rfl).nilcut rfl
    exact bytes_first M hR hN hT hB hm
  · exact bytes_again M h1 h2 h3 h4 hR hN hT hB hm
end Go.Proofs.YtkppipeadibfkaaDoor
