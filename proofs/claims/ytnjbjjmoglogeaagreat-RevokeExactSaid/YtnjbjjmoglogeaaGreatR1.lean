/- The order of entries (key), what tells of an entry (Pays); the walks of bytes.Compare (33), before (25), the closures (24, 28, 30, 31, 32), place (23), grants (22). No conditions but those of each lemma. -/
import Derived.Test.YtnjbjjmoglogeaaGreatR0
namespace Go.Proofs.YtnjbjjmoglogeaaGreat
open Go.RowKit Go.Proofs.YtnjbjjmoglogeaaGreatW.PrintWords KB WG RO
set_option linter.unusedVariables false
set_option linter.unusedSimpArgs false
set_option linter.unnecessarySimpa false
def key (x : Rv) : Int := x.grant * 340282366920938463463374607431768211456 + (num x.id.1 : Int)
theorem num_id (b : Bs 16) : num b.1 < 340282366920938463463374607431768211456 := by
  have := num_lt b.1
  rw [b.2] at this
  exact this
theorem key_grant {a b : Rv} (h : a.grant ≠ b.grant) : decide (a.grant < b.grant) = decide (key a < key b) := by
  have h1 := num_id a.id
  have h2 := num_id b.id
  unfold key
  refine decide_eq_decide.2 ?_
  omega
theorem key_id {a b : Rv} (h : a.grant = b.grant) : decide (Lib.compareBytes (a.id.1.map u8) (b.id.1.map u8) < 0) = decide (key a < key b) := by
  unfold key
  refine decide_eq_decide.2 ?_
  rw [cmp_num (a.id.2.trans b.id.2.symm), h]
  omega
theorem key_inj {a b : Rv} (h : key a = key b) : a.grant = b.grant ∧ a.id = b.id := by
  have h1 := num_id a.id
  have h2 := num_id b.id
  unfold key at h
  have hg : a.grant = b.grant := by omega
  exact ⟨hg, Subtype.ext (num_inj (a.id.2.trans b.id.2.symm) (by omega))⟩
/-- What a function value tells of an entry, in each world that comes behind this one. -/
def Pays (f : Nat) (caps : Array Value) (p : Rv → Bool) (w : World) : Prop :=
  (∀ (x : Rv) (w' : World), (callFunc f (#[.agg x.arr] ++ caps)).run Tryz.prog w' = .ok (.enter f (#[.agg x.arr] ++ caps)) w') ∧
  ∀ (x : Rv) (w' : World), Below w.heap.size w w' → Calls Tryz.prog f (#[.agg x.arr] ++ caps) w' fun e w'' => e = .returned (.bool (p x)) ∧ Below w'.heap.size w' w''
theorem Pays.below {f : Nat} {caps : Array Value} {p : Rv → Bool} {w w1 : World} (h : Pays f caps p w) (hb : Below w.heap.size w w1) : Pays f caps p w1 :=
  ⟨h.1, fun k w' hb' => h.2 k w' (hb.trans (hb'.mono hb.size))⟩
theorem i_quo (a b : Nat) (h : a ≤ 4611686018427387904) : IntKind.i64.wrap ((a : Int).tdiv (b : Int)) = ((a / b : Nat) : Int) := by
  rw [show ((a : Int)).tdiv (b : Int) = ((a / b : Nat) : Int) from rfl]
  have := Nat.div_le_self a b
  generalize a / b = q at *
  exact w_i64 (by omega) (by omega)
/-- arr[:]. -/
def sa? (P : Program) (t n : Nat) : Bool := match P.underlying t with | some (.array m e) => Nat.beq m n && Nat.blt 0 n && (match P.info? e with | some i => true | none => false) | _ => false
theorem ex_all {P : Program} {op : Oper} {ρ : Operand → Value} {w : World} (T : TypeId) (x : Operand) (ho : op.op = .slice T x none none none) (n : Nat) (ht : sa? P T n = true) (p : Addr) (hx : ρ x = .pointer (some p)) : (execOp ρ op).run P w = .ok (.value (.slice (some p) n n)) w := by
  unfold sa? at ht
  cases hu : P.underlying T with
  | none => simp [hu] at ht
  | some d =>
    cases d with
    | array m e =>
      simp only [hu, Bool.and_eq_true] at ht
      obtain ⟨⟨h1, h2⟩, h3⟩ := ht
      obtain rfl := Nat.eq_of_beq_eq_true h1
      have h0 : 0 < m := by simpa [Nat.blt_eq] using h2
      cases hi : P.info? e with
      | none => simp [hi] at h3
      | some inf =>
        have hl : P.arrayLen T = m := by simp [Program.arrayLen, hu]
        have he : P.elem T = e := by simp [Program.elem, hu]
        have hr := run_sliceAt_array_all (P := P) w T p (by rw [hl, he]; exact hu)
        rw [hl, he] at hr
        have e1 : ((sizeOf e).run P w).andThen (fun s w => Result.ok (slicedAt p 0 m m s) w) = .ok (.slice (some p) m m) w := by
          have hne : ¬ m = 0 := by omega
          simp [sizeOf, typeInfo, hi, Result.andThen, slicedAt, hne, Addr.add]
        rw [e1] at hr
        unfold execOp
        simp only [ho, hx, Option.map_none, Sem.run_bind, hr, Result.andThen_ok, Sem.run_pure]
    | _ => simp [hu] at ht
theorem Rv.arr_0e {x : Rv} {b : Bool} (h : x.whole = b) : x.arr[0]? = some (.bool b) := by rw [← h]; exact Rv.arr_0 _
theorem Rv.cs_0e {x : Rv} {b : Bool} (h : x.whole = b) : x.cs[0]? = some (.bool b) := by rw [← h]; exact Rv.cs_0 _
set_option maxHeartbeats 1000000 in
set_option maxRecDepth 100000 in
theorem compare_any (x y : Bs 16) (p q : Addr) (c d : Nat) (w : World) (ha : At w p x.cs) (hb : At w q y.cs) :
    Calls Tryz.prog 75 #[.slice (some p) 16 c, .slice (some q) 16 d] w fun e w' => e = .returned (.int .i64 (Lib.compareBytes (x.1.map u8) (y.1.map u8))) ∧ Below w.heap.size w w' := by
 refine calls_start Tryz.func75 rfl rfl rfl (fun a F => ?_)
 have M : Mm w w [] := Mm.nil w
 refine wp_seq ?_
 refine wp_region_lit ?_
 refine list_val F (wn rfl) rfl rfl (.int .i64 0) (ex_assign _ rfl _ rfl) ?_; clear F a; intro a F
 refine wpList_nil ?_
 replace F : Fr 8 a [(0, .slice (some p) 16 c), (1, .slice (some q) 16 d), (4, .int .i64 0)] := F.keep ⟨rfl, rfl, rfl, trivial⟩
 refine then_n ?_
 refine wp_seq ?_
 refine wp_region_lit ?_
 refine list_val F (wn rfl) rfl rfl (.slice (some p) 16 c) (ex_move _ rfl _ (F.e rfl)) ?_; clear F a; intro a F
 refine list_val F (wn rfl) rfl rfl (.slice (some q) 16 d) (ex_move _ rfl _ (F.e rfl)) ?_; clear F a; intro a F
 refine list_do (wn rfl) (fun K hK => ?_)
 refine ow_val F rfl rfl (.int .i64 (Lib.compareBytes (x.1.map u8) (y.1.map u8))) (ex_callx 105 _ _ rfl rfl _ (map2 (F.e rfl) (F.e rfl)) _ (run_cmp x y (ha.below M.bel) (hb.below M.bel) _ _)) ?_; clear F a; intro a F
 refine hK _ _ ?_
 clear hK K
 refine list_val F (wn rfl) rfl rfl (.int .i64 (Lib.compareBytes (x.1.map u8) (y.1.map u8))) (ex_assign _ rfl _ (F.e rfl)) ?_; clear F a; intro a F
 refine wpList_nil ?_
 replace F : Fr 8 a [(0, .slice (some p) 16 c), (1, .slice (some q) 16 d), (4, .int .i64 (Lib.compareBytes (x.1.map u8) (y.1.map u8)))] := F.keep ⟨rfl, rfl, rfl, trivial⟩
 refine then_n ?_
 refine wp_ret ?_
 exact ret_tmp F rfl rfl ⟨rfl, M.bel⟩
theorem r1_fa_85_1_1 : fa? Tryz.prog 85 1 1 = true := by kernel_rfl
theorem r1_one_67 : one? Tryz.prog 67 = true := by kernel_rfl
theorem r1_follows_mixedOrders : Tryz.prog.follows .mixedOrders = true := by kernel_rfl
theorem r1_fa_85_2_2 : fa? Tryz.prog 85 2 2 = true := by kernel_rfl
theorem r1_sa_69_16 : sa? Tryz.prog 69 16 = true := by kernel_rfl
theorem r1_ent_75 : ent? Tryz.prog 75 = true := by kernel_rfl
set_option maxHeartbeats 1000000 in
set_option maxRecDepth 100000 in
theorem before_any (x y : Rv) (w : World) : Calls Tryz.prog 31 #[.agg x.arr, .agg y.arr] w fun e w' => e = .returned (.bool (decide (key x < key y))) ∧ Below w.heap.size w w' := by
 refine calls_start Tryz.func31 rfl rfl rfl (fun a F => ?_)
 have M : Mm w w [] := Mm.nil w
 refine wp_seq ?_
 refine wp_region_lit ?_
 refine list_do (wn rfl) (fun K hK => ?_)
 refine ow_box F M rfl rfl 85 _ rfl _ (F.e rfl) x.arr rfl ?_
 clear F M a; intro a g2 v F M hb hg
 refine hK _ _ ?_
 clear hK K
 clear hb hg; try clear w
 refine list_do (wn rfl) (fun K hK => ?_)
 refine ow_box F M rfl rfl 85 _ rfl _ (F.e rfl) y.arr rfl ?_
 clear F M a; intro a g3 u F M hb hg
 refine hK _ _ ?_
 clear hK K
 clear hb hg; try clear v
 refine list_val F (wn rfl) rfl rfl (.bool false) (ex_assign _ rfl _ rfl) ?_; clear F a; intro a F
 refine wpList_nil ?_
 replace F : Fr 21 a [(0, .agg x.arr), (1, .agg y.arr), (2, .pointer (some ⟨g2, 0, none⟩)), (3, .pointer (some ⟨g3, 0, none⟩)), (4, .bool false)] := F.keep ⟨rfl, rfl, rfl, rfl, rfl, trivial⟩
 refine then_n ?_
 refine wp_seq ?_
 refine wp_seq ?_
 by_cases hgr : x.grant = y.grant
 ·
  refine wp_region_lit ?_
  refine list_val F (wn rfl) rfl rfl (.pointer (some ⟨g2, 1, none⟩)) (ex_fa _ _ _ rfl _ (F.e rfl) 1 r1_fa_85_1_1 ⟨g2, 1, none⟩ rfl) ?_; clear F a; intro a F
  refine list_val F (wn rfl) rfl rfl (.int .u64 x.grant) (ex_load _ _ rfl _ (F.e rfl) _ (lv1 r1_one_67 (M.cell (i := 1) rfl (j := 1) (Rv.arr_1 _)))) ?_; clear F a; intro a F
  refine list_val F (wn rfl) rfl rfl (.pointer (some ⟨g3, 1, none⟩)) (ex_fa _ _ _ rfl _ (F.e rfl) 1 r1_fa_85_1_1 ⟨g3, 1, none⟩ rfl) ?_; clear F a; intro a F
  refine list_val F (wn rfl) rfl rfl (.int .u64 y.grant) (ex_load _ _ rfl _ (F.e rfl) _ (lv1 r1_one_67 (M.cell (i := 0) rfl (j := 1) (Rv.arr_1 _)))) ?_; clear F a; intro a F
  refine list_val F (wn rfl) rfl rfl (.bool false) (ex_bin .neq _ _ _ _ rfl .u64 _ _ (F.e rfl) (F.e rfl) _ (b_neq (by simp [hgr]))) ?_; clear F a; intro a F
  refine wpList_nil ?_
  replace F : Fr 21 a [(0, .agg x.arr), (1, .agg y.arr), (2, .pointer (some ⟨g2, 0, none⟩)), (3, .pointer (some ⟨g3, 0, none⟩)), (4, .bool false), (9, .bool false)] := F.keep ⟨rfl, rfl, rfl, rfl, rfl, rfl, trivial⟩
  refine then_n ?_
  refine wp_cond_false (F.e rfl) ?_
  refine wp_skip ?_
  refine then_n ?_
  refine wp_seq ?_
  refine region_tail 4 r1_follows_mixedOrders (by kernel_rfl) M ?_; clear M; intro v M hb
  clear hb; try clear u
  refine still_val F (wn rfl) rfl rfl (.pointer (some ⟨g2, 2, none⟩)) (ex_fa _ _ _ rfl _ (F.e rfl) 2 r1_fa_85_2_2 ⟨g2, 2, none⟩ rfl) ?_; clear F a; intro a F
  refine still_val F (wn rfl) rfl rfl (.slice (some ⟨g2, 2, none⟩) 16 16) (ex_all 69 _ rfl 16 r1_sa_69_16 ⟨g2, 2, none⟩ (F.e rfl)) ?_; clear F a; intro a F
  refine still_val F (wn rfl) rfl rfl (.pointer (some ⟨g3, 2, none⟩)) (ex_fa _ _ _ rfl _ (F.e rfl) 2 r1_fa_85_2_2 ⟨g3, 2, none⟩ rfl) ?_; clear F a; intro a F
  refine still_val F (wn rfl) rfl rfl (.slice (some ⟨g3, 2, none⟩) 16 16) (ex_all 69 _ rfl 16 r1_sa_69_16 ⟨g3, 2, none⟩ (F.e rfl)) ?_; clear F a; intro a F
  refine still_end ?_
  refine list_do (wn rfl) (fun K hK => ?_)
  refine ow_call rfl rfl F 75 #[.slice (some ⟨g2, 2, none⟩) 16 16, .slice (some ⟨g3, 2, none⟩) 16 16] (ex_call 75 _ _ rfl rfl r1_ent_75 _ (map2 (F.e rfl) (F.e rfl))) (compare_any x.id y.id _ _ _ _ _ (Rv.id_at (M.at (i := 1) rfl)) (Rv.id_at (M.at (i := 0) rfl))) (fun e u hR => ?_)
  obtain ⟨he, hb⟩ := hR
  refine ⟨.int .i64 (Lib.compareBytes (x.id.1.map u8) (y.id.1.map u8)), he, ?_⟩; clear he F a; intro a F
  refine hK _ _ ?_
  clear hK K
  replace M := M.below hb; clear hb; try clear v
  refine list_val F (wn rfl) rfl rfl (.bool (decide (key x < key y))) (ex_bin .lss _ _ _ _ rfl .i64 _ _ (F.e rfl) rfl _ (b_lss (key_id hgr))) ?_; clear F a; intro a F
  refine list_val F (wn rfl) rfl rfl (.bool (decide (key x < key y))) (ex_assign _ rfl _ (F.e rfl)) ?_; clear F a; intro a F
  refine wpList_nil ?_
  replace F : Fr 21 a [(0, .agg x.arr), (1, .agg y.arr), (2, .pointer (some ⟨g2, 0, none⟩)), (3, .pointer (some ⟨g3, 0, none⟩)), (4, .bool (decide (key x < key y))), (9, .bool false)] := F.keep ⟨rfl, rfl, rfl, rfl, rfl, rfl, trivial⟩
  refine then_n ?_
  refine wp_ret ?_
  exact ret_tmp F rfl rfl ⟨rfl, M.bel⟩
 refine wp_region_lit ?_
 refine list_val F (wn rfl) rfl rfl (.pointer (some ⟨g2, 1, none⟩)) (ex_fa _ _ _ rfl _ (F.e rfl) 1 r1_fa_85_1_1 ⟨g2, 1, none⟩ rfl) ?_; clear F a; intro a F
 refine list_val F (wn rfl) rfl rfl (.int .u64 x.grant) (ex_load _ _ rfl _ (F.e rfl) _ (lv1 r1_one_67 (M.cell (i := 1) rfl (j := 1) (Rv.arr_1 _)))) ?_; clear F a; intro a F
 refine list_val F (wn rfl) rfl rfl (.pointer (some ⟨g3, 1, none⟩)) (ex_fa _ _ _ rfl _ (F.e rfl) 1 r1_fa_85_1_1 ⟨g3, 1, none⟩ rfl) ?_; clear F a; intro a F
 refine list_val F (wn rfl) rfl rfl (.int .u64 y.grant) (ex_load _ _ rfl _ (F.e rfl) _ (lv1 r1_one_67 (M.cell (i := 0) rfl (j := 1) (Rv.arr_1 _)))) ?_; clear F a; intro a F
 refine list_val F (wn rfl) rfl rfl (.bool true) (ex_bin .neq _ _ _ _ rfl .u64 _ _ (F.e rfl) (F.e rfl) _ (b_neq (by simp [hgr]))) ?_; clear F a; intro a F
 refine wpList_nil ?_
 replace F : Fr 21 a [(0, .agg x.arr), (1, .agg y.arr), (2, .pointer (some ⟨g2, 0, none⟩)), (3, .pointer (some ⟨g3, 0, none⟩)), (4, .bool false), (9, .bool true)] := F.keep ⟨rfl, rfl, rfl, rfl, rfl, rfl, trivial⟩
 refine then_n ?_
 refine wp_cond_true (F.e rfl) ?_
 refine wp_seq ?_
 refine wp_region_lit ?_
 refine list_val F (wn rfl) rfl rfl (.pointer (some ⟨g2, 1, none⟩)) (ex_fa _ _ _ rfl _ (F.e rfl) 1 r1_fa_85_1_1 ⟨g2, 1, none⟩ rfl) ?_; clear F a; intro a F
 refine list_val F (wn rfl) rfl rfl (.int .u64 x.grant) (ex_load _ _ rfl _ (F.e rfl) _ (lv1 r1_one_67 (M.cell (i := 1) rfl (j := 1) (Rv.arr_1 _)))) ?_; clear F a; intro a F
 refine list_val F (wn rfl) rfl rfl (.pointer (some ⟨g3, 1, none⟩)) (ex_fa _ _ _ rfl _ (F.e rfl) 1 r1_fa_85_1_1 ⟨g3, 1, none⟩ rfl) ?_; clear F a; intro a F
 refine list_val F (wn rfl) rfl rfl (.int .u64 y.grant) (ex_load _ _ rfl _ (F.e rfl) _ (lv1 r1_one_67 (M.cell (i := 0) rfl (j := 1) (Rv.arr_1 _)))) ?_; clear F a; intro a F
 refine list_val F (wn rfl) rfl rfl (.bool (decide (key x < key y))) (ex_bin .lss _ _ _ _ rfl .u64 _ _ (F.e rfl) (F.e rfl) _ (b_lss (key_grant hgr))) ?_; clear F a; intro a F
 refine list_val F (wn rfl) rfl rfl (.bool (decide (key x < key y))) (ex_assign _ rfl _ (F.e rfl)) ?_; clear F a; intro a F
 refine wpList_nil ?_
 replace F : Fr 21 a [(0, .agg x.arr), (1, .agg y.arr), (2, .pointer (some ⟨g2, 0, none⟩)), (3, .pointer (some ⟨g3, 0, none⟩)), (4, .bool (decide (key x < key y))), (9, .bool true)] := F.keep ⟨rfl, rfl, rfl, rfl, rfl, rfl, trivial⟩
 refine then_n ?_
 refine wp_ret ?_
 refine then_r ?_
 exact ret_tmp F rfl rfl ⟨rfl, M.bel⟩
set_option maxHeartbeats 1000000 in
set_option maxRecDepth 100000 in
theorem clo_lt (x : Rv) (a1 : Addr) (g : Int) (w : World) (hc : At w a1 [.int .u64 g]) : Calls Tryz.prog 77 #[.agg x.arr, .pointer (some a1)] w fun e w' => e = .returned (.bool (decide (x.grant < g))) ∧ Below w.heap.size w w' := by
 refine calls_start Tryz.func77 rfl rfl rfl (fun a F => ?_)
 have M : Mm w w [] := Mm.nil w
 refine wp_seq ?_
 refine wp_region_lit ?_
 refine list_do (wn rfl) (fun K hK => ?_)
 refine ow_box F M rfl rfl 85 _ rfl _ (F.e rfl) x.arr rfl ?_
 clear F M a; intro a g2 v F M hb hg
 refine hK _ _ ?_
 clear hK K
 clear hb hg; try clear w
 refine list_val F (wn rfl) rfl rfl (.bool false) (ex_assign _ rfl _ rfl) ?_; clear F a; intro a F
 refine wpList_nil ?_
 replace F : Fr 8 a [(0, .agg x.arr), (1, .pointer (some a1)), (2, .pointer (some ⟨g2, 0, none⟩)), (3, .bool false)] := F.keep ⟨rfl, rfl, rfl, rfl, trivial⟩
 refine then_n ?_
 refine wp_seq ?_
 refine wp_region_lit ?_
 refine list_val F (wn rfl) rfl rfl (.pointer (some ⟨g2, 1, none⟩)) (ex_fa _ _ _ rfl _ (F.e rfl) 1 r1_fa_85_1_1 ⟨g2, 1, none⟩ rfl) ?_; clear F a; intro a F
 refine list_val F (wn rfl) rfl rfl (.int .u64 x.grant) (ex_load _ _ rfl _ (F.e rfl) _ (lv1 r1_one_67 (M.cell (i := 0) rfl (j := 1) (Rv.arr_1 _)))) ?_; clear F a; intro a F
 refine list_val F (wn rfl) rfl rfl (.int .u64 g) (ex_load _ _ rfl _ (F.e rfl) _ (lv1 r1_one_67 ((hc.below M.bel).cell 0 _ rfl))) ?_; clear F a; intro a F
 refine list_val F (wn rfl) rfl rfl (.bool (decide (x.grant < g))) (ex_bin .lss _ _ _ _ rfl .u64 _ _ (F.e rfl) (F.e rfl) _ (b_lss rfl)) ?_; clear F a; intro a F
 refine list_val F (wn rfl) rfl rfl (.bool (decide (x.grant < g))) (ex_assign _ rfl _ (F.e rfl)) ?_; clear F a; intro a F
 refine wpList_nil ?_
 replace F : Fr 8 a [(0, .agg x.arr), (1, .pointer (some a1)), (2, .pointer (some ⟨g2, 0, none⟩)), (3, .bool (decide (x.grant < g)))] := F.keep ⟨rfl, rfl, rfl, rfl, trivial⟩
 refine then_n ?_
 refine wp_ret ?_
 exact ret_tmp F rfl rfl ⟨rfl, M.bel⟩
theorem pays_clo_lt {a1 : Addr} {g : Int} {w : World} (hc : At w a1 [.int .u64 g]) : Pays 77 #[.pointer (some a1)] (fun x => decide (x.grant < g)) w :=
  ⟨fun _ _ => enters (by kernel_rfl) _ _, fun x w' hb => clo_lt x a1 g w' (hc.below hb)⟩
set_option maxHeartbeats 1000000 in
set_option maxRecDepth 100000 in
theorem clo_eq (x : Rv) (a1 : Addr) (g : Int) (w : World) (hc : At w a1 [.int .u64 g]) : Calls Tryz.prog 78 #[.agg x.arr, .pointer (some a1)] w fun e w' => e = .returned (.bool (x.grant == g)) ∧ Below w.heap.size w w' := by
 refine calls_start Tryz.func78 rfl rfl rfl (fun a F => ?_)
 have M : Mm w w [] := Mm.nil w
 refine wp_seq ?_
 refine wp_region_lit ?_
 refine list_do (wn rfl) (fun K hK => ?_)
 refine ow_box F M rfl rfl 85 _ rfl _ (F.e rfl) x.arr rfl ?_
 clear F M a; intro a g2 v F M hb hg
 refine hK _ _ ?_
 clear hK K
 clear hb hg; try clear w
 refine list_val F (wn rfl) rfl rfl (.bool false) (ex_assign _ rfl _ rfl) ?_; clear F a; intro a F
 refine wpList_nil ?_
 replace F : Fr 8 a [(0, .agg x.arr), (1, .pointer (some a1)), (2, .pointer (some ⟨g2, 0, none⟩)), (3, .bool false)] := F.keep ⟨rfl, rfl, rfl, rfl, trivial⟩
 refine then_n ?_
 refine wp_seq ?_
 refine wp_region_lit ?_
 refine list_val F (wn rfl) rfl rfl (.pointer (some ⟨g2, 1, none⟩)) (ex_fa _ _ _ rfl _ (F.e rfl) 1 r1_fa_85_1_1 ⟨g2, 1, none⟩ rfl) ?_; clear F a; intro a F
 refine list_val F (wn rfl) rfl rfl (.int .u64 x.grant) (ex_load _ _ rfl _ (F.e rfl) _ (lv1 r1_one_67 (M.cell (i := 0) rfl (j := 1) (Rv.arr_1 _)))) ?_; clear F a; intro a F
 refine list_val F (wn rfl) rfl rfl (.int .u64 g) (ex_load _ _ rfl _ (F.e rfl) _ (lv1 r1_one_67 ((hc.below M.bel).cell 0 _ rfl))) ?_; clear F a; intro a F
 refine list_val F (wn rfl) rfl rfl (.bool (x.grant == g)) (ex_bin .eql _ _ _ _ rfl .u64 _ _ (F.e rfl) (F.e rfl) _ (b_eql rfl)) ?_; clear F a; intro a F
 refine list_val F (wn rfl) rfl rfl (.bool (x.grant == g)) (ex_assign _ rfl _ (F.e rfl)) ?_; clear F a; intro a F
 refine wpList_nil ?_
 replace F : Fr 8 a [(0, .agg x.arr), (1, .pointer (some a1)), (2, .pointer (some ⟨g2, 0, none⟩)), (3, .bool (x.grant == g))] := F.keep ⟨rfl, rfl, rfl, rfl, trivial⟩
 refine then_n ?_
 refine wp_ret ?_
 exact ret_tmp F rfl rfl ⟨rfl, M.bel⟩
theorem pays_clo_eq {a1 : Addr} {g : Int} {w : World} (hc : At w a1 [.int .u64 g]) : Pays 78 #[.pointer (some a1)] (fun x => x.grant == g) w :=
  ⟨fun _ _ => enters (by kernel_rfl) _ _, fun x w' hb => clo_eq x a1 g w' (hc.below hb)⟩
theorem r1_fa_85_3_18 : fa? Tryz.prog 85 3 18 = true := by kernel_rfl
theorem r1_one_2 : one? Tryz.prog 2 = true := by kernel_rfl
set_option maxHeartbeats 1000000 in
set_option maxRecDepth 100000 in
theorem clo_old (x : Rv) (a1 : Addr) (e : Int) (w : World) (hc : At w a1 [.int .i64 e]) : Calls Tryz.prog 43 #[.agg x.arr, .pointer (some a1)] w fun r w' => r = .returned (.bool (decide (x.exp ≤ e))) ∧ Below w.heap.size w w' := by
 refine calls_start Tryz.func43 rfl rfl rfl (fun a F => ?_)
 have M : Mm w w [] := Mm.nil w
 refine wp_seq ?_
 refine wp_region_lit ?_
 refine list_do (wn rfl) (fun K hK => ?_)
 refine ow_box F M rfl rfl 85 _ rfl _ (F.e rfl) x.arr rfl ?_
 clear F M a; intro a g2 v F M hb hg
 refine hK _ _ ?_
 clear hK K
 clear hb hg; try clear w
 refine list_val F (wn rfl) rfl rfl (.bool false) (ex_assign _ rfl _ rfl) ?_; clear F a; intro a F
 refine wpList_nil ?_
 replace F : Fr 8 a [(0, .agg x.arr), (1, .pointer (some a1)), (2, .pointer (some ⟨g2, 0, none⟩)), (3, .bool false)] := F.keep ⟨rfl, rfl, rfl, rfl, trivial⟩
 refine then_n ?_
 refine wp_seq ?_
 refine wp_region_lit ?_
 refine list_val F (wn rfl) rfl rfl (.pointer (some ⟨g2, 18, none⟩)) (ex_fa _ _ _ rfl _ (F.e rfl) 18 r1_fa_85_3_18 ⟨g2, 18, none⟩ rfl) ?_; clear F a; intro a F
 refine list_val F (wn rfl) rfl rfl (.int .i64 x.exp) (ex_load _ _ rfl _ (F.e rfl) _ (lv1 r1_one_2 (M.cell (i := 0) rfl (j := 18) (Rv.arr_18 _)))) ?_; clear F a; intro a F
 refine list_val F (wn rfl) rfl rfl (.int .i64 e) (ex_load _ _ rfl _ (F.e rfl) _ (lv1 r1_one_2 ((hc.below M.bel).cell 0 _ rfl))) ?_; clear F a; intro a F
 refine list_val F (wn rfl) rfl rfl (.bool (decide (x.exp ≤ e))) (ex_bin .leq _ _ _ _ rfl .i64 _ _ (F.e rfl) (F.e rfl) _ (b_leq rfl)) ?_; clear F a; intro a F
 refine list_val F (wn rfl) rfl rfl (.bool (decide (x.exp ≤ e))) (ex_assign _ rfl _ (F.e rfl)) ?_; clear F a; intro a F
 refine wpList_nil ?_
 replace F : Fr 8 a [(0, .agg x.arr), (1, .pointer (some a1)), (2, .pointer (some ⟨g2, 0, none⟩)), (3, .bool (decide (x.exp ≤ e)))] := F.keep ⟨rfl, rfl, rfl, rfl, trivial⟩
 refine then_n ?_
 refine wp_ret ?_
 exact ret_tmp F rfl rfl ⟨rfl, M.bel⟩
theorem r1_fa_85_0_0 : fa? Tryz.prog 85 0 0 = true := by kernel_rfl
theorem r1_one_4 : one? Tryz.prog 4 = true := by kernel_rfl
set_option maxHeartbeats 1000000 in
set_option maxRecDepth 100000 in
theorem clo_has (x : Rv) (a1 : Addr) (i : Bs 16) (w : World) (hc : At w a1 i.cs) : Calls Tryz.prog 35 #[.agg x.arr, .pointer (some a1)] w fun e w' => e = .returned (.bool (x.whole || decide (x.id = i))) ∧ Below w.heap.size w w' := by
 refine calls_start Tryz.func35 rfl rfl rfl (fun a F => ?_)
 have M : Mm w w [] := Mm.nil w
 refine wp_seq ?_
 refine wp_region_lit ?_
 refine list_do (wn rfl) (fun K hK => ?_)
 refine ow_box F M rfl rfl 85 _ rfl _ (F.e rfl) x.arr rfl ?_
 clear F M a; intro a g2 v F M hb hg
 refine hK _ _ ?_
 clear hK K
 clear hb hg; try clear w
 refine list_val F (wn rfl) rfl rfl (.bool false) (ex_assign _ rfl _ rfl) ?_; clear F a; intro a F
 refine wpList_nil ?_
 replace F : Fr 12 a [(0, .agg x.arr), (1, .pointer (some a1)), (2, .pointer (some ⟨g2, 0, none⟩)), (3, .bool false)] := F.keep ⟨rfl, rfl, rfl, rfl, trivial⟩
 refine then_n ?_
 refine wp_seq ?_
 by_cases hw : x.whole = true
 ·
  refine wp_region_lit ?_
  refine list_val F (wn rfl) rfl rfl (.pointer (some ⟨g2, 0, none⟩)) (ex_fa _ _ _ rfl _ (F.e rfl) 0 r1_fa_85_0_0 ⟨g2, 0, none⟩ rfl) ?_; clear F a; intro a F
  refine list_val F (wn rfl) rfl rfl (.bool true) (ex_load _ _ rfl _ (F.e rfl) _ (lv1 r1_one_4 (M.cell (i := 0) rfl (j := 0) (Rv.arr_0e hw)))) ?_; clear F a; intro a F
  refine list_val F (wn rfl) rfl rfl (.bool true) (ex_move _ rfl _ (F.e rfl)) ?_; clear F a; intro a F
  refine list_skip F (F.wants 6 true rfl (by kernel_rfl) rfl false rfl) rfl rfl ?_; clear F a; intro a F
  refine list_skip F (F.wants 6 true rfl (by kernel_rfl) rfl false rfl) rfl rfl ?_; clear F a; intro a F
  refine list_skip F (F.wants 6 true rfl (by kernel_rfl) rfl false rfl) rfl rfl ?_; clear F a; intro a F
  refine list_skip F (F.wants 6 true rfl (by kernel_rfl) rfl false rfl) rfl rfl ?_; clear F a; intro a F
  refine list_val F (wn rfl) rfl rfl (.bool true) (ex_pick_t _ _ _ rfl (F.e rfl) _ rfl) ?_; clear F a; intro a F
  refine list_val F (wn rfl) rfl rfl (.bool true) (ex_assign _ rfl _ (F.e rfl)) ?_; clear F a; intro a F
  refine wpList_nil ?_
  replace F : Fr 12 a [(0, .agg x.arr), (1, .pointer (some a1)), (2, .pointer (some ⟨g2, 0, none⟩)), (3, .bool true)] := F.keep ⟨rfl, rfl, rfl, rfl, trivial⟩
  refine then_n ?_
  refine wp_ret ?_
  exact ret_tmp F rfl rfl ⟨by rw [hw]; rfl, M.bel⟩
 refine wp_region_lit ?_
 refine list_val F (wn rfl) rfl rfl (.pointer (some ⟨g2, 0, none⟩)) (ex_fa _ _ _ rfl _ (F.e rfl) 0 r1_fa_85_0_0 ⟨g2, 0, none⟩ rfl) ?_; clear F a; intro a F
 refine list_val F (wn rfl) rfl rfl (.bool false) (ex_load _ _ rfl _ (F.e rfl) _ (lv1 r1_one_4 (M.cell (i := 0) rfl (j := 0) (Rv.arr_0e (Bool.eq_false_iff.2 hw))))) ?_; clear F a; intro a F
 refine list_val F (wn rfl) rfl rfl (.bool false) (ex_move _ rfl _ (F.e rfl)) ?_; clear F a; intro a F
 refine list_val F (F.wants 6 false rfl (by kernel_rfl) rfl true rfl) rfl rfl (.pointer (some ⟨g2, 2, none⟩)) (ex_fa _ _ _ rfl _ (F.e rfl) 2 r1_fa_85_2_2 ⟨g2, 2, none⟩ rfl) ?_; clear F a; intro a F
 refine list_val F (F.wants 6 false rfl (by kernel_rfl) rfl true rfl) rfl rfl (.agg x.id.cs.toArray) (ex_load _ _ rfl _ (F.e rfl) _ (lrow69 x.id (Rv.id_at (M.at (i := 0) rfl)))) ?_; clear F a; intro a F
 refine list_val F (F.wants 6 false rfl (by kernel_rfl) rfl true rfl) rfl rfl (.agg i.cs.toArray) (ex_load _ _ rfl _ (F.e rfl) _ (lrow69 i ((hc.below M.bel)))) ?_; clear F a; intro a F
 refine list_val F (F.wants 6 false rfl (by kernel_rfl) rfl true rfl) rfl rfl (.bool (decide (x.id = i))) (ex_eq69 _ _ _ rfl x.id i (F.e rfl) (F.e rfl) (decide (x.id = i)) rfl) ?_; clear F a; intro a F
 refine list_val F (wn rfl) rfl rfl (.bool (decide (x.id = i))) (ex_pick_f _ _ _ rfl (F.e rfl) _ (F.e rfl)) ?_; clear F a; intro a F
 refine list_val F (wn rfl) rfl rfl (.bool (decide (x.id = i))) (ex_assign _ rfl _ (F.e rfl)) ?_; clear F a; intro a F
 refine wpList_nil ?_
 replace F : Fr 12 a [(0, .agg x.arr), (1, .pointer (some a1)), (2, .pointer (some ⟨g2, 0, none⟩)), (3, .bool (decide (x.id = i)))] := F.keep ⟨rfl, rfl, rfl, rfl, trivial⟩
 refine then_n ?_
 refine wp_ret ?_
 exact ret_tmp F rfl rfl ⟨by rw [Bool.eq_false_iff.2 hw]; rfl, M.bel⟩
theorem pays_clo_has {a1 : Addr} {i : Bs 16} {w : World} (hc : At w a1 i.cs) : Pays 35 #[.pointer (some a1)] (fun x => x.whole || decide (x.id = i)) w :=
  ⟨fun _ _ => enters (by kernel_rfl) _ _, fun x w' hb => clo_has x a1 i w' (hc.below hb)⟩
theorem r1_ent_31 : ent? Tryz.prog 31 = true := by kernel_rfl
set_option maxHeartbeats 1000000 in
set_option maxRecDepth 100000 in
theorem clo_bef (x : Rv) (a1 : Addr) (y : Rv) (w : World) (hc : At w a1 y.cs) : Calls Tryz.prog 40 #[.agg x.arr, .pointer (some a1)] w fun e w' => e = .returned (.bool (decide (key x < key y))) ∧ Below w.heap.size w w' := by
 refine calls_start Tryz.func40 rfl rfl rfl (fun a F => ?_)
 have M : Mm w w [] := Mm.nil w
 refine wp_seq ?_
 refine wp_region_lit ?_
 refine list_do (wn rfl) (fun K hK => ?_)
 refine ow_box F M rfl rfl 85 _ rfl _ (F.e rfl) x.arr rfl ?_
 clear F M a; intro a g2 v F M hb hg
 refine hK _ _ ?_
 clear hK K
 clear hb hg; try clear w
 refine list_val F (wn rfl) rfl rfl (.bool false) (ex_assign _ rfl _ rfl) ?_; clear F a; intro a F
 refine wpList_nil ?_
 replace F : Fr 7 a [(0, .agg x.arr), (1, .pointer (some a1)), (2, .pointer (some ⟨g2, 0, none⟩)), (3, .bool false)] := F.keep ⟨rfl, rfl, rfl, rfl, trivial⟩
 refine then_n ?_
 refine wp_seq ?_
 refine wp_region_lit ?_
 refine list_val F (wn rfl) rfl rfl (.agg x.arr) (ex_load _ _ rfl _ (F.e rfl) _ (lrow85 x (M.at (i := 0) rfl))) ?_; clear F a; intro a F
 refine list_val F (wn rfl) rfl rfl (.agg y.arr) (ex_load _ _ rfl _ (F.e rfl) _ (lrow85 y ((hc.below M.bel)))) ?_; clear F a; intro a F
 refine list_do (wn rfl) (fun K hK => ?_)
 refine ow_call rfl rfl F 31 #[.agg x.arr, .agg y.arr] (ex_call 31 _ _ rfl rfl r1_ent_31 _ (map2 (F.e rfl) (F.e rfl))) (before_any x y _) (fun e u hR => ?_)
 obtain ⟨he, hb⟩ := hR
 refine ⟨.bool (decide (key x < key y)), he, ?_⟩; clear he F a; intro a F
 refine hK _ _ ?_
 clear hK K
 replace M := M.below hb; clear hb; try clear v
 refine list_val F (wn rfl) rfl rfl (.bool (decide (key x < key y))) (ex_assign _ rfl _ (F.e rfl)) ?_; clear F a; intro a F
 refine wpList_nil ?_
 replace F : Fr 7 a [(0, .agg x.arr), (1, .pointer (some a1)), (2, .pointer (some ⟨g2, 0, none⟩)), (3, .bool (decide (key x < key y)))] := F.keep ⟨rfl, rfl, rfl, rfl, trivial⟩
 refine then_n ?_
 refine wp_ret ?_
 exact ret_tmp F rfl rfl ⟨rfl, M.bel⟩
theorem pays_clo_bef {a1 : Addr} {y : Rv} {w : World} (hc : At w a1 y.cs) : Pays 40 #[.pointer (some a1)] (fun x => decide (key x < key y)) w :=
  ⟨fun _ _ => enters (by kernel_rfl) _ _, fun x w' hb => clo_bef x a1 y w' (hc.below hb)⟩
theorem r1_sl_57_19 : sl? Tryz.prog 57 19 = true := by kernel_rfl
set_option maxHeartbeats 1000000 in
set_option maxRecDepth 100000 in
theorem place_any (p : Rv → Bool) (f : Nat) (caps : Array Value) (xs : List Rv) (A : Option Addr) (n c k : Nat) (w : World) (hr : kRv.C w A n xs) (hP : Pays f caps p w) (hk : ∀ i x, xs[i]? = some x → p x = decide (i < k)) (hkn : k ≤ n) (hmax : n ≤ 4611686018427387904) :
    Calls Tryz.prog 39 #[.slice A n c, .func (.func f) #[] caps] w fun e w' => e = .returned (.int .i64 ((k : Nat) : Int)) ∧ Below w.heap.size w w' := by
 refine calls_start Tryz.func39 rfl rfl rfl (fun a F => ?_)
 have M : Mm w w [] := Mm.nil w
 refine wp_seq ?_
 refine wp_region_lit ?_
 refine list_val F (wn rfl) rfl rfl (.int .i64 0) (ex_assign _ rfl _ rfl) ?_; clear F a; intro a F
 refine wpList_nil ?_
 replace F : Fr 29 a [(0, .slice A n c), (1, .func (.func f) #[] caps), (4, .int .i64 0)] := F.keep ⟨rfl, rfl, rfl, trivial⟩
 refine then_n ?_
 refine wp_seq ?_
 refine wp_region_lit ?_
 refine list_val F (wn rfl) rfl rfl (.slice A n c) (ex_move _ rfl _ (F.e rfl)) ?_; clear F a; intro a F
 refine list_val F (wn rfl) rfl rfl (.int .i64 ((n : Nat) : Int)) (ex_len _ _ rfl 19 r1_sl_57_19 _ _ _ (F.e rfl)) ?_; clear F a; intro a F
 refine list_val F (wn rfl) rfl rfl (.int .i64 0) (ex_assign _ rfl _ rfl) ?_; clear F a; intro a F
 refine list_val F (wn rfl) rfl rfl (.int .i64 ((n : Nat) : Int)) (ex_assign _ rfl _ (F.e rfl)) ?_; clear F a; intro a F
 refine wpList_nil ?_
 replace F : Fr 29 a [(0, .slice A n c), (1, .func (.func f) #[] caps), (4, .int .i64 0), (5, .int .i64 0), (6, .int .i64 ((n : Nat) : Int))] := F.keep ⟨rfl, rfl, rfl, rfl, rfl, trivial⟩
 refine then_n ?_
 refine wp_seq ?_
 refine wp_block ?_
 refine wp_loopN (fun mq ar wr => ∃ (lo : Nat), ∃ (hi : Nat), ∃ (r : Nat), Fr 29 ar [(0, .slice A n c), (1, .func (.func f) #[] caps), (4, .int .i64 0), (5, .int .i64 ((lo : Nat) : Int)), (6, .int .i64 ((hi : Nat) : Int))] ∧ Mm w wr [] ∧ lo ≤ k ∧ k ≤ hi ∧ hi ≤ n ∧ hi - lo + r ≤ n ∧ mq + r = n) n ?_ ?_
 ·
  exact ⟨0, n, 0, F.keep ⟨rfl, rfl, rfl, rfl, rfl, trivial⟩, M, (Nat.zero_le _), hkn, (Nat.le_refl _), (by omega), (by omega)⟩
 clear F M a
 rintro mq a v ⟨lo, hi, r, F, M, h1, h2, h3, h4, hq⟩; try clear w
 by_cases hlh : lo < hi
 ·
  refine wp_seq ?_
  refine wp_seq ?_
  refine wp_region_lit ?_
  refine list_val F (wn rfl) rfl rfl (.int .i64 ((lo : Nat) : Int)) (ex_move _ rfl _ (F.e rfl)) ?_; clear F a; intro a F
  refine list_val F (wn rfl) rfl rfl (.int .i64 ((hi : Nat) : Int)) (ex_move _ rfl _ (F.e rfl)) ?_; clear F a; intro a F
  refine list_val F (wn rfl) rfl rfl (.bool true) (ex_bin .lss _ _ _ _ rfl .i64 _ _ (F.e rfl) (F.e rfl) _ (b_lss (decide_eq_true (by omega)))) ?_; clear F a; intro a F
  refine wpList_nil ?_
  replace F : Fr 29 a [(0, .slice A n c), (1, .func (.func f) #[] caps), (4, .int .i64 0), (5, .int .i64 ((lo : Nat) : Int)), (6, .int .i64 ((hi : Nat) : Int)), (12, .bool true)] := F.keep ⟨rfl, rfl, rfl, rfl, rfl, rfl, trivial⟩
  refine then_n ?_
  refine wp_cond_true (F.e rfl) ?_
  refine wp_skip ?_
  refine then_n ?_
  refine wp_block ?_
  refine wp_seq ?_
  obtain ⟨md, hmd⟩ : ∃ md, md = lo + (hi - lo) / 2 := ⟨_, rfl⟩
  have hml : md < hi := by omega
  obtain ⟨x, hx⟩ : ∃ x, xs[md]? = some x := ⟨_, List.getElem?_eq_getElem (by have := hr.1; omega)⟩
  obtain ⟨ad, hA, z⟩ := C_ix hr hx
  subst hA
  have hpx := hk md x hx
  by_cases hmk : md < k
  ·
   rw [decide_eq_true hmk] at hpx
   refine wp_region_lit ?_
   refine list_val F (wn rfl) rfl rfl (.int .i64 ((lo : Nat) : Int)) (ex_move _ rfl _ (F.e rfl)) ?_; clear F a; intro a F
   refine list_val F (wn rfl) rfl rfl (.int .i64 ((hi : Nat) : Int)) (ex_move _ rfl _ (F.e rfl)) ?_; clear F a; intro a F
   refine list_val F (wn rfl) rfl rfl (.int .i64 ((lo : Nat) : Int)) (ex_move _ rfl _ (F.e rfl)) ?_; clear F a; intro a F
   refine list_val F (wn rfl) rfl rfl (.int .i64 ((hi - lo : Nat) : Int)) (ex_bin .sub _ _ _ _ rfl .i64 _ _ (F.e rfl) (F.e rfl) _ (b_sub ((w_i64 (by omega) (by omega)).trans (by omega)))) ?_; clear F a; intro a F
   refine list_val F (wn rfl) rfl rfl (.int .i64 (((hi - lo) / 2 : Nat) : Int)) (ex_bin .quo _ _ _ _ rfl .i64 _ _ (F.e rfl) rfl _ (b_quo (by decide) (i_quo _ 2 (by omega)))) ?_; clear F a; intro a F
   refine list_val F (wn rfl) rfl rfl (.int .i64 ((md : Nat) : Int)) (ex_bin .add _ _ _ _ rfl .i64 _ _ (F.e rfl) (F.e rfl) _ (b_add ((w_i64 (by omega) (by omega)).trans (by omega)))) ?_; clear F a; intro a F
   refine list_val F (wn rfl) rfl rfl (.int .i64 ((md : Nat) : Int)) (ex_assign _ rfl _ (F.e rfl)) ?_; clear F a; intro a F
   refine wpList_nil ?_
   replace F : Fr 29 a [(0, .slice (some ad) n c), (1, .func (.func f) #[] caps), (4, .int .i64 0), (5, .int .i64 ((lo : Nat) : Int)), (6, .int .i64 ((hi : Nat) : Int)), (7, .int .i64 ((md : Nat) : Int)), (12, .bool true)] := F.keep ⟨rfl, rfl, rfl, rfl, rfl, rfl, rfl, trivial⟩
   refine then_n ?_
   refine wp_seq ?_
   refine wp_region_lit ?_
   refine list_val F (wn rfl) rfl rfl (.func (.func f) #[] caps) (ex_move _ rfl _ (F.e rfl)) ?_; clear F a; intro a F
   refine list_val F (wn rfl) rfl rfl (.slice (some ad) n c) (ex_move _ rfl _ (F.e rfl)) ?_; clear F a; intro a F
   refine list_val F (wn rfl) rfl rfl (.int .i64 ((md : Nat) : Int)) (ex_move _ rfl _ (F.e rfl)) ?_; clear F a; intro a F
   refine list_val F (wn rfl) rfl rfl (.pointer (some (ad.add (md * 19)))) (ex_ix _ _ _ rfl 19 r1_sl_57_19 ad _ _ (F.e rfl) .i64 _ (F.e rfl) md rfl (by omega) (ad.add (md * 19)) rfl) ?_; clear F a; intro a F
   refine list_val F (wn rfl) rfl rfl (.agg x.arr) (ex_load _ _ rfl _ (F.e rfl) _ (lrow85 x ((z.below M.bel)))) ?_; clear F a; intro a F
   refine list_do (wn rfl) (fun K hK => ?_)
   have hE := hP.1 x v
   have hCc := hP.2 x v M.bel
   generalize hargs : (#[.agg x.arr] ++ caps) = vs at hE hCc
   refine ow_call rfl rfl F f vs (by subst hargs; exact ex_callp f _ _ _ rfl caps (F.e rfl) #[.agg x.arr] (map1 (F.e rfl)) hE) hCc (fun e u hR => ?_)
   clear hE hCc hargs vs
   obtain ⟨he, hb⟩ := hR
   rw [hpx] at he
   refine ⟨.bool true, he, ?_⟩; clear he F a; intro a F
   refine hK _ _ ?_
   clear hK K
   replace M := M.below hb; clear hb; try clear v
   refine wpList_nil ?_
   replace F : Fr 29 a [(0, .slice (some ad) n c), (1, .func (.func f) #[] caps), (4, .int .i64 0), (5, .int .i64 ((lo : Nat) : Int)), (6, .int .i64 ((hi : Nat) : Int)), (7, .int .i64 ((md : Nat) : Int)), (12, .bool true), (24, .bool true)] := F.keep ⟨rfl, rfl, rfl, rfl, rfl, rfl, rfl, rfl, trivial⟩
   refine then_n ?_
   refine wp_cond_true (F.e rfl) ?_
   refine wp_region_lit ?_
   refine list_val F (wn rfl) rfl rfl (.int .i64 ((md : Nat) : Int)) (ex_move _ rfl _ (F.e rfl)) ?_; clear F a; intro a F
   refine list_val F (wn rfl) rfl rfl (.int .i64 ((md + 1 : Nat) : Int)) (ex_bin .add _ _ _ _ rfl .i64 _ _ (F.e rfl) rfl _ (b_add ((w_i64 (by omega) (by omega)).trans (by omega)))) ?_; clear F a; intro a F
   refine list_val F (wn rfl) rfl rfl (.int .i64 ((md + 1 : Nat) : Int)) (ex_assign _ rfl _ (F.e rfl)) ?_; clear F a; intro a F
   refine wpList_nil ?_
   replace F : Fr 29 a [(0, .slice (some ad) n c), (1, .func (.func f) #[] caps), (4, .int .i64 0), (5, .int .i64 ((md + 1 : Nat) : Int)), (6, .int .i64 ((hi : Nat) : Int)), (7, .int .i64 ((md : Nat) : Int)), (12, .bool true), (24, .bool true)] := F.keep ⟨rfl, rfl, rfl, rfl, rfl, rfl, rfl, rfl, trivial⟩
   refine in_n ?_
   refine then_n ?_
   exact ⟨n - (r + 1), by omega, (md + 1), hi, (r + 1), F.keep ⟨rfl, rfl, rfl, rfl, rfl, trivial⟩, (by refine M.pick' [] _ ?_ (by decide); exact trivial), (by omega), (by omega), (by omega), (by omega), (by omega)⟩
  rw [decide_eq_false hmk] at hpx
  refine wp_region_lit ?_
  refine list_val F (wn rfl) rfl rfl (.int .i64 ((lo : Nat) : Int)) (ex_move _ rfl _ (F.e rfl)) ?_; clear F a; intro a F
  refine list_val F (wn rfl) rfl rfl (.int .i64 ((hi : Nat) : Int)) (ex_move _ rfl _ (F.e rfl)) ?_; clear F a; intro a F
  refine list_val F (wn rfl) rfl rfl (.int .i64 ((lo : Nat) : Int)) (ex_move _ rfl _ (F.e rfl)) ?_; clear F a; intro a F
  refine list_val F (wn rfl) rfl rfl (.int .i64 ((hi - lo : Nat) : Int)) (ex_bin .sub _ _ _ _ rfl .i64 _ _ (F.e rfl) (F.e rfl) _ (b_sub ((w_i64 (by omega) (by omega)).trans (by omega)))) ?_; clear F a; intro a F
  refine list_val F (wn rfl) rfl rfl (.int .i64 (((hi - lo) / 2 : Nat) : Int)) (ex_bin .quo _ _ _ _ rfl .i64 _ _ (F.e rfl) rfl _ (b_quo (by decide) (i_quo _ 2 (by omega)))) ?_; clear F a; intro a F
  refine list_val F (wn rfl) rfl rfl (.int .i64 ((md : Nat) : Int)) (ex_bin .add _ _ _ _ rfl .i64 _ _ (F.e rfl) (F.e rfl) _ (b_add ((w_i64 (by omega) (by omega)).trans (by omega)))) ?_; clear F a; intro a F
  refine list_val F (wn rfl) rfl rfl (.int .i64 ((md : Nat) : Int)) (ex_assign _ rfl _ (F.e rfl)) ?_; clear F a; intro a F
  refine wpList_nil ?_
  replace F : Fr 29 a [(0, .slice (some ad) n c), (1, .func (.func f) #[] caps), (4, .int .i64 0), (5, .int .i64 ((lo : Nat) : Int)), (6, .int .i64 ((hi : Nat) : Int)), (7, .int .i64 ((md : Nat) : Int)), (12, .bool true)] := F.keep ⟨rfl, rfl, rfl, rfl, rfl, rfl, rfl, trivial⟩
  refine then_n ?_
  refine wp_seq ?_
  refine wp_region_lit ?_
  refine list_val F (wn rfl) rfl rfl (.func (.func f) #[] caps) (ex_move _ rfl _ (F.e rfl)) ?_; clear F a; intro a F
  refine list_val F (wn rfl) rfl rfl (.slice (some ad) n c) (ex_move _ rfl _ (F.e rfl)) ?_; clear F a; intro a F
  refine list_val F (wn rfl) rfl rfl (.int .i64 ((md : Nat) : Int)) (ex_move _ rfl _ (F.e rfl)) ?_; clear F a; intro a F
  refine list_val F (wn rfl) rfl rfl (.pointer (some (ad.add (md * 19)))) (ex_ix _ _ _ rfl 19 r1_sl_57_19 ad _ _ (F.e rfl) .i64 _ (F.e rfl) md rfl (by omega) (ad.add (md * 19)) rfl) ?_; clear F a; intro a F
  refine list_val F (wn rfl) rfl rfl (.agg x.arr) (ex_load _ _ rfl _ (F.e rfl) _ (lrow85 x ((z.below M.bel)))) ?_; clear F a; intro a F
  refine list_do (wn rfl) (fun K hK => ?_)
  have hE := hP.1 x v
  have hCc := hP.2 x v M.bel
  generalize hargs : (#[.agg x.arr] ++ caps) = vs at hE hCc
  refine ow_call rfl rfl F f vs (by subst hargs; exact ex_callp f _ _ _ rfl caps (F.e rfl) #[.agg x.arr] (map1 (F.e rfl)) hE) hCc (fun e u hR => ?_)
  clear hE hCc hargs vs
  obtain ⟨he, hb⟩ := hR
  rw [hpx] at he
  refine ⟨.bool false, he, ?_⟩; clear he F a; intro a F
  refine hK _ _ ?_
  clear hK K
  replace M := M.below hb; clear hb; try clear v
  refine wpList_nil ?_
  replace F : Fr 29 a [(0, .slice (some ad) n c), (1, .func (.func f) #[] caps), (4, .int .i64 0), (5, .int .i64 ((lo : Nat) : Int)), (6, .int .i64 ((hi : Nat) : Int)), (7, .int .i64 ((md : Nat) : Int)), (12, .bool true), (24, .bool false)] := F.keep ⟨rfl, rfl, rfl, rfl, rfl, rfl, rfl, rfl, trivial⟩
  refine then_n ?_
  refine wp_cond_false (F.e rfl) ?_
  refine wp_region_lit ?_
  refine list_val F (wn rfl) rfl rfl (.int .i64 ((md : Nat) : Int)) (ex_move _ rfl _ (F.e rfl)) ?_; clear F a; intro a F
  refine list_val F (wn rfl) rfl rfl (.int .i64 ((md : Nat) : Int)) (ex_assign _ rfl _ (F.e rfl)) ?_; clear F a; intro a F
  refine wpList_nil ?_
  replace F : Fr 29 a [(0, .slice (some ad) n c), (1, .func (.func f) #[] caps), (4, .int .i64 0), (5, .int .i64 ((lo : Nat) : Int)), (6, .int .i64 ((md : Nat) : Int)), (7, .int .i64 ((md : Nat) : Int)), (12, .bool true), (24, .bool false)] := F.keep ⟨rfl, rfl, rfl, rfl, rfl, rfl, rfl, rfl, trivial⟩
  refine in_n ?_
  refine then_n ?_
  exact ⟨n - (r + 1), by omega, lo, md, (r + 1), F.keep ⟨rfl, rfl, rfl, rfl, rfl, trivial⟩, (by refine M.pick' [] _ ?_ (by decide); exact trivial), (by omega), (by omega), (by omega), (by omega), (by omega)⟩
 obtain rfl : lo = k := by omega
 refine wp_seq ?_
 refine wp_seq ?_
 refine wp_region_lit ?_
 refine list_val F (wn rfl) rfl rfl (.int .i64 ((lo : Nat) : Int)) (ex_move _ rfl _ (F.e rfl)) ?_; clear F a; intro a F
 refine list_val F (wn rfl) rfl rfl (.int .i64 ((hi : Nat) : Int)) (ex_move _ rfl _ (F.e rfl)) ?_; clear F a; intro a F
 refine list_val F (wn rfl) rfl rfl (.bool false) (ex_bin .lss _ _ _ _ rfl .i64 _ _ (F.e rfl) (F.e rfl) _ (b_lss (decide_eq_false (by omega)))) ?_; clear F a; intro a F
 refine wpList_nil ?_
 replace F : Fr 29 a [(0, .slice A n c), (1, .func (.func f) #[] caps), (4, .int .i64 0), (5, .int .i64 ((lo : Nat) : Int)), (6, .int .i64 ((hi : Nat) : Int)), (12, .bool false)] := F.keep ⟨rfl, rfl, rfl, rfl, rfl, rfl, trivial⟩
 refine then_n ?_
 refine wp_cond_false (F.e rfl) ?_
 refine wp_exit ?_
 refine then_x ?_
 refine then_x ?_
 refine in_hit ?_
 refine then_n ?_
 refine wp_seq ?_
 refine wp_region_lit ?_
 refine list_val F (wn rfl) rfl rfl (.int .i64 ((lo : Nat) : Int)) (ex_move _ rfl _ (F.e rfl)) ?_; clear F a; intro a F
 refine list_val F (wn rfl) rfl rfl (.int .i64 ((lo : Nat) : Int)) (ex_assign _ rfl _ (F.e rfl)) ?_; clear F a; intro a F
 refine wpList_nil ?_
 replace F : Fr 29 a [(0, .slice A n c), (1, .func (.func f) #[] caps), (4, .int .i64 ((lo : Nat) : Int)), (5, .int .i64 ((lo : Nat) : Int)), (6, .int .i64 ((hi : Nat) : Int)), (12, .bool false)] := F.keep ⟨rfl, rfl, rfl, rfl, rfl, rfl, trivial⟩
 refine then_n ?_
 refine wp_ret ?_
 exact ret_tmp F rfl rfl ⟨rfl, M.bel⟩
end Go.Proofs.YtnjbjjmoglogeaaGreat
