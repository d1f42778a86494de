/- The law RingSwift of the given program answers true: its walk. Conditions: the turns are read. -/
import Derived.Test.YtnechcibpmjblaaQ
import Derived.Test.YtnechcibpmjblaaWG
namespace Go.Proofs.Ytnechcibpmjblaa
open Go.RowKit Go.Proofs.YtnechcibpmjblaaW.PrintWords KB WG
set_option linter.unusedVariables false
set_option linter.unusedSimpArgs false

theorem z69 : ∀ w, (zeroValue 69).run Try.prog w = .ok (.agg #[.slice none 0 0, .int .u64 0]) w := fun _ => by kernel_rfl
theorem ro_some {w : World} {A : Option Addr} {c : Nat} {init : List Key} {last : Key} {next : Int} (h : RO w A c ⟨init ++ [last], next⟩) : ∃ ad, A = some ad := by
  obtain ⟨ad, e, _⟩ := at_Key h.rk.1 0 (by omega) (by simp only [ring_len]; omega)
  exact ⟨ad, e⟩
theorem ex_neqk {op : Oper} {ρ : Operand → Value} {w : World} (x y : Operand) (z : TypeId) (ho : op.op = .binOp .neq 107 x y z) (a b : Key) (hx : ρ x = .agg a.arr) (hy : ρ y = .agg b.arr) (r : Bool) (hr : (!decide (a = b)) = r) :
    (execOp ρ op).run Try.prog w = .ok (.value (.bool r)) w := by
  subst hr
  exact exec_neqKey x y z ho a b hx hy
theorem ex_eqlk {op : Oper} {ρ : Operand → Value} {w : World} (x y : Operand) (z : TypeId) (ho : op.op = .binOp .eql 107 x y z) (a b : Key) (hx : ρ x = .agg a.arr) (hy : ρ y = .agg b.arr) (r : Bool) (hr : decide (a = b) = r) :
    (execOp ρ op).run Try.prog w = .ok (.value (.bool r)) w := by
  subst hr
  have g : (eqGuard .eql 107 x y (.agg a.arr) (.agg b.arr)).run Try.prog w = .ok () w := by
    have e : Try.prog.eqGuardType Try.prog.depth 107 = false := by kernel_rfl
    unfold eqGuard
    simp [e]
  exact ex_eql _ _ _ _ ho _ _ hx hy _ g (eqlKey a b w)
theorem cur_r {init : List Key} {last : Key} {next : Int} (h : IsRing init last next) (A : Option Addr) (c : Nat) (w : World) (hO : RO w A c ⟨init ++ [last], next⟩) :
    Calls Try.prog 29 #[.agg #[.slice A (init.length + 1) c, .int .u64 next]] w fun e w' => e = .returned (.tuple #[.agg last.arr, .bool true]) ∧ Below w.heap.size w w' := by
  have := cur_c ⟨init ++ [last], next⟩ A c w hO.rk
  rw [h.curr, decide_eq_false (h.ne_zero (by simp))] at this
  simpa only [ring_len, Bool.not_false] using this
theorem copy_r {init : List Key} {last : Key} {next : Int} (h : IsRing init last next) (A : Option Addr) (c : Nat) (w : World) (hO : RO w A c ⟨init ++ [last], next⟩) :
    Calls Try.prog 18 #[.agg #[.slice A (init.length + 1) c, .int .u64 next]] w fun e w' => ∃ A' c', e = .returned (.agg #[.slice A' (init.length + 1) c', .int .u64 next]) ∧ RO w' A' c' ⟨init ++ [last], next⟩ ∧ Below w.heap.size w w' := by
  have := copyRing_any ⟨init ++ [last], next⟩ A c w hO.rk (by have := h.few; simp only [ring_len]; omega)
  simp only [ring_len] at this
  refine this.mono fun _ _ ⟨A', c', he, hO', hb⟩ => ⟨A', c', ?_, hO', hb⟩
  rw [he]
  simp only [ring_len]
theorem check_r {init : List Key} {last : Key} {next : Int} (h : IsRing init last next) (A : Option Addr) (c : Nat) (w : World) (hO : RO w A c ⟨init ++ [last], next⟩) :
    Calls Try.prog 31 #[.agg #[.slice A (init.length + 1) c, .int .u64 next]] w fun e w' => e = .returned (.int .i64 0) ∧ Below w.heap.size w w' := by
  have := check_c ⟨init ++ [last], next⟩ A c w hO.rk
  rw [show errK (init ++ [last]) next = 0 by unfold errK; rw [check_of_isRing h]; rfl] at this
  simpa only [ring_len] using this
theorem find_r {init : List Key} {last : Key} {next : Int} (A : Option Addr) (c : Nat) (w : World) (hO : RO w A c ⟨init ++ [last], next⟩) {kid : Int} {k : Key} (hk : findF kid (init ++ [last]) next = k) :
    Calls Try.prog 30 #[.agg #[.slice A (init.length + 1) c, .int .u64 next], .int .u64 kid] w fun e w' => e = .returned (.tuple #[.agg k.arr, .bool (!decide (k = zKey))]) ∧ Below w.heap.size w w' := by
  have := find_c ⟨init ++ [last], next⟩ A c kid w hO.rk
  rw [hk] at this
  simpa only [ring_len] using this
theorem find_n {init : List Key} {last : Key} {next : Int} (A : Option Addr) (c : Nat) (w : World) (hO : RO w A c ⟨init ++ [last], next⟩) {kid : Int} (hk : findF kid (init ++ [last]) next = zKey) :
    Calls Try.prog 30 #[.agg #[.slice A (init.length + 1) c, .int .u64 next], .int .u64 kid] w fun e w' => e = .returned (.tuple #[.agg zKey.arr, .bool false]) ∧ Below w.heap.size w w' := by
  have := find_r A c w hO hk
  rwa [decide_eq_true rfl] at this
theorem find_y {init : List Key} {last : Key} {next : Int} (A : Option Addr) (c : Nat) (w : World) (hO : RO w A c ⟨init ++ [last], next⟩) {kid : Int} {k : Key} (hk : findF kid (init ++ [last]) next = k) (hz : k ≠ zKey) :
    Calls Try.prog 30 #[.agg #[.slice A (init.length + 1) c, .int .u64 next], .int .u64 kid] w fun e w' => e = .returned (.tuple #[.agg k.arr, .bool true]) ∧ Below w.heap.size w w' := by
  have := find_r A c w hO hk
  rwa [decide_eq_false hz] at this
theorem idx_inj {l : List Key} (h : (l.map (·.kid)).Pairwise (· < ·)) {i j : Nat} (hi : i < l.length) (hj : j < l.length) (e : l[i] = l[j]) : i = j := by
  have hp := List.pairwise_iff_getElem.1 h
  rcases Nat.lt_trichotomy i j with h' | h' | h'
  · have := hp i j (by simpa) (by simpa) h'
    rw [List.getElem_map, List.getElem_map, e] at this
    omega
  · exact h'
  · have := hp j i (by simpa) (by simpa) h'
    rw [List.getElem_map, List.getElem_map, e] at this
    omega
theorem cl_row_94_33 : row? Try.prog 94 33 = true := by kernel_rfl
theorem cl_ent_28 : ent? Try.prog 28 = true := by kernel_rfl
theorem cl_row_69_2 : row? Try.prog 69 2 = true := by kernel_rfl
theorem cl_ent_29 : ent? Try.prog 29 = true := by kernel_rfl
theorem cl_fa_69_0_0 : fa? Try.prog 69 0 0 = true := by kernel_rfl
theorem cl_one_55 : one? Try.prog 55 = true := by kernel_rfl
theorem cl_sl_55_34 : sl? Try.prog 55 34 = true := by kernel_rfl
theorem cl_fa_107_0_0 : fa? Try.prog 107 0 0 = true := by kernel_rfl
theorem cl_one_67 : one? Try.prog 67 = true := by kernel_rfl
theorem cl_ent_18 : ent? Try.prog 18 = true := by kernel_rfl
theorem cl_cv_3_5_u8 : cv? Try.prog 3 5 .u8 = true := by kernel_rfl
theorem cl_ent_16 : ent? Try.prog 16 = true := by kernel_rfl
theorem cl_ent_30 : ent? Try.prog 30 = true := by kernel_rfl
theorem cl_ent_22 : ent? Try.prog 22 = true := by kernel_rfl
theorem cl_ent_31 : ent? Try.prog 31 = true := by kernel_rfl
theorem cl_follows_mixedOrders : Try.prog.follows .mixedOrders = true := by kernel_rfl
theorem cl_row_107_34 : row? Try.prog 107 34 = true := by kernel_rfl
theorem cl_fa_69_1_1 : fa? Try.prog 69 1 1 = true := by kernel_rfl
theorem cl_ent_26 : ent? Try.prog 26 = true := by kernel_rfl
set_option maxHeartbeats 4000000 in
set_option maxRecDepth 100000 in
theorem swift_any (s : Bs 32) (ts : List Turn) (A : Option Addr) (c : Nat) (w : World) (hr : kTurn.C w A ts.length ts) (hc : ts.length ≤ c) :
    Calls Try.prog 7 #[.agg (lifeArr s (.slice A ts.length c))] w fun e w' => e = .returned (.bool true) ∧ Below w.heap.size w w' := by
 refine calls_start Try.func7 rfl rfl rfl (fun a F => ?_)
 have M : Mm w w [] := Mm.nil w
 refine wp_seq ?_
 refine wp_region_lit ?_
 refine list_do (wn rfl) (fun K hK => ?_)
 refine ow_box F M rfl rfl 94 _ rfl _ (F.e rfl) (lifeArr s (.slice A ts.length c)) rfl ?_
 clear F M a; intro a g1 v F M hb hg
 refine hK _ _ ?_
 clear hK K
 clear hb hg; try clear w
 refine list_val F (wn rfl) rfl rfl (.bool false) (ex_assign _ rfl _ rfl) ?_; clear F a; intro a F
 refine wpList_nil ?_
 replace F : Fr 183 a [(0, .agg (lifeArr s (.slice A ts.length c))), (1, .pointer (some ⟨g1, 0, none⟩)), (2, .bool false)] := F.keep ⟨rfl, rfl, rfl, trivial⟩
 refine then_n ?_
 refine wp_seq ?_
 refine wp_region_lit ?_
 refine list_val F (wn rfl) rfl rfl (.agg (lifeArr s (.slice A ts.length c))) (ex_load _ _ rfl _ (F.e rfl) _ (lvr (cs := lifeCs s (.slice A ts.length c)) (by rw [life_len]; exact cl_row_94_33) (M.at (i := 0) rfl))) ?_; clear F a; intro a F
 refine list_do (wn rfl) (fun K hK => ?_)
 refine ow_call rfl rfl F 28 #[.agg (lifeArr s (.slice A ts.length c))] (ex_call 28 _ _ rfl rfl cl_ent_28 _ (map1 (F.e rfl))) (grown_any s ts A c _ (Kd.C_below hr M.bel) hc) (fun e u hR => ?_)
 obtain ⟨A3, c3, init, last, next, he, O_r, hR, hn42, hb⟩ := hR
 obtain ⟨ad, rfl⟩ := ro_some O_r
 have hfew := hR.few
 have hpos := hR.below
 refine ⟨.tuple #[.agg #[.slice (some ad) (init.length + 1) c3, .int .u64 next], .bool true], he, ?_⟩; clear he F a; intro a F
 refine hK _ _ ?_
 clear hK K
 replace M := M.below hb; clear hb; try clear v
 refine list_val F (wn rfl) rfl rfl (.tuple #[.agg #[.slice (some ad) (init.length + 1) c3, .int .u64 next], .bool true]) (ex_move _ rfl _ (F.e rfl)) ?_; clear F a; intro a F
 refine list_val F (wn rfl) rfl rfl (.agg #[.slice (some ad) (init.length + 1) c3, .int .u64 next]) (ex_extract _ _ rfl _ (F.e rfl) _ rfl) ?_; clear F a; intro a F
 refine list_val F (wn rfl) rfl rfl (.bool true) (ex_extract _ _ rfl _ (F.e rfl) _ rfl) ?_; clear F a; intro a F
 refine list_do (wn rfl) (fun K hK => ?_)
 refine ow_alloc F M rfl rfl 69 rfl (.agg #[.slice none 0 0, .int .u64 0]) z69 #[.slice none 0 0, .int .u64 0] rfl ?_
 clear F M a; intro a g3 v F M hb hg
 refine hK _ _ ?_
 clear hK K
 have K_O_r := O_r
 replace O_r := O_r.below hb
 have hz_g3 := hb; have lo_g3 := hg
 clear hb hg; try clear u
 refine list_do (wn rfl) (fun K hK => ?_)
 refine ow_put F M rfl 69 _ _ rfl 0 _ #[.slice none 0 0, .int .u64 0] _ rfl (F.e rfl) #[.slice (some ad) (init.length + 1) c3, .int .u64 next] (F.e rfl) (sz_row (m := 2) cl_row_69_2) rfl (by simp [Value.oneCell']) ?_
 clear F a; have Mo := M; clear M; intro a u F M hgr
 refine hK _ _ ?_
 clear hK K
 have hzz := S_grown hz_g3 hgr lo_g3
 replace O_r := K_O_r.below hzz
 clear hzz hz_g3 lo_g3 K_O_r
 clear Mo hgr; try clear v
 replace M : Mm w u [⟨g3, #[.slice (some ad) (init.length + 1) c3, .int .u64 next], 69⟩, ⟨g1, (lifeArr s (.slice A ts.length c)), 94⟩] := M
 refine list_val F (wn rfl) rfl rfl (.bool true) (ex_assign _ rfl _ (F.e rfl)) ?_; clear F a; intro a F
 refine wpList_nil ?_
 replace F : Fr 183 a [(0, .agg (lifeArr s (.slice A ts.length c))), (1, .pointer (some ⟨g1, 0, none⟩)), (2, .bool false), (3, .pointer (some ⟨g3, 0, none⟩)), (4, .bool true)] := F.keep ⟨rfl, rfl, rfl, rfl, rfl, trivial⟩
 refine then_n ?_
 refine wp_seq ?_
 refine wp_seq ?_
 refine wp_region_lit ?_
 refine list_val F (wn rfl) rfl rfl (.bool true) (ex_move _ rfl _ (F.e rfl)) ?_; clear F a; intro a F
 refine list_val F (wn rfl) rfl rfl (.bool false) (ex_not _ _ rfl _ (F.e rfl) _ rfl) ?_; clear F a; intro a F
 refine wpList_nil ?_
 replace F : Fr 183 a [(0, .agg (lifeArr s (.slice A ts.length c))), (1, .pointer (some ⟨g1, 0, none⟩)), (2, .bool false), (3, .pointer (some ⟨g3, 0, none⟩)), (4, .bool true), (26, .bool false)] := F.keep ⟨rfl, rfl, rfl, rfl, rfl, rfl, trivial⟩
 refine then_n ?_
 refine wp_cond_false (F.e rfl) ?_
 refine wp_skip ?_
 refine then_n ?_
 refine wp_seq ?_
 refine wp_region_lit ?_
 refine list_val F (wn rfl) rfl rfl (.agg #[.slice (some ad) (init.length + 1) c3, .int .u64 next]) (ex_load _ _ rfl _ (F.e rfl) _ (lvr (cs := [.slice (some ad) (init.length + 1) c3, .int .u64 next]) cl_row_69_2 (M.at (i := 0) rfl))) ?_; clear F a; intro a F
 refine list_do (wn rfl) (fun K hK => ?_)
 refine ow_call rfl rfl F 29 #[.agg #[.slice (some ad) (init.length + 1) c3, .int .u64 next]] (ex_call 29 _ _ rfl rfl cl_ent_29 _ (map1 (F.e rfl))) (cur_r hR _ _ _ O_r) (fun e v hR => ?_)
 obtain ⟨he, hb⟩ := hR
 refine ⟨.tuple #[.agg last.arr, .bool true], he, ?_⟩; clear he F a; intro a F
 refine hK _ _ ?_
 clear hK K
 replace O_r := O_r.below hb
 replace M := M.below hb; clear hb; try clear u
 refine list_val F (wn rfl) rfl rfl (.tuple #[.agg last.arr, .bool true]) (ex_move _ rfl _ (F.e rfl)) ?_; clear F a; intro a F
 refine list_val F (wn rfl) rfl rfl (.agg last.arr) (ex_extract _ _ rfl _ (F.e rfl) _ rfl) ?_; clear F a; intro a F
 refine list_val F (wn rfl) rfl rfl (.bool true) (ex_extract _ _ rfl _ (F.e rfl) _ rfl) ?_; clear F a; intro a F
 refine list_do (wn rfl) (fun K hK => ?_)
 refine ow_alloc F M rfl rfl 107 rfl (.agg zKey.arr) zero107 zKey.arr rfl ?_
 clear F M a; intro a g5 u F M hb hg
 refine hK _ _ ?_
 clear hK K
 have K_O_r := O_r
 replace O_r := O_r.below hb
 have hz_g5 := hb; have lo_g5 := hg
 clear hb hg; try clear v
 refine list_do (wn rfl) (fun K hK => ?_)
 refine ow_put F M rfl 107 _ _ rfl 0 _ zKey.arr _ rfl (F.e rfl) last.arr (F.e rfl) (by rw [Key.arr_size]; exact info107) (by simp only [Key.arr_size]) (Key.arr_one _) ?_
 clear F a; have Mo := M; clear M; intro a v F M hgr
 refine hK _ _ ?_
 clear hK K
 have hzz := S_grown hz_g5 hgr lo_g5
 replace O_r := K_O_r.below hzz
 clear hzz hz_g5 lo_g5 K_O_r
 clear Mo hgr; try clear u
 replace M : Mm w v [⟨g5, last.arr, 107⟩, ⟨g3, #[.slice (some ad) (init.length + 1) c3, .int .u64 next], 69⟩, ⟨g1, (lifeArr s (.slice A ts.length c)), 94⟩] := M
 refine list_val F (wn rfl) rfl rfl (.bool true) (ex_assign _ rfl _ (F.e rfl)) ?_; clear F a; intro a F
 refine wpList_nil ?_
 replace F : Fr 183 a [(0, .agg (lifeArr s (.slice A ts.length c))), (1, .pointer (some ⟨g1, 0, none⟩)), (2, .bool false), (3, .pointer (some ⟨g3, 0, none⟩)), (4, .bool true), (5, .pointer (some ⟨g5, 0, none⟩)), (26, .bool false)] := F.keep ⟨rfl, rfl, rfl, rfl, rfl, rfl, rfl, trivial⟩
 refine then_n ?_
 refine wp_seq ?_
 refine wp_seq ?_
 refine wp_region_lit ?_
 refine list_val F (wn rfl) rfl rfl (.int .i64 0) (ex_assign _ rfl _ rfl) ?_; clear F a; intro a F
 refine wpList_nil ?_
 replace F : Fr 183 a [(0, .agg (lifeArr s (.slice A ts.length c))), (1, .pointer (some ⟨g1, 0, none⟩)), (2, .bool false), (3, .pointer (some ⟨g3, 0, none⟩)), (4, .bool true), (5, .pointer (some ⟨g5, 0, none⟩)), (7, .int .i64 0), (26, .bool false)] := F.keep ⟨rfl, rfl, rfl, rfl, rfl, rfl, rfl, rfl, trivial⟩
 refine then_n ?_
 refine wp_block ?_
 refine wp_loopN (fun mq ar wr => ∃ (i : Nat), Fr 183 ar [(0, .agg (lifeArr s (.slice A ts.length c))), (1, .pointer (some ⟨g1, 0, none⟩)), (2, .bool false), (3, .pointer (some ⟨g3, 0, none⟩)), (4, .bool true), (5, .pointer (some ⟨g5, 0, none⟩)), (7, .int .i64 i), (26, .bool false)] ∧ Mm w wr [⟨g5, last.arr, 107⟩, ⟨g3, #[.slice (some ad) (init.length + 1) c3, .int .u64 next], 69⟩] ∧ RO wr (some ad) c3 ⟨init ++ [last], next⟩ ∧ i ≤ init.length + 1 ∧ mq + i = (init.length + 1)) (init.length + 1) ?_ ?_
 ·
  exact ⟨0, F.keep ⟨rfl, rfl, rfl, rfl, rfl, rfl, rfl, rfl, trivial⟩, (by refine M.pick' [0, 1] _ ?_ (by decide); exact ⟨rfl, rfl, trivial⟩), O_r, (Nat.zero_le _), (by omega)⟩
 clear F M a O_r
 rintro mq a u ⟨i, F, M, O_r, hi, hq⟩; try clear v
 by_cases hc1 : i < init.length + 1
 ·
  obtain ⟨ad', had, zi, _, _⟩ := at_Key (O_r.rk.1) (i : Int) (by omega) (by simp only [ring_len]; omega)
  obtain rfl := Option.some.inj had
  clear had
  rw [show (i : Int).toNat = i from rfl] at zi
  have hil : i < (init ++ [last]).length := by simp only [ring_len]; exact hc1
  have hki : rdK (init ++ [last]) (i : Int) ∈ init ++ [last] := by rw [rdK_eq hil]; exact List.getElem_mem _
  obtain ⟨init2, last2, next2, hd, G⟩ := gone_of hR (show next < 9223372036854775807 by omega) hki (b32 170 i)
  have hnx0 : 0 ≤ next := by have := hR.pos last (by simp); omega
  have hdc : ∀ A c W, RO W A c ⟨init ++ [last], next⟩ → Calls Try.prog 16 #[.agg #[.slice A (init.length + 1) c, .int .u64 next], .int .u64 (rdK (init ++ [last]) (i : Int)).kid, .agg (b32 170 i).cs.toArray] W fun e W' => ∃ A' c', e = .returned (.tuple #[.agg #[.slice A' (init2.length + 1) c', .int .u64 next2], .int .i64 0]) ∧ RO W' A' c' ⟨init2 ++ [last2], next2⟩ ∧ Below W.heap.size W W' := fun A c W h => by
    have := distrust_c ⟨init ++ [last], next⟩ A c (rdK (init ++ [last]) (i : Int)).kid (b32 170 i) W h.rk hnx0
    rw [hd] at this
    simp only [ring_len] at this
    exact this.mono fun _ _ h => tells_ok h
  have hda : ∀ A c W, RO W A c ⟨init2 ++ [last2], next2⟩ → Calls Try.prog 16 #[.agg #[.slice A (init2.length + 1) c, .int .u64 next2], .int .u64 (rdK (init ++ [last]) (i : Int)).kid, .agg (b32 0 0).cs.toArray] W fun e W' => ∃ A' c', e = .returned (.tuple #[.agg #[.slice A' 0 c', .int .u64 0], .int .i64 53]) ∧ Below W.heap.size W W' := fun A c W h => by
    have := distrust_c ⟨init2 ++ [last2], next2⟩ A c (rdK (init ++ [last]) (i : Int)).kid (b32 0 0) W h.rk G.nonneg
    rw [G.again] at this
    simp only [ring_len] at this
    exact this.mono fun _ _ h => tells_no h
  have hwb : IntKind.u8.wrap (i : Int) = i := by rw [IntKind.wrap_u8]; omega
  have hix : ∀ j : Nat, j < init.length + 1 → rdK (init ++ [last]) (j : Int) = (rdK (init ++ [last]) (i : Int)) → j = i := fun j hj e => by
    have hjl : j < (init ++ [last]).length := by simp only [ring_len]; exact hj
    rw [rdK_eq hjl, rdK_eq hil] at e
    exact idx_inj hR.rise hjl hil e
  have hki0 := hki
  generalize hkd : (rdK (init ++ [last]) (i : Int)) = ki at zi hki0 G hdc hda hix
  refine wp_seq ?_
  refine wp_seq ?_
  refine wp_region_lit ?_
  refine list_val F (wn rfl) rfl rfl (.int .i64 i) (ex_move _ rfl _ (F.e rfl)) ?_; clear F a; intro a F
  refine list_val F (wn rfl) rfl rfl (.pointer (some ⟨g3, 0, none⟩)) (ex_fa _ _ _ rfl _ (F.e rfl) 0 cl_fa_69_0_0 ⟨g3, 0, none⟩ rfl) ?_; clear F a; intro a F
  refine list_val F (wn rfl) rfl rfl (.slice (some ad) (init.length + 1) c3) (ex_load _ _ rfl _ (F.e rfl) _ (lv1 cl_one_55 (M.cell (i := 1) rfl (j := 0) rfl))) ?_; clear F a; intro a F
  refine list_val F (wn rfl) rfl rfl (.int .i64 (((init.length + 1) : Nat) : Int)) (ex_len _ _ rfl 34 cl_sl_55_34 _ _ _ (F.e rfl)) ?_; clear F a; intro a F
  refine list_val F (wn rfl) rfl rfl (.bool true) (ex_bin .lss _ _ _ _ rfl .i64 _ _ (F.e rfl) (F.e rfl) _ (b_lss (decide_eq_true (by omega)))) ?_; clear F a; intro a F
  refine wpList_nil ?_
  replace F : Fr 183 a [(0, .agg (lifeArr s (.slice A ts.length c))), (1, .pointer (some ⟨g1, 0, none⟩)), (2, .bool false), (3, .pointer (some ⟨g3, 0, none⟩)), (4, .bool true), (5, .pointer (some ⟨g5, 0, none⟩)), (7, .int .i64 i), (26, .bool false), (36, .bool true)] := F.keep ⟨rfl, rfl, rfl, rfl, rfl, rfl, rfl, rfl, rfl, trivial⟩
  refine then_n ?_
  refine wp_cond_true (F.e rfl) ?_
  refine wp_skip ?_
  refine then_n ?_
  refine wp_seq ?_
  refine wp_block ?_
  refine wp_seq ?_
  refine wp_region_lit ?_
  refine list_val F (wn rfl) rfl rfl (.pointer (some ⟨g3, 0, none⟩)) (ex_fa _ _ _ rfl _ (F.e rfl) 0 cl_fa_69_0_0 ⟨g3, 0, none⟩ rfl) ?_; clear F a; intro a F
  refine list_val F (wn rfl) rfl rfl (.slice (some ad) (init.length + 1) c3) (ex_load _ _ rfl _ (F.e rfl) _ (lv1 cl_one_55 (M.cell (i := 1) rfl (j := 0) rfl))) ?_; clear F a; intro a F
  refine list_val F (wn rfl) rfl rfl (.int .i64 i) (ex_move _ rfl _ (F.e rfl)) ?_; clear F a; intro a F
  refine list_val F (wn rfl) rfl rfl (.pointer (some (ad.add (i * 34)))) (ex_ix _ _ _ rfl 34 cl_sl_55_34 ad _ _ (F.e rfl) .i64 _ (F.e rfl) i rfl (by omega) (ad.add (i * 34)) rfl) ?_; clear F a; intro a F
  refine list_val F (wn rfl) rfl rfl (.pointer (some (ad.add (i * 34)))) (ex_fa _ _ _ rfl _ (F.e rfl) 0 cl_fa_107_0_0 (ad.add (i * 34)) rfl) ?_; clear F a; intro a F
  refine list_val F (wn rfl) rfl rfl (.int .u64 ki.kid) (ex_load _ _ rfl _ (F.e rfl) _ (lv1 cl_one_67 (zi.cell 0 _ (Key.cs_0 _)))) ?_; clear F a; intro a F
  refine list_val F (wn rfl) rfl rfl (.int .u64 ki.kid) (ex_assign _ rfl _ (F.e rfl)) ?_; clear F a; intro a F
  refine wpList_nil ?_
  replace F : Fr 183 a [(0, .agg (lifeArr s (.slice A ts.length c))), (1, .pointer (some ⟨g1, 0, none⟩)), (2, .bool false), (3, .pointer (some ⟨g3, 0, none⟩)), (4, .bool true), (5, .pointer (some ⟨g5, 0, none⟩)), (7, .int .i64 i), (8, .int .u64 ki.kid), (26, .bool false), (36, .bool true)] := F.keep ⟨rfl, rfl, rfl, rfl, rfl, rfl, rfl, rfl, rfl, rfl, trivial⟩
  refine then_n ?_
  refine wp_seq ?_
  clear zi
  refine wp_region_lit ?_
  refine list_val F (wn rfl) rfl rfl (.agg #[.slice (some ad) (init.length + 1) c3, .int .u64 next]) (ex_load _ _ rfl _ (F.e rfl) _ (lvr (cs := [.slice (some ad) (init.length + 1) c3, .int .u64 next]) cl_row_69_2 (M.at (i := 1) rfl))) ?_; clear F a; intro a F
  refine list_do (wn rfl) (fun K hK => ?_)
  refine ow_call rfl rfl F 18 #[.agg #[.slice (some ad) (init.length + 1) c3, .int .u64 next]] (ex_call 18 _ _ rfl rfl cl_ent_18 _ (map1 (F.e rfl))) (copy_r hR _ _ _ O_r) (fun e v hR => ?_)
  obtain ⟨A4, c4, he, O_y, hb⟩ := hR
  refine ⟨.agg #[.slice A4 (init.length + 1) c4, .int .u64 next], he, ?_⟩; clear he F a; intro a F
  refine hK _ _ ?_
  clear hK K
  replace O_r := O_r.below hb
  replace M := M.below hb; clear hb; try clear u
  refine list_val F (wn rfl) rfl rfl (.int .u64 ki.kid) (ex_move _ rfl _ (F.e rfl)) ?_; clear F a; intro a F
  refine list_val F (wn rfl) rfl rfl (.int .i64 i) (ex_move _ rfl _ (F.e rfl)) ?_; clear F a; intro a F
  refine list_val F (wn rfl) rfl rfl (.int .u8 i) (ex_conv _ _ _ rfl _ .u8 cl_cv_3_5_u8 _ (F.e rfl) _ hwb) ?_; clear F a; intro a F
  refine list_val F (wn rfl) rfl rfl (.agg ((b32 170 i).cs.toArray)) (ex_build 70 _ rfl #[(0, .int .u8 170), (1, .int .u8 i)] (parts2 rfl (F.e rfl)) (.agg ((b32 170 i).cs.toArray)) (build70_2 170 i _)) ?_; clear F a; intro a F
  refine list_do (wn rfl) (fun K hK => ?_)
  refine ow_call rfl rfl F 16 #[.agg #[.slice A4 (init.length + 1) c4, .int .u64 next], .int .u64 ki.kid, .agg ((b32 170 i).cs.toArray)] (ex_call 16 _ _ rfl rfl cl_ent_16 _ (map3 (F.e rfl) (F.e rfl) (F.e rfl))) (hdc _ _ _ O_y) (fun e u hR => ?_)
  obtain ⟨A5, c5, he, O_x, hb⟩ := hR
  refine ⟨.tuple #[.agg #[.slice A5 (init2.length + 1) c5, .int .u64 next2], .int .i64 0], he, ?_⟩; clear he F a; intro a F
  refine hK _ _ ?_
  clear hK K
  replace O_r := O_r.below hb
  replace M := M.below hb; clear hb; try clear v
  clear O_y
  refine list_val F (wn rfl) rfl rfl (.tuple #[.agg #[.slice A5 (init2.length + 1) c5, .int .u64 next2], .int .i64 0]) (ex_move _ rfl _ (F.e rfl)) ?_; clear F a; intro a F
  refine list_val F (wn rfl) rfl rfl (.agg #[.slice A5 (init2.length + 1) c5, .int .u64 next2]) (ex_extract _ _ rfl _ (F.e rfl) _ rfl) ?_; clear F a; intro a F
  refine list_val F (wn rfl) rfl rfl (.int .i64 0) (ex_extract _ _ rfl _ (F.e rfl) _ rfl) ?_; clear F a; intro a F
  refine list_do (wn rfl) (fun K hK => ?_)
  refine ow_alloc F M rfl rfl 69 rfl (.agg #[.slice none 0 0, .int .u64 0]) z69 #[.slice none 0 0, .int .u64 0] rfl ?_
  clear F M a; intro a g9 v F M hb hg
  refine hK _ _ ?_
  clear hK K
  have K_O_r := O_r
  have K_O_x := O_x
  replace O_r := O_r.below hb
  replace O_x := O_x.below hb
  have hz_g9 := hb; have lo_g9 := hg
  clear hb hg; try clear u
  refine list_do (wn rfl) (fun K hK => ?_)
  refine ow_put F M rfl 69 _ _ rfl 0 _ #[.slice none 0 0, .int .u64 0] _ rfl (F.e rfl) #[.slice A5 (init2.length + 1) c5, .int .u64 next2] (F.e rfl) (sz_row (m := 2) cl_row_69_2) rfl (by simp [Value.oneCell']) ?_
  clear F a; have Mo := M; clear M; intro a u F M hgr
  refine hK _ _ ?_
  clear hK K
  have hzz := S_grown hz_g9 hgr lo_g9
  replace O_r := K_O_r.below hzz
  replace O_x := K_O_x.below hzz
  clear hzz hz_g9 lo_g9 K_O_r K_O_x
  clear Mo hgr; try clear v
  replace M : Mm w u [⟨g9, #[.slice A5 (init2.length + 1) c5, .int .u64 next2], 69⟩, ⟨g5, last.arr, 107⟩, ⟨g3, #[.slice (some ad) (init.length + 1) c3, .int .u64 next], 69⟩] := M
  refine list_val F (wn rfl) rfl rfl (.int .i64 0) (ex_assign _ rfl _ (F.e rfl)) ?_; clear F a; intro a F
  refine wpList_nil ?_
  replace F : Fr 183 a [(0, .agg (lifeArr s (.slice A ts.length c))), (1, .pointer (some ⟨g1, 0, none⟩)), (2, .bool false), (3, .pointer (some ⟨g3, 0, none⟩)), (4, .bool true), (5, .pointer (some ⟨g5, 0, none⟩)), (7, .int .i64 i), (8, .int .u64 ki.kid), (9, .pointer (some ⟨g9, 0, none⟩)), (10, .int .i64 0), (26, .bool false), (36, .bool true)] := F.keep ⟨rfl, rfl, rfl, rfl, rfl, rfl, rfl, rfl, rfl, rfl, rfl, rfl, trivial⟩
  refine then_n ?_
  refine wp_seq ?_
  refine wp_region_lit ?_
  refine list_val F (wn rfl) rfl rfl (.agg #[.slice A5 (init2.length + 1) c5, .int .u64 next2]) (ex_load _ _ rfl _ (F.e rfl) _ (lvr (cs := [.slice A5 (init2.length + 1) c5, .int .u64 next2]) cl_row_69_2 (M.at (i := 0) rfl))) ?_; clear F a; intro a F
  refine list_do (wn rfl) (fun K hK => ?_)
  refine ow_call rfl rfl F 18 #[.agg #[.slice A5 (init2.length + 1) c5, .int .u64 next2]] (ex_call 18 _ _ rfl rfl cl_ent_18 _ (map1 (F.e rfl))) (copy_r G.ring _ _ _ O_x) (fun e v hR => ?_)
  obtain ⟨A6, c6, he, O_z, hb⟩ := hR
  refine ⟨.agg #[.slice A6 (init2.length + 1) c6, .int .u64 next2], he, ?_⟩; clear he F a; intro a F
  refine hK _ _ ?_
  clear hK K
  replace O_r := O_r.below hb
  replace O_x := O_x.below hb
  replace M := M.below hb; clear hb; try clear u
  refine list_val F (wn rfl) rfl rfl (.int .u64 ki.kid) (ex_move _ rfl _ (F.e rfl)) ?_; clear F a; intro a F
  refine list_val F (wn rfl) rfl rfl (.agg ((b32 0 0).cs.toArray)) (ex_build 70 _ rfl #[] parts0 (.agg ((b32 0 0).cs.toArray)) (build70_0 _)) ?_; clear F a; intro a F
  refine list_do (wn rfl) (fun K hK => ?_)
  refine ow_call rfl rfl F 16 #[.agg #[.slice A6 (init2.length + 1) c6, .int .u64 next2], .int .u64 ki.kid, .agg ((b32 0 0).cs.toArray)] (ex_call 16 _ _ rfl rfl cl_ent_16 _ (map3 (F.e rfl) (F.e rfl) (F.e rfl))) (hda _ _ _ O_z) (fun e u hR => ?_)
  obtain ⟨A7, c7, he, hb⟩ := hR
  refine ⟨.tuple #[.agg #[.slice A7 0 c7, .int .u64 0], .int .i64 53], he, ?_⟩; clear he F a; intro a F
  refine hK _ _ ?_
  clear hK K
  replace O_r := O_r.below hb
  replace O_x := O_x.below hb
  replace M := M.below hb; clear hb; try clear v
  clear O_z
  refine list_val F (wn rfl) rfl rfl (.tuple #[.agg #[.slice A7 0 c7, .int .u64 0], .int .i64 53]) (ex_move _ rfl _ (F.e rfl)) ?_; clear F a; intro a F
  refine list_val F (wn rfl) rfl rfl (.agg #[.slice A7 0 c7, .int .u64 0]) (ex_extract _ _ rfl _ (F.e rfl) _ rfl) ?_; clear F a; intro a F
  refine list_val F (wn rfl) rfl rfl (.int .i64 53) (ex_extract _ _ rfl _ (F.e rfl) _ rfl) ?_; clear F a; intro a F
  refine list_do (wn rfl) (fun K hK => ?_)
  refine ow_alloc F M rfl rfl 69 rfl (.agg #[.slice none 0 0, .int .u64 0]) z69 #[.slice none 0 0, .int .u64 0] rfl ?_
  clear F M a; intro a g11 v F M hb hg
  refine hK _ _ ?_
  clear hK K
  have K_O_r := O_r
  have K_O_x := O_x
  replace O_r := O_r.below hb
  replace O_x := O_x.below hb
  have hz_g11 := hb; have lo_g11 := hg
  clear hb hg; try clear u
  refine list_do (wn rfl) (fun K hK => ?_)
  refine ow_put F M rfl 69 _ _ rfl 0 _ #[.slice none 0 0, .int .u64 0] _ rfl (F.e rfl) #[.slice A7 0 c7, .int .u64 0] (F.e rfl) (sz_row (m := 2) cl_row_69_2) rfl (by simp [Value.oneCell']) ?_
  clear F a; have Mo := M; clear M; intro a u F M hgr
  refine hK _ _ ?_
  clear hK K
  have hzz := S_grown hz_g11 hgr lo_g11
  replace O_r := K_O_r.below hzz
  replace O_x := K_O_x.below hzz
  clear hzz hz_g11 lo_g11 K_O_r K_O_x
  clear Mo hgr; try clear v
  replace M : Mm w u [⟨g11, #[.slice A7 0 c7, .int .u64 0], 69⟩, ⟨g9, #[.slice A5 (init2.length + 1) c5, .int .u64 next2], 69⟩, ⟨g5, last.arr, 107⟩, ⟨g3, #[.slice (some ad) (init.length + 1) c3, .int .u64 next], 69⟩] := M
  refine list_val F (wn rfl) rfl rfl (.int .i64 53) (ex_assign _ rfl _ (F.e rfl)) ?_; clear F a; intro a F
  refine wpList_nil ?_
  replace F : Fr 183 a [(0, .agg (lifeArr s (.slice A ts.length c))), (1, .pointer (some ⟨g1, 0, none⟩)), (2, .bool false), (3, .pointer (some ⟨g3, 0, none⟩)), (4, .bool true), (5, .pointer (some ⟨g5, 0, none⟩)), (7, .int .i64 i), (8, .int .u64 ki.kid), (9, .pointer (some ⟨g9, 0, none⟩)), (10, .int .i64 0), (12, .int .i64 53), (26, .bool false), (36, .bool true)] := F.keep ⟨rfl, rfl, rfl, rfl, rfl, rfl, rfl, rfl, rfl, rfl, rfl, rfl, rfl, trivial⟩
  refine then_n ?_
  refine wp_seq ?_
  refine wp_region_lit ?_
  refine list_val F (wn rfl) rfl rfl (.agg #[.slice A5 (init2.length + 1) c5, .int .u64 next2]) (ex_load _ _ rfl _ (F.e rfl) _ (lvr (cs := [.slice A5 (init2.length + 1) c5, .int .u64 next2]) cl_row_69_2 (M.at (i := 1) rfl))) ?_; clear F a; intro a F
  refine list_val F (wn rfl) rfl rfl (.int .u64 ki.kid) (ex_move _ rfl _ (F.e rfl)) ?_; clear F a; intro a F
  refine list_do (wn rfl) (fun K hK => ?_)
  refine ow_call rfl rfl F 30 #[.agg #[.slice A5 (init2.length + 1) c5, .int .u64 next2], .int .u64 ki.kid] (ex_call 30 _ _ rfl rfl cl_ent_30 _ (map2 (F.e rfl) (F.e rfl))) (find_n _ _ _ O_x G.find_none) (fun e v hR => ?_)
  obtain ⟨he, hb⟩ := hR
  refine ⟨.tuple #[.agg zKey.arr, .bool false], he, ?_⟩; clear he F a; intro a F
  refine hK _ _ ?_
  clear hK K
  replace O_r := O_r.below hb
  replace O_x := O_x.below hb
  replace M := M.below hb; clear hb; try clear u
  refine list_val F (wn rfl) rfl rfl (.tuple #[.agg zKey.arr, .bool false]) (ex_move _ rfl _ (F.e rfl)) ?_; clear F a; intro a F
  refine list_val F (wn rfl) rfl rfl (.agg zKey.arr) (ex_extract _ _ rfl _ (F.e rfl) _ rfl) ?_; clear F a; intro a F
  refine list_val F (wn rfl) rfl rfl (.bool false) (ex_extract _ _ rfl _ (F.e rfl) _ rfl) ?_; clear F a; intro a F
  refine list_do (wn rfl) (fun K hK => ?_)
  refine ow_alloc F M rfl rfl 107 rfl (.agg zKey.arr) zero107 zKey.arr rfl ?_
  clear F M a; intro a g13 u F M hb hg
  refine hK _ _ ?_
  clear hK K
  have K_O_r := O_r
  have K_O_x := O_x
  replace O_r := O_r.below hb
  replace O_x := O_x.below hb
  have hz_g13 := hb; have lo_g13 := hg
  clear hb hg; try clear v
  refine list_do (wn rfl) (fun K hK => ?_)
  refine ow_put F M rfl 107 _ _ rfl 0 _ zKey.arr _ rfl (F.e rfl) zKey.arr (F.e rfl) (by rw [Key.arr_size]; exact info107) (by simp only [Key.arr_size]) (Key.arr_one _) ?_
  clear F a; have Mo := M; clear M; intro a v F M hgr
  refine hK _ _ ?_
  clear hK K
  have hzz := S_grown hz_g13 hgr lo_g13
  replace O_r := K_O_r.below hzz
  replace O_x := K_O_x.below hzz
  clear hzz hz_g13 lo_g13 K_O_r K_O_x
  clear Mo hgr; try clear u
  replace M : Mm w v [⟨g13, zKey.arr, 107⟩, ⟨g11, #[.slice A7 0 c7, .int .u64 0], 69⟩, ⟨g9, #[.slice A5 (init2.length + 1) c5, .int .u64 next2], 69⟩, ⟨g5, last.arr, 107⟩, ⟨g3, #[.slice (some ad) (init.length + 1) c3, .int .u64 next], 69⟩] := M
  refine list_val F (wn rfl) rfl rfl (.bool false) (ex_assign _ rfl _ (F.e rfl)) ?_; clear F a; intro a F
  refine wpList_nil ?_
  replace F : Fr 183 a [(0, .agg (lifeArr s (.slice A ts.length c))), (1, .pointer (some ⟨g1, 0, none⟩)), (2, .bool false), (3, .pointer (some ⟨g3, 0, none⟩)), (4, .bool true), (5, .pointer (some ⟨g5, 0, none⟩)), (7, .int .i64 i), (8, .int .u64 ki.kid), (9, .pointer (some ⟨g9, 0, none⟩)), (10, .int .i64 0), (12, .int .i64 53), (14, .bool false), (26, .bool false), (36, .bool true)] := F.keep ⟨rfl, rfl, rfl, rfl, rfl, rfl, rfl, rfl, rfl, rfl, rfl, rfl, rfl, rfl, trivial⟩
  refine then_n ?_
  refine wp_seq ?_
  refine wp_seq ?_
  refine wp_region_lit ?_
  refine list_val F (wn rfl) rfl rfl (.int .i64 0) (ex_move _ rfl _ (F.e rfl)) ?_; clear F a; intro a F
  refine list_do (wn rfl) (fun K hK => ?_)
  refine ow_call rfl rfl F 22 #[.int .i64 0] (ex_call 22 _ _ rfl rfl cl_ent_22 _ (map1 (F.e rfl))) (num_any _ _) (fun e u hR => ?_)
  obtain ⟨he, hw⟩ := hR
  refine ⟨.int .i64 0, he, ?_⟩; clear he F a; intro a F
  obtain rfl := hw
  refine hK _ _ ?_
  clear hK K
  refine list_val F (wn rfl) rfl rfl (.bool false) (ex_bin .neq _ _ _ _ rfl .i64 _ _ (F.e rfl) rfl _ (b_neq (by decide))) ?_; clear F a; intro a F
  refine list_val F (wn rfl) rfl rfl (.bool false) (ex_move _ rfl _ (F.e rfl)) ?_; clear F a; intro a F
  refine list_val F (F.wants 72 false rfl (by kernel_rfl) rfl true rfl) rfl rfl (.agg #[.slice A5 (init2.length + 1) c5, .int .u64 next2]) (ex_load _ _ rfl _ (F.e rfl) _ (lvr (cs := [.slice A5 (init2.length + 1) c5, .int .u64 next2]) cl_row_69_2 (M.at (i := 2) rfl))) ?_; clear F a; intro a F
  refine list_do (F.wants 72 false rfl (by kernel_rfl) rfl true rfl) (fun K hK => ?_)
  refine ow_call rfl rfl F 31 #[.agg #[.slice A5 (init2.length + 1) c5, .int .u64 next2]] (ex_call 31 _ _ rfl rfl cl_ent_31 _ (map1 (F.e rfl))) (check_r G.ring _ _ _ O_x) (fun e u hR => ?_)
  obtain ⟨he, hb⟩ := hR
  refine ⟨.int .i64 0, he, ?_⟩; clear he F a; intro a F
  refine hK _ _ ?_
  clear hK K
  replace O_r := O_r.below hb
  replace O_x := O_x.below hb
  replace M := M.below hb; clear hb; try clear v
  refine list_do (F.wants 72 false rfl (by kernel_rfl) rfl true rfl) (fun K hK => ?_)
  refine ow_call rfl rfl F 22 #[.int .i64 0] (ex_call 22 _ _ rfl rfl cl_ent_22 _ (map1 (F.e rfl))) (num_any _ _) (fun e v hR => ?_)
  obtain ⟨he, hw⟩ := hR
  refine ⟨.int .i64 0, he, ?_⟩; clear he F a; intro a F
  obtain rfl := hw
  refine hK _ _ ?_
  clear hK K
  refine list_val F (F.wants 72 false rfl (by kernel_rfl) rfl true rfl) rfl rfl (.bool false) (ex_bin .neq _ _ _ _ rfl .i64 _ _ (F.e rfl) rfl _ (b_neq (by decide))) ?_; clear F a; intro a F
  refine list_val F (wn rfl) rfl rfl (.bool false) (ex_pick_f _ _ _ rfl (F.e rfl) _ (F.e rfl)) ?_; clear F a; intro a F
  refine list_val F (wn rfl) rfl rfl (.bool false) (ex_move _ rfl _ (F.e rfl)) ?_; clear F a; intro a F
  refine list_val F (F.wants 78 false rfl (by kernel_rfl) rfl true rfl) rfl rfl (.bool false) (ex_move _ rfl _ (F.e rfl)) ?_; clear F a; intro a F
  refine list_val F (wn rfl) rfl rfl (.bool false) (ex_pick_f _ _ _ rfl (F.e rfl) _ (F.e rfl)) ?_; clear F a; intro a F
  refine list_val F (wn rfl) rfl rfl (.bool false) (ex_move _ rfl _ (F.e rfl)) ?_; clear F a; intro a F
  refine list_val F (F.wants 81 false rfl (by kernel_rfl) rfl true rfl) rfl rfl (.int .i64 53) (ex_move _ rfl _ (F.e rfl)) ?_; clear F a; intro a F
  refine list_do (F.wants 81 false rfl (by kernel_rfl) rfl true rfl) (fun K hK => ?_)
  refine ow_call rfl rfl F 22 #[.int .i64 53] (ex_call 22 _ _ rfl rfl cl_ent_22 _ (map1 (F.e rfl))) (num_any _ _) (fun e v hR => ?_)
  obtain ⟨he, hw⟩ := hR
  refine ⟨.int .i64 53, he, ?_⟩; clear he F a; intro a F
  obtain rfl := hw
  refine hK _ _ ?_
  clear hK K
  refine list_val F (F.wants 81 false rfl (by kernel_rfl) rfl true rfl) rfl rfl (.bool false) (ex_bin .neq _ _ _ _ rfl .i64 _ _ (F.e rfl) rfl _ (b_neq (by decide))) ?_; clear F a; intro a F
  refine list_val F (wn rfl) rfl rfl (.bool false) (ex_pick_f _ _ _ rfl (F.e rfl) _ (F.e rfl)) ?_; clear F a; intro a F
  refine wpList_nil ?_
  replace F : Fr 183 a [(0, .agg (lifeArr s (.slice A ts.length c))), (1, .pointer (some ⟨g1, 0, none⟩)), (2, .bool false), (3, .pointer (some ⟨g3, 0, none⟩)), (4, .bool true), (5, .pointer (some ⟨g5, 0, none⟩)), (7, .int .i64 i), (8, .int .u64 ki.kid), (9, .pointer (some ⟨g9, 0, none⟩)), (10, .int .i64 0), (12, .int .i64 53), (14, .bool false), (26, .bool false), (36, .bool true), (85, .bool false)] := F.keep ⟨rfl, rfl, rfl, rfl, rfl, rfl, rfl, rfl, rfl, rfl, rfl, rfl, rfl, rfl, rfl, trivial⟩
  refine then_n ?_
  refine wp_cond_false (F.e rfl) ?_
  refine wp_skip ?_
  refine then_n ?_
  refine wp_seq ?_
  refine wp_seq ?_
  refine wp_region_lit ?_
  refine list_val F (wn rfl) rfl rfl (.int .i64 0) (ex_assign _ rfl _ rfl) ?_; clear F a; intro a F
  refine wpList_nil ?_
  replace F : Fr 183 a [(0, .agg (lifeArr s (.slice A ts.length c))), (1, .pointer (some ⟨g1, 0, none⟩)), (2, .bool false), (3, .pointer (some ⟨g3, 0, none⟩)), (4, .bool true), (5, .pointer (some ⟨g5, 0, none⟩)), (7, .int .i64 i), (8, .int .u64 ki.kid), (9, .pointer (some ⟨g9, 0, none⟩)), (10, .int .i64 0), (12, .int .i64 53), (14, .bool false), (15, .int .i64 0), (26, .bool false), (36, .bool true), (85, .bool false)] := F.keep ⟨rfl, rfl, rfl, rfl, rfl, rfl, rfl, rfl, rfl, rfl, rfl, rfl, rfl, rfl, rfl, rfl, trivial⟩
  refine then_n ?_
  refine wp_block ?_
  refine wp_loopN (fun mq ar wr => ∃ (j : Nat), Fr 183 ar [(0, .agg (lifeArr s (.slice A ts.length c))), (1, .pointer (some ⟨g1, 0, none⟩)), (2, .bool false), (3, .pointer (some ⟨g3, 0, none⟩)), (4, .bool true), (5, .pointer (some ⟨g5, 0, none⟩)), (7, .int .i64 i), (8, .int .u64 ki.kid), (9, .pointer (some ⟨g9, 0, none⟩)), (10, .int .i64 0), (12, .int .i64 53), (14, .bool false), (15, .int .i64 j), (26, .bool false), (36, .bool true), (85, .bool false)] ∧ Mm w wr [⟨g9, #[.slice A5 (init2.length + 1) c5, .int .u64 next2], 69⟩, ⟨g5, last.arr, 107⟩, ⟨g3, #[.slice (some ad) (init.length + 1) c3, .int .u64 next], 69⟩] ∧ RO wr (some ad) c3 ⟨init ++ [last], next⟩ ∧ RO wr A5 c5 ⟨init2 ++ [last2], next2⟩ ∧ j ≤ init.length + 1 ∧ mq + j = (init.length + 1)) (init.length + 1) ?_ ?_
  ·
   exact ⟨0, F.keep ⟨rfl, rfl, rfl, rfl, rfl, rfl, rfl, rfl, rfl, rfl, rfl, rfl, rfl, rfl, rfl, rfl, trivial⟩, (by refine M.pick' [2, 3, 4] _ ?_ (by decide); exact ⟨rfl, rfl, rfl, trivial⟩), O_r, O_x, (Nat.zero_le _), (by omega)⟩
  clear F M a O_r O_x
  rintro mq a v ⟨j, F, M, O_r, O_x, hj, hq⟩; try clear u
  by_cases hc2 : j < init.length + 1
  ·
   obtain ⟨ad', had, zm, _, _⟩ := at_Key (O_r.rk.1) (j : Int) (by omega) (by simp only [ring_len]; omega)
   obtain rfl := Option.some.inj had
   clear had
   rw [show (j : Int).toNat = j from rfl] at zm
   have hjl : j < (init ++ [last]).length := by simp only [ring_len]; exact hc2
   have hkj : rdK (init ++ [last]) (j : Int) ∈ init ++ [last] := by rw [rdK_eq hjl]; exact List.getElem_mem _
   have hjx := hix j hc2
   have hjy : j = i → rdK (init ++ [last]) (j : Int) = ki := fun e => by rw [e]; exact hkd
   generalize hkjd : rdK (init ++ [last]) (j : Int) = kj at zm hkj hjx hjy
   by_cases hji : j = i
   ·
    have hkk : kj.kid = ki.kid := by rw [hjy hji]
    refine wp_seq ?_
    refine wp_seq ?_
    refine wp_region_lit ?_
    refine list_val F (wn rfl) rfl rfl (.int .i64 j) (ex_move _ rfl _ (F.e rfl)) ?_; clear F a; intro a F
    refine list_val F (wn rfl) rfl rfl (.pointer (some ⟨g3, 0, none⟩)) (ex_fa _ _ _ rfl _ (F.e rfl) 0 cl_fa_69_0_0 ⟨g3, 0, none⟩ rfl) ?_; clear F a; intro a F
    refine list_val F (wn rfl) rfl rfl (.slice (some ad) (init.length + 1) c3) (ex_load _ _ rfl _ (F.e rfl) _ (lv1 cl_one_55 (M.cell (i := 2) rfl (j := 0) rfl))) ?_; clear F a; intro a F
    refine list_val F (wn rfl) rfl rfl (.int .i64 (((init.length + 1) : Nat) : Int)) (ex_len _ _ rfl 34 cl_sl_55_34 _ _ _ (F.e rfl)) ?_; clear F a; intro a F
    refine list_val F (wn rfl) rfl rfl (.bool true) (ex_bin .lss _ _ _ _ rfl .i64 _ _ (F.e rfl) (F.e rfl) _ (b_lss (decide_eq_true (by omega)))) ?_; clear F a; intro a F
    refine wpList_nil ?_
    replace F : Fr 183 a [(0, .agg (lifeArr s (.slice A ts.length c))), (1, .pointer (some ⟨g1, 0, none⟩)), (2, .bool false), (3, .pointer (some ⟨g3, 0, none⟩)), (4, .bool true), (5, .pointer (some ⟨g5, 0, none⟩)), (7, .int .i64 i), (8, .int .u64 ki.kid), (9, .pointer (some ⟨g9, 0, none⟩)), (10, .int .i64 0), (12, .int .i64 53), (14, .bool false), (15, .int .i64 j), (26, .bool false), (36, .bool true), (85, .bool false), (90, .bool true)] := F.keep ⟨rfl, rfl, rfl, rfl, rfl, rfl, rfl, rfl, rfl, rfl, rfl, rfl, rfl, rfl, rfl, rfl, rfl, trivial⟩
    refine then_n ?_
    refine wp_cond_true (F.e rfl) ?_
    refine wp_skip ?_
    refine then_n ?_
    refine wp_seq ?_
    refine wp_block ?_
    refine wp_seq ?_
    refine wp_only (fun ar wr => ∃ (g16 : Nat), Fr 183 ar [(0, .agg (lifeArr s (.slice A ts.length c))), (1, .pointer (some ⟨g1, 0, none⟩)), (2, .bool false), (3, .pointer (some ⟨g3, 0, none⟩)), (4, .bool true), (5, .pointer (some ⟨g5, 0, none⟩)), (7, .int .i64 i), (8, .int .u64 ki.kid), (9, .pointer (some ⟨g9, 0, none⟩)), (10, .int .i64 0), (12, .int .i64 53), (14, .bool false), (15, .int .i64 j), (16, .pointer (some ⟨g16, 0, none⟩)), (17, .bool false), (26, .bool false), (36, .bool true), (85, .bool false), (90, .bool true)] ∧ Mm w wr [⟨g16, zKey.arr, 107⟩, ⟨g9, #[.slice A5 (init2.length + 1) c5, .int .u64 next2], 69⟩, ⟨g5, last.arr, 107⟩, ⟨g3, #[.slice (some ad) (init.length + 1) c3, .int .u64 next], 69⟩] ∧ RO wr (some ad) c3 ⟨init ++ [last], next⟩ ∧ RO wr A5 c5 ⟨init2 ++ [last2], next2⟩ ∧ At wr (ad.add (j * 34)) kj.cs) ?_ ?_
    ·
     refine region_any cl_follows_mixedOrders M ?_; clear M; intro wD M hb
     replace O_r := O_r.below hb
     replace O_x := O_x.below hb
     replace zm := zm.below hb
     clear hb; try clear v
     have hS : Below wD.heap.size wD wD := Below.refl _ _; have MD := M
     have D_O_r := O_r
     have D_O_x := O_x
     have D_zm := zm
     refine any_val F 0 rfl (by kernel_rfl) (wn rfl) rfl rfl (.agg #[.slice A5 (init2.length + 1) c5, .int .u64 next2]) (fun w' hS' => ex_load _ _ rfl _ (F.e rfl) _ (lvr (cs := [.slice A5 (init2.length + 1) c5, .int .u64 next2]) cl_row_69_2 ((MD.below hS').at (i := 0) rfl))) hS ?_; clear F a; intro a F
     refine any_val F 1 rfl (by kernel_rfl) (wn rfl) rfl rfl (.pointer (some ⟨g3, 0, none⟩)) (fun w' hS' => ex_fa _ _ _ rfl _ (F.e rfl) 0 cl_fa_69_0_0 ⟨g3, 0, none⟩ rfl) hS ?_; clear F a; intro a F
     refine any_val F 2 rfl (by kernel_rfl) (wn rfl) rfl rfl (.slice (some ad) (init.length + 1) c3) (fun w' hS' => ex_load _ _ rfl _ (F.e rfl) _ (lv1 cl_one_55 ((MD.below hS').cell (i := 2) rfl (j := 0) rfl))) hS ?_; clear F a; intro a F
     refine any_val F 3 rfl (by kernel_rfl) (wn rfl) rfl rfl (.int .i64 j) (fun w' hS' => ex_move _ rfl _ (F.e rfl)) hS ?_; clear F a; intro a F
     refine any_val F 4 rfl (by kernel_rfl) (wn rfl) rfl rfl (.pointer (some (ad.add (j * 34)))) (fun w' hS' => ex_ix _ _ _ rfl 34 cl_sl_55_34 ad _ _ (F.e rfl) .i64 _ (F.e rfl) j rfl (by omega) (ad.add (j * 34)) rfl) hS ?_; clear F a; intro a F
     refine any_val F 5 rfl (by kernel_rfl) (wn rfl) rfl rfl (.pointer (some (ad.add (j * 34)))) (fun w' hS' => ex_fa _ _ _ rfl _ (F.e rfl) 0 cl_fa_107_0_0 (ad.add (j * 34)) rfl) hS ?_; clear F a; intro a F
     refine any_val F 6 rfl (by kernel_rfl) (wn rfl) rfl rfl (.int .u64 kj.kid) (fun w' hS' => ex_load _ _ rfl _ (F.e rfl) _ (lv1 cl_one_67 ((D_zm.below hS').cell 0 _ (Key.cs_0 _)))) hS ?_; clear F a; intro a F
     refine any_ready [7, 11] (by kernel_rfl) (by simp) ?_
     refine ready_do rfl (wn rfl) (fun K hK => ?_) ?_
     ·
      refine ow_call rfl rfl F 30 #[.agg #[.slice A5 (init2.length + 1) c5, .int .u64 next2], .int .u64 kj.kid] (ex_call 30 _ _ rfl rfl cl_ent_30 _ (map2 (F.e rfl) (F.e rfl))) (find_n _ _ _ O_x (by rw [hkk]; exact G.find_none)) (fun e v hR => ?_)
      obtain ⟨he, hb⟩ := hR
      refine ⟨.tuple #[.agg zKey.arr, .bool false], he, ?_⟩; clear he F a; intro a F
      refine hK _ _ (S_below hS hb) ?_
      replace hS := S_below hS hb
      clear hK K
      replace O_r := O_r.below hb
      replace O_x := O_x.below hb
      replace zm := zm.below hb
      replace M := M.below hb; clear hb; try clear wD
      refine any_val F 8 rfl (by kernel_rfl) (wn rfl) rfl rfl (.tuple #[.agg zKey.arr, .bool false]) (fun w' hS' => ex_move _ rfl _ (F.e rfl)) hS ?_; clear F a; intro a F
      refine any_val F 9 rfl (by kernel_rfl) (wn rfl) rfl rfl (.agg zKey.arr) (fun w' hS' => ex_extract _ _ rfl _ (F.e rfl) _ rfl) hS ?_; clear F a; intro a F
      refine any_val F 10 rfl (by kernel_rfl) (wn rfl) rfl rfl (.bool false) (fun w' hS' => ex_extract _ _ rfl _ (F.e rfl) _ rfl) hS ?_; clear F a; intro a F
      refine any_ready [11] (by kernel_rfl) (by simp) ?_
      refine ready_do rfl (wn rfl) (fun K hK => ?_) AllReadyH.nil
      refine ow_alloc F M rfl rfl 107 rfl (.agg zKey.arr) zero107 zKey.arr rfl ?_
      clear F M a; intro a g16 u F M hb hg
      have los_g16 := Nat.le_trans hS.size hg
      refine hK _ _ (S_below hS hb) ?_
      replace hS := S_below hS hb
      clear hK K
      have K_O_r := O_r
      have K_O_x := O_x
      have K_zm := zm
      replace O_r := O_r.below hb
      replace O_x := O_x.below hb
      replace zm := zm.below hb
      have hz_g16 := hb; have lo_g16 := hg
      clear hb hg; try clear v
      refine any_ready [12] (by kernel_rfl) (by simp) ?_
      refine ready_do rfl (wn rfl) (fun K hK => ?_) AllReadyH.nil
      refine ow_put F M rfl 107 _ _ rfl 0 _ zKey.arr _ rfl (F.e rfl) zKey.arr (F.e rfl) (by rw [Key.arr_size]; exact info107) (by simp only [Key.arr_size]) (Key.arr_one _) ?_
      clear F a; have Mo := M; clear M; intro a v F M hgr
      refine hK _ _ (S_grown hS hgr los_g16) ?_
      replace hS := S_grown hS hgr los_g16
      clear hK K
      have hzz := S_grown hz_g16 hgr lo_g16
      replace O_r := K_O_r.below hzz
      replace O_x := K_O_x.below hzz
      replace zm := K_zm.below hzz
      clear hzz hz_g16 lo_g16 K_O_r K_O_x K_zm
      clear Mo hgr; try clear u
      replace M : Mm w v [⟨g16, zKey.arr, 107⟩, ⟨g9, #[.slice A5 (init2.length + 1) c5, .int .u64 next2], 69⟩, ⟨g5, last.arr, 107⟩, ⟨g3, #[.slice (some ad) (init.length + 1) c3, .int .u64 next], 69⟩] := M
      refine any_val F 13 rfl (by kernel_rfl) (wn rfl) rfl rfl (.bool false) (fun w' hS' => ex_assign _ rfl _ (F.e rfl)) hS ?_; clear F a; intro a F
      refine any_done (by kernel_rfl) ?_
      exact ⟨g16, F.keep ⟨rfl, rfl, rfl, rfl, rfl, rfl, rfl, rfl, rfl, rfl, rfl, rfl, rfl, rfl, rfl, rfl, rfl, rfl, rfl, trivial⟩, (by refine M.pick' [0, 1, 2, 3] _ ?_ (by decide); exact ⟨rfl, rfl, rfl, rfl, trivial⟩), O_r, O_x, zm⟩
     refine ready_do rfl (wn rfl) (fun K hK => ?_) AllReadyH.nil
     refine ow_alloc F M rfl rfl 107 rfl (.agg zKey.arr) zero107 zKey.arr rfl ?_
     clear F M a; intro a g16 v F M hb hg
     have los_g16 := Nat.le_trans hS.size hg
     refine hK _ _ (S_below hS hb) ?_
     replace hS := S_below hS hb
     clear hK K
     have K_O_r := O_r
     have K_O_x := O_x
     have K_zm := zm
     replace O_r := O_r.below hb
     replace O_x := O_x.below hb
     replace zm := zm.below hb
     have hz_g16 := hb; have lo_g16 := hg
     clear hb hg; try clear wD
     refine any_ready [7] (by kernel_rfl) (by simp) ?_
     refine ready_do rfl (wn rfl) (fun K hK => ?_) AllReadyH.nil
     refine ow_call rfl rfl F 30 #[.agg #[.slice A5 (init2.length + 1) c5, .int .u64 next2], .int .u64 kj.kid] (ex_call 30 _ _ rfl rfl cl_ent_30 _ (map2 (F.e rfl) (F.e rfl))) (find_n _ _ _ O_x (by rw [hkk]; exact G.find_none)) (fun e u hR => ?_)
     obtain ⟨he, hb⟩ := hR
     refine ⟨.tuple #[.agg zKey.arr, .bool false], he, ?_⟩; clear he F a; intro a F
     refine hK _ _ (S_below hS hb) ?_
     replace hS := S_below hS hb
     clear hK K
     replace O_r := O_r.below hb
     replace O_x := O_x.below hb
     replace zm := zm.below hb
     replace hz_g16 := S_below hz_g16 hb
     replace M := M.below hb; clear hb; try clear v
     refine any_val F 8 rfl (by kernel_rfl) (wn rfl) rfl rfl (.tuple #[.agg zKey.arr, .bool false]) (fun w' hS' => ex_move _ rfl _ (F.e rfl)) hS ?_; clear F a; intro a F
     refine any_val F 9 rfl (by kernel_rfl) (wn rfl) rfl rfl (.agg zKey.arr) (fun w' hS' => ex_extract _ _ rfl _ (F.e rfl) _ rfl) hS ?_; clear F a; intro a F
     refine any_val F 10 rfl (by kernel_rfl) (wn rfl) rfl rfl (.bool false) (fun w' hS' => ex_extract _ _ rfl _ (F.e rfl) _ rfl) hS ?_; clear F a; intro a F
     refine any_ready [12] (by kernel_rfl) (by simp) ?_
     refine ready_do rfl (wn rfl) (fun K hK => ?_) AllReadyH.nil
     refine ow_put F M rfl 107 _ _ rfl 0 _ zKey.arr _ rfl (F.e rfl) zKey.arr (F.e rfl) (by rw [Key.arr_size]; exact info107) (by simp only [Key.arr_size]) (Key.arr_one _) ?_
     clear F a; have Mo := M; clear M; intro a v F M hgr
     refine hK _ _ (S_grown hS hgr los_g16) ?_
     replace hS := S_grown hS hgr los_g16
     clear hK K
     have hzz := S_grown hz_g16 hgr lo_g16
     replace O_r := K_O_r.below hzz
     replace O_x := K_O_x.below hzz
     replace zm := K_zm.below hzz
     clear hzz hz_g16 lo_g16 K_O_r K_O_x K_zm
     clear Mo hgr; try clear u
     replace M : Mm w v [⟨g16, zKey.arr, 107⟩, ⟨g9, #[.slice A5 (init2.length + 1) c5, .int .u64 next2], 69⟩, ⟨g5, last.arr, 107⟩, ⟨g3, #[.slice (some ad) (init.length + 1) c3, .int .u64 next], 69⟩] := M
     refine any_val F 13 rfl (by kernel_rfl) (wn rfl) rfl rfl (.bool false) (fun w' hS' => ex_assign _ rfl _ (F.e rfl)) hS ?_; clear F a; intro a F
     refine any_done (by kernel_rfl) ?_
     exact ⟨g16, F.keep ⟨rfl, rfl, rfl, rfl, rfl, rfl, rfl, rfl, rfl, rfl, rfl, rfl, rfl, rfl, rfl, rfl, rfl, rfl, rfl, trivial⟩, (by refine M.pick' [0, 1, 2, 3] _ ?_ (by decide); exact ⟨rfl, rfl, rfl, rfl, trivial⟩), O_r, O_x, zm⟩
    clear F M a O_r O_x zm
    intro a u hR; obtain ⟨g16, F, M, O_r, O_x, zm⟩ := hR; try clear v
    refine then_n ?_
    refine wp_seq ?_
    refine region_tail 15 cl_follows_mixedOrders (by kernel_rfl) M ?_; clear M; intro v M hb
    replace O_r := O_r.below hb
    replace O_x := O_x.below hb
    replace zm := zm.below hb
    clear hb; try clear u
    refine still_val F (wn rfl) rfl rfl (.int .i64 j) (ex_move _ rfl _ (F.e rfl)) ?_; clear F a; intro a F
    refine still_val F (wn rfl) rfl rfl (.int .i64 i) (ex_move _ rfl _ (F.e rfl)) ?_; clear F a; intro a F
    refine still_val F (wn rfl) rfl rfl (.bool false) (ex_bin .neq _ _ _ _ rfl .i64 _ _ (F.e rfl) (F.e rfl) _ (b_neq (by simp [hji]))) ?_; clear F a; intro a F
    refine still_val F (wn rfl) rfl rfl (.bool false) (ex_move _ rfl _ (F.e rfl)) ?_; clear F a; intro a F
    refine still_skip F (F.wants 107 false rfl (by kernel_rfl) rfl false rfl) rfl rfl ?_; clear F a; intro a F
    refine still_skip F (F.wants 107 false rfl (by kernel_rfl) rfl false rfl) rfl rfl ?_; clear F a; intro a F
    refine still_skip F (F.wants 107 false rfl (by kernel_rfl) rfl false rfl) rfl rfl ?_; clear F a; intro a F
    refine still_skip F (F.wants0 110 rfl (by kernel_rfl) rfl) rfl rfl ?_; clear F a; intro a F
    refine still_skip F (F.wants0 110 rfl (by kernel_rfl) rfl) rfl rfl ?_; clear F a; intro a F
    refine still_skip F (F.wants0 110 rfl (by kernel_rfl) rfl) rfl rfl ?_; clear F a; intro a F
    refine still_skip F (F.wants0 110 rfl (by kernel_rfl) rfl) rfl rfl ?_; clear F a; intro a F
    refine still_skip F (F.wants0 110 rfl (by kernel_rfl) rfl) rfl rfl ?_; clear F a; intro a F
    refine still_skip F (F.wants0 110 rfl (by kernel_rfl) rfl) rfl rfl ?_; clear F a; intro a F
    refine still_skip F (F.wants0 110 rfl (by kernel_rfl) rfl) rfl rfl ?_; clear F a; intro a F
    refine still_skip F (F.wants 107 false rfl (by kernel_rfl) rfl false rfl) rfl rfl ?_; clear F a; intro a F
    refine still_end ?_
    refine list_val F (wn rfl) rfl rfl (.bool false) (ex_pick_f _ _ _ rfl (F.e rfl) _ rfl) ?_; clear F a; intro a F
    refine wpList_nil ?_
    replace F : Fr 183 a [(0, .agg (lifeArr s (.slice A ts.length c))), (1, .pointer (some ⟨g1, 0, none⟩)), (2, .bool false), (3, .pointer (some ⟨g3, 0, none⟩)), (4, .bool true), (5, .pointer (some ⟨g5, 0, none⟩)), (7, .int .i64 i), (8, .int .u64 ki.kid), (9, .pointer (some ⟨g9, 0, none⟩)), (10, .int .i64 0), (12, .int .i64 53), (14, .bool false), (15, .int .i64 j), (16, .pointer (some ⟨g16, 0, none⟩)), (17, .bool false), (26, .bool false), (36, .bool true), (85, .bool false), (90, .bool true), (119, .bool false)] := F.keep ⟨rfl, rfl, rfl, rfl, rfl, rfl, rfl, rfl, rfl, rfl, rfl, rfl, rfl, rfl, rfl, rfl, rfl, rfl, rfl, rfl, trivial⟩
    refine then_n ?_
    refine wp_cond_false (F.e rfl) ?_
    refine wp_skip ?_
    refine in_n ?_
    refine then_n ?_
    refine wp_region_lit ?_
    refine list_val F (wn rfl) rfl rfl (.int .i64 j) (ex_move _ rfl _ (F.e rfl)) ?_; clear F a; intro a F
    refine list_val F (wn rfl) rfl rfl (.int .i64 (j + 1)) (ex_bin .add _ _ _ _ rfl .i64 _ _ (F.e rfl) rfl _ (b_add (w_i64 (by omega) (by omega)))) ?_; clear F a; intro a F
    refine list_val F (wn rfl) rfl rfl (.int .i64 (j + 1)) (ex_assign _ rfl _ (F.e rfl)) ?_; clear F a; intro a F
    refine wpList_nil ?_
    replace F : Fr 183 a [(0, .agg (lifeArr s (.slice A ts.length c))), (1, .pointer (some ⟨g1, 0, none⟩)), (2, .bool false), (3, .pointer (some ⟨g3, 0, none⟩)), (4, .bool true), (5, .pointer (some ⟨g5, 0, none⟩)), (7, .int .i64 i), (8, .int .u64 ki.kid), (9, .pointer (some ⟨g9, 0, none⟩)), (10, .int .i64 0), (12, .int .i64 53), (14, .bool false), (15, .int .i64 (j + 1)), (16, .pointer (some ⟨g16, 0, none⟩)), (17, .bool false), (26, .bool false), (36, .bool true), (85, .bool false), (90, .bool true), (119, .bool false)] := F.keep ⟨rfl, rfl, rfl, rfl, rfl, rfl, rfl, rfl, rfl, rfl, rfl, rfl, rfl, rfl, rfl, rfl, rfl, rfl, rfl, rfl, trivial⟩
    refine then_n ?_
    exact ⟨(init.length + 1) - (j + 1), by omega, (j + 1), F.keep ⟨rfl, rfl, rfl, rfl, rfl, rfl, rfl, rfl, rfl, rfl, rfl, rfl, rfl, rfl, rfl, rfl, trivial⟩, (by refine M.pick' [1, 2, 3] _ ?_ (by decide); exact ⟨rfl, rfl, rfl, trivial⟩), O_r, O_x, (by omega), (by omega)⟩
   have hnk : kj ≠ ki := fun e => hji (hjx e)
   refine wp_seq ?_
   refine wp_seq ?_
   refine wp_region_lit ?_
   refine list_val F (wn rfl) rfl rfl (.int .i64 j) (ex_move _ rfl _ (F.e rfl)) ?_; clear F a; intro a F
   refine list_val F (wn rfl) rfl rfl (.pointer (some ⟨g3, 0, none⟩)) (ex_fa _ _ _ rfl _ (F.e rfl) 0 cl_fa_69_0_0 ⟨g3, 0, none⟩ rfl) ?_; clear F a; intro a F
   refine list_val F (wn rfl) rfl rfl (.slice (some ad) (init.length + 1) c3) (ex_load _ _ rfl _ (F.e rfl) _ (lv1 cl_one_55 (M.cell (i := 2) rfl (j := 0) rfl))) ?_; clear F a; intro a F
   refine list_val F (wn rfl) rfl rfl (.int .i64 (((init.length + 1) : Nat) : Int)) (ex_len _ _ rfl 34 cl_sl_55_34 _ _ _ (F.e rfl)) ?_; clear F a; intro a F
   refine list_val F (wn rfl) rfl rfl (.bool true) (ex_bin .lss _ _ _ _ rfl .i64 _ _ (F.e rfl) (F.e rfl) _ (b_lss (decide_eq_true (by omega)))) ?_; clear F a; intro a F
   refine wpList_nil ?_
   replace F : Fr 183 a [(0, .agg (lifeArr s (.slice A ts.length c))), (1, .pointer (some ⟨g1, 0, none⟩)), (2, .bool false), (3, .pointer (some ⟨g3, 0, none⟩)), (4, .bool true), (5, .pointer (some ⟨g5, 0, none⟩)), (7, .int .i64 i), (8, .int .u64 ki.kid), (9, .pointer (some ⟨g9, 0, none⟩)), (10, .int .i64 0), (12, .int .i64 53), (14, .bool false), (15, .int .i64 j), (26, .bool false), (36, .bool true), (85, .bool false), (90, .bool true)] := F.keep ⟨rfl, rfl, rfl, rfl, rfl, rfl, rfl, rfl, rfl, rfl, rfl, rfl, rfl, rfl, rfl, rfl, rfl, trivial⟩
   refine then_n ?_
   refine wp_cond_true (F.e rfl) ?_
   refine wp_skip ?_
   refine then_n ?_
   refine wp_seq ?_
   refine wp_block ?_
   refine wp_seq ?_
   refine wp_only (fun ar wr => ∃ (g16 : Nat), Fr 183 ar [(0, .agg (lifeArr s (.slice A ts.length c))), (1, .pointer (some ⟨g1, 0, none⟩)), (2, .bool false), (3, .pointer (some ⟨g3, 0, none⟩)), (4, .bool true), (5, .pointer (some ⟨g5, 0, none⟩)), (7, .int .i64 i), (8, .int .u64 ki.kid), (9, .pointer (some ⟨g9, 0, none⟩)), (10, .int .i64 0), (12, .int .i64 53), (14, .bool false), (15, .int .i64 j), (16, .pointer (some ⟨g16, 0, none⟩)), (17, .bool true), (26, .bool false), (36, .bool true), (85, .bool false), (90, .bool true)] ∧ Mm w wr [⟨g16, kj.arr, 107⟩, ⟨g9, #[.slice A5 (init2.length + 1) c5, .int .u64 next2], 69⟩, ⟨g5, last.arr, 107⟩, ⟨g3, #[.slice (some ad) (init.length + 1) c3, .int .u64 next], 69⟩] ∧ RO wr (some ad) c3 ⟨init ++ [last], next⟩ ∧ RO wr A5 c5 ⟨init2 ++ [last2], next2⟩ ∧ At wr (ad.add (j * 34)) kj.cs) ?_ ?_
   ·
    refine region_any cl_follows_mixedOrders M ?_; clear M; intro wD M hb
    replace O_r := O_r.below hb
    replace O_x := O_x.below hb
    replace zm := zm.below hb
    clear hb; try clear v
    have hS : Below wD.heap.size wD wD := Below.refl _ _; have MD := M
    have D_O_r := O_r
    have D_O_x := O_x
    have D_zm := zm
    refine any_val F 0 rfl (by kernel_rfl) (wn rfl) rfl rfl (.agg #[.slice A5 (init2.length + 1) c5, .int .u64 next2]) (fun w' hS' => ex_load _ _ rfl _ (F.e rfl) _ (lvr (cs := [.slice A5 (init2.length + 1) c5, .int .u64 next2]) cl_row_69_2 ((MD.below hS').at (i := 0) rfl))) hS ?_; clear F a; intro a F
    refine any_val F 1 rfl (by kernel_rfl) (wn rfl) rfl rfl (.pointer (some ⟨g3, 0, none⟩)) (fun w' hS' => ex_fa _ _ _ rfl _ (F.e rfl) 0 cl_fa_69_0_0 ⟨g3, 0, none⟩ rfl) hS ?_; clear F a; intro a F
    refine any_val F 2 rfl (by kernel_rfl) (wn rfl) rfl rfl (.slice (some ad) (init.length + 1) c3) (fun w' hS' => ex_load _ _ rfl _ (F.e rfl) _ (lv1 cl_one_55 ((MD.below hS').cell (i := 2) rfl (j := 0) rfl))) hS ?_; clear F a; intro a F
    refine any_val F 3 rfl (by kernel_rfl) (wn rfl) rfl rfl (.int .i64 j) (fun w' hS' => ex_move _ rfl _ (F.e rfl)) hS ?_; clear F a; intro a F
    refine any_val F 4 rfl (by kernel_rfl) (wn rfl) rfl rfl (.pointer (some (ad.add (j * 34)))) (fun w' hS' => ex_ix _ _ _ rfl 34 cl_sl_55_34 ad _ _ (F.e rfl) .i64 _ (F.e rfl) j rfl (by omega) (ad.add (j * 34)) rfl) hS ?_; clear F a; intro a F
    refine any_val F 5 rfl (by kernel_rfl) (wn rfl) rfl rfl (.pointer (some (ad.add (j * 34)))) (fun w' hS' => ex_fa _ _ _ rfl _ (F.e rfl) 0 cl_fa_107_0_0 (ad.add (j * 34)) rfl) hS ?_; clear F a; intro a F
    refine any_val F 6 rfl (by kernel_rfl) (wn rfl) rfl rfl (.int .u64 kj.kid) (fun w' hS' => ex_load _ _ rfl _ (F.e rfl) _ (lv1 cl_one_67 ((D_zm.below hS').cell 0 _ (Key.cs_0 _)))) hS ?_; clear F a; intro a F
    refine any_ready [7, 11] (by kernel_rfl) (by simp) ?_
    refine ready_do rfl (wn rfl) (fun K hK => ?_) ?_
    ·
     refine ow_call rfl rfl F 30 #[.agg #[.slice A5 (init2.length + 1) c5, .int .u64 next2], .int .u64 kj.kid] (ex_call 30 _ _ rfl rfl cl_ent_30 _ (map2 (F.e rfl) (F.e rfl))) (find_y _ _ _ O_x (G.find hkj hnk) (hR.ne_zero hkj)) (fun e v hR => ?_)
     obtain ⟨he, hb⟩ := hR
     refine ⟨.tuple #[.agg kj.arr, .bool true], he, ?_⟩; clear he F a; intro a F
     refine hK _ _ (S_below hS hb) ?_
     replace hS := S_below hS hb
     clear hK K
     replace O_r := O_r.below hb
     replace O_x := O_x.below hb
     replace zm := zm.below hb
     replace M := M.below hb; clear hb; try clear wD
     refine any_val F 8 rfl (by kernel_rfl) (wn rfl) rfl rfl (.tuple #[.agg kj.arr, .bool true]) (fun w' hS' => ex_move _ rfl _ (F.e rfl)) hS ?_; clear F a; intro a F
     refine any_val F 9 rfl (by kernel_rfl) (wn rfl) rfl rfl (.agg kj.arr) (fun w' hS' => ex_extract _ _ rfl _ (F.e rfl) _ rfl) hS ?_; clear F a; intro a F
     refine any_val F 10 rfl (by kernel_rfl) (wn rfl) rfl rfl (.bool true) (fun w' hS' => ex_extract _ _ rfl _ (F.e rfl) _ rfl) hS ?_; clear F a; intro a F
     refine any_ready [11] (by kernel_rfl) (by simp) ?_
     refine ready_do rfl (wn rfl) (fun K hK => ?_) AllReadyH.nil
     refine ow_alloc F M rfl rfl 107 rfl (.agg zKey.arr) zero107 zKey.arr rfl ?_
     clear F M a; intro a g16 u F M hb hg
     have los_g16 := Nat.le_trans hS.size hg
     refine hK _ _ (S_below hS hb) ?_
     replace hS := S_below hS hb
     clear hK K
     have K_O_r := O_r
     have K_O_x := O_x
     have K_zm := zm
     replace O_r := O_r.below hb
     replace O_x := O_x.below hb
     replace zm := zm.below hb
     have hz_g16 := hb; have lo_g16 := hg
     clear hb hg; try clear v
     refine any_ready [12] (by kernel_rfl) (by simp) ?_
     refine ready_do rfl (wn rfl) (fun K hK => ?_) AllReadyH.nil
     refine ow_put F M rfl 107 _ _ rfl 0 _ zKey.arr _ rfl (F.e rfl) kj.arr (F.e rfl) (by rw [Key.arr_size]; exact info107) (by simp only [Key.arr_size]) (Key.arr_one _) ?_
     clear F a; have Mo := M; clear M; intro a v F M hgr
     refine hK _ _ (S_grown hS hgr los_g16) ?_
     replace hS := S_grown hS hgr los_g16
     clear hK K
     have hzz := S_grown hz_g16 hgr lo_g16
     replace O_r := K_O_r.below hzz
     replace O_x := K_O_x.below hzz
     replace zm := K_zm.below hzz
     clear hzz hz_g16 lo_g16 K_O_r K_O_x K_zm
     clear Mo hgr; try clear u
     replace M : Mm w v [⟨g16, kj.arr, 107⟩, ⟨g9, #[.slice A5 (init2.length + 1) c5, .int .u64 next2], 69⟩, ⟨g5, last.arr, 107⟩, ⟨g3, #[.slice (some ad) (init.length + 1) c3, .int .u64 next], 69⟩] := M
     refine any_val F 13 rfl (by kernel_rfl) (wn rfl) rfl rfl (.bool true) (fun w' hS' => ex_assign _ rfl _ (F.e rfl)) hS ?_; clear F a; intro a F
     refine any_done (by kernel_rfl) ?_
     exact ⟨g16, F.keep ⟨rfl, rfl, rfl, rfl, rfl, rfl, rfl, rfl, rfl, rfl, rfl, rfl, rfl, rfl, rfl, rfl, rfl, rfl, rfl, trivial⟩, (by refine M.pick' [0, 1, 2, 3] _ ?_ (by decide); exact ⟨rfl, rfl, rfl, rfl, trivial⟩), O_r, O_x, zm⟩
    refine ready_do rfl (wn rfl) (fun K hK => ?_) AllReadyH.nil
    refine ow_alloc F M rfl rfl 107 rfl (.agg zKey.arr) zero107 zKey.arr rfl ?_
    clear F M a; intro a g16 v F M hb hg
    have los_g16 := Nat.le_trans hS.size hg
    refine hK _ _ (S_below hS hb) ?_
    replace hS := S_below hS hb
    clear hK K
    have K_O_r := O_r
    have K_O_x := O_x
    have K_zm := zm
    replace O_r := O_r.below hb
    replace O_x := O_x.below hb
    replace zm := zm.below hb
    have hz_g16 := hb; have lo_g16 := hg
    clear hb hg; try clear wD
    refine any_ready [7] (by kernel_rfl) (by simp) ?_
    refine ready_do rfl (wn rfl) (fun K hK => ?_) AllReadyH.nil
    refine ow_call rfl rfl F 30 #[.agg #[.slice A5 (init2.length + 1) c5, .int .u64 next2], .int .u64 kj.kid] (ex_call 30 _ _ rfl rfl cl_ent_30 _ (map2 (F.e rfl) (F.e rfl))) (find_y _ _ _ O_x (G.find hkj hnk) (hR.ne_zero hkj)) (fun e u hR => ?_)
    obtain ⟨he, hb⟩ := hR
    refine ⟨.tuple #[.agg kj.arr, .bool true], he, ?_⟩; clear he F a; intro a F
    refine hK _ _ (S_below hS hb) ?_
    replace hS := S_below hS hb
    clear hK K
    replace O_r := O_r.below hb
    replace O_x := O_x.below hb
    replace zm := zm.below hb
    replace hz_g16 := S_below hz_g16 hb
    replace M := M.below hb; clear hb; try clear v
    refine any_val F 8 rfl (by kernel_rfl) (wn rfl) rfl rfl (.tuple #[.agg kj.arr, .bool true]) (fun w' hS' => ex_move _ rfl _ (F.e rfl)) hS ?_; clear F a; intro a F
    refine any_val F 9 rfl (by kernel_rfl) (wn rfl) rfl rfl (.agg kj.arr) (fun w' hS' => ex_extract _ _ rfl _ (F.e rfl) _ rfl) hS ?_; clear F a; intro a F
    refine any_val F 10 rfl (by kernel_rfl) (wn rfl) rfl rfl (.bool true) (fun w' hS' => ex_extract _ _ rfl _ (F.e rfl) _ rfl) hS ?_; clear F a; intro a F
    refine any_ready [12] (by kernel_rfl) (by simp) ?_
    refine ready_do rfl (wn rfl) (fun K hK => ?_) AllReadyH.nil
    refine ow_put F M rfl 107 _ _ rfl 0 _ zKey.arr _ rfl (F.e rfl) kj.arr (F.e rfl) (by rw [Key.arr_size]; exact info107) (by simp only [Key.arr_size]) (Key.arr_one _) ?_
    clear F a; have Mo := M; clear M; intro a v F M hgr
    refine hK _ _ (S_grown hS hgr los_g16) ?_
    replace hS := S_grown hS hgr los_g16
    clear hK K
    have hzz := S_grown hz_g16 hgr lo_g16
    replace O_r := K_O_r.below hzz
    replace O_x := K_O_x.below hzz
    replace zm := K_zm.below hzz
    clear hzz hz_g16 lo_g16 K_O_r K_O_x K_zm
    clear Mo hgr; try clear u
    replace M : Mm w v [⟨g16, kj.arr, 107⟩, ⟨g9, #[.slice A5 (init2.length + 1) c5, .int .u64 next2], 69⟩, ⟨g5, last.arr, 107⟩, ⟨g3, #[.slice (some ad) (init.length + 1) c3, .int .u64 next], 69⟩] := M
    refine any_val F 13 rfl (by kernel_rfl) (wn rfl) rfl rfl (.bool true) (fun w' hS' => ex_assign _ rfl _ (F.e rfl)) hS ?_; clear F a; intro a F
    refine any_done (by kernel_rfl) ?_
    exact ⟨g16, F.keep ⟨rfl, rfl, rfl, rfl, rfl, rfl, rfl, rfl, rfl, rfl, rfl, rfl, rfl, rfl, rfl, rfl, rfl, rfl, rfl, trivial⟩, (by refine M.pick' [0, 1, 2, 3] _ ?_ (by decide); exact ⟨rfl, rfl, rfl, rfl, trivial⟩), O_r, O_x, zm⟩
   clear F M a O_r O_x zm
   intro a u hR; obtain ⟨g16, F, M, O_r, O_x, zm⟩ := hR; try clear v
   refine then_n ?_
   refine wp_seq ?_
   refine region_tail 15 cl_follows_mixedOrders (by kernel_rfl) M ?_; clear M; intro v M hb
   replace O_r := O_r.below hb
   replace O_x := O_x.below hb
   replace zm := zm.below hb
   clear hb; try clear u
   refine still_val F (wn rfl) rfl rfl (.int .i64 j) (ex_move _ rfl _ (F.e rfl)) ?_; clear F a; intro a F
   refine still_val F (wn rfl) rfl rfl (.int .i64 i) (ex_move _ rfl _ (F.e rfl)) ?_; clear F a; intro a F
   refine still_val F (wn rfl) rfl rfl (.bool true) (ex_bin .neq _ _ _ _ rfl .i64 _ _ (F.e rfl) (F.e rfl) _ (b_neq (by simp; omega))) ?_; clear F a; intro a F
   refine still_val F (wn rfl) rfl rfl (.bool true) (ex_move _ rfl _ (F.e rfl)) ?_; clear F a; intro a F
   refine still_val F (F.wants 107 true rfl (by kernel_rfl) rfl true rfl) rfl rfl (.bool true) (ex_move _ rfl _ (F.e rfl)) ?_; clear F a; intro a F
   refine still_val F (F.wants 107 true rfl (by kernel_rfl) rfl true rfl) rfl rfl (.bool false) (ex_not _ _ rfl _ (F.e rfl) _ rfl) ?_; clear F a; intro a F
   refine still_val F (F.wants 107 true rfl (by kernel_rfl) rfl true rfl) rfl rfl (.bool false) (ex_move _ rfl _ (F.e rfl)) ?_; clear F a; intro a F
   refine still_val F (F.wants 110 false rfl (by kernel_rfl) rfl true rfl) rfl rfl (.agg kj.arr) (ex_load _ _ rfl _ (F.e rfl) _ (lvr (cs := kj.cs) (by rw [Key.cs_len]; exact cl_row_107_34) (M.at (i := 0) rfl))) ?_; clear F a; intro a F
   refine still_val F (F.wants 110 false rfl (by kernel_rfl) rfl true rfl) rfl rfl (.pointer (some ⟨g3, 0, none⟩)) (ex_fa _ _ _ rfl _ (F.e rfl) 0 cl_fa_69_0_0 ⟨g3, 0, none⟩ rfl) ?_; clear F a; intro a F
   refine still_val F (F.wants 110 false rfl (by kernel_rfl) rfl true rfl) rfl rfl (.slice (some ad) (init.length + 1) c3) (ex_load _ _ rfl _ (F.e rfl) _ (lv1 cl_one_55 (M.cell (i := 3) rfl (j := 0) rfl))) ?_; clear F a; intro a F
   refine still_val F (F.wants 110 false rfl (by kernel_rfl) rfl true rfl) rfl rfl (.int .i64 j) (ex_move _ rfl _ (F.e rfl)) ?_; clear F a; intro a F
   refine still_val F (F.wants 110 false rfl (by kernel_rfl) rfl true rfl) rfl rfl (.pointer (some (ad.add (j * 34)))) (ex_ix _ _ _ rfl 34 cl_sl_55_34 ad _ _ (F.e rfl) .i64 _ (F.e rfl) j rfl (by omega) (ad.add (j * 34)) rfl) ?_; clear F a; intro a F
   refine still_val F (F.wants 110 false rfl (by kernel_rfl) rfl true rfl) rfl rfl (.agg kj.arr) (ex_load _ _ rfl _ (F.e rfl) _ (lvr (cs := kj.cs) (by rw [Key.cs_len]; exact cl_row_107_34) (zm))) ?_; clear F a; intro a F
   refine still_val F (F.wants 110 false rfl (by kernel_rfl) rfl true rfl) rfl rfl (.bool false) (ex_neqk _ _ _ rfl kj kj (F.e rfl) (F.e rfl) false (by simp)) ?_; clear F a; intro a F
   refine still_val F (F.wants 107 true rfl (by kernel_rfl) rfl true rfl) rfl rfl (.bool false) (ex_pick_f _ _ _ rfl (F.e rfl) _ (F.e rfl)) ?_; clear F a; intro a F
   refine still_end ?_
   refine list_val F (wn rfl) rfl rfl (.bool false) (ex_pick_t _ _ _ rfl (F.e rfl) _ (F.e rfl)) ?_; clear F a; intro a F
   refine wpList_nil ?_
   replace F : Fr 183 a [(0, .agg (lifeArr s (.slice A ts.length c))), (1, .pointer (some ⟨g1, 0, none⟩)), (2, .bool false), (3, .pointer (some ⟨g3, 0, none⟩)), (4, .bool true), (5, .pointer (some ⟨g5, 0, none⟩)), (7, .int .i64 i), (8, .int .u64 ki.kid), (9, .pointer (some ⟨g9, 0, none⟩)), (10, .int .i64 0), (12, .int .i64 53), (14, .bool false), (15, .int .i64 j), (16, .pointer (some ⟨g16, 0, none⟩)), (17, .bool true), (26, .bool false), (36, .bool true), (85, .bool false), (90, .bool true), (119, .bool false)] := F.keep ⟨rfl, rfl, rfl, rfl, rfl, rfl, rfl, rfl, rfl, rfl, rfl, rfl, rfl, rfl, rfl, rfl, rfl, rfl, rfl, rfl, trivial⟩
   refine then_n ?_
   refine wp_cond_false (F.e rfl) ?_
   refine wp_skip ?_
   refine in_n ?_
   refine then_n ?_
   refine wp_region_lit ?_
   refine list_val F (wn rfl) rfl rfl (.int .i64 j) (ex_move _ rfl _ (F.e rfl)) ?_; clear F a; intro a F
   refine list_val F (wn rfl) rfl rfl (.int .i64 (j + 1)) (ex_bin .add _ _ _ _ rfl .i64 _ _ (F.e rfl) rfl _ (b_add (w_i64 (by omega) (by omega)))) ?_; clear F a; intro a F
   refine list_val F (wn rfl) rfl rfl (.int .i64 (j + 1)) (ex_assign _ rfl _ (F.e rfl)) ?_; clear F a; intro a F
   refine wpList_nil ?_
   replace F : Fr 183 a [(0, .agg (lifeArr s (.slice A ts.length c))), (1, .pointer (some ⟨g1, 0, none⟩)), (2, .bool false), (3, .pointer (some ⟨g3, 0, none⟩)), (4, .bool true), (5, .pointer (some ⟨g5, 0, none⟩)), (7, .int .i64 i), (8, .int .u64 ki.kid), (9, .pointer (some ⟨g9, 0, none⟩)), (10, .int .i64 0), (12, .int .i64 53), (14, .bool false), (15, .int .i64 (j + 1)), (16, .pointer (some ⟨g16, 0, none⟩)), (17, .bool true), (26, .bool false), (36, .bool true), (85, .bool false), (90, .bool true), (119, .bool false)] := F.keep ⟨rfl, rfl, rfl, rfl, rfl, rfl, rfl, rfl, rfl, rfl, rfl, rfl, rfl, rfl, rfl, rfl, rfl, rfl, rfl, rfl, trivial⟩
   refine then_n ?_
   exact ⟨(init.length + 1) - (j + 1), by omega, (j + 1), F.keep ⟨rfl, rfl, rfl, rfl, rfl, rfl, rfl, rfl, rfl, rfl, rfl, rfl, rfl, rfl, rfl, rfl, trivial⟩, (by refine M.pick' [1, 2, 3] _ ?_ (by decide); exact ⟨rfl, rfl, rfl, trivial⟩), O_r, O_x, (by omega), (by omega)⟩
  by_cases hkl : ki.kid = last.kid
  ·
   obtain ⟨e1, e2, e3⟩ := G.same hkl
   have hq : (ki.kid == last.kid) = true := by simp [hkl]
   have hq' : (ki.kid != last.kid) = false := by simp [hkl]
   refine wp_seq ?_
   refine wp_seq ?_
   refine wp_region_lit ?_
   refine list_val F (wn rfl) rfl rfl (.int .i64 j) (ex_move _ rfl _ (F.e rfl)) ?_; clear F a; intro a F
   refine list_val F (wn rfl) rfl rfl (.pointer (some ⟨g3, 0, none⟩)) (ex_fa _ _ _ rfl _ (F.e rfl) 0 cl_fa_69_0_0 ⟨g3, 0, none⟩ rfl) ?_; clear F a; intro a F
   refine list_val F (wn rfl) rfl rfl (.slice (some ad) (init.length + 1) c3) (ex_load _ _ rfl _ (F.e rfl) _ (lv1 cl_one_55 (M.cell (i := 2) rfl (j := 0) rfl))) ?_; clear F a; intro a F
   refine list_val F (wn rfl) rfl rfl (.int .i64 (((init.length + 1) : Nat) : Int)) (ex_len _ _ rfl 34 cl_sl_55_34 _ _ _ (F.e rfl)) ?_; clear F a; intro a F
   refine list_val F (wn rfl) rfl rfl (.bool false) (ex_bin .lss _ _ _ _ rfl .i64 _ _ (F.e rfl) (F.e rfl) _ (b_lss (decide_eq_false (by omega)))) ?_; clear F a; intro a F
   refine wpList_nil ?_
   replace F : Fr 183 a [(0, .agg (lifeArr s (.slice A ts.length c))), (1, .pointer (some ⟨g1, 0, none⟩)), (2, .bool false), (3, .pointer (some ⟨g3, 0, none⟩)), (4, .bool true), (5, .pointer (some ⟨g5, 0, none⟩)), (7, .int .i64 i), (8, .int .u64 ki.kid), (9, .pointer (some ⟨g9, 0, none⟩)), (10, .int .i64 0), (12, .int .i64 53), (14, .bool false), (15, .int .i64 j), (26, .bool false), (36, .bool true), (85, .bool false), (90, .bool false)] := F.keep ⟨rfl, rfl, rfl, rfl, rfl, rfl, rfl, rfl, rfl, rfl, rfl, rfl, rfl, rfl, rfl, rfl, rfl, trivial⟩
   refine then_n ?_
   refine wp_cond_false (F.e rfl) ?_
   refine wp_exit ?_
   refine then_x ?_
   refine then_x ?_
   refine in_hit ?_
   refine then_n ?_
   refine wp_seq ?_
   refine wp_region_lit ?_
   refine list_val F (wn rfl) rfl rfl (.agg #[.slice A5 (init2.length + 1) c5, .int .u64 next2]) (ex_load _ _ rfl _ (F.e rfl) _ (lvr (cs := [.slice A5 (init2.length + 1) c5, .int .u64 next2]) cl_row_69_2 (M.at (i := 0) rfl))) ?_; clear F a; intro a F
   refine list_do (wn rfl) (fun K hK => ?_)
   refine ow_call rfl rfl F 29 #[.agg #[.slice A5 (init2.length + 1) c5, .int .u64 next2]] (ex_call 29 _ _ rfl rfl cl_ent_29 _ (map1 (F.e rfl))) (cur_r G.ring _ _ _ O_x) (fun e u hR => ?_)
   obtain ⟨he, hb⟩ := hR
   refine ⟨.tuple #[.agg last2.arr, .bool true], he, ?_⟩; clear he F a; intro a F
   refine hK _ _ ?_
   clear hK K
   replace O_r := O_r.below hb
   replace O_x := O_x.below hb
   replace M := M.below hb; clear hb; try clear v
   refine list_val F (wn rfl) rfl rfl (.tuple #[.agg last2.arr, .bool true]) (ex_move _ rfl _ (F.e rfl)) ?_; clear F a; intro a F
   refine list_val F (wn rfl) rfl rfl (.agg last2.arr) (ex_extract _ _ rfl _ (F.e rfl) _ rfl) ?_; clear F a; intro a F
   refine list_val F (wn rfl) rfl rfl (.bool true) (ex_extract _ _ rfl _ (F.e rfl) _ rfl) ?_; clear F a; intro a F
   refine list_do (wn rfl) (fun K hK => ?_)
   refine ow_alloc F M rfl rfl 107 rfl (.agg zKey.arr) zero107 zKey.arr rfl ?_
   clear F M a; intro a g18 v F M hb hg
   refine hK _ _ ?_
   clear hK K
   have K_O_r := O_r
   have K_O_x := O_x
   replace O_r := O_r.below hb
   replace O_x := O_x.below hb
   have hz_g18 := hb; have lo_g18 := hg
   clear hb hg; try clear u
   refine list_do (wn rfl) (fun K hK => ?_)
   refine ow_put F M rfl 107 _ _ rfl 0 _ zKey.arr _ rfl (F.e rfl) last2.arr (F.e rfl) (by rw [Key.arr_size]; exact info107) (by simp only [Key.arr_size]) (Key.arr_one _) ?_
   clear F a; have Mo := M; clear M; intro a u F M hgr
   refine hK _ _ ?_
   clear hK K
   have hzz := S_grown hz_g18 hgr lo_g18
   replace O_r := K_O_r.below hzz
   replace O_x := K_O_x.below hzz
   clear hzz hz_g18 lo_g18 K_O_r K_O_x
   clear Mo hgr; try clear v
   replace M : Mm w u [⟨g18, last2.arr, 107⟩, ⟨g9, #[.slice A5 (init2.length + 1) c5, .int .u64 next2], 69⟩, ⟨g5, last.arr, 107⟩, ⟨g3, #[.slice (some ad) (init.length + 1) c3, .int .u64 next], 69⟩] := M
   refine list_val F (wn rfl) rfl rfl (.bool true) (ex_assign _ rfl _ (F.e rfl)) ?_; clear F a; intro a F
   refine wpList_nil ?_
   replace F : Fr 183 a [(0, .agg (lifeArr s (.slice A ts.length c))), (1, .pointer (some ⟨g1, 0, none⟩)), (2, .bool false), (3, .pointer (some ⟨g3, 0, none⟩)), (4, .bool true), (5, .pointer (some ⟨g5, 0, none⟩)), (7, .int .i64 i), (8, .int .u64 ki.kid), (9, .pointer (some ⟨g9, 0, none⟩)), (10, .int .i64 0), (12, .int .i64 53), (14, .bool false), (15, .int .i64 j), (18, .pointer (some ⟨g18, 0, none⟩)), (26, .bool false), (36, .bool true), (85, .bool false), (90, .bool false)] := F.keep ⟨rfl, rfl, rfl, rfl, rfl, rfl, rfl, rfl, rfl, rfl, rfl, rfl, rfl, rfl, rfl, rfl, rfl, rfl, trivial⟩
   refine then_n ?_
   refine wp_seq ?_
   refine wp_seq ?_
   refine wp_region_lit ?_
   refine list_val F (wn rfl) rfl rfl (.int .u64 ki.kid) (ex_move _ rfl _ (F.e rfl)) ?_; clear F a; intro a F
   refine list_val F (wn rfl) rfl rfl (.pointer (some ⟨g5, 0, none⟩)) (ex_fa _ _ _ rfl _ (F.e rfl) 0 cl_fa_107_0_0 ⟨g5, 0, none⟩ rfl) ?_; clear F a; intro a F
   refine list_val F (wn rfl) rfl rfl (.int .u64 last.kid) (ex_load _ _ rfl _ (F.e rfl) _ (lv1 cl_one_67 (M.cell (i := 2) rfl (j := 0) (Key.arr_0 _)))) ?_; clear F a; intro a F
   refine list_val F (wn rfl) rfl rfl (.bool false) (ex_bin .neq _ _ _ _ rfl .u64 _ _ (F.e rfl) (F.e rfl) _ (b_neq hq')) ?_; clear F a; intro a F
   refine list_val F (wn rfl) rfl rfl (.bool false) (ex_move _ rfl _ (F.e rfl)) ?_; clear F a; intro a F
   refine list_skip F (F.wants 129 false rfl (by kernel_rfl) rfl false rfl) rfl rfl ?_; clear F a; intro a F
   refine list_skip F (F.wants 129 false rfl (by kernel_rfl) rfl false rfl) rfl rfl ?_; clear F a; intro a F
   refine list_skip F (F.wants 129 false rfl (by kernel_rfl) rfl false rfl) rfl rfl ?_; clear F a; intro a F
   refine list_skip F (F.wants 129 false rfl (by kernel_rfl) rfl false rfl) rfl rfl ?_; clear F a; intro a F
   refine list_skip F (F.wants0 133 rfl (by kernel_rfl) rfl) rfl rfl ?_; clear F a; intro a F
   refine list_skip F (F.wants0 133 rfl (by kernel_rfl) rfl) rfl rfl ?_; clear F a; intro a F
   refine list_skip F (F.wants0 133 rfl (by kernel_rfl) rfl) rfl rfl ?_; clear F a; intro a F
   refine list_skip F (F.wants0 133 rfl (by kernel_rfl) rfl) rfl rfl ?_; clear F a; intro a F
   refine list_skip F (F.wants0 133 rfl (by kernel_rfl) rfl) rfl rfl ?_; clear F a; intro a F
   refine list_skip F (F.wants 129 false rfl (by kernel_rfl) rfl false rfl) rfl rfl ?_; clear F a; intro a F
   refine list_skip F (F.wants 129 false rfl (by kernel_rfl) rfl false rfl) rfl rfl ?_; clear F a; intro a F
   refine list_skip F (F.wants0 140 rfl (by kernel_rfl) rfl) rfl rfl ?_; clear F a; intro a F
   refine list_skip F (F.wants0 140 rfl (by kernel_rfl) rfl) rfl rfl ?_; clear F a; intro a F
   refine list_skip F (F.wants0 140 rfl (by kernel_rfl) rfl) rfl rfl ?_; clear F a; intro a F
   refine list_skip F (F.wants0 140 rfl (by kernel_rfl) rfl) rfl rfl ?_; clear F a; intro a F
   refine list_skip F (F.wants0 140 rfl (by kernel_rfl) rfl) rfl rfl ?_; clear F a; intro a F
   refine list_skip F (F.wants0 140 rfl (by kernel_rfl) rfl) rfl rfl ?_; clear F a; intro a F
   refine list_skip F (F.wants0 140 rfl (by kernel_rfl) rfl) rfl rfl ?_; clear F a; intro a F
   refine list_skip F (F.wants0 140 rfl (by kernel_rfl) rfl) rfl rfl ?_; clear F a; intro a F
   refine list_skip F (F.wants 129 false rfl (by kernel_rfl) rfl false rfl) rfl rfl ?_; clear F a; intro a F
   refine list_val F (wn rfl) rfl rfl (.bool false) (ex_pick_f _ _ _ rfl (F.e rfl) _ rfl) ?_; clear F a; intro a F
   refine wpList_nil ?_
   replace F : Fr 183 a [(0, .agg (lifeArr s (.slice A ts.length c))), (1, .pointer (some ⟨g1, 0, none⟩)), (2, .bool false), (3, .pointer (some ⟨g3, 0, none⟩)), (4, .bool true), (5, .pointer (some ⟨g5, 0, none⟩)), (7, .int .i64 i), (8, .int .u64 ki.kid), (9, .pointer (some ⟨g9, 0, none⟩)), (10, .int .i64 0), (12, .int .i64 53), (14, .bool false), (15, .int .i64 j), (18, .pointer (some ⟨g18, 0, none⟩)), (26, .bool false), (36, .bool true), (85, .bool false), (90, .bool false), (150, .bool false)] := F.keep ⟨rfl, rfl, rfl, rfl, rfl, rfl, rfl, rfl, rfl, rfl, rfl, rfl, rfl, rfl, rfl, rfl, rfl, rfl, rfl, trivial⟩
   refine then_n ?_
   refine wp_cond_false (F.e rfl) ?_
   refine wp_skip ?_
   refine then_n ?_
   refine wp_seq ?_
   refine wp_region_lit ?_
   refine list_val F (wn rfl) rfl rfl (.int .u64 ki.kid) (ex_move _ rfl _ (F.e rfl)) ?_; clear F a; intro a F
   refine list_val F (wn rfl) rfl rfl (.pointer (some ⟨g5, 0, none⟩)) (ex_fa _ _ _ rfl _ (F.e rfl) 0 cl_fa_107_0_0 ⟨g5, 0, none⟩ rfl) ?_; clear F a; intro a F
   refine list_val F (wn rfl) rfl rfl (.int .u64 last.kid) (ex_load _ _ rfl _ (F.e rfl) _ (lv1 cl_one_67 (M.cell (i := 2) rfl (j := 0) (Key.arr_0 _)))) ?_; clear F a; intro a F
   refine list_val F (wn rfl) rfl rfl (.bool true) (ex_bin .eql _ _ _ _ rfl .u64 _ _ (F.e rfl) (F.e rfl) _ (b_eql hq)) ?_; clear F a; intro a F
   refine list_val F (wn rfl) rfl rfl (.bool true) (ex_move _ rfl _ (F.e rfl)) ?_; clear F a; intro a F
   refine list_val F (F.wants 155 true rfl (by kernel_rfl) rfl true rfl) rfl rfl (.agg last2.arr) (ex_load _ _ rfl _ (F.e rfl) _ (lvr (cs := last2.cs) (by rw [Key.cs_len]; exact cl_row_107_34) (M.at (i := 0) rfl))) ?_; clear F a; intro a F
   refine list_val F (F.wants 155 true rfl (by kernel_rfl) rfl true rfl) rfl rfl (.pointer (some ⟨g3, 1, none⟩)) (ex_fa _ _ _ rfl _ (F.e rfl) 1 cl_fa_69_1_1 ⟨g3, 1, none⟩ rfl) ?_; clear F a; intro a F
   refine list_val F (F.wants 155 true rfl (by kernel_rfl) rfl true rfl) rfl rfl (.int .u64 next) (ex_load _ _ rfl _ (F.e rfl) _ (lv1 cl_one_67 (M.cell (i := 3) rfl (j := 1) rfl))) ?_; clear F a; intro a F
   refine list_val F (F.wants 155 true rfl (by kernel_rfl) rfl true rfl) rfl rfl (.int .i64 i) (ex_move _ rfl _ (F.e rfl)) ?_; clear F a; intro a F
   refine list_val F (F.wants 155 true rfl (by kernel_rfl) rfl true rfl) rfl rfl (.int .u8 i) (ex_conv _ _ _ rfl _ .u8 cl_cv_3_5_u8 _ (F.e rfl) _ (w_u8 (by omega) (by omega))) ?_; clear F a; intro a F
   refine list_val F (F.wants 155 true rfl (by kernel_rfl) rfl true rfl) rfl rfl (.agg ((b32 170 i).cs.toArray)) (ex_build 70 _ rfl #[(0, .int .u8 170), (1, .int .u8 i)] (parts2 rfl (F.e rfl)) (.agg ((b32 170 i).cs.toArray)) (build70_2 170 i _)) ?_; clear F a; intro a F
   refine list_val F (F.wants 155 true rfl (by kernel_rfl) rfl true rfl) rfl rfl (.agg ((⟨next, (b32 170 i), 0⟩ : Key).arr)) (ex_build 107 _ rfl #[(0, .int .u64 next), (1, .agg ((b32 170 i).cs.toArray))] (parts2 (F.e rfl) (F.e rfl)) (.agg ((⟨next, (b32 170 i), 0⟩ : Key).arr)) (build107 next (b32 170 i) _)) ?_; clear F a; intro a F
   refine list_val F (F.wants 155 true rfl (by kernel_rfl) rfl true rfl) rfl rfl (.bool false) (ex_neqk _ _ _ rfl last2 (⟨next, (b32 170 i), 0⟩ : Key) (F.e rfl) (F.e rfl) false (by rw [e1]; simp)) ?_; clear F a; intro a F
   refine list_val F (F.wants 155 true rfl (by kernel_rfl) rfl true rfl) rfl rfl (.bool false) (ex_move _ rfl _ (F.e rfl)) ?_; clear F a; intro a F
   refine list_val F (F.wants 164 false rfl (by kernel_rfl) rfl true rfl) rfl rfl (.pointer (some ⟨g9, 1, none⟩)) (ex_fa _ _ _ rfl _ (F.e rfl) 1 cl_fa_69_1_1 ⟨g9, 1, none⟩ rfl) ?_; clear F a; intro a F
   refine list_val F (F.wants 164 false rfl (by kernel_rfl) rfl true rfl) rfl rfl (.int .u64 next2) (ex_load _ _ rfl _ (F.e rfl) _ (lv1 cl_one_67 (M.cell (i := 1) rfl (j := 1) rfl))) ?_; clear F a; intro a F
   refine list_val F (F.wants 164 false rfl (by kernel_rfl) rfl true rfl) rfl rfl (.pointer (some ⟨g3, 1, none⟩)) (ex_fa _ _ _ rfl _ (F.e rfl) 1 cl_fa_69_1_1 ⟨g3, 1, none⟩ rfl) ?_; clear F a; intro a F
   refine list_val F (F.wants 164 false rfl (by kernel_rfl) rfl true rfl) rfl rfl (.int .u64 next) (ex_load _ _ rfl _ (F.e rfl) _ (lv1 cl_one_67 (M.cell (i := 3) rfl (j := 1) rfl))) ?_; clear F a; intro a F
   refine list_val F (F.wants 164 false rfl (by kernel_rfl) rfl true rfl) rfl rfl (.int .u64 (next + 1)) (ex_bin .add _ _ _ _ rfl .u64 _ _ (F.e rfl) rfl _ (b_add (w_u64 (by omega) (by omega)))) ?_; clear F a; intro a F
   refine list_val F (F.wants 164 false rfl (by kernel_rfl) rfl true rfl) rfl rfl (.bool false) (ex_bin .neq _ _ _ _ rfl .u64 _ _ (F.e rfl) (F.e rfl) _ (b_neq (by rw [e2]; simp))) ?_; clear F a; intro a F
   refine list_val F (F.wants 155 true rfl (by kernel_rfl) rfl true rfl) rfl rfl (.bool false) (ex_pick_f _ _ _ rfl (F.e rfl) _ (F.e rfl)) ?_; clear F a; intro a F
   refine list_val F (F.wants 155 true rfl (by kernel_rfl) rfl true rfl) rfl rfl (.bool false) (ex_move _ rfl _ (F.e rfl)) ?_; clear F a; intro a F
   refine list_val F (F.wants 172 false rfl (by kernel_rfl) rfl true rfl) rfl rfl (.pointer (some ⟨g9, 0, none⟩)) (ex_fa _ _ _ rfl _ (F.e rfl) 0 cl_fa_69_0_0 ⟨g9, 0, none⟩ rfl) ?_; clear F a; intro a F
   refine list_val F (F.wants 172 false rfl (by kernel_rfl) rfl true rfl) rfl rfl (.slice A5 (init2.length + 1) c5) (ex_load _ _ rfl _ (F.e rfl) _ (lv1 cl_one_55 (M.cell (i := 1) rfl (j := 0) rfl))) ?_; clear F a; intro a F
   refine list_val F (F.wants 172 false rfl (by kernel_rfl) rfl true rfl) rfl rfl (.int .i64 (((init2.length + 1) : Nat) : Int)) (ex_len _ _ rfl 34 cl_sl_55_34 _ _ _ (F.e rfl)) ?_; clear F a; intro a F
   refine list_val F (F.wants 172 false rfl (by kernel_rfl) rfl true rfl) rfl rfl (.pointer (some ⟨g3, 0, none⟩)) (ex_fa _ _ _ rfl _ (F.e rfl) 0 cl_fa_69_0_0 ⟨g3, 0, none⟩ rfl) ?_; clear F a; intro a F
   refine list_val F (F.wants 172 false rfl (by kernel_rfl) rfl true rfl) rfl rfl (.slice (some ad) (init.length + 1) c3) (ex_load _ _ rfl _ (F.e rfl) _ (lv1 cl_one_55 (M.cell (i := 3) rfl (j := 0) rfl))) ?_; clear F a; intro a F
   refine list_val F (F.wants 172 false rfl (by kernel_rfl) rfl true rfl) rfl rfl (.int .i64 (((init.length + 1) : Nat) : Int)) (ex_len _ _ rfl 34 cl_sl_55_34 _ _ _ (F.e rfl)) ?_; clear F a; intro a F
   refine list_val F (F.wants 172 false rfl (by kernel_rfl) rfl true rfl) rfl rfl (.bool false) (ex_bin .neq _ _ _ _ rfl .i64 _ _ (F.e rfl) (F.e rfl) _ (b_neq (by rw [e3]; simp))) ?_; clear F a; intro a F
   refine list_val F (F.wants 155 true rfl (by kernel_rfl) rfl true rfl) rfl rfl (.bool false) (ex_pick_f _ _ _ rfl (F.e rfl) _ (F.e rfl)) ?_; clear F a; intro a F
   refine list_val F (wn rfl) rfl rfl (.bool false) (ex_pick_t _ _ _ rfl (F.e rfl) _ (F.e rfl)) ?_; clear F a; intro a F
   refine wpList_nil ?_
   replace F : Fr 183 a [(0, .agg (lifeArr s (.slice A ts.length c))), (1, .pointer (some ⟨g1, 0, none⟩)), (2, .bool false), (3, .pointer (some ⟨g3, 0, none⟩)), (4, .bool true), (5, .pointer (some ⟨g5, 0, none⟩)), (7, .int .i64 i), (8, .int .u64 ki.kid), (9, .pointer (some ⟨g9, 0, none⟩)), (10, .int .i64 0), (12, .int .i64 53), (14, .bool false), (15, .int .i64 j), (18, .pointer (some ⟨g18, 0, none⟩)), (26, .bool false), (36, .bool true), (85, .bool false), (90, .bool false), (150, .bool false), (181, .bool false)] := F.keep ⟨rfl, rfl, rfl, rfl, rfl, rfl, rfl, rfl, rfl, rfl, rfl, rfl, rfl, rfl, rfl, rfl, rfl, rfl, rfl, rfl, trivial⟩
   refine then_n ?_
   refine wp_cond_false (F.e rfl) ?_
   refine wp_skip ?_
   refine in_n ?_
   refine then_n ?_
   refine wp_region_lit ?_
   refine list_val F (wn rfl) rfl rfl (.int .i64 i) (ex_move _ rfl _ (F.e rfl)) ?_; clear F a; intro a F
   refine list_val F (wn rfl) rfl rfl (.int .i64 (i + 1)) (ex_bin .add _ _ _ _ rfl .i64 _ _ (F.e rfl) rfl _ (b_add (w_i64 (by omega) (by omega)))) ?_; clear F a; intro a F
   refine list_val F (wn rfl) rfl rfl (.int .i64 (i + 1)) (ex_assign _ rfl _ (F.e rfl)) ?_; clear F a; intro a F
   refine wpList_nil ?_
   replace F : Fr 183 a [(0, .agg (lifeArr s (.slice A ts.length c))), (1, .pointer (some ⟨g1, 0, none⟩)), (2, .bool false), (3, .pointer (some ⟨g3, 0, none⟩)), (4, .bool true), (5, .pointer (some ⟨g5, 0, none⟩)), (7, .int .i64 (i + 1)), (8, .int .u64 ki.kid), (9, .pointer (some ⟨g9, 0, none⟩)), (10, .int .i64 0), (12, .int .i64 53), (14, .bool false), (15, .int .i64 j), (18, .pointer (some ⟨g18, 0, none⟩)), (26, .bool false), (36, .bool true), (85, .bool false), (90, .bool false), (150, .bool false), (181, .bool false)] := F.keep ⟨rfl, rfl, rfl, rfl, rfl, rfl, rfl, rfl, rfl, rfl, rfl, rfl, rfl, rfl, rfl, rfl, rfl, rfl, rfl, rfl, trivial⟩
   refine then_n ?_
   exact ⟨(init.length + 1) - (i + 1), by omega, (i + 1), F.keep ⟨rfl, rfl, rfl, rfl, rfl, rfl, rfl, rfl, trivial⟩, (by refine M.pick' [2, 3] _ ?_ (by decide); exact ⟨rfl, rfl, trivial⟩), O_r, (by omega), (by omega)⟩
  obtain ⟨e1, e2, e3⟩ := G.other hkl
  have hq : (ki.kid == last.kid) = false := by simp [hkl]
  have hq' : (ki.kid != last.kid) = true := by simp [hkl]
  refine wp_seq ?_
  refine wp_seq ?_
  refine wp_region_lit ?_
  refine list_val F (wn rfl) rfl rfl (.int .i64 j) (ex_move _ rfl _ (F.e rfl)) ?_; clear F a; intro a F
  refine list_val F (wn rfl) rfl rfl (.pointer (some ⟨g3, 0, none⟩)) (ex_fa _ _ _ rfl _ (F.e rfl) 0 cl_fa_69_0_0 ⟨g3, 0, none⟩ rfl) ?_; clear F a; intro a F
  refine list_val F (wn rfl) rfl rfl (.slice (some ad) (init.length + 1) c3) (ex_load _ _ rfl _ (F.e rfl) _ (lv1 cl_one_55 (M.cell (i := 2) rfl (j := 0) rfl))) ?_; clear F a; intro a F
  refine list_val F (wn rfl) rfl rfl (.int .i64 (((init.length + 1) : Nat) : Int)) (ex_len _ _ rfl 34 cl_sl_55_34 _ _ _ (F.e rfl)) ?_; clear F a; intro a F
  refine list_val F (wn rfl) rfl rfl (.bool false) (ex_bin .lss _ _ _ _ rfl .i64 _ _ (F.e rfl) (F.e rfl) _ (b_lss (decide_eq_false (by omega)))) ?_; clear F a; intro a F
  refine wpList_nil ?_
  replace F : Fr 183 a [(0, .agg (lifeArr s (.slice A ts.length c))), (1, .pointer (some ⟨g1, 0, none⟩)), (2, .bool false), (3, .pointer (some ⟨g3, 0, none⟩)), (4, .bool true), (5, .pointer (some ⟨g5, 0, none⟩)), (7, .int .i64 i), (8, .int .u64 ki.kid), (9, .pointer (some ⟨g9, 0, none⟩)), (10, .int .i64 0), (12, .int .i64 53), (14, .bool false), (15, .int .i64 j), (26, .bool false), (36, .bool true), (85, .bool false), (90, .bool false)] := F.keep ⟨rfl, rfl, rfl, rfl, rfl, rfl, rfl, rfl, rfl, rfl, rfl, rfl, rfl, rfl, rfl, rfl, rfl, trivial⟩
  refine then_n ?_
  refine wp_cond_false (F.e rfl) ?_
  refine wp_exit ?_
  refine then_x ?_
  refine then_x ?_
  refine in_hit ?_
  refine then_n ?_
  refine wp_seq ?_
  refine wp_region_lit ?_
  refine list_val F (wn rfl) rfl rfl (.agg #[.slice A5 (init2.length + 1) c5, .int .u64 next2]) (ex_load _ _ rfl _ (F.e rfl) _ (lvr (cs := [.slice A5 (init2.length + 1) c5, .int .u64 next2]) cl_row_69_2 (M.at (i := 0) rfl))) ?_; clear F a; intro a F
  refine list_do (wn rfl) (fun K hK => ?_)
  refine ow_call rfl rfl F 29 #[.agg #[.slice A5 (init2.length + 1) c5, .int .u64 next2]] (ex_call 29 _ _ rfl rfl cl_ent_29 _ (map1 (F.e rfl))) (cur_r G.ring _ _ _ O_x) (fun e u hR => ?_)
  obtain ⟨he, hb⟩ := hR
  refine ⟨.tuple #[.agg last2.arr, .bool true], he, ?_⟩; clear he F a; intro a F
  refine hK _ _ ?_
  clear hK K
  replace O_r := O_r.below hb
  replace O_x := O_x.below hb
  replace M := M.below hb; clear hb; try clear v
  refine list_val F (wn rfl) rfl rfl (.tuple #[.agg last2.arr, .bool true]) (ex_move _ rfl _ (F.e rfl)) ?_; clear F a; intro a F
  refine list_val F (wn rfl) rfl rfl (.agg last2.arr) (ex_extract _ _ rfl _ (F.e rfl) _ rfl) ?_; clear F a; intro a F
  refine list_val F (wn rfl) rfl rfl (.bool true) (ex_extract _ _ rfl _ (F.e rfl) _ rfl) ?_; clear F a; intro a F
  refine list_do (wn rfl) (fun K hK => ?_)
  refine ow_alloc F M rfl rfl 107 rfl (.agg zKey.arr) zero107 zKey.arr rfl ?_
  clear F M a; intro a g18 v F M hb hg
  refine hK _ _ ?_
  clear hK K
  have K_O_r := O_r
  have K_O_x := O_x
  replace O_r := O_r.below hb
  replace O_x := O_x.below hb
  have hz_g18 := hb; have lo_g18 := hg
  clear hb hg; try clear u
  refine list_do (wn rfl) (fun K hK => ?_)
  refine ow_put F M rfl 107 _ _ rfl 0 _ zKey.arr _ rfl (F.e rfl) last2.arr (F.e rfl) (by rw [Key.arr_size]; exact info107) (by simp only [Key.arr_size]) (Key.arr_one _) ?_
  clear F a; have Mo := M; clear M; intro a u F M hgr
  refine hK _ _ ?_
  clear hK K
  have hzz := S_grown hz_g18 hgr lo_g18
  replace O_r := K_O_r.below hzz
  replace O_x := K_O_x.below hzz
  clear hzz hz_g18 lo_g18 K_O_r K_O_x
  clear Mo hgr; try clear v
  replace M : Mm w u [⟨g18, last2.arr, 107⟩, ⟨g9, #[.slice A5 (init2.length + 1) c5, .int .u64 next2], 69⟩, ⟨g5, last.arr, 107⟩, ⟨g3, #[.slice (some ad) (init.length + 1) c3, .int .u64 next], 69⟩] := M
  refine list_val F (wn rfl) rfl rfl (.bool true) (ex_assign _ rfl _ (F.e rfl)) ?_; clear F a; intro a F
  refine wpList_nil ?_
  replace F : Fr 183 a [(0, .agg (lifeArr s (.slice A ts.length c))), (1, .pointer (some ⟨g1, 0, none⟩)), (2, .bool false), (3, .pointer (some ⟨g3, 0, none⟩)), (4, .bool true), (5, .pointer (some ⟨g5, 0, none⟩)), (7, .int .i64 i), (8, .int .u64 ki.kid), (9, .pointer (some ⟨g9, 0, none⟩)), (10, .int .i64 0), (12, .int .i64 53), (14, .bool false), (15, .int .i64 j), (18, .pointer (some ⟨g18, 0, none⟩)), (26, .bool false), (36, .bool true), (85, .bool false), (90, .bool false)] := F.keep ⟨rfl, rfl, rfl, rfl, rfl, rfl, rfl, rfl, rfl, rfl, rfl, rfl, rfl, rfl, rfl, rfl, rfl, rfl, trivial⟩
  refine then_n ?_
  refine wp_seq ?_
  refine wp_seq ?_
  refine wp_region_lit ?_
  refine list_val F (wn rfl) rfl rfl (.int .u64 ki.kid) (ex_move _ rfl _ (F.e rfl)) ?_; clear F a; intro a F
  refine list_val F (wn rfl) rfl rfl (.pointer (some ⟨g5, 0, none⟩)) (ex_fa _ _ _ rfl _ (F.e rfl) 0 cl_fa_107_0_0 ⟨g5, 0, none⟩ rfl) ?_; clear F a; intro a F
  refine list_val F (wn rfl) rfl rfl (.int .u64 last.kid) (ex_load _ _ rfl _ (F.e rfl) _ (lv1 cl_one_67 (M.cell (i := 2) rfl (j := 0) (Key.arr_0 _)))) ?_; clear F a; intro a F
  refine list_val F (wn rfl) rfl rfl (.bool true) (ex_bin .neq _ _ _ _ rfl .u64 _ _ (F.e rfl) (F.e rfl) _ (b_neq hq')) ?_; clear F a; intro a F
  refine list_val F (wn rfl) rfl rfl (.bool true) (ex_move _ rfl _ (F.e rfl)) ?_; clear F a; intro a F
  refine list_val F (F.wants 129 true rfl (by kernel_rfl) rfl true rfl) rfl rfl (.agg last2.arr) (ex_load _ _ rfl _ (F.e rfl) _ (lvr (cs := last2.cs) (by rw [Key.cs_len]; exact cl_row_107_34) (M.at (i := 0) rfl))) ?_; clear F a; intro a F
  refine list_val F (F.wants 129 true rfl (by kernel_rfl) rfl true rfl) rfl rfl (.agg last.arr) (ex_load _ _ rfl _ (F.e rfl) _ (lvr (cs := last.cs) (by rw [Key.cs_len]; exact cl_row_107_34) (M.at (i := 2) rfl))) ?_; clear F a; intro a F
  refine list_val F (F.wants 129 true rfl (by kernel_rfl) rfl true rfl) rfl rfl (.bool false) (ex_neqk _ _ _ rfl last2 last (F.e rfl) (F.e rfl) false (by rw [e1]; simp)) ?_; clear F a; intro a F
  refine list_val F (F.wants 129 true rfl (by kernel_rfl) rfl true rfl) rfl rfl (.bool false) (ex_move _ rfl _ (F.e rfl)) ?_; clear F a; intro a F
  refine list_val F (F.wants 133 false rfl (by kernel_rfl) rfl true rfl) rfl rfl (.pointer (some ⟨g9, 1, none⟩)) (ex_fa _ _ _ rfl _ (F.e rfl) 1 cl_fa_69_1_1 ⟨g9, 1, none⟩ rfl) ?_; clear F a; intro a F
  refine list_val F (F.wants 133 false rfl (by kernel_rfl) rfl true rfl) rfl rfl (.int .u64 next2) (ex_load _ _ rfl _ (F.e rfl) _ (lv1 cl_one_67 (M.cell (i := 1) rfl (j := 1) rfl))) ?_; clear F a; intro a F
  refine list_val F (F.wants 133 false rfl (by kernel_rfl) rfl true rfl) rfl rfl (.pointer (some ⟨g3, 1, none⟩)) (ex_fa _ _ _ rfl _ (F.e rfl) 1 cl_fa_69_1_1 ⟨g3, 1, none⟩ rfl) ?_; clear F a; intro a F
  refine list_val F (F.wants 133 false rfl (by kernel_rfl) rfl true rfl) rfl rfl (.int .u64 next) (ex_load _ _ rfl _ (F.e rfl) _ (lv1 cl_one_67 (M.cell (i := 3) rfl (j := 1) rfl))) ?_; clear F a; intro a F
  refine list_val F (F.wants 133 false rfl (by kernel_rfl) rfl true rfl) rfl rfl (.bool false) (ex_bin .neq _ _ _ _ rfl .u64 _ _ (F.e rfl) (F.e rfl) _ (b_neq (by rw [e2]; simp))) ?_; clear F a; intro a F
  refine list_val F (F.wants 129 true rfl (by kernel_rfl) rfl true rfl) rfl rfl (.bool false) (ex_pick_f _ _ _ rfl (F.e rfl) _ (F.e rfl)) ?_; clear F a; intro a F
  refine list_val F (F.wants 129 true rfl (by kernel_rfl) rfl true rfl) rfl rfl (.bool false) (ex_move _ rfl _ (F.e rfl)) ?_; clear F a; intro a F
  refine list_val F (F.wants 140 false rfl (by kernel_rfl) rfl true rfl) rfl rfl (.pointer (some ⟨g9, 0, none⟩)) (ex_fa _ _ _ rfl _ (F.e rfl) 0 cl_fa_69_0_0 ⟨g9, 0, none⟩ rfl) ?_; clear F a; intro a F
  refine list_val F (F.wants 140 false rfl (by kernel_rfl) rfl true rfl) rfl rfl (.slice A5 (init2.length + 1) c5) (ex_load _ _ rfl _ (F.e rfl) _ (lv1 cl_one_55 (M.cell (i := 1) rfl (j := 0) rfl))) ?_; clear F a; intro a F
  refine list_val F (F.wants 140 false rfl (by kernel_rfl) rfl true rfl) rfl rfl (.int .i64 (((init2.length + 1) : Nat) : Int)) (ex_len _ _ rfl 34 cl_sl_55_34 _ _ _ (F.e rfl)) ?_; clear F a; intro a F
  refine list_val F (F.wants 140 false rfl (by kernel_rfl) rfl true rfl) rfl rfl (.pointer (some ⟨g3, 0, none⟩)) (ex_fa _ _ _ rfl _ (F.e rfl) 0 cl_fa_69_0_0 ⟨g3, 0, none⟩ rfl) ?_; clear F a; intro a F
  refine list_val F (F.wants 140 false rfl (by kernel_rfl) rfl true rfl) rfl rfl (.slice (some ad) (init.length + 1) c3) (ex_load _ _ rfl _ (F.e rfl) _ (lv1 cl_one_55 (M.cell (i := 3) rfl (j := 0) rfl))) ?_; clear F a; intro a F
  refine list_val F (F.wants 140 false rfl (by kernel_rfl) rfl true rfl) rfl rfl (.int .i64 (((init.length + 1) : Nat) : Int)) (ex_len _ _ rfl 34 cl_sl_55_34 _ _ _ (F.e rfl)) ?_; clear F a; intro a F
  refine list_val F (F.wants 140 false rfl (by kernel_rfl) rfl true rfl) rfl rfl (.int .i64 (init.length : Int)) (ex_bin .sub _ _ _ _ rfl .i64 _ _ (F.e rfl) rfl _ (b_sub (by rw [w_i64 (by omega) (by omega)]; omega))) ?_; clear F a; intro a F
  refine list_val F (F.wants 140 false rfl (by kernel_rfl) rfl true rfl) rfl rfl (.bool false) (ex_bin .neq _ _ _ _ rfl .i64 _ _ (F.e rfl) (F.e rfl) _ (b_neq (by rw [bne_eq_false_iff_eq]; omega))) ?_; clear F a; intro a F
  refine list_val F (F.wants 129 true rfl (by kernel_rfl) rfl true rfl) rfl rfl (.bool false) (ex_pick_f _ _ _ rfl (F.e rfl) _ (F.e rfl)) ?_; clear F a; intro a F
  refine list_val F (wn rfl) rfl rfl (.bool false) (ex_pick_t _ _ _ rfl (F.e rfl) _ (F.e rfl)) ?_; clear F a; intro a F
  refine wpList_nil ?_
  replace F : Fr 183 a [(0, .agg (lifeArr s (.slice A ts.length c))), (1, .pointer (some ⟨g1, 0, none⟩)), (2, .bool false), (3, .pointer (some ⟨g3, 0, none⟩)), (4, .bool true), (5, .pointer (some ⟨g5, 0, none⟩)), (7, .int .i64 i), (8, .int .u64 ki.kid), (9, .pointer (some ⟨g9, 0, none⟩)), (10, .int .i64 0), (12, .int .i64 53), (14, .bool false), (15, .int .i64 j), (18, .pointer (some ⟨g18, 0, none⟩)), (26, .bool false), (36, .bool true), (85, .bool false), (90, .bool false), (150, .bool false)] := F.keep ⟨rfl, rfl, rfl, rfl, rfl, rfl, rfl, rfl, rfl, rfl, rfl, rfl, rfl, rfl, rfl, rfl, rfl, rfl, rfl, trivial⟩
  refine then_n ?_
  refine wp_cond_false (F.e rfl) ?_
  refine wp_skip ?_
  refine then_n ?_
  refine wp_seq ?_
  refine wp_region_lit ?_
  refine list_val F (wn rfl) rfl rfl (.int .u64 ki.kid) (ex_move _ rfl _ (F.e rfl)) ?_; clear F a; intro a F
  refine list_val F (wn rfl) rfl rfl (.pointer (some ⟨g5, 0, none⟩)) (ex_fa _ _ _ rfl _ (F.e rfl) 0 cl_fa_107_0_0 ⟨g5, 0, none⟩ rfl) ?_; clear F a; intro a F
  refine list_val F (wn rfl) rfl rfl (.int .u64 last.kid) (ex_load _ _ rfl _ (F.e rfl) _ (lv1 cl_one_67 (M.cell (i := 2) rfl (j := 0) (Key.arr_0 _)))) ?_; clear F a; intro a F
  refine list_val F (wn rfl) rfl rfl (.bool false) (ex_bin .eql _ _ _ _ rfl .u64 _ _ (F.e rfl) (F.e rfl) _ (b_eql hq)) ?_; clear F a; intro a F
  refine list_val F (wn rfl) rfl rfl (.bool false) (ex_move _ rfl _ (F.e rfl)) ?_; clear F a; intro a F
  refine list_skip F (F.wants 155 false rfl (by kernel_rfl) rfl false rfl) rfl rfl ?_; clear F a; intro a F
  refine list_skip F (F.wants 155 false rfl (by kernel_rfl) rfl false rfl) rfl rfl ?_; clear F a; intro a F
  refine list_skip F (F.wants 155 false rfl (by kernel_rfl) rfl false rfl) rfl rfl ?_; clear F a; intro a F
  refine list_skip F (F.wants 155 false rfl (by kernel_rfl) rfl false rfl) rfl rfl ?_; clear F a; intro a F
  refine list_skip F (F.wants 155 false rfl (by kernel_rfl) rfl false rfl) rfl rfl ?_; clear F a; intro a F
  refine list_skip F (F.wants 155 false rfl (by kernel_rfl) rfl false rfl) rfl rfl ?_; clear F a; intro a F
  refine list_skip F (F.wants 155 false rfl (by kernel_rfl) rfl false rfl) rfl rfl ?_; clear F a; intro a F
  refine list_skip F (F.wants 155 false rfl (by kernel_rfl) rfl false rfl) rfl rfl ?_; clear F a; intro a F
  refine list_skip F (F.wants 155 false rfl (by kernel_rfl) rfl false rfl) rfl rfl ?_; clear F a; intro a F
  refine list_skip F (F.wants0 164 rfl (by kernel_rfl) rfl) rfl rfl ?_; clear F a; intro a F
  refine list_skip F (F.wants0 164 rfl (by kernel_rfl) rfl) rfl rfl ?_; clear F a; intro a F
  refine list_skip F (F.wants0 164 rfl (by kernel_rfl) rfl) rfl rfl ?_; clear F a; intro a F
  refine list_skip F (F.wants0 164 rfl (by kernel_rfl) rfl) rfl rfl ?_; clear F a; intro a F
  refine list_skip F (F.wants0 164 rfl (by kernel_rfl) rfl) rfl rfl ?_; clear F a; intro a F
  refine list_skip F (F.wants0 164 rfl (by kernel_rfl) rfl) rfl rfl ?_; clear F a; intro a F
  refine list_skip F (F.wants 155 false rfl (by kernel_rfl) rfl false rfl) rfl rfl ?_; clear F a; intro a F
  refine list_skip F (F.wants 155 false rfl (by kernel_rfl) rfl false rfl) rfl rfl ?_; clear F a; intro a F
  refine list_skip F (F.wants0 172 rfl (by kernel_rfl) rfl) rfl rfl ?_; clear F a; intro a F
  refine list_skip F (F.wants0 172 rfl (by kernel_rfl) rfl) rfl rfl ?_; clear F a; intro a F
  refine list_skip F (F.wants0 172 rfl (by kernel_rfl) rfl) rfl rfl ?_; clear F a; intro a F
  refine list_skip F (F.wants0 172 rfl (by kernel_rfl) rfl) rfl rfl ?_; clear F a; intro a F
  refine list_skip F (F.wants0 172 rfl (by kernel_rfl) rfl) rfl rfl ?_; clear F a; intro a F
  refine list_skip F (F.wants0 172 rfl (by kernel_rfl) rfl) rfl rfl ?_; clear F a; intro a F
  refine list_skip F (F.wants0 172 rfl (by kernel_rfl) rfl) rfl rfl ?_; clear F a; intro a F
  refine list_skip F (F.wants 155 false rfl (by kernel_rfl) rfl false rfl) rfl rfl ?_; clear F a; intro a F
  refine list_val F (wn rfl) rfl rfl (.bool false) (ex_pick_f _ _ _ rfl (F.e rfl) _ rfl) ?_; clear F a; intro a F
  refine wpList_nil ?_
  replace F : Fr 183 a [(0, .agg (lifeArr s (.slice A ts.length c))), (1, .pointer (some ⟨g1, 0, none⟩)), (2, .bool false), (3, .pointer (some ⟨g3, 0, none⟩)), (4, .bool true), (5, .pointer (some ⟨g5, 0, none⟩)), (7, .int .i64 i), (8, .int .u64 ki.kid), (9, .pointer (some ⟨g9, 0, none⟩)), (10, .int .i64 0), (12, .int .i64 53), (14, .bool false), (15, .int .i64 j), (18, .pointer (some ⟨g18, 0, none⟩)), (26, .bool false), (36, .bool true), (85, .bool false), (90, .bool false), (150, .bool false), (181, .bool false)] := F.keep ⟨rfl, rfl, rfl, rfl, rfl, rfl, rfl, rfl, rfl, rfl, rfl, rfl, rfl, rfl, rfl, rfl, rfl, rfl, rfl, rfl, trivial⟩
  refine then_n ?_
  refine wp_cond_false (F.e rfl) ?_
  refine wp_skip ?_
  refine in_n ?_
  refine then_n ?_
  refine wp_region_lit ?_
  refine list_val F (wn rfl) rfl rfl (.int .i64 i) (ex_move _ rfl _ (F.e rfl)) ?_; clear F a; intro a F
  refine list_val F (wn rfl) rfl rfl (.int .i64 (i + 1)) (ex_bin .add _ _ _ _ rfl .i64 _ _ (F.e rfl) rfl _ (b_add (w_i64 (by omega) (by omega)))) ?_; clear F a; intro a F
  refine list_val F (wn rfl) rfl rfl (.int .i64 (i + 1)) (ex_assign _ rfl _ (F.e rfl)) ?_; clear F a; intro a F
  refine wpList_nil ?_
  replace F : Fr 183 a [(0, .agg (lifeArr s (.slice A ts.length c))), (1, .pointer (some ⟨g1, 0, none⟩)), (2, .bool false), (3, .pointer (some ⟨g3, 0, none⟩)), (4, .bool true), (5, .pointer (some ⟨g5, 0, none⟩)), (7, .int .i64 (i + 1)), (8, .int .u64 ki.kid), (9, .pointer (some ⟨g9, 0, none⟩)), (10, .int .i64 0), (12, .int .i64 53), (14, .bool false), (15, .int .i64 j), (18, .pointer (some ⟨g18, 0, none⟩)), (26, .bool false), (36, .bool true), (85, .bool false), (90, .bool false), (150, .bool false), (181, .bool false)] := F.keep ⟨rfl, rfl, rfl, rfl, rfl, rfl, rfl, rfl, rfl, rfl, rfl, rfl, rfl, rfl, rfl, rfl, rfl, rfl, rfl, rfl, trivial⟩
  refine then_n ?_
  exact ⟨(init.length + 1) - (i + 1), by omega, (i + 1), F.keep ⟨rfl, rfl, rfl, rfl, rfl, rfl, rfl, rfl, trivial⟩, (by refine M.pick' [2, 3] _ ?_ (by decide); exact ⟨rfl, rfl, trivial⟩), O_r, (by omega), (by omega)⟩
 refine wp_seq ?_
 refine wp_seq ?_
 refine wp_region_lit ?_
 refine list_val F (wn rfl) rfl rfl (.int .i64 i) (ex_move _ rfl _ (F.e rfl)) ?_; clear F a; intro a F
 refine list_val F (wn rfl) rfl rfl (.pointer (some ⟨g3, 0, none⟩)) (ex_fa _ _ _ rfl _ (F.e rfl) 0 cl_fa_69_0_0 ⟨g3, 0, none⟩ rfl) ?_; clear F a; intro a F
 refine list_val F (wn rfl) rfl rfl (.slice (some ad) (init.length + 1) c3) (ex_load _ _ rfl _ (F.e rfl) _ (lv1 cl_one_55 (M.cell (i := 1) rfl (j := 0) rfl))) ?_; clear F a; intro a F
 refine list_val F (wn rfl) rfl rfl (.int .i64 (((init.length + 1) : Nat) : Int)) (ex_len _ _ rfl 34 cl_sl_55_34 _ _ _ (F.e rfl)) ?_; clear F a; intro a F
 refine list_val F (wn rfl) rfl rfl (.bool false) (ex_bin .lss _ _ _ _ rfl .i64 _ _ (F.e rfl) (F.e rfl) _ (b_lss (decide_eq_false (by omega)))) ?_; clear F a; intro a F
 refine wpList_nil ?_
 replace F : Fr 183 a [(0, .agg (lifeArr s (.slice A ts.length c))), (1, .pointer (some ⟨g1, 0, none⟩)), (2, .bool false), (3, .pointer (some ⟨g3, 0, none⟩)), (4, .bool true), (5, .pointer (some ⟨g5, 0, none⟩)), (7, .int .i64 i), (26, .bool false), (36, .bool false)] := F.keep ⟨rfl, rfl, rfl, rfl, rfl, rfl, rfl, rfl, rfl, trivial⟩
 refine then_n ?_
 refine wp_cond_false (F.e rfl) ?_
 refine wp_exit ?_
 refine then_x ?_
 refine then_x ?_
 refine in_hit ?_
 refine then_n ?_
 refine wp_seq ?_
 refine wp_region_lit ?_
 refine list_do (wn rfl) (fun K hK => ?_)
 refine ow_call rfl rfl F 26 #[] (ex_call 26 _ _ rfl rfl cl_ent_26 _ (map0)) (wakes_any _) (fun e v hR => ?_)
 obtain ⟨he, hb⟩ := hR
 refine ⟨.bool true, he, ?_⟩; clear he F a; intro a F
 refine hK _ _ ?_
 clear hK K
 replace O_r := O_r.below hb
 replace M := M.below hb; clear hb; try clear u
 refine list_val F (wn rfl) rfl rfl (.bool true) (ex_assign _ rfl _ (F.e rfl)) ?_; clear F a; intro a F
 refine wpList_nil ?_
 replace F : Fr 183 a [(0, .agg (lifeArr s (.slice A ts.length c))), (1, .pointer (some ⟨g1, 0, none⟩)), (2, .bool true), (3, .pointer (some ⟨g3, 0, none⟩)), (4, .bool true), (5, .pointer (some ⟨g5, 0, none⟩)), (7, .int .i64 i), (26, .bool false), (36, .bool false)] := F.keep ⟨rfl, rfl, rfl, rfl, rfl, rfl, rfl, rfl, rfl, trivial⟩
 refine then_n ?_
 refine wp_ret ?_
 exact ret_tmp F rfl rfl ⟨rfl, M.bel⟩
end Go.Proofs.Ytnechcibpmjblaa
