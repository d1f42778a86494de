/- The walks of grants (22), Check (12), Clone (21), IndexFunc (36), ContainsFunc (29), Has (14). Conditions: the list is read, and is a list. -/
import Derived.Test.YtnjbjjmoglogeaaGreatP0
namespace Go.Proofs.YtnjbjjmoglogeaaGreat
open Go.RowKit Go.Proofs.YtnjbjjmoglogeaaGreatW.PrintWords KB WG RO
set_option linter.unusedVariables false
set_option linter.unusedSimpArgs false
set_option linter.unnecessarySimpa false
theorem s85 : (Tryz.prog.info? 85).map (·.size) = some 19 := by kernel_rfl
theorem i85 : (Tryz.prog.info? 85).map (fun i => (i.zero, i.size, i.bytes)) = some (some (.agg zRv.arr), 19, 40) := by kernel_rfl
theorem IsL.adj {l : List Rv} (h : IsL l) {i j : Nat} {x y : Rv} (hij : i < j) (hx : l[i]? = some x) (hy : l[j]? = some y) : Lt2 x y := by
  obtain ⟨h1, e1⟩ := List.getElem?_eq_some_iff.1 hx
  obtain ⟨h2, e2⟩ := List.getElem?_eq_some_iff.1 hy
  subst e1 e2
  exact List.pairwise_iff_getElem.1 h.rise i j h1 h2 hij
def idxF (p : Rv → Bool) (l : List Rv) : Int := match l.findIdx? p with | some i => i | none => -1
theorem idx_at {p : Rv → Bool} {l : List Rv} {k : Nat} {x : Rv} (hx : l[k]? = some x) (hk : p x = true) (hg : ∀ (j : Nat) (y : Rv), j < k → l[j]? = some y → p y = false) : idxF p l = k := by
  obtain ⟨h, e⟩ := List.getElem?_eq_some_iff.1 hx
  unfold idxF
  rw [List.findIdx?_eq_some_iff_getElem.2 ⟨h, by rw [e]; exact hk, fun j hj => by rw [hg j _ hj (List.getElem?_eq_getElem (by omega))]; simp⟩]
theorem idx_none {p : Rv → Bool} {l : List Rv} (hg : ∀ (j : Nat) (y : Rv), j < l.length → l[j]? = some y → p y = false) : idxF p l = -1 := by
  unfold idxF
  rw [List.findIdx?_eq_none_iff.2 (fun x hx => by
    obtain ⟨i, hi⟩ := List.getElem?_of_mem hx
    exact hg i x (List.getElem?_eq_some_iff.1 hi).1 hi)]
theorem idx_ge (p : Rv → Bool) (l : List Rv) : decide (0 ≤ idxF p l) = l.any p := by
  unfold idxF
  cases h : l.findIdx? p with
  | none =>
    have := List.findIdx?_eq_none_iff.1 h
    rw [show l.any p = false from List.any_eq_false.2 (fun x hx => by rw [this x hx]; simp)]
    rfl
  | some i =>
    obtain ⟨h1, h2, _⟩ := List.findIdx?_eq_some_iff_getElem.1 h
    rw [show l.any p = true from List.any_eq_true.2 ⟨_, List.getElem_mem h1, h2⟩]
    show decide (0 ≤ ((i : Nat) : Int)) = true
    exact decide_eq_true (by omega)
theorem ex_eqnil {P : Program} {op : Oper} {ρ : Operand → Value} {w : World} (t e : Nat) (hu : P.underlying t = some (.slice e)) (x y : Operand) (z : TypeId) (ho : op.op = .binOp .eql t x y z) (A : Option Addr) (n c : Nat) (hx : ρ x = .slice A n c) (hy : ρ y = .slice none 0 0) (r : Bool) (hr : A.isNone = r) : (execOp ρ op).run P w = .ok (.value (.bool r)) w := by
  subst hr
  exact ex_eql t z x y ho _ _ hx hy _ (by simp [eqGuard]) (Lib.run_eql_slice_nil w t e A n c 0 0 hu)
theorem nolit (w : World) : (Instr.buildSlice 57 0 #[]).run Tryz.prog w = .ok (.slice (some ⟨w.heap.size, 0, none⟩) 0 0) (w.alloc (.cells #[] 85)) := by kernel_rfl
theorem own_empty {w0 w : World} {g : Nat} {H : List Blk} (M : Mm w0 w (⟨g, #[], 85⟩ :: H)) : Ow kRv 85 w w0.heap.size (.slice (some ⟨g, 0, none⟩) 0 0) [] :=
  Ow.of_block (enc := Rv.cs) (m := 19) (sp := []) (M.blk 0 _ rfl) (M.lo 0 _ rfl) rfl (Nat.le_refl _) (by decide) rfl
theorem z85s : (Value.agg zRv.arr).cells.size = 19 := Rv.arr_size zRv
theorem C_none {xs : List Rv} {w : World} {n : Nat} (h : kRv.C w none n xs) : xs = [] := by
  obtain ⟨h1, _, h3⟩ := h
  rcases Nat.eq_zero_or_pos n with h0 | h0
  · exact List.eq_nil_of_length_eq_zero (by omega)
  · obtain ⟨_, e, _⟩ := h3 h0
    cases e
theorem r2_ent_39 : ent? Tryz.prog 39 = true := by kernel_rfl
set_option maxHeartbeats 1000000 in
set_option maxRecDepth 100000 in
theorem grants_any (xs : List Rv) (h : IsL xs) (A : Option Addr) (c : Nat) (g : Int) (w : World) (hr : kRv.C w A xs.length xs) (hc : xs.length ≤ c) (hmx : xs.length ≤ 1000000) :
    Calls Tryz.prog 33 #[.slice A xs.length c, .int .u64 g] w fun e w' => e = .returned (.tuple #[.int .i64 ((nF xs g : Nat) : Int), .int .i64 ((nT xs g : Nat) : Int)]) ∧ Below w.heap.size w w' := by
 have hft := nF_le xs g
 have htl := nT_le xs g
 refine calls_start Tryz.func33 rfl rfl rfl (fun a F => ?_)
 have M : Mm w w [] := Mm.nil w
 refine wp_seq ?_
 refine wp_region_lit ?_
 refine list_do (wn rfl) (fun K hK => ?_)
 refine ow_box F M rfl rfl 67 _ rfl _ (F.e rfl) #[.int .u64 g] rfl ?_
 clear F M a; intro a g3 v F M hb hg
 refine hK _ _ ?_
 clear hK K
 clear hb hg; try clear w
 refine list_val F (wn rfl) rfl rfl (.int .i64 0) (ex_assign _ rfl _ rfl) ?_; clear F a; intro a F
 refine list_val F (wn rfl) rfl rfl (.int .i64 0) (ex_assign _ rfl _ rfl) ?_; clear F a; intro a F
 refine wpList_nil ?_
 replace F : Fr 18 a [(0, .slice A xs.length c), (1, .int .u64 g), (3, .pointer (some ⟨g3, 0, none⟩)), (4, .int .i64 0), (5, .int .i64 0)] := F.keep ⟨rfl, rfl, rfl, rfl, rfl, trivial⟩
 refine then_n ?_
 refine wp_seq ?_
 refine wp_region_lit ?_
 refine list_val F (wn rfl) rfl rfl (.slice A xs.length c) (ex_move _ rfl _ (F.e rfl)) ?_; clear F a; intro a F
 refine list_val F (wn rfl) rfl rfl (.func (.func 77) #[] #[.pointer (some ⟨g3, 0, none⟩)]) (ex_makeFunc _ _ _ rfl _ (by rw [map1 (F.e rfl), map0])) ?_; clear F a; intro a F
 refine list_do (wn rfl) (fun K hK => ?_)
 refine ow_call rfl rfl F 39 #[.slice A xs.length c, .func (.func 77) #[] #[.pointer (some ⟨g3, 0, none⟩)]] (ex_call 39 _ _ rfl rfl r2_ent_39 _ (map2 (F.e rfl) (F.e rfl))) (place_any (fun x => decide (x.grant < g)) 77 _ xs _ _ c (nF xs g) _ ((Kd.C_below hr M.bel)) (pays_clo_lt (M.at (i := 0) rfl)) (fun i x hx => (h.cF g).2.2 i x hx) (by omega) (by omega)) (fun e u hR => ?_)
 obtain ⟨he, hb⟩ := hR
 refine ⟨.int .i64 ((nF xs g : Nat) : Int), he, ?_⟩; clear he F a; intro a F
 refine hK _ _ ?_
 clear hK K
 replace M := M.below hb; clear hb; try clear v
 refine list_val F (wn rfl) rfl rfl (.int .i64 ((nF xs g : Nat) : Int)) (ex_assign _ rfl _ (F.e rfl)) ?_; clear F a; intro a F
 refine wpList_nil ?_
 replace F : Fr 18 a [(0, .slice A xs.length c), (1, .int .u64 g), (3, .pointer (some ⟨g3, 0, none⟩)), (4, .int .i64 0), (5, .int .i64 0), (6, .int .i64 ((nF xs g : Nat) : Int))] := F.keep ⟨rfl, rfl, rfl, rfl, rfl, rfl, trivial⟩
 refine then_n ?_
 refine wp_seq ?_
 refine wp_region_lit ?_
 refine list_val F (wn rfl) rfl rfl (.int .i64 ((nF xs g : Nat) : Int)) (ex_move _ rfl _ (F.e rfl)) ?_; clear F a; intro a F
 refine list_val F (wn rfl) rfl rfl (.int .i64 ((nF xs g : Nat) : Int)) (ex_move _ rfl _ (F.e rfl)) ?_; clear F a; intro a F
 refine list_val F (wn rfl) rfl rfl (.slice A xs.length c) (ex_move _ rfl _ (F.e rfl)) ?_; clear F a; intro a F
 refine list_val F (wn rfl) rfl rfl (.int .i64 ((nF xs g : Nat) : Int)) (ex_move _ rfl _ (F.e rfl)) ?_; clear F a; intro a F
 refine list_val F (wn rfl) rfl rfl (.slice (cutA 19 A (nF xs g) c) (xs.length - nF xs g) (c - nF xs g)) (ex_cutend 57 85 19 Tryz.underlying57 s85 _ _ rfl A xs.length c (F.e rfl) _ (F.e rfl) (nF xs g) rfl (by omega)) ?_; clear F a; intro a F
 refine list_val F (wn rfl) rfl rfl (.func (.func 78) #[] #[.pointer (some ⟨g3, 0, none⟩)]) (ex_makeFunc _ _ _ rfl _ (by rw [map1 (F.e rfl), map0])) ?_; clear F a; intro a F
 refine list_do (wn rfl) (fun K hK => ?_)
 refine ow_call rfl rfl F 39 #[.slice (cutA 19 A (nF xs g) c) (xs.length - nF xs g) (c - nF xs g), .func (.func 78) #[] #[.pointer (some ⟨g3, 0, none⟩)]] (ex_call 39 _ _ rfl rfl r2_ent_39 _ (map2 (F.e rfl) (F.e rfl))) (place_any (fun x => x.grant == g) 78 _ (xs.drop (nF xs g)) _ _ _ (nT xs g - nF xs g) _ ((C_snd (Kd.C_below hr M.bel) (by omega) hc)) (pays_clo_eq (M.at (i := 0) rfl)) (fun i x hx => h.posT g hx) (by omega) (by omega)) (fun e v hR => ?_)
 obtain ⟨he, hb⟩ := hR
 refine ⟨.int .i64 ((nT xs g - nF xs g : Nat) : Int), he, ?_⟩; clear he F a; intro a F
 refine hK _ _ ?_
 clear hK K
 replace M := M.below hb; clear hb; try clear u
 refine list_val F (wn rfl) rfl rfl (.int .i64 ((nT xs g : Nat) : Int)) (ex_bin .add _ _ _ _ rfl .i64 _ _ (F.e rfl) (F.e rfl) _ (b_add ((w_i64 (by omega) (by omega)).trans (by omega)))) ?_; clear F a; intro a F
 refine list_val F (wn rfl) rfl rfl (.int .i64 ((nF xs g : Nat) : Int)) (ex_assign _ rfl _ (F.e rfl)) ?_; clear F a; intro a F
 refine list_val F (wn rfl) rfl rfl (.int .i64 ((nT xs g : Nat) : Int)) (ex_assign _ rfl _ (F.e rfl)) ?_; clear F a; intro a F
 refine wpList_nil ?_
 replace F : Fr 18 a [(0, .slice A xs.length c), (1, .int .u64 g), (3, .pointer (some ⟨g3, 0, none⟩)), (4, .int .i64 ((nF xs g : Nat) : Int)), (5, .int .i64 ((nT xs g : Nat) : Int)), (6, .int .i64 ((nF xs g : Nat) : Int))] := F.keep ⟨rfl, rfl, rfl, rfl, rfl, rfl, trivial⟩
 refine then_n ?_
 refine wp_ret ?_
 exact ret_tmp2 F rfl rfl rfl ⟨rfl, M.bel⟩
theorem r2_sl_57_19 : sl? Tryz.prog 57 19 = true := by kernel_rfl
theorem r2_fa_85_0_0 : fa? Tryz.prog 85 0 0 = true := by kernel_rfl
theorem r2_one_4 : one? Tryz.prog 4 = true := by kernel_rfl
theorem r2_fa_85_2_2 : fa? Tryz.prog 85 2 2 = true := by kernel_rfl
theorem r2_follows_mixedOrders : Tryz.prog.follows .mixedOrders = true := by kernel_rfl
theorem r2_ent_31 : ent? Tryz.prog 31 = true := by kernel_rfl
theorem r2_fa_85_1_1 : fa? Tryz.prog 85 1 1 = true := by kernel_rfl
theorem r2_one_67 : one? Tryz.prog 67 = true := by kernel_rfl
set_option maxHeartbeats 1000000 in
set_option maxRecDepth 100000 in
theorem check_any (xs : List Rv) (h : IsL xs) (A : Option Addr) (c : Nat) (w : World) (hr : kRv.C w A xs.length xs) (hmx : xs.length ≤ 1000000) :
    Calls Tryz.prog 17 #[.slice A xs.length c] w fun e w' => e = .returned (.int .i64 0) ∧ Below w.heap.size w w' := by
 refine calls_start Tryz.func17 rfl rfl rfl (fun a F => ?_)
 have M : Mm w w [] := Mm.nil w
 refine wp_seq ?_
 refine wp_region_lit ?_
 refine list_val F (wn rfl) rfl rfl (.int .i64 0) (ex_assign _ rfl _ rfl) ?_; clear F a; intro a F
 refine wpList_nil ?_
 replace F : Fr 56 a [(0, .slice A xs.length c), (2, .int .i64 0)] := F.keep ⟨rfl, rfl, trivial⟩
 refine then_n ?_
 refine wp_seq ?_
 refine wp_seq ?_
 refine wp_region_lit ?_
 refine list_val F (wn rfl) rfl rfl (.slice A xs.length c) (ex_move _ rfl _ (F.e rfl)) ?_; clear F a; intro a F
 refine list_val F (wn rfl) rfl rfl (.int .i64 ((xs.length : Nat) : Int)) (ex_len _ _ rfl 19 r2_sl_57_19 _ _ _ (F.e rfl)) ?_; clear F a; intro a F
 refine list_val F (wn rfl) rfl rfl (.int .i64 0) (ex_move _ rfl _ rfl) ?_; clear F a; intro a F
 refine wpList_nil ?_
 replace F : Fr 56 a [(0, .slice A xs.length c), (2, .int .i64 0), (5, .slice A xs.length c), (6, .int .i64 ((xs.length : Nat) : Int)), (7, .int .i64 0)] := F.keep ⟨rfl, rfl, rfl, rfl, rfl, trivial⟩
 refine then_n ?_
 refine wp_block ?_
 refine wp_loopN (fun mq ar wr => ∃ (i : Nat), Fr 56 ar [(0, .slice A xs.length c), (2, .int .i64 0), (5, .slice A xs.length c), (6, .int .i64 ((xs.length : Nat) : Int)), (7, .int .i64 ((i : Nat) : Int))] ∧ Mm w wr [] ∧ i ≤ xs.length ∧ mq + i = xs.length) xs.length ?_ ?_
 ·
  exact ⟨0, F.keep ⟨rfl, rfl, rfl, rfl, rfl, trivial⟩, M, (Nat.zero_le _), (by omega)⟩
 clear F M a
 rintro mq a v ⟨i, F, M, hi, hq⟩; try clear w
 by_cases hin : i < xs.length
 ·
  obtain ⟨x, hx⟩ : ∃ x, xs[i]? = some x := ⟨_, List.getElem?_eq_getElem (by omega)⟩
  obtain ⟨ad, hA, z⟩ := C_ix hr hx
  subst hA
  refine wp_seq ?_
  refine wp_region_lit ?_
  refine list_val F (wn rfl) rfl rfl (.bool true) (ex_bin .lss _ _ _ _ rfl .i64 _ _ (F.e rfl) (F.e rfl) _ (b_lss (decide_eq_true (by omega)))) ?_; clear F a; intro a F
  refine wpList_nil ?_
  replace F : Fr 56 a [(0, .slice (some ad) xs.length c), (2, .int .i64 0), (5, .slice (some ad) xs.length c), (6, .int .i64 ((xs.length : Nat) : Int)), (7, .int .i64 ((i : Nat) : Int)), (8, .bool true)] := F.keep ⟨rfl, rfl, rfl, rfl, rfl, rfl, trivial⟩
  refine then_n ?_
  refine wp_seq ?_
  refine wp_cond_true (F.e rfl) ?_
  refine wp_skip ?_
  refine then_n ?_
  refine wp_seq ?_
  refine wp_block ?_
  refine wp_seq ?_
  refine wp_region_lit ?_
  refine list_val F (wn rfl) rfl rfl (.int .i64 ((i : Nat) : Int)) (ex_move _ rfl _ (F.e rfl)) ?_; clear F a; intro a F
  refine list_val F (wn rfl) rfl rfl (.pointer (some (ad.add (i * 19)))) (ex_ix _ _ _ rfl 19 r2_sl_57_19 ad _ _ (F.e rfl) .i64 _ (F.e rfl) i rfl (by omega) (ad.add (i * 19)) rfl) ?_; clear F a; intro a F
  refine list_val F (wn rfl) rfl rfl (.agg x.arr) (ex_load _ _ rfl _ (F.e rfl) _ (lrow85 x ((z.below M.bel)))) ?_; clear F a; intro a F
  refine list_do (wn rfl) (fun K hK => ?_)
  refine ow_alloc F M rfl rfl 85 rfl (.agg zRv.arr) zero85 zRv.arr rfl ?_
  clear F M a; intro a g4 u F M hb hg
  refine hK _ _ ?_
  clear hK K
  clear hb hg; try clear v
  refine list_val F (wn rfl) rfl rfl (.int .i64 ((i : Nat) : Int)) (ex_assign _ rfl _ (F.e rfl)) ?_; clear F a; intro a F
  refine list_do (wn rfl) (fun K hK => ?_)
  refine ow_put F M rfl 85 _ _ rfl 0 _ zRv.arr _ rfl (F.e rfl) x.arr (F.e rfl) (sz85 _) (by simp only [Rv.arr_size]) (Rv.arr_one _) ?_
  clear F a; have Mo := M; clear M; intro a v F M hgr
  refine hK _ _ ?_
  clear hK K
  clear Mo hgr; try clear u
  replace M : Mm w v [⟨g4, x.arr, 85⟩] := M
  refine wpList_nil ?_
  replace F : Fr 56 a [(0, .slice (some ad) xs.length c), (2, .int .i64 0), (3, .int .i64 ((i : Nat) : Int)), (4, .pointer (some ⟨g4, 0, none⟩)), (5, .slice (some ad) xs.length c), (6, .int .i64 ((xs.length : Nat) : Int)), (7, .int .i64 ((i : Nat) : Int)), (8, .bool true)] := F.keep ⟨rfl, rfl, rfl, rfl, rfl, rfl, rfl, rfl, trivial⟩
  refine then_n ?_
  refine wp_seq ?_
  refine wp_seq ?_
  by_cases hw : x.whole = true
  ·
   have hz := h.zero x (List.mem_of_getElem? hx) hw
   refine wp_region_lit ?_
   refine list_val F (wn rfl) rfl rfl (.pointer (some ⟨g4, 0, none⟩)) (ex_fa _ _ _ rfl _ (F.e rfl) 0 r2_fa_85_0_0 ⟨g4, 0, none⟩ rfl) ?_; clear F a; intro a F
   refine list_val F (wn rfl) rfl rfl (.bool true) (ex_load _ _ rfl _ (F.e rfl) _ (lv1 r2_one_4 (M.cell (i := 0) rfl (j := 0) (Rv.arr_0e hw)))) ?_; clear F a; intro a F
   refine list_val F (wn rfl) rfl rfl (.bool true) (ex_move _ rfl _ (F.e rfl)) ?_; clear F a; intro a F
   refine list_val F (F.wants 14 true rfl (by kernel_rfl) rfl true rfl) rfl rfl (.pointer (some ⟨g4, 2, none⟩)) (ex_fa _ _ _ rfl _ (F.e rfl) 2 r2_fa_85_2_2 ⟨g4, 2, none⟩ rfl) ?_; clear F a; intro a F
   refine list_val F (F.wants 14 true rfl (by kernel_rfl) rfl true rfl) rfl rfl (.agg x.id.cs.toArray) (ex_load _ _ rfl _ (F.e rfl) _ (lrow69 x.id (Rv.id_at (M.at (i := 0) rfl)))) ?_; clear F a; intro a F
   refine list_val F (F.wants 14 true rfl (by kernel_rfl) rfl true rfl) rfl rfl (.agg ((zBs 16).cs.toArray)) (ex_build69 rfl) ?_; clear F a; intro a F
   refine list_val F (F.wants 14 true rfl (by kernel_rfl) rfl true rfl) rfl rfl (.bool false) (ex_ne69 _ _ _ rfl x.id (zBs 16) (F.e rfl) (F.e rfl) false (by rw [hz]; simp)) ?_; clear F a; intro a F
   refine list_val F (wn rfl) rfl rfl (.bool false) (ex_pick_t _ _ _ rfl (F.e rfl) _ (F.e rfl)) ?_; clear F a; intro a F
   refine wpList_nil ?_
   replace F : Fr 56 a [(0, .slice (some ad) xs.length c), (2, .int .i64 0), (3, .int .i64 ((i : Nat) : Int)), (4, .pointer (some ⟨g4, 0, none⟩)), (5, .slice (some ad) xs.length c), (6, .int .i64 ((xs.length : Nat) : Int)), (7, .int .i64 ((i : Nat) : Int)), (8, .bool true), (19, .bool false)] := F.keep ⟨rfl, rfl, rfl, rfl, rfl, rfl, rfl, rfl, rfl, trivial⟩
   refine then_n ?_
   refine wp_cond_false (F.e rfl) ?_
   refine wp_skip ?_
   refine then_n ?_
   refine wp_seq ?_
   by_cases hi0 : 0 < i
   ·
    obtain ⟨y, hy⟩ : ∃ y, xs[i - 1]? = some y := ⟨_, List.getElem?_eq_getElem (by omega)⟩
    obtain ⟨_, had, zy⟩ := C_ix hr hy
    obtain rfl := Option.some.inj had
    clear had
    have hlt := h.adj (show i - 1 < i by omega) hy hx
    by_cases hgr : y.grant = x.grant
    ·
     exact absurd (hlt.2 hgr).2 (by rw [hw]; decide)
    refine wp_only (fun ar wr => Fr 56 ar [(0, .slice (some ad) xs.length c), (2, .int .i64 0), (3, .int .i64 ((i : Nat) : Int)), (4, .pointer (some ⟨g4, 0, none⟩)), (5, .slice (some ad) xs.length c), (6, .int .i64 ((xs.length : Nat) : Int)), (7, .int .i64 ((i : Nat) : Int)), (8, .bool true), (19, .bool false), (54, .bool false)] ∧ Mm w wr [⟨g4, x.arr, 85⟩]) ?_ ?_
    ·
     refine region_anyM r2_follows_mixedOrders M [⟨g4, x.arr, 85⟩] (fun w' M => (by refine M.pick' [0] _ ?_ (by decide); exact ⟨rfl, trivial⟩)) ?_; clear M; intro wD M hb
     clear hb; try clear v
     have hS : Mm w wD [⟨g4, x.arr, 85⟩] := (by refine M.pick' [0] _ ?_ (by decide); exact ⟨rfl, trivial⟩)
     refine any_val F 0 rfl (by kernel_rfl) (wn rfl) rfl rfl (.int .i64 ((i : Nat) : Int)) (fun w' hS' => ex_move _ rfl _ (F.e rfl)) hS ?_; clear F a; intro a F
     refine any_val F 1 rfl (by kernel_rfl) (wn rfl) rfl rfl (.bool true) (fun w' hS' => ex_bin .gtr _ _ _ _ rfl .i64 _ _ (F.e rfl) rfl _ (b_gtr (decide_eq_true (by omega)))) hS ?_; clear F a; intro a F
     refine any_val F 2 rfl (by kernel_rfl) (wn rfl) rfl rfl (.bool true) (fun w' hS' => ex_move _ rfl _ (F.e rfl)) hS ?_; clear F a; intro a F
     refine any_val F 3 rfl (by kernel_rfl) (F.wants 22 true rfl (by kernel_rfl) rfl true rfl) rfl rfl (.slice (some ad) xs.length c) (fun w' hS' => ex_move _ rfl _ (F.e rfl)) hS ?_; clear F a; intro a F
     refine any_val F 4 rfl (by kernel_rfl) (F.wants 22 true rfl (by kernel_rfl) rfl true rfl) rfl rfl (.int .i64 ((i : Nat) : Int)) (fun w' hS' => ex_move _ rfl _ (F.e rfl)) hS ?_; clear F a; intro a F
     refine any_val F 5 rfl (by kernel_rfl) (F.wants 22 true rfl (by kernel_rfl) rfl true rfl) rfl rfl (.int .i64 ((i - 1 : Nat) : Int)) (fun w' hS' => ex_bin .sub _ _ _ _ rfl .i64 _ _ (F.e rfl) rfl _ (b_sub ((w_i64 (by omega) (by omega)).trans (by omega)))) hS ?_; clear F a; intro a F
     refine any_val F 6 rfl (by kernel_rfl) (F.wants 22 true rfl (by kernel_rfl) rfl true rfl) rfl rfl (.pointer (some (ad.add ((i - 1) * 19)))) (fun w' hS' => ex_ix _ _ _ rfl 19 r2_sl_57_19 ad _ _ (F.e rfl) .i64 _ (F.e rfl) (i - 1) rfl (by omega) (ad.add ((i - 1) * 19)) rfl) hS ?_; clear F a; intro a F
     refine any_val F 7 rfl (by kernel_rfl) (F.wants 22 true rfl (by kernel_rfl) rfl true rfl) rfl rfl (.agg y.arr) (fun w' hS' => ex_load _ _ rfl _ (F.e rfl) _ (lrow85 y ((zy.below hS'.bel)))) hS ?_; clear F a; intro a F
     refine any_val F 8 rfl (by kernel_rfl) (F.wants 22 true rfl (by kernel_rfl) rfl true rfl) rfl rfl (.agg x.arr) (fun w' hS' => ex_load _ _ rfl _ (F.e rfl) _ (lrow85 x (hS'.at (i := 0) rfl))) hS ?_; clear F a; intro a F
     refine any_ready [9] (by kernel_rfl) (by simp) ?_
     refine ready_do rfl (F.wants 22 true rfl (by kernel_rfl) rfl true rfl) (fun K hK => ?_) AllReadyH.nil
     refine ow_call rfl rfl F 31 #[.agg y.arr, .agg x.arr] (ex_call 31 _ _ rfl rfl r2_ent_31 _ (map2 (F.e rfl) (F.e rfl))) (before_any y x _) (fun e v hR => ?_)
     obtain ⟨he, hb⟩ := hR
     rw [decide_eq_true hlt.1] at he
     refine ⟨.bool true, he, ?_⟩; clear he F a; intro a F
     replace hS : Mm w v [⟨g4, x.arr, 85⟩] := (by refine (M.below hb).pick' [0] _ ?_ (by decide); exact ⟨rfl, trivial⟩)
     refine hK _ _ hS ?_
     clear hK K
     replace M := M.below hb; clear hb; try clear wD
     refine any_val F 10 rfl (by kernel_rfl) (F.wants 22 true rfl (by kernel_rfl) rfl true rfl) rfl rfl (.bool false) (fun w' hS' => ex_not _ _ rfl _ (F.e rfl) _ rfl) hS ?_; clear F a; intro a F
     refine any_val F 11 rfl (by kernel_rfl) (F.wants 22 true rfl (by kernel_rfl) rfl true rfl) rfl rfl (.bool false) (fun w' hS' => ex_move _ rfl _ (F.e rfl)) hS ?_; clear F a; intro a F
     refine any_val F 12 rfl (by kernel_rfl) (F.wants 31 false rfl (by kernel_rfl) rfl true rfl) rfl rfl (.slice (some ad) xs.length c) (fun w' hS' => ex_move _ rfl _ (F.e rfl)) hS ?_; clear F a; intro a F
     refine any_val F 13 rfl (by kernel_rfl) (F.wants 31 false rfl (by kernel_rfl) rfl true rfl) rfl rfl (.int .i64 ((i : Nat) : Int)) (fun w' hS' => ex_move _ rfl _ (F.e rfl)) hS ?_; clear F a; intro a F
     refine any_val F 14 rfl (by kernel_rfl) (F.wants 31 false rfl (by kernel_rfl) rfl true rfl) rfl rfl (.int .i64 ((i - 1 : Nat) : Int)) (fun w' hS' => ex_bin .sub _ _ _ _ rfl .i64 _ _ (F.e rfl) rfl _ (b_sub ((w_i64 (by omega) (by omega)).trans (by omega)))) hS ?_; clear F a; intro a F
     refine any_val F 15 rfl (by kernel_rfl) (F.wants 31 false rfl (by kernel_rfl) rfl true rfl) rfl rfl (.pointer (some (ad.add ((i - 1) * 19)))) (fun w' hS' => ex_ix _ _ _ rfl 19 r2_sl_57_19 ad _ _ (F.e rfl) .i64 _ (F.e rfl) (i - 1) rfl (by omega) (ad.add ((i - 1) * 19)) rfl) hS ?_; clear F a; intro a F
     refine any_val F 16 rfl (by kernel_rfl) (F.wants 31 false rfl (by kernel_rfl) rfl true rfl) rfl rfl (.pointer (some ((ad.add ((i - 1) * 19)).add 1))) (fun w' hS' => ex_fa _ _ _ rfl _ (F.e rfl) 1 r2_fa_85_1_1 ((ad.add ((i - 1) * 19)).add 1) rfl) hS ?_; clear F a; intro a F
     refine any_val F 17 rfl (by kernel_rfl) (F.wants 31 false rfl (by kernel_rfl) rfl true rfl) rfl rfl (.int .u64 y.grant) (fun w' hS' => ex_load _ _ rfl _ (F.e rfl) _ (lv1 r2_one_67 ((zy.below hS'.bel).cell 1 _ (Rv.cs_1 _)))) hS ?_; clear F a; intro a F
     refine any_val F 18 rfl (by kernel_rfl) (F.wants 31 false rfl (by kernel_rfl) rfl true rfl) rfl rfl (.pointer (some ⟨g4, 1, none⟩)) (fun w' hS' => ex_fa _ _ _ rfl _ (F.e rfl) 1 r2_fa_85_1_1 ⟨g4, 1, none⟩ rfl) hS ?_; clear F a; intro a F
     refine any_val F 19 rfl (by kernel_rfl) (F.wants 31 false rfl (by kernel_rfl) rfl true rfl) rfl rfl (.int .u64 x.grant) (fun w' hS' => ex_load _ _ rfl _ (F.e rfl) _ (lv1 r2_one_67 (hS'.cell (i := 0) rfl (j := 1) (Rv.arr_1 _)))) hS ?_; clear F a; intro a F
     refine any_val F 20 rfl (by kernel_rfl) (F.wants 31 false rfl (by kernel_rfl) rfl true rfl) rfl rfl (.bool false) (fun w' hS' => ex_bin .eql _ _ _ _ rfl .u64 _ _ (F.e rfl) (F.e rfl) _ (b_eql (by simp [hgr]))) hS ?_; clear F a; intro a F
     refine any_val F 21 rfl (by kernel_rfl) (F.wants 31 false rfl (by kernel_rfl) rfl true rfl) rfl rfl (.bool false) (fun w' hS' => ex_move _ rfl _ (F.e rfl)) hS ?_; clear F a; intro a F
     refine any_pass F 22 rfl (by kernel_rfl) (F.wants 41 false rfl (by kernel_rfl) rfl false rfl) rfl rfl hS ?_; clear F a; intro a F
     refine any_pass F 23 rfl (by kernel_rfl) (F.wants 41 false rfl (by kernel_rfl) rfl false rfl) rfl rfl hS ?_; clear F a; intro a F
     refine any_pass F 24 rfl (by kernel_rfl) (F.wants 41 false rfl (by kernel_rfl) rfl false rfl) rfl rfl hS ?_; clear F a; intro a F
     refine any_pass F 25 rfl (by kernel_rfl) (F.wants 41 false rfl (by kernel_rfl) rfl false rfl) rfl rfl hS ?_; clear F a; intro a F
     refine any_pass F 26 rfl (by kernel_rfl) (F.wants 41 false rfl (by kernel_rfl) rfl false rfl) rfl rfl hS ?_; clear F a; intro a F
     refine any_pass F 27 rfl (by kernel_rfl) (F.wants 41 false rfl (by kernel_rfl) rfl false rfl) rfl rfl hS ?_; clear F a; intro a F
     refine any_pass F 28 rfl (by kernel_rfl) (F.wants 41 false rfl (by kernel_rfl) rfl false rfl) rfl rfl hS ?_; clear F a; intro a F
     refine any_pass F 29 rfl (by kernel_rfl) (F.wants0 48 rfl (by kernel_rfl) rfl) rfl rfl hS ?_; clear F a; intro a F
     refine any_pass F 30 rfl (by kernel_rfl) (F.wants0 48 rfl (by kernel_rfl) rfl) rfl rfl hS ?_; clear F a; intro a F
     refine any_pass F 31 rfl (by kernel_rfl) (F.wants 41 false rfl (by kernel_rfl) rfl false rfl) rfl rfl hS ?_; clear F a; intro a F
     refine any_val F 32 rfl (by kernel_rfl) (F.wants 31 false rfl (by kernel_rfl) rfl true rfl) rfl rfl (.bool false) (fun w' hS' => ex_pick_f _ _ _ rfl (F.e rfl) _ rfl) hS ?_; clear F a; intro a F
     refine any_val F 33 rfl (by kernel_rfl) (F.wants 22 true rfl (by kernel_rfl) rfl true rfl) rfl rfl (.bool false) (fun w' hS' => ex_pick_f _ _ _ rfl (F.e rfl) _ (F.e rfl)) hS ?_; clear F a; intro a F
     refine any_val F 34 rfl (by kernel_rfl) (wn rfl) rfl rfl (.bool false) (fun w' hS' => ex_pick_t _ _ _ rfl (F.e rfl) _ (F.e rfl)) hS ?_; clear F a; intro a F
     refine any_done (by kernel_rfl) ?_
     exact ⟨F.keep ⟨rfl, rfl, rfl, rfl, rfl, rfl, rfl, rfl, rfl, rfl, trivial⟩, (by refine M.pick' [0] _ ?_ (by decide); exact ⟨rfl, trivial⟩)⟩
    clear F M a
    intro a u hR; obtain ⟨F, M⟩ := hR; try clear v
    refine then_n ?_
    refine wp_cond_false (F.e rfl) ?_
    refine wp_skip ?_
    refine in_n ?_
    refine then_n ?_
    refine wp_region_lit ?_
    refine list_val F (wn rfl) rfl rfl (.int .i64 ((i + 1 : Nat) : Int)) (ex_bin .add _ _ _ _ rfl .i64 _ _ (F.e rfl) rfl _ (b_add ((w_i64 (by omega) (by omega)).trans (by omega)))) ?_; clear F a; intro a F
    refine list_val F (wn rfl) rfl rfl (.int .i64 ((i + 1 : Nat) : Int)) (ex_move _ rfl _ (F.e rfl)) ?_; clear F a; intro a F
    refine wpList_nil ?_
    replace F : Fr 56 a [(0, .slice (some ad) xs.length c), (2, .int .i64 0), (3, .int .i64 ((i : Nat) : Int)), (4, .pointer (some ⟨g4, 0, none⟩)), (5, .slice (some ad) xs.length c), (6, .int .i64 ((xs.length : Nat) : Int)), (7, .int .i64 ((i + 1 : Nat) : Int)), (8, .bool true), (19, .bool false), (54, .bool false)] := F.keep ⟨rfl, rfl, rfl, rfl, rfl, rfl, rfl, rfl, rfl, rfl, trivial⟩
    refine then_n ?_
    exact ⟨xs.length - (i + 1), by omega, (i + 1), F.keep ⟨rfl, rfl, rfl, rfl, rfl, trivial⟩, (by refine M.pick' [] _ ?_ (by decide); exact trivial), (by omega), (by omega)⟩
   refine wp_only (fun ar wr => Fr 56 ar [(0, .slice (some ad) xs.length c), (2, .int .i64 0), (3, .int .i64 ((i : Nat) : Int)), (4, .pointer (some ⟨g4, 0, none⟩)), (5, .slice (some ad) xs.length c), (6, .int .i64 ((xs.length : Nat) : Int)), (7, .int .i64 ((i : Nat) : Int)), (8, .bool true), (19, .bool false), (54, .bool false)] ∧ Mm w wr [⟨g4, x.arr, 85⟩]) ?_ ?_
   ·
    refine region_anyM r2_follows_mixedOrders M [⟨g4, x.arr, 85⟩] (fun w' M => (by refine M.pick' [0] _ ?_ (by decide); exact ⟨rfl, trivial⟩)) ?_; clear M; intro wD M hb
    clear hb; try clear v
    have hS : Mm w wD [⟨g4, x.arr, 85⟩] := (by refine M.pick' [0] _ ?_ (by decide); exact ⟨rfl, trivial⟩)
    refine any_val F 0 rfl (by kernel_rfl) (wn rfl) rfl rfl (.int .i64 ((i : Nat) : Int)) (fun w' hS' => ex_move _ rfl _ (F.e rfl)) hS ?_; clear F a; intro a F
    refine any_val F 1 rfl (by kernel_rfl) (wn rfl) rfl rfl (.bool false) (fun w' hS' => ex_bin .gtr _ _ _ _ rfl .i64 _ _ (F.e rfl) rfl _ (b_gtr (decide_eq_false (by omega)))) hS ?_; clear F a; intro a F
    refine any_val F 2 rfl (by kernel_rfl) (wn rfl) rfl rfl (.bool false) (fun w' hS' => ex_move _ rfl _ (F.e rfl)) hS ?_; clear F a; intro a F
    refine any_pass F 3 rfl (by kernel_rfl) (F.wants 22 false rfl (by kernel_rfl) rfl false rfl) rfl rfl hS ?_; clear F a; intro a F
    refine any_pass F 4 rfl (by kernel_rfl) (F.wants 22 false rfl (by kernel_rfl) rfl false rfl) rfl rfl hS ?_; clear F a; intro a F
    refine any_pass F 5 rfl (by kernel_rfl) (F.wants 22 false rfl (by kernel_rfl) rfl false rfl) rfl rfl hS ?_; clear F a; intro a F
    refine any_pass F 6 rfl (by kernel_rfl) (F.wants 22 false rfl (by kernel_rfl) rfl false rfl) rfl rfl hS ?_; clear F a; intro a F
    refine any_pass F 7 rfl (by kernel_rfl) (F.wants 22 false rfl (by kernel_rfl) rfl false rfl) rfl rfl hS ?_; clear F a; intro a F
    refine any_pass F 8 rfl (by kernel_rfl) (F.wants 22 false rfl (by kernel_rfl) rfl false rfl) rfl rfl hS ?_; clear F a; intro a F
    refine any_pass F 9 rfl (by kernel_rfl) (F.wants 22 false rfl (by kernel_rfl) rfl false rfl) rfl rfl hS ?_; clear F a; intro a F
    refine any_pass F 10 rfl (by kernel_rfl) (F.wants 22 false rfl (by kernel_rfl) rfl false rfl) rfl rfl hS ?_; clear F a; intro a F
    refine any_pass F 11 rfl (by kernel_rfl) (F.wants 22 false rfl (by kernel_rfl) rfl false rfl) rfl rfl hS ?_; clear F a; intro a F
    refine any_pass F 12 rfl (by kernel_rfl) (F.wants0 31 rfl (by kernel_rfl) rfl) rfl rfl hS ?_; clear F a; intro a F
    refine any_pass F 13 rfl (by kernel_rfl) (F.wants0 31 rfl (by kernel_rfl) rfl) rfl rfl hS ?_; clear F a; intro a F
    refine any_pass F 14 rfl (by kernel_rfl) (F.wants0 31 rfl (by kernel_rfl) rfl) rfl rfl hS ?_; clear F a; intro a F
    refine any_pass F 15 rfl (by kernel_rfl) (F.wants0 31 rfl (by kernel_rfl) rfl) rfl rfl hS ?_; clear F a; intro a F
    refine any_pass F 16 rfl (by kernel_rfl) (F.wants0 31 rfl (by kernel_rfl) rfl) rfl rfl hS ?_; clear F a; intro a F
    refine any_pass F 17 rfl (by kernel_rfl) (F.wants0 31 rfl (by kernel_rfl) rfl) rfl rfl hS ?_; clear F a; intro a F
    refine any_pass F 18 rfl (by kernel_rfl) (F.wants0 31 rfl (by kernel_rfl) rfl) rfl rfl hS ?_; clear F a; intro a F
    refine any_pass F 19 rfl (by kernel_rfl) (F.wants0 31 rfl (by kernel_rfl) rfl) rfl rfl hS ?_; clear F a; intro a F
    refine any_pass F 20 rfl (by kernel_rfl) (F.wants0 31 rfl (by kernel_rfl) rfl) rfl rfl hS ?_; clear F a; intro a F
    refine any_pass F 21 rfl (by kernel_rfl) (F.wants0 31 rfl (by kernel_rfl) rfl) rfl rfl hS ?_; clear F a; intro a F
    refine any_pass F 22 rfl (by kernel_rfl) (F.wants0 41 rfl (by kernel_rfl) rfl) rfl rfl hS ?_; clear F a; intro a F
    refine any_pass F 23 rfl (by kernel_rfl) (F.wants0 41 rfl (by kernel_rfl) rfl) rfl rfl hS ?_; clear F a; intro a F
    refine any_pass F 24 rfl (by kernel_rfl) (F.wants0 41 rfl (by kernel_rfl) rfl) rfl rfl hS ?_; clear F a; intro a F
    refine any_pass F 25 rfl (by kernel_rfl) (F.wants0 41 rfl (by kernel_rfl) rfl) rfl rfl hS ?_; clear F a; intro a F
    refine any_pass F 26 rfl (by kernel_rfl) (F.wants0 41 rfl (by kernel_rfl) rfl) rfl rfl hS ?_; clear F a; intro a F
    refine any_pass F 27 rfl (by kernel_rfl) (F.wants0 41 rfl (by kernel_rfl) rfl) rfl rfl hS ?_; clear F a; intro a F
    refine any_pass F 28 rfl (by kernel_rfl) (F.wants0 41 rfl (by kernel_rfl) rfl) rfl rfl hS ?_; clear F a; intro a F
    refine any_pass F 29 rfl (by kernel_rfl) (F.wants0 48 rfl (by kernel_rfl) rfl) rfl rfl hS ?_; clear F a; intro a F
    refine any_pass F 30 rfl (by kernel_rfl) (F.wants0 48 rfl (by kernel_rfl) rfl) rfl rfl hS ?_; clear F a; intro a F
    refine any_pass F 31 rfl (by kernel_rfl) (F.wants0 41 rfl (by kernel_rfl) rfl) rfl rfl hS ?_; clear F a; intro a F
    refine any_pass F 32 rfl (by kernel_rfl) (F.wants0 31 rfl (by kernel_rfl) rfl) rfl rfl hS ?_; clear F a; intro a F
    refine any_pass F 33 rfl (by kernel_rfl) (F.wants 22 false rfl (by kernel_rfl) rfl false rfl) rfl rfl hS ?_; clear F a; intro a F
    refine any_val F 34 rfl (by kernel_rfl) (wn rfl) rfl rfl (.bool false) (fun w' hS' => ex_pick_f _ _ _ rfl (F.e rfl) _ rfl) hS ?_; clear F a; intro a F
    refine any_done (by kernel_rfl) ?_
    exact ⟨F.keep ⟨rfl, rfl, rfl, rfl, rfl, rfl, rfl, rfl, rfl, rfl, trivial⟩, (by refine M.pick' [0] _ ?_ (by decide); exact ⟨rfl, trivial⟩)⟩
   clear F M a
   intro a u hR; obtain ⟨F, M⟩ := hR; try clear v
   refine then_n ?_
   refine wp_cond_false (F.e rfl) ?_
   refine wp_skip ?_
   refine in_n ?_
   refine then_n ?_
   refine wp_region_lit ?_
   refine list_val F (wn rfl) rfl rfl (.int .i64 ((i + 1 : Nat) : Int)) (ex_bin .add _ _ _ _ rfl .i64 _ _ (F.e rfl) rfl _ (b_add ((w_i64 (by omega) (by omega)).trans (by omega)))) ?_; clear F a; intro a F
   refine list_val F (wn rfl) rfl rfl (.int .i64 ((i + 1 : Nat) : Int)) (ex_move _ rfl _ (F.e rfl)) ?_; clear F a; intro a F
   refine wpList_nil ?_
   replace F : Fr 56 a [(0, .slice (some ad) xs.length c), (2, .int .i64 0), (3, .int .i64 ((i : Nat) : Int)), (4, .pointer (some ⟨g4, 0, none⟩)), (5, .slice (some ad) xs.length c), (6, .int .i64 ((xs.length : Nat) : Int)), (7, .int .i64 ((i + 1 : Nat) : Int)), (8, .bool true), (19, .bool false), (54, .bool false)] := F.keep ⟨rfl, rfl, rfl, rfl, rfl, rfl, rfl, rfl, rfl, rfl, trivial⟩
   refine then_n ?_
   exact ⟨xs.length - (i + 1), by omega, (i + 1), F.keep ⟨rfl, rfl, rfl, rfl, rfl, trivial⟩, (by refine M.pick' [] _ ?_ (by decide); exact trivial), (by omega), (by omega)⟩
  refine wp_region_lit ?_
  refine list_val F (wn rfl) rfl rfl (.pointer (some ⟨g4, 0, none⟩)) (ex_fa _ _ _ rfl _ (F.e rfl) 0 r2_fa_85_0_0 ⟨g4, 0, none⟩ rfl) ?_; clear F a; intro a F
  refine list_val F (wn rfl) rfl rfl (.bool false) (ex_load _ _ rfl _ (F.e rfl) _ (lv1 r2_one_4 (M.cell (i := 0) rfl (j := 0) (Rv.arr_0e (Bool.eq_false_iff.2 hw))))) ?_; clear F a; intro a F
  refine list_val F (wn rfl) rfl rfl (.bool false) (ex_move _ rfl _ (F.e rfl)) ?_; clear F a; intro a F
  refine list_skip F (F.wants 14 false rfl (by kernel_rfl) rfl false rfl) rfl rfl ?_; clear F a; intro a F
  refine list_skip F (F.wants 14 false rfl (by kernel_rfl) rfl false rfl) rfl rfl ?_; clear F a; intro a F
  refine list_skip F (F.wants 14 false rfl (by kernel_rfl) rfl false rfl) rfl rfl ?_; clear F a; intro a F
  refine list_skip F (F.wants 14 false rfl (by kernel_rfl) rfl false rfl) rfl rfl ?_; clear F a; intro a F
  refine list_val F (wn rfl) rfl rfl (.bool false) (ex_pick_f _ _ _ rfl (F.e rfl) _ rfl) ?_; clear F a; intro a F
  refine wpList_nil ?_
  replace F : Fr 56 a [(0, .slice (some ad) xs.length c), (2, .int .i64 0), (3, .int .i64 ((i : Nat) : Int)), (4, .pointer (some ⟨g4, 0, none⟩)), (5, .slice (some ad) xs.length c), (6, .int .i64 ((xs.length : Nat) : Int)), (7, .int .i64 ((i : Nat) : Int)), (8, .bool true), (19, .bool false)] := F.keep ⟨rfl, rfl, rfl, rfl, rfl, rfl, rfl, rfl, rfl, trivial⟩
  refine then_n ?_
  refine wp_cond_false (F.e rfl) ?_
  refine wp_skip ?_
  refine then_n ?_
  refine wp_seq ?_
  by_cases hi0 : 0 < i
  ·
   obtain ⟨y, hy⟩ : ∃ y, xs[i - 1]? = some y := ⟨_, List.getElem?_eq_getElem (by omega)⟩
   obtain ⟨_, had, zy⟩ := C_ix hr hy
   obtain rfl := Option.some.inj had
   clear had
   have hlt := h.adj (show i - 1 < i by omega) hy hx
   by_cases hgr : y.grant = x.grant
   ·
    refine wp_only (fun ar wr => Fr 56 ar [(0, .slice (some ad) xs.length c), (2, .int .i64 0), (3, .int .i64 ((i : Nat) : Int)), (4, .pointer (some ⟨g4, 0, none⟩)), (5, .slice (some ad) xs.length c), (6, .int .i64 ((xs.length : Nat) : Int)), (7, .int .i64 ((i : Nat) : Int)), (8, .bool true), (19, .bool false), (54, .bool false)] ∧ Mm w wr [⟨g4, x.arr, 85⟩]) ?_ ?_
    ·
     refine region_anyM r2_follows_mixedOrders M [⟨g4, x.arr, 85⟩] (fun w' M => (by refine M.pick' [0] _ ?_ (by decide); exact ⟨rfl, trivial⟩)) ?_; clear M; intro wD M hb
     clear hb; try clear v
     have hS : Mm w wD [⟨g4, x.arr, 85⟩] := (by refine M.pick' [0] _ ?_ (by decide); exact ⟨rfl, trivial⟩)
     refine any_val F 0 rfl (by kernel_rfl) (wn rfl) rfl rfl (.int .i64 ((i : Nat) : Int)) (fun w' hS' => ex_move _ rfl _ (F.e rfl)) hS ?_; clear F a; intro a F
     refine any_val F 1 rfl (by kernel_rfl) (wn rfl) rfl rfl (.bool true) (fun w' hS' => ex_bin .gtr _ _ _ _ rfl .i64 _ _ (F.e rfl) rfl _ (b_gtr (decide_eq_true (by omega)))) hS ?_; clear F a; intro a F
     refine any_val F 2 rfl (by kernel_rfl) (wn rfl) rfl rfl (.bool true) (fun w' hS' => ex_move _ rfl _ (F.e rfl)) hS ?_; clear F a; intro a F
     refine any_val F 3 rfl (by kernel_rfl) (F.wants 22 true rfl (by kernel_rfl) rfl true rfl) rfl rfl (.slice (some ad) xs.length c) (fun w' hS' => ex_move _ rfl _ (F.e rfl)) hS ?_; clear F a; intro a F
     refine any_val F 4 rfl (by kernel_rfl) (F.wants 22 true rfl (by kernel_rfl) rfl true rfl) rfl rfl (.int .i64 ((i : Nat) : Int)) (fun w' hS' => ex_move _ rfl _ (F.e rfl)) hS ?_; clear F a; intro a F
     refine any_val F 5 rfl (by kernel_rfl) (F.wants 22 true rfl (by kernel_rfl) rfl true rfl) rfl rfl (.int .i64 ((i - 1 : Nat) : Int)) (fun w' hS' => ex_bin .sub _ _ _ _ rfl .i64 _ _ (F.e rfl) rfl _ (b_sub ((w_i64 (by omega) (by omega)).trans (by omega)))) hS ?_; clear F a; intro a F
     refine any_val F 6 rfl (by kernel_rfl) (F.wants 22 true rfl (by kernel_rfl) rfl true rfl) rfl rfl (.pointer (some (ad.add ((i - 1) * 19)))) (fun w' hS' => ex_ix _ _ _ rfl 19 r2_sl_57_19 ad _ _ (F.e rfl) .i64 _ (F.e rfl) (i - 1) rfl (by omega) (ad.add ((i - 1) * 19)) rfl) hS ?_; clear F a; intro a F
     refine any_val F 7 rfl (by kernel_rfl) (F.wants 22 true rfl (by kernel_rfl) rfl true rfl) rfl rfl (.agg y.arr) (fun w' hS' => ex_load _ _ rfl _ (F.e rfl) _ (lrow85 y ((zy.below hS'.bel)))) hS ?_; clear F a; intro a F
     refine any_val F 8 rfl (by kernel_rfl) (F.wants 22 true rfl (by kernel_rfl) rfl true rfl) rfl rfl (.agg x.arr) (fun w' hS' => ex_load _ _ rfl _ (F.e rfl) _ (lrow85 x (hS'.at (i := 0) rfl))) hS ?_; clear F a; intro a F
     refine any_ready [9] (by kernel_rfl) (by simp) ?_
     refine ready_do rfl (F.wants 22 true rfl (by kernel_rfl) rfl true rfl) (fun K hK => ?_) AllReadyH.nil
     refine ow_call rfl rfl F 31 #[.agg y.arr, .agg x.arr] (ex_call 31 _ _ rfl rfl r2_ent_31 _ (map2 (F.e rfl) (F.e rfl))) (before_any y x _) (fun e v hR => ?_)
     obtain ⟨he, hb⟩ := hR
     rw [decide_eq_true hlt.1] at he
     refine ⟨.bool true, he, ?_⟩; clear he F a; intro a F
     replace hS : Mm w v [⟨g4, x.arr, 85⟩] := (by refine (M.below hb).pick' [0] _ ?_ (by decide); exact ⟨rfl, trivial⟩)
     refine hK _ _ hS ?_
     clear hK K
     replace M := M.below hb; clear hb; try clear wD
     refine any_val F 10 rfl (by kernel_rfl) (F.wants 22 true rfl (by kernel_rfl) rfl true rfl) rfl rfl (.bool false) (fun w' hS' => ex_not _ _ rfl _ (F.e rfl) _ rfl) hS ?_; clear F a; intro a F
     refine any_val F 11 rfl (by kernel_rfl) (F.wants 22 true rfl (by kernel_rfl) rfl true rfl) rfl rfl (.bool false) (fun w' hS' => ex_move _ rfl _ (F.e rfl)) hS ?_; clear F a; intro a F
     refine any_val F 12 rfl (by kernel_rfl) (F.wants 31 false rfl (by kernel_rfl) rfl true rfl) rfl rfl (.slice (some ad) xs.length c) (fun w' hS' => ex_move _ rfl _ (F.e rfl)) hS ?_; clear F a; intro a F
     refine any_val F 13 rfl (by kernel_rfl) (F.wants 31 false rfl (by kernel_rfl) rfl true rfl) rfl rfl (.int .i64 ((i : Nat) : Int)) (fun w' hS' => ex_move _ rfl _ (F.e rfl)) hS ?_; clear F a; intro a F
     refine any_val F 14 rfl (by kernel_rfl) (F.wants 31 false rfl (by kernel_rfl) rfl true rfl) rfl rfl (.int .i64 ((i - 1 : Nat) : Int)) (fun w' hS' => ex_bin .sub _ _ _ _ rfl .i64 _ _ (F.e rfl) rfl _ (b_sub ((w_i64 (by omega) (by omega)).trans (by omega)))) hS ?_; clear F a; intro a F
     refine any_val F 15 rfl (by kernel_rfl) (F.wants 31 false rfl (by kernel_rfl) rfl true rfl) rfl rfl (.pointer (some (ad.add ((i - 1) * 19)))) (fun w' hS' => ex_ix _ _ _ rfl 19 r2_sl_57_19 ad _ _ (F.e rfl) .i64 _ (F.e rfl) (i - 1) rfl (by omega) (ad.add ((i - 1) * 19)) rfl) hS ?_; clear F a; intro a F
     refine any_val F 16 rfl (by kernel_rfl) (F.wants 31 false rfl (by kernel_rfl) rfl true rfl) rfl rfl (.pointer (some ((ad.add ((i - 1) * 19)).add 1))) (fun w' hS' => ex_fa _ _ _ rfl _ (F.e rfl) 1 r2_fa_85_1_1 ((ad.add ((i - 1) * 19)).add 1) rfl) hS ?_; clear F a; intro a F
     refine any_val F 17 rfl (by kernel_rfl) (F.wants 31 false rfl (by kernel_rfl) rfl true rfl) rfl rfl (.int .u64 y.grant) (fun w' hS' => ex_load _ _ rfl _ (F.e rfl) _ (lv1 r2_one_67 ((zy.below hS'.bel).cell 1 _ (Rv.cs_1 _)))) hS ?_; clear F a; intro a F
     refine any_val F 18 rfl (by kernel_rfl) (F.wants 31 false rfl (by kernel_rfl) rfl true rfl) rfl rfl (.pointer (some ⟨g4, 1, none⟩)) (fun w' hS' => ex_fa _ _ _ rfl _ (F.e rfl) 1 r2_fa_85_1_1 ⟨g4, 1, none⟩ rfl) hS ?_; clear F a; intro a F
     refine any_val F 19 rfl (by kernel_rfl) (F.wants 31 false rfl (by kernel_rfl) rfl true rfl) rfl rfl (.int .u64 x.grant) (fun w' hS' => ex_load _ _ rfl _ (F.e rfl) _ (lv1 r2_one_67 (hS'.cell (i := 0) rfl (j := 1) (Rv.arr_1 _)))) hS ?_; clear F a; intro a F
     refine any_val F 20 rfl (by kernel_rfl) (F.wants 31 false rfl (by kernel_rfl) rfl true rfl) rfl rfl (.bool true) (fun w' hS' => ex_bin .eql _ _ _ _ rfl .u64 _ _ (F.e rfl) (F.e rfl) _ (b_eql (by simp [hgr]))) hS ?_; clear F a; intro a F
     refine any_val F 21 rfl (by kernel_rfl) (F.wants 31 false rfl (by kernel_rfl) rfl true rfl) rfl rfl (.bool true) (fun w' hS' => ex_move _ rfl _ (F.e rfl)) hS ?_; clear F a; intro a F
     refine any_val F 22 rfl (by kernel_rfl) (F.wants 41 true rfl (by kernel_rfl) rfl true rfl) rfl rfl (.slice (some ad) xs.length c) (fun w' hS' => ex_move _ rfl _ (F.e rfl)) hS ?_; clear F a; intro a F
     refine any_val F 23 rfl (by kernel_rfl) (F.wants 41 true rfl (by kernel_rfl) rfl true rfl) rfl rfl (.int .i64 ((i : Nat) : Int)) (fun w' hS' => ex_move _ rfl _ (F.e rfl)) hS ?_; clear F a; intro a F
     refine any_val F 24 rfl (by kernel_rfl) (F.wants 41 true rfl (by kernel_rfl) rfl true rfl) rfl rfl (.int .i64 ((i - 1 : Nat) : Int)) (fun w' hS' => ex_bin .sub _ _ _ _ rfl .i64 _ _ (F.e rfl) rfl _ (b_sub ((w_i64 (by omega) (by omega)).trans (by omega)))) hS ?_; clear F a; intro a F
     refine any_val F 25 rfl (by kernel_rfl) (F.wants 41 true rfl (by kernel_rfl) rfl true rfl) rfl rfl (.pointer (some (ad.add ((i - 1) * 19)))) (fun w' hS' => ex_ix _ _ _ rfl 19 r2_sl_57_19 ad _ _ (F.e rfl) .i64 _ (F.e rfl) (i - 1) rfl (by omega) (ad.add ((i - 1) * 19)) rfl) hS ?_; clear F a; intro a F
     refine any_val F 26 rfl (by kernel_rfl) (F.wants 41 true rfl (by kernel_rfl) rfl true rfl) rfl rfl (.pointer (some (ad.add ((i - 1) * 19)))) (fun w' hS' => ex_fa _ _ _ rfl _ (F.e rfl) 0 r2_fa_85_0_0 (ad.add ((i - 1) * 19)) rfl) hS ?_; clear F a; intro a F
     refine any_val F 27 rfl (by kernel_rfl) (F.wants 41 true rfl (by kernel_rfl) rfl true rfl) rfl rfl (.bool false) (fun w' hS' => ex_load _ _ rfl _ (F.e rfl) _ (lv1 r2_one_4 ((zy.below hS'.bel).cell 0 _ (Rv.cs_0e (hlt.2 hgr).1)))) hS ?_; clear F a; intro a F
     refine any_val F 28 rfl (by kernel_rfl) (F.wants 41 true rfl (by kernel_rfl) rfl true rfl) rfl rfl (.bool false) (fun w' hS' => ex_move _ rfl _ (F.e rfl)) hS ?_; clear F a; intro a F
     refine any_val F 29 rfl (by kernel_rfl) (F.wants 48 false rfl (by kernel_rfl) rfl true rfl) rfl rfl (.pointer (some ⟨g4, 0, none⟩)) (fun w' hS' => ex_fa _ _ _ rfl _ (F.e rfl) 0 r2_fa_85_0_0 ⟨g4, 0, none⟩ rfl) hS ?_; clear F a; intro a F
     refine any_val F 30 rfl (by kernel_rfl) (F.wants 48 false rfl (by kernel_rfl) rfl true rfl) rfl rfl (.bool false) (fun w' hS' => ex_load _ _ rfl _ (F.e rfl) _ (lv1 r2_one_4 (hS'.cell (i := 0) rfl (j := 0) (Rv.arr_0e (Bool.eq_false_iff.2 hw))))) hS ?_; clear F a; intro a F
     refine any_val F 31 rfl (by kernel_rfl) (F.wants 41 true rfl (by kernel_rfl) rfl true rfl) rfl rfl (.bool false) (fun w' hS' => ex_pick_f _ _ _ rfl (F.e rfl) _ (F.e rfl)) hS ?_; clear F a; intro a F
     refine any_val F 32 rfl (by kernel_rfl) (F.wants 31 false rfl (by kernel_rfl) rfl true rfl) rfl rfl (.bool false) (fun w' hS' => ex_pick_t _ _ _ rfl (F.e rfl) _ (F.e rfl)) hS ?_; clear F a; intro a F
     refine any_val F 33 rfl (by kernel_rfl) (F.wants 22 true rfl (by kernel_rfl) rfl true rfl) rfl rfl (.bool false) (fun w' hS' => ex_pick_f _ _ _ rfl (F.e rfl) _ (F.e rfl)) hS ?_; clear F a; intro a F
     refine any_val F 34 rfl (by kernel_rfl) (wn rfl) rfl rfl (.bool false) (fun w' hS' => ex_pick_t _ _ _ rfl (F.e rfl) _ (F.e rfl)) hS ?_; clear F a; intro a F
     refine any_done (by kernel_rfl) ?_
     exact ⟨F.keep ⟨rfl, rfl, rfl, rfl, rfl, rfl, rfl, rfl, rfl, rfl, trivial⟩, (by refine M.pick' [0] _ ?_ (by decide); exact ⟨rfl, trivial⟩)⟩
    clear F M a
    intro a u hR; obtain ⟨F, M⟩ := hR; try clear v
    refine then_n ?_
    refine wp_cond_false (F.e rfl) ?_
    refine wp_skip ?_
    refine in_n ?_
    refine then_n ?_
    refine wp_region_lit ?_
    refine list_val F (wn rfl) rfl rfl (.int .i64 ((i + 1 : Nat) : Int)) (ex_bin .add _ _ _ _ rfl .i64 _ _ (F.e rfl) rfl _ (b_add ((w_i64 (by omega) (by omega)).trans (by omega)))) ?_; clear F a; intro a F
    refine list_val F (wn rfl) rfl rfl (.int .i64 ((i + 1 : Nat) : Int)) (ex_move _ rfl _ (F.e rfl)) ?_; clear F a; intro a F
    refine wpList_nil ?_
    replace F : Fr 56 a [(0, .slice (some ad) xs.length c), (2, .int .i64 0), (3, .int .i64 ((i : Nat) : Int)), (4, .pointer (some ⟨g4, 0, none⟩)), (5, .slice (some ad) xs.length c), (6, .int .i64 ((xs.length : Nat) : Int)), (7, .int .i64 ((i + 1 : Nat) : Int)), (8, .bool true), (19, .bool false), (54, .bool false)] := F.keep ⟨rfl, rfl, rfl, rfl, rfl, rfl, rfl, rfl, rfl, rfl, trivial⟩
    refine then_n ?_
    exact ⟨xs.length - (i + 1), by omega, (i + 1), F.keep ⟨rfl, rfl, rfl, rfl, rfl, trivial⟩, (by refine M.pick' [] _ ?_ (by decide); exact trivial), (by omega), (by omega)⟩
   refine wp_only (fun ar wr => Fr 56 ar [(0, .slice (some ad) xs.length c), (2, .int .i64 0), (3, .int .i64 ((i : Nat) : Int)), (4, .pointer (some ⟨g4, 0, none⟩)), (5, .slice (some ad) xs.length c), (6, .int .i64 ((xs.length : Nat) : Int)), (7, .int .i64 ((i : Nat) : Int)), (8, .bool true), (19, .bool false), (54, .bool false)] ∧ Mm w wr [⟨g4, x.arr, 85⟩]) ?_ ?_
   ·
    refine region_anyM r2_follows_mixedOrders M [⟨g4, x.arr, 85⟩] (fun w' M => (by refine M.pick' [0] _ ?_ (by decide); exact ⟨rfl, trivial⟩)) ?_; clear M; intro wD M hb
    clear hb; try clear v
    have hS : Mm w wD [⟨g4, x.arr, 85⟩] := (by refine M.pick' [0] _ ?_ (by decide); exact ⟨rfl, trivial⟩)
    refine any_val F 0 rfl (by kernel_rfl) (wn rfl) rfl rfl (.int .i64 ((i : Nat) : Int)) (fun w' hS' => ex_move _ rfl _ (F.e rfl)) hS ?_; clear F a; intro a F
    refine any_val F 1 rfl (by kernel_rfl) (wn rfl) rfl rfl (.bool true) (fun w' hS' => ex_bin .gtr _ _ _ _ rfl .i64 _ _ (F.e rfl) rfl _ (b_gtr (decide_eq_true (by omega)))) hS ?_; clear F a; intro a F
    refine any_val F 2 rfl (by kernel_rfl) (wn rfl) rfl rfl (.bool true) (fun w' hS' => ex_move _ rfl _ (F.e rfl)) hS ?_; clear F a; intro a F
    refine any_val F 3 rfl (by kernel_rfl) (F.wants 22 true rfl (by kernel_rfl) rfl true rfl) rfl rfl (.slice (some ad) xs.length c) (fun w' hS' => ex_move _ rfl _ (F.e rfl)) hS ?_; clear F a; intro a F
    refine any_val F 4 rfl (by kernel_rfl) (F.wants 22 true rfl (by kernel_rfl) rfl true rfl) rfl rfl (.int .i64 ((i : Nat) : Int)) (fun w' hS' => ex_move _ rfl _ (F.e rfl)) hS ?_; clear F a; intro a F
    refine any_val F 5 rfl (by kernel_rfl) (F.wants 22 true rfl (by kernel_rfl) rfl true rfl) rfl rfl (.int .i64 ((i - 1 : Nat) : Int)) (fun w' hS' => ex_bin .sub _ _ _ _ rfl .i64 _ _ (F.e rfl) rfl _ (b_sub ((w_i64 (by omega) (by omega)).trans (by omega)))) hS ?_; clear F a; intro a F
    refine any_val F 6 rfl (by kernel_rfl) (F.wants 22 true rfl (by kernel_rfl) rfl true rfl) rfl rfl (.pointer (some (ad.add ((i - 1) * 19)))) (fun w' hS' => ex_ix _ _ _ rfl 19 r2_sl_57_19 ad _ _ (F.e rfl) .i64 _ (F.e rfl) (i - 1) rfl (by omega) (ad.add ((i - 1) * 19)) rfl) hS ?_; clear F a; intro a F
    refine any_val F 7 rfl (by kernel_rfl) (F.wants 22 true rfl (by kernel_rfl) rfl true rfl) rfl rfl (.agg y.arr) (fun w' hS' => ex_load _ _ rfl _ (F.e rfl) _ (lrow85 y ((zy.below hS'.bel)))) hS ?_; clear F a; intro a F
    refine any_val F 8 rfl (by kernel_rfl) (F.wants 22 true rfl (by kernel_rfl) rfl true rfl) rfl rfl (.agg x.arr) (fun w' hS' => ex_load _ _ rfl _ (F.e rfl) _ (lrow85 x (hS'.at (i := 0) rfl))) hS ?_; clear F a; intro a F
    refine any_ready [9] (by kernel_rfl) (by simp) ?_
    refine ready_do rfl (F.wants 22 true rfl (by kernel_rfl) rfl true rfl) (fun K hK => ?_) AllReadyH.nil
    refine ow_call rfl rfl F 31 #[.agg y.arr, .agg x.arr] (ex_call 31 _ _ rfl rfl r2_ent_31 _ (map2 (F.e rfl) (F.e rfl))) (before_any y x _) (fun e v hR => ?_)
    obtain ⟨he, hb⟩ := hR
    rw [decide_eq_true hlt.1] at he
    refine ⟨.bool true, he, ?_⟩; clear he F a; intro a F
    replace hS : Mm w v [⟨g4, x.arr, 85⟩] := (by refine (M.below hb).pick' [0] _ ?_ (by decide); exact ⟨rfl, trivial⟩)
    refine hK _ _ hS ?_
    clear hK K
    replace M := M.below hb; clear hb; try clear wD
    refine any_val F 10 rfl (by kernel_rfl) (F.wants 22 true rfl (by kernel_rfl) rfl true rfl) rfl rfl (.bool false) (fun w' hS' => ex_not _ _ rfl _ (F.e rfl) _ rfl) hS ?_; clear F a; intro a F
    refine any_val F 11 rfl (by kernel_rfl) (F.wants 22 true rfl (by kernel_rfl) rfl true rfl) rfl rfl (.bool false) (fun w' hS' => ex_move _ rfl _ (F.e rfl)) hS ?_; clear F a; intro a F
    refine any_val F 12 rfl (by kernel_rfl) (F.wants 31 false rfl (by kernel_rfl) rfl true rfl) rfl rfl (.slice (some ad) xs.length c) (fun w' hS' => ex_move _ rfl _ (F.e rfl)) hS ?_; clear F a; intro a F
    refine any_val F 13 rfl (by kernel_rfl) (F.wants 31 false rfl (by kernel_rfl) rfl true rfl) rfl rfl (.int .i64 ((i : Nat) : Int)) (fun w' hS' => ex_move _ rfl _ (F.e rfl)) hS ?_; clear F a; intro a F
    refine any_val F 14 rfl (by kernel_rfl) (F.wants 31 false rfl (by kernel_rfl) rfl true rfl) rfl rfl (.int .i64 ((i - 1 : Nat) : Int)) (fun w' hS' => ex_bin .sub _ _ _ _ rfl .i64 _ _ (F.e rfl) rfl _ (b_sub ((w_i64 (by omega) (by omega)).trans (by omega)))) hS ?_; clear F a; intro a F
    refine any_val F 15 rfl (by kernel_rfl) (F.wants 31 false rfl (by kernel_rfl) rfl true rfl) rfl rfl (.pointer (some (ad.add ((i - 1) * 19)))) (fun w' hS' => ex_ix _ _ _ rfl 19 r2_sl_57_19 ad _ _ (F.e rfl) .i64 _ (F.e rfl) (i - 1) rfl (by omega) (ad.add ((i - 1) * 19)) rfl) hS ?_; clear F a; intro a F
    refine any_val F 16 rfl (by kernel_rfl) (F.wants 31 false rfl (by kernel_rfl) rfl true rfl) rfl rfl (.pointer (some ((ad.add ((i - 1) * 19)).add 1))) (fun w' hS' => ex_fa _ _ _ rfl _ (F.e rfl) 1 r2_fa_85_1_1 ((ad.add ((i - 1) * 19)).add 1) rfl) hS ?_; clear F a; intro a F
    refine any_val F 17 rfl (by kernel_rfl) (F.wants 31 false rfl (by kernel_rfl) rfl true rfl) rfl rfl (.int .u64 y.grant) (fun w' hS' => ex_load _ _ rfl _ (F.e rfl) _ (lv1 r2_one_67 ((zy.below hS'.bel).cell 1 _ (Rv.cs_1 _)))) hS ?_; clear F a; intro a F
    refine any_val F 18 rfl (by kernel_rfl) (F.wants 31 false rfl (by kernel_rfl) rfl true rfl) rfl rfl (.pointer (some ⟨g4, 1, none⟩)) (fun w' hS' => ex_fa _ _ _ rfl _ (F.e rfl) 1 r2_fa_85_1_1 ⟨g4, 1, none⟩ rfl) hS ?_; clear F a; intro a F
    refine any_val F 19 rfl (by kernel_rfl) (F.wants 31 false rfl (by kernel_rfl) rfl true rfl) rfl rfl (.int .u64 x.grant) (fun w' hS' => ex_load _ _ rfl _ (F.e rfl) _ (lv1 r2_one_67 (hS'.cell (i := 0) rfl (j := 1) (Rv.arr_1 _)))) hS ?_; clear F a; intro a F
    refine any_val F 20 rfl (by kernel_rfl) (F.wants 31 false rfl (by kernel_rfl) rfl true rfl) rfl rfl (.bool false) (fun w' hS' => ex_bin .eql _ _ _ _ rfl .u64 _ _ (F.e rfl) (F.e rfl) _ (b_eql (by simp [hgr]))) hS ?_; clear F a; intro a F
    refine any_val F 21 rfl (by kernel_rfl) (F.wants 31 false rfl (by kernel_rfl) rfl true rfl) rfl rfl (.bool false) (fun w' hS' => ex_move _ rfl _ (F.e rfl)) hS ?_; clear F a; intro a F
    refine any_pass F 22 rfl (by kernel_rfl) (F.wants 41 false rfl (by kernel_rfl) rfl false rfl) rfl rfl hS ?_; clear F a; intro a F
    refine any_pass F 23 rfl (by kernel_rfl) (F.wants 41 false rfl (by kernel_rfl) rfl false rfl) rfl rfl hS ?_; clear F a; intro a F
    refine any_pass F 24 rfl (by kernel_rfl) (F.wants 41 false rfl (by kernel_rfl) rfl false rfl) rfl rfl hS ?_; clear F a; intro a F
    refine any_pass F 25 rfl (by kernel_rfl) (F.wants 41 false rfl (by kernel_rfl) rfl false rfl) rfl rfl hS ?_; clear F a; intro a F
    refine any_pass F 26 rfl (by kernel_rfl) (F.wants 41 false rfl (by kernel_rfl) rfl false rfl) rfl rfl hS ?_; clear F a; intro a F
    refine any_pass F 27 rfl (by kernel_rfl) (F.wants 41 false rfl (by kernel_rfl) rfl false rfl) rfl rfl hS ?_; clear F a; intro a F
    refine any_pass F 28 rfl (by kernel_rfl) (F.wants 41 false rfl (by kernel_rfl) rfl false rfl) rfl rfl hS ?_; clear F a; intro a F
    refine any_pass F 29 rfl (by kernel_rfl) (F.wants0 48 rfl (by kernel_rfl) rfl) rfl rfl hS ?_; clear F a; intro a F
    refine any_pass F 30 rfl (by kernel_rfl) (F.wants0 48 rfl (by kernel_rfl) rfl) rfl rfl hS ?_; clear F a; intro a F
    refine any_pass F 31 rfl (by kernel_rfl) (F.wants 41 false rfl (by kernel_rfl) rfl false rfl) rfl rfl hS ?_; clear F a; intro a F
    refine any_val F 32 rfl (by kernel_rfl) (F.wants 31 false rfl (by kernel_rfl) rfl true rfl) rfl rfl (.bool false) (fun w' hS' => ex_pick_f _ _ _ rfl (F.e rfl) _ rfl) hS ?_; clear F a; intro a F
    refine any_val F 33 rfl (by kernel_rfl) (F.wants 22 true rfl (by kernel_rfl) rfl true rfl) rfl rfl (.bool false) (fun w' hS' => ex_pick_f _ _ _ rfl (F.e rfl) _ (F.e rfl)) hS ?_; clear F a; intro a F
    refine any_val F 34 rfl (by kernel_rfl) (wn rfl) rfl rfl (.bool false) (fun w' hS' => ex_pick_t _ _ _ rfl (F.e rfl) _ (F.e rfl)) hS ?_; clear F a; intro a F
    refine any_done (by kernel_rfl) ?_
    exact ⟨F.keep ⟨rfl, rfl, rfl, rfl, rfl, rfl, rfl, rfl, rfl, rfl, trivial⟩, (by refine M.pick' [0] _ ?_ (by decide); exact ⟨rfl, trivial⟩)⟩
   clear F M a
   intro a u hR; obtain ⟨F, M⟩ := hR; try clear v
   refine then_n ?_
   refine wp_cond_false (F.e rfl) ?_
   refine wp_skip ?_
   refine in_n ?_
   refine then_n ?_
   refine wp_region_lit ?_
   refine list_val F (wn rfl) rfl rfl (.int .i64 ((i + 1 : Nat) : Int)) (ex_bin .add _ _ _ _ rfl .i64 _ _ (F.e rfl) rfl _ (b_add ((w_i64 (by omega) (by omega)).trans (by omega)))) ?_; clear F a; intro a F
   refine list_val F (wn rfl) rfl rfl (.int .i64 ((i + 1 : Nat) : Int)) (ex_move _ rfl _ (F.e rfl)) ?_; clear F a; intro a F
   refine wpList_nil ?_
   replace F : Fr 56 a [(0, .slice (some ad) xs.length c), (2, .int .i64 0), (3, .int .i64 ((i : Nat) : Int)), (4, .pointer (some ⟨g4, 0, none⟩)), (5, .slice (some ad) xs.length c), (6, .int .i64 ((xs.length : Nat) : Int)), (7, .int .i64 ((i + 1 : Nat) : Int)), (8, .bool true), (19, .bool false), (54, .bool false)] := F.keep ⟨rfl, rfl, rfl, rfl, rfl, rfl, rfl, rfl, rfl, rfl, trivial⟩
   refine then_n ?_
   exact ⟨xs.length - (i + 1), by omega, (i + 1), F.keep ⟨rfl, rfl, rfl, rfl, rfl, trivial⟩, (by refine M.pick' [] _ ?_ (by decide); exact trivial), (by omega), (by omega)⟩
  refine wp_only (fun ar wr => Fr 56 ar [(0, .slice (some ad) xs.length c), (2, .int .i64 0), (3, .int .i64 ((i : Nat) : Int)), (4, .pointer (some ⟨g4, 0, none⟩)), (5, .slice (some ad) xs.length c), (6, .int .i64 ((xs.length : Nat) : Int)), (7, .int .i64 ((i : Nat) : Int)), (8, .bool true), (19, .bool false), (54, .bool false)] ∧ Mm w wr [⟨g4, x.arr, 85⟩]) ?_ ?_
  ·
   refine region_anyM r2_follows_mixedOrders M [⟨g4, x.arr, 85⟩] (fun w' M => (by refine M.pick' [0] _ ?_ (by decide); exact ⟨rfl, trivial⟩)) ?_; clear M; intro wD M hb
   clear hb; try clear v
   have hS : Mm w wD [⟨g4, x.arr, 85⟩] := (by refine M.pick' [0] _ ?_ (by decide); exact ⟨rfl, trivial⟩)
   refine any_val F 0 rfl (by kernel_rfl) (wn rfl) rfl rfl (.int .i64 ((i : Nat) : Int)) (fun w' hS' => ex_move _ rfl _ (F.e rfl)) hS ?_; clear F a; intro a F
   refine any_val F 1 rfl (by kernel_rfl) (wn rfl) rfl rfl (.bool false) (fun w' hS' => ex_bin .gtr _ _ _ _ rfl .i64 _ _ (F.e rfl) rfl _ (b_gtr (decide_eq_false (by omega)))) hS ?_; clear F a; intro a F
   refine any_val F 2 rfl (by kernel_rfl) (wn rfl) rfl rfl (.bool false) (fun w' hS' => ex_move _ rfl _ (F.e rfl)) hS ?_; clear F a; intro a F
   refine any_pass F 3 rfl (by kernel_rfl) (F.wants 22 false rfl (by kernel_rfl) rfl false rfl) rfl rfl hS ?_; clear F a; intro a F
   refine any_pass F 4 rfl (by kernel_rfl) (F.wants 22 false rfl (by kernel_rfl) rfl false rfl) rfl rfl hS ?_; clear F a; intro a F
   refine any_pass F 5 rfl (by kernel_rfl) (F.wants 22 false rfl (by kernel_rfl) rfl false rfl) rfl rfl hS ?_; clear F a; intro a F
   refine any_pass F 6 rfl (by kernel_rfl) (F.wants 22 false rfl (by kernel_rfl) rfl false rfl) rfl rfl hS ?_; clear F a; intro a F
   refine any_pass F 7 rfl (by kernel_rfl) (F.wants 22 false rfl (by kernel_rfl) rfl false rfl) rfl rfl hS ?_; clear F a; intro a F
   refine any_pass F 8 rfl (by kernel_rfl) (F.wants 22 false rfl (by kernel_rfl) rfl false rfl) rfl rfl hS ?_; clear F a; intro a F
   refine any_pass F 9 rfl (by kernel_rfl) (F.wants 22 false rfl (by kernel_rfl) rfl false rfl) rfl rfl hS ?_; clear F a; intro a F
   refine any_pass F 10 rfl (by kernel_rfl) (F.wants 22 false rfl (by kernel_rfl) rfl false rfl) rfl rfl hS ?_; clear F a; intro a F
   refine any_pass F 11 rfl (by kernel_rfl) (F.wants 22 false rfl (by kernel_rfl) rfl false rfl) rfl rfl hS ?_; clear F a; intro a F
   refine any_pass F 12 rfl (by kernel_rfl) (F.wants0 31 rfl (by kernel_rfl) rfl) rfl rfl hS ?_; clear F a; intro a F
   refine any_pass F 13 rfl (by kernel_rfl) (F.wants0 31 rfl (by kernel_rfl) rfl) rfl rfl hS ?_; clear F a; intro a F
   refine any_pass F 14 rfl (by kernel_rfl) (F.wants0 31 rfl (by kernel_rfl) rfl) rfl rfl hS ?_; clear F a; intro a F
   refine any_pass F 15 rfl (by kernel_rfl) (F.wants0 31 rfl (by kernel_rfl) rfl) rfl rfl hS ?_; clear F a; intro a F
   refine any_pass F 16 rfl (by kernel_rfl) (F.wants0 31 rfl (by kernel_rfl) rfl) rfl rfl hS ?_; clear F a; intro a F
   refine any_pass F 17 rfl (by kernel_rfl) (F.wants0 31 rfl (by kernel_rfl) rfl) rfl rfl hS ?_; clear F a; intro a F
   refine any_pass F 18 rfl (by kernel_rfl) (F.wants0 31 rfl (by kernel_rfl) rfl) rfl rfl hS ?_; clear F a; intro a F
   refine any_pass F 19 rfl (by kernel_rfl) (F.wants0 31 rfl (by kernel_rfl) rfl) rfl rfl hS ?_; clear F a; intro a F
   refine any_pass F 20 rfl (by kernel_rfl) (F.wants0 31 rfl (by kernel_rfl) rfl) rfl rfl hS ?_; clear F a; intro a F
   refine any_pass F 21 rfl (by kernel_rfl) (F.wants0 31 rfl (by kernel_rfl) rfl) rfl rfl hS ?_; clear F a; intro a F
   refine any_pass F 22 rfl (by kernel_rfl) (F.wants0 41 rfl (by kernel_rfl) rfl) rfl rfl hS ?_; clear F a; intro a F
   refine any_pass F 23 rfl (by kernel_rfl) (F.wants0 41 rfl (by kernel_rfl) rfl) rfl rfl hS ?_; clear F a; intro a F
   refine any_pass F 24 rfl (by kernel_rfl) (F.wants0 41 rfl (by kernel_rfl) rfl) rfl rfl hS ?_; clear F a; intro a F
   refine any_pass F 25 rfl (by kernel_rfl) (F.wants0 41 rfl (by kernel_rfl) rfl) rfl rfl hS ?_; clear F a; intro a F
   refine any_pass F 26 rfl (by kernel_rfl) (F.wants0 41 rfl (by kernel_rfl) rfl) rfl rfl hS ?_; clear F a; intro a F
   refine any_pass F 27 rfl (by kernel_rfl) (F.wants0 41 rfl (by kernel_rfl) rfl) rfl rfl hS ?_; clear F a; intro a F
   refine any_pass F 28 rfl (by kernel_rfl) (F.wants0 41 rfl (by kernel_rfl) rfl) rfl rfl hS ?_; clear F a; intro a F
   refine any_pass F 29 rfl (by kernel_rfl) (F.wants0 48 rfl (by kernel_rfl) rfl) rfl rfl hS ?_; clear F a; intro a F
   refine any_pass F 30 rfl (by kernel_rfl) (F.wants0 48 rfl (by kernel_rfl) rfl) rfl rfl hS ?_; clear F a; intro a F
   refine any_pass F 31 rfl (by kernel_rfl) (F.wants0 41 rfl (by kernel_rfl) rfl) rfl rfl hS ?_; clear F a; intro a F
   refine any_pass F 32 rfl (by kernel_rfl) (F.wants0 31 rfl (by kernel_rfl) rfl) rfl rfl hS ?_; clear F a; intro a F
   refine any_pass F 33 rfl (by kernel_rfl) (F.wants 22 false rfl (by kernel_rfl) rfl false rfl) rfl rfl hS ?_; clear F a; intro a F
   refine any_val F 34 rfl (by kernel_rfl) (wn rfl) rfl rfl (.bool false) (fun w' hS' => ex_pick_f _ _ _ rfl (F.e rfl) _ rfl) hS ?_; clear F a; intro a F
   refine any_done (by kernel_rfl) ?_
   exact ⟨F.keep ⟨rfl, rfl, rfl, rfl, rfl, rfl, rfl, rfl, rfl, rfl, trivial⟩, (by refine M.pick' [0] _ ?_ (by decide); exact ⟨rfl, trivial⟩)⟩
  clear F M a
  intro a u hR; obtain ⟨F, M⟩ := hR; try clear v
  refine then_n ?_
  refine wp_cond_false (F.e rfl) ?_
  refine wp_skip ?_
  refine in_n ?_
  refine then_n ?_
  refine wp_region_lit ?_
  refine list_val F (wn rfl) rfl rfl (.int .i64 ((i + 1 : Nat) : Int)) (ex_bin .add _ _ _ _ rfl .i64 _ _ (F.e rfl) rfl _ (b_add ((w_i64 (by omega) (by omega)).trans (by omega)))) ?_; clear F a; intro a F
  refine list_val F (wn rfl) rfl rfl (.int .i64 ((i + 1 : Nat) : Int)) (ex_move _ rfl _ (F.e rfl)) ?_; clear F a; intro a F
  refine wpList_nil ?_
  replace F : Fr 56 a [(0, .slice (some ad) xs.length c), (2, .int .i64 0), (3, .int .i64 ((i : Nat) : Int)), (4, .pointer (some ⟨g4, 0, none⟩)), (5, .slice (some ad) xs.length c), (6, .int .i64 ((xs.length : Nat) : Int)), (7, .int .i64 ((i + 1 : Nat) : Int)), (8, .bool true), (19, .bool false), (54, .bool false)] := F.keep ⟨rfl, rfl, rfl, rfl, rfl, rfl, rfl, rfl, rfl, rfl, trivial⟩
  refine then_n ?_
  exact ⟨xs.length - (i + 1), by omega, (i + 1), F.keep ⟨rfl, rfl, rfl, rfl, rfl, trivial⟩, (by refine M.pick' [] _ ?_ (by decide); exact trivial), (by omega), (by omega)⟩
 refine wp_seq ?_
 refine wp_region_lit ?_
 refine list_val F (wn rfl) rfl rfl (.bool false) (ex_bin .lss _ _ _ _ rfl .i64 _ _ (F.e rfl) (F.e rfl) _ (b_lss (decide_eq_false (by omega)))) ?_; clear F a; intro a F
 refine wpList_nil ?_
 replace F : Fr 56 a [(0, .slice A xs.length c), (2, .int .i64 0), (5, .slice A xs.length c), (6, .int .i64 ((xs.length : Nat) : Int)), (7, .int .i64 ((i : Nat) : Int)), (8, .bool false)] := F.keep ⟨rfl, rfl, rfl, rfl, rfl, rfl, trivial⟩
 refine then_n ?_
 refine wp_seq ?_
 refine wp_cond_false (F.e rfl) ?_
 refine wp_exit ?_
 refine then_x ?_
 refine then_x ?_
 refine in_hit ?_
 refine then_n ?_
 refine wp_seq ?_
 refine wp_region_lit ?_
 refine list_val F (wn rfl) rfl rfl (.int .i64 0) (ex_assign _ rfl _ rfl) ?_; clear F a; intro a F
 refine wpList_nil ?_
 replace F : Fr 56 a [(0, .slice A xs.length c), (2, .int .i64 0), (5, .slice A xs.length c), (6, .int .i64 ((xs.length : Nat) : Int)), (7, .int .i64 ((i : Nat) : Int)), (8, .bool false)] := F.keep ⟨rfl, rfl, rfl, rfl, rfl, rfl, trivial⟩
 refine then_n ?_
 refine wp_ret ?_
 exact ret_tmp F rfl rfl ⟨rfl, M.bel⟩
set_option maxHeartbeats 1000000 in
set_option maxRecDepth 100000 in
theorem clone_none (n c : Nat) (w : World) : Calls Tryz.prog 38 #[.slice none n c] w fun e w' => e = .returned (.slice none 0 0) ∧ Below w.heap.size w w' := by
 refine calls_start Tryz.func38 rfl rfl rfl (fun a F => ?_)
 have M : Mm w w [] := Mm.nil w
 refine wp_seq ?_
 refine wp_region_lit ?_
 refine list_val F (wn rfl) rfl rfl (.slice none 0 0) (ex_assign _ rfl _ rfl) ?_; clear F a; intro a F
 refine wpList_nil ?_
 replace F : Fr 8 a [(0, .slice none n c), (2, .slice none 0 0)] := F.keep ⟨rfl, rfl, trivial⟩
 refine then_n ?_
 refine wp_seq ?_
 refine wp_seq ?_
 refine wp_region_lit ?_
 refine list_val F (wn rfl) rfl rfl (.slice none n c) (ex_move _ rfl _ (F.e rfl)) ?_; clear F a; intro a F
 refine list_val F (wn rfl) rfl rfl (.bool true) (ex_eqnil 57 85 Tryz.underlying57 _ _ _ rfl none n c (F.e rfl) rfl true rfl) ?_; clear F a; intro a F
 refine wpList_nil ?_
 replace F : Fr 8 a [(0, .slice none n c), (2, .slice none 0 0), (4, .bool true)] := F.keep ⟨rfl, rfl, rfl, trivial⟩
 refine then_n ?_
 refine wp_cond_true (F.e rfl) ?_
 refine wp_seq ?_
 refine wp_region_lit ?_
 refine list_val F (wn rfl) rfl rfl (.slice none 0 0) (ex_assign _ rfl _ rfl) ?_; clear F a; intro a F
 refine wpList_nil ?_
 replace F : Fr 8 a [(0, .slice none n c), (2, .slice none 0 0), (4, .bool true)] := F.keep ⟨rfl, rfl, rfl, trivial⟩
 refine then_n ?_
 refine wp_ret ?_
 refine then_r ?_
 exact ret_tmp F rfl rfl ⟨rfl, M.bel⟩
set_option maxHeartbeats 1000000 in
set_option maxRecDepth 100000 in
theorem clone_some (xs : List Rv) (ad : Addr) (c : Nat) (w : World) (hr : kRv.C w (some ad) xs.length xs) (hmx : xs.length ≤ 1000000) :
    Calls Tryz.prog 38 #[.slice (some ad) xs.length c] w fun e w' => ∃ A' c', e = .returned (.slice A' xs.length c') ∧ Ow kRv 85 w' w.heap.size (.slice A' xs.length c') xs ∧ Below w.heap.size w w' := by
 refine calls_start Tryz.func38 rfl rfl rfl (fun a F => ?_)
 have M : Mm w w [] := Mm.nil w
 refine wp_seq ?_
 refine wp_region_lit ?_
 refine list_val F (wn rfl) rfl rfl (.slice none 0 0) (ex_assign _ rfl _ rfl) ?_; clear F a; intro a F
 refine wpList_nil ?_
 replace F : Fr 8 a [(0, .slice (some ad) xs.length c), (2, .slice none 0 0)] := F.keep ⟨rfl, rfl, trivial⟩
 refine then_n ?_
 refine wp_seq ?_
 refine wp_seq ?_
 refine wp_region_lit ?_
 refine list_val F (wn rfl) rfl rfl (.slice (some ad) xs.length c) (ex_move _ rfl _ (F.e rfl)) ?_; clear F a; intro a F
 refine list_val F (wn rfl) rfl rfl (.bool false) (ex_eqnil 57 85 Tryz.underlying57 _ _ _ rfl (some ad) xs.length c (F.e rfl) rfl false rfl) ?_; clear F a; intro a F
 refine wpList_nil ?_
 replace F : Fr 8 a [(0, .slice (some ad) xs.length c), (2, .slice none 0 0), (4, .bool false)] := F.keep ⟨rfl, rfl, rfl, trivial⟩
 refine then_n ?_
 refine wp_cond_false (F.e rfl) ?_
 refine wp_skip ?_
 refine then_n ?_
 refine wp_seq ?_
 refine wp_region_lit ?_
 refine list_do (wn rfl) (fun K hK => ?_)
 refine ow_bslice F M rfl rfl 57 0 _ rfl #[] parts0 #[] 85 (nolit _) ?_
 clear F M a; intro a g5 v F M hb hg
 refine hK _ _ ?_
 clear hK K
 clear hb hg; try clear w
 refine list_val F (wn rfl) rfl rfl (.slice (some ad) xs.length c) (ex_move _ rfl _ (F.e rfl)) ?_; clear F a; intro a F
 refine list_do (wn rfl) (fun K hK => ?_)
 have O_x := own_empty M
 replace M : Mm w v [] := (by refine M.pick' [] _ ?_ (by decide); exact trivial)
 refine og_app F M Tryz.underlying57 i85 z85s (by decide) (by decide) (Nat.le_refl _) M.bel.size trivial rfl rfl rfl _ _ rfl (.slice (some ⟨g5, 0, none⟩) 0 0) ([]) xs xs rfl (some ad) xs.length c (F.e rfl) (F.e rfl) O_x (Kd.C_below hr M.bel) (by simp; omega) ?_
 clear F a; have Mo := M; clear M; intro a A_7 c_7 u F M Oz hgr
 refine hK _ _ ?_
 clear hK K
 clear O_x Mo hgr; have O_x := Oz; clear Oz; try clear v
 refine list_val F (wn rfl) rfl rfl (.slice A_7 xs.length c_7) (ex_assign _ rfl _ (F.e rfl)) ?_; clear F a; intro a F
 refine wpList_nil ?_
 replace F : Fr 8 a [(0, .slice (some ad) xs.length c), (2, .slice A_7 xs.length c_7), (4, .bool false)] := F.keep ⟨rfl, rfl, rfl, trivial⟩
 refine then_n ?_
 refine wp_ret ?_
 exact ret_tmp F rfl rfl ⟨A_7, c_7, rfl, O_x, M.bel⟩
theorem clone_any (xs : List Rv) (A : Option Addr) (n c : Nat) (w : World) (hr : kRv.C w A n xs) (hmx : xs.length ≤ 1000000) :
    Calls Tryz.prog 38 #[.slice A n c] w fun e w' => ∃ A' c', e = .returned (.slice A' xs.length c') ∧ Ow kRv 85 w' w.heap.size (.slice A' xs.length c') xs ∧ Below w.heap.size w w' := by
  cases A with
  | none =>
    obtain rfl := C_none hr
    exact (clone_none n c w).mono fun e w' ⟨he, hb⟩ => ⟨none, 0, he, Ow.nil _ _ _ _, hb⟩
  | some ad =>
    obtain rfl : xs.length = n := hr.1
    exact clone_some xs ad c w hr hmx
set_option maxHeartbeats 1000000 in
set_option maxRecDepth 100000 in
theorem index_any (p : Rv → Bool) (f : Nat) (caps : Array Value) (xs : List Rv) (A : Option Addr) (c : Nat) (w : World) (hr : kRv.C w A xs.length xs) (hP : Pays f caps p w) (hmx : xs.length ≤ 1000000) :
    Calls Tryz.prog 79 #[.slice A xs.length c, .func (.func f) #[] caps] w fun e w' => e = .returned (.int .i64 (idxF p xs)) ∧ Below w.heap.size w w' := by
 refine calls_start Tryz.func79 rfl rfl rfl (fun a F => ?_)
 have M : Mm w w [] := Mm.nil w
 refine wp_seq ?_
 refine wp_region_lit ?_
 refine list_val F (wn rfl) rfl rfl (.int .i64 0) (ex_assign _ rfl _ rfl) ?_; clear F a; intro a F
 refine wpList_nil ?_
 replace F : Fr 19 a [(0, .slice A xs.length c), (1, .func (.func f) #[] caps), (4, .int .i64 0)] := F.keep ⟨rfl, rfl, rfl, trivial⟩
 refine then_n ?_
 refine wp_seq ?_
 refine wp_seq ?_
 refine wp_region_lit ?_
 refine list_val F (wn rfl) rfl rfl (.slice A xs.length c) (ex_move _ rfl _ (F.e rfl)) ?_; clear F a; intro a F
 refine list_val F (wn rfl) rfl rfl (.int .i64 ((xs.length : Nat) : Int)) (ex_len _ _ rfl 19 r2_sl_57_19 _ _ _ (F.e rfl)) ?_; clear F a; intro a F
 refine list_val F (wn rfl) rfl rfl (.int .i64 0) (ex_move _ rfl _ rfl) ?_; clear F a; intro a F
 refine wpList_nil ?_
 replace F : Fr 19 a [(0, .slice A xs.length c), (1, .func (.func f) #[] caps), (4, .int .i64 0), (7, .int .i64 ((xs.length : Nat) : Int)), (8, .int .i64 0)] := F.keep ⟨rfl, rfl, rfl, rfl, rfl, trivial⟩
 refine then_n ?_
 refine wp_block ?_
 refine wp_loopN (fun mq ar wr => ∃ (i : Nat), Fr 19 ar [(0, .slice A xs.length c), (1, .func (.func f) #[] caps), (4, .int .i64 0), (7, .int .i64 ((xs.length : Nat) : Int)), (8, .int .i64 ((i : Nat) : Int))] ∧ Mm w wr [] ∧ i ≤ xs.length ∧ (∀ (j : Nat) (y : Rv), j < i → xs[j]? = some y → p y = false) ∧ mq + i = xs.length) xs.length ?_ ?_
 ·
  exact ⟨0, F.keep ⟨rfl, rfl, rfl, rfl, rfl, trivial⟩, M, (Nat.zero_le _), (fun j y hj => absurd hj (Nat.not_lt_zero j)), (by omega)⟩
 clear F M a
 rintro mq a v ⟨i, F, M, hi, hg, hq⟩; try clear w
 by_cases hin : i < xs.length
 ·
  obtain ⟨x, hx⟩ : ∃ x, xs[i]? = some x := ⟨_, List.getElem?_eq_getElem (by omega)⟩
  obtain ⟨ad, hA, z⟩ := C_ix hr hx
  subst hA
  refine wp_seq ?_
  refine wp_region_lit ?_
  refine list_val F (wn rfl) rfl rfl (.bool true) (ex_bin .lss _ _ _ _ rfl .i64 _ _ (F.e rfl) (F.e rfl) _ (b_lss (decide_eq_true (by omega)))) ?_; clear F a; intro a F
  refine wpList_nil ?_
  replace F : Fr 19 a [(0, .slice (some ad) xs.length c), (1, .func (.func f) #[] caps), (4, .int .i64 0), (7, .int .i64 ((xs.length : Nat) : Int)), (8, .int .i64 ((i : Nat) : Int)), (9, .bool true)] := F.keep ⟨rfl, rfl, rfl, rfl, rfl, rfl, trivial⟩
  refine then_n ?_
  refine wp_seq ?_
  refine wp_cond_true (F.e rfl) ?_
  refine wp_skip ?_
  refine then_n ?_
  refine wp_seq ?_
  refine wp_block ?_
  refine wp_seq ?_
  refine wp_region_lit ?_
  refine list_val F (wn rfl) rfl rfl (.int .i64 ((i : Nat) : Int)) (ex_move _ rfl _ (F.e rfl)) ?_; clear F a; intro a F
  refine list_val F (wn rfl) rfl rfl (.int .i64 ((i : Nat) : Int)) (ex_assign _ rfl _ (F.e rfl)) ?_; clear F a; intro a F
  refine wpList_nil ?_
  replace F : Fr 19 a [(0, .slice (some ad) xs.length c), (1, .func (.func f) #[] caps), (4, .int .i64 0), (5, .int .i64 ((i : Nat) : Int)), (7, .int .i64 ((xs.length : Nat) : Int)), (8, .int .i64 ((i : Nat) : Int)), (9, .bool true)] := F.keep ⟨rfl, rfl, rfl, rfl, rfl, rfl, rfl, trivial⟩
  refine then_n ?_
  refine wp_seq ?_
  by_cases hpx : p x = true
  ·
   refine wp_region_lit ?_
   refine list_val F (wn rfl) rfl rfl (.func (.func f) #[] caps) (ex_move _ rfl _ (F.e rfl)) ?_; clear F a; intro a F
   refine list_val F (wn rfl) rfl rfl (.slice (some ad) xs.length c) (ex_move _ rfl _ (F.e rfl)) ?_; clear F a; intro a F
   refine list_val F (wn rfl) rfl rfl (.int .i64 ((i : Nat) : Int)) (ex_move _ rfl _ (F.e rfl)) ?_; clear F a; intro a F
   refine list_val F (wn rfl) rfl rfl (.pointer (some (ad.add (i * 19)))) (ex_ix _ _ _ rfl 19 r2_sl_57_19 ad _ _ (F.e rfl) .i64 _ (F.e rfl) i rfl (by omega) (ad.add (i * 19)) rfl) ?_; clear F a; intro a F
   refine list_val F (wn rfl) rfl rfl (.agg x.arr) (ex_load _ _ rfl _ (F.e rfl) _ (lrow85 x ((z.below M.bel)))) ?_; clear F a; intro a F
   refine list_do (wn rfl) (fun K hK => ?_)
   have hE := hP.1 x v
   have hCc := hP.2 x v M.bel
   generalize hargs : (#[.agg x.arr] ++ caps) = vs at hE hCc
   refine ow_call rfl rfl F f vs (by subst hargs; exact ex_callp f _ _ _ rfl caps (F.e rfl) #[.agg x.arr] (map1 (F.e rfl)) hE) hCc (fun e u hR => ?_)
   clear hE hCc hargs vs
   obtain ⟨he, hb⟩ := hR
   rw [hpx] at he
   refine ⟨.bool true, he, ?_⟩; clear he F a; intro a F
   refine hK _ _ ?_
   clear hK K
   replace M := M.below hb; clear hb; try clear v
   refine wpList_nil ?_
   replace F : Fr 19 a [(0, .slice (some ad) xs.length c), (1, .func (.func f) #[] caps), (4, .int .i64 0), (5, .int .i64 ((i : Nat) : Int)), (7, .int .i64 ((xs.length : Nat) : Int)), (8, .int .i64 ((i : Nat) : Int)), (9, .bool true), (16, .bool true)] := F.keep ⟨rfl, rfl, rfl, rfl, rfl, rfl, rfl, rfl, trivial⟩
   refine then_n ?_
   refine wp_cond_true (F.e rfl) ?_
   refine wp_seq ?_
   refine wp_region_lit ?_
   refine list_val F (wn rfl) rfl rfl (.int .i64 ((i : Nat) : Int)) (ex_move _ rfl _ (F.e rfl)) ?_; clear F a; intro a F
   refine list_val F (wn rfl) rfl rfl (.int .i64 ((i : Nat) : Int)) (ex_assign _ rfl _ (F.e rfl)) ?_; clear F a; intro a F
   refine wpList_nil ?_
   replace F : Fr 19 a [(0, .slice (some ad) xs.length c), (1, .func (.func f) #[] caps), (4, .int .i64 ((i : Nat) : Int)), (5, .int .i64 ((i : Nat) : Int)), (7, .int .i64 ((xs.length : Nat) : Int)), (8, .int .i64 ((i : Nat) : Int)), (9, .bool true), (16, .bool true)] := F.keep ⟨rfl, rfl, rfl, rfl, rfl, rfl, rfl, rfl, trivial⟩
   refine then_n ?_
   refine wp_ret ?_
   refine in_r ?_
   refine then_r ?_
   refine then_r ?_
   refine in_r ?_
   refine then_r ?_
   exact ret_tmp F rfl rfl ⟨by rw [idx_at hx hpx hg], M.bel⟩
  rw [Bool.not_eq_true] at hpx
  refine wp_region_lit ?_
  refine list_val F (wn rfl) rfl rfl (.func (.func f) #[] caps) (ex_move _ rfl _ (F.e rfl)) ?_; clear F a; intro a F
  refine list_val F (wn rfl) rfl rfl (.slice (some ad) xs.length c) (ex_move _ rfl _ (F.e rfl)) ?_; clear F a; intro a F
  refine list_val F (wn rfl) rfl rfl (.int .i64 ((i : Nat) : Int)) (ex_move _ rfl _ (F.e rfl)) ?_; clear F a; intro a F
  refine list_val F (wn rfl) rfl rfl (.pointer (some (ad.add (i * 19)))) (ex_ix _ _ _ rfl 19 r2_sl_57_19 ad _ _ (F.e rfl) .i64 _ (F.e rfl) i rfl (by omega) (ad.add (i * 19)) rfl) ?_; clear F a; intro a F
  refine list_val F (wn rfl) rfl rfl (.agg x.arr) (ex_load _ _ rfl _ (F.e rfl) _ (lrow85 x ((z.below M.bel)))) ?_; clear F a; intro a F
  refine list_do (wn rfl) (fun K hK => ?_)
  have hE := hP.1 x v
  have hCc := hP.2 x v M.bel
  generalize hargs : (#[.agg x.arr] ++ caps) = vs at hE hCc
  refine ow_call rfl rfl F f vs (by subst hargs; exact ex_callp f _ _ _ rfl caps (F.e rfl) #[.agg x.arr] (map1 (F.e rfl)) hE) hCc (fun e u hR => ?_)
  clear hE hCc hargs vs
  obtain ⟨he, hb⟩ := hR
  rw [hpx] at he
  refine ⟨.bool false, he, ?_⟩; clear he F a; intro a F
  refine hK _ _ ?_
  clear hK K
  replace M := M.below hb; clear hb; try clear v
  refine wpList_nil ?_
  replace F : Fr 19 a [(0, .slice (some ad) xs.length c), (1, .func (.func f) #[] caps), (4, .int .i64 0), (5, .int .i64 ((i : Nat) : Int)), (7, .int .i64 ((xs.length : Nat) : Int)), (8, .int .i64 ((i : Nat) : Int)), (9, .bool true), (16, .bool false)] := F.keep ⟨rfl, rfl, rfl, rfl, rfl, rfl, rfl, rfl, trivial⟩
  refine then_n ?_
  refine wp_cond_false (F.e rfl) ?_
  refine wp_skip ?_
  refine in_n ?_
  refine then_n ?_
  refine wp_region_lit ?_
  refine list_val F (wn rfl) rfl rfl (.int .i64 ((i + 1 : Nat) : Int)) (ex_bin .add _ _ _ _ rfl .i64 _ _ (F.e rfl) rfl _ (b_add ((w_i64 (by omega) (by omega)).trans (by omega)))) ?_; clear F a; intro a F
  refine list_val F (wn rfl) rfl rfl (.int .i64 ((i + 1 : Nat) : Int)) (ex_move _ rfl _ (F.e rfl)) ?_; clear F a; intro a F
  refine wpList_nil ?_
  replace F : Fr 19 a [(0, .slice (some ad) xs.length c), (1, .func (.func f) #[] caps), (4, .int .i64 0), (5, .int .i64 ((i : Nat) : Int)), (7, .int .i64 ((xs.length : Nat) : Int)), (8, .int .i64 ((i + 1 : Nat) : Int)), (9, .bool true), (16, .bool false)] := F.keep ⟨rfl, rfl, rfl, rfl, rfl, rfl, rfl, rfl, trivial⟩
  refine then_n ?_
  exact ⟨xs.length - (i + 1), by omega, (i + 1), F.keep ⟨rfl, rfl, rfl, rfl, rfl, trivial⟩, (by refine M.pick' [] _ ?_ (by decide); exact trivial), (by omega), (fun j y hj hy => by rcases Nat.lt_or_eq_of_le (Nat.le_of_lt_succ hj) with hlt | rfl; exact hg j y hlt hy; obtain rfl := Option.some.inj (hx.symm.trans hy); exact hpx), (by omega)⟩
 refine wp_seq ?_
 refine wp_region_lit ?_
 refine list_val F (wn rfl) rfl rfl (.bool false) (ex_bin .lss _ _ _ _ rfl .i64 _ _ (F.e rfl) (F.e rfl) _ (b_lss (decide_eq_false (by omega)))) ?_; clear F a; intro a F
 refine wpList_nil ?_
 replace F : Fr 19 a [(0, .slice A xs.length c), (1, .func (.func f) #[] caps), (4, .int .i64 0), (7, .int .i64 ((xs.length : Nat) : Int)), (8, .int .i64 ((i : Nat) : Int)), (9, .bool false)] := F.keep ⟨rfl, rfl, rfl, rfl, rfl, rfl, trivial⟩
 refine then_n ?_
 refine wp_seq ?_
 refine wp_cond_false (F.e rfl) ?_
 refine wp_exit ?_
 refine then_x ?_
 refine then_x ?_
 refine in_hit ?_
 refine then_n ?_
 refine wp_seq ?_
 refine wp_region_lit ?_
 refine list_val F (wn rfl) rfl rfl (.int .i64 (-1)) (ex_assign _ rfl _ rfl) ?_; clear F a; intro a F
 refine wpList_nil ?_
 replace F : Fr 19 a [(0, .slice A xs.length c), (1, .func (.func f) #[] caps), (4, .int .i64 (-1)), (7, .int .i64 ((xs.length : Nat) : Int)), (8, .int .i64 ((i : Nat) : Int)), (9, .bool false)] := F.keep ⟨rfl, rfl, rfl, rfl, rfl, rfl, trivial⟩
 refine then_n ?_
 refine wp_ret ?_
 exact ret_tmp F rfl rfl ⟨by rw [idx_none (fun j y hj hy => hg j y (by omega) hy)], M.bel⟩
theorem r2_ent_79 : ent? Tryz.prog 79 = true := by kernel_rfl
set_option maxHeartbeats 1000000 in
set_option maxRecDepth 100000 in
theorem contains_any (p : Rv → Bool) (f : Nat) (caps : Array Value) (xs : List Rv) (A : Option Addr) (c : Nat) (w : World) (hr : kRv.C w A xs.length xs) (hP : Pays f caps p w) (hmx : xs.length ≤ 1000000) :
    Calls Tryz.prog 34 #[.slice A xs.length c, .func (.func f) #[] caps] w fun e w' => e = .returned (.bool (xs.any p)) ∧ Below w.heap.size w w' := by
 refine calls_start Tryz.func34 rfl rfl rfl (fun a F => ?_)
 have M : Mm w w [] := Mm.nil w
 refine wp_seq ?_
 refine wp_region_lit ?_
 refine list_val F (wn rfl) rfl rfl (.bool false) (ex_assign _ rfl _ rfl) ?_; clear F a; intro a F
 refine wpList_nil ?_
 replace F : Fr 9 a [(0, .slice A xs.length c), (1, .func (.func f) #[] caps), (4, .bool false)] := F.keep ⟨rfl, rfl, rfl, trivial⟩
 refine then_n ?_
 refine wp_seq ?_
 refine wp_region_lit ?_
 refine list_val F (wn rfl) rfl rfl (.slice A xs.length c) (ex_move _ rfl _ (F.e rfl)) ?_; clear F a; intro a F
 refine list_val F (wn rfl) rfl rfl (.func (.func f) #[] caps) (ex_move _ rfl _ (F.e rfl)) ?_; clear F a; intro a F
 refine list_do (wn rfl) (fun K hK => ?_)
 refine ow_call rfl rfl F 79 #[.slice A xs.length c, .func (.func f) #[] caps] (ex_call 79 _ _ rfl rfl r2_ent_79 _ (map2 (F.e rfl) (F.e rfl))) (index_any p f caps xs A c _ (Kd.C_below hr M.bel) (hP.below M.bel) hmx) (fun e v hR => ?_)
 obtain ⟨he, hb⟩ := hR
 refine ⟨.int .i64 (idxF p xs), he, ?_⟩; clear he F a; intro a F
 refine hK _ _ ?_
 clear hK K
 replace M := M.below hb; clear hb; try clear w
 refine list_val F (wn rfl) rfl rfl (.bool (xs.any p)) (ex_bin .geq _ _ _ _ rfl .i64 _ _ (F.e rfl) rfl _ (b_geq (idx_ge p xs))) ?_; clear F a; intro a F
 refine list_val F (wn rfl) rfl rfl (.bool (xs.any p)) (ex_assign _ rfl _ (F.e rfl)) ?_; clear F a; intro a F
 refine wpList_nil ?_
 replace F : Fr 9 a [(0, .slice A xs.length c), (1, .func (.func f) #[] caps), (4, .bool (xs.any p))] := F.keep ⟨rfl, rfl, rfl, trivial⟩
 refine then_n ?_
 refine wp_ret ?_
 exact ret_tmp F rfl rfl ⟨rfl, M.bel⟩
theorem contains_n (p : Rv → Bool) (f : Nat) (caps : Array Value) (xs : List Rv) (A : Option Addr) (n c : Nat) (w : World) (hr : kRv.C w A n xs) (hP : Pays f caps p w) (hmx : xs.length ≤ 1000000) :
    Calls Tryz.prog 34 #[.slice A n c, .func (.func f) #[] caps] w fun e w' => e = .returned (.bool (xs.any p)) ∧ Below w.heap.size w w' := by
  obtain rfl : xs.length = n := hr.1
  exact contains_any p f caps xs A c w hr hP hmx
theorem r2_ent_17 : ent? Tryz.prog 17 = true := by kernel_rfl
theorem r2_ent_33 : ent? Tryz.prog 33 = true := by kernel_rfl
theorem r2_ent_34 : ent? Tryz.prog 34 = true := by kernel_rfl
set_option maxHeartbeats 1000000 in
set_option maxRecDepth 100000 in
theorem has_any (xs : List Rv) (h : IsL xs) (A : Option Addr) (c : Nat) (g : Int) (id : Bs 16) (w : World) (hr : kRv.C w A xs.length xs) (hc : xs.length ≤ c) (hmx : xs.length ≤ 1000000) :
    Calls Tryz.prog 19 #[.slice A xs.length c, .int .u64 g, .agg id.cs.toArray] w fun e w' => e = .returned (.bool (hasF xs g id)) ∧ Below w.heap.size w w' := by
 have hft := nF_le xs g
 have htl := nT_le xs g
 refine calls_start Tryz.func19 rfl rfl rfl (fun a F => ?_)
 have M : Mm w w [] := Mm.nil w
 refine wp_seq ?_
 refine wp_region_lit ?_
 refine list_do (wn rfl) (fun K hK => ?_)
 refine ow_box F M rfl rfl 69 _ rfl _ (F.e rfl) id.cs.toArray rfl ?_
 clear F M a; intro a g5 v F M hb hg
 refine hK _ _ ?_
 clear hK K
 clear hb hg; try clear w
 refine list_val F (wn rfl) rfl rfl (.bool false) (ex_assign _ rfl _ rfl) ?_; clear F a; intro a F
 refine wpList_nil ?_
 replace F : Fr 24 a [(0, .slice A xs.length c), (1, .int .u64 g), (2, .agg id.cs.toArray), (5, .pointer (some ⟨g5, 0, none⟩)), (6, .bool false)] := F.keep ⟨rfl, rfl, rfl, rfl, rfl, trivial⟩
 refine then_n ?_
 refine wp_seq ?_
 refine wp_seq ?_
 refine wp_region_lit ?_
 refine list_val F (wn rfl) rfl rfl (.slice A xs.length c) (ex_move _ rfl _ (F.e rfl)) ?_; clear F a; intro a F
 refine list_do (wn rfl) (fun K hK => ?_)
 refine ow_call rfl rfl F 17 #[.slice A xs.length c] (ex_call 17 _ _ rfl rfl r2_ent_17 _ (map1 (F.e rfl))) (check_any xs h A c _ ((Kd.C_below hr M.bel)) (by omega)) (fun e u hR => ?_)
 obtain ⟨he, hb⟩ := hR
 refine ⟨.int .i64 0, he, ?_⟩; clear he F a; intro a F
 refine hK _ _ ?_
 clear hK K
 replace M := M.below hb; clear hb; try clear v
 refine list_val F (wn rfl) rfl rfl (.bool false) (ex_bin .neq _ _ _ _ rfl .i64 _ _ (F.e rfl) rfl _ (b_neq (by decide))) ?_; clear F a; intro a F
 refine wpList_nil ?_
 replace F : Fr 24 a [(0, .slice A xs.length c), (1, .int .u64 g), (2, .agg id.cs.toArray), (5, .pointer (some ⟨g5, 0, none⟩)), (6, .bool false), (11, .bool false)] := F.keep ⟨rfl, rfl, rfl, rfl, rfl, rfl, trivial⟩
 refine then_n ?_
 refine wp_cond_false (F.e rfl) ?_
 refine wp_skip ?_
 refine then_n ?_
 refine wp_seq ?_
 refine wp_region_lit ?_
 refine list_val F (wn rfl) rfl rfl (.slice A xs.length c) (ex_move _ rfl _ (F.e rfl)) ?_; clear F a; intro a F
 refine list_val F (wn rfl) rfl rfl (.int .u64 g) (ex_move _ rfl _ (F.e rfl)) ?_; clear F a; intro a F
 refine list_do (wn rfl) (fun K hK => ?_)
 refine ow_call rfl rfl F 33 #[.slice A xs.length c, .int .u64 g] (ex_call 33 _ _ rfl rfl r2_ent_33 _ (map2 (F.e rfl) (F.e rfl))) (grants_any xs h A c g _ ((Kd.C_below hr M.bel)) hc (by omega)) (fun e v hR => ?_)
 obtain ⟨he, hb⟩ := hR
 refine ⟨.tuple #[.int .i64 ((nF xs g : Nat) : Int), .int .i64 ((nT xs g : Nat) : Int)], he, ?_⟩; clear he F a; intro a F
 refine hK _ _ ?_
 clear hK K
 replace M := M.below hb; clear hb; try clear u
 refine list_val F (wn rfl) rfl rfl (.tuple #[.int .i64 ((nF xs g : Nat) : Int), .int .i64 ((nT xs g : Nat) : Int)]) (ex_move _ rfl _ (F.e rfl)) ?_; clear F a; intro a F
 refine list_val F (wn rfl) rfl rfl (.int .i64 ((nF xs g : Nat) : Int)) (ex_extract _ _ rfl _ (F.e rfl) _ rfl) ?_; clear F a; intro a F
 refine list_val F (wn rfl) rfl rfl (.int .i64 ((nT xs g : Nat) : Int)) (ex_extract _ _ rfl _ (F.e rfl) _ rfl) ?_; clear F a; intro a F
 refine list_val F (wn rfl) rfl rfl (.int .i64 ((nF xs g : Nat) : Int)) (ex_assign _ rfl _ (F.e rfl)) ?_; clear F a; intro a F
 refine list_val F (wn rfl) rfl rfl (.int .i64 ((nT xs g : Nat) : Int)) (ex_assign _ rfl _ (F.e rfl)) ?_; clear F a; intro a F
 refine wpList_nil ?_
 replace F : Fr 24 a [(0, .slice A xs.length c), (1, .int .u64 g), (2, .agg id.cs.toArray), (5, .pointer (some ⟨g5, 0, none⟩)), (6, .bool false), (7, .int .i64 ((nF xs g : Nat) : Int)), (8, .int .i64 ((nT xs g : Nat) : Int)), (11, .bool false)] := F.keep ⟨rfl, rfl, rfl, rfl, rfl, rfl, rfl, rfl, trivial⟩
 refine then_n ?_
 refine wp_seq ?_
 refine wp_region_lit ?_
 refine list_val F (wn rfl) rfl rfl (.slice A xs.length c) (ex_move _ rfl _ (F.e rfl)) ?_; clear F a; intro a F
 refine list_val F (wn rfl) rfl rfl (.int .i64 ((nF xs g : Nat) : Int)) (ex_move _ rfl _ (F.e rfl)) ?_; clear F a; intro a F
 refine list_val F (wn rfl) rfl rfl (.int .i64 ((nT xs g : Nat) : Int)) (ex_move _ rfl _ (F.e rfl)) ?_; clear F a; intro a F
 refine list_val F (wn rfl) rfl rfl (.slice (cutA 19 A (nF xs g) c) (nT xs g - nF xs g) (c - nF xs g)) (ex_cutmid 57 85 19 Tryz.underlying57 s85 _ _ _ rfl A xs.length c (F.e rfl) _ _ (F.e rfl) (F.e rfl) (nF xs g) (nT xs g) rfl rfl (by omega) (by omega)) ?_; clear F a; intro a F
 refine list_val F (wn rfl) rfl rfl (.func (.func 35) #[] #[.pointer (some ⟨g5, 0, none⟩)]) (ex_makeFunc _ _ _ rfl _ (by rw [map1 (F.e rfl), map0])) ?_; clear F a; intro a F
 refine list_do (wn rfl) (fun K hK => ?_)
 refine ow_call rfl rfl F 34 #[.slice (cutA 19 A (nF xs g) c) (nT xs g - nF xs g) (c - nF xs g), .func (.func 35) #[] #[.pointer (some ⟨g5, 0, none⟩)]] (ex_call 34 _ _ rfl rfl r2_ent_34 _ (map2 (F.e rfl) (F.e rfl))) (contains_n (fun x => x.whole || decide (x.id = id)) 35 _ ((xs.drop (nF xs g)).take (nT xs g - nF xs g)) _ _ _ _ ((C_mid (Kd.C_below hr M.bel) (by omega) (by omega) hc)) (pays_clo_has (M.at (i := 0) rfl)) (by have := h.mid_eq g; rw [List.length_take, List.length_drop]; omega)) (fun e u hR => ?_)
 obtain ⟨he, hb⟩ := hR
 rw [h.mid_eq g] at he
 refine ⟨.bool (hasF xs g id), he, ?_⟩; clear he F a; intro a F
 refine hK _ _ ?_
 clear hK K
 replace M := M.below hb; clear hb; try clear v
 refine list_val F (wn rfl) rfl rfl (.bool (hasF xs g id)) (ex_assign _ rfl _ (F.e rfl)) ?_; clear F a; intro a F
 refine wpList_nil ?_
 replace F : Fr 24 a [(0, .slice A xs.length c), (1, .int .u64 g), (2, .agg id.cs.toArray), (5, .pointer (some ⟨g5, 0, none⟩)), (6, .bool (hasF xs g id)), (7, .int .i64 ((nF xs g : Nat) : Int)), (8, .int .i64 ((nT xs g : Nat) : Int)), (11, .bool false)] := F.keep ⟨rfl, rfl, rfl, rfl, rfl, rfl, rfl, rfl, trivial⟩
 refine then_n ?_
 refine wp_ret ?_
 exact ret_tmp F rfl rfl ⟨rfl, M.bel⟩
end Go.Proofs.YtnjbjjmoglogeaaGreat
