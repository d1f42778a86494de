/- The law RingLives of the given program answers true: its walk. Conditions: the turns are read. -/
import Derived.Test.YtnechcibpmjblaaV
namespace Go.Proofs.Ytnechcibpmjblaa
open Go.RowKit Go.Proofs.YtnechcibpmjblaaW.PrintWords KB WG
set_option linter.unusedVariables false
set_option linter.unusedSimpArgs false

section
variable {f0 : List Fate} {fl : Fate} {next : Int}
theorem tells_ok2 {e : Ending} {w w' : World} {l : List Key} {k : Key} {n : Int} (h : Tells2 e w w' ⟨l ++ [k], n⟩ 0) : ∃ A c, e = .returned (.tuple #[.agg #[.slice A (l.length + 1) c, .int .u64 n], .int .i64 0]) ∧ RO w' A c ⟨l ++ [k], n⟩ ∧ Below w.heap.size w w' := tells_ok h
theorem dis_some (h : Lives f0 fl next) {j : Nat} {f : Fate} (hj : f0[j]? = some f) (hg : f.gone = false) {kid : Int} (hk : kid = f.kid) (s : Bs 32) (A : Option Addr) (c : Nat) (w : World) (hO : RO w A c ⟨live f0 ++ [fl.key], next⟩) :
    Calls Try.prog 16 #[.agg #[.slice A ((live f0).length + 1) c, .int .u64 next], .int .u64 kid, .agg s.cs.toArray] w fun e w' => ∃ A' c', e = .returned (.tuple #[.agg #[.slice A' ((live (f0.set j { f with gone := true })).length + 1) c', .int .u64 next], .int .i64 0]) ∧ RO w' A' c' ⟨live (f0.set j { f with gone := true }) ++ [fl.key], next⟩ ∧ Below w.heap.size w w' := by
  subst hk
  have := distrust_c ⟨live f0 ++ [fl.key], next⟩ A c f.kid s w hO.rk (by show 0 ≤ next; have := h.next_; omega)
  rw [(h.distrust_some hj hg s).1] at this
  simp only [ring_len] at this
  exact this.mono fun _ _ h => tells_ok h
theorem dis_last (h : Lives f0 fl next) (hm : next < 9223372036854775807) {kid : Int} (hk : kid = fl.kid) (s : Bs 32) (A : Option Addr) (c : Nat) (w : World) (hO : RO w A c ⟨live f0 ++ [fl.key], next⟩) :
    Calls Try.prog 16 #[.agg #[.slice A ((live f0).length + 1) c, .int .u64 next], .int .u64 kid, .agg s.cs.toArray] w fun e w' => ∃ A' c', e = .returned (.tuple #[.agg #[.slice A' ((live (f0 ++ [{ fl with gone := true }])).length + 1) c', .int .u64 (next + 1)], .int .i64 0]) ∧ RO w' A' c' ⟨live (f0 ++ [{ fl with gone := true }]) ++ [(⟨next, s, 0, false⟩ : Fate).key], next + 1⟩ ∧ Below w.heap.size w w' := by
  subst hk
  have := distrust_c ⟨live f0 ++ [fl.key], next⟩ A c fl.kid s w hO.rk (by show 0 ≤ next; have := h.next_; omega)
  rw [(h.distrust_last s hm).1] at this
  simp only [ring_len] at this
  exact this.mono fun _ _ h => tells_ok h
theorem dis_none (h : Lives f0 fl next) {kid : Int} (hn : ∀ (i : Nat) (f : Fate), (f0 ++ [fl])[i]? = some f → f.gone = false → f.kid ≠ kid) (s : Bs 32) (A : Option Addr) (c : Nat) (w : World) (hO : RO w A c ⟨live f0 ++ [fl.key], next⟩) :
    Calls Try.prog 16 #[.agg #[.slice A ((live f0).length + 1) c, .int .u64 next], .int .u64 kid, .agg s.cs.toArray] w fun e w' => ∃ A' c', e = .returned (.tuple #[.agg #[.slice A' 0 c', .int .u64 0], .int .i64 53]) ∧ Below w.heap.size w w' := by
  have := distrust_c ⟨live f0 ++ [fl.key], next⟩ A c kid s w hO.rk (by show 0 ≤ next; have := h.next_; omega)
  rw [h.distrust_none s hn] at this
  simp only [ring_len] at this
  exact this.mono fun _ _ h => tells_no h
theorem pr_c (h : Lives f0 fl next) (t : Int) (A : Option Addr) (c : Nat) (w : World) (hO : RO w A c ⟨live f0 ++ [fl.key], next⟩) :
    Calls Try.prog 14 #[.agg #[.slice A ((live f0).length + 1) c, .int .u64 next], .int .i64 t] w fun e w' => ∃ A' c', e = .returned (.agg #[.slice A' ((live (f0.map (prF t))).length + 1) c', .int .u64 next]) ∧ RO w' A' c' ⟨live (f0.map (prF t)) ++ [fl.key], next⟩ ∧ Below w.heap.size w w' := by
  have := prune_c ⟨live f0 ++ [fl.key], next⟩ A c t w hO.rk
  rw [(h.prune t).1] at this
  simp only [ring_len] at this
  refine this.mono fun _ _ ⟨A', c', he, hO', hb⟩ => ⟨A', c', ?_, hO', hb⟩
  rw [he]
  simp only [ring_len]
theorem rot_ok (h : Lives f0 fl next) {u : Int} (hu : 0 < u) (hf : (live f0).length + 1 < 8) (hm : next < 9223372036854775807) (s : Bs 32) (A : Option Addr) (c : Nat) (w : World) (hO : RO w A c ⟨live f0 ++ [fl.key], next⟩) :
    Calls Try.prog 12 #[.agg #[.slice A ((live f0).length + 1) c, .int .u64 next], .agg s.cs.toArray, .int .i64 u] w fun e w' => ∃ A' c', e = .returned (.tuple #[.agg #[.slice A' ((live (f0 ++ [{ fl with til := u }])).length + 1) c', .int .u64 (next + 1)], .int .i64 0]) ∧ RO w' A' c' ⟨live (f0 ++ [{ fl with til := u }]) ++ [(⟨next, s, 0, false⟩ : Fate).key], next + 1⟩ ∧ Below w.heap.size w w' := by
  have := rotate_c ⟨live f0 ++ [fl.key], next⟩ A c s u w hO.rk (by show 0 ≤ next; have := h.next_; omega)
  rw [(h.rotate s hu hf hm).1] at this
  simp only [ring_len] at this
  exact this.mono fun _ _ h => tells_ok h
theorem rot_no (h : Lives f0 fl next) {u : Int} (hm : next < 9223372036854775807) (hno : u ≤ 0 ∨ 8 ≤ (live f0).length + 1) (s : Bs 32) (A : Option Addr) (c : Nat) (w : World) (hO : RO w A c ⟨live f0 ++ [fl.key], next⟩) :
    ∃ n, n ≠ 0 ∧ Calls Try.prog 12 #[.agg #[.slice A ((live f0).length + 1) c, .int .u64 next], .agg s.cs.toArray, .int .i64 u] w fun e w' => ∃ A' c', e = .returned (.tuple #[.agg #[.slice A' 0 c', .int .u64 0], .int .i64 n]) ∧ Below w.heap.size w w' := by
  have := rotate_c ⟨live f0 ++ [fl.key], next⟩ A c s u w hO.rk (by show 0 ≤ next; have := h.next_; omega)
  obtain ⟨n, hn, e⟩ := h.rotate_no s hm hno
  rw [e] at this
  simp only [ring_len] at this
  exact ⟨n, hn, this.mono fun _ _ h => tells_no h⟩
end
theorem rem_small {x : Int} (h0 : 0 ≤ x) (h1 : x < 1000) : x.tmod 1000 = x := by rw [Int.tmod_eq_emod_of_nonneg h0]; omega
theorem rem_range {x : Int} (h0 : 0 ≤ x) : 0 ≤ x.tmod 1000 ∧ x.tmod 1000 < 1000 := by rw [Int.tmod_eq_emod_of_nonneg h0]; omega
theorem fates_len (f0 : List Fate) (fl : Fate) : ((f0 ++ [fl]).flatMap Fate.cs).length = (f0.length + 1) * 35 := by rw [rows_len Fate.cs_len]; simp
theorem fates_push (l : List Fate) (f : Fate) (sp : List Value) : l.flatMap Fate.cs ++ f.cs ++ sp = (l ++ [f]).flatMap Fate.cs ++ sp := by simp
theorem ad0 {g k : Nat} : (⟨g, 0, none⟩ : Addr).add k = ⟨g, k, none⟩ := (addr_add _ _ _).trans (by rw [Nat.zero_add])
theorem cy_fa_94_1_32 : fa? Try.prog 94 1 32 = true := by kernel_rfl
theorem cy_one_92 : one? Try.prog 92 = true := by kernel_rfl
theorem cy_fa_94_0_0 : fa? Try.prog 94 0 0 = true := by kernel_rfl
theorem cy_row_70_32 : row? Try.prog 70 32 = true := by kernel_rfl
theorem cy_ent_10 : ent? Try.prog 10 = true := by kernel_rfl
theorem cy_row_69_2 : row? Try.prog 69 2 = true := by kernel_rfl
theorem cy_sl_92_35 : sl? Try.prog 92 35 = true := by kernel_rfl
theorem cy_sl_97_35 : sl? Try.prog 97 35 = true := by kernel_rfl
theorem cy_fa_96_3_34 : fa? Try.prog 96 3 34 = true := by kernel_rfl
theorem cy_one_4 : one? Try.prog 4 = true := by kernel_rfl
theorem cy_fa_99_0_0 : fa? Try.prog 99 0 0 = true := by kernel_rfl
theorem cy_one_3 : one? Try.prog 3 = true := by kernel_rfl
theorem cy_follows_mixedOrders : Try.prog.follows .mixedOrders = true := by kernel_rfl
theorem cy_fa_99_3_34 : fa? Try.prog 99 3 34 = true := by kernel_rfl
theorem cy_one_67 : one? Try.prog 67 = true := by kernel_rfl
theorem cy_fa_99_1_1 : fa? Try.prog 99 1 1 = true := by kernel_rfl
theorem cy_ent_16 : ent? Try.prog 16 = true := by kernel_rfl
theorem cy_cv_67_3_i64 : cv? Try.prog 67 3 .i64 = true := by kernel_rfl
theorem cy_ent_22 : ent? Try.prog 22 = true := by kernel_rfl
theorem cy_bool_4 : bool? Try.prog 4 = true := by kernel_rfl
theorem cy_fa_69_0_0 : fa? Try.prog 69 0 0 = true := by kernel_rfl
theorem cy_one_55 : one? Try.prog 55 = true := by kernel_rfl
theorem cy_sl_55_34 : sl? Try.prog 55 34 = true := by kernel_rfl
theorem cy_info_4_map_size_some_1 : (Try.prog.info? 4).map (·.size) = some 1 := by kernel_rfl
theorem cy_cv_3_67_u64 : cv? Try.prog 3 67 .u64 = true := by kernel_rfl
theorem cy_ap_97_96_35_56 : ap? Try.prog 97 96 35 56 = true := by kernel_rfl
theorem cy_fa_99_2_33 : fa? Try.prog 99 2 33 = true := by kernel_rfl
theorem cy_one_2 : one? Try.prog 2 = true := by kernel_rfl
theorem cy_ent_14 : ent? Try.prog 14 = true := by kernel_rfl
theorem cy_fa_96_2_33 : fa? Try.prog 96 2 33 = true := by kernel_rfl
theorem cy_ent_12 : ent? Try.prog 12 = true := by kernel_rfl
theorem cy_info_2_map_size_some_1 : (Try.prog.info? 2).map (·.size) = some 1 := by kernel_rfl
theorem cy_ent_27 : ent? Try.prog 27 = true := by kernel_rfl
theorem cy_ent_26 : ent? Try.prog 26 = true := by kernel_rfl
set_option maxHeartbeats 8000000 in
set_option maxRecDepth 100000 in
theorem lives_any (s : Bs 32) (ts : List Turn) (A : Option Addr) (c : Nat) (w : World) (hr : kTurn.C w A ts.length ts) (hc : ts.length ≤ c) (hwf : ∀ t ∈ ts, 0 ≤ t.kid ∧ t.kid < 18446744073709551616) :
    Calls Try.prog 5 #[.agg (lifeArr s (.slice A ts.length c))] w fun e w' => e = .returned (.bool true) ∧ Below w.heap.size w w' := by
 refine calls_start Try.func5 rfl rfl rfl (fun a F => ?_)
 have M : Mm w w [] := Mm.nil w
 refine wp_seq ?_
 refine wp_region_lit ?_
 refine list_do (wn rfl) (fun K hK => ?_)
 refine ow_box F M rfl rfl 94 _ rfl _ (F.e rfl) (lifeArr s (.slice A ts.length c)) rfl ?_
 clear F M a; intro a g1 v F M hb hg
 refine hK _ _ ?_
 clear hK K
 clear hb hg; try clear w
 refine list_val F (wn rfl) rfl rfl (.bool false) (ex_assign _ rfl _ rfl) ?_; clear F a; intro a F
 refine wpList_nil ?_
 replace F : Fr 272 a [(0, .agg (lifeArr s (.slice A ts.length c))), (1, .pointer (some ⟨g1, 0, none⟩)), (2, .bool false)] := F.keep ⟨rfl, rfl, rfl, trivial⟩
 refine then_n ?_
 refine wp_seq ?_
 refine wp_region_lit ?_
 refine list_val F (wn rfl) rfl rfl (.pointer (some ⟨g1, 32, none⟩)) (ex_fa _ _ _ rfl _ (F.e rfl) 32 cy_fa_94_1_32 ⟨g1, 32, none⟩ rfl) ?_; clear F a; intro a F
 refine list_val F (wn rfl) rfl rfl (.slice A ts.length c) (ex_load _ _ rfl _ (F.e rfl) _ (lv1 cy_one_92 (M.cell (i := 0) rfl (j := 32) (life_32 _ _)))) ?_; clear F a; intro a F
 refine list_val F (wn rfl) rfl rfl (.slice A ts.length c) (ex_assign _ rfl _ (F.e rfl)) ?_; clear F a; intro a F
 refine wpList_nil ?_
 replace F : Fr 272 a [(0, .agg (lifeArr s (.slice A ts.length c))), (1, .pointer (some ⟨g1, 0, none⟩)), (2, .bool false), (3, .slice A ts.length c)] := F.keep ⟨rfl, rfl, rfl, rfl, trivial⟩
 refine then_n ?_
 refine wp_seq ?_
 refine wp_region_lit ?_
 refine list_val F (wn rfl) rfl rfl (.pointer (some ⟨g1, 0, none⟩)) (ex_fa _ _ _ rfl _ (F.e rfl) 0 cy_fa_94_0_0 ⟨g1, 0, none⟩ rfl) ?_; clear F a; intro a F
 refine list_val F (wn rfl) rfl rfl (.agg s.cs.toArray) (ex_load _ _ rfl _ (F.e rfl) _ (lvr (cs := s.cs) (by rw [Bs.cs_len]; exact cy_row_70_32) (life_sec (M.at (i := 0) rfl)))) ?_; clear F a; intro a F
 refine list_do (wn rfl) (fun K hK => ?_)
 refine ow_call rfl rfl F 10 #[.agg s.cs.toArray] (ex_call 10 _ _ rfl rfl cy_ent_10 _ (map1 (F.e rfl))) (first_c s _) (fun e u hR => ?_)
 obtain ⟨A_21, c_21, he, O_r, hb⟩ := hR
 refine ⟨.agg #[.slice A_21 1 c_21, .int .u64 2], he, ?_⟩; clear he F a; intro a F
 refine hK _ _ ?_
 clear hK K
 replace M := M.below hb; clear hb; try clear v
 refine list_do (wn rfl) (fun K hK => ?_)
 refine ow_alloc F M rfl rfl 69 rfl (.agg #[.slice none 0 0, .int .u64 0]) z69 #[.slice none 0 0, .int .u64 0] rfl ?_
 clear F M a; intro a g4 v F M hb hg
 refine hK _ _ ?_
 clear hK K
 have K_O_r := O_r
 replace O_r := O_r.below hb
 have hz_g4 := hb; have lo_g4 := hg
 clear hb hg; try clear u
 refine list_do (wn rfl) (fun K hK => ?_)
 refine ow_put F M rfl 69 _ _ rfl 0 _ #[.slice none 0 0, .int .u64 0] _ rfl (F.e rfl) #[.slice A_21 1 c_21, .int .u64 2] (F.e rfl) (sz_row (m := 2) cy_row_69_2) rfl (by simp [Value.oneCell']) ?_
 clear F a; have Mo := M; clear M; intro a u F M hgr
 refine hK _ _ ?_
 clear hK K
 have hzz := S_grown hz_g4 hgr lo_g4
 replace O_r := K_O_r.below hzz
 clear hzz hz_g4 lo_g4 K_O_r
 clear Mo hgr; try clear v
 replace M : Mm w u [⟨g4, #[.slice A_21 1 c_21, .int .u64 2], 69⟩, ⟨g1, (lifeArr s (.slice A ts.length c)), 94⟩] := M
 refine wpList_nil ?_
 replace F : Fr 272 a [(0, .agg (lifeArr s (.slice A ts.length c))), (1, .pointer (some ⟨g1, 0, none⟩)), (2, .bool false), (3, .slice A ts.length c), (4, .pointer (some ⟨g4, 0, none⟩))] := F.keep ⟨rfl, rfl, rfl, rfl, rfl, trivial⟩
 refine then_n ?_
 refine wp_seq ?_
 refine wp_region_lit ?_
 refine list_val F (wn rfl) rfl rfl (.pointer (some ⟨g1, 0, none⟩)) (ex_fa _ _ _ rfl _ (F.e rfl) 0 cy_fa_94_0_0 ⟨g1, 0, none⟩ rfl) ?_; clear F a; intro a F
 refine list_val F (wn rfl) rfl rfl (.agg s.cs.toArray) (ex_load _ _ rfl _ (F.e rfl) _ (lvr (cs := s.cs) (by rw [Bs.cs_len]; exact cy_row_70_32) (life_sec (M.at (i := 1) rfl)))) ?_; clear F a; intro a F
 refine list_val F (wn rfl) rfl rfl (.agg ((⟨1, s, 0, false⟩ : Fate).arr)) (ex_build 96 _ rfl #[(0, .int .u64 1), (1, .agg s.cs.toArray)] (parts2 rfl (F.e rfl)) (.agg ((⟨1, s, 0, false⟩ : Fate).arr)) (build96_01 1 s _)) ?_; clear F a; intro a F
 refine list_do (wn rfl) (fun K hK => ?_)
 refine ow_bslice F M rfl rfl 97 1 _ rfl #[(0, .agg ((⟨1, s, 0, false⟩ : Fate).arr))] (parts1 (F.e rfl)) ((⟨1, s, 0, false⟩ : Fate).arr) 96 (newrow96 _ _) ?_
 clear F M a; intro a g25 v F M hb hg
 refine hK _ _ ?_
 clear hK K
 replace O_r := O_r.below hb
 clear hb hg; try clear u
 refine list_val F (wn rfl) rfl rfl (.slice (some ⟨g25, 0, none⟩) 1 1) (ex_assign _ rfl _ (F.e rfl)) ?_; clear F a; intro a F
 refine wpList_nil ?_
 replace F : Fr 272 a [(0, .agg (lifeArr s (.slice A ts.length c))), (1, .pointer (some ⟨g1, 0, none⟩)), (2, .bool false), (3, .slice A ts.length c), (4, .pointer (some ⟨g4, 0, none⟩)), (5, .slice (some ⟨g25, 0, none⟩) 1 1)] := F.keep ⟨rfl, rfl, rfl, rfl, rfl, rfl, trivial⟩
 refine then_n ?_
 refine wp_seq ?_
 refine wp_seq ?_
 refine wp_region_lit ?_
 refine list_val F (wn rfl) rfl rfl (.int .i64 0) (ex_assign _ rfl _ rfl) ?_; clear F a; intro a F
 refine wpList_nil ?_
 replace F : Fr 272 a [(0, .agg (lifeArr s (.slice A ts.length c))), (1, .pointer (some ⟨g1, 0, none⟩)), (2, .bool false), (3, .slice A ts.length c), (4, .pointer (some ⟨g4, 0, none⟩)), (5, .slice (some ⟨g25, 0, none⟩) 1 1), (6, .int .i64 0)] := F.keep ⟨rfl, rfl, rfl, rfl, rfl, rfl, rfl, trivial⟩
 refine then_n ?_
 refine wp_block ?_
 have hrow : (⟨1, s, 0, false⟩ : Fate).arr = (([] ++ [(⟨1, s, 0, false⟩ : Fate)]).flatMap Fate.cs ++ []).toArray := by simp [Fate.arr]
 rw [hrow] at M
 refine wp_loopN (fun mq ar wr => ∃ (f0 : List Fate), ∃ (fl : Fate), ∃ (next : Int), ∃ (Ar : Option Addr), ∃ (cr : Nat), ∃ (gr : Nat), ∃ (cap : Nat), ∃ (sp : List Value), ∃ (i : Nat), Fr 272 ar [(2, .bool false), (3, .slice A ts.length c), (4, .pointer (some ⟨g4, 0, none⟩)), (5, .slice (some ⟨gr, 0, none⟩) (f0.length + 1) cap), (6, .int .i64 i)] ∧ Mm w wr [⟨g4, #[.slice Ar ((live f0).length + 1) cr, .int .u64 next], 69⟩, ⟨gr, (((f0 ++ [fl]).flatMap Fate.cs ++ sp).toArray), 96⟩] ∧ RO wr Ar cr ⟨live f0 ++ [fl.key], next⟩ ∧ Lives f0 fl next ∧ ((f0 ++ [fl]).flatMap Fate.cs ++ sp).length = cap * 35 ∧ f0.length + 1 ≤ cap ∧ cap ≤ maxLen ∧ i ≤ ts.length ∧ i ≤ 200 ∧ f0.length ≤ i ∧ mq + i = ts.length) ts.length ?_ ?_
 ·
  exact ⟨[], (⟨1, s, 0, false⟩ : Fate), 2, A_21, c_21, g25, 1, [], 0, F.keep ⟨rfl, rfl, rfl, rfl, rfl, trivial⟩, (by refine M.pick' [1, 0] _ ?_ (by decide); exact ⟨rfl, rfl, trivial⟩), O_r, (Lives.first s), (by simp [Fate.cs_len]), (Nat.le_refl _), (by decide), (Nat.zero_le _), (Nat.zero_le _), (Nat.le_refl _), (by omega)⟩
 clear F M a O_r
 rintro mq a u ⟨f0, fl, next, Ar, cr, gr, cap, sp, i, F, M, O_r, hL, hcap, hqc, hcm, hi, hi2, hlen, hq⟩; try clear v
 have hfew := hL.ring.few
 have hnx := hL.next_
 have hnm : next < 9223372036854775807 := by omega
 by_cases h1 : i < ts.length
 ·
  by_cases h2 : i < 200
  ·
   obtain ⟨adt, rfl, zt, _, _, _⟩ := at_Turn hr (i : Int) (by omega) (by omega)
   rw [show (i : Int).toNat = i from rfl] at zt
   have hok := hwf (rdT ts (i : Int)) (by unfold rdT; rw [List.getD_eq_getElem?_getD, show (i : Int).toNat = i from rfl, List.getElem?_eq_getElem h1]; exact List.getElem_mem _)
   generalize rdT ts (i : Int) = o at zt hok
   obtain ⟨hk0, hk1⟩ := hok
   refine wp_seq ?_
   refine wp_seq ?_
   refine wp_region_lit ?_
   refine list_val F (wn rfl) rfl rfl (.int .i64 i) (ex_move _ rfl _ (F.e rfl)) ?_; clear F a; intro a F
   refine list_val F (wn rfl) rfl rfl (.slice (some adt) ts.length c) (ex_move _ rfl _ (F.e rfl)) ?_; clear F a; intro a F
   refine list_val F (wn rfl) rfl rfl (.int .i64 ((ts.length : Nat) : Int)) (ex_len _ _ rfl 35 cy_sl_92_35 _ _ _ (F.e rfl)) ?_; clear F a; intro a F
   refine list_val F (wn rfl) rfl rfl (.bool true) (ex_bin .lss _ _ _ _ rfl .i64 _ _ (F.e rfl) (F.e rfl) _ (b_lss (decide_eq_true (by omega)))) ?_; clear F a; intro a F
   refine list_val F (wn rfl) rfl rfl (.bool true) (ex_move _ rfl _ (F.e rfl)) ?_; clear F a; intro a F
   refine list_val F (F.wants 30 true rfl (by kernel_rfl) rfl true rfl) rfl rfl (.int .i64 i) (ex_move _ rfl _ (F.e rfl)) ?_; clear F a; intro a F
   refine list_val F (F.wants 30 true rfl (by kernel_rfl) rfl true rfl) rfl rfl (.bool true) (ex_bin .lss _ _ _ _ rfl .i64 _ _ (F.e rfl) rfl _ (b_lss (decide_eq_true (by omega)))) ?_; clear F a; intro a F
   refine list_val F (wn rfl) rfl rfl (.bool true) (ex_pick_t _ _ _ rfl (F.e rfl) _ (F.e rfl)) ?_; clear F a; intro a F
   refine wpList_nil ?_
   replace F : Fr 272 a [(2, .bool false), (3, .slice (some adt) ts.length c), (4, .pointer (some ⟨g4, 0, none⟩)), (5, .slice (some ⟨gr, 0, none⟩) (f0.length + 1) cap), (6, .int .i64 i), (33, .bool true)] := F.keep ⟨rfl, rfl, rfl, rfl, rfl, rfl, trivial⟩
   refine then_n ?_
   refine wp_cond_true (F.e rfl) ?_
   refine wp_skip ?_
   refine then_n ?_
   refine wp_seq ?_
   refine wp_block ?_
   refine wp_seq ?_
   refine wp_region_lit ?_
   refine list_val F (wn rfl) rfl rfl (.int .i64 0) (ex_assign _ rfl _ rfl) ?_; clear F a; intro a F
   refine wpList_nil ?_
   replace F : Fr 272 a [(2, .bool false), (3, .slice (some adt) ts.length c), (4, .pointer (some ⟨g4, 0, none⟩)), (5, .slice (some ⟨gr, 0, none⟩) (f0.length + 1) cap), (6, .int .i64 i), (7, .int .i64 0), (33, .bool true)] := F.keep ⟨rfl, rfl, rfl, rfl, rfl, rfl, rfl, trivial⟩
   refine then_n ?_
   refine wp_seq ?_
   refine wp_seq ?_
   refine wp_region_lit ?_
   refine list_val F (wn rfl) rfl rfl (.int .i64 0) (ex_assign _ rfl _ rfl) ?_; clear F a; intro a F
   refine wpList_nil ?_
   replace F : Fr 272 a [(2, .bool false), (3, .slice (some adt) ts.length c), (4, .pointer (some ⟨g4, 0, none⟩)), (5, .slice (some ⟨gr, 0, none⟩) (f0.length + 1) cap), (6, .int .i64 i), (7, .int .i64 0), (8, .int .i64 0), (33, .bool true)] := F.keep ⟨rfl, rfl, rfl, rfl, rfl, rfl, rfl, rfl, trivial⟩
   refine then_n ?_
   refine wp_block ?_
   refine wp_loopN (fun mq ar wr => ∃ (k : Nat), ∃ (nn : Nat), Fr 272 ar [(2, .bool false), (3, .slice (some adt) ts.length c), (4, .pointer (some ⟨g4, 0, none⟩)), (5, .slice (some ⟨gr, 0, none⟩) (f0.length + 1) cap), (6, .int .i64 i), (7, .int .i64 nn), (8, .int .i64 k), (33, .bool true)] ∧ Mm w wr [⟨g4, #[.slice Ar ((live f0).length + 1) cr, .int .u64 next], 69⟩, ⟨gr, (((f0 ++ [fl]).flatMap Fate.cs ++ sp).toArray), 96⟩] ∧ RO wr Ar cr ⟨live f0 ++ [fl.key], next⟩ ∧ k ≤ f0.length + 1 ∧ nn = alv (f0 ++ [fl]) k ∧ mq + k = (f0.length + 1)) (f0.length + 1) ?_ ?_
   ·
    exact ⟨0, 0, F.keep ⟨rfl, rfl, rfl, rfl, rfl, rfl, rfl, rfl, trivial⟩, (by refine M.pick' [0, 1] _ ?_ (by decide); exact ⟨rfl, rfl, trivial⟩), O_r, (Nat.zero_le _), (alv_zero _).symm, (by omega)⟩
   clear F M a O_r
   rintro mq a v ⟨k, nn, F, M, O_r, hk1, hn, hq⟩; try clear u
   by_cases hk : k < f0.length + 1
   ·
    obtain ⟨f, hfk⟩ : ∃ f, (f0 ++ [fl])[k]? = some f := ⟨_, List.getElem?_eq_getElem (by simp; omega)⟩
    have hal := alv_le (f0 ++ [fl]) k
    by_cases hgn : f.gone = true
    ·
     refine wp_seq ?_
     refine wp_seq ?_
     refine wp_region_lit ?_
     refine list_val F (wn rfl) rfl rfl (.int .i64 k) (ex_move _ rfl _ (F.e rfl)) ?_; clear F a; intro a F
     refine list_val F (wn rfl) rfl rfl (.slice (some ⟨gr, 0, none⟩) (f0.length + 1) cap) (ex_move _ rfl _ (F.e rfl)) ?_; clear F a; intro a F
     refine list_val F (wn rfl) rfl rfl (.int .i64 (((f0.length + 1) : Nat) : Int)) (ex_len _ _ rfl 35 cy_sl_97_35 _ _ _ (F.e rfl)) ?_; clear F a; intro a F
     refine list_val F (wn rfl) rfl rfl (.bool true) (ex_bin .lss _ _ _ _ rfl .i64 _ _ (F.e rfl) (F.e rfl) _ (b_lss (decide_eq_true (by omega)))) ?_; clear F a; intro a F
     refine wpList_nil ?_
     replace F : Fr 272 a [(2, .bool false), (3, .slice (some adt) ts.length c), (4, .pointer (some ⟨g4, 0, none⟩)), (5, .slice (some ⟨gr, 0, none⟩) (f0.length + 1) cap), (6, .int .i64 i), (7, .int .i64 nn), (8, .int .i64 k), (33, .bool true), (39, .bool true)] := F.keep ⟨rfl, rfl, rfl, rfl, rfl, rfl, rfl, rfl, rfl, trivial⟩
     refine then_n ?_
     refine wp_cond_true (F.e rfl) ?_
     refine wp_skip ?_
     refine then_n ?_
     refine wp_seq ?_
     refine wp_block ?_
     refine wp_seq ?_
     refine wp_region_lit ?_
     refine list_val F (wn rfl) rfl rfl (.slice (some ⟨gr, 0, none⟩) (f0.length + 1) cap) (ex_move _ rfl _ (F.e rfl)) ?_; clear F a; intro a F
     refine list_val F (wn rfl) rfl rfl (.int .i64 k) (ex_move _ rfl _ (F.e rfl)) ?_; clear F a; intro a F
     refine list_val F (wn rfl) rfl rfl (.pointer (some ⟨gr, k * 35, none⟩)) (ex_ix _ _ _ rfl 35 cy_sl_97_35 ⟨gr, 0, none⟩ _ _ (F.e rfl) .i64 _ (F.e rfl) k rfl (by omega) ⟨gr, k * 35, none⟩ ad0) ?_; clear F a; intro a F
     refine list_val F (wn rfl) rfl rfl (.pointer (some ⟨gr, k * 35 + 34, none⟩)) (ex_fa _ _ _ rfl _ (F.e rfl) 34 cy_fa_96_3_34 ⟨gr, k * 35 + 34, none⟩ rfl) ?_; clear F a; intro a F
     refine list_val F (wn rfl) rfl rfl (.bool true) (ex_load _ _ rfl _ (F.e rfl) _ (lv1 cy_one_4 (M.cell (i := 1) rfl (j := k * 35 + 34) (rows_arr Fate.cs_len hfk (by rw [Fate.cs_34, hgn]))))) ?_; clear F a; intro a F
     refine list_val F (wn rfl) rfl rfl (.bool false) (ex_not _ _ rfl _ (F.e rfl) _ rfl) ?_; clear F a; intro a F
     refine wpList_nil ?_
     replace F : Fr 272 a [(2, .bool false), (3, .slice (some adt) ts.length c), (4, .pointer (some ⟨g4, 0, none⟩)), (5, .slice (some ⟨gr, 0, none⟩) (f0.length + 1) cap), (6, .int .i64 i), (7, .int .i64 nn), (8, .int .i64 k), (33, .bool true), (39, .bool true), (47, .bool false)] := F.keep ⟨rfl, rfl, rfl, rfl, rfl, rfl, rfl, rfl, rfl, rfl, trivial⟩
     refine then_n ?_
     refine wp_cond_false (F.e rfl) ?_
     refine wp_skip ?_
     refine in_n ?_
     refine then_n ?_
     refine wp_region_lit ?_
     refine list_val F (wn rfl) rfl rfl (.int .i64 k) (ex_move _ rfl _ (F.e rfl)) ?_; clear F a; intro a F
     refine list_val F (wn rfl) rfl rfl (.int .i64 (k + 1)) (ex_bin .add _ _ _ _ rfl .i64 _ _ (F.e rfl) rfl _ (b_add (w_i64 (by omega) (by omega)))) ?_; clear F a; intro a F
     refine list_val F (wn rfl) rfl rfl (.int .i64 (k + 1)) (ex_assign _ rfl _ (F.e rfl)) ?_; clear F a; intro a F
     refine wpList_nil ?_
     replace F : Fr 272 a [(2, .bool false), (3, .slice (some adt) ts.length c), (4, .pointer (some ⟨g4, 0, none⟩)), (5, .slice (some ⟨gr, 0, none⟩) (f0.length + 1) cap), (6, .int .i64 i), (7, .int .i64 nn), (8, .int .i64 (k + 1)), (33, .bool true), (39, .bool true), (47, .bool false)] := F.keep ⟨rfl, rfl, rfl, rfl, rfl, rfl, rfl, rfl, rfl, rfl, trivial⟩
     refine then_n ?_
     exact ⟨(f0.length + 1) - (k + 1), by omega, (k + 1), nn, F.keep ⟨rfl, rfl, rfl, rfl, rfl, rfl, rfl, rfl, trivial⟩, (by refine M.pick' [0, 1] _ ?_ (by decide); exact ⟨rfl, rfl, trivial⟩), O_r, (by omega), (by rw [alv_no hfk hgn]; exact hn), (by omega)⟩
    rw [Bool.not_eq_true] at hgn
    refine wp_seq ?_
    refine wp_seq ?_
    refine wp_region_lit ?_
    refine list_val F (wn rfl) rfl rfl (.int .i64 k) (ex_move _ rfl _ (F.e rfl)) ?_; clear F a; intro a F
    refine list_val F (wn rfl) rfl rfl (.slice (some ⟨gr, 0, none⟩) (f0.length + 1) cap) (ex_move _ rfl _ (F.e rfl)) ?_; clear F a; intro a F
    refine list_val F (wn rfl) rfl rfl (.int .i64 (((f0.length + 1) : Nat) : Int)) (ex_len _ _ rfl 35 cy_sl_97_35 _ _ _ (F.e rfl)) ?_; clear F a; intro a F
    refine list_val F (wn rfl) rfl rfl (.bool true) (ex_bin .lss _ _ _ _ rfl .i64 _ _ (F.e rfl) (F.e rfl) _ (b_lss (decide_eq_true (by omega)))) ?_; clear F a; intro a F
    refine wpList_nil ?_
    replace F : Fr 272 a [(2, .bool false), (3, .slice (some adt) ts.length c), (4, .pointer (some ⟨g4, 0, none⟩)), (5, .slice (some ⟨gr, 0, none⟩) (f0.length + 1) cap), (6, .int .i64 i), (7, .int .i64 nn), (8, .int .i64 k), (33, .bool true), (39, .bool true)] := F.keep ⟨rfl, rfl, rfl, rfl, rfl, rfl, rfl, rfl, rfl, trivial⟩
    refine then_n ?_
    refine wp_cond_true (F.e rfl) ?_
    refine wp_skip ?_
    refine then_n ?_
    refine wp_seq ?_
    refine wp_block ?_
    refine wp_seq ?_
    refine wp_region_lit ?_
    refine list_val F (wn rfl) rfl rfl (.slice (some ⟨gr, 0, none⟩) (f0.length + 1) cap) (ex_move _ rfl _ (F.e rfl)) ?_; clear F a; intro a F
    refine list_val F (wn rfl) rfl rfl (.int .i64 k) (ex_move _ rfl _ (F.e rfl)) ?_; clear F a; intro a F
    refine list_val F (wn rfl) rfl rfl (.pointer (some ⟨gr, k * 35, none⟩)) (ex_ix _ _ _ rfl 35 cy_sl_97_35 ⟨gr, 0, none⟩ _ _ (F.e rfl) .i64 _ (F.e rfl) k rfl (by omega) ⟨gr, k * 35, none⟩ ad0) ?_; clear F a; intro a F
    refine list_val F (wn rfl) rfl rfl (.pointer (some ⟨gr, k * 35 + 34, none⟩)) (ex_fa _ _ _ rfl _ (F.e rfl) 34 cy_fa_96_3_34 ⟨gr, k * 35 + 34, none⟩ rfl) ?_; clear F a; intro a F
    refine list_val F (wn rfl) rfl rfl (.bool false) (ex_load _ _ rfl _ (F.e rfl) _ (lv1 cy_one_4 (M.cell (i := 1) rfl (j := k * 35 + 34) (rows_arr Fate.cs_len hfk (by rw [Fate.cs_34, hgn]))))) ?_; clear F a; intro a F
    refine list_val F (wn rfl) rfl rfl (.bool true) (ex_not _ _ rfl _ (F.e rfl) _ rfl) ?_; clear F a; intro a F
    refine wpList_nil ?_
    replace F : Fr 272 a [(2, .bool false), (3, .slice (some adt) ts.length c), (4, .pointer (some ⟨g4, 0, none⟩)), (5, .slice (some ⟨gr, 0, none⟩) (f0.length + 1) cap), (6, .int .i64 i), (7, .int .i64 nn), (8, .int .i64 k), (33, .bool true), (39, .bool true), (47, .bool true)] := F.keep ⟨rfl, rfl, rfl, rfl, rfl, rfl, rfl, rfl, rfl, rfl, trivial⟩
    refine then_n ?_
    refine wp_cond_true (F.e rfl) ?_
    refine wp_region_lit ?_
    refine list_val F (wn rfl) rfl rfl (.int .i64 nn) (ex_move _ rfl _ (F.e rfl)) ?_; clear F a; intro a F
    refine list_val F (wn rfl) rfl rfl (.int .i64 (nn + 1)) (ex_bin .add _ _ _ _ rfl .i64 _ _ (F.e rfl) rfl _ (b_add (w_i64 (by omega) (by omega)))) ?_; clear F a; intro a F
    refine list_val F (wn rfl) rfl rfl (.int .i64 (nn + 1)) (ex_assign _ rfl _ (F.e rfl)) ?_; clear F a; intro a F
    refine wpList_nil ?_
    replace F : Fr 272 a [(2, .bool false), (3, .slice (some adt) ts.length c), (4, .pointer (some ⟨g4, 0, none⟩)), (5, .slice (some ⟨gr, 0, none⟩) (f0.length + 1) cap), (6, .int .i64 i), (7, .int .i64 (nn + 1)), (8, .int .i64 k), (33, .bool true), (39, .bool true), (47, .bool true)] := F.keep ⟨rfl, rfl, rfl, rfl, rfl, rfl, rfl, rfl, rfl, rfl, trivial⟩
    refine in_n ?_
    refine then_n ?_
    refine wp_region_lit ?_
    refine list_val F (wn rfl) rfl rfl (.int .i64 k) (ex_move _ rfl _ (F.e rfl)) ?_; clear F a; intro a F
    refine list_val F (wn rfl) rfl rfl (.int .i64 (k + 1)) (ex_bin .add _ _ _ _ rfl .i64 _ _ (F.e rfl) rfl _ (b_add (w_i64 (by omega) (by omega)))) ?_; clear F a; intro a F
    refine list_val F (wn rfl) rfl rfl (.int .i64 (k + 1)) (ex_assign _ rfl _ (F.e rfl)) ?_; clear F a; intro a F
    refine wpList_nil ?_
    replace F : Fr 272 a [(2, .bool false), (3, .slice (some adt) ts.length c), (4, .pointer (some ⟨g4, 0, none⟩)), (5, .slice (some ⟨gr, 0, none⟩) (f0.length + 1) cap), (6, .int .i64 i), (7, .int .i64 (nn + 1)), (8, .int .i64 (k + 1)), (33, .bool true), (39, .bool true), (47, .bool true)] := F.keep ⟨rfl, rfl, rfl, rfl, rfl, rfl, rfl, rfl, rfl, rfl, trivial⟩
    refine then_n ?_
    exact ⟨(f0.length + 1) - (k + 1), by omega, (k + 1), (nn + 1), F.keep ⟨rfl, rfl, rfl, rfl, rfl, rfl, rfl, rfl, trivial⟩, (by refine M.pick' [0, 1] _ ?_ (by decide); exact ⟨rfl, rfl, trivial⟩), O_r, (by omega), (by rw [alv_yes hfk hgn, hn]), (by omega)⟩
   have hnn : nn = (live f0).length + 1 := by rw [hn]; exact hL.count (by omega)
   subst hnn
   clear hn
   refine wp_seq ?_
   refine wp_seq ?_
   refine wp_region_lit ?_
   refine list_val F (wn rfl) rfl rfl (.int .i64 k) (ex_move _ rfl _ (F.e rfl)) ?_; clear F a; intro a F
   refine list_val F (wn rfl) rfl rfl (.slice (some ⟨gr, 0, none⟩) (f0.length + 1) cap) (ex_move _ rfl _ (F.e rfl)) ?_; clear F a; intro a F
   refine list_val F (wn rfl) rfl rfl (.int .i64 (((f0.length + 1) : Nat) : Int)) (ex_len _ _ rfl 35 cy_sl_97_35 _ _ _ (F.e rfl)) ?_; clear F a; intro a F
   refine list_val F (wn rfl) rfl rfl (.bool false) (ex_bin .lss _ _ _ _ rfl .i64 _ _ (F.e rfl) (F.e rfl) _ (b_lss (decide_eq_false (by omega)))) ?_; clear F a; intro a F
   refine wpList_nil ?_
   replace F : Fr 272 a [(2, .bool false), (3, .slice (some adt) ts.length c), (4, .pointer (some ⟨g4, 0, none⟩)), (5, .slice (some ⟨gr, 0, none⟩) (f0.length + 1) cap), (6, .int .i64 i), (7, .int .i64 ((live f0).length + 1)), (8, .int .i64 k), (33, .bool true), (39, .bool false)] := F.keep ⟨rfl, rfl, rfl, rfl, rfl, rfl, rfl, rfl, rfl, trivial⟩
   refine then_n ?_
   refine wp_cond_false (F.e rfl) ?_
   refine wp_exit ?_
   refine then_x ?_
   refine then_x ?_
   refine in_hit ?_
   refine then_n ?_
   refine wp_seq ?_
   refine wp_only (fun ar wr => ∃ (f1 : List Fate), ∃ (fl1 : Fate), ∃ (next1 : Int), ∃ (Ar1 : Option Addr), ∃ (cr1 : Nat), ∃ (gr1 : Nat), ∃ (cap1 : Nat), ∃ (sp1 : List Value), Fr 272 ar [(2, .bool false), (3, .slice (some adt) ts.length c), (4, .pointer (some ⟨g4, 0, none⟩)), (5, .slice (some ⟨gr1, 0, none⟩) (f1.length + 1) cap1), (6, .int .i64 i), (33, .bool true), (39, .bool false)] ∧ Mm w wr [⟨g4, #[.slice Ar1 ((live f1).length + 1) cr1, .int .u64 next1], 69⟩, ⟨gr1, (((f1 ++ [fl1]).flatMap Fate.cs ++ sp1).toArray), 96⟩] ∧ RO wr Ar1 cr1 ⟨live f1 ++ [fl1.key], next1⟩ ∧ Lives f1 fl1 next1 ∧ ((f1 ++ [fl1]).flatMap Fate.cs ++ sp1).length = cap1 * 35 ∧ f1.length + 1 ≤ cap1 ∧ cap1 ≤ maxLen ∧ f1.length ≤ i + 1) ?_ ?_
   ·
    refine wp_seq ?_
    by_cases ha : o.act = 2
    ·
     refine wp_region_lit ?_
     refine list_val F (wn rfl) rfl rfl (.slice (some adt) ts.length c) (ex_move _ rfl _ (F.e rfl)) ?_; clear F a; intro a F
     refine list_val F (wn rfl) rfl rfl (.int .i64 i) (ex_move _ rfl _ (F.e rfl)) ?_; clear F a; intro a F
     refine list_val F (wn rfl) rfl rfl (.pointer (some (adt.add (i * 35)))) (ex_ix _ _ _ rfl 35 cy_sl_92_35 adt _ _ (F.e rfl) .i64 _ (F.e rfl) i rfl (by omega) (adt.add (i * 35)) rfl) ?_; clear F a; intro a F
     refine list_val F (wn rfl) rfl rfl (.pointer (some (adt.add (i * 35)))) (ex_fa _ _ _ rfl _ (F.e rfl) 0 cy_fa_99_0_0 (adt.add (i * 35)) rfl) ?_; clear F a; intro a F
     refine list_val F (wn rfl) rfl rfl (.int .i64 o.act) (ex_load _ _ rfl _ (F.e rfl) _ (lv1 cy_one_3 ((zt.below M.bel).cell 0 _ (Turn.cs_0 _)))) ?_; clear F a; intro a F
     refine list_val F (wn rfl) rfl rfl (.bool true) (ex_bin .eql _ _ _ _ rfl .i64 _ _ (F.e rfl) rfl _ (b_eql (by simp [ha]))) ?_; clear F a; intro a F
     refine wpList_nil ?_
     replace F : Fr 272 a [(2, .bool false), (3, .slice (some adt) ts.length c), (4, .pointer (some ⟨g4, 0, none⟩)), (5, .slice (some ⟨gr, 0, none⟩) (f0.length + 1) cap), (6, .int .i64 i), (7, .int .i64 ((live f0).length + 1)), (8, .int .i64 k), (33, .bool true), (39, .bool false), (55, .bool true)] := F.keep ⟨rfl, rfl, rfl, rfl, rfl, rfl, rfl, rfl, rfl, rfl, trivial⟩
     refine then_n ?_
     refine wp_cond_true (F.e rfl) ?_
     refine wp_seq ?_
     by_cases hkn : ∃ j : Nat, j < f0.length + 1 ∧ o.kid = (j : Int) + 1
     ·
      obtain ⟨j, hj, hkj⟩ := hkn
      obtain ⟨f, hfj⟩ : ∃ f, (f0 ++ [fl])[j]? = some f := ⟨_, List.getElem?_eq_getElem (by simp; omega)⟩
      have hfk := hL.kids j f hfj
      have hkk : o.kid = f.kid := by omega
      have hsz : j * 35 + 35 ≤ (f0.length + 1) * 35 := by omega
      by_cases hgn : f.gone = true
      ·
       have hno : ∀ (i : Nat) (g : Fate), (f0 ++ [fl])[i]? = some g → g.gone = false → g.kid ≠ o.kid := fun i g hi hg e => by
         have h2 := hL.kids i g hi
         have : i = j := by omega
         subst this
         rw [hfj] at hi
         obtain rfl := Option.some.inj hi
         rw [hgn] at hg; cases hg
       refine wp_only (fun ar wr => ∃ (A_68 : Option Addr), ∃ (c_68 : Nat), ∃ (g9 : Nat), Fr 272 ar [(2, .bool false), (3, .slice (some adt) ts.length c), (4, .pointer (some ⟨g4, 0, none⟩)), (5, .slice (some ⟨gr, 0, none⟩) (f0.length + 1) cap), (6, .int .i64 i), (7, .int .i64 ((live f0).length + 1)), (8, .int .i64 k), (9, .pointer (some ⟨g9, 0, none⟩)), (10, .int .i64 53), (33, .bool true), (39, .bool false), (55, .bool true)] ∧ Mm w wr [⟨g9, #[.slice A_68 0 c_68, .int .u64 0], 69⟩, ⟨g4, #[.slice Ar ((live f0).length + 1) cr, .int .u64 next], 69⟩, ⟨gr, (((f0 ++ [fl]).flatMap Fate.cs ++ sp).toArray), 96⟩] ∧ RO wr Ar cr ⟨live f0 ++ [fl.key], next⟩) ?_ ?_
       ·
        refine region_any cy_follows_mixedOrders M ?_; clear M; intro wD M hb
        replace O_r := O_r.below hb
        clear hb; try clear v
        have hS : Below wD.heap.size wD wD := Below.refl _ _; have MD := M
        have D_O_r := O_r
        refine any_val F 0 rfl (by kernel_rfl) (wn rfl) rfl rfl (.agg #[.slice Ar ((live f0).length + 1) cr, .int .u64 next]) (fun w' hS' => ex_load _ _ rfl _ (F.e rfl) _ (lvr (cs := [.slice Ar ((live f0).length + 1) cr, .int .u64 next]) cy_row_69_2 ((MD.below hS').at (i := 0) rfl))) hS ?_; clear F a; intro a F
        refine any_val F 1 rfl (by kernel_rfl) (wn rfl) rfl rfl (.slice (some adt) ts.length c) (fun w' hS' => ex_move _ rfl _ (F.e rfl)) hS ?_; clear F a; intro a F
        refine any_val F 2 rfl (by kernel_rfl) (wn rfl) rfl rfl (.int .i64 i) (fun w' hS' => ex_move _ rfl _ (F.e rfl)) hS ?_; clear F a; intro a F
        refine any_val F 3 rfl (by kernel_rfl) (wn rfl) rfl rfl (.pointer (some (adt.add (i * 35)))) (fun w' hS' => ex_ix _ _ _ rfl 35 cy_sl_92_35 adt _ _ (F.e rfl) .i64 _ (F.e rfl) i rfl (by omega) (adt.add (i * 35)) rfl) hS ?_; clear F a; intro a F
        refine any_val F 4 rfl (by kernel_rfl) (wn rfl) rfl rfl (.pointer (some ((adt.add (i * 35)).add 34))) (fun w' hS' => ex_fa _ _ _ rfl _ (F.e rfl) 34 cy_fa_99_3_34 ((adt.add (i * 35)).add 34) rfl) hS ?_; clear F a; intro a F
        refine any_val F 5 rfl (by kernel_rfl) (wn rfl) rfl rfl (.int .u64 o.kid) (fun w' hS' => ex_load _ _ rfl _ (F.e rfl) _ (lv1 cy_one_67 ((zt.below (MD.below hS').bel).cell 34 _ (Turn.cs_34 _)))) hS ?_; clear F a; intro a F
        refine any_val F 6 rfl (by kernel_rfl) (wn rfl) rfl rfl (.slice (some adt) ts.length c) (fun w' hS' => ex_move _ rfl _ (F.e rfl)) hS ?_; clear F a; intro a F
        refine any_val F 7 rfl (by kernel_rfl) (wn rfl) rfl rfl (.int .i64 i) (fun w' hS' => ex_move _ rfl _ (F.e rfl)) hS ?_; clear F a; intro a F
        refine any_val F 8 rfl (by kernel_rfl) (wn rfl) rfl rfl (.pointer (some (adt.add (i * 35)))) (fun w' hS' => ex_ix _ _ _ rfl 35 cy_sl_92_35 adt _ _ (F.e rfl) .i64 _ (F.e rfl) i rfl (by omega) (adt.add (i * 35)) rfl) hS ?_; clear F a; intro a F
        refine any_val F 9 rfl (by kernel_rfl) (wn rfl) rfl rfl (.pointer (some ((adt.add (i * 35)).add 1))) (fun w' hS' => ex_fa _ _ _ rfl _ (F.e rfl) 1 cy_fa_99_1_1 ((adt.add (i * 35)).add 1) rfl) hS ?_; clear F a; intro a F
        refine any_val F 10 rfl (by kernel_rfl) (wn rfl) rfl rfl (.agg o.sec.cs.toArray) (fun w' hS' => ex_load _ _ rfl _ (F.e rfl) _ (lvr (cs := o.sec.cs) (by rw [Bs.cs_len]; exact cy_row_70_32) (turn_sec ((zt.below (MD.below hS').bel))))) hS ?_; clear F a; intro a F
        refine any_ready [11, 15] (by kernel_rfl) (by simp) ?_
        refine ready_do rfl (wn rfl) (fun K hK => ?_) ?_
        ·
         refine ow_call rfl rfl F 16 #[.agg #[.slice Ar ((live f0).length + 1) cr, .int .u64 next], .int .u64 o.kid, .agg o.sec.cs.toArray] (ex_call 16 _ _ rfl rfl cy_ent_16 _ (map3 (F.e rfl) (F.e rfl) (F.e rfl))) (dis_none hL hno _ _ _ _ O_r) (fun e v hR => ?_)
         obtain ⟨A_68, c_68, he, hb⟩ := hR
         refine ⟨.tuple #[.agg #[.slice A_68 0 c_68, .int .u64 0], .int .i64 53], he, ?_⟩; clear he F a; intro a F
         refine hK _ _ (S_below hS hb) ?_
         replace hS := S_below hS hb
         clear hK K
         replace O_r := O_r.below hb
         replace M := M.below hb; clear hb; try clear wD
         refine any_val F 12 rfl (by kernel_rfl) (wn rfl) rfl rfl (.tuple #[.agg #[.slice A_68 0 c_68, .int .u64 0], .int .i64 53]) (fun w' hS' => ex_move _ rfl _ (F.e rfl)) hS ?_; clear F a; intro a F
         refine any_val F 13 rfl (by kernel_rfl) (wn rfl) rfl rfl (.agg #[.slice A_68 0 c_68, .int .u64 0]) (fun w' hS' => ex_extract _ _ rfl _ (F.e rfl) _ rfl) hS ?_; clear F a; intro a F
         refine any_val F 14 rfl (by kernel_rfl) (wn rfl) rfl rfl (.int .i64 53) (fun w' hS' => ex_extract _ _ rfl _ (F.e rfl) _ rfl) hS ?_; clear F a; intro a F
         refine any_ready [15] (by kernel_rfl) (by simp) ?_
         refine ready_do rfl (wn rfl) (fun K hK => ?_) AllReadyH.nil
         refine ow_alloc F M rfl rfl 69 rfl (.agg #[.slice none 0 0, .int .u64 0]) z69 #[.slice none 0 0, .int .u64 0] rfl ?_
         clear F M a; intro a g9 u F M hb hg
         have los_g9 := Nat.le_trans hS.size hg
         refine hK _ _ (S_below hS hb) ?_
         replace hS := S_below hS hb
         clear hK K
         have K_O_r := O_r
         replace O_r := O_r.below hb
         have hz_g9 := hb; have lo_g9 := hg
         clear hb hg; try clear v
         refine any_ready [16] (by kernel_rfl) (by simp) ?_
         refine ready_do rfl (wn rfl) (fun K hK => ?_) AllReadyH.nil
         refine ow_put F M rfl 69 _ _ rfl 0 _ #[.slice none 0 0, .int .u64 0] _ rfl (F.e rfl) #[.slice A_68 0 c_68, .int .u64 0] (F.e rfl) (sz_row (m := 2) cy_row_69_2) rfl (by simp [Value.oneCell']) ?_
         clear F a; have Mo := M; clear M; intro a v F M hgr
         refine hK _ _ (S_grown hS hgr los_g9) ?_
         replace hS := S_grown hS hgr los_g9
         clear hK K
         have hzz := S_grown hz_g9 hgr lo_g9
         replace O_r := K_O_r.below hzz
         clear hzz hz_g9 lo_g9 K_O_r
         clear Mo hgr; try clear u
         replace M : Mm w v [⟨g9, #[.slice A_68 0 c_68, .int .u64 0], 69⟩, ⟨g4, #[.slice Ar ((live f0).length + 1) cr, .int .u64 next], 69⟩, ⟨gr, (((f0 ++ [fl]).flatMap Fate.cs ++ sp).toArray), 96⟩] := M
         refine any_val F 17 rfl (by kernel_rfl) (wn rfl) rfl rfl (.int .i64 53) (fun w' hS' => ex_assign _ rfl _ (F.e rfl)) hS ?_; clear F a; intro a F
         refine any_done (by kernel_rfl) ?_
         exact ⟨A_68, c_68, g9, F.keep ⟨rfl, rfl, rfl, rfl, rfl, rfl, rfl, rfl, rfl, rfl, rfl, rfl, trivial⟩, (by refine M.pick' [0, 1, 2] _ ?_ (by decide); exact ⟨rfl, rfl, rfl, trivial⟩), O_r⟩
        refine ready_do rfl (wn rfl) (fun K hK => ?_) AllReadyH.nil
        refine ow_alloc F M rfl rfl 69 rfl (.agg #[.slice none 0 0, .int .u64 0]) z69 #[.slice none 0 0, .int .u64 0] rfl ?_
        clear F M a; intro a g9 v F M hb hg
        have los_g9 := Nat.le_trans hS.size hg
        refine hK _ _ (S_below hS hb) ?_
        replace hS := S_below hS hb
        clear hK K
        have K_O_r := O_r
        replace O_r := O_r.below hb
        have hz_g9 := hb; have lo_g9 := hg
        clear hb hg; try clear wD
        refine any_ready [11] (by kernel_rfl) (by simp) ?_
        refine ready_do rfl (wn rfl) (fun K hK => ?_) AllReadyH.nil
        refine ow_call rfl rfl F 16 #[.agg #[.slice Ar ((live f0).length + 1) cr, .int .u64 next], .int .u64 o.kid, .agg o.sec.cs.toArray] (ex_call 16 _ _ rfl rfl cy_ent_16 _ (map3 (F.e rfl) (F.e rfl) (F.e rfl))) (dis_none hL hno _ _ _ _ O_r) (fun e u hR => ?_)
        obtain ⟨A_68, c_68, he, hb⟩ := hR
        refine ⟨.tuple #[.agg #[.slice A_68 0 c_68, .int .u64 0], .int .i64 53], he, ?_⟩; clear he F a; intro a F
        refine hK _ _ (S_below hS hb) ?_
        replace hS := S_below hS hb
        clear hK K
        replace O_r := O_r.below hb
        replace hz_g9 := S_below hz_g9 hb
        replace M := M.below hb; clear hb; try clear v
        refine any_val F 12 rfl (by kernel_rfl) (wn rfl) rfl rfl (.tuple #[.agg #[.slice A_68 0 c_68, .int .u64 0], .int .i64 53]) (fun w' hS' => ex_move _ rfl _ (F.e rfl)) hS ?_; clear F a; intro a F
        refine any_val F 13 rfl (by kernel_rfl) (wn rfl) rfl rfl (.agg #[.slice A_68 0 c_68, .int .u64 0]) (fun w' hS' => ex_extract _ _ rfl _ (F.e rfl) _ rfl) hS ?_; clear F a; intro a F
        refine any_val F 14 rfl (by kernel_rfl) (wn rfl) rfl rfl (.int .i64 53) (fun w' hS' => ex_extract _ _ rfl _ (F.e rfl) _ rfl) hS ?_; clear F a; intro a F
        refine any_ready [16] (by kernel_rfl) (by simp) ?_
        refine ready_do rfl (wn rfl) (fun K hK => ?_) AllReadyH.nil
        refine ow_put F M rfl 69 _ _ rfl 0 _ #[.slice none 0 0, .int .u64 0] _ rfl (F.e rfl) #[.slice A_68 0 c_68, .int .u64 0] (F.e rfl) (sz_row (m := 2) cy_row_69_2) rfl (by simp [Value.oneCell']) ?_
        clear F a; have Mo := M; clear M; intro a v F M hgr
        refine hK _ _ (S_grown hS hgr los_g9) ?_
        replace hS := S_grown hS hgr los_g9
        clear hK K
        have hzz := S_grown hz_g9 hgr lo_g9
        replace O_r := K_O_r.below hzz
        clear hzz hz_g9 lo_g9 K_O_r
        clear Mo hgr; try clear u
        replace M : Mm w v [⟨g9, #[.slice A_68 0 c_68, .int .u64 0], 69⟩, ⟨g4, #[.slice Ar ((live f0).length + 1) cr, .int .u64 next], 69⟩, ⟨gr, (((f0 ++ [fl]).flatMap Fate.cs ++ sp).toArray), 96⟩] := M
        refine any_val F 17 rfl (by kernel_rfl) (wn rfl) rfl rfl (.int .i64 53) (fun w' hS' => ex_assign _ rfl _ (F.e rfl)) hS ?_; clear F a; intro a F
        refine any_done (by kernel_rfl) ?_
        exact ⟨A_68, c_68, g9, F.keep ⟨rfl, rfl, rfl, rfl, rfl, rfl, rfl, rfl, rfl, rfl, rfl, rfl, trivial⟩, (by refine M.pick' [0, 1, 2] _ ?_ (by decide); exact ⟨rfl, rfl, rfl, trivial⟩), O_r⟩
       clear F M a O_r
       intro a u hR; obtain ⟨A_68, c_68, g9, F, M, O_r⟩ := hR; try clear v
       refine then_n ?_
       refine wp_seq ?_
       refine wp_region_lit ?_
       refine list_val F (wn rfl) rfl rfl (.slice (some adt) ts.length c) (ex_move _ rfl _ (F.e rfl)) ?_; clear F a; intro a F
       refine list_val F (wn rfl) rfl rfl (.int .i64 i) (ex_move _ rfl _ (F.e rfl)) ?_; clear F a; intro a F
       refine list_val F (wn rfl) rfl rfl (.pointer (some (adt.add (i * 35)))) (ex_ix _ _ _ rfl 35 cy_sl_92_35 adt _ _ (F.e rfl) .i64 _ (F.e rfl) i rfl (by omega) (adt.add (i * 35)) rfl) ?_; clear F a; intro a F
       refine list_val F (wn rfl) rfl rfl (.pointer (some ((adt.add (i * 35)).add 34))) (ex_fa _ _ _ rfl _ (F.e rfl) 34 cy_fa_99_3_34 ((adt.add (i * 35)).add 34) rfl) ?_; clear F a; intro a F
       refine list_val F (wn rfl) rfl rfl (.int .u64 o.kid) (ex_load _ _ rfl _ (F.e rfl) _ (lv1 cy_one_67 ((zt.below M.bel).cell 34 _ (Turn.cs_34 _)))) ?_; clear F a; intro a F
       refine list_val F (wn rfl) rfl rfl (.int .u64 ((j : Int) + 1)) (ex_bin .rem _ _ _ _ rfl .u64 _ _ (F.e rfl) rfl _ (b_rem (by decide) (by rw [hkj]; exact rem_small (by omega) (by omega)))) ?_; clear F a; intro a F
       refine list_val F (wn rfl) rfl rfl (.int .i64 ((j : Int) + 1)) (ex_conv _ _ _ rfl _ .i64 cy_cv_67_3_i64 _ (F.e rfl) _ (w_i64 (by omega) (by omega))) ?_; clear F a; intro a F
       refine list_val F (wn rfl) rfl rfl (.int .i64 j) (ex_bin .sub _ _ _ _ rfl .i64 _ _ (F.e rfl) rfl _ (b_sub ((w_i64 (by omega) (by omega)).trans (by omega)))) ?_; clear F a; intro a F
       refine list_val F (wn rfl) rfl rfl (.int .i64 j) (ex_assign _ rfl _ (F.e rfl)) ?_; clear F a; intro a F
       refine wpList_nil ?_
       replace F : Fr 272 a [(2, .bool false), (3, .slice (some adt) ts.length c), (4, .pointer (some ⟨g4, 0, none⟩)), (5, .slice (some ⟨gr, 0, none⟩) (f0.length + 1) cap), (6, .int .i64 i), (7, .int .i64 ((live f0).length + 1)), (8, .int .i64 k), (9, .pointer (some ⟨g9, 0, none⟩)), (10, .int .i64 53), (11, .int .i64 j), (33, .bool true), (39, .bool false), (55, .bool true)] := F.keep ⟨rfl, rfl, rfl, rfl, rfl, rfl, rfl, rfl, rfl, rfl, rfl, rfl, rfl, trivial⟩
       refine then_n ?_
       refine wp_seq ?_
       refine wp_region_lit ?_
       refine list_val F (wn rfl) rfl rfl (.slice (some adt) ts.length c) (ex_move _ rfl _ (F.e rfl)) ?_; clear F a; intro a F
       refine list_val F (wn rfl) rfl rfl (.int .i64 i) (ex_move _ rfl _ (F.e rfl)) ?_; clear F a; intro a F
       refine list_val F (wn rfl) rfl rfl (.pointer (some (adt.add (i * 35)))) (ex_ix _ _ _ rfl 35 cy_sl_92_35 adt _ _ (F.e rfl) .i64 _ (F.e rfl) i rfl (by omega) (adt.add (i * 35)) rfl) ?_; clear F a; intro a F
       refine list_val F (wn rfl) rfl rfl (.pointer (some ((adt.add (i * 35)).add 34))) (ex_fa _ _ _ rfl _ (F.e rfl) 34 cy_fa_99_3_34 ((adt.add (i * 35)).add 34) rfl) ?_; clear F a; intro a F
       refine list_val F (wn rfl) rfl rfl (.int .u64 o.kid) (ex_load _ _ rfl _ (F.e rfl) _ (lv1 cy_one_67 ((zt.below M.bel).cell 34 _ (Turn.cs_34 _)))) ?_; clear F a; intro a F
       refine list_val F (wn rfl) rfl rfl (.bool true) (ex_bin .lss _ _ _ _ rfl .u64 _ _ (F.e rfl) rfl _ (b_lss (decide_eq_true (by omega)))) ?_; clear F a; intro a F
       refine list_val F (wn rfl) rfl rfl (.bool true) (ex_move _ rfl _ (F.e rfl)) ?_; clear F a; intro a F
       refine list_val F (F.wants 85 true rfl (by kernel_rfl) rfl true rfl) rfl rfl (.int .i64 j) (ex_move _ rfl _ (F.e rfl)) ?_; clear F a; intro a F
       refine list_val F (F.wants 85 true rfl (by kernel_rfl) rfl true rfl) rfl rfl (.bool true) (ex_bin .geq _ _ _ _ rfl .i64 _ _ (F.e rfl) rfl _ (b_geq (decide_eq_true (by omega)))) ?_; clear F a; intro a F
       refine list_val F (wn rfl) rfl rfl (.bool true) (ex_pick_t _ _ _ rfl (F.e rfl) _ (F.e rfl)) ?_; clear F a; intro a F
       refine list_val F (wn rfl) rfl rfl (.bool true) (ex_move _ rfl _ (F.e rfl)) ?_; clear F a; intro a F
       refine list_val F (F.wants 89 true rfl (by kernel_rfl) rfl true rfl) rfl rfl (.int .i64 j) (ex_move _ rfl _ (F.e rfl)) ?_; clear F a; intro a F
       refine list_val F (F.wants 89 true rfl (by kernel_rfl) rfl true rfl) rfl rfl (.slice (some ⟨gr, 0, none⟩) (f0.length + 1) cap) (ex_move _ rfl _ (F.e rfl)) ?_; clear F a; intro a F
       refine list_val F (F.wants 89 true rfl (by kernel_rfl) rfl true rfl) rfl rfl (.int .i64 (((f0.length + 1) : Nat) : Int)) (ex_len _ _ rfl 35 cy_sl_97_35 _ _ _ (F.e rfl)) ?_; clear F a; intro a F
       refine list_val F (F.wants 89 true rfl (by kernel_rfl) rfl true rfl) rfl rfl (.bool true) (ex_bin .lss _ _ _ _ rfl .i64 _ _ (F.e rfl) (F.e rfl) _ (b_lss (decide_eq_true (by omega)))) ?_; clear F a; intro a F
       refine list_val F (wn rfl) rfl rfl (.bool true) (ex_pick_t _ _ _ rfl (F.e rfl) _ (F.e rfl)) ?_; clear F a; intro a F
       refine list_val F (wn rfl) rfl rfl (.bool true) (ex_move _ rfl _ (F.e rfl)) ?_; clear F a; intro a F
       refine list_val F (F.wants 95 true rfl (by kernel_rfl) rfl true rfl) rfl rfl (.slice (some ⟨gr, 0, none⟩) (f0.length + 1) cap) (ex_move _ rfl _ (F.e rfl)) ?_; clear F a; intro a F
       refine list_val F (F.wants 95 true rfl (by kernel_rfl) rfl true rfl) rfl rfl (.int .i64 j) (ex_move _ rfl _ (F.e rfl)) ?_; clear F a; intro a F
       refine list_val F (F.wants 95 true rfl (by kernel_rfl) rfl true rfl) rfl rfl (.pointer (some ⟨gr, j * 35, none⟩)) (ex_ix _ _ _ rfl 35 cy_sl_97_35 ⟨gr, 0, none⟩ _ _ (F.e rfl) .i64 _ (F.e rfl) j rfl (by omega) ⟨gr, j * 35, none⟩ ad0) ?_; clear F a; intro a F
       refine list_val F (F.wants 95 true rfl (by kernel_rfl) rfl true rfl) rfl rfl (.pointer (some ⟨gr, j * 35 + 34, none⟩)) (ex_fa _ _ _ rfl _ (F.e rfl) 34 cy_fa_96_3_34 ⟨gr, j * 35 + 34, none⟩ rfl) ?_; clear F a; intro a F
       refine list_val F (F.wants 95 true rfl (by kernel_rfl) rfl true rfl) rfl rfl (.bool true) (ex_load _ _ rfl _ (F.e rfl) _ (lv1 cy_one_4 (M.cell (i := 2) rfl (j := j * 35 + 34) (rows_arr Fate.cs_len hfj (by rw [Fate.cs_34, hgn]))))) ?_; clear F a; intro a F
       refine list_val F (F.wants 95 true rfl (by kernel_rfl) rfl true rfl) rfl rfl (.bool false) (ex_not _ _ rfl _ (F.e rfl) _ rfl) ?_; clear F a; intro a F
       refine list_val F (wn rfl) rfl rfl (.bool false) (ex_pick_t _ _ _ rfl (F.e rfl) _ (F.e rfl)) ?_; clear F a; intro a F
       refine list_val F (wn rfl) rfl rfl (.bool false) (ex_assign _ rfl _ (F.e rfl)) ?_; clear F a; intro a F
       refine wpList_nil ?_
       replace F : Fr 272 a [(2, .bool false), (3, .slice (some adt) ts.length c), (4, .pointer (some ⟨g4, 0, none⟩)), (5, .slice (some ⟨gr, 0, none⟩) (f0.length + 1) cap), (6, .int .i64 i), (7, .int .i64 ((live f0).length + 1)), (8, .int .i64 k), (9, .pointer (some ⟨g9, 0, none⟩)), (10, .int .i64 53), (11, .int .i64 j), (12, .bool false), (33, .bool true), (39, .bool false), (55, .bool true)] := F.keep ⟨rfl, rfl, rfl, rfl, rfl, rfl, rfl, rfl, rfl, rfl, rfl, rfl, rfl, rfl, trivial⟩
       refine then_n ?_
       refine wp_seq ?_
       refine wp_seq ?_
       refine wp_region_lit ?_
       refine list_val F (wn rfl) rfl rfl (.int .i64 53) (ex_move _ rfl _ (F.e rfl)) ?_; clear F a; intro a F
       refine list_do (wn rfl) (fun K hK => ?_)
       refine ow_call rfl rfl F 22 #[.int .i64 53] (ex_call 22 _ _ rfl rfl cy_ent_22 _ (map1 (F.e rfl))) (num_any _ _) (fun e v hR => ?_)
       obtain ⟨he, hw⟩ := hR
       refine ⟨.int .i64 53, he, ?_⟩; clear he F a; intro a F
       obtain rfl := hw
       refine hK _ _ ?_
       clear hK K
       refine list_val F (wn rfl) rfl rfl (.bool false) (ex_bin .eql _ _ _ _ rfl .i64 _ _ (F.e rfl) rfl _ (b_eql (by decide))) ?_; clear F a; intro a F
       refine list_val F (wn rfl) rfl rfl (.bool false) (ex_move _ rfl _ (F.e rfl)) ?_; clear F a; intro a F
       refine list_val F (wn rfl) rfl rfl (.bool false) (ex_neqb _ _ _ _ rfl cy_bool_4 false false (F.e rfl) (F.e rfl) false rfl) ?_; clear F a; intro a F
       refine list_val F (wn rfl) rfl rfl (.bool false) (ex_move _ rfl _ (F.e rfl)) ?_; clear F a; intro a F
       refine list_val F (F.wants 108 false rfl (by kernel_rfl) rfl true rfl) rfl rfl (.bool false) (ex_move _ rfl _ (F.e rfl)) ?_; clear F a; intro a F
       refine list_val F (F.wants 108 false rfl (by kernel_rfl) rfl true rfl) rfl rfl (.bool true) (ex_not _ _ rfl _ (F.e rfl) _ rfl) ?_; clear F a; intro a F
       refine list_val F (F.wants 108 false rfl (by kernel_rfl) rfl true rfl) rfl rfl (.bool true) (ex_move _ rfl _ (F.e rfl)) ?_; clear F a; intro a F
       refine list_val F (F.wants 111 true rfl (by kernel_rfl) rfl true rfl) rfl rfl (.int .i64 53) (ex_move _ rfl _ (F.e rfl)) ?_; clear F a; intro a F
       refine list_do (F.wants 111 true rfl (by kernel_rfl) rfl true rfl) (fun K hK => ?_)
       refine ow_call rfl rfl F 22 #[.int .i64 53] (ex_call 22 _ _ rfl rfl cy_ent_22 _ (map1 (F.e rfl))) (num_any _ _) (fun e v hR => ?_)
       obtain ⟨he, hw⟩ := hR
       refine ⟨.int .i64 53, he, ?_⟩; clear he F a; intro a F
       obtain rfl := hw
       refine hK _ _ ?_
       clear hK K
       refine list_val F (F.wants 111 true rfl (by kernel_rfl) rfl true rfl) rfl rfl (.bool false) (ex_bin .neq _ _ _ _ rfl .i64 _ _ (F.e rfl) rfl _ (b_neq (by decide))) ?_; clear F a; intro a F
       refine list_val F (F.wants 111 true rfl (by kernel_rfl) rfl true rfl) rfl rfl (.bool false) (ex_move _ rfl _ (F.e rfl)) ?_; clear F a; intro a F
       refine list_val F (F.wants 115 false rfl (by kernel_rfl) rfl true rfl) rfl rfl (.pointer (some ⟨g9, 0, none⟩)) (ex_fa _ _ _ rfl _ (F.e rfl) 0 cy_fa_69_0_0 ⟨g9, 0, none⟩ rfl) ?_; clear F a; intro a F
       refine list_val F (F.wants 115 false rfl (by kernel_rfl) rfl true rfl) rfl rfl (.slice A_68 0 c_68) (ex_load _ _ rfl _ (F.e rfl) _ (lv1 cy_one_55 (M.cell (i := 0) rfl (j := 0) rfl))) ?_; clear F a; intro a F
       refine list_val F (F.wants 115 false rfl (by kernel_rfl) rfl true rfl) rfl rfl (.int .i64 0) (ex_len _ _ rfl 34 cy_sl_55_34 _ _ _ (F.e rfl)) ?_; clear F a; intro a F
       refine list_val F (F.wants 115 false rfl (by kernel_rfl) rfl true rfl) rfl rfl (.bool false) (ex_bin .gtr _ _ _ _ rfl .i64 _ _ (F.e rfl) rfl _ (b_gtr (by decide))) ?_; clear F a; intro a F
       refine list_val F (F.wants 111 true rfl (by kernel_rfl) rfl true rfl) rfl rfl (.bool false) (ex_pick_f _ _ _ rfl (F.e rfl) _ (F.e rfl)) ?_; clear F a; intro a F
       refine list_val F (F.wants 108 false rfl (by kernel_rfl) rfl true rfl) rfl rfl (.bool false) (ex_pick_t _ _ _ rfl (F.e rfl) _ (F.e rfl)) ?_; clear F a; intro a F
       refine list_val F (wn rfl) rfl rfl (.bool false) (ex_pick_f _ _ _ rfl (F.e rfl) _ (F.e rfl)) ?_; clear F a; intro a F
       refine wpList_nil ?_
       replace F : Fr 272 a [(2, .bool false), (3, .slice (some adt) ts.length c), (4, .pointer (some ⟨g4, 0, none⟩)), (5, .slice (some ⟨gr, 0, none⟩) (f0.length + 1) cap), (6, .int .i64 i), (7, .int .i64 ((live f0).length + 1)), (8, .int .i64 k), (9, .pointer (some ⟨g9, 0, none⟩)), (10, .int .i64 53), (11, .int .i64 j), (12, .bool false), (33, .bool true), (39, .bool false), (55, .bool true), (122, .bool false)] := F.keep ⟨rfl, rfl, rfl, rfl, rfl, rfl, rfl, rfl, rfl, rfl, rfl, rfl, rfl, rfl, rfl, trivial⟩
       refine then_n ?_
       refine wp_cond_false (F.e rfl) ?_
       refine wp_skip ?_
       refine then_n ?_
       refine wp_seq ?_
       refine wp_region_lit ?_
       refine list_val F (wn rfl) rfl rfl (.bool false) (ex_move _ rfl _ (F.e rfl)) ?_; clear F a; intro a F
       refine wpList_nil ?_
       replace F : Fr 272 a [(2, .bool false), (3, .slice (some adt) ts.length c), (4, .pointer (some ⟨g4, 0, none⟩)), (5, .slice (some ⟨gr, 0, none⟩) (f0.length + 1) cap), (6, .int .i64 i), (7, .int .i64 ((live f0).length + 1)), (8, .int .i64 k), (9, .pointer (some ⟨g9, 0, none⟩)), (10, .int .i64 53), (11, .int .i64 j), (12, .bool false), (33, .bool true), (39, .bool false), (55, .bool true), (122, .bool false), (123, .bool false)] := F.keep ⟨rfl, rfl, rfl, rfl, rfl, rfl, rfl, rfl, rfl, rfl, rfl, rfl, rfl, rfl, rfl, rfl, trivial⟩
       refine then_n ?_
       refine wp_cond_false (F.e rfl) ?_
       refine wp_skip ?_
       refine only_n ?_
       exact ⟨f0, fl, next, Ar, cr, gr, cap, sp, F.keep ⟨rfl, rfl, rfl, rfl, rfl, rfl, rfl, trivial⟩, (by refine M.pick' [1, 2] _ ?_ (by decide); exact ⟨rfl, rfl, trivial⟩), O_r, hL, hcap, hqc, hcm, (by omega)⟩
      rw [Bool.not_eq_true] at hgn
      by_cases hjl : j = f0.length
      ·
       subst hjl
       obtain rfl : fl = f := by simpa using hfj
       refine wp_only (fun ar wr => ∃ (A_68 : Option Addr), ∃ (c_68 : Nat), ∃ (g9 : Nat), Fr 272 ar [(2, .bool false), (3, .slice (some adt) ts.length c), (4, .pointer (some ⟨g4, 0, none⟩)), (5, .slice (some ⟨gr, 0, none⟩) (f0.length + 1) cap), (6, .int .i64 i), (7, .int .i64 ((live f0).length + 1)), (8, .int .i64 k), (9, .pointer (some ⟨g9, 0, none⟩)), (10, .int .i64 0), (33, .bool true), (39, .bool false), (55, .bool true)] ∧ Mm w wr [⟨g9, #[.slice A_68 ((live (f0 ++ [{ fl with gone := true }])).length + 1) c_68, .int .u64 (next + 1)], 69⟩, ⟨g4, #[.slice Ar ((live f0).length + 1) cr, .int .u64 next], 69⟩, ⟨gr, (((f0 ++ [fl]).flatMap Fate.cs ++ sp).toArray), 96⟩] ∧ RO wr Ar cr ⟨live f0 ++ [fl.key], next⟩ ∧ RO wr A_68 c_68 ⟨live (f0 ++ [{ fl with gone := true }]) ++ [(⟨next, o.sec, 0, false⟩ : Fate).key], (next + 1)⟩) ?_ ?_
       ·
        refine region_any cy_follows_mixedOrders M ?_; clear M; intro wD M hb
        replace O_r := O_r.below hb
        clear hb; try clear v
        have hS : Below wD.heap.size wD wD := Below.refl _ _; have MD := M
        have D_O_r := O_r
        refine any_val F 0 rfl (by kernel_rfl) (wn rfl) rfl rfl (.agg #[.slice Ar ((live f0).length + 1) cr, .int .u64 next]) (fun w' hS' => ex_load _ _ rfl _ (F.e rfl) _ (lvr (cs := [.slice Ar ((live f0).length + 1) cr, .int .u64 next]) cy_row_69_2 ((MD.below hS').at (i := 0) rfl))) hS ?_; clear F a; intro a F
        refine any_val F 1 rfl (by kernel_rfl) (wn rfl) rfl rfl (.slice (some adt) ts.length c) (fun w' hS' => ex_move _ rfl _ (F.e rfl)) hS ?_; clear F a; intro a F
        refine any_val F 2 rfl (by kernel_rfl) (wn rfl) rfl rfl (.int .i64 i) (fun w' hS' => ex_move _ rfl _ (F.e rfl)) hS ?_; clear F a; intro a F
        refine any_val F 3 rfl (by kernel_rfl) (wn rfl) rfl rfl (.pointer (some (adt.add (i * 35)))) (fun w' hS' => ex_ix _ _ _ rfl 35 cy_sl_92_35 adt _ _ (F.e rfl) .i64 _ (F.e rfl) i rfl (by omega) (adt.add (i * 35)) rfl) hS ?_; clear F a; intro a F
        refine any_val F 4 rfl (by kernel_rfl) (wn rfl) rfl rfl (.pointer (some ((adt.add (i * 35)).add 34))) (fun w' hS' => ex_fa _ _ _ rfl _ (F.e rfl) 34 cy_fa_99_3_34 ((adt.add (i * 35)).add 34) rfl) hS ?_; clear F a; intro a F
        refine any_val F 5 rfl (by kernel_rfl) (wn rfl) rfl rfl (.int .u64 o.kid) (fun w' hS' => ex_load _ _ rfl _ (F.e rfl) _ (lv1 cy_one_67 ((zt.below (MD.below hS').bel).cell 34 _ (Turn.cs_34 _)))) hS ?_; clear F a; intro a F
        refine any_val F 6 rfl (by kernel_rfl) (wn rfl) rfl rfl (.slice (some adt) ts.length c) (fun w' hS' => ex_move _ rfl _ (F.e rfl)) hS ?_; clear F a; intro a F
        refine any_val F 7 rfl (by kernel_rfl) (wn rfl) rfl rfl (.int .i64 i) (fun w' hS' => ex_move _ rfl _ (F.e rfl)) hS ?_; clear F a; intro a F
        refine any_val F 8 rfl (by kernel_rfl) (wn rfl) rfl rfl (.pointer (some (adt.add (i * 35)))) (fun w' hS' => ex_ix _ _ _ rfl 35 cy_sl_92_35 adt _ _ (F.e rfl) .i64 _ (F.e rfl) i rfl (by omega) (adt.add (i * 35)) rfl) hS ?_; clear F a; intro a F
        refine any_val F 9 rfl (by kernel_rfl) (wn rfl) rfl rfl (.pointer (some ((adt.add (i * 35)).add 1))) (fun w' hS' => ex_fa _ _ _ rfl _ (F.e rfl) 1 cy_fa_99_1_1 ((adt.add (i * 35)).add 1) rfl) hS ?_; clear F a; intro a F
        refine any_val F 10 rfl (by kernel_rfl) (wn rfl) rfl rfl (.agg o.sec.cs.toArray) (fun w' hS' => ex_load _ _ rfl _ (F.e rfl) _ (lvr (cs := o.sec.cs) (by rw [Bs.cs_len]; exact cy_row_70_32) (turn_sec ((zt.below (MD.below hS').bel))))) hS ?_; clear F a; intro a F
        refine any_ready [11, 15] (by kernel_rfl) (by simp) ?_
        refine ready_do rfl (wn rfl) (fun K hK => ?_) ?_
        ·
         refine ow_call rfl rfl F 16 #[.agg #[.slice Ar ((live f0).length + 1) cr, .int .u64 next], .int .u64 o.kid, .agg o.sec.cs.toArray] (ex_call 16 _ _ rfl rfl cy_ent_16 _ (map3 (F.e rfl) (F.e rfl) (F.e rfl))) (dis_last hL hnm hkk _ _ _ _ O_r) (fun e v hR => ?_)
         obtain ⟨A_68, c_68, he, O_68, hb⟩ := hR
         refine ⟨.tuple #[.agg #[.slice A_68 ((live (f0 ++ [{ fl with gone := true }])).length + 1) c_68, .int .u64 (next + 1)], .int .i64 0], he, ?_⟩; clear he F a; intro a F
         refine hK _ _ (S_below hS hb) ?_
         replace hS := S_below hS hb
         clear hK K
         replace O_r := O_r.below hb
         replace M := M.below hb; clear hb; try clear wD
         refine any_val F 12 rfl (by kernel_rfl) (wn rfl) rfl rfl (.tuple #[.agg #[.slice A_68 ((live (f0 ++ [{ fl with gone := true }])).length + 1) c_68, .int .u64 (next + 1)], .int .i64 0]) (fun w' hS' => ex_move _ rfl _ (F.e rfl)) hS ?_; clear F a; intro a F
         refine any_val F 13 rfl (by kernel_rfl) (wn rfl) rfl rfl (.agg #[.slice A_68 ((live (f0 ++ [{ fl with gone := true }])).length + 1) c_68, .int .u64 (next + 1)]) (fun w' hS' => ex_extract _ _ rfl _ (F.e rfl) _ rfl) hS ?_; clear F a; intro a F
         refine any_val F 14 rfl (by kernel_rfl) (wn rfl) rfl rfl (.int .i64 0) (fun w' hS' => ex_extract _ _ rfl _ (F.e rfl) _ rfl) hS ?_; clear F a; intro a F
         refine any_ready [15] (by kernel_rfl) (by simp) ?_
         refine ready_do rfl (wn rfl) (fun K hK => ?_) AllReadyH.nil
         refine ow_alloc F M rfl rfl 69 rfl (.agg #[.slice none 0 0, .int .u64 0]) z69 #[.slice none 0 0, .int .u64 0] rfl ?_
         clear F M a; intro a g9 u F M hb hg
         have los_g9 := Nat.le_trans hS.size hg
         refine hK _ _ (S_below hS hb) ?_
         replace hS := S_below hS hb
         clear hK K
         have K_O_r := O_r
         have K_O_68 := O_68
         replace O_r := O_r.below hb
         replace O_68 := O_68.below hb
         have hz_g9 := hb; have lo_g9 := hg
         clear hb hg; try clear v
         refine any_ready [16] (by kernel_rfl) (by simp) ?_
         refine ready_do rfl (wn rfl) (fun K hK => ?_) AllReadyH.nil
         refine ow_put F M rfl 69 _ _ rfl 0 _ #[.slice none 0 0, .int .u64 0] _ rfl (F.e rfl) #[.slice A_68 ((live (f0 ++ [{ fl with gone := true }])).length + 1) c_68, .int .u64 (next + 1)] (F.e rfl) (sz_row (m := 2) cy_row_69_2) rfl (by simp [Value.oneCell']) ?_
         clear F a; have Mo := M; clear M; intro a v F M hgr
         refine hK _ _ (S_grown hS hgr los_g9) ?_
         replace hS := S_grown hS hgr los_g9
         clear hK K
         have hzz := S_grown hz_g9 hgr lo_g9
         replace O_r := K_O_r.below hzz
         replace O_68 := K_O_68.below hzz
         clear hzz hz_g9 lo_g9 K_O_r K_O_68
         clear Mo hgr; try clear u
         replace M : Mm w v [⟨g9, #[.slice A_68 ((live (f0 ++ [{ fl with gone := true }])).length + 1) c_68, .int .u64 (next + 1)], 69⟩, ⟨g4, #[.slice Ar ((live f0).length + 1) cr, .int .u64 next], 69⟩, ⟨gr, (((f0 ++ [fl]).flatMap Fate.cs ++ sp).toArray), 96⟩] := M
         refine any_val F 17 rfl (by kernel_rfl) (wn rfl) rfl rfl (.int .i64 0) (fun w' hS' => ex_assign _ rfl _ (F.e rfl)) hS ?_; clear F a; intro a F
         refine any_done (by kernel_rfl) ?_
         exact ⟨A_68, c_68, g9, F.keep ⟨rfl, rfl, rfl, rfl, rfl, rfl, rfl, rfl, rfl, rfl, rfl, rfl, trivial⟩, (by refine M.pick' [0, 1, 2] _ ?_ (by decide); exact ⟨rfl, rfl, rfl, trivial⟩), O_r, O_68⟩
        refine ready_do rfl (wn rfl) (fun K hK => ?_) AllReadyH.nil
        refine ow_alloc F M rfl rfl 69 rfl (.agg #[.slice none 0 0, .int .u64 0]) z69 #[.slice none 0 0, .int .u64 0] rfl ?_
        clear F M a; intro a g9 v F M hb hg
        have los_g9 := Nat.le_trans hS.size hg
        refine hK _ _ (S_below hS hb) ?_
        replace hS := S_below hS hb
        clear hK K
        have K_O_r := O_r
        replace O_r := O_r.below hb
        have hz_g9 := hb; have lo_g9 := hg
        clear hb hg; try clear wD
        refine any_ready [11] (by kernel_rfl) (by simp) ?_
        refine ready_do rfl (wn rfl) (fun K hK => ?_) AllReadyH.nil
        refine ow_call rfl rfl F 16 #[.agg #[.slice Ar ((live f0).length + 1) cr, .int .u64 next], .int .u64 o.kid, .agg o.sec.cs.toArray] (ex_call 16 _ _ rfl rfl cy_ent_16 _ (map3 (F.e rfl) (F.e rfl) (F.e rfl))) (dis_last hL hnm hkk _ _ _ _ O_r) (fun e u hR => ?_)
        obtain ⟨A_68, c_68, he, O_68, hb⟩ := hR
        refine ⟨.tuple #[.agg #[.slice A_68 ((live (f0 ++ [{ fl with gone := true }])).length + 1) c_68, .int .u64 (next + 1)], .int .i64 0], he, ?_⟩; clear he F a; intro a F
        refine hK _ _ (S_below hS hb) ?_
        replace hS := S_below hS hb
        clear hK K
        replace O_r := O_r.below hb
        replace hz_g9 := S_below hz_g9 hb
        replace M := M.below hb; clear hb; try clear v
        refine any_val F 12 rfl (by kernel_rfl) (wn rfl) rfl rfl (.tuple #[.agg #[.slice A_68 ((live (f0 ++ [{ fl with gone := true }])).length + 1) c_68, .int .u64 (next + 1)], .int .i64 0]) (fun w' hS' => ex_move _ rfl _ (F.e rfl)) hS ?_; clear F a; intro a F
        refine any_val F 13 rfl (by kernel_rfl) (wn rfl) rfl rfl (.agg #[.slice A_68 ((live (f0 ++ [{ fl with gone := true }])).length + 1) c_68, .int .u64 (next + 1)]) (fun w' hS' => ex_extract _ _ rfl _ (F.e rfl) _ rfl) hS ?_; clear F a; intro a F
        refine any_val F 14 rfl (by kernel_rfl) (wn rfl) rfl rfl (.int .i64 0) (fun w' hS' => ex_extract _ _ rfl _ (F.e rfl) _ rfl) hS ?_; clear F a; intro a F
        refine any_ready [16] (by kernel_rfl) (by simp) ?_
        refine ready_do rfl (wn rfl) (fun K hK => ?_) AllReadyH.nil
        refine ow_put F M rfl 69 _ _ rfl 0 _ #[.slice none 0 0, .int .u64 0] _ rfl (F.e rfl) #[.slice A_68 ((live (f0 ++ [{ fl with gone := true }])).length + 1) c_68, .int .u64 (next + 1)] (F.e rfl) (sz_row (m := 2) cy_row_69_2) rfl (by simp [Value.oneCell']) ?_
        clear F a; have Mo := M; clear M; intro a v F M hgr
        refine hK _ _ (S_grown hS hgr los_g9) ?_
        replace hS := S_grown hS hgr los_g9
        clear hK K
        have hzz := S_grown hz_g9 hgr lo_g9
        replace O_r := K_O_r.below hzz
        replace O_68 := O_68.grown (Mo.blk 0 _ rfl) (by show 107 ≠ 69; decide) hgr
        clear hzz hz_g9 lo_g9 K_O_r
        clear Mo hgr; try clear u
        replace M : Mm w v [⟨g9, #[.slice A_68 ((live (f0 ++ [{ fl with gone := true }])).length + 1) c_68, .int .u64 (next + 1)], 69⟩, ⟨g4, #[.slice Ar ((live f0).length + 1) cr, .int .u64 next], 69⟩, ⟨gr, (((f0 ++ [fl]).flatMap Fate.cs ++ sp).toArray), 96⟩] := M
        refine any_val F 17 rfl (by kernel_rfl) (wn rfl) rfl rfl (.int .i64 0) (fun w' hS' => ex_assign _ rfl _ (F.e rfl)) hS ?_; clear F a; intro a F
        refine any_done (by kernel_rfl) ?_
        exact ⟨A_68, c_68, g9, F.keep ⟨rfl, rfl, rfl, rfl, rfl, rfl, rfl, rfl, rfl, rfl, rfl, rfl, trivial⟩, (by refine M.pick' [0, 1, 2] _ ?_ (by decide); exact ⟨rfl, rfl, rfl, trivial⟩), O_r, O_68⟩
       clear F M a O_r
       intro a u hR; obtain ⟨A_68, c_68, g9, F, M, O_r, O_68⟩ := hR; try clear v
       refine then_n ?_
       refine wp_seq ?_
       refine wp_region_lit ?_
       refine list_val F (wn rfl) rfl rfl (.slice (some adt) ts.length c) (ex_move _ rfl _ (F.e rfl)) ?_; clear F a; intro a F
       refine list_val F (wn rfl) rfl rfl (.int .i64 i) (ex_move _ rfl _ (F.e rfl)) ?_; clear F a; intro a F
       refine list_val F (wn rfl) rfl rfl (.pointer (some (adt.add (i * 35)))) (ex_ix _ _ _ rfl 35 cy_sl_92_35 adt _ _ (F.e rfl) .i64 _ (F.e rfl) i rfl (by omega) (adt.add (i * 35)) rfl) ?_; clear F a; intro a F
       refine list_val F (wn rfl) rfl rfl (.pointer (some ((adt.add (i * 35)).add 34))) (ex_fa _ _ _ rfl _ (F.e rfl) 34 cy_fa_99_3_34 ((adt.add (i * 35)).add 34) rfl) ?_; clear F a; intro a F
       refine list_val F (wn rfl) rfl rfl (.int .u64 o.kid) (ex_load _ _ rfl _ (F.e rfl) _ (lv1 cy_one_67 ((zt.below M.bel).cell 34 _ (Turn.cs_34 _)))) ?_; clear F a; intro a F
       refine list_val F (wn rfl) rfl rfl (.int .u64 ((f0.length : Int) + 1)) (ex_bin .rem _ _ _ _ rfl .u64 _ _ (F.e rfl) rfl _ (b_rem (by decide) (by rw [hkj]; exact rem_small (by omega) (by omega)))) ?_; clear F a; intro a F
       refine list_val F (wn rfl) rfl rfl (.int .i64 ((f0.length : Int) + 1)) (ex_conv _ _ _ rfl _ .i64 cy_cv_67_3_i64 _ (F.e rfl) _ (w_i64 (by omega) (by omega))) ?_; clear F a; intro a F
       refine list_val F (wn rfl) rfl rfl (.int .i64 f0.length) (ex_bin .sub _ _ _ _ rfl .i64 _ _ (F.e rfl) rfl _ (b_sub ((w_i64 (by omega) (by omega)).trans (by omega)))) ?_; clear F a; intro a F
       refine list_val F (wn rfl) rfl rfl (.int .i64 f0.length) (ex_assign _ rfl _ (F.e rfl)) ?_; clear F a; intro a F
       refine wpList_nil ?_
       replace F : Fr 272 a [(2, .bool false), (3, .slice (some adt) ts.length c), (4, .pointer (some ⟨g4, 0, none⟩)), (5, .slice (some ⟨gr, 0, none⟩) (f0.length + 1) cap), (6, .int .i64 i), (7, .int .i64 ((live f0).length + 1)), (8, .int .i64 k), (9, .pointer (some ⟨g9, 0, none⟩)), (10, .int .i64 0), (11, .int .i64 f0.length), (33, .bool true), (39, .bool false), (55, .bool true)] := F.keep ⟨rfl, rfl, rfl, rfl, rfl, rfl, rfl, rfl, rfl, rfl, rfl, rfl, rfl, trivial⟩
       refine then_n ?_
       refine wp_seq ?_
       refine wp_region_lit ?_
       refine list_val F (wn rfl) rfl rfl (.slice (some adt) ts.length c) (ex_move _ rfl _ (F.e rfl)) ?_; clear F a; intro a F
       refine list_val F (wn rfl) rfl rfl (.int .i64 i) (ex_move _ rfl _ (F.e rfl)) ?_; clear F a; intro a F
       refine list_val F (wn rfl) rfl rfl (.pointer (some (adt.add (i * 35)))) (ex_ix _ _ _ rfl 35 cy_sl_92_35 adt _ _ (F.e rfl) .i64 _ (F.e rfl) i rfl (by omega) (adt.add (i * 35)) rfl) ?_; clear F a; intro a F
       refine list_val F (wn rfl) rfl rfl (.pointer (some ((adt.add (i * 35)).add 34))) (ex_fa _ _ _ rfl _ (F.e rfl) 34 cy_fa_99_3_34 ((adt.add (i * 35)).add 34) rfl) ?_; clear F a; intro a F
       refine list_val F (wn rfl) rfl rfl (.int .u64 o.kid) (ex_load _ _ rfl _ (F.e rfl) _ (lv1 cy_one_67 ((zt.below M.bel).cell 34 _ (Turn.cs_34 _)))) ?_; clear F a; intro a F
       refine list_val F (wn rfl) rfl rfl (.bool true) (ex_bin .lss _ _ _ _ rfl .u64 _ _ (F.e rfl) rfl _ (b_lss (decide_eq_true (by omega)))) ?_; clear F a; intro a F
       refine list_val F (wn rfl) rfl rfl (.bool true) (ex_move _ rfl _ (F.e rfl)) ?_; clear F a; intro a F
       refine list_val F (F.wants 85 true rfl (by kernel_rfl) rfl true rfl) rfl rfl (.int .i64 f0.length) (ex_move _ rfl _ (F.e rfl)) ?_; clear F a; intro a F
       refine list_val F (F.wants 85 true rfl (by kernel_rfl) rfl true rfl) rfl rfl (.bool true) (ex_bin .geq _ _ _ _ rfl .i64 _ _ (F.e rfl) rfl _ (b_geq (decide_eq_true (by omega)))) ?_; clear F a; intro a F
       refine list_val F (wn rfl) rfl rfl (.bool true) (ex_pick_t _ _ _ rfl (F.e rfl) _ (F.e rfl)) ?_; clear F a; intro a F
       refine list_val F (wn rfl) rfl rfl (.bool true) (ex_move _ rfl _ (F.e rfl)) ?_; clear F a; intro a F
       refine list_val F (F.wants 89 true rfl (by kernel_rfl) rfl true rfl) rfl rfl (.int .i64 f0.length) (ex_move _ rfl _ (F.e rfl)) ?_; clear F a; intro a F
       refine list_val F (F.wants 89 true rfl (by kernel_rfl) rfl true rfl) rfl rfl (.slice (some ⟨gr, 0, none⟩) (f0.length + 1) cap) (ex_move _ rfl _ (F.e rfl)) ?_; clear F a; intro a F
       refine list_val F (F.wants 89 true rfl (by kernel_rfl) rfl true rfl) rfl rfl (.int .i64 (((f0.length + 1) : Nat) : Int)) (ex_len _ _ rfl 35 cy_sl_97_35 _ _ _ (F.e rfl)) ?_; clear F a; intro a F
       refine list_val F (F.wants 89 true rfl (by kernel_rfl) rfl true rfl) rfl rfl (.bool true) (ex_bin .lss _ _ _ _ rfl .i64 _ _ (F.e rfl) (F.e rfl) _ (b_lss (decide_eq_true (by omega)))) ?_; clear F a; intro a F
       refine list_val F (wn rfl) rfl rfl (.bool true) (ex_pick_t _ _ _ rfl (F.e rfl) _ (F.e rfl)) ?_; clear F a; intro a F
       refine list_val F (wn rfl) rfl rfl (.bool true) (ex_move _ rfl _ (F.e rfl)) ?_; clear F a; intro a F
       refine list_val F (F.wants 95 true rfl (by kernel_rfl) rfl true rfl) rfl rfl (.slice (some ⟨gr, 0, none⟩) (f0.length + 1) cap) (ex_move _ rfl _ (F.e rfl)) ?_; clear F a; intro a F
       refine list_val F (F.wants 95 true rfl (by kernel_rfl) rfl true rfl) rfl rfl (.int .i64 f0.length) (ex_move _ rfl _ (F.e rfl)) ?_; clear F a; intro a F
       refine list_val F (F.wants 95 true rfl (by kernel_rfl) rfl true rfl) rfl rfl (.pointer (some ⟨gr, f0.length * 35, none⟩)) (ex_ix _ _ _ rfl 35 cy_sl_97_35 ⟨gr, 0, none⟩ _ _ (F.e rfl) .i64 _ (F.e rfl) f0.length rfl (by omega) ⟨gr, f0.length * 35, none⟩ ad0) ?_; clear F a; intro a F
       refine list_val F (F.wants 95 true rfl (by kernel_rfl) rfl true rfl) rfl rfl (.pointer (some ⟨gr, f0.length * 35 + 34, none⟩)) (ex_fa _ _ _ rfl _ (F.e rfl) 34 cy_fa_96_3_34 ⟨gr, f0.length * 35 + 34, none⟩ rfl) ?_; clear F a; intro a F
       refine list_val F (F.wants 95 true rfl (by kernel_rfl) rfl true rfl) rfl rfl (.bool false) (ex_load _ _ rfl _ (F.e rfl) _ (lv1 cy_one_4 (M.cell (i := 2) rfl (j := f0.length * 35 + 34) (rows_arr Fate.cs_len hfj (by rw [Fate.cs_34, hgn]))))) ?_; clear F a; intro a F
       refine list_val F (F.wants 95 true rfl (by kernel_rfl) rfl true rfl) rfl rfl (.bool true) (ex_not _ _ rfl _ (F.e rfl) _ rfl) ?_; clear F a; intro a F
       refine list_val F (wn rfl) rfl rfl (.bool true) (ex_pick_t _ _ _ rfl (F.e rfl) _ (F.e rfl)) ?_; clear F a; intro a F
       refine list_val F (wn rfl) rfl rfl (.bool true) (ex_assign _ rfl _ (F.e rfl)) ?_; clear F a; intro a F
       refine wpList_nil ?_
       replace F : Fr 272 a [(2, .bool false), (3, .slice (some adt) ts.length c), (4, .pointer (some ⟨g4, 0, none⟩)), (5, .slice (some ⟨gr, 0, none⟩) (f0.length + 1) cap), (6, .int .i64 i), (7, .int .i64 ((live f0).length + 1)), (8, .int .i64 k), (9, .pointer (some ⟨g9, 0, none⟩)), (10, .int .i64 0), (11, .int .i64 f0.length), (12, .bool true), (33, .bool true), (39, .bool false), (55, .bool true)] := F.keep ⟨rfl, rfl, rfl, rfl, rfl, rfl, rfl, rfl, rfl, rfl, rfl, rfl, rfl, rfl, trivial⟩
       refine then_n ?_
       refine wp_seq ?_
       refine wp_seq ?_
       refine wp_region_lit ?_
       refine list_val F (wn rfl) rfl rfl (.int .i64 0) (ex_move _ rfl _ (F.e rfl)) ?_; clear F a; intro a F
       refine list_do (wn rfl) (fun K hK => ?_)
       refine ow_call rfl rfl F 22 #[.int .i64 0] (ex_call 22 _ _ rfl rfl cy_ent_22 _ (map1 (F.e rfl))) (num_any _ _) (fun e v hR => ?_)
       obtain ⟨he, hw⟩ := hR
       refine ⟨.int .i64 0, he, ?_⟩; clear he F a; intro a F
       obtain rfl := hw
       refine hK _ _ ?_
       clear hK K
       refine list_val F (wn rfl) rfl rfl (.bool true) (ex_bin .eql _ _ _ _ rfl .i64 _ _ (F.e rfl) rfl _ (b_eql (by decide))) ?_; clear F a; intro a F
       refine list_val F (wn rfl) rfl rfl (.bool true) (ex_move _ rfl _ (F.e rfl)) ?_; clear F a; intro a F
       refine list_val F (wn rfl) rfl rfl (.bool false) (ex_neqb _ _ _ _ rfl cy_bool_4 true true (F.e rfl) (F.e rfl) false rfl) ?_; clear F a; intro a F
       refine list_val F (wn rfl) rfl rfl (.bool false) (ex_move _ rfl _ (F.e rfl)) ?_; clear F a; intro a F
       refine list_val F (F.wants 108 false rfl (by kernel_rfl) rfl true rfl) rfl rfl (.bool true) (ex_move _ rfl _ (F.e rfl)) ?_; clear F a; intro a F
       refine list_val F (F.wants 108 false rfl (by kernel_rfl) rfl true rfl) rfl rfl (.bool false) (ex_not _ _ rfl _ (F.e rfl) _ rfl) ?_; clear F a; intro a F
       refine list_val F (F.wants 108 false rfl (by kernel_rfl) rfl true rfl) rfl rfl (.bool false) (ex_move _ rfl _ (F.e rfl)) ?_; clear F a; intro a F
       refine list_skip F (F.wants 111 false rfl (by kernel_rfl) rfl false rfl) rfl rfl ?_; clear F a; intro a F
       refine list_skip F (F.wants 111 false rfl (by kernel_rfl) rfl false rfl) rfl rfl ?_; clear F a; intro a F
       refine list_skip F (F.wants 111 false rfl (by kernel_rfl) rfl false rfl) rfl rfl ?_; clear F a; intro a F
       refine list_skip F (F.wants 111 false rfl (by kernel_rfl) rfl false rfl) rfl rfl ?_; clear F a; intro a F
       refine list_skip F (F.wants0 115 rfl (by kernel_rfl) rfl) rfl rfl ?_; clear F a; intro a F
       refine list_skip F (F.wants0 115 rfl (by kernel_rfl) rfl) rfl rfl ?_; clear F a; intro a F
       refine list_skip F (F.wants0 115 rfl (by kernel_rfl) rfl) rfl rfl ?_; clear F a; intro a F
       refine list_skip F (F.wants0 115 rfl (by kernel_rfl) rfl) rfl rfl ?_; clear F a; intro a F
       refine list_skip F (F.wants 111 false rfl (by kernel_rfl) rfl false rfl) rfl rfl ?_; clear F a; intro a F
       refine list_val F (F.wants 108 false rfl (by kernel_rfl) rfl true rfl) rfl rfl (.bool false) (ex_pick_f _ _ _ rfl (F.e rfl) _ rfl) ?_; clear F a; intro a F
       refine list_val F (wn rfl) rfl rfl (.bool false) (ex_pick_f _ _ _ rfl (F.e rfl) _ (F.e rfl)) ?_; clear F a; intro a F
       refine wpList_nil ?_
       replace F : Fr 272 a [(2, .bool false), (3, .slice (some adt) ts.length c), (4, .pointer (some ⟨g4, 0, none⟩)), (5, .slice (some ⟨gr, 0, none⟩) (f0.length + 1) cap), (6, .int .i64 i), (7, .int .i64 ((live f0).length + 1)), (8, .int .i64 k), (9, .pointer (some ⟨g9, 0, none⟩)), (10, .int .i64 0), (11, .int .i64 f0.length), (12, .bool true), (33, .bool true), (39, .bool false), (55, .bool true), (122, .bool false)] := F.keep ⟨rfl, rfl, rfl, rfl, rfl, rfl, rfl, rfl, rfl, rfl, rfl, rfl, rfl, rfl, rfl, trivial⟩
       refine then_n ?_
       refine wp_cond_false (F.e rfl) ?_
       refine wp_skip ?_
       refine then_n ?_
       refine wp_seq ?_
       refine wp_region_lit ?_
       refine list_val F (wn rfl) rfl rfl (.bool true) (ex_move _ rfl _ (F.e rfl)) ?_; clear F a; intro a F
       refine wpList_nil ?_
       replace F : Fr 272 a [(2, .bool false), (3, .slice (some adt) ts.length c), (4, .pointer (some ⟨g4, 0, none⟩)), (5, .slice (some ⟨gr, 0, none⟩) (f0.length + 1) cap), (6, .int .i64 i), (7, .int .i64 ((live f0).length + 1)), (8, .int .i64 k), (9, .pointer (some ⟨g9, 0, none⟩)), (10, .int .i64 0), (11, .int .i64 f0.length), (12, .bool true), (33, .bool true), (39, .bool false), (55, .bool true), (122, .bool false), (123, .bool true)] := F.keep ⟨rfl, rfl, rfl, rfl, rfl, rfl, rfl, rfl, rfl, rfl, rfl, rfl, rfl, rfl, rfl, rfl, trivial⟩
       refine then_n ?_
       refine wp_cond_true (F.e rfl) ?_
       refine wp_seq ?_
       refine wp_region_lit ?_
       refine list_val F (wn rfl) rfl rfl (.slice (some ⟨gr, 0, none⟩) (f0.length + 1) cap) (ex_move _ rfl _ (F.e rfl)) ?_; clear F a; intro a F
       refine list_val F (wn rfl) rfl rfl (.int .i64 f0.length) (ex_move _ rfl _ (F.e rfl)) ?_; clear F a; intro a F
       refine list_val F (wn rfl) rfl rfl (.pointer (some ⟨gr, f0.length * 35, none⟩)) (ex_ix _ _ _ rfl 35 cy_sl_97_35 ⟨gr, 0, none⟩ _ _ (F.e rfl) .i64 _ (F.e rfl) f0.length rfl (by omega) ⟨gr, f0.length * 35, none⟩ ad0) ?_; clear F a; intro a F
       refine list_val F (wn rfl) rfl rfl (.pointer (some ⟨gr, f0.length * 35 + 34, none⟩)) (ex_fa _ _ _ rfl _ (F.e rfl) 34 cy_fa_96_3_34 ⟨gr, f0.length * 35 + 34, none⟩ rfl) ?_; clear F a; intro a F
       refine list_do (wn rfl) (fun K hK => ?_)
       refine ow_store F M rfl 4 _ _ rfl 2 gr _ _ rfl (f0.length * 35 + 34) (F.e rfl) _ rfl [.bool true] rfl cy_info_4_map_size_some_1 (by rw [List.size_toArray, List.length_append, rows_len Fate.cs_len]; simp; omega) (by simp [Value.oneCell']) ((((f0 ++ [{ fl with gone := true }])).flatMap Fate.cs ++ sp).toArray) (congrArg List.toArray (by rw [show f0 ++ [({ fl with gone := true } : Fate)] = (f0 ++ [fl]).set f0.length { fl with gone := true } by simp]; exact rows_set (vs := [.bool true]) Fate.cs_len hfj (by simp) (Fate.set_34 _ _))) ?_
       clear F a; have Mo := M; clear M; intro a v F M hgr
       refine hK _ _ ?_
       clear hK K
       replace O_r := O_r.grown (Mo.blk 2 _ rfl) (by show 107 ≠ 96; decide) hgr
       replace O_68 := O_68.grown (Mo.blk 2 _ rfl) (by show 107 ≠ 96; decide) hgr
       clear Mo hgr; try clear u
       replace M : Mm w v [⟨g9, #[.slice A_68 ((live (f0 ++ [{ fl with gone := true }])).length + 1) c_68, .int .u64 (next + 1)], 69⟩, ⟨g4, #[.slice Ar ((live f0).length + 1) cr, .int .u64 next], 69⟩, ⟨gr, ((((f0 ++ [{ fl with gone := true }])).flatMap Fate.cs ++ sp).toArray), 96⟩] := M
       refine wpList_nil ?_
       replace F : Fr 272 a [(2, .bool false), (3, .slice (some adt) ts.length c), (4, .pointer (some ⟨g4, 0, none⟩)), (5, .slice (some ⟨gr, 0, none⟩) (f0.length + 1) cap), (6, .int .i64 i), (7, .int .i64 ((live f0).length + 1)), (8, .int .i64 k), (9, .pointer (some ⟨g9, 0, none⟩)), (10, .int .i64 0), (11, .int .i64 f0.length), (12, .bool true), (33, .bool true), (39, .bool false), (55, .bool true), (122, .bool false), (123, .bool true)] := F.keep ⟨rfl, rfl, rfl, rfl, rfl, rfl, rfl, rfl, rfl, rfl, rfl, rfl, rfl, rfl, rfl, rfl, trivial⟩
       refine then_n ?_
       refine wp_seq ?_
       refine wp_seq ?_
       refine wp_region_lit ?_
       refine list_val F (wn rfl) rfl rfl (.int .i64 f0.length) (ex_move _ rfl _ (F.e rfl)) ?_; clear F a; intro a F
       refine list_val F (wn rfl) rfl rfl (.slice (some ⟨gr, 0, none⟩) (f0.length + 1) cap) (ex_move _ rfl _ (F.e rfl)) ?_; clear F a; intro a F
       refine list_val F (wn rfl) rfl rfl (.int .i64 (((f0.length + 1) : Nat) : Int)) (ex_len _ _ rfl 35 cy_sl_97_35 _ _ _ (F.e rfl)) ?_; clear F a; intro a F
       refine list_val F (wn rfl) rfl rfl (.int .i64 f0.length) (ex_bin .sub _ _ _ _ rfl .i64 _ _ (F.e rfl) rfl _ (b_sub ((w_i64 (by omega) (by omega)).trans (by omega)))) ?_; clear F a; intro a F
       refine list_val F (wn rfl) rfl rfl (.bool true) (ex_bin .eql _ _ _ _ rfl .i64 _ _ (F.e rfl) (F.e rfl) _ (b_eql (by simp))) ?_; clear F a; intro a F
       refine wpList_nil ?_
       replace F : Fr 272 a [(2, .bool false), (3, .slice (some adt) ts.length c), (4, .pointer (some ⟨g4, 0, none⟩)), (5, .slice (some ⟨gr, 0, none⟩) (f0.length + 1) cap), (6, .int .i64 i), (7, .int .i64 ((live f0).length + 1)), (8, .int .i64 k), (9, .pointer (some ⟨g9, 0, none⟩)), (10, .int .i64 0), (11, .int .i64 f0.length), (12, .bool true), (33, .bool true), (39, .bool false), (55, .bool true), (122, .bool false), (123, .bool true), (132, .bool true)] := F.keep ⟨rfl, rfl, rfl, rfl, rfl, rfl, rfl, rfl, rfl, rfl, rfl, rfl, rfl, rfl, rfl, rfl, rfl, trivial⟩
       refine then_n ?_
       refine wp_cond_true (F.e rfl) ?_
       refine wp_region_lit ?_
       refine list_val F (wn rfl) rfl rfl (.slice (some ⟨gr, 0, none⟩) (f0.length + 1) cap) (ex_move _ rfl _ (F.e rfl)) ?_; clear F a; intro a F
       refine list_val F (wn rfl) rfl rfl (.slice (some ⟨gr, 0, none⟩) (f0.length + 1) cap) (ex_move _ rfl _ (F.e rfl)) ?_; clear F a; intro a F
       refine list_val F (wn rfl) rfl rfl (.int .i64 (((f0.length + 1) : Nat) : Int)) (ex_len _ _ rfl 35 cy_sl_97_35 _ _ _ (F.e rfl)) ?_; clear F a; intro a F
       refine list_val F (wn rfl) rfl rfl (.int .i64 next) (ex_bin .add _ _ _ _ rfl .i64 _ _ (F.e rfl) rfl _ (b_add ((w_i64 (by omega) (by omega)).trans (by rw [hnx]; omega)))) ?_; clear F a; intro a F
       refine list_val F (wn rfl) rfl rfl (.int .u64 next) (ex_conv _ _ _ rfl _ .u64 cy_cv_3_67_u64 _ (F.e rfl) _ (w_u64 (by omega) (by omega))) ?_; clear F a; intro a F
       refine list_val F (wn rfl) rfl rfl (.slice (some adt) ts.length c) (ex_move _ rfl _ (F.e rfl)) ?_; clear F a; intro a F
       refine list_val F (wn rfl) rfl rfl (.int .i64 i) (ex_move _ rfl _ (F.e rfl)) ?_; clear F a; intro a F
       refine list_val F (wn rfl) rfl rfl (.pointer (some (adt.add (i * 35)))) (ex_ix _ _ _ rfl 35 cy_sl_92_35 adt _ _ (F.e rfl) .i64 _ (F.e rfl) i rfl (by omega) (adt.add (i * 35)) rfl) ?_; clear F a; intro a F
       refine list_val F (wn rfl) rfl rfl (.pointer (some ((adt.add (i * 35)).add 1))) (ex_fa _ _ _ rfl _ (F.e rfl) 1 cy_fa_99_1_1 ((adt.add (i * 35)).add 1) rfl) ?_; clear F a; intro a F
       refine list_val F (wn rfl) rfl rfl (.agg o.sec.cs.toArray) (ex_load _ _ rfl _ (F.e rfl) _ (lvr (cs := o.sec.cs) (by rw [Bs.cs_len]; exact cy_row_70_32) (turn_sec ((zt.below M.bel))))) ?_; clear F a; intro a F
       refine list_val F (wn rfl) rfl rfl (.agg ((⟨next, o.sec, 0, false⟩ : Fate).arr)) (ex_build 96 _ rfl #[(0, .int .u64 next), (1, .agg o.sec.cs.toArray)] (parts2 (F.e rfl) (F.e rfl)) (.agg ((⟨next, o.sec, 0, false⟩ : Fate).arr)) (build96_01 next o.sec _)) ?_; clear F a; intro a F
       refine list_do (wn rfl) (fun K hK => ?_)
       refine ow_bslice F M rfl rfl 97 1 _ rfl #[(0, .agg ((⟨next, o.sec, 0, false⟩ : Fate).arr))] (parts1 (F.e rfl)) ((⟨next, o.sec, 0, false⟩ : Fate).arr) 96 (newrow96 _ _) ?_
       clear F M a; intro a g144 u F M hb hg
       refine hK _ _ ?_
       clear hK K
       replace O_r := O_r.below hb
       replace O_68 := O_68.below hb
       clear hb hg; try clear v
       refine list_do (wn rfl) (fun K hK => ?_)
       refine ow_append F M rfl rfl _ _ 97 96 35 56 rfl cy_ap_97_96_35_56 3 gr (((f0 ++ [{ fl with gone := true }])).flatMap Fate.cs) sp rfl (f0.length + 1) cap (F.e rfl) (by rw [rows_len Fate.cs_len]; simp) (by rw [List.length_append, rows_len Fate.cs_len] at hcap ⊢; simpa using hcap) hqc hcm ⟨g144, 0, none⟩ 1 1 ((⟨next, o.sec, 0, false⟩ : Fate).cs) (F.e rfl) (Fate.cs_len _) (M.at (i := 0) rfl) (Fate.cs_one _) (by simp only [maxLen]; omega) (by omega) ?_
       clear F a; have Mo := M; clear M; intro a ga_145 ca_145 sp_145 v F M hcap' hqc' hcm' hgr
       refine hK _ _ ?_
       clear hK K
       replace O_r := O_r.grown (Mo.blk 3 _ rfl) (by show 107 ≠ 96; decide) hgr
       replace O_68 := O_68.grown (Mo.blk 3 _ rfl) (by show 107 ≠ 96; decide) hgr
       clear Mo hgr hcap hqc hcm; try clear u
       rw [fates_push] at M hcap'
       refine list_val F (wn rfl) rfl rfl (.slice (some ⟨ga_145, 0, none⟩) (f0.length + 1 + 1) ca_145) (ex_assign _ rfl _ (F.e rfl)) ?_; clear F a; intro a F
       refine wpList_nil ?_
       replace F : Fr 272 a [(2, .bool false), (3, .slice (some adt) ts.length c), (4, .pointer (some ⟨g4, 0, none⟩)), (5, .slice (some ⟨ga_145, 0, none⟩) (f0.length + 1 + 1) ca_145), (6, .int .i64 i), (7, .int .i64 ((live f0).length + 1)), (8, .int .i64 k), (9, .pointer (some ⟨g9, 0, none⟩)), (10, .int .i64 0), (11, .int .i64 f0.length), (12, .bool true), (33, .bool true), (39, .bool false), (55, .bool true), (122, .bool false), (123, .bool true), (132, .bool true)] := F.keep ⟨rfl, rfl, rfl, rfl, rfl, rfl, rfl, rfl, rfl, rfl, rfl, rfl, rfl, rfl, rfl, rfl, rfl, trivial⟩
       refine then_n ?_
       clear O_r
       have O_r := O_68
       clear O_68
       refine wp_region_lit ?_
       refine list_val F (wn rfl) rfl rfl (.agg #[.slice A_68 ((live (f0 ++ [{ fl with gone := true }])).length + 1) c_68, .int .u64 (next + 1)]) (ex_load _ _ rfl _ (F.e rfl) _ (lvr (cs := [.slice A_68 ((live (f0 ++ [{ fl with gone := true }])).length + 1) c_68, .int .u64 (next + 1)]) cy_row_69_2 (M.at (i := 1) rfl))) ?_; clear F a; intro a F
       refine list_do (wn rfl) (fun K hK => ?_)
       refine ow_put F M rfl 69 _ _ rfl 2 _ #[.slice Ar ((live f0).length + 1) cr, .int .u64 next] _ rfl (F.e rfl) #[.slice A_68 ((live (f0 ++ [{ fl with gone := true }])).length + 1) c_68, .int .u64 (next + 1)] (F.e rfl) (sz_row (m := 2) cy_row_69_2) rfl (by simp [Value.oneCell']) ?_
       clear F a; have Mo := M; clear M; intro a u F M hgr
       refine hK _ _ ?_
       clear hK K
       replace O_r := O_r.grown (Mo.blk 2 _ rfl) (by show 107 ≠ 69; decide) hgr
       clear Mo hgr; try clear v
       replace M : Mm w u [⟨g144, ((⟨next, o.sec, 0, false⟩ : Fate).arr), 96⟩, ⟨g9, #[.slice A_68 ((live (f0 ++ [{ fl with gone := true }])).length + 1) c_68, .int .u64 (next + 1)], 69⟩, ⟨g4, #[.slice A_68 ((live (f0 ++ [{ fl with gone := true }])).length + 1) c_68, .int .u64 (next + 1)], 69⟩, ⟨ga_145, (((((f0 ++ [{ fl with gone := true }])) ++ [(⟨next, o.sec, 0, false⟩ : Fate)]).flatMap Fate.cs ++ sp_145).toArray), 96⟩] := M
       refine wpList_nil ?_
       replace F : Fr 272 a [(2, .bool false), (3, .slice (some adt) ts.length c), (4, .pointer (some ⟨g4, 0, none⟩)), (5, .slice (some ⟨ga_145, 0, none⟩) (f0.length + 1 + 1) ca_145), (6, .int .i64 i), (7, .int .i64 ((live f0).length + 1)), (8, .int .i64 k), (9, .pointer (some ⟨g9, 0, none⟩)), (10, .int .i64 0), (11, .int .i64 f0.length), (12, .bool true), (33, .bool true), (39, .bool false), (55, .bool true), (122, .bool false), (123, .bool true), (132, .bool true)] := F.keep ⟨rfl, rfl, rfl, rfl, rfl, rfl, rfl, rfl, rfl, rfl, rfl, rfl, rfl, rfl, rfl, rfl, rfl, trivial⟩
       refine only_n ?_
       rw [show f0.length + 1 = (f0 ++ [({ fl with gone := true } : Fate)]).length by simp] at F
       exact ⟨(f0 ++ [{ fl with gone := true }]), (⟨next, o.sec, 0, false⟩ : Fate), (next + 1), A_68, c_68, ga_145, ca_145, sp_145, F.keep ⟨rfl, rfl, rfl, rfl, rfl, rfl, rfl, trivial⟩, (by refine M.pick' [2, 3] _ ?_ (by decide); exact ⟨rfl, rfl, trivial⟩), O_r, (hL.distrust_last o.sec hnm).2, hcap', (by simpa using hqc'), hcm', (by simp; omega)⟩
      have hjl' : j < f0.length := by omega
      have hfj0 : f0[j]? = some f := by rw [List.getElem?_append_left hjl'] at hfj; exact hfj
      refine wp_only (fun ar wr => ∃ (A_68 : Option Addr), ∃ (c_68 : Nat), ∃ (g9 : Nat), Fr 272 ar [(2, .bool false), (3, .slice (some adt) ts.length c), (4, .pointer (some ⟨g4, 0, none⟩)), (5, .slice (some ⟨gr, 0, none⟩) (f0.length + 1) cap), (6, .int .i64 i), (7, .int .i64 ((live f0).length + 1)), (8, .int .i64 k), (9, .pointer (some ⟨g9, 0, none⟩)), (10, .int .i64 0), (33, .bool true), (39, .bool false), (55, .bool true)] ∧ Mm w wr [⟨g9, #[.slice A_68 ((live (f0.set j { f with gone := true })).length + 1) c_68, .int .u64 next], 69⟩, ⟨g4, #[.slice Ar ((live f0).length + 1) cr, .int .u64 next], 69⟩, ⟨gr, (((f0 ++ [fl]).flatMap Fate.cs ++ sp).toArray), 96⟩] ∧ RO wr Ar cr ⟨live f0 ++ [fl.key], next⟩ ∧ RO wr A_68 c_68 ⟨live (f0.set j { f with gone := true }) ++ [fl.key], next⟩) ?_ ?_
      ·
       refine region_any cy_follows_mixedOrders M ?_; clear M; intro wD M hb
       replace O_r := O_r.below hb
       clear hb; try clear v
       have hS : Below wD.heap.size wD wD := Below.refl _ _; have MD := M
       have D_O_r := O_r
       refine any_val F 0 rfl (by kernel_rfl) (wn rfl) rfl rfl (.agg #[.slice Ar ((live f0).length + 1) cr, .int .u64 next]) (fun w' hS' => ex_load _ _ rfl _ (F.e rfl) _ (lvr (cs := [.slice Ar ((live f0).length + 1) cr, .int .u64 next]) cy_row_69_2 ((MD.below hS').at (i := 0) rfl))) hS ?_; clear F a; intro a F
       refine any_val F 1 rfl (by kernel_rfl) (wn rfl) rfl rfl (.slice (some adt) ts.length c) (fun w' hS' => ex_move _ rfl _ (F.e rfl)) hS ?_; clear F a; intro a F
       refine any_val F 2 rfl (by kernel_rfl) (wn rfl) rfl rfl (.int .i64 i) (fun w' hS' => ex_move _ rfl _ (F.e rfl)) hS ?_; clear F a; intro a F
       refine any_val F 3 rfl (by kernel_rfl) (wn rfl) rfl rfl (.pointer (some (adt.add (i * 35)))) (fun w' hS' => ex_ix _ _ _ rfl 35 cy_sl_92_35 adt _ _ (F.e rfl) .i64 _ (F.e rfl) i rfl (by omega) (adt.add (i * 35)) rfl) hS ?_; clear F a; intro a F
       refine any_val F 4 rfl (by kernel_rfl) (wn rfl) rfl rfl (.pointer (some ((adt.add (i * 35)).add 34))) (fun w' hS' => ex_fa _ _ _ rfl _ (F.e rfl) 34 cy_fa_99_3_34 ((adt.add (i * 35)).add 34) rfl) hS ?_; clear F a; intro a F
       refine any_val F 5 rfl (by kernel_rfl) (wn rfl) rfl rfl (.int .u64 o.kid) (fun w' hS' => ex_load _ _ rfl _ (F.e rfl) _ (lv1 cy_one_67 ((zt.below (MD.below hS').bel).cell 34 _ (Turn.cs_34 _)))) hS ?_; clear F a; intro a F
       refine any_val F 6 rfl (by kernel_rfl) (wn rfl) rfl rfl (.slice (some adt) ts.length c) (fun w' hS' => ex_move _ rfl _ (F.e rfl)) hS ?_; clear F a; intro a F
       refine any_val F 7 rfl (by kernel_rfl) (wn rfl) rfl rfl (.int .i64 i) (fun w' hS' => ex_move _ rfl _ (F.e rfl)) hS ?_; clear F a; intro a F
       refine any_val F 8 rfl (by kernel_rfl) (wn rfl) rfl rfl (.pointer (some (adt.add (i * 35)))) (fun w' hS' => ex_ix _ _ _ rfl 35 cy_sl_92_35 adt _ _ (F.e rfl) .i64 _ (F.e rfl) i rfl (by omega) (adt.add (i * 35)) rfl) hS ?_; clear F a; intro a F
       refine any_val F 9 rfl (by kernel_rfl) (wn rfl) rfl rfl (.pointer (some ((adt.add (i * 35)).add 1))) (fun w' hS' => ex_fa _ _ _ rfl _ (F.e rfl) 1 cy_fa_99_1_1 ((adt.add (i * 35)).add 1) rfl) hS ?_; clear F a; intro a F
       refine any_val F 10 rfl (by kernel_rfl) (wn rfl) rfl rfl (.agg o.sec.cs.toArray) (fun w' hS' => ex_load _ _ rfl _ (F.e rfl) _ (lvr (cs := o.sec.cs) (by rw [Bs.cs_len]; exact cy_row_70_32) (turn_sec ((zt.below (MD.below hS').bel))))) hS ?_; clear F a; intro a F
       refine any_ready [11, 15] (by kernel_rfl) (by simp) ?_
       refine ready_do rfl (wn rfl) (fun K hK => ?_) ?_
       ·
        refine ow_call rfl rfl F 16 #[.agg #[.slice Ar ((live f0).length + 1) cr, .int .u64 next], .int .u64 o.kid, .agg o.sec.cs.toArray] (ex_call 16 _ _ rfl rfl cy_ent_16 _ (map3 (F.e rfl) (F.e rfl) (F.e rfl))) (dis_some hL hfj0 hgn hkk _ _ _ _ O_r) (fun e v hR => ?_)
        obtain ⟨A_68, c_68, he, O_68, hb⟩ := hR
        refine ⟨.tuple #[.agg #[.slice A_68 ((live (f0.set j { f with gone := true })).length + 1) c_68, .int .u64 next], .int .i64 0], he, ?_⟩; clear he F a; intro a F
        refine hK _ _ (S_below hS hb) ?_
        replace hS := S_below hS hb
        clear hK K
        replace O_r := O_r.below hb
        replace M := M.below hb; clear hb; try clear wD
        refine any_val F 12 rfl (by kernel_rfl) (wn rfl) rfl rfl (.tuple #[.agg #[.slice A_68 ((live (f0.set j { f with gone := true })).length + 1) c_68, .int .u64 next], .int .i64 0]) (fun w' hS' => ex_move _ rfl _ (F.e rfl)) hS ?_; clear F a; intro a F
        refine any_val F 13 rfl (by kernel_rfl) (wn rfl) rfl rfl (.agg #[.slice A_68 ((live (f0.set j { f with gone := true })).length + 1) c_68, .int .u64 next]) (fun w' hS' => ex_extract _ _ rfl _ (F.e rfl) _ rfl) hS ?_; clear F a; intro a F
        refine any_val F 14 rfl (by kernel_rfl) (wn rfl) rfl rfl (.int .i64 0) (fun w' hS' => ex_extract _ _ rfl _ (F.e rfl) _ rfl) hS ?_; clear F a; intro a F
        refine any_ready [15] (by kernel_rfl) (by simp) ?_
        refine ready_do rfl (wn rfl) (fun K hK => ?_) AllReadyH.nil
        refine ow_alloc F M rfl rfl 69 rfl (.agg #[.slice none 0 0, .int .u64 0]) z69 #[.slice none 0 0, .int .u64 0] rfl ?_
        clear F M a; intro a g9 u F M hb hg
        have los_g9 := Nat.le_trans hS.size hg
        refine hK _ _ (S_below hS hb) ?_
        replace hS := S_below hS hb
        clear hK K
        have K_O_r := O_r
        have K_O_68 := O_68
        replace O_r := O_r.below hb
        replace O_68 := O_68.below hb
        have hz_g9 := hb; have lo_g9 := hg
        clear hb hg; try clear v
        refine any_ready [16] (by kernel_rfl) (by simp) ?_
        refine ready_do rfl (wn rfl) (fun K hK => ?_) AllReadyH.nil
        refine ow_put F M rfl 69 _ _ rfl 0 _ #[.slice none 0 0, .int .u64 0] _ rfl (F.e rfl) #[.slice A_68 ((live (f0.set j { f with gone := true })).length + 1) c_68, .int .u64 next] (F.e rfl) (sz_row (m := 2) cy_row_69_2) rfl (by simp [Value.oneCell']) ?_
        clear F a; have Mo := M; clear M; intro a v F M hgr
        refine hK _ _ (S_grown hS hgr los_g9) ?_
        replace hS := S_grown hS hgr los_g9
        clear hK K
        have hzz := S_grown hz_g9 hgr lo_g9
        replace O_r := K_O_r.below hzz
        replace O_68 := K_O_68.below hzz
        clear hzz hz_g9 lo_g9 K_O_r K_O_68
        clear Mo hgr; try clear u
        replace M : Mm w v [⟨g9, #[.slice A_68 ((live (f0.set j { f with gone := true })).length + 1) c_68, .int .u64 next], 69⟩, ⟨g4, #[.slice Ar ((live f0).length + 1) cr, .int .u64 next], 69⟩, ⟨gr, (((f0 ++ [fl]).flatMap Fate.cs ++ sp).toArray), 96⟩] := M
        refine any_val F 17 rfl (by kernel_rfl) (wn rfl) rfl rfl (.int .i64 0) (fun w' hS' => ex_assign _ rfl _ (F.e rfl)) hS ?_; clear F a; intro a F
        refine any_done (by kernel_rfl) ?_
        exact ⟨A_68, c_68, g9, F.keep ⟨rfl, rfl, rfl, rfl, rfl, rfl, rfl, rfl, rfl, rfl, rfl, rfl, trivial⟩, (by refine M.pick' [0, 1, 2] _ ?_ (by decide); exact ⟨rfl, rfl, rfl, trivial⟩), O_r, O_68⟩
       refine ready_do rfl (wn rfl) (fun K hK => ?_) AllReadyH.nil
       refine ow_alloc F M rfl rfl 69 rfl (.agg #[.slice none 0 0, .int .u64 0]) z69 #[.slice none 0 0, .int .u64 0] rfl ?_
       clear F M a; intro a g9 v F M hb hg
       have los_g9 := Nat.le_trans hS.size hg
       refine hK _ _ (S_below hS hb) ?_
       replace hS := S_below hS hb
       clear hK K
       have K_O_r := O_r
       replace O_r := O_r.below hb
       have hz_g9 := hb; have lo_g9 := hg
       clear hb hg; try clear wD
       refine any_ready [11] (by kernel_rfl) (by simp) ?_
       refine ready_do rfl (wn rfl) (fun K hK => ?_) AllReadyH.nil
       refine ow_call rfl rfl F 16 #[.agg #[.slice Ar ((live f0).length + 1) cr, .int .u64 next], .int .u64 o.kid, .agg o.sec.cs.toArray] (ex_call 16 _ _ rfl rfl cy_ent_16 _ (map3 (F.e rfl) (F.e rfl) (F.e rfl))) (dis_some hL hfj0 hgn hkk _ _ _ _ O_r) (fun e u hR => ?_)
       obtain ⟨A_68, c_68, he, O_68, hb⟩ := hR
       refine ⟨.tuple #[.agg #[.slice A_68 ((live (f0.set j { f with gone := true })).length + 1) c_68, .int .u64 next], .int .i64 0], he, ?_⟩; clear he F a; intro a F
       refine hK _ _ (S_below hS hb) ?_
       replace hS := S_below hS hb
       clear hK K
       replace O_r := O_r.below hb
       replace hz_g9 := S_below hz_g9 hb
       replace M := M.below hb; clear hb; try clear v
       refine any_val F 12 rfl (by kernel_rfl) (wn rfl) rfl rfl (.tuple #[.agg #[.slice A_68 ((live (f0.set j { f with gone := true })).length + 1) c_68, .int .u64 next], .int .i64 0]) (fun w' hS' => ex_move _ rfl _ (F.e rfl)) hS ?_; clear F a; intro a F
       refine any_val F 13 rfl (by kernel_rfl) (wn rfl) rfl rfl (.agg #[.slice A_68 ((live (f0.set j { f with gone := true })).length + 1) c_68, .int .u64 next]) (fun w' hS' => ex_extract _ _ rfl _ (F.e rfl) _ rfl) hS ?_; clear F a; intro a F
       refine any_val F 14 rfl (by kernel_rfl) (wn rfl) rfl rfl (.int .i64 0) (fun w' hS' => ex_extract _ _ rfl _ (F.e rfl) _ rfl) hS ?_; clear F a; intro a F
       refine any_ready [16] (by kernel_rfl) (by simp) ?_
       refine ready_do rfl (wn rfl) (fun K hK => ?_) AllReadyH.nil
       refine ow_put F M rfl 69 _ _ rfl 0 _ #[.slice none 0 0, .int .u64 0] _ rfl (F.e rfl) #[.slice A_68 ((live (f0.set j { f with gone := true })).length + 1) c_68, .int .u64 next] (F.e rfl) (sz_row (m := 2) cy_row_69_2) rfl (by simp [Value.oneCell']) ?_
       clear F a; have Mo := M; clear M; intro a v F M hgr
       refine hK _ _ (S_grown hS hgr los_g9) ?_
       replace hS := S_grown hS hgr los_g9
       clear hK K
       have hzz := S_grown hz_g9 hgr lo_g9
       replace O_r := K_O_r.below hzz
       replace O_68 := O_68.grown (Mo.blk 0 _ rfl) (by show 107 ≠ 69; decide) hgr
       clear hzz hz_g9 lo_g9 K_O_r
       clear Mo hgr; try clear u
       replace M : Mm w v [⟨g9, #[.slice A_68 ((live (f0.set j { f with gone := true })).length + 1) c_68, .int .u64 next], 69⟩, ⟨g4, #[.slice Ar ((live f0).length + 1) cr, .int .u64 next], 69⟩, ⟨gr, (((f0 ++ [fl]).flatMap Fate.cs ++ sp).toArray), 96⟩] := M
       refine any_val F 17 rfl (by kernel_rfl) (wn rfl) rfl rfl (.int .i64 0) (fun w' hS' => ex_assign _ rfl _ (F.e rfl)) hS ?_; clear F a; intro a F
       refine any_done (by kernel_rfl) ?_
       exact ⟨A_68, c_68, g9, F.keep ⟨rfl, rfl, rfl, rfl, rfl, rfl, rfl, rfl, rfl, rfl, rfl, rfl, trivial⟩, (by refine M.pick' [0, 1, 2] _ ?_ (by decide); exact ⟨rfl, rfl, rfl, trivial⟩), O_r, O_68⟩
      clear F M a O_r
      intro a u hR; obtain ⟨A_68, c_68, g9, F, M, O_r, O_68⟩ := hR; try clear v
      refine then_n ?_
      refine wp_seq ?_
      refine wp_region_lit ?_
      refine list_val F (wn rfl) rfl rfl (.slice (some adt) ts.length c) (ex_move _ rfl _ (F.e rfl)) ?_; clear F a; intro a F
      refine list_val F (wn rfl) rfl rfl (.int .i64 i) (ex_move _ rfl _ (F.e rfl)) ?_; clear F a; intro a F
      refine list_val F (wn rfl) rfl rfl (.pointer (some (adt.add (i * 35)))) (ex_ix _ _ _ rfl 35 cy_sl_92_35 adt _ _ (F.e rfl) .i64 _ (F.e rfl) i rfl (by omega) (adt.add (i * 35)) rfl) ?_; clear F a; intro a F
      refine list_val F (wn rfl) rfl rfl (.pointer (some ((adt.add (i * 35)).add 34))) (ex_fa _ _ _ rfl _ (F.e rfl) 34 cy_fa_99_3_34 ((adt.add (i * 35)).add 34) rfl) ?_; clear F a; intro a F
      refine list_val F (wn rfl) rfl rfl (.int .u64 o.kid) (ex_load _ _ rfl _ (F.e rfl) _ (lv1 cy_one_67 ((zt.below M.bel).cell 34 _ (Turn.cs_34 _)))) ?_; clear F a; intro a F
      refine list_val F (wn rfl) rfl rfl (.int .u64 ((j : Int) + 1)) (ex_bin .rem _ _ _ _ rfl .u64 _ _ (F.e rfl) rfl _ (b_rem (by decide) (by rw [hkj]; exact rem_small (by omega) (by omega)))) ?_; clear F a; intro a F
      refine list_val F (wn rfl) rfl rfl (.int .i64 ((j : Int) + 1)) (ex_conv _ _ _ rfl _ .i64 cy_cv_67_3_i64 _ (F.e rfl) _ (w_i64 (by omega) (by omega))) ?_; clear F a; intro a F
      refine list_val F (wn rfl) rfl rfl (.int .i64 j) (ex_bin .sub _ _ _ _ rfl .i64 _ _ (F.e rfl) rfl _ (b_sub ((w_i64 (by omega) (by omega)).trans (by omega)))) ?_; clear F a; intro a F
      refine list_val F (wn rfl) rfl rfl (.int .i64 j) (ex_assign _ rfl _ (F.e rfl)) ?_; clear F a; intro a F
      refine wpList_nil ?_
      replace F : Fr 272 a [(2, .bool false), (3, .slice (some adt) ts.length c), (4, .pointer (some ⟨g4, 0, none⟩)), (5, .slice (some ⟨gr, 0, none⟩) (f0.length + 1) cap), (6, .int .i64 i), (7, .int .i64 ((live f0).length + 1)), (8, .int .i64 k), (9, .pointer (some ⟨g9, 0, none⟩)), (10, .int .i64 0), (11, .int .i64 j), (33, .bool true), (39, .bool false), (55, .bool true)] := F.keep ⟨rfl, rfl, rfl, rfl, rfl, rfl, rfl, rfl, rfl, rfl, rfl, rfl, rfl, trivial⟩
      refine then_n ?_
      refine wp_seq ?_
      refine wp_region_lit ?_
      refine list_val F (wn rfl) rfl rfl (.slice (some adt) ts.length c) (ex_move _ rfl _ (F.e rfl)) ?_; clear F a; intro a F
      refine list_val F (wn rfl) rfl rfl (.int .i64 i) (ex_move _ rfl _ (F.e rfl)) ?_; clear F a; intro a F
      refine list_val F (wn rfl) rfl rfl (.pointer (some (adt.add (i * 35)))) (ex_ix _ _ _ rfl 35 cy_sl_92_35 adt _ _ (F.e rfl) .i64 _ (F.e rfl) i rfl (by omega) (adt.add (i * 35)) rfl) ?_; clear F a; intro a F
      refine list_val F (wn rfl) rfl rfl (.pointer (some ((adt.add (i * 35)).add 34))) (ex_fa _ _ _ rfl _ (F.e rfl) 34 cy_fa_99_3_34 ((adt.add (i * 35)).add 34) rfl) ?_; clear F a; intro a F
      refine list_val F (wn rfl) rfl rfl (.int .u64 o.kid) (ex_load _ _ rfl _ (F.e rfl) _ (lv1 cy_one_67 ((zt.below M.bel).cell 34 _ (Turn.cs_34 _)))) ?_; clear F a; intro a F
      refine list_val F (wn rfl) rfl rfl (.bool true) (ex_bin .lss _ _ _ _ rfl .u64 _ _ (F.e rfl) rfl _ (b_lss (decide_eq_true (by omega)))) ?_; clear F a; intro a F
      refine list_val F (wn rfl) rfl rfl (.bool true) (ex_move _ rfl _ (F.e rfl)) ?_; clear F a; intro a F
      refine list_val F (F.wants 85 true rfl (by kernel_rfl) rfl true rfl) rfl rfl (.int .i64 j) (ex_move _ rfl _ (F.e rfl)) ?_; clear F a; intro a F
      refine list_val F (F.wants 85 true rfl (by kernel_rfl) rfl true rfl) rfl rfl (.bool true) (ex_bin .geq _ _ _ _ rfl .i64 _ _ (F.e rfl) rfl _ (b_geq (decide_eq_true (by omega)))) ?_; clear F a; intro a F
      refine list_val F (wn rfl) rfl rfl (.bool true) (ex_pick_t _ _ _ rfl (F.e rfl) _ (F.e rfl)) ?_; clear F a; intro a F
      refine list_val F (wn rfl) rfl rfl (.bool true) (ex_move _ rfl _ (F.e rfl)) ?_; clear F a; intro a F
      refine list_val F (F.wants 89 true rfl (by kernel_rfl) rfl true rfl) rfl rfl (.int .i64 j) (ex_move _ rfl _ (F.e rfl)) ?_; clear F a; intro a F
      refine list_val F (F.wants 89 true rfl (by kernel_rfl) rfl true rfl) rfl rfl (.slice (some ⟨gr, 0, none⟩) (f0.length + 1) cap) (ex_move _ rfl _ (F.e rfl)) ?_; clear F a; intro a F
      refine list_val F (F.wants 89 true rfl (by kernel_rfl) rfl true rfl) rfl rfl (.int .i64 (((f0.length + 1) : Nat) : Int)) (ex_len _ _ rfl 35 cy_sl_97_35 _ _ _ (F.e rfl)) ?_; clear F a; intro a F
      refine list_val F (F.wants 89 true rfl (by kernel_rfl) rfl true rfl) rfl rfl (.bool true) (ex_bin .lss _ _ _ _ rfl .i64 _ _ (F.e rfl) (F.e rfl) _ (b_lss (decide_eq_true (by omega)))) ?_; clear F a; intro a F
      refine list_val F (wn rfl) rfl rfl (.bool true) (ex_pick_t _ _ _ rfl (F.e rfl) _ (F.e rfl)) ?_; clear F a; intro a F
      refine list_val F (wn rfl) rfl rfl (.bool true) (ex_move _ rfl _ (F.e rfl)) ?_; clear F a; intro a F
      refine list_val F (F.wants 95 true rfl (by kernel_rfl) rfl true rfl) rfl rfl (.slice (some ⟨gr, 0, none⟩) (f0.length + 1) cap) (ex_move _ rfl _ (F.e rfl)) ?_; clear F a; intro a F
      refine list_val F (F.wants 95 true rfl (by kernel_rfl) rfl true rfl) rfl rfl (.int .i64 j) (ex_move _ rfl _ (F.e rfl)) ?_; clear F a; intro a F
      refine list_val F (F.wants 95 true rfl (by kernel_rfl) rfl true rfl) rfl rfl (.pointer (some ⟨gr, j * 35, none⟩)) (ex_ix _ _ _ rfl 35 cy_sl_97_35 ⟨gr, 0, none⟩ _ _ (F.e rfl) .i64 _ (F.e rfl) j rfl (by omega) ⟨gr, j * 35, none⟩ ad0) ?_; clear F a; intro a F
      refine list_val F (F.wants 95 true rfl (by kernel_rfl) rfl true rfl) rfl rfl (.pointer (some ⟨gr, j * 35 + 34, none⟩)) (ex_fa _ _ _ rfl _ (F.e rfl) 34 cy_fa_96_3_34 ⟨gr, j * 35 + 34, none⟩ rfl) ?_; clear F a; intro a F
      refine list_val F (F.wants 95 true rfl (by kernel_rfl) rfl true rfl) rfl rfl (.bool false) (ex_load _ _ rfl _ (F.e rfl) _ (lv1 cy_one_4 (M.cell (i := 2) rfl (j := j * 35 + 34) (rows_arr Fate.cs_len hfj (by rw [Fate.cs_34, hgn]))))) ?_; clear F a; intro a F
      refine list_val F (F.wants 95 true rfl (by kernel_rfl) rfl true rfl) rfl rfl (.bool true) (ex_not _ _ rfl _ (F.e rfl) _ rfl) ?_; clear F a; intro a F
      refine list_val F (wn rfl) rfl rfl (.bool true) (ex_pick_t _ _ _ rfl (F.e rfl) _ (F.e rfl)) ?_; clear F a; intro a F
      refine list_val F (wn rfl) rfl rfl (.bool true) (ex_assign _ rfl _ (F.e rfl)) ?_; clear F a; intro a F
      refine wpList_nil ?_
      replace F : Fr 272 a [(2, .bool false), (3, .slice (some adt) ts.length c), (4, .pointer (some ⟨g4, 0, none⟩)), (5, .slice (some ⟨gr, 0, none⟩) (f0.length + 1) cap), (6, .int .i64 i), (7, .int .i64 ((live f0).length + 1)), (8, .int .i64 k), (9, .pointer (some ⟨g9, 0, none⟩)), (10, .int .i64 0), (11, .int .i64 j), (12, .bool true), (33, .bool true), (39, .bool false), (55, .bool true)] := F.keep ⟨rfl, rfl, rfl, rfl, rfl, rfl, rfl, rfl, rfl, rfl, rfl, rfl, rfl, rfl, trivial⟩
      refine then_n ?_
      refine wp_seq ?_
      refine wp_seq ?_
      refine wp_region_lit ?_
      refine list_val F (wn rfl) rfl rfl (.int .i64 0) (ex_move _ rfl _ (F.e rfl)) ?_; clear F a; intro a F
      refine list_do (wn rfl) (fun K hK => ?_)
      refine ow_call rfl rfl F 22 #[.int .i64 0] (ex_call 22 _ _ rfl rfl cy_ent_22 _ (map1 (F.e rfl))) (num_any _ _) (fun e v hR => ?_)
      obtain ⟨he, hw⟩ := hR
      refine ⟨.int .i64 0, he, ?_⟩; clear he F a; intro a F
      obtain rfl := hw
      refine hK _ _ ?_
      clear hK K
      refine list_val F (wn rfl) rfl rfl (.bool true) (ex_bin .eql _ _ _ _ rfl .i64 _ _ (F.e rfl) rfl _ (b_eql (by decide))) ?_; clear F a; intro a F
      refine list_val F (wn rfl) rfl rfl (.bool true) (ex_move _ rfl _ (F.e rfl)) ?_; clear F a; intro a F
      refine list_val F (wn rfl) rfl rfl (.bool false) (ex_neqb _ _ _ _ rfl cy_bool_4 true true (F.e rfl) (F.e rfl) false rfl) ?_; clear F a; intro a F
      refine list_val F (wn rfl) rfl rfl (.bool false) (ex_move _ rfl _ (F.e rfl)) ?_; clear F a; intro a F
      refine list_val F (F.wants 108 false rfl (by kernel_rfl) rfl true rfl) rfl rfl (.bool true) (ex_move _ rfl _ (F.e rfl)) ?_; clear F a; intro a F
      refine list_val F (F.wants 108 false rfl (by kernel_rfl) rfl true rfl) rfl rfl (.bool false) (ex_not _ _ rfl _ (F.e rfl) _ rfl) ?_; clear F a; intro a F
      refine list_val F (F.wants 108 false rfl (by kernel_rfl) rfl true rfl) rfl rfl (.bool false) (ex_move _ rfl _ (F.e rfl)) ?_; clear F a; intro a F
      refine list_skip F (F.wants 111 false rfl (by kernel_rfl) rfl false rfl) rfl rfl ?_; clear F a; intro a F
      refine list_skip F (F.wants 111 false rfl (by kernel_rfl) rfl false rfl) rfl rfl ?_; clear F a; intro a F
      refine list_skip F (F.wants 111 false rfl (by kernel_rfl) rfl false rfl) rfl rfl ?_; clear F a; intro a F
      refine list_skip F (F.wants 111 false rfl (by kernel_rfl) rfl false rfl) rfl rfl ?_; clear F a; intro a F
      refine list_skip F (F.wants0 115 rfl (by kernel_rfl) rfl) rfl rfl ?_; clear F a; intro a F
      refine list_skip F (F.wants0 115 rfl (by kernel_rfl) rfl) rfl rfl ?_; clear F a; intro a F
      refine list_skip F (F.wants0 115 rfl (by kernel_rfl) rfl) rfl rfl ?_; clear F a; intro a F
      refine list_skip F (F.wants0 115 rfl (by kernel_rfl) rfl) rfl rfl ?_; clear F a; intro a F
      refine list_skip F (F.wants 111 false rfl (by kernel_rfl) rfl false rfl) rfl rfl ?_; clear F a; intro a F
      refine list_val F (F.wants 108 false rfl (by kernel_rfl) rfl true rfl) rfl rfl (.bool false) (ex_pick_f _ _ _ rfl (F.e rfl) _ rfl) ?_; clear F a; intro a F
      refine list_val F (wn rfl) rfl rfl (.bool false) (ex_pick_f _ _ _ rfl (F.e rfl) _ (F.e rfl)) ?_; clear F a; intro a F
      refine wpList_nil ?_
      replace F : Fr 272 a [(2, .bool false), (3, .slice (some adt) ts.length c), (4, .pointer (some ⟨g4, 0, none⟩)), (5, .slice (some ⟨gr, 0, none⟩) (f0.length + 1) cap), (6, .int .i64 i), (7, .int .i64 ((live f0).length + 1)), (8, .int .i64 k), (9, .pointer (some ⟨g9, 0, none⟩)), (10, .int .i64 0), (11, .int .i64 j), (12, .bool true), (33, .bool true), (39, .bool false), (55, .bool true), (122, .bool false)] := F.keep ⟨rfl, rfl, rfl, rfl, rfl, rfl, rfl, rfl, rfl, rfl, rfl, rfl, rfl, rfl, rfl, trivial⟩
      refine then_n ?_
      refine wp_cond_false (F.e rfl) ?_
      refine wp_skip ?_
      refine then_n ?_
      refine wp_seq ?_
      refine wp_region_lit ?_
      refine list_val F (wn rfl) rfl rfl (.bool true) (ex_move _ rfl _ (F.e rfl)) ?_; clear F a; intro a F
      refine wpList_nil ?_
      replace F : Fr 272 a [(2, .bool false), (3, .slice (some adt) ts.length c), (4, .pointer (some ⟨g4, 0, none⟩)), (5, .slice (some ⟨gr, 0, none⟩) (f0.length + 1) cap), (6, .int .i64 i), (7, .int .i64 ((live f0).length + 1)), (8, .int .i64 k), (9, .pointer (some ⟨g9, 0, none⟩)), (10, .int .i64 0), (11, .int .i64 j), (12, .bool true), (33, .bool true), (39, .bool false), (55, .bool true), (122, .bool false), (123, .bool true)] := F.keep ⟨rfl, rfl, rfl, rfl, rfl, rfl, rfl, rfl, rfl, rfl, rfl, rfl, rfl, rfl, rfl, rfl, trivial⟩
      refine then_n ?_
      refine wp_cond_true (F.e rfl) ?_
      refine wp_seq ?_
      refine wp_region_lit ?_
      refine list_val F (wn rfl) rfl rfl (.slice (some ⟨gr, 0, none⟩) (f0.length + 1) cap) (ex_move _ rfl _ (F.e rfl)) ?_; clear F a; intro a F
      refine list_val F (wn rfl) rfl rfl (.int .i64 j) (ex_move _ rfl _ (F.e rfl)) ?_; clear F a; intro a F
      refine list_val F (wn rfl) rfl rfl (.pointer (some ⟨gr, j * 35, none⟩)) (ex_ix _ _ _ rfl 35 cy_sl_97_35 ⟨gr, 0, none⟩ _ _ (F.e rfl) .i64 _ (F.e rfl) j rfl (by omega) ⟨gr, j * 35, none⟩ ad0) ?_; clear F a; intro a F
      refine list_val F (wn rfl) rfl rfl (.pointer (some ⟨gr, j * 35 + 34, none⟩)) (ex_fa _ _ _ rfl _ (F.e rfl) 34 cy_fa_96_3_34 ⟨gr, j * 35 + 34, none⟩ rfl) ?_; clear F a; intro a F
      refine list_do (wn rfl) (fun K hK => ?_)
      refine ow_store F M rfl 4 _ _ rfl 2 gr _ _ rfl (j * 35 + 34) (F.e rfl) _ rfl [.bool true] rfl cy_info_4_map_size_some_1 (by rw [List.size_toArray, List.length_append, rows_len Fate.cs_len]; simp; omega) (by simp [Value.oneCell']) (((f0.set j { f with gone := true } ++ [fl]).flatMap Fate.cs ++ sp).toArray) (congrArg List.toArray (by rw [← List.set_append_left _ _ hjl']; exact rows_set (vs := [.bool true]) Fate.cs_len hfj (by simp) (Fate.set_34 _ _))) ?_
      clear F a; have Mo := M; clear M; intro a v F M hgr
      refine hK _ _ ?_
      clear hK K
      replace O_r := O_r.grown (Mo.blk 2 _ rfl) (by show 107 ≠ 96; decide) hgr
      replace O_68 := O_68.grown (Mo.blk 2 _ rfl) (by show 107 ≠ 96; decide) hgr
      clear Mo hgr; try clear u
      replace M : Mm w v [⟨g9, #[.slice A_68 ((live (f0.set j { f with gone := true })).length + 1) c_68, .int .u64 next], 69⟩, ⟨g4, #[.slice Ar ((live f0).length + 1) cr, .int .u64 next], 69⟩, ⟨gr, (((f0.set j { f with gone := true } ++ [fl]).flatMap Fate.cs ++ sp).toArray), 96⟩] := M
      refine wpList_nil ?_
      replace F : Fr 272 a [(2, .bool false), (3, .slice (some adt) ts.length c), (4, .pointer (some ⟨g4, 0, none⟩)), (5, .slice (some ⟨gr, 0, none⟩) (f0.length + 1) cap), (6, .int .i64 i), (7, .int .i64 ((live f0).length + 1)), (8, .int .i64 k), (9, .pointer (some ⟨g9, 0, none⟩)), (10, .int .i64 0), (11, .int .i64 j), (12, .bool true), (33, .bool true), (39, .bool false), (55, .bool true), (122, .bool false), (123, .bool true)] := F.keep ⟨rfl, rfl, rfl, rfl, rfl, rfl, rfl, rfl, rfl, rfl, rfl, rfl, rfl, rfl, rfl, rfl, trivial⟩
      refine then_n ?_
      refine wp_seq ?_
      refine wp_seq ?_
      refine wp_region_lit ?_
      refine list_val F (wn rfl) rfl rfl (.int .i64 j) (ex_move _ rfl _ (F.e rfl)) ?_; clear F a; intro a F
      refine list_val F (wn rfl) rfl rfl (.slice (some ⟨gr, 0, none⟩) (f0.length + 1) cap) (ex_move _ rfl _ (F.e rfl)) ?_; clear F a; intro a F
      refine list_val F (wn rfl) rfl rfl (.int .i64 (((f0.length + 1) : Nat) : Int)) (ex_len _ _ rfl 35 cy_sl_97_35 _ _ _ (F.e rfl)) ?_; clear F a; intro a F
      refine list_val F (wn rfl) rfl rfl (.int .i64 f0.length) (ex_bin .sub _ _ _ _ rfl .i64 _ _ (F.e rfl) rfl _ (b_sub ((w_i64 (by omega) (by omega)).trans (by omega)))) ?_; clear F a; intro a F
      refine list_val F (wn rfl) rfl rfl (.bool false) (ex_bin .eql _ _ _ _ rfl .i64 _ _ (F.e rfl) (F.e rfl) _ (b_eql (by simp; omega))) ?_; clear F a; intro a F
      refine wpList_nil ?_
      replace F : Fr 272 a [(2, .bool false), (3, .slice (some adt) ts.length c), (4, .pointer (some ⟨g4, 0, none⟩)), (5, .slice (some ⟨gr, 0, none⟩) (f0.length + 1) cap), (6, .int .i64 i), (7, .int .i64 ((live f0).length + 1)), (8, .int .i64 k), (9, .pointer (some ⟨g9, 0, none⟩)), (10, .int .i64 0), (11, .int .i64 j), (12, .bool true), (33, .bool true), (39, .bool false), (55, .bool true), (122, .bool false), (123, .bool true), (132, .bool false)] := F.keep ⟨rfl, rfl, rfl, rfl, rfl, rfl, rfl, rfl, rfl, rfl, rfl, rfl, rfl, rfl, rfl, rfl, rfl, trivial⟩
      refine then_n ?_
      refine wp_cond_false (F.e rfl) ?_
      refine wp_skip ?_
      refine then_n ?_
      clear O_r
      have O_r := O_68
      clear O_68
      refine wp_region_lit ?_
      refine list_val F (wn rfl) rfl rfl (.agg #[.slice A_68 ((live (f0.set j { f with gone := true })).length + 1) c_68, .int .u64 next]) (ex_load _ _ rfl _ (F.e rfl) _ (lvr (cs := [.slice A_68 ((live (f0.set j { f with gone := true })).length + 1) c_68, .int .u64 next]) cy_row_69_2 (M.at (i := 0) rfl))) ?_; clear F a; intro a F
      refine list_do (wn rfl) (fun K hK => ?_)
      refine ow_put F M rfl 69 _ _ rfl 1 _ #[.slice Ar ((live f0).length + 1) cr, .int .u64 next] _ rfl (F.e rfl) #[.slice A_68 ((live (f0.set j { f with gone := true })).length + 1) c_68, .int .u64 next] (F.e rfl) (sz_row (m := 2) cy_row_69_2) rfl (by simp [Value.oneCell']) ?_
      clear F a; have Mo := M; clear M; intro a u F M hgr
      refine hK _ _ ?_
      clear hK K
      replace O_r := O_r.grown (Mo.blk 1 _ rfl) (by show 107 ≠ 69; decide) hgr
      clear Mo hgr; try clear v
      replace M : Mm w u [⟨g9, #[.slice A_68 ((live (f0.set j { f with gone := true })).length + 1) c_68, .int .u64 next], 69⟩, ⟨g4, #[.slice A_68 ((live (f0.set j { f with gone := true })).length + 1) c_68, .int .u64 next], 69⟩, ⟨gr, (((f0.set j { f with gone := true } ++ [fl]).flatMap Fate.cs ++ sp).toArray), 96⟩] := M
      refine wpList_nil ?_
      replace F : Fr 272 a [(2, .bool false), (3, .slice (some adt) ts.length c), (4, .pointer (some ⟨g4, 0, none⟩)), (5, .slice (some ⟨gr, 0, none⟩) (f0.length + 1) cap), (6, .int .i64 i), (7, .int .i64 ((live f0).length + 1)), (8, .int .i64 k), (9, .pointer (some ⟨g9, 0, none⟩)), (10, .int .i64 0), (11, .int .i64 j), (12, .bool true), (33, .bool true), (39, .bool false), (55, .bool true), (122, .bool false), (123, .bool true), (132, .bool false)] := F.keep ⟨rfl, rfl, rfl, rfl, rfl, rfl, rfl, rfl, rfl, rfl, rfl, rfl, rfl, rfl, rfl, rfl, rfl, trivial⟩
      refine only_n ?_
      rw [show f0.length = (f0.set j { f with gone := true }).length by simp] at F
      exact ⟨(f0.set j { f with gone := true }), fl, next, A_68, c_68, gr, cap, sp, F.keep ⟨rfl, rfl, rfl, rfl, rfl, rfl, rfl, trivial⟩, (by refine M.pick' [1, 2] _ ?_ (by decide); exact ⟨rfl, rfl, trivial⟩), O_r, (hL.distrust_some hfj0 hgn o.sec).2, (by rw [List.length_append, rows_len Fate.cs_len] at hcap ⊢; simpa using hcap), (by rw [List.length_set]; exact hqc), hcm, (by rw [List.length_set]; omega)⟩
     have hno : ∀ (i : Nat) (g : Fate), (f0 ++ [fl])[i]? = some g → g.gone = false → g.kid ≠ o.kid := fun i g hi _ e => by
       have h2 := hL.kids i g hi
       have h3 := (List.getElem?_eq_some_iff.1 hi).1
       simp only [List.length_append, List.length_cons, List.length_nil] at h3
       exact hkn ⟨i, by omega, by omega⟩
     obtain ⟨hr0, hr1⟩ := rem_range hk0
     by_cases hbg : 1000 ≤ o.kid
     ·
      refine wp_only (fun ar wr => ∃ (A_68 : Option Addr), ∃ (c_68 : Nat), ∃ (g9 : Nat), Fr 272 ar [(2, .bool false), (3, .slice (some adt) ts.length c), (4, .pointer (some ⟨g4, 0, none⟩)), (5, .slice (some ⟨gr, 0, none⟩) (f0.length + 1) cap), (6, .int .i64 i), (7, .int .i64 ((live f0).length + 1)), (8, .int .i64 k), (9, .pointer (some ⟨g9, 0, none⟩)), (10, .int .i64 53), (33, .bool true), (39, .bool false), (55, .bool true)] ∧ Mm w wr [⟨g9, #[.slice A_68 0 c_68, .int .u64 0], 69⟩, ⟨g4, #[.slice Ar ((live f0).length + 1) cr, .int .u64 next], 69⟩, ⟨gr, (((f0 ++ [fl]).flatMap Fate.cs ++ sp).toArray), 96⟩] ∧ RO wr Ar cr ⟨live f0 ++ [fl.key], next⟩) ?_ ?_
      ·
       refine region_any cy_follows_mixedOrders M ?_; clear M; intro wD M hb
       replace O_r := O_r.below hb
       clear hb; try clear v
       have hS : Below wD.heap.size wD wD := Below.refl _ _; have MD := M
       have D_O_r := O_r
       refine any_val F 0 rfl (by kernel_rfl) (wn rfl) rfl rfl (.agg #[.slice Ar ((live f0).length + 1) cr, .int .u64 next]) (fun w' hS' => ex_load _ _ rfl _ (F.e rfl) _ (lvr (cs := [.slice Ar ((live f0).length + 1) cr, .int .u64 next]) cy_row_69_2 ((MD.below hS').at (i := 0) rfl))) hS ?_; clear F a; intro a F
       refine any_val F 1 rfl (by kernel_rfl) (wn rfl) rfl rfl (.slice (some adt) ts.length c) (fun w' hS' => ex_move _ rfl _ (F.e rfl)) hS ?_; clear F a; intro a F
       refine any_val F 2 rfl (by kernel_rfl) (wn rfl) rfl rfl (.int .i64 i) (fun w' hS' => ex_move _ rfl _ (F.e rfl)) hS ?_; clear F a; intro a F
       refine any_val F 3 rfl (by kernel_rfl) (wn rfl) rfl rfl (.pointer (some (adt.add (i * 35)))) (fun w' hS' => ex_ix _ _ _ rfl 35 cy_sl_92_35 adt _ _ (F.e rfl) .i64 _ (F.e rfl) i rfl (by omega) (adt.add (i * 35)) rfl) hS ?_; clear F a; intro a F
       refine any_val F 4 rfl (by kernel_rfl) (wn rfl) rfl rfl (.pointer (some ((adt.add (i * 35)).add 34))) (fun w' hS' => ex_fa _ _ _ rfl _ (F.e rfl) 34 cy_fa_99_3_34 ((adt.add (i * 35)).add 34) rfl) hS ?_; clear F a; intro a F
       refine any_val F 5 rfl (by kernel_rfl) (wn rfl) rfl rfl (.int .u64 o.kid) (fun w' hS' => ex_load _ _ rfl _ (F.e rfl) _ (lv1 cy_one_67 ((zt.below (MD.below hS').bel).cell 34 _ (Turn.cs_34 _)))) hS ?_; clear F a; intro a F
       refine any_val F 6 rfl (by kernel_rfl) (wn rfl) rfl rfl (.slice (some adt) ts.length c) (fun w' hS' => ex_move _ rfl _ (F.e rfl)) hS ?_; clear F a; intro a F
       refine any_val F 7 rfl (by kernel_rfl) (wn rfl) rfl rfl (.int .i64 i) (fun w' hS' => ex_move _ rfl _ (F.e rfl)) hS ?_; clear F a; intro a F
       refine any_val F 8 rfl (by kernel_rfl) (wn rfl) rfl rfl (.pointer (some (adt.add (i * 35)))) (fun w' hS' => ex_ix _ _ _ rfl 35 cy_sl_92_35 adt _ _ (F.e rfl) .i64 _ (F.e rfl) i rfl (by omega) (adt.add (i * 35)) rfl) hS ?_; clear F a; intro a F
       refine any_val F 9 rfl (by kernel_rfl) (wn rfl) rfl rfl (.pointer (some ((adt.add (i * 35)).add 1))) (fun w' hS' => ex_fa _ _ _ rfl _ (F.e rfl) 1 cy_fa_99_1_1 ((adt.add (i * 35)).add 1) rfl) hS ?_; clear F a; intro a F
       refine any_val F 10 rfl (by kernel_rfl) (wn rfl) rfl rfl (.agg o.sec.cs.toArray) (fun w' hS' => ex_load _ _ rfl _ (F.e rfl) _ (lvr (cs := o.sec.cs) (by rw [Bs.cs_len]; exact cy_row_70_32) (turn_sec ((zt.below (MD.below hS').bel))))) hS ?_; clear F a; intro a F
       refine any_ready [11, 15] (by kernel_rfl) (by simp) ?_
       refine ready_do rfl (wn rfl) (fun K hK => ?_) ?_
       ·
        refine ow_call rfl rfl F 16 #[.agg #[.slice Ar ((live f0).length + 1) cr, .int .u64 next], .int .u64 o.kid, .agg o.sec.cs.toArray] (ex_call 16 _ _ rfl rfl cy_ent_16 _ (map3 (F.e rfl) (F.e rfl) (F.e rfl))) (dis_none hL hno _ _ _ _ O_r) (fun e v hR => ?_)
        obtain ⟨A_68, c_68, he, hb⟩ := hR
        refine ⟨.tuple #[.agg #[.slice A_68 0 c_68, .int .u64 0], .int .i64 53], he, ?_⟩; clear he F a; intro a F
        refine hK _ _ (S_below hS hb) ?_
        replace hS := S_below hS hb
        clear hK K
        replace O_r := O_r.below hb
        replace M := M.below hb; clear hb; try clear wD
        refine any_val F 12 rfl (by kernel_rfl) (wn rfl) rfl rfl (.tuple #[.agg #[.slice A_68 0 c_68, .int .u64 0], .int .i64 53]) (fun w' hS' => ex_move _ rfl _ (F.e rfl)) hS ?_; clear F a; intro a F
        refine any_val F 13 rfl (by kernel_rfl) (wn rfl) rfl rfl (.agg #[.slice A_68 0 c_68, .int .u64 0]) (fun w' hS' => ex_extract _ _ rfl _ (F.e rfl) _ rfl) hS ?_; clear F a; intro a F
        refine any_val F 14 rfl (by kernel_rfl) (wn rfl) rfl rfl (.int .i64 53) (fun w' hS' => ex_extract _ _ rfl _ (F.e rfl) _ rfl) hS ?_; clear F a; intro a F
        refine any_ready [15] (by kernel_rfl) (by simp) ?_
        refine ready_do rfl (wn rfl) (fun K hK => ?_) AllReadyH.nil
        refine ow_alloc F M rfl rfl 69 rfl (.agg #[.slice none 0 0, .int .u64 0]) z69 #[.slice none 0 0, .int .u64 0] rfl ?_
        clear F M a; intro a g9 u F M hb hg
        have los_g9 := Nat.le_trans hS.size hg
        refine hK _ _ (S_below hS hb) ?_
        replace hS := S_below hS hb
        clear hK K
        have K_O_r := O_r
        replace O_r := O_r.below hb
        have hz_g9 := hb; have lo_g9 := hg
        clear hb hg; try clear v
        refine any_ready [16] (by kernel_rfl) (by simp) ?_
        refine ready_do rfl (wn rfl) (fun K hK => ?_) AllReadyH.nil
        refine ow_put F M rfl 69 _ _ rfl 0 _ #[.slice none 0 0, .int .u64 0] _ rfl (F.e rfl) #[.slice A_68 0 c_68, .int .u64 0] (F.e rfl) (sz_row (m := 2) cy_row_69_2) rfl (by simp [Value.oneCell']) ?_
        clear F a; have Mo := M; clear M; intro a v F M hgr
        refine hK _ _ (S_grown hS hgr los_g9) ?_
        replace hS := S_grown hS hgr los_g9
        clear hK K
        have hzz := S_grown hz_g9 hgr lo_g9
        replace O_r := K_O_r.below hzz
        clear hzz hz_g9 lo_g9 K_O_r
        clear Mo hgr; try clear u
        replace M : Mm w v [⟨g9, #[.slice A_68 0 c_68, .int .u64 0], 69⟩, ⟨g4, #[.slice Ar ((live f0).length + 1) cr, .int .u64 next], 69⟩, ⟨gr, (((f0 ++ [fl]).flatMap Fate.cs ++ sp).toArray), 96⟩] := M
        refine any_val F 17 rfl (by kernel_rfl) (wn rfl) rfl rfl (.int .i64 53) (fun w' hS' => ex_assign _ rfl _ (F.e rfl)) hS ?_; clear F a; intro a F
        refine any_done (by kernel_rfl) ?_
        exact ⟨A_68, c_68, g9, F.keep ⟨rfl, rfl, rfl, rfl, rfl, rfl, rfl, rfl, rfl, rfl, rfl, rfl, trivial⟩, (by refine M.pick' [0, 1, 2] _ ?_ (by decide); exact ⟨rfl, rfl, rfl, trivial⟩), O_r⟩
       refine ready_do rfl (wn rfl) (fun K hK => ?_) AllReadyH.nil
       refine ow_alloc F M rfl rfl 69 rfl (.agg #[.slice none 0 0, .int .u64 0]) z69 #[.slice none 0 0, .int .u64 0] rfl ?_
       clear F M a; intro a g9 v F M hb hg
       have los_g9 := Nat.le_trans hS.size hg
       refine hK _ _ (S_below hS hb) ?_
       replace hS := S_below hS hb
       clear hK K
       have K_O_r := O_r
       replace O_r := O_r.below hb
       have hz_g9 := hb; have lo_g9 := hg
       clear hb hg; try clear wD
       refine any_ready [11] (by kernel_rfl) (by simp) ?_
       refine ready_do rfl (wn rfl) (fun K hK => ?_) AllReadyH.nil
       refine ow_call rfl rfl F 16 #[.agg #[.slice Ar ((live f0).length + 1) cr, .int .u64 next], .int .u64 o.kid, .agg o.sec.cs.toArray] (ex_call 16 _ _ rfl rfl cy_ent_16 _ (map3 (F.e rfl) (F.e rfl) (F.e rfl))) (dis_none hL hno _ _ _ _ O_r) (fun e u hR => ?_)
       obtain ⟨A_68, c_68, he, hb⟩ := hR
       refine ⟨.tuple #[.agg #[.slice A_68 0 c_68, .int .u64 0], .int .i64 53], he, ?_⟩; clear he F a; intro a F
       refine hK _ _ (S_below hS hb) ?_
       replace hS := S_below hS hb
       clear hK K
       replace O_r := O_r.below hb
       replace hz_g9 := S_below hz_g9 hb
       replace M := M.below hb; clear hb; try clear v
       refine any_val F 12 rfl (by kernel_rfl) (wn rfl) rfl rfl (.tuple #[.agg #[.slice A_68 0 c_68, .int .u64 0], .int .i64 53]) (fun w' hS' => ex_move _ rfl _ (F.e rfl)) hS ?_; clear F a; intro a F
       refine any_val F 13 rfl (by kernel_rfl) (wn rfl) rfl rfl (.agg #[.slice A_68 0 c_68, .int .u64 0]) (fun w' hS' => ex_extract _ _ rfl _ (F.e rfl) _ rfl) hS ?_; clear F a; intro a F
       refine any_val F 14 rfl (by kernel_rfl) (wn rfl) rfl rfl (.int .i64 53) (fun w' hS' => ex_extract _ _ rfl _ (F.e rfl) _ rfl) hS ?_; clear F a; intro a F
       refine any_ready [16] (by kernel_rfl) (by simp) ?_
       refine ready_do rfl (wn rfl) (fun K hK => ?_) AllReadyH.nil
       refine ow_put F M rfl 69 _ _ rfl 0 _ #[.slice none 0 0, .int .u64 0] _ rfl (F.e rfl) #[.slice A_68 0 c_68, .int .u64 0] (F.e rfl) (sz_row (m := 2) cy_row_69_2) rfl (by simp [Value.oneCell']) ?_
       clear F a; have Mo := M; clear M; intro a v F M hgr
       refine hK _ _ (S_grown hS hgr los_g9) ?_
       replace hS := S_grown hS hgr los_g9
       clear hK K
       have hzz := S_grown hz_g9 hgr lo_g9
       replace O_r := K_O_r.below hzz
       clear hzz hz_g9 lo_g9 K_O_r
       clear Mo hgr; try clear u
       replace M : Mm w v [⟨g9, #[.slice A_68 0 c_68, .int .u64 0], 69⟩, ⟨g4, #[.slice Ar ((live f0).length + 1) cr, .int .u64 next], 69⟩, ⟨gr, (((f0 ++ [fl]).flatMap Fate.cs ++ sp).toArray), 96⟩] := M
       refine any_val F 17 rfl (by kernel_rfl) (wn rfl) rfl rfl (.int .i64 53) (fun w' hS' => ex_assign _ rfl _ (F.e rfl)) hS ?_; clear F a; intro a F
       refine any_done (by kernel_rfl) ?_
       exact ⟨A_68, c_68, g9, F.keep ⟨rfl, rfl, rfl, rfl, rfl, rfl, rfl, rfl, rfl, rfl, rfl, rfl, trivial⟩, (by refine M.pick' [0, 1, 2] _ ?_ (by decide); exact ⟨rfl, rfl, rfl, trivial⟩), O_r⟩
      clear F M a O_r
      intro a u hR; obtain ⟨A_68, c_68, g9, F, M, O_r⟩ := hR; try clear v
      refine then_n ?_
      refine wp_seq ?_
      refine wp_region_lit ?_
      refine list_val F (wn rfl) rfl rfl (.slice (some adt) ts.length c) (ex_move _ rfl _ (F.e rfl)) ?_; clear F a; intro a F
      refine list_val F (wn rfl) rfl rfl (.int .i64 i) (ex_move _ rfl _ (F.e rfl)) ?_; clear F a; intro a F
      refine list_val F (wn rfl) rfl rfl (.pointer (some (adt.add (i * 35)))) (ex_ix _ _ _ rfl 35 cy_sl_92_35 adt _ _ (F.e rfl) .i64 _ (F.e rfl) i rfl (by omega) (adt.add (i * 35)) rfl) ?_; clear F a; intro a F
      refine list_val F (wn rfl) rfl rfl (.pointer (some ((adt.add (i * 35)).add 34))) (ex_fa _ _ _ rfl _ (F.e rfl) 34 cy_fa_99_3_34 ((adt.add (i * 35)).add 34) rfl) ?_; clear F a; intro a F
      refine list_val F (wn rfl) rfl rfl (.int .u64 o.kid) (ex_load _ _ rfl _ (F.e rfl) _ (lv1 cy_one_67 ((zt.below M.bel).cell 34 _ (Turn.cs_34 _)))) ?_; clear F a; intro a F
      refine list_val F (wn rfl) rfl rfl (.int .u64 (o.kid.tmod 1000)) (ex_bin .rem _ _ _ _ rfl .u64 _ _ (F.e rfl) rfl _ (b_rem (by decide) rfl)) ?_; clear F a; intro a F
      refine list_val F (wn rfl) rfl rfl (.int .i64 (o.kid.tmod 1000)) (ex_conv _ _ _ rfl _ .i64 cy_cv_67_3_i64 _ (F.e rfl) _ (w_i64 (by omega) (by omega))) ?_; clear F a; intro a F
      refine list_val F (wn rfl) rfl rfl (.int .i64 (o.kid.tmod 1000 - 1)) (ex_bin .sub _ _ _ _ rfl .i64 _ _ (F.e rfl) rfl _ (b_sub (w_i64 (by omega) (by omega)))) ?_; clear F a; intro a F
      refine list_val F (wn rfl) rfl rfl (.int .i64 (o.kid.tmod 1000 - 1)) (ex_assign _ rfl _ (F.e rfl)) ?_; clear F a; intro a F
      refine wpList_nil ?_
      replace F : Fr 272 a [(2, .bool false), (3, .slice (some adt) ts.length c), (4, .pointer (some ⟨g4, 0, none⟩)), (5, .slice (some ⟨gr, 0, none⟩) (f0.length + 1) cap), (6, .int .i64 i), (7, .int .i64 ((live f0).length + 1)), (8, .int .i64 k), (9, .pointer (some ⟨g9, 0, none⟩)), (10, .int .i64 53), (11, .int .i64 (o.kid.tmod 1000 - 1)), (33, .bool true), (39, .bool false), (55, .bool true)] := F.keep ⟨rfl, rfl, rfl, rfl, rfl, rfl, rfl, rfl, rfl, rfl, rfl, rfl, rfl, trivial⟩
      refine then_n ?_
      refine wp_seq ?_
      refine wp_region_lit ?_
      refine list_val F (wn rfl) rfl rfl (.slice (some adt) ts.length c) (ex_move _ rfl _ (F.e rfl)) ?_; clear F a; intro a F
      refine list_val F (wn rfl) rfl rfl (.int .i64 i) (ex_move _ rfl _ (F.e rfl)) ?_; clear F a; intro a F
      refine list_val F (wn rfl) rfl rfl (.pointer (some (adt.add (i * 35)))) (ex_ix _ _ _ rfl 35 cy_sl_92_35 adt _ _ (F.e rfl) .i64 _ (F.e rfl) i rfl (by omega) (adt.add (i * 35)) rfl) ?_; clear F a; intro a F
      refine list_val F (wn rfl) rfl rfl (.pointer (some ((adt.add (i * 35)).add 34))) (ex_fa _ _ _ rfl _ (F.e rfl) 34 cy_fa_99_3_34 ((adt.add (i * 35)).add 34) rfl) ?_; clear F a; intro a F
      refine list_val F (wn rfl) rfl rfl (.int .u64 o.kid) (ex_load _ _ rfl _ (F.e rfl) _ (lv1 cy_one_67 ((zt.below M.bel).cell 34 _ (Turn.cs_34 _)))) ?_; clear F a; intro a F
      refine list_val F (wn rfl) rfl rfl (.bool false) (ex_bin .lss _ _ _ _ rfl .u64 _ _ (F.e rfl) rfl _ (b_lss (decide_eq_false (by omega)))) ?_; clear F a; intro a F
      refine list_val F (wn rfl) rfl rfl (.bool false) (ex_move _ rfl _ (F.e rfl)) ?_; clear F a; intro a F
      refine list_skip F (F.wants 85 false rfl (by kernel_rfl) rfl false rfl) rfl rfl ?_; clear F a; intro a F
      refine list_skip F (F.wants 85 false rfl (by kernel_rfl) rfl false rfl) rfl rfl ?_; clear F a; intro a F
      refine list_val F (wn rfl) rfl rfl (.bool false) (ex_pick_f _ _ _ rfl (F.e rfl) _ rfl) ?_; clear F a; intro a F
      refine list_val F (wn rfl) rfl rfl (.bool false) (ex_move _ rfl _ (F.e rfl)) ?_; clear F a; intro a F
      refine list_skip F (F.wants 89 false rfl (by kernel_rfl) rfl false rfl) rfl rfl ?_; clear F a; intro a F
      refine list_skip F (F.wants 89 false rfl (by kernel_rfl) rfl false rfl) rfl rfl ?_; clear F a; intro a F
      refine list_skip F (F.wants 89 false rfl (by kernel_rfl) rfl false rfl) rfl rfl ?_; clear F a; intro a F
      refine list_skip F (F.wants 89 false rfl (by kernel_rfl) rfl false rfl) rfl rfl ?_; clear F a; intro a F
      refine list_val F (wn rfl) rfl rfl (.bool false) (ex_pick_f _ _ _ rfl (F.e rfl) _ rfl) ?_; clear F a; intro a F
      refine list_val F (wn rfl) rfl rfl (.bool false) (ex_move _ rfl _ (F.e rfl)) ?_; clear F a; intro a F
      refine list_skip F (F.wants 95 false rfl (by kernel_rfl) rfl false rfl) rfl rfl ?_; clear F a; intro a F
      refine list_skip F (F.wants 95 false rfl (by kernel_rfl) rfl false rfl) rfl rfl ?_; clear F a; intro a F
      refine list_skip F (F.wants 95 false rfl (by kernel_rfl) rfl false rfl) rfl rfl ?_; clear F a; intro a F
      refine list_skip F (F.wants 95 false rfl (by kernel_rfl) rfl false rfl) rfl rfl ?_; clear F a; intro a F
      refine list_skip F (F.wants 95 false rfl (by kernel_rfl) rfl false rfl) rfl rfl ?_; clear F a; intro a F
      refine list_skip F (F.wants 95 false rfl (by kernel_rfl) rfl false rfl) rfl rfl ?_; clear F a; intro a F
      refine list_val F (wn rfl) rfl rfl (.bool false) (ex_pick_f _ _ _ rfl (F.e rfl) _ rfl) ?_; clear F a; intro a F
      refine list_val F (wn rfl) rfl rfl (.bool false) (ex_assign _ rfl _ (F.e rfl)) ?_; clear F a; intro a F
      refine wpList_nil ?_
      replace F : Fr 272 a [(2, .bool false), (3, .slice (some adt) ts.length c), (4, .pointer (some ⟨g4, 0, none⟩)), (5, .slice (some ⟨gr, 0, none⟩) (f0.length + 1) cap), (6, .int .i64 i), (7, .int .i64 ((live f0).length + 1)), (8, .int .i64 k), (9, .pointer (some ⟨g9, 0, none⟩)), (10, .int .i64 53), (11, .int .i64 (o.kid.tmod 1000 - 1)), (12, .bool false), (33, .bool true), (39, .bool false), (55, .bool true)] := F.keep ⟨rfl, rfl, rfl, rfl, rfl, rfl, rfl, rfl, rfl, rfl, rfl, rfl, rfl, rfl, trivial⟩
      refine then_n ?_
      refine wp_seq ?_
      refine wp_seq ?_
      refine wp_region_lit ?_
      refine list_val F (wn rfl) rfl rfl (.int .i64 53) (ex_move _ rfl _ (F.e rfl)) ?_; clear F a; intro a F
      refine list_do (wn rfl) (fun K hK => ?_)
      refine ow_call rfl rfl F 22 #[.int .i64 53] (ex_call 22 _ _ rfl rfl cy_ent_22 _ (map1 (F.e rfl))) (num_any _ _) (fun e v hR => ?_)
      obtain ⟨he, hw⟩ := hR
      refine ⟨.int .i64 53, he, ?_⟩; clear he F a; intro a F
      obtain rfl := hw
      refine hK _ _ ?_
      clear hK K
      refine list_val F (wn rfl) rfl rfl (.bool false) (ex_bin .eql _ _ _ _ rfl .i64 _ _ (F.e rfl) rfl _ (b_eql (by decide))) ?_; clear F a; intro a F
      refine list_val F (wn rfl) rfl rfl (.bool false) (ex_move _ rfl _ (F.e rfl)) ?_; clear F a; intro a F
      refine list_val F (wn rfl) rfl rfl (.bool false) (ex_neqb _ _ _ _ rfl cy_bool_4 false false (F.e rfl) (F.e rfl) false rfl) ?_; clear F a; intro a F
      refine list_val F (wn rfl) rfl rfl (.bool false) (ex_move _ rfl _ (F.e rfl)) ?_; clear F a; intro a F
      refine list_val F (F.wants 108 false rfl (by kernel_rfl) rfl true rfl) rfl rfl (.bool false) (ex_move _ rfl _ (F.e rfl)) ?_; clear F a; intro a F
      refine list_val F (F.wants 108 false rfl (by kernel_rfl) rfl true rfl) rfl rfl (.bool true) (ex_not _ _ rfl _ (F.e rfl) _ rfl) ?_; clear F a; intro a F
      refine list_val F (F.wants 108 false rfl (by kernel_rfl) rfl true rfl) rfl rfl (.bool true) (ex_move _ rfl _ (F.e rfl)) ?_; clear F a; intro a F
      refine list_val F (F.wants 111 true rfl (by kernel_rfl) rfl true rfl) rfl rfl (.int .i64 53) (ex_move _ rfl _ (F.e rfl)) ?_; clear F a; intro a F
      refine list_do (F.wants 111 true rfl (by kernel_rfl) rfl true rfl) (fun K hK => ?_)
      refine ow_call rfl rfl F 22 #[.int .i64 53] (ex_call 22 _ _ rfl rfl cy_ent_22 _ (map1 (F.e rfl))) (num_any _ _) (fun e v hR => ?_)
      obtain ⟨he, hw⟩ := hR
      refine ⟨.int .i64 53, he, ?_⟩; clear he F a; intro a F
      obtain rfl := hw
      refine hK _ _ ?_
      clear hK K
      refine list_val F (F.wants 111 true rfl (by kernel_rfl) rfl true rfl) rfl rfl (.bool false) (ex_bin .neq _ _ _ _ rfl .i64 _ _ (F.e rfl) rfl _ (b_neq (by decide))) ?_; clear F a; intro a F
      refine list_val F (F.wants 111 true rfl (by kernel_rfl) rfl true rfl) rfl rfl (.bool false) (ex_move _ rfl _ (F.e rfl)) ?_; clear F a; intro a F
      refine list_val F (F.wants 115 false rfl (by kernel_rfl) rfl true rfl) rfl rfl (.pointer (some ⟨g9, 0, none⟩)) (ex_fa _ _ _ rfl _ (F.e rfl) 0 cy_fa_69_0_0 ⟨g9, 0, none⟩ rfl) ?_; clear F a; intro a F
      refine list_val F (F.wants 115 false rfl (by kernel_rfl) rfl true rfl) rfl rfl (.slice A_68 0 c_68) (ex_load _ _ rfl _ (F.e rfl) _ (lv1 cy_one_55 (M.cell (i := 0) rfl (j := 0) rfl))) ?_; clear F a; intro a F
      refine list_val F (F.wants 115 false rfl (by kernel_rfl) rfl true rfl) rfl rfl (.int .i64 0) (ex_len _ _ rfl 34 cy_sl_55_34 _ _ _ (F.e rfl)) ?_; clear F a; intro a F
      refine list_val F (F.wants 115 false rfl (by kernel_rfl) rfl true rfl) rfl rfl (.bool false) (ex_bin .gtr _ _ _ _ rfl .i64 _ _ (F.e rfl) rfl _ (b_gtr (by decide))) ?_; clear F a; intro a F
      refine list_val F (F.wants 111 true rfl (by kernel_rfl) rfl true rfl) rfl rfl (.bool false) (ex_pick_f _ _ _ rfl (F.e rfl) _ (F.e rfl)) ?_; clear F a; intro a F
      refine list_val F (F.wants 108 false rfl (by kernel_rfl) rfl true rfl) rfl rfl (.bool false) (ex_pick_t _ _ _ rfl (F.e rfl) _ (F.e rfl)) ?_; clear F a; intro a F
      refine list_val F (wn rfl) rfl rfl (.bool false) (ex_pick_f _ _ _ rfl (F.e rfl) _ (F.e rfl)) ?_; clear F a; intro a F
      refine wpList_nil ?_
      replace F : Fr 272 a [(2, .bool false), (3, .slice (some adt) ts.length c), (4, .pointer (some ⟨g4, 0, none⟩)), (5, .slice (some ⟨gr, 0, none⟩) (f0.length + 1) cap), (6, .int .i64 i), (7, .int .i64 ((live f0).length + 1)), (8, .int .i64 k), (9, .pointer (some ⟨g9, 0, none⟩)), (10, .int .i64 53), (11, .int .i64 (o.kid.tmod 1000 - 1)), (12, .bool false), (33, .bool true), (39, .bool false), (55, .bool true), (122, .bool false)] := F.keep ⟨rfl, rfl, rfl, rfl, rfl, rfl, rfl, rfl, rfl, rfl, rfl, rfl, rfl, rfl, rfl, trivial⟩
      refine then_n ?_
      refine wp_cond_false (F.e rfl) ?_
      refine wp_skip ?_
      refine then_n ?_
      refine wp_seq ?_
      refine wp_region_lit ?_
      refine list_val F (wn rfl) rfl rfl (.bool false) (ex_move _ rfl _ (F.e rfl)) ?_; clear F a; intro a F
      refine wpList_nil ?_
      replace F : Fr 272 a [(2, .bool false), (3, .slice (some adt) ts.length c), (4, .pointer (some ⟨g4, 0, none⟩)), (5, .slice (some ⟨gr, 0, none⟩) (f0.length + 1) cap), (6, .int .i64 i), (7, .int .i64 ((live f0).length + 1)), (8, .int .i64 k), (9, .pointer (some ⟨g9, 0, none⟩)), (10, .int .i64 53), (11, .int .i64 (o.kid.tmod 1000 - 1)), (12, .bool false), (33, .bool true), (39, .bool false), (55, .bool true), (122, .bool false), (123, .bool false)] := F.keep ⟨rfl, rfl, rfl, rfl, rfl, rfl, rfl, rfl, rfl, rfl, rfl, rfl, rfl, rfl, rfl, rfl, trivial⟩
      refine then_n ?_
      refine wp_cond_false (F.e rfl) ?_
      refine wp_skip ?_
      refine only_n ?_
      exact ⟨f0, fl, next, Ar, cr, gr, cap, sp, F.keep ⟨rfl, rfl, rfl, rfl, rfl, rfl, rfl, trivial⟩, (by refine M.pick' [1, 2] _ ?_ (by decide); exact ⟨rfl, rfl, trivial⟩), O_r, hL, hcap, hqc, hcm, (by omega)⟩
     have hrs := rem_small hk0 (show o.kid < 1000 by omega)
     by_cases hz : o.kid = 0
     ·
      refine wp_only (fun ar wr => ∃ (A_68 : Option Addr), ∃ (c_68 : Nat), ∃ (g9 : Nat), Fr 272 ar [(2, .bool false), (3, .slice (some adt) ts.length c), (4, .pointer (some ⟨g4, 0, none⟩)), (5, .slice (some ⟨gr, 0, none⟩) (f0.length + 1) cap), (6, .int .i64 i), (7, .int .i64 ((live f0).length + 1)), (8, .int .i64 k), (9, .pointer (some ⟨g9, 0, none⟩)), (10, .int .i64 53), (33, .bool true), (39, .bool false), (55, .bool true)] ∧ Mm w wr [⟨g9, #[.slice A_68 0 c_68, .int .u64 0], 69⟩, ⟨g4, #[.slice Ar ((live f0).length + 1) cr, .int .u64 next], 69⟩, ⟨gr, (((f0 ++ [fl]).flatMap Fate.cs ++ sp).toArray), 96⟩] ∧ RO wr Ar cr ⟨live f0 ++ [fl.key], next⟩) ?_ ?_
      ·
       refine region_any cy_follows_mixedOrders M ?_; clear M; intro wD M hb
       replace O_r := O_r.below hb
       clear hb; try clear v
       have hS : Below wD.heap.size wD wD := Below.refl _ _; have MD := M
       have D_O_r := O_r
       refine any_val F 0 rfl (by kernel_rfl) (wn rfl) rfl rfl (.agg #[.slice Ar ((live f0).length + 1) cr, .int .u64 next]) (fun w' hS' => ex_load _ _ rfl _ (F.e rfl) _ (lvr (cs := [.slice Ar ((live f0).length + 1) cr, .int .u64 next]) cy_row_69_2 ((MD.below hS').at (i := 0) rfl))) hS ?_; clear F a; intro a F
       refine any_val F 1 rfl (by kernel_rfl) (wn rfl) rfl rfl (.slice (some adt) ts.length c) (fun w' hS' => ex_move _ rfl _ (F.e rfl)) hS ?_; clear F a; intro a F
       refine any_val F 2 rfl (by kernel_rfl) (wn rfl) rfl rfl (.int .i64 i) (fun w' hS' => ex_move _ rfl _ (F.e rfl)) hS ?_; clear F a; intro a F
       refine any_val F 3 rfl (by kernel_rfl) (wn rfl) rfl rfl (.pointer (some (adt.add (i * 35)))) (fun w' hS' => ex_ix _ _ _ rfl 35 cy_sl_92_35 adt _ _ (F.e rfl) .i64 _ (F.e rfl) i rfl (by omega) (adt.add (i * 35)) rfl) hS ?_; clear F a; intro a F
       refine any_val F 4 rfl (by kernel_rfl) (wn rfl) rfl rfl (.pointer (some ((adt.add (i * 35)).add 34))) (fun w' hS' => ex_fa _ _ _ rfl _ (F.e rfl) 34 cy_fa_99_3_34 ((adt.add (i * 35)).add 34) rfl) hS ?_; clear F a; intro a F
       refine any_val F 5 rfl (by kernel_rfl) (wn rfl) rfl rfl (.int .u64 o.kid) (fun w' hS' => ex_load _ _ rfl _ (F.e rfl) _ (lv1 cy_one_67 ((zt.below (MD.below hS').bel).cell 34 _ (Turn.cs_34 _)))) hS ?_; clear F a; intro a F
       refine any_val F 6 rfl (by kernel_rfl) (wn rfl) rfl rfl (.slice (some adt) ts.length c) (fun w' hS' => ex_move _ rfl _ (F.e rfl)) hS ?_; clear F a; intro a F
       refine any_val F 7 rfl (by kernel_rfl) (wn rfl) rfl rfl (.int .i64 i) (fun w' hS' => ex_move _ rfl _ (F.e rfl)) hS ?_; clear F a; intro a F
       refine any_val F 8 rfl (by kernel_rfl) (wn rfl) rfl rfl (.pointer (some (adt.add (i * 35)))) (fun w' hS' => ex_ix _ _ _ rfl 35 cy_sl_92_35 adt _ _ (F.e rfl) .i64 _ (F.e rfl) i rfl (by omega) (adt.add (i * 35)) rfl) hS ?_; clear F a; intro a F
       refine any_val F 9 rfl (by kernel_rfl) (wn rfl) rfl rfl (.pointer (some ((adt.add (i * 35)).add 1))) (fun w' hS' => ex_fa _ _ _ rfl _ (F.e rfl) 1 cy_fa_99_1_1 ((adt.add (i * 35)).add 1) rfl) hS ?_; clear F a; intro a F
       refine any_val F 10 rfl (by kernel_rfl) (wn rfl) rfl rfl (.agg o.sec.cs.toArray) (fun w' hS' => ex_load _ _ rfl _ (F.e rfl) _ (lvr (cs := o.sec.cs) (by rw [Bs.cs_len]; exact cy_row_70_32) (turn_sec ((zt.below (MD.below hS').bel))))) hS ?_; clear F a; intro a F
       refine any_ready [11, 15] (by kernel_rfl) (by simp) ?_
       refine ready_do rfl (wn rfl) (fun K hK => ?_) ?_
       ·
        refine ow_call rfl rfl F 16 #[.agg #[.slice Ar ((live f0).length + 1) cr, .int .u64 next], .int .u64 o.kid, .agg o.sec.cs.toArray] (ex_call 16 _ _ rfl rfl cy_ent_16 _ (map3 (F.e rfl) (F.e rfl) (F.e rfl))) (dis_none hL hno _ _ _ _ O_r) (fun e v hR => ?_)
        obtain ⟨A_68, c_68, he, hb⟩ := hR
        refine ⟨.tuple #[.agg #[.slice A_68 0 c_68, .int .u64 0], .int .i64 53], he, ?_⟩; clear he F a; intro a F
        refine hK _ _ (S_below hS hb) ?_
        replace hS := S_below hS hb
        clear hK K
        replace O_r := O_r.below hb
        replace M := M.below hb; clear hb; try clear wD
        refine any_val F 12 rfl (by kernel_rfl) (wn rfl) rfl rfl (.tuple #[.agg #[.slice A_68 0 c_68, .int .u64 0], .int .i64 53]) (fun w' hS' => ex_move _ rfl _ (F.e rfl)) hS ?_; clear F a; intro a F
        refine any_val F 13 rfl (by kernel_rfl) (wn rfl) rfl rfl (.agg #[.slice A_68 0 c_68, .int .u64 0]) (fun w' hS' => ex_extract _ _ rfl _ (F.e rfl) _ rfl) hS ?_; clear F a; intro a F
        refine any_val F 14 rfl (by kernel_rfl) (wn rfl) rfl rfl (.int .i64 53) (fun w' hS' => ex_extract _ _ rfl _ (F.e rfl) _ rfl) hS ?_; clear F a; intro a F
        refine any_ready [15] (by kernel_rfl) (by simp) ?_
        refine ready_do rfl (wn rfl) (fun K hK => ?_) AllReadyH.nil
        refine ow_alloc F M rfl rfl 69 rfl (.agg #[.slice none 0 0, .int .u64 0]) z69 #[.slice none 0 0, .int .u64 0] rfl ?_
        clear F M a; intro a g9 u F M hb hg
        have los_g9 := Nat.le_trans hS.size hg
        refine hK _ _ (S_below hS hb) ?_
        replace hS := S_below hS hb
        clear hK K
        have K_O_r := O_r
        replace O_r := O_r.below hb
        have hz_g9 := hb; have lo_g9 := hg
        clear hb hg; try clear v
        refine any_ready [16] (by kernel_rfl) (by simp) ?_
        refine ready_do rfl (wn rfl) (fun K hK => ?_) AllReadyH.nil
        refine ow_put F M rfl 69 _ _ rfl 0 _ #[.slice none 0 0, .int .u64 0] _ rfl (F.e rfl) #[.slice A_68 0 c_68, .int .u64 0] (F.e rfl) (sz_row (m := 2) cy_row_69_2) rfl (by simp [Value.oneCell']) ?_
        clear F a; have Mo := M; clear M; intro a v F M hgr
        refine hK _ _ (S_grown hS hgr los_g9) ?_
        replace hS := S_grown hS hgr los_g9
        clear hK K
        have hzz := S_grown hz_g9 hgr lo_g9
        replace O_r := K_O_r.below hzz
        clear hzz hz_g9 lo_g9 K_O_r
        clear Mo hgr; try clear u
        replace M : Mm w v [⟨g9, #[.slice A_68 0 c_68, .int .u64 0], 69⟩, ⟨g4, #[.slice Ar ((live f0).length + 1) cr, .int .u64 next], 69⟩, ⟨gr, (((f0 ++ [fl]).flatMap Fate.cs ++ sp).toArray), 96⟩] := M
        refine any_val F 17 rfl (by kernel_rfl) (wn rfl) rfl rfl (.int .i64 53) (fun w' hS' => ex_assign _ rfl _ (F.e rfl)) hS ?_; clear F a; intro a F
        refine any_done (by kernel_rfl) ?_
        exact ⟨A_68, c_68, g9, F.keep ⟨rfl, rfl, rfl, rfl, rfl, rfl, rfl, rfl, rfl, rfl, rfl, rfl, trivial⟩, (by refine M.pick' [0, 1, 2] _ ?_ (by decide); exact ⟨rfl, rfl, rfl, trivial⟩), O_r⟩
       refine ready_do rfl (wn rfl) (fun K hK => ?_) AllReadyH.nil
       refine ow_alloc F M rfl rfl 69 rfl (.agg #[.slice none 0 0, .int .u64 0]) z69 #[.slice none 0 0, .int .u64 0] rfl ?_
       clear F M a; intro a g9 v F M hb hg
       have los_g9 := Nat.le_trans hS.size hg
       refine hK _ _ (S_below hS hb) ?_
       replace hS := S_below hS hb
       clear hK K
       have K_O_r := O_r
       replace O_r := O_r.below hb
       have hz_g9 := hb; have lo_g9 := hg
       clear hb hg; try clear wD
       refine any_ready [11] (by kernel_rfl) (by simp) ?_
       refine ready_do rfl (wn rfl) (fun K hK => ?_) AllReadyH.nil
       refine ow_call rfl rfl F 16 #[.agg #[.slice Ar ((live f0).length + 1) cr, .int .u64 next], .int .u64 o.kid, .agg o.sec.cs.toArray] (ex_call 16 _ _ rfl rfl cy_ent_16 _ (map3 (F.e rfl) (F.e rfl) (F.e rfl))) (dis_none hL hno _ _ _ _ O_r) (fun e u hR => ?_)
       obtain ⟨A_68, c_68, he, hb⟩ := hR
       refine ⟨.tuple #[.agg #[.slice A_68 0 c_68, .int .u64 0], .int .i64 53], he, ?_⟩; clear he F a; intro a F
       refine hK _ _ (S_below hS hb) ?_
       replace hS := S_below hS hb
       clear hK K
       replace O_r := O_r.below hb
       replace hz_g9 := S_below hz_g9 hb
       replace M := M.below hb; clear hb; try clear v
       refine any_val F 12 rfl (by kernel_rfl) (wn rfl) rfl rfl (.tuple #[.agg #[.slice A_68 0 c_68, .int .u64 0], .int .i64 53]) (fun w' hS' => ex_move _ rfl _ (F.e rfl)) hS ?_; clear F a; intro a F
       refine any_val F 13 rfl (by kernel_rfl) (wn rfl) rfl rfl (.agg #[.slice A_68 0 c_68, .int .u64 0]) (fun w' hS' => ex_extract _ _ rfl _ (F.e rfl) _ rfl) hS ?_; clear F a; intro a F
       refine any_val F 14 rfl (by kernel_rfl) (wn rfl) rfl rfl (.int .i64 53) (fun w' hS' => ex_extract _ _ rfl _ (F.e rfl) _ rfl) hS ?_; clear F a; intro a F
       refine any_ready [16] (by kernel_rfl) (by simp) ?_
       refine ready_do rfl (wn rfl) (fun K hK => ?_) AllReadyH.nil
       refine ow_put F M rfl 69 _ _ rfl 0 _ #[.slice none 0 0, .int .u64 0] _ rfl (F.e rfl) #[.slice A_68 0 c_68, .int .u64 0] (F.e rfl) (sz_row (m := 2) cy_row_69_2) rfl (by simp [Value.oneCell']) ?_
       clear F a; have Mo := M; clear M; intro a v F M hgr
       refine hK _ _ (S_grown hS hgr los_g9) ?_
       replace hS := S_grown hS hgr los_g9
       clear hK K
       have hzz := S_grown hz_g9 hgr lo_g9
       replace O_r := K_O_r.below hzz
       clear hzz hz_g9 lo_g9 K_O_r
       clear Mo hgr; try clear u
       replace M : Mm w v [⟨g9, #[.slice A_68 0 c_68, .int .u64 0], 69⟩, ⟨g4, #[.slice Ar ((live f0).length + 1) cr, .int .u64 next], 69⟩, ⟨gr, (((f0 ++ [fl]).flatMap Fate.cs ++ sp).toArray), 96⟩] := M
       refine any_val F 17 rfl (by kernel_rfl) (wn rfl) rfl rfl (.int .i64 53) (fun w' hS' => ex_assign _ rfl _ (F.e rfl)) hS ?_; clear F a; intro a F
       refine any_done (by kernel_rfl) ?_
       exact ⟨A_68, c_68, g9, F.keep ⟨rfl, rfl, rfl, rfl, rfl, rfl, rfl, rfl, rfl, rfl, rfl, rfl, trivial⟩, (by refine M.pick' [0, 1, 2] _ ?_ (by decide); exact ⟨rfl, rfl, rfl, trivial⟩), O_r⟩
      clear F M a O_r
      intro a u hR; obtain ⟨A_68, c_68, g9, F, M, O_r⟩ := hR; try clear v
      refine then_n ?_
      refine wp_seq ?_
      refine wp_region_lit ?_
      refine list_val F (wn rfl) rfl rfl (.slice (some adt) ts.length c) (ex_move _ rfl _ (F.e rfl)) ?_; clear F a; intro a F
      refine list_val F (wn rfl) rfl rfl (.int .i64 i) (ex_move _ rfl _ (F.e rfl)) ?_; clear F a; intro a F
      refine list_val F (wn rfl) rfl rfl (.pointer (some (adt.add (i * 35)))) (ex_ix _ _ _ rfl 35 cy_sl_92_35 adt _ _ (F.e rfl) .i64 _ (F.e rfl) i rfl (by omega) (adt.add (i * 35)) rfl) ?_; clear F a; intro a F
      refine list_val F (wn rfl) rfl rfl (.pointer (some ((adt.add (i * 35)).add 34))) (ex_fa _ _ _ rfl _ (F.e rfl) 34 cy_fa_99_3_34 ((adt.add (i * 35)).add 34) rfl) ?_; clear F a; intro a F
      refine list_val F (wn rfl) rfl rfl (.int .u64 o.kid) (ex_load _ _ rfl _ (F.e rfl) _ (lv1 cy_one_67 ((zt.below M.bel).cell 34 _ (Turn.cs_34 _)))) ?_; clear F a; intro a F
      refine list_val F (wn rfl) rfl rfl (.int .u64 (o.kid.tmod 1000)) (ex_bin .rem _ _ _ _ rfl .u64 _ _ (F.e rfl) rfl _ (b_rem (by decide) rfl)) ?_; clear F a; intro a F
      refine list_val F (wn rfl) rfl rfl (.int .i64 (o.kid.tmod 1000)) (ex_conv _ _ _ rfl _ .i64 cy_cv_67_3_i64 _ (F.e rfl) _ (w_i64 (by omega) (by omega))) ?_; clear F a; intro a F
      refine list_val F (wn rfl) rfl rfl (.int .i64 (o.kid.tmod 1000 - 1)) (ex_bin .sub _ _ _ _ rfl .i64 _ _ (F.e rfl) rfl _ (b_sub (w_i64 (by omega) (by omega)))) ?_; clear F a; intro a F
      refine list_val F (wn rfl) rfl rfl (.int .i64 (o.kid.tmod 1000 - 1)) (ex_assign _ rfl _ (F.e rfl)) ?_; clear F a; intro a F
      refine wpList_nil ?_
      replace F : Fr 272 a [(2, .bool false), (3, .slice (some adt) ts.length c), (4, .pointer (some ⟨g4, 0, none⟩)), (5, .slice (some ⟨gr, 0, none⟩) (f0.length + 1) cap), (6, .int .i64 i), (7, .int .i64 ((live f0).length + 1)), (8, .int .i64 k), (9, .pointer (some ⟨g9, 0, none⟩)), (10, .int .i64 53), (11, .int .i64 (o.kid.tmod 1000 - 1)), (33, .bool true), (39, .bool false), (55, .bool true)] := F.keep ⟨rfl, rfl, rfl, rfl, rfl, rfl, rfl, rfl, rfl, rfl, rfl, rfl, rfl, trivial⟩
      refine then_n ?_
      refine wp_seq ?_
      refine wp_region_lit ?_
      refine list_val F (wn rfl) rfl rfl (.slice (some adt) ts.length c) (ex_move _ rfl _ (F.e rfl)) ?_; clear F a; intro a F
      refine list_val F (wn rfl) rfl rfl (.int .i64 i) (ex_move _ rfl _ (F.e rfl)) ?_; clear F a; intro a F
      refine list_val F (wn rfl) rfl rfl (.pointer (some (adt.add (i * 35)))) (ex_ix _ _ _ rfl 35 cy_sl_92_35 adt _ _ (F.e rfl) .i64 _ (F.e rfl) i rfl (by omega) (adt.add (i * 35)) rfl) ?_; clear F a; intro a F
      refine list_val F (wn rfl) rfl rfl (.pointer (some ((adt.add (i * 35)).add 34))) (ex_fa _ _ _ rfl _ (F.e rfl) 34 cy_fa_99_3_34 ((adt.add (i * 35)).add 34) rfl) ?_; clear F a; intro a F
      refine list_val F (wn rfl) rfl rfl (.int .u64 o.kid) (ex_load _ _ rfl _ (F.e rfl) _ (lv1 cy_one_67 ((zt.below M.bel).cell 34 _ (Turn.cs_34 _)))) ?_; clear F a; intro a F
      refine list_val F (wn rfl) rfl rfl (.bool true) (ex_bin .lss _ _ _ _ rfl .u64 _ _ (F.e rfl) rfl _ (b_lss (decide_eq_true (by omega)))) ?_; clear F a; intro a F
      refine list_val F (wn rfl) rfl rfl (.bool true) (ex_move _ rfl _ (F.e rfl)) ?_; clear F a; intro a F
      refine list_val F (F.wants 85 true rfl (by kernel_rfl) rfl true rfl) rfl rfl (.int .i64 (o.kid.tmod 1000 - 1)) (ex_move _ rfl _ (F.e rfl)) ?_; clear F a; intro a F
      refine list_val F (F.wants 85 true rfl (by kernel_rfl) rfl true rfl) rfl rfl (.bool false) (ex_bin .geq _ _ _ _ rfl .i64 _ _ (F.e rfl) rfl _ (b_geq (decide_eq_false (by omega)))) ?_; clear F a; intro a F
      refine list_val F (wn rfl) rfl rfl (.bool false) (ex_pick_t _ _ _ rfl (F.e rfl) _ (F.e rfl)) ?_; clear F a; intro a F
      refine list_val F (wn rfl) rfl rfl (.bool false) (ex_move _ rfl _ (F.e rfl)) ?_; clear F a; intro a F
      refine list_skip F (F.wants 89 false rfl (by kernel_rfl) rfl false rfl) rfl rfl ?_; clear F a; intro a F
      refine list_skip F (F.wants 89 false rfl (by kernel_rfl) rfl false rfl) rfl rfl ?_; clear F a; intro a F
      refine list_skip F (F.wants 89 false rfl (by kernel_rfl) rfl false rfl) rfl rfl ?_; clear F a; intro a F
      refine list_skip F (F.wants 89 false rfl (by kernel_rfl) rfl false rfl) rfl rfl ?_; clear F a; intro a F
      refine list_val F (wn rfl) rfl rfl (.bool false) (ex_pick_f _ _ _ rfl (F.e rfl) _ rfl) ?_; clear F a; intro a F
      refine list_val F (wn rfl) rfl rfl (.bool false) (ex_move _ rfl _ (F.e rfl)) ?_; clear F a; intro a F
      refine list_skip F (F.wants 95 false rfl (by kernel_rfl) rfl false rfl) rfl rfl ?_; clear F a; intro a F
      refine list_skip F (F.wants 95 false rfl (by kernel_rfl) rfl false rfl) rfl rfl ?_; clear F a; intro a F
      refine list_skip F (F.wants 95 false rfl (by kernel_rfl) rfl false rfl) rfl rfl ?_; clear F a; intro a F
      refine list_skip F (F.wants 95 false rfl (by kernel_rfl) rfl false rfl) rfl rfl ?_; clear F a; intro a F
      refine list_skip F (F.wants 95 false rfl (by kernel_rfl) rfl false rfl) rfl rfl ?_; clear F a; intro a F
      refine list_skip F (F.wants 95 false rfl (by kernel_rfl) rfl false rfl) rfl rfl ?_; clear F a; intro a F
      refine list_val F (wn rfl) rfl rfl (.bool false) (ex_pick_f _ _ _ rfl (F.e rfl) _ rfl) ?_; clear F a; intro a F
      refine list_val F (wn rfl) rfl rfl (.bool false) (ex_assign _ rfl _ (F.e rfl)) ?_; clear F a; intro a F
      refine wpList_nil ?_
      replace F : Fr 272 a [(2, .bool false), (3, .slice (some adt) ts.length c), (4, .pointer (some ⟨g4, 0, none⟩)), (5, .slice (some ⟨gr, 0, none⟩) (f0.length + 1) cap), (6, .int .i64 i), (7, .int .i64 ((live f0).length + 1)), (8, .int .i64 k), (9, .pointer (some ⟨g9, 0, none⟩)), (10, .int .i64 53), (11, .int .i64 (o.kid.tmod 1000 - 1)), (12, .bool false), (33, .bool true), (39, .bool false), (55, .bool true)] := F.keep ⟨rfl, rfl, rfl, rfl, rfl, rfl, rfl, rfl, rfl, rfl, rfl, rfl, rfl, rfl, trivial⟩
      refine then_n ?_
      refine wp_seq ?_
      refine wp_seq ?_
      refine wp_region_lit ?_
      refine list_val F (wn rfl) rfl rfl (.int .i64 53) (ex_move _ rfl _ (F.e rfl)) ?_; clear F a; intro a F
      refine list_do (wn rfl) (fun K hK => ?_)
      refine ow_call rfl rfl F 22 #[.int .i64 53] (ex_call 22 _ _ rfl rfl cy_ent_22 _ (map1 (F.e rfl))) (num_any _ _) (fun e v hR => ?_)
      obtain ⟨he, hw⟩ := hR
      refine ⟨.int .i64 53, he, ?_⟩; clear he F a; intro a F
      obtain rfl := hw
      refine hK _ _ ?_
      clear hK K
      refine list_val F (wn rfl) rfl rfl (.bool false) (ex_bin .eql _ _ _ _ rfl .i64 _ _ (F.e rfl) rfl _ (b_eql (by decide))) ?_; clear F a; intro a F
      refine list_val F (wn rfl) rfl rfl (.bool false) (ex_move _ rfl _ (F.e rfl)) ?_; clear F a; intro a F
      refine list_val F (wn rfl) rfl rfl (.bool false) (ex_neqb _ _ _ _ rfl cy_bool_4 false false (F.e rfl) (F.e rfl) false rfl) ?_; clear F a; intro a F
      refine list_val F (wn rfl) rfl rfl (.bool false) (ex_move _ rfl _ (F.e rfl)) ?_; clear F a; intro a F
      refine list_val F (F.wants 108 false rfl (by kernel_rfl) rfl true rfl) rfl rfl (.bool false) (ex_move _ rfl _ (F.e rfl)) ?_; clear F a; intro a F
      refine list_val F (F.wants 108 false rfl (by kernel_rfl) rfl true rfl) rfl rfl (.bool true) (ex_not _ _ rfl _ (F.e rfl) _ rfl) ?_; clear F a; intro a F
      refine list_val F (F.wants 108 false rfl (by kernel_rfl) rfl true rfl) rfl rfl (.bool true) (ex_move _ rfl _ (F.e rfl)) ?_; clear F a; intro a F
      refine list_val F (F.wants 111 true rfl (by kernel_rfl) rfl true rfl) rfl rfl (.int .i64 53) (ex_move _ rfl _ (F.e rfl)) ?_; clear F a; intro a F
      refine list_do (F.wants 111 true rfl (by kernel_rfl) rfl true rfl) (fun K hK => ?_)
      refine ow_call rfl rfl F 22 #[.int .i64 53] (ex_call 22 _ _ rfl rfl cy_ent_22 _ (map1 (F.e rfl))) (num_any _ _) (fun e v hR => ?_)
      obtain ⟨he, hw⟩ := hR
      refine ⟨.int .i64 53, he, ?_⟩; clear he F a; intro a F
      obtain rfl := hw
      refine hK _ _ ?_
      clear hK K
      refine list_val F (F.wants 111 true rfl (by kernel_rfl) rfl true rfl) rfl rfl (.bool false) (ex_bin .neq _ _ _ _ rfl .i64 _ _ (F.e rfl) rfl _ (b_neq (by decide))) ?_; clear F a; intro a F
      refine list_val F (F.wants 111 true rfl (by kernel_rfl) rfl true rfl) rfl rfl (.bool false) (ex_move _ rfl _ (F.e rfl)) ?_; clear F a; intro a F
      refine list_val F (F.wants 115 false rfl (by kernel_rfl) rfl true rfl) rfl rfl (.pointer (some ⟨g9, 0, none⟩)) (ex_fa _ _ _ rfl _ (F.e rfl) 0 cy_fa_69_0_0 ⟨g9, 0, none⟩ rfl) ?_; clear F a; intro a F
      refine list_val F (F.wants 115 false rfl (by kernel_rfl) rfl true rfl) rfl rfl (.slice A_68 0 c_68) (ex_load _ _ rfl _ (F.e rfl) _ (lv1 cy_one_55 (M.cell (i := 0) rfl (j := 0) rfl))) ?_; clear F a; intro a F
      refine list_val F (F.wants 115 false rfl (by kernel_rfl) rfl true rfl) rfl rfl (.int .i64 0) (ex_len _ _ rfl 34 cy_sl_55_34 _ _ _ (F.e rfl)) ?_; clear F a; intro a F
      refine list_val F (F.wants 115 false rfl (by kernel_rfl) rfl true rfl) rfl rfl (.bool false) (ex_bin .gtr _ _ _ _ rfl .i64 _ _ (F.e rfl) rfl _ (b_gtr (by decide))) ?_; clear F a; intro a F
      refine list_val F (F.wants 111 true rfl (by kernel_rfl) rfl true rfl) rfl rfl (.bool false) (ex_pick_f _ _ _ rfl (F.e rfl) _ (F.e rfl)) ?_; clear F a; intro a F
      refine list_val F (F.wants 108 false rfl (by kernel_rfl) rfl true rfl) rfl rfl (.bool false) (ex_pick_t _ _ _ rfl (F.e rfl) _ (F.e rfl)) ?_; clear F a; intro a F
      refine list_val F (wn rfl) rfl rfl (.bool false) (ex_pick_f _ _ _ rfl (F.e rfl) _ (F.e rfl)) ?_; clear F a; intro a F
      refine wpList_nil ?_
      replace F : Fr 272 a [(2, .bool false), (3, .slice (some adt) ts.length c), (4, .pointer (some ⟨g4, 0, none⟩)), (5, .slice (some ⟨gr, 0, none⟩) (f0.length + 1) cap), (6, .int .i64 i), (7, .int .i64 ((live f0).length + 1)), (8, .int .i64 k), (9, .pointer (some ⟨g9, 0, none⟩)), (10, .int .i64 53), (11, .int .i64 (o.kid.tmod 1000 - 1)), (12, .bool false), (33, .bool true), (39, .bool false), (55, .bool true), (122, .bool false)] := F.keep ⟨rfl, rfl, rfl, rfl, rfl, rfl, rfl, rfl, rfl, rfl, rfl, rfl, rfl, rfl, rfl, trivial⟩
      refine then_n ?_
      refine wp_cond_false (F.e rfl) ?_
      refine wp_skip ?_
      refine then_n ?_
      refine wp_seq ?_
      refine wp_region_lit ?_
      refine list_val F (wn rfl) rfl rfl (.bool false) (ex_move _ rfl _ (F.e rfl)) ?_; clear F a; intro a F
      refine wpList_nil ?_
      replace F : Fr 272 a [(2, .bool false), (3, .slice (some adt) ts.length c), (4, .pointer (some ⟨g4, 0, none⟩)), (5, .slice (some ⟨gr, 0, none⟩) (f0.length + 1) cap), (6, .int .i64 i), (7, .int .i64 ((live f0).length + 1)), (8, .int .i64 k), (9, .pointer (some ⟨g9, 0, none⟩)), (10, .int .i64 53), (11, .int .i64 (o.kid.tmod 1000 - 1)), (12, .bool false), (33, .bool true), (39, .bool false), (55, .bool true), (122, .bool false), (123, .bool false)] := F.keep ⟨rfl, rfl, rfl, rfl, rfl, rfl, rfl, rfl, rfl, rfl, rfl, rfl, rfl, rfl, rfl, rfl, trivial⟩
      refine then_n ?_
      refine wp_cond_false (F.e rfl) ?_
      refine wp_skip ?_
      refine only_n ?_
      exact ⟨f0, fl, next, Ar, cr, gr, cap, sp, F.keep ⟨rfl, rfl, rfl, rfl, rfl, rfl, rfl, trivial⟩, (by refine M.pick' [1, 2] _ ?_ (by decide); exact ⟨rfl, rfl, trivial⟩), O_r, hL, hcap, hqc, hcm, (by omega)⟩
     refine wp_only (fun ar wr => ∃ (A_68 : Option Addr), ∃ (c_68 : Nat), ∃ (g9 : Nat), Fr 272 ar [(2, .bool false), (3, .slice (some adt) ts.length c), (4, .pointer (some ⟨g4, 0, none⟩)), (5, .slice (some ⟨gr, 0, none⟩) (f0.length + 1) cap), (6, .int .i64 i), (7, .int .i64 ((live f0).length + 1)), (8, .int .i64 k), (9, .pointer (some ⟨g9, 0, none⟩)), (10, .int .i64 53), (33, .bool true), (39, .bool false), (55, .bool true)] ∧ Mm w wr [⟨g9, #[.slice A_68 0 c_68, .int .u64 0], 69⟩, ⟨g4, #[.slice Ar ((live f0).length + 1) cr, .int .u64 next], 69⟩, ⟨gr, (((f0 ++ [fl]).flatMap Fate.cs ++ sp).toArray), 96⟩] ∧ RO wr Ar cr ⟨live f0 ++ [fl.key], next⟩) ?_ ?_
     ·
      refine region_any cy_follows_mixedOrders M ?_; clear M; intro wD M hb
      replace O_r := O_r.below hb
      clear hb; try clear v
      have hS : Below wD.heap.size wD wD := Below.refl _ _; have MD := M
      have D_O_r := O_r
      refine any_val F 0 rfl (by kernel_rfl) (wn rfl) rfl rfl (.agg #[.slice Ar ((live f0).length + 1) cr, .int .u64 next]) (fun w' hS' => ex_load _ _ rfl _ (F.e rfl) _ (lvr (cs := [.slice Ar ((live f0).length + 1) cr, .int .u64 next]) cy_row_69_2 ((MD.below hS').at (i := 0) rfl))) hS ?_; clear F a; intro a F
      refine any_val F 1 rfl (by kernel_rfl) (wn rfl) rfl rfl (.slice (some adt) ts.length c) (fun w' hS' => ex_move _ rfl _ (F.e rfl)) hS ?_; clear F a; intro a F
      refine any_val F 2 rfl (by kernel_rfl) (wn rfl) rfl rfl (.int .i64 i) (fun w' hS' => ex_move _ rfl _ (F.e rfl)) hS ?_; clear F a; intro a F
      refine any_val F 3 rfl (by kernel_rfl) (wn rfl) rfl rfl (.pointer (some (adt.add (i * 35)))) (fun w' hS' => ex_ix _ _ _ rfl 35 cy_sl_92_35 adt _ _ (F.e rfl) .i64 _ (F.e rfl) i rfl (by omega) (adt.add (i * 35)) rfl) hS ?_; clear F a; intro a F
      refine any_val F 4 rfl (by kernel_rfl) (wn rfl) rfl rfl (.pointer (some ((adt.add (i * 35)).add 34))) (fun w' hS' => ex_fa _ _ _ rfl _ (F.e rfl) 34 cy_fa_99_3_34 ((adt.add (i * 35)).add 34) rfl) hS ?_; clear F a; intro a F
      refine any_val F 5 rfl (by kernel_rfl) (wn rfl) rfl rfl (.int .u64 o.kid) (fun w' hS' => ex_load _ _ rfl _ (F.e rfl) _ (lv1 cy_one_67 ((zt.below (MD.below hS').bel).cell 34 _ (Turn.cs_34 _)))) hS ?_; clear F a; intro a F
      refine any_val F 6 rfl (by kernel_rfl) (wn rfl) rfl rfl (.slice (some adt) ts.length c) (fun w' hS' => ex_move _ rfl _ (F.e rfl)) hS ?_; clear F a; intro a F
      refine any_val F 7 rfl (by kernel_rfl) (wn rfl) rfl rfl (.int .i64 i) (fun w' hS' => ex_move _ rfl _ (F.e rfl)) hS ?_; clear F a; intro a F
      refine any_val F 8 rfl (by kernel_rfl) (wn rfl) rfl rfl (.pointer (some (adt.add (i * 35)))) (fun w' hS' => ex_ix _ _ _ rfl 35 cy_sl_92_35 adt _ _ (F.e rfl) .i64 _ (F.e rfl) i rfl (by omega) (adt.add (i * 35)) rfl) hS ?_; clear F a; intro a F
      refine any_val F 9 rfl (by kernel_rfl) (wn rfl) rfl rfl (.pointer (some ((adt.add (i * 35)).add 1))) (fun w' hS' => ex_fa _ _ _ rfl _ (F.e rfl) 1 cy_fa_99_1_1 ((adt.add (i * 35)).add 1) rfl) hS ?_; clear F a; intro a F
      refine any_val F 10 rfl (by kernel_rfl) (wn rfl) rfl rfl (.agg o.sec.cs.toArray) (fun w' hS' => ex_load _ _ rfl _ (F.e rfl) _ (lvr (cs := o.sec.cs) (by rw [Bs.cs_len]; exact cy_row_70_32) (turn_sec ((zt.below (MD.below hS').bel))))) hS ?_; clear F a; intro a F
      refine any_ready [11, 15] (by kernel_rfl) (by simp) ?_
      refine ready_do rfl (wn rfl) (fun K hK => ?_) ?_
      ·
       refine ow_call rfl rfl F 16 #[.agg #[.slice Ar ((live f0).length + 1) cr, .int .u64 next], .int .u64 o.kid, .agg o.sec.cs.toArray] (ex_call 16 _ _ rfl rfl cy_ent_16 _ (map3 (F.e rfl) (F.e rfl) (F.e rfl))) (dis_none hL hno _ _ _ _ O_r) (fun e v hR => ?_)
       obtain ⟨A_68, c_68, he, hb⟩ := hR
       refine ⟨.tuple #[.agg #[.slice A_68 0 c_68, .int .u64 0], .int .i64 53], he, ?_⟩; clear he F a; intro a F
       refine hK _ _ (S_below hS hb) ?_
       replace hS := S_below hS hb
       clear hK K
       replace O_r := O_r.below hb
       replace M := M.below hb; clear hb; try clear wD
       refine any_val F 12 rfl (by kernel_rfl) (wn rfl) rfl rfl (.tuple #[.agg #[.slice A_68 0 c_68, .int .u64 0], .int .i64 53]) (fun w' hS' => ex_move _ rfl _ (F.e rfl)) hS ?_; clear F a; intro a F
       refine any_val F 13 rfl (by kernel_rfl) (wn rfl) rfl rfl (.agg #[.slice A_68 0 c_68, .int .u64 0]) (fun w' hS' => ex_extract _ _ rfl _ (F.e rfl) _ rfl) hS ?_; clear F a; intro a F
       refine any_val F 14 rfl (by kernel_rfl) (wn rfl) rfl rfl (.int .i64 53) (fun w' hS' => ex_extract _ _ rfl _ (F.e rfl) _ rfl) hS ?_; clear F a; intro a F
       refine any_ready [15] (by kernel_rfl) (by simp) ?_
       refine ready_do rfl (wn rfl) (fun K hK => ?_) AllReadyH.nil
       refine ow_alloc F M rfl rfl 69 rfl (.agg #[.slice none 0 0, .int .u64 0]) z69 #[.slice none 0 0, .int .u64 0] rfl ?_
       clear F M a; intro a g9 u F M hb hg
       have los_g9 := Nat.le_trans hS.size hg
       refine hK _ _ (S_below hS hb) ?_
       replace hS := S_below hS hb
       clear hK K
       have K_O_r := O_r
       replace O_r := O_r.below hb
       have hz_g9 := hb; have lo_g9 := hg
       clear hb hg; try clear v
       refine any_ready [16] (by kernel_rfl) (by simp) ?_
       refine ready_do rfl (wn rfl) (fun K hK => ?_) AllReadyH.nil
       refine ow_put F M rfl 69 _ _ rfl 0 _ #[.slice none 0 0, .int .u64 0] _ rfl (F.e rfl) #[.slice A_68 0 c_68, .int .u64 0] (F.e rfl) (sz_row (m := 2) cy_row_69_2) rfl (by simp [Value.oneCell']) ?_
       clear F a; have Mo := M; clear M; intro a v F M hgr
       refine hK _ _ (S_grown hS hgr los_g9) ?_
       replace hS := S_grown hS hgr los_g9
       clear hK K
       have hzz := S_grown hz_g9 hgr lo_g9
       replace O_r := K_O_r.below hzz
       clear hzz hz_g9 lo_g9 K_O_r
       clear Mo hgr; try clear u
       replace M : Mm w v [⟨g9, #[.slice A_68 0 c_68, .int .u64 0], 69⟩, ⟨g4, #[.slice Ar ((live f0).length + 1) cr, .int .u64 next], 69⟩, ⟨gr, (((f0 ++ [fl]).flatMap Fate.cs ++ sp).toArray), 96⟩] := M
       refine any_val F 17 rfl (by kernel_rfl) (wn rfl) rfl rfl (.int .i64 53) (fun w' hS' => ex_assign _ rfl _ (F.e rfl)) hS ?_; clear F a; intro a F
       refine any_done (by kernel_rfl) ?_
       exact ⟨A_68, c_68, g9, F.keep ⟨rfl, rfl, rfl, rfl, rfl, rfl, rfl, rfl, rfl, rfl, rfl, rfl, trivial⟩, (by refine M.pick' [0, 1, 2] _ ?_ (by decide); exact ⟨rfl, rfl, rfl, trivial⟩), O_r⟩
      refine ready_do rfl (wn rfl) (fun K hK => ?_) AllReadyH.nil
      refine ow_alloc F M rfl rfl 69 rfl (.agg #[.slice none 0 0, .int .u64 0]) z69 #[.slice none 0 0, .int .u64 0] rfl ?_
      clear F M a; intro a g9 v F M hb hg
      have los_g9 := Nat.le_trans hS.size hg
      refine hK _ _ (S_below hS hb) ?_
      replace hS := S_below hS hb
      clear hK K
      have K_O_r := O_r
      replace O_r := O_r.below hb
      have hz_g9 := hb; have lo_g9 := hg
      clear hb hg; try clear wD
      refine any_ready [11] (by kernel_rfl) (by simp) ?_
      refine ready_do rfl (wn rfl) (fun K hK => ?_) AllReadyH.nil
      refine ow_call rfl rfl F 16 #[.agg #[.slice Ar ((live f0).length + 1) cr, .int .u64 next], .int .u64 o.kid, .agg o.sec.cs.toArray] (ex_call 16 _ _ rfl rfl cy_ent_16 _ (map3 (F.e rfl) (F.e rfl) (F.e rfl))) (dis_none hL hno _ _ _ _ O_r) (fun e u hR => ?_)
      obtain ⟨A_68, c_68, he, hb⟩ := hR
      refine ⟨.tuple #[.agg #[.slice A_68 0 c_68, .int .u64 0], .int .i64 53], he, ?_⟩; clear he F a; intro a F
      refine hK _ _ (S_below hS hb) ?_
      replace hS := S_below hS hb
      clear hK K
      replace O_r := O_r.below hb
      replace hz_g9 := S_below hz_g9 hb
      replace M := M.below hb; clear hb; try clear v
      refine any_val F 12 rfl (by kernel_rfl) (wn rfl) rfl rfl (.tuple #[.agg #[.slice A_68 0 c_68, .int .u64 0], .int .i64 53]) (fun w' hS' => ex_move _ rfl _ (F.e rfl)) hS ?_; clear F a; intro a F
      refine any_val F 13 rfl (by kernel_rfl) (wn rfl) rfl rfl (.agg #[.slice A_68 0 c_68, .int .u64 0]) (fun w' hS' => ex_extract _ _ rfl _ (F.e rfl) _ rfl) hS ?_; clear F a; intro a F
      refine any_val F 14 rfl (by kernel_rfl) (wn rfl) rfl rfl (.int .i64 53) (fun w' hS' => ex_extract _ _ rfl _ (F.e rfl) _ rfl) hS ?_; clear F a; intro a F
      refine any_ready [16] (by kernel_rfl) (by simp) ?_
      refine ready_do rfl (wn rfl) (fun K hK => ?_) AllReadyH.nil
      refine ow_put F M rfl 69 _ _ rfl 0 _ #[.slice none 0 0, .int .u64 0] _ rfl (F.e rfl) #[.slice A_68 0 c_68, .int .u64 0] (F.e rfl) (sz_row (m := 2) cy_row_69_2) rfl (by simp [Value.oneCell']) ?_
      clear F a; have Mo := M; clear M; intro a v F M hgr
      refine hK _ _ (S_grown hS hgr los_g9) ?_
      replace hS := S_grown hS hgr los_g9
      clear hK K
      have hzz := S_grown hz_g9 hgr lo_g9
      replace O_r := K_O_r.below hzz
      clear hzz hz_g9 lo_g9 K_O_r
      clear Mo hgr; try clear u
      replace M : Mm w v [⟨g9, #[.slice A_68 0 c_68, .int .u64 0], 69⟩, ⟨g4, #[.slice Ar ((live f0).length + 1) cr, .int .u64 next], 69⟩, ⟨gr, (((f0 ++ [fl]).flatMap Fate.cs ++ sp).toArray), 96⟩] := M
      refine any_val F 17 rfl (by kernel_rfl) (wn rfl) rfl rfl (.int .i64 53) (fun w' hS' => ex_assign _ rfl _ (F.e rfl)) hS ?_; clear F a; intro a F
      refine any_done (by kernel_rfl) ?_
      exact ⟨A_68, c_68, g9, F.keep ⟨rfl, rfl, rfl, rfl, rfl, rfl, rfl, rfl, rfl, rfl, rfl, rfl, trivial⟩, (by refine M.pick' [0, 1, 2] _ ?_ (by decide); exact ⟨rfl, rfl, rfl, trivial⟩), O_r⟩
     clear F M a O_r
     intro a u hR; obtain ⟨A_68, c_68, g9, F, M, O_r⟩ := hR; try clear v
     refine then_n ?_
     refine wp_seq ?_
     refine wp_region_lit ?_
     refine list_val F (wn rfl) rfl rfl (.slice (some adt) ts.length c) (ex_move _ rfl _ (F.e rfl)) ?_; clear F a; intro a F
     refine list_val F (wn rfl) rfl rfl (.int .i64 i) (ex_move _ rfl _ (F.e rfl)) ?_; clear F a; intro a F
     refine list_val F (wn rfl) rfl rfl (.pointer (some (adt.add (i * 35)))) (ex_ix _ _ _ rfl 35 cy_sl_92_35 adt _ _ (F.e rfl) .i64 _ (F.e rfl) i rfl (by omega) (adt.add (i * 35)) rfl) ?_; clear F a; intro a F
     refine list_val F (wn rfl) rfl rfl (.pointer (some ((adt.add (i * 35)).add 34))) (ex_fa _ _ _ rfl _ (F.e rfl) 34 cy_fa_99_3_34 ((adt.add (i * 35)).add 34) rfl) ?_; clear F a; intro a F
     refine list_val F (wn rfl) rfl rfl (.int .u64 o.kid) (ex_load _ _ rfl _ (F.e rfl) _ (lv1 cy_one_67 ((zt.below M.bel).cell 34 _ (Turn.cs_34 _)))) ?_; clear F a; intro a F
     refine list_val F (wn rfl) rfl rfl (.int .u64 (o.kid.tmod 1000)) (ex_bin .rem _ _ _ _ rfl .u64 _ _ (F.e rfl) rfl _ (b_rem (by decide) rfl)) ?_; clear F a; intro a F
     refine list_val F (wn rfl) rfl rfl (.int .i64 (o.kid.tmod 1000)) (ex_conv _ _ _ rfl _ .i64 cy_cv_67_3_i64 _ (F.e rfl) _ (w_i64 (by omega) (by omega))) ?_; clear F a; intro a F
     refine list_val F (wn rfl) rfl rfl (.int .i64 (o.kid.tmod 1000 - 1)) (ex_bin .sub _ _ _ _ rfl .i64 _ _ (F.e rfl) rfl _ (b_sub (w_i64 (by omega) (by omega)))) ?_; clear F a; intro a F
     refine list_val F (wn rfl) rfl rfl (.int .i64 (o.kid.tmod 1000 - 1)) (ex_assign _ rfl _ (F.e rfl)) ?_; clear F a; intro a F
     refine wpList_nil ?_
     replace F : Fr 272 a [(2, .bool false), (3, .slice (some adt) ts.length c), (4, .pointer (some ⟨g4, 0, none⟩)), (5, .slice (some ⟨gr, 0, none⟩) (f0.length + 1) cap), (6, .int .i64 i), (7, .int .i64 ((live f0).length + 1)), (8, .int .i64 k), (9, .pointer (some ⟨g9, 0, none⟩)), (10, .int .i64 53), (11, .int .i64 (o.kid.tmod 1000 - 1)), (33, .bool true), (39, .bool false), (55, .bool true)] := F.keep ⟨rfl, rfl, rfl, rfl, rfl, rfl, rfl, rfl, rfl, rfl, rfl, rfl, rfl, trivial⟩
     refine then_n ?_
     refine wp_seq ?_
     refine wp_region_lit ?_
     refine list_val F (wn rfl) rfl rfl (.slice (some adt) ts.length c) (ex_move _ rfl _ (F.e rfl)) ?_; clear F a; intro a F
     refine list_val F (wn rfl) rfl rfl (.int .i64 i) (ex_move _ rfl _ (F.e rfl)) ?_; clear F a; intro a F
     refine list_val F (wn rfl) rfl rfl (.pointer (some (adt.add (i * 35)))) (ex_ix _ _ _ rfl 35 cy_sl_92_35 adt _ _ (F.e rfl) .i64 _ (F.e rfl) i rfl (by omega) (adt.add (i * 35)) rfl) ?_; clear F a; intro a F
     refine list_val F (wn rfl) rfl rfl (.pointer (some ((adt.add (i * 35)).add 34))) (ex_fa _ _ _ rfl _ (F.e rfl) 34 cy_fa_99_3_34 ((adt.add (i * 35)).add 34) rfl) ?_; clear F a; intro a F
     refine list_val F (wn rfl) rfl rfl (.int .u64 o.kid) (ex_load _ _ rfl _ (F.e rfl) _ (lv1 cy_one_67 ((zt.below M.bel).cell 34 _ (Turn.cs_34 _)))) ?_; clear F a; intro a F
     refine list_val F (wn rfl) rfl rfl (.bool true) (ex_bin .lss _ _ _ _ rfl .u64 _ _ (F.e rfl) rfl _ (b_lss (decide_eq_true (by omega)))) ?_; clear F a; intro a F
     refine list_val F (wn rfl) rfl rfl (.bool true) (ex_move _ rfl _ (F.e rfl)) ?_; clear F a; intro a F
     refine list_val F (F.wants 85 true rfl (by kernel_rfl) rfl true rfl) rfl rfl (.int .i64 (o.kid.tmod 1000 - 1)) (ex_move _ rfl _ (F.e rfl)) ?_; clear F a; intro a F
     refine list_val F (F.wants 85 true rfl (by kernel_rfl) rfl true rfl) rfl rfl (.bool true) (ex_bin .geq _ _ _ _ rfl .i64 _ _ (F.e rfl) rfl _ (b_geq (decide_eq_true (by omega)))) ?_; clear F a; intro a F
     refine list_val F (wn rfl) rfl rfl (.bool true) (ex_pick_t _ _ _ rfl (F.e rfl) _ (F.e rfl)) ?_; clear F a; intro a F
     refine list_val F (wn rfl) rfl rfl (.bool true) (ex_move _ rfl _ (F.e rfl)) ?_; clear F a; intro a F
     refine list_val F (F.wants 89 true rfl (by kernel_rfl) rfl true rfl) rfl rfl (.int .i64 (o.kid.tmod 1000 - 1)) (ex_move _ rfl _ (F.e rfl)) ?_; clear F a; intro a F
     refine list_val F (F.wants 89 true rfl (by kernel_rfl) rfl true rfl) rfl rfl (.slice (some ⟨gr, 0, none⟩) (f0.length + 1) cap) (ex_move _ rfl _ (F.e rfl)) ?_; clear F a; intro a F
     refine list_val F (F.wants 89 true rfl (by kernel_rfl) rfl true rfl) rfl rfl (.int .i64 (((f0.length + 1) : Nat) : Int)) (ex_len _ _ rfl 35 cy_sl_97_35 _ _ _ (F.e rfl)) ?_; clear F a; intro a F
     refine list_val F (F.wants 89 true rfl (by kernel_rfl) rfl true rfl) rfl rfl (.bool false) (ex_bin .lss _ _ _ _ rfl .i64 _ _ (F.e rfl) (F.e rfl) _ (b_lss (decide_eq_false (fun hlt => hkn ⟨(o.kid - 1).toNat, by omega, by omega⟩)))) ?_; clear F a; intro a F
     refine list_val F (wn rfl) rfl rfl (.bool false) (ex_pick_t _ _ _ rfl (F.e rfl) _ (F.e rfl)) ?_; clear F a; intro a F
     refine list_val F (wn rfl) rfl rfl (.bool false) (ex_move _ rfl _ (F.e rfl)) ?_; clear F a; intro a F
     refine list_skip F (F.wants 95 false rfl (by kernel_rfl) rfl false rfl) rfl rfl ?_; clear F a; intro a F
     refine list_skip F (F.wants 95 false rfl (by kernel_rfl) rfl false rfl) rfl rfl ?_; clear F a; intro a F
     refine list_skip F (F.wants 95 false rfl (by kernel_rfl) rfl false rfl) rfl rfl ?_; clear F a; intro a F
     refine list_skip F (F.wants 95 false rfl (by kernel_rfl) rfl false rfl) rfl rfl ?_; clear F a; intro a F
     refine list_skip F (F.wants 95 false rfl (by kernel_rfl) rfl false rfl) rfl rfl ?_; clear F a; intro a F
     refine list_skip F (F.wants 95 false rfl (by kernel_rfl) rfl false rfl) rfl rfl ?_; clear F a; intro a F
     refine list_val F (wn rfl) rfl rfl (.bool false) (ex_pick_f _ _ _ rfl (F.e rfl) _ rfl) ?_; clear F a; intro a F
     refine list_val F (wn rfl) rfl rfl (.bool false) (ex_assign _ rfl _ (F.e rfl)) ?_; clear F a; intro a F
     refine wpList_nil ?_
     replace F : Fr 272 a [(2, .bool false), (3, .slice (some adt) ts.length c), (4, .pointer (some ⟨g4, 0, none⟩)), (5, .slice (some ⟨gr, 0, none⟩) (f0.length + 1) cap), (6, .int .i64 i), (7, .int .i64 ((live f0).length + 1)), (8, .int .i64 k), (9, .pointer (some ⟨g9, 0, none⟩)), (10, .int .i64 53), (11, .int .i64 (o.kid.tmod 1000 - 1)), (12, .bool false), (33, .bool true), (39, .bool false), (55, .bool true)] := F.keep ⟨rfl, rfl, rfl, rfl, rfl, rfl, rfl, rfl, rfl, rfl, rfl, rfl, rfl, rfl, trivial⟩
     refine then_n ?_
     refine wp_seq ?_
     refine wp_seq ?_
     refine wp_region_lit ?_
     refine list_val F (wn rfl) rfl rfl (.int .i64 53) (ex_move _ rfl _ (F.e rfl)) ?_; clear F a; intro a F
     refine list_do (wn rfl) (fun K hK => ?_)
     refine ow_call rfl rfl F 22 #[.int .i64 53] (ex_call 22 _ _ rfl rfl cy_ent_22 _ (map1 (F.e rfl))) (num_any _ _) (fun e v hR => ?_)
     obtain ⟨he, hw⟩ := hR
     refine ⟨.int .i64 53, he, ?_⟩; clear he F a; intro a F
     obtain rfl := hw
     refine hK _ _ ?_
     clear hK K
     refine list_val F (wn rfl) rfl rfl (.bool false) (ex_bin .eql _ _ _ _ rfl .i64 _ _ (F.e rfl) rfl _ (b_eql (by decide))) ?_; clear F a; intro a F
     refine list_val F (wn rfl) rfl rfl (.bool false) (ex_move _ rfl _ (F.e rfl)) ?_; clear F a; intro a F
     refine list_val F (wn rfl) rfl rfl (.bool false) (ex_neqb _ _ _ _ rfl cy_bool_4 false false (F.e rfl) (F.e rfl) false rfl) ?_; clear F a; intro a F
     refine list_val F (wn rfl) rfl rfl (.bool false) (ex_move _ rfl _ (F.e rfl)) ?_; clear F a; intro a F
     refine list_val F (F.wants 108 false rfl (by kernel_rfl) rfl true rfl) rfl rfl (.bool false) (ex_move _ rfl _ (F.e rfl)) ?_; clear F a; intro a F
     refine list_val F (F.wants 108 false rfl (by kernel_rfl) rfl true rfl) rfl rfl (.bool true) (ex_not _ _ rfl _ (F.e rfl) _ rfl) ?_; clear F a; intro a F
     refine list_val F (F.wants 108 false rfl (by kernel_rfl) rfl true rfl) rfl rfl (.bool true) (ex_move _ rfl _ (F.e rfl)) ?_; clear F a; intro a F
     refine list_val F (F.wants 111 true rfl (by kernel_rfl) rfl true rfl) rfl rfl (.int .i64 53) (ex_move _ rfl _ (F.e rfl)) ?_; clear F a; intro a F
     refine list_do (F.wants 111 true rfl (by kernel_rfl) rfl true rfl) (fun K hK => ?_)
     refine ow_call rfl rfl F 22 #[.int .i64 53] (ex_call 22 _ _ rfl rfl cy_ent_22 _ (map1 (F.e rfl))) (num_any _ _) (fun e v hR => ?_)
     obtain ⟨he, hw⟩ := hR
     refine ⟨.int .i64 53, he, ?_⟩; clear he F a; intro a F
     obtain rfl := hw
     refine hK _ _ ?_
     clear hK K
     refine list_val F (F.wants 111 true rfl (by kernel_rfl) rfl true rfl) rfl rfl (.bool false) (ex_bin .neq _ _ _ _ rfl .i64 _ _ (F.e rfl) rfl _ (b_neq (by decide))) ?_; clear F a; intro a F
     refine list_val F (F.wants 111 true rfl (by kernel_rfl) rfl true rfl) rfl rfl (.bool false) (ex_move _ rfl _ (F.e rfl)) ?_; clear F a; intro a F
     refine list_val F (F.wants 115 false rfl (by kernel_rfl) rfl true rfl) rfl rfl (.pointer (some ⟨g9, 0, none⟩)) (ex_fa _ _ _ rfl _ (F.e rfl) 0 cy_fa_69_0_0 ⟨g9, 0, none⟩ rfl) ?_; clear F a; intro a F
     refine list_val F (F.wants 115 false rfl (by kernel_rfl) rfl true rfl) rfl rfl (.slice A_68 0 c_68) (ex_load _ _ rfl _ (F.e rfl) _ (lv1 cy_one_55 (M.cell (i := 0) rfl (j := 0) rfl))) ?_; clear F a; intro a F
     refine list_val F (F.wants 115 false rfl (by kernel_rfl) rfl true rfl) rfl rfl (.int .i64 0) (ex_len _ _ rfl 34 cy_sl_55_34 _ _ _ (F.e rfl)) ?_; clear F a; intro a F
     refine list_val F (F.wants 115 false rfl (by kernel_rfl) rfl true rfl) rfl rfl (.bool false) (ex_bin .gtr _ _ _ _ rfl .i64 _ _ (F.e rfl) rfl _ (b_gtr (by decide))) ?_; clear F a; intro a F
     refine list_val F (F.wants 111 true rfl (by kernel_rfl) rfl true rfl) rfl rfl (.bool false) (ex_pick_f _ _ _ rfl (F.e rfl) _ (F.e rfl)) ?_; clear F a; intro a F
     refine list_val F (F.wants 108 false rfl (by kernel_rfl) rfl true rfl) rfl rfl (.bool false) (ex_pick_t _ _ _ rfl (F.e rfl) _ (F.e rfl)) ?_; clear F a; intro a F
     refine list_val F (wn rfl) rfl rfl (.bool false) (ex_pick_f _ _ _ rfl (F.e rfl) _ (F.e rfl)) ?_; clear F a; intro a F
     refine wpList_nil ?_
     replace F : Fr 272 a [(2, .bool false), (3, .slice (some adt) ts.length c), (4, .pointer (some ⟨g4, 0, none⟩)), (5, .slice (some ⟨gr, 0, none⟩) (f0.length + 1) cap), (6, .int .i64 i), (7, .int .i64 ((live f0).length + 1)), (8, .int .i64 k), (9, .pointer (some ⟨g9, 0, none⟩)), (10, .int .i64 53), (11, .int .i64 (o.kid.tmod 1000 - 1)), (12, .bool false), (33, .bool true), (39, .bool false), (55, .bool true), (122, .bool false)] := F.keep ⟨rfl, rfl, rfl, rfl, rfl, rfl, rfl, rfl, rfl, rfl, rfl, rfl, rfl, rfl, rfl, trivial⟩
     refine then_n ?_
     refine wp_cond_false (F.e rfl) ?_
     refine wp_skip ?_
     refine then_n ?_
     refine wp_seq ?_
     refine wp_region_lit ?_
     refine list_val F (wn rfl) rfl rfl (.bool false) (ex_move _ rfl _ (F.e rfl)) ?_; clear F a; intro a F
     refine wpList_nil ?_
     replace F : Fr 272 a [(2, .bool false), (3, .slice (some adt) ts.length c), (4, .pointer (some ⟨g4, 0, none⟩)), (5, .slice (some ⟨gr, 0, none⟩) (f0.length + 1) cap), (6, .int .i64 i), (7, .int .i64 ((live f0).length + 1)), (8, .int .i64 k), (9, .pointer (some ⟨g9, 0, none⟩)), (10, .int .i64 53), (11, .int .i64 (o.kid.tmod 1000 - 1)), (12, .bool false), (33, .bool true), (39, .bool false), (55, .bool true), (122, .bool false), (123, .bool false)] := F.keep ⟨rfl, rfl, rfl, rfl, rfl, rfl, rfl, rfl, rfl, rfl, rfl, rfl, rfl, rfl, rfl, rfl, trivial⟩
     refine then_n ?_
     refine wp_cond_false (F.e rfl) ?_
     refine wp_skip ?_
     refine only_n ?_
     exact ⟨f0, fl, next, Ar, cr, gr, cap, sp, F.keep ⟨rfl, rfl, rfl, rfl, rfl, rfl, rfl, trivial⟩, (by refine M.pick' [1, 2] _ ?_ (by decide); exact ⟨rfl, rfl, trivial⟩), O_r, hL, hcap, hqc, hcm, (by omega)⟩
    refine wp_region_lit ?_
    refine list_val F (wn rfl) rfl rfl (.slice (some adt) ts.length c) (ex_move _ rfl _ (F.e rfl)) ?_; clear F a; intro a F
    refine list_val F (wn rfl) rfl rfl (.int .i64 i) (ex_move _ rfl _ (F.e rfl)) ?_; clear F a; intro a F
    refine list_val F (wn rfl) rfl rfl (.pointer (some (adt.add (i * 35)))) (ex_ix _ _ _ rfl 35 cy_sl_92_35 adt _ _ (F.e rfl) .i64 _ (F.e rfl) i rfl (by omega) (adt.add (i * 35)) rfl) ?_; clear F a; intro a F
    refine list_val F (wn rfl) rfl rfl (.pointer (some (adt.add (i * 35)))) (ex_fa _ _ _ rfl _ (F.e rfl) 0 cy_fa_99_0_0 (adt.add (i * 35)) rfl) ?_; clear F a; intro a F
    refine list_val F (wn rfl) rfl rfl (.int .i64 o.act) (ex_load _ _ rfl _ (F.e rfl) _ (lv1 cy_one_3 ((zt.below M.bel).cell 0 _ (Turn.cs_0 _)))) ?_; clear F a; intro a F
    refine list_val F (wn rfl) rfl rfl (.bool false) (ex_bin .eql _ _ _ _ rfl .i64 _ _ (F.e rfl) rfl _ (b_eql (by simp [ha]))) ?_; clear F a; intro a F
    refine wpList_nil ?_
    replace F : Fr 272 a [(2, .bool false), (3, .slice (some adt) ts.length c), (4, .pointer (some ⟨g4, 0, none⟩)), (5, .slice (some ⟨gr, 0, none⟩) (f0.length + 1) cap), (6, .int .i64 i), (7, .int .i64 ((live f0).length + 1)), (8, .int .i64 k), (33, .bool true), (39, .bool false), (55, .bool false)] := F.keep ⟨rfl, rfl, rfl, rfl, rfl, rfl, rfl, rfl, rfl, rfl, trivial⟩
    refine then_n ?_
    refine wp_cond_false (F.e rfl) ?_
    refine wp_seq ?_
    by_cases ha1 : o.act = 1
    ·
     refine wp_region_lit ?_
     refine list_val F (wn rfl) rfl rfl (.slice (some adt) ts.length c) (ex_move _ rfl _ (F.e rfl)) ?_; clear F a; intro a F
     refine list_val F (wn rfl) rfl rfl (.int .i64 i) (ex_move _ rfl _ (F.e rfl)) ?_; clear F a; intro a F
     refine list_val F (wn rfl) rfl rfl (.pointer (some (adt.add (i * 35)))) (ex_ix _ _ _ rfl 35 cy_sl_92_35 adt _ _ (F.e rfl) .i64 _ (F.e rfl) i rfl (by omega) (adt.add (i * 35)) rfl) ?_; clear F a; intro a F
     refine list_val F (wn rfl) rfl rfl (.pointer (some (adt.add (i * 35)))) (ex_fa _ _ _ rfl _ (F.e rfl) 0 cy_fa_99_0_0 (adt.add (i * 35)) rfl) ?_; clear F a; intro a F
     refine list_val F (wn rfl) rfl rfl (.int .i64 o.act) (ex_load _ _ rfl _ (F.e rfl) _ (lv1 cy_one_3 ((zt.below M.bel).cell 0 _ (Turn.cs_0 _)))) ?_; clear F a; intro a F
     refine list_val F (wn rfl) rfl rfl (.bool true) (ex_bin .eql _ _ _ _ rfl .i64 _ _ (F.e rfl) rfl _ (b_eql (by simp [ha1]))) ?_; clear F a; intro a F
     refine wpList_nil ?_
     replace F : Fr 272 a [(2, .bool false), (3, .slice (some adt) ts.length c), (4, .pointer (some ⟨g4, 0, none⟩)), (5, .slice (some ⟨gr, 0, none⟩) (f0.length + 1) cap), (6, .int .i64 i), (7, .int .i64 ((live f0).length + 1)), (8, .int .i64 k), (33, .bool true), (39, .bool false), (55, .bool false), (152, .bool true)] := F.keep ⟨rfl, rfl, rfl, rfl, rfl, rfl, rfl, rfl, rfl, rfl, rfl, trivial⟩
     refine then_n ?_
     refine wp_cond_true (F.e rfl) ?_
     refine wp_seq ?_
     refine region_tail 6 cy_follows_mixedOrders (by kernel_rfl) M ?_; clear M; intro u M hb
     replace O_r := O_r.below hb
     clear hb; try clear v
     refine still_val F (wn rfl) rfl rfl (.agg #[.slice Ar ((live f0).length + 1) cr, .int .u64 next]) (ex_load _ _ rfl _ (F.e rfl) _ (lvr (cs := [.slice Ar ((live f0).length + 1) cr, .int .u64 next]) cy_row_69_2 (M.at (i := 0) rfl))) ?_; clear F a; intro a F
     refine still_val F (wn rfl) rfl rfl (.slice (some adt) ts.length c) (ex_move _ rfl _ (F.e rfl)) ?_; clear F a; intro a F
     refine still_val F (wn rfl) rfl rfl (.int .i64 i) (ex_move _ rfl _ (F.e rfl)) ?_; clear F a; intro a F
     refine still_val F (wn rfl) rfl rfl (.pointer (some (adt.add (i * 35)))) (ex_ix _ _ _ rfl 35 cy_sl_92_35 adt _ _ (F.e rfl) .i64 _ (F.e rfl) i rfl (by omega) (adt.add (i * 35)) rfl) ?_; clear F a; intro a F
     refine still_val F (wn rfl) rfl rfl (.pointer (some ((adt.add (i * 35)).add 33))) (ex_fa _ _ _ rfl _ (F.e rfl) 33 cy_fa_99_2_33 ((adt.add (i * 35)).add 33) rfl) ?_; clear F a; intro a F
     refine still_val F (wn rfl) rfl rfl (.int .i64 o.at_) (ex_load _ _ rfl _ (F.e rfl) _ (lv1 cy_one_2 ((zt.below M.bel).cell 33 _ (Turn.cs_33 _)))) ?_; clear F a; intro a F
     refine still_end ?_
     refine list_do (wn rfl) (fun K hK => ?_)
     refine ow_call rfl rfl F 14 #[.agg #[.slice Ar ((live f0).length + 1) cr, .int .u64 next], .int .i64 o.at_] (ex_call 14 _ _ rfl rfl cy_ent_14 _ (map2 (F.e rfl) (F.e rfl))) (pr_c hL _ _ _ _ O_r) (fun e v hR => ?_)
     obtain ⟨A_159, c_159, he, O_159, hb⟩ := hR
     refine ⟨.agg #[.slice A_159 ((live (f0.map (prF o.at_))).length + 1) c_159, .int .u64 next], he, ?_⟩; clear he F a; intro a F
     refine hK _ _ ?_
     clear hK K
     replace M := M.below hb; clear hb; try clear u
     clear O_r
     refine list_do (wn rfl) (fun K hK => ?_)
     refine ow_put F M rfl 69 _ _ rfl 0 _ #[.slice Ar ((live f0).length + 1) cr, .int .u64 next] _ rfl (F.e rfl) #[.slice A_159 ((live (f0.map (prF o.at_))).length + 1) c_159, .int .u64 next] (F.e rfl) (sz_row (m := 2) cy_row_69_2) rfl (by simp [Value.oneCell']) ?_
     clear F a; have Mo := M; clear M; intro a u F M hgr
     refine hK _ _ ?_
     clear hK K
     replace O_159 := O_159.grown (Mo.blk 0 _ rfl) (by show 107 ≠ 69; decide) hgr
     clear Mo hgr; try clear v
     replace M : Mm w u [⟨g4, #[.slice A_159 ((live (f0.map (prF o.at_))).length + 1) c_159, .int .u64 next], 69⟩, ⟨gr, (((f0 ++ [fl]).flatMap Fate.cs ++ sp).toArray), 96⟩] := M
     refine wpList_nil ?_
     replace F : Fr 272 a [(2, .bool false), (3, .slice (some adt) ts.length c), (4, .pointer (some ⟨g4, 0, none⟩)), (5, .slice (some ⟨gr, 0, none⟩) (f0.length + 1) cap), (6, .int .i64 i), (7, .int .i64 ((live f0).length + 1)), (8, .int .i64 k), (33, .bool true), (39, .bool false), (55, .bool false), (152, .bool true)] := F.keep ⟨rfl, rfl, rfl, rfl, rfl, rfl, rfl, rfl, rfl, rfl, rfl, trivial⟩
     refine then_n ?_
     refine wp_seq ?_
     have O_r := O_159
     clear O_159
     refine wp_region_lit ?_
     refine list_val F (wn rfl) rfl rfl (.int .i64 0) (ex_assign _ rfl _ rfl) ?_; clear F a; intro a F
     refine wpList_nil ?_
     replace F : Fr 272 a [(2, .bool false), (3, .slice (some adt) ts.length c), (4, .pointer (some ⟨g4, 0, none⟩)), (5, .slice (some ⟨gr, 0, none⟩) (f0.length + 1) cap), (6, .int .i64 i), (7, .int .i64 ((live f0).length + 1)), (8, .int .i64 k), (13, .int .i64 0), (33, .bool true), (39, .bool false), (55, .bool false), (152, .bool true)] := F.keep ⟨rfl, rfl, rfl, rfl, rfl, rfl, rfl, rfl, rfl, rfl, rfl, rfl, trivial⟩
     refine then_n ?_
     refine wp_block ?_
     have hp0 : prun o.at_ (f0 ++ [fl]) 0 = f0 ++ [fl] := prun_zero _ _
     rw [← hp0] at M
     refine wp_loopN (fun mq ar wr => ∃ (k : Nat), Fr 272 ar [(2, .bool false), (3, .slice (some adt) ts.length c), (4, .pointer (some ⟨g4, 0, none⟩)), (5, .slice (some ⟨gr, 0, none⟩) (f0.length + 1) cap), (6, .int .i64 i), (7, .int .i64 ((live f0).length + 1)), (13, .int .i64 k), (33, .bool true), (39, .bool false), (55, .bool false), (152, .bool true)] ∧ Mm w wr [⟨g4, #[.slice A_159 ((live (f0.map (prF o.at_))).length + 1) c_159, .int .u64 next], 69⟩, ⟨gr, (((prun o.at_ (f0 ++ [fl]) k).flatMap Fate.cs ++ sp).toArray), 96⟩] ∧ RO wr A_159 c_159 ⟨live (f0.map (prF o.at_)) ++ [fl.key], next⟩ ∧ k ≤ f0.length + 1 ∧ mq + k = (f0.length + 1)) (f0.length + 1) ?_ ?_
     ·
      exact ⟨0, F.keep ⟨rfl, rfl, rfl, rfl, rfl, rfl, rfl, rfl, rfl, rfl, rfl, trivial⟩, (by refine M.pick' [0, 1] _ ?_ (by decide); exact ⟨rfl, rfl, trivial⟩), O_r, (Nat.zero_le _), (by omega)⟩
     clear F M a O_r
     rintro mq a v ⟨k, F, M, O_r, hk1, hq⟩; try clear u
     by_cases hk : k < f0.length + 1
     ·
      obtain ⟨f, hfk⟩ : ∃ f, (f0 ++ [fl])[k]? = some f := ⟨_, List.getElem?_eq_getElem (by simp; omega)⟩
      have hgk := prun_get (t := o.at_) hfk
      have hsz : k * 35 + 35 ≤ (f0.length + 1) * 35 := by omega
      by_cases hgn : f.gone = true
      ·
       have hpr : ({ f with gone := true } : Fate) = prF o.at_ f := by unfold prF; rw [hgn]; rfl
       refine wp_seq ?_
       refine wp_seq ?_
       refine wp_region_lit ?_
       refine list_val F (wn rfl) rfl rfl (.int .i64 k) (ex_move _ rfl _ (F.e rfl)) ?_; clear F a; intro a F
       refine list_val F (wn rfl) rfl rfl (.slice (some ⟨gr, 0, none⟩) (f0.length + 1) cap) (ex_move _ rfl _ (F.e rfl)) ?_; clear F a; intro a F
       refine list_val F (wn rfl) rfl rfl (.int .i64 (((f0.length + 1) : Nat) : Int)) (ex_len _ _ rfl 35 cy_sl_97_35 _ _ _ (F.e rfl)) ?_; clear F a; intro a F
       refine list_val F (wn rfl) rfl rfl (.bool true) (ex_bin .lss _ _ _ _ rfl .i64 _ _ (F.e rfl) (F.e rfl) _ (b_lss (decide_eq_true (by omega)))) ?_; clear F a; intro a F
       refine wpList_nil ?_
       replace F : Fr 272 a [(2, .bool false), (3, .slice (some adt) ts.length c), (4, .pointer (some ⟨g4, 0, none⟩)), (5, .slice (some ⟨gr, 0, none⟩) (f0.length + 1) cap), (6, .int .i64 i), (7, .int .i64 ((live f0).length + 1)), (13, .int .i64 k), (33, .bool true), (39, .bool false), (55, .bool false), (152, .bool true), (163, .bool true)] := F.keep ⟨rfl, rfl, rfl, rfl, rfl, rfl, rfl, rfl, rfl, rfl, rfl, rfl, trivial⟩
       refine then_n ?_
       refine wp_cond_true (F.e rfl) ?_
       refine wp_skip ?_
       refine then_n ?_
       refine wp_seq ?_
       refine wp_block ?_
       refine region_tail 30 cy_follows_mixedOrders (by kernel_rfl) M ?_; clear M; intro u M hb
       replace O_r := O_r.below hb
       clear hb; try clear v
       refine still_val F (wn rfl) rfl rfl (.slice (some ⟨gr, 0, none⟩) (f0.length + 1) cap) (ex_move _ rfl _ (F.e rfl)) ?_; clear F a; intro a F
       refine still_val F (wn rfl) rfl rfl (.int .i64 k) (ex_move _ rfl _ (F.e rfl)) ?_; clear F a; intro a F
       refine still_val F (wn rfl) rfl rfl (.slice (some ⟨gr, 0, none⟩) (f0.length + 1) cap) (ex_move _ rfl _ (F.e rfl)) ?_; clear F a; intro a F
       refine still_val F (wn rfl) rfl rfl (.int .i64 k) (ex_move _ rfl _ (F.e rfl)) ?_; clear F a; intro a F
       refine still_val F (wn rfl) rfl rfl (.pointer (some ⟨gr, k * 35, none⟩)) (ex_ix _ _ _ rfl 35 cy_sl_97_35 ⟨gr, 0, none⟩ _ _ (F.e rfl) .i64 _ (F.e rfl) k rfl (by omega) ⟨gr, k * 35, none⟩ ad0) ?_; clear F a; intro a F
       refine still_val F (wn rfl) rfl rfl (.pointer (some ⟨gr, k * 35 + 34, none⟩)) (ex_fa _ _ _ rfl _ (F.e rfl) 34 cy_fa_96_3_34 ⟨gr, k * 35 + 34, none⟩ rfl) ?_; clear F a; intro a F
       refine still_val F (wn rfl) rfl rfl (.bool true) (ex_load _ _ rfl _ (F.e rfl) _ (lv1 cy_one_4 (M.cell (i := 1) rfl (j := k * 35 + 34) (rows_arr Fate.cs_len hgk (by rw [Fate.cs_34, hgn]))))) ?_; clear F a; intro a F
       refine still_val F (wn rfl) rfl rfl (.bool true) (ex_move _ rfl _ (F.e rfl)) ?_; clear F a; intro a F
       refine still_skip F (F.wants 173 true rfl (by kernel_rfl) rfl false rfl) rfl rfl ?_; clear F a; intro a F
       refine still_skip F (F.wants 173 true rfl (by kernel_rfl) rfl false rfl) rfl rfl ?_; clear F a; intro a F
       refine still_skip F (F.wants 173 true rfl (by kernel_rfl) rfl false rfl) rfl rfl ?_; clear F a; intro a F
       refine still_skip F (F.wants 173 true rfl (by kernel_rfl) rfl false rfl) rfl rfl ?_; clear F a; intro a F
       refine still_skip F (F.wants 173 true rfl (by kernel_rfl) rfl false rfl) rfl rfl ?_; clear F a; intro a F
       refine still_skip F (F.wants 173 true rfl (by kernel_rfl) rfl false rfl) rfl rfl ?_; clear F a; intro a F
       refine still_skip F (F.wants 173 true rfl (by kernel_rfl) rfl false rfl) rfl rfl ?_; clear F a; intro a F
       refine still_skip F (F.wants0 180 rfl (by kernel_rfl) rfl) rfl rfl ?_; clear F a; intro a F
       refine still_skip F (F.wants0 180 rfl (by kernel_rfl) rfl) rfl rfl ?_; clear F a; intro a F
       refine still_skip F (F.wants0 180 rfl (by kernel_rfl) rfl) rfl rfl ?_; clear F a; intro a F
       refine still_skip F (F.wants0 180 rfl (by kernel_rfl) rfl) rfl rfl ?_; clear F a; intro a F
       refine still_skip F (F.wants0 180 rfl (by kernel_rfl) rfl) rfl rfl ?_; clear F a; intro a F
       refine still_skip F (F.wants0 180 rfl (by kernel_rfl) rfl) rfl rfl ?_; clear F a; intro a F
       refine still_skip F (F.wants0 180 rfl (by kernel_rfl) rfl) rfl rfl ?_; clear F a; intro a F
       refine still_skip F (F.wants0 180 rfl (by kernel_rfl) rfl) rfl rfl ?_; clear F a; intro a F
       refine still_skip F (F.wants0 180 rfl (by kernel_rfl) rfl) rfl rfl ?_; clear F a; intro a F
       refine still_skip F (F.wants0 180 rfl (by kernel_rfl) rfl) rfl rfl ?_; clear F a; intro a F
       refine still_skip F (F.wants0 180 rfl (by kernel_rfl) rfl) rfl rfl ?_; clear F a; intro a F
       refine still_skip F (F.wants 173 true rfl (by kernel_rfl) rfl false rfl) rfl rfl ?_; clear F a; intro a F
       refine still_val F (wn rfl) rfl rfl (.bool true) (ex_pick_t _ _ _ rfl (F.e rfl) _ rfl) ?_; clear F a; intro a F
       refine still_val F (wn rfl) rfl rfl (.pointer (some ⟨gr, k * 35, none⟩)) (ex_ix _ _ _ rfl 35 cy_sl_97_35 ⟨gr, 0, none⟩ _ _ (F.e rfl) .i64 _ (F.e rfl) k rfl (by omega) ⟨gr, k * 35, none⟩ ad0) ?_; clear F a; intro a F
       refine still_val F (wn rfl) rfl rfl (.pointer (some ⟨gr, k * 35 + 34, none⟩)) (ex_fa _ _ _ rfl _ (F.e rfl) 34 cy_fa_96_3_34 ⟨gr, k * 35 + 34, none⟩ rfl) ?_; clear F a; intro a F
       refine still_end ?_
       refine list_do (wn rfl) (fun K hK => ?_)
       refine ow_store F M rfl 4 _ _ rfl 1 gr _ _ rfl (k * 35 + 34) (F.e rfl) _ (F.e rfl) [.bool true] rfl cy_info_4_map_size_some_1 (by rw [List.size_toArray, List.length_append, rows_len Fate.cs_len, prun_len]; simp; omega) (by simp [Value.oneCell']) (((prun o.at_ (f0 ++ [fl]) (k + 1)).flatMap Fate.cs ++ sp).toArray) (congrArg List.toArray (by rw [← prun_set hfk, ← hpr]; exact rows_set (vs := [.bool true]) Fate.cs_len hgk (by simp) (Fate.set_34 _ _))) ?_
       clear F a; have Mo := M; clear M; intro a v F M hgr
       refine hK _ _ ?_
       clear hK K
       replace O_r := O_r.grown (Mo.blk 1 _ rfl) (by show 107 ≠ 96; decide) hgr
       clear Mo hgr; try clear u
       replace M : Mm w v [⟨g4, #[.slice A_159 ((live (f0.map (prF o.at_))).length + 1) c_159, .int .u64 next], 69⟩, ⟨gr, (((prun o.at_ (f0 ++ [fl]) (k + 1)).flatMap Fate.cs ++ sp).toArray), 96⟩] := M
       refine wpList_nil ?_
       replace F : Fr 272 a [(2, .bool false), (3, .slice (some adt) ts.length c), (4, .pointer (some ⟨g4, 0, none⟩)), (5, .slice (some ⟨gr, 0, none⟩) (f0.length + 1) cap), (6, .int .i64 i), (7, .int .i64 ((live f0).length + 1)), (13, .int .i64 k), (33, .bool true), (39, .bool false), (55, .bool false), (152, .bool true), (163, .bool true)] := F.keep ⟨rfl, rfl, rfl, rfl, rfl, rfl, rfl, rfl, rfl, rfl, rfl, rfl, trivial⟩
       refine in_n ?_
       refine then_n ?_
       refine wp_region_lit ?_
       refine list_val F (wn rfl) rfl rfl (.int .i64 k) (ex_move _ rfl _ (F.e rfl)) ?_; clear F a; intro a F
       refine list_val F (wn rfl) rfl rfl (.int .i64 (k + 1)) (ex_bin .add _ _ _ _ rfl .i64 _ _ (F.e rfl) rfl _ (b_add (w_i64 (by omega) (by omega)))) ?_; clear F a; intro a F
       refine list_val F (wn rfl) rfl rfl (.int .i64 (k + 1)) (ex_assign _ rfl _ (F.e rfl)) ?_; clear F a; intro a F
       refine wpList_nil ?_
       replace F : Fr 272 a [(2, .bool false), (3, .slice (some adt) ts.length c), (4, .pointer (some ⟨g4, 0, none⟩)), (5, .slice (some ⟨gr, 0, none⟩) (f0.length + 1) cap), (6, .int .i64 i), (7, .int .i64 ((live f0).length + 1)), (13, .int .i64 (k + 1)), (33, .bool true), (39, .bool false), (55, .bool false), (152, .bool true), (163, .bool true)] := F.keep ⟨rfl, rfl, rfl, rfl, rfl, rfl, rfl, rfl, rfl, rfl, rfl, rfl, trivial⟩
       refine then_n ?_
       exact ⟨(f0.length + 1) - (k + 1), by omega, (k + 1), F.keep ⟨rfl, rfl, rfl, rfl, rfl, rfl, rfl, rfl, rfl, rfl, rfl, trivial⟩, (by refine M.pick' [0, 1] _ ?_ (by decide); exact ⟨rfl, rfl, trivial⟩), O_r, (by omega), (by omega)⟩
      rw [Bool.not_eq_true] at hgn
      by_cases ht : 0 < f.til
      ·
       by_cases hu : f.til ≤ o.at_
       ·
        have hpr : ({ f with gone := true } : Fate) = prF o.at_ f := by unfold prF; rw [hgn, decide_eq_true ht, decide_eq_true hu]; rfl
        refine wp_seq ?_
        refine wp_seq ?_
        refine wp_region_lit ?_
        refine list_val F (wn rfl) rfl rfl (.int .i64 k) (ex_move _ rfl _ (F.e rfl)) ?_; clear F a; intro a F
        refine list_val F (wn rfl) rfl rfl (.slice (some ⟨gr, 0, none⟩) (f0.length + 1) cap) (ex_move _ rfl _ (F.e rfl)) ?_; clear F a; intro a F
        refine list_val F (wn rfl) rfl rfl (.int .i64 (((f0.length + 1) : Nat) : Int)) (ex_len _ _ rfl 35 cy_sl_97_35 _ _ _ (F.e rfl)) ?_; clear F a; intro a F
        refine list_val F (wn rfl) rfl rfl (.bool true) (ex_bin .lss _ _ _ _ rfl .i64 _ _ (F.e rfl) (F.e rfl) _ (b_lss (decide_eq_true (by omega)))) ?_; clear F a; intro a F
        refine wpList_nil ?_
        replace F : Fr 272 a [(2, .bool false), (3, .slice (some adt) ts.length c), (4, .pointer (some ⟨g4, 0, none⟩)), (5, .slice (some ⟨gr, 0, none⟩) (f0.length + 1) cap), (6, .int .i64 i), (7, .int .i64 ((live f0).length + 1)), (13, .int .i64 k), (33, .bool true), (39, .bool false), (55, .bool false), (152, .bool true), (163, .bool true)] := F.keep ⟨rfl, rfl, rfl, rfl, rfl, rfl, rfl, rfl, rfl, rfl, rfl, rfl, trivial⟩
        refine then_n ?_
        refine wp_cond_true (F.e rfl) ?_
        refine wp_skip ?_
        refine then_n ?_
        refine wp_seq ?_
        refine wp_block ?_
        refine region_tail 30 cy_follows_mixedOrders (by kernel_rfl) M ?_; clear M; intro u M hb
        replace O_r := O_r.below hb
        clear hb; try clear v
        refine still_val F (wn rfl) rfl rfl (.slice (some ⟨gr, 0, none⟩) (f0.length + 1) cap) (ex_move _ rfl _ (F.e rfl)) ?_; clear F a; intro a F
        refine still_val F (wn rfl) rfl rfl (.int .i64 k) (ex_move _ rfl _ (F.e rfl)) ?_; clear F a; intro a F
        refine still_val F (wn rfl) rfl rfl (.slice (some ⟨gr, 0, none⟩) (f0.length + 1) cap) (ex_move _ rfl _ (F.e rfl)) ?_; clear F a; intro a F
        refine still_val F (wn rfl) rfl rfl (.int .i64 k) (ex_move _ rfl _ (F.e rfl)) ?_; clear F a; intro a F
        refine still_val F (wn rfl) rfl rfl (.pointer (some ⟨gr, k * 35, none⟩)) (ex_ix _ _ _ rfl 35 cy_sl_97_35 ⟨gr, 0, none⟩ _ _ (F.e rfl) .i64 _ (F.e rfl) k rfl (by omega) ⟨gr, k * 35, none⟩ ad0) ?_; clear F a; intro a F
        refine still_val F (wn rfl) rfl rfl (.pointer (some ⟨gr, k * 35 + 34, none⟩)) (ex_fa _ _ _ rfl _ (F.e rfl) 34 cy_fa_96_3_34 ⟨gr, k * 35 + 34, none⟩ rfl) ?_; clear F a; intro a F
        refine still_val F (wn rfl) rfl rfl (.bool false) (ex_load _ _ rfl _ (F.e rfl) _ (lv1 cy_one_4 (M.cell (i := 1) rfl (j := k * 35 + 34) (rows_arr Fate.cs_len hgk (by rw [Fate.cs_34, hgn]))))) ?_; clear F a; intro a F
        refine still_val F (wn rfl) rfl rfl (.bool false) (ex_move _ rfl _ (F.e rfl)) ?_; clear F a; intro a F
        refine still_val F (F.wants 173 false rfl (by kernel_rfl) rfl true rfl) rfl rfl (.slice (some ⟨gr, 0, none⟩) (f0.length + 1) cap) (ex_move _ rfl _ (F.e rfl)) ?_; clear F a; intro a F
        refine still_val F (F.wants 173 false rfl (by kernel_rfl) rfl true rfl) rfl rfl (.int .i64 k) (ex_move _ rfl _ (F.e rfl)) ?_; clear F a; intro a F
        refine still_val F (F.wants 173 false rfl (by kernel_rfl) rfl true rfl) rfl rfl (.pointer (some ⟨gr, k * 35, none⟩)) (ex_ix _ _ _ rfl 35 cy_sl_97_35 ⟨gr, 0, none⟩ _ _ (F.e rfl) .i64 _ (F.e rfl) k rfl (by omega) ⟨gr, k * 35, none⟩ ad0) ?_; clear F a; intro a F
        refine still_val F (F.wants 173 false rfl (by kernel_rfl) rfl true rfl) rfl rfl (.pointer (some ⟨gr, k * 35 + 33, none⟩)) (ex_fa _ _ _ rfl _ (F.e rfl) 33 cy_fa_96_2_33 ⟨gr, k * 35 + 33, none⟩ rfl) ?_; clear F a; intro a F
        refine still_val F (F.wants 173 false rfl (by kernel_rfl) rfl true rfl) rfl rfl (.int .i64 f.til) (ex_load _ _ rfl _ (F.e rfl) _ (lv1 cy_one_2 (M.cell (i := 1) rfl (j := k * 35 + 33) (rows_arr Fate.cs_len hgk (Fate.cs_33 _))))) ?_; clear F a; intro a F
        refine still_val F (F.wants 173 false rfl (by kernel_rfl) rfl true rfl) rfl rfl (.bool true) (ex_bin .gtr _ _ _ _ rfl .i64 _ _ (F.e rfl) rfl _ (b_gtr (decide_eq_true ht))) ?_; clear F a; intro a F
        refine still_val F (F.wants 173 false rfl (by kernel_rfl) rfl true rfl) rfl rfl (.bool true) (ex_move _ rfl _ (F.e rfl)) ?_; clear F a; intro a F
        refine still_val F (F.wants 180 true rfl (by kernel_rfl) rfl true rfl) rfl rfl (.slice (some ⟨gr, 0, none⟩) (f0.length + 1) cap) (ex_move _ rfl _ (F.e rfl)) ?_; clear F a; intro a F
        refine still_val F (F.wants 180 true rfl (by kernel_rfl) rfl true rfl) rfl rfl (.int .i64 k) (ex_move _ rfl _ (F.e rfl)) ?_; clear F a; intro a F
        refine still_val F (F.wants 180 true rfl (by kernel_rfl) rfl true rfl) rfl rfl (.pointer (some ⟨gr, k * 35, none⟩)) (ex_ix _ _ _ rfl 35 cy_sl_97_35 ⟨gr, 0, none⟩ _ _ (F.e rfl) .i64 _ (F.e rfl) k rfl (by omega) ⟨gr, k * 35, none⟩ ad0) ?_; clear F a; intro a F
        refine still_val F (F.wants 180 true rfl (by kernel_rfl) rfl true rfl) rfl rfl (.pointer (some ⟨gr, k * 35 + 33, none⟩)) (ex_fa _ _ _ rfl _ (F.e rfl) 33 cy_fa_96_2_33 ⟨gr, k * 35 + 33, none⟩ rfl) ?_; clear F a; intro a F
        refine still_val F (F.wants 180 true rfl (by kernel_rfl) rfl true rfl) rfl rfl (.int .i64 f.til) (ex_load _ _ rfl _ (F.e rfl) _ (lv1 cy_one_2 (M.cell (i := 1) rfl (j := k * 35 + 33) (rows_arr Fate.cs_len hgk (Fate.cs_33 _))))) ?_; clear F a; intro a F
        refine still_val F (F.wants 180 true rfl (by kernel_rfl) rfl true rfl) rfl rfl (.slice (some adt) ts.length c) (ex_move _ rfl _ (F.e rfl)) ?_; clear F a; intro a F
        refine still_val F (F.wants 180 true rfl (by kernel_rfl) rfl true rfl) rfl rfl (.int .i64 i) (ex_move _ rfl _ (F.e rfl)) ?_; clear F a; intro a F
        refine still_val F (F.wants 180 true rfl (by kernel_rfl) rfl true rfl) rfl rfl (.pointer (some (adt.add (i * 35)))) (ex_ix _ _ _ rfl 35 cy_sl_92_35 adt _ _ (F.e rfl) .i64 _ (F.e rfl) i rfl (by omega) (adt.add (i * 35)) rfl) ?_; clear F a; intro a F
        refine still_val F (F.wants 180 true rfl (by kernel_rfl) rfl true rfl) rfl rfl (.pointer (some ((adt.add (i * 35)).add 33))) (ex_fa _ _ _ rfl _ (F.e rfl) 33 cy_fa_99_2_33 ((adt.add (i * 35)).add 33) rfl) ?_; clear F a; intro a F
        refine still_val F (F.wants 180 true rfl (by kernel_rfl) rfl true rfl) rfl rfl (.int .i64 o.at_) (ex_load _ _ rfl _ (F.e rfl) _ (lv1 cy_one_2 ((zt.below M.bel).cell 33 _ (Turn.cs_33 _)))) ?_; clear F a; intro a F
        refine still_val F (F.wants 180 true rfl (by kernel_rfl) rfl true rfl) rfl rfl (.bool true) (ex_bin .leq _ _ _ _ rfl .i64 _ _ (F.e rfl) (F.e rfl) _ (b_leq (decide_eq_true hu))) ?_; clear F a; intro a F
        refine still_val F (F.wants 173 false rfl (by kernel_rfl) rfl true rfl) rfl rfl (.bool true) (ex_pick_t _ _ _ rfl (F.e rfl) _ (F.e rfl)) ?_; clear F a; intro a F
        refine still_val F (wn rfl) rfl rfl (.bool true) (ex_pick_f _ _ _ rfl (F.e rfl) _ (F.e rfl)) ?_; clear F a; intro a F
        refine still_val F (wn rfl) rfl rfl (.pointer (some ⟨gr, k * 35, none⟩)) (ex_ix _ _ _ rfl 35 cy_sl_97_35 ⟨gr, 0, none⟩ _ _ (F.e rfl) .i64 _ (F.e rfl) k rfl (by omega) ⟨gr, k * 35, none⟩ ad0) ?_; clear F a; intro a F
        refine still_val F (wn rfl) rfl rfl (.pointer (some ⟨gr, k * 35 + 34, none⟩)) (ex_fa _ _ _ rfl _ (F.e rfl) 34 cy_fa_96_3_34 ⟨gr, k * 35 + 34, none⟩ rfl) ?_; clear F a; intro a F
        refine still_end ?_
        refine list_do (wn rfl) (fun K hK => ?_)
        refine ow_store F M rfl 4 _ _ rfl 1 gr _ _ rfl (k * 35 + 34) (F.e rfl) _ (F.e rfl) [.bool true] rfl cy_info_4_map_size_some_1 (by rw [List.size_toArray, List.length_append, rows_len Fate.cs_len, prun_len]; simp; omega) (by simp [Value.oneCell']) (((prun o.at_ (f0 ++ [fl]) (k + 1)).flatMap Fate.cs ++ sp).toArray) (congrArg List.toArray (by rw [← prun_set hfk, ← hpr]; exact rows_set (vs := [.bool true]) Fate.cs_len hgk (by simp) (Fate.set_34 _ _))) ?_
        clear F a; have Mo := M; clear M; intro a v F M hgr
        refine hK _ _ ?_
        clear hK K
        replace O_r := O_r.grown (Mo.blk 1 _ rfl) (by show 107 ≠ 96; decide) hgr
        clear Mo hgr; try clear u
        replace M : Mm w v [⟨g4, #[.slice A_159 ((live (f0.map (prF o.at_))).length + 1) c_159, .int .u64 next], 69⟩, ⟨gr, (((prun o.at_ (f0 ++ [fl]) (k + 1)).flatMap Fate.cs ++ sp).toArray), 96⟩] := M
        refine wpList_nil ?_
        replace F : Fr 272 a [(2, .bool false), (3, .slice (some adt) ts.length c), (4, .pointer (some ⟨g4, 0, none⟩)), (5, .slice (some ⟨gr, 0, none⟩) (f0.length + 1) cap), (6, .int .i64 i), (7, .int .i64 ((live f0).length + 1)), (13, .int .i64 k), (33, .bool true), (39, .bool false), (55, .bool false), (152, .bool true), (163, .bool true)] := F.keep ⟨rfl, rfl, rfl, rfl, rfl, rfl, rfl, rfl, rfl, rfl, rfl, rfl, trivial⟩
        refine in_n ?_
        refine then_n ?_
        refine wp_region_lit ?_
        refine list_val F (wn rfl) rfl rfl (.int .i64 k) (ex_move _ rfl _ (F.e rfl)) ?_; clear F a; intro a F
        refine list_val F (wn rfl) rfl rfl (.int .i64 (k + 1)) (ex_bin .add _ _ _ _ rfl .i64 _ _ (F.e rfl) rfl _ (b_add (w_i64 (by omega) (by omega)))) ?_; clear F a; intro a F
        refine list_val F (wn rfl) rfl rfl (.int .i64 (k + 1)) (ex_assign _ rfl _ (F.e rfl)) ?_; clear F a; intro a F
        refine wpList_nil ?_
        replace F : Fr 272 a [(2, .bool false), (3, .slice (some adt) ts.length c), (4, .pointer (some ⟨g4, 0, none⟩)), (5, .slice (some ⟨gr, 0, none⟩) (f0.length + 1) cap), (6, .int .i64 i), (7, .int .i64 ((live f0).length + 1)), (13, .int .i64 (k + 1)), (33, .bool true), (39, .bool false), (55, .bool false), (152, .bool true), (163, .bool true)] := F.keep ⟨rfl, rfl, rfl, rfl, rfl, rfl, rfl, rfl, rfl, rfl, rfl, rfl, trivial⟩
        refine then_n ?_
        exact ⟨(f0.length + 1) - (k + 1), by omega, (k + 1), F.keep ⟨rfl, rfl, rfl, rfl, rfl, rfl, rfl, rfl, rfl, rfl, rfl, trivial⟩, (by refine M.pick' [0, 1] _ ?_ (by decide); exact ⟨rfl, rfl, trivial⟩), O_r, (by omega), (by omega)⟩
       have hpr : ({ f with gone := false } : Fate) = prF o.at_ f := by unfold prF; rw [hgn, decide_eq_false hu, Bool.and_false]; rfl
       refine wp_seq ?_
       refine wp_seq ?_
       refine wp_region_lit ?_
       refine list_val F (wn rfl) rfl rfl (.int .i64 k) (ex_move _ rfl _ (F.e rfl)) ?_; clear F a; intro a F
       refine list_val F (wn rfl) rfl rfl (.slice (some ⟨gr, 0, none⟩) (f0.length + 1) cap) (ex_move _ rfl _ (F.e rfl)) ?_; clear F a; intro a F
       refine list_val F (wn rfl) rfl rfl (.int .i64 (((f0.length + 1) : Nat) : Int)) (ex_len _ _ rfl 35 cy_sl_97_35 _ _ _ (F.e rfl)) ?_; clear F a; intro a F
       refine list_val F (wn rfl) rfl rfl (.bool true) (ex_bin .lss _ _ _ _ rfl .i64 _ _ (F.e rfl) (F.e rfl) _ (b_lss (decide_eq_true (by omega)))) ?_; clear F a; intro a F
       refine wpList_nil ?_
       replace F : Fr 272 a [(2, .bool false), (3, .slice (some adt) ts.length c), (4, .pointer (some ⟨g4, 0, none⟩)), (5, .slice (some ⟨gr, 0, none⟩) (f0.length + 1) cap), (6, .int .i64 i), (7, .int .i64 ((live f0).length + 1)), (13, .int .i64 k), (33, .bool true), (39, .bool false), (55, .bool false), (152, .bool true), (163, .bool true)] := F.keep ⟨rfl, rfl, rfl, rfl, rfl, rfl, rfl, rfl, rfl, rfl, rfl, rfl, trivial⟩
       refine then_n ?_
       refine wp_cond_true (F.e rfl) ?_
       refine wp_skip ?_
       refine then_n ?_
       refine wp_seq ?_
       refine wp_block ?_
       refine region_tail 30 cy_follows_mixedOrders (by kernel_rfl) M ?_; clear M; intro u M hb
       replace O_r := O_r.below hb
       clear hb; try clear v
       refine still_val F (wn rfl) rfl rfl (.slice (some ⟨gr, 0, none⟩) (f0.length + 1) cap) (ex_move _ rfl _ (F.e rfl)) ?_; clear F a; intro a F
       refine still_val F (wn rfl) rfl rfl (.int .i64 k) (ex_move _ rfl _ (F.e rfl)) ?_; clear F a; intro a F
       refine still_val F (wn rfl) rfl rfl (.slice (some ⟨gr, 0, none⟩) (f0.length + 1) cap) (ex_move _ rfl _ (F.e rfl)) ?_; clear F a; intro a F
       refine still_val F (wn rfl) rfl rfl (.int .i64 k) (ex_move _ rfl _ (F.e rfl)) ?_; clear F a; intro a F
       refine still_val F (wn rfl) rfl rfl (.pointer (some ⟨gr, k * 35, none⟩)) (ex_ix _ _ _ rfl 35 cy_sl_97_35 ⟨gr, 0, none⟩ _ _ (F.e rfl) .i64 _ (F.e rfl) k rfl (by omega) ⟨gr, k * 35, none⟩ ad0) ?_; clear F a; intro a F
       refine still_val F (wn rfl) rfl rfl (.pointer (some ⟨gr, k * 35 + 34, none⟩)) (ex_fa _ _ _ rfl _ (F.e rfl) 34 cy_fa_96_3_34 ⟨gr, k * 35 + 34, none⟩ rfl) ?_; clear F a; intro a F
       refine still_val F (wn rfl) rfl rfl (.bool false) (ex_load _ _ rfl _ (F.e rfl) _ (lv1 cy_one_4 (M.cell (i := 1) rfl (j := k * 35 + 34) (rows_arr Fate.cs_len hgk (by rw [Fate.cs_34, hgn]))))) ?_; clear F a; intro a F
       refine still_val F (wn rfl) rfl rfl (.bool false) (ex_move _ rfl _ (F.e rfl)) ?_; clear F a; intro a F
       refine still_val F (F.wants 173 false rfl (by kernel_rfl) rfl true rfl) rfl rfl (.slice (some ⟨gr, 0, none⟩) (f0.length + 1) cap) (ex_move _ rfl _ (F.e rfl)) ?_; clear F a; intro a F
       refine still_val F (F.wants 173 false rfl (by kernel_rfl) rfl true rfl) rfl rfl (.int .i64 k) (ex_move _ rfl _ (F.e rfl)) ?_; clear F a; intro a F
       refine still_val F (F.wants 173 false rfl (by kernel_rfl) rfl true rfl) rfl rfl (.pointer (some ⟨gr, k * 35, none⟩)) (ex_ix _ _ _ rfl 35 cy_sl_97_35 ⟨gr, 0, none⟩ _ _ (F.e rfl) .i64 _ (F.e rfl) k rfl (by omega) ⟨gr, k * 35, none⟩ ad0) ?_; clear F a; intro a F
       refine still_val F (F.wants 173 false rfl (by kernel_rfl) rfl true rfl) rfl rfl (.pointer (some ⟨gr, k * 35 + 33, none⟩)) (ex_fa _ _ _ rfl _ (F.e rfl) 33 cy_fa_96_2_33 ⟨gr, k * 35 + 33, none⟩ rfl) ?_; clear F a; intro a F
       refine still_val F (F.wants 173 false rfl (by kernel_rfl) rfl true rfl) rfl rfl (.int .i64 f.til) (ex_load _ _ rfl _ (F.e rfl) _ (lv1 cy_one_2 (M.cell (i := 1) rfl (j := k * 35 + 33) (rows_arr Fate.cs_len hgk (Fate.cs_33 _))))) ?_; clear F a; intro a F
       refine still_val F (F.wants 173 false rfl (by kernel_rfl) rfl true rfl) rfl rfl (.bool true) (ex_bin .gtr _ _ _ _ rfl .i64 _ _ (F.e rfl) rfl _ (b_gtr (decide_eq_true ht))) ?_; clear F a; intro a F
       refine still_val F (F.wants 173 false rfl (by kernel_rfl) rfl true rfl) rfl rfl (.bool true) (ex_move _ rfl _ (F.e rfl)) ?_; clear F a; intro a F
       refine still_val F (F.wants 180 true rfl (by kernel_rfl) rfl true rfl) rfl rfl (.slice (some ⟨gr, 0, none⟩) (f0.length + 1) cap) (ex_move _ rfl _ (F.e rfl)) ?_; clear F a; intro a F
       refine still_val F (F.wants 180 true rfl (by kernel_rfl) rfl true rfl) rfl rfl (.int .i64 k) (ex_move _ rfl _ (F.e rfl)) ?_; clear F a; intro a F
       refine still_val F (F.wants 180 true rfl (by kernel_rfl) rfl true rfl) rfl rfl (.pointer (some ⟨gr, k * 35, none⟩)) (ex_ix _ _ _ rfl 35 cy_sl_97_35 ⟨gr, 0, none⟩ _ _ (F.e rfl) .i64 _ (F.e rfl) k rfl (by omega) ⟨gr, k * 35, none⟩ ad0) ?_; clear F a; intro a F
       refine still_val F (F.wants 180 true rfl (by kernel_rfl) rfl true rfl) rfl rfl (.pointer (some ⟨gr, k * 35 + 33, none⟩)) (ex_fa _ _ _ rfl _ (F.e rfl) 33 cy_fa_96_2_33 ⟨gr, k * 35 + 33, none⟩ rfl) ?_; clear F a; intro a F
       refine still_val F (F.wants 180 true rfl (by kernel_rfl) rfl true rfl) rfl rfl (.int .i64 f.til) (ex_load _ _ rfl _ (F.e rfl) _ (lv1 cy_one_2 (M.cell (i := 1) rfl (j := k * 35 + 33) (rows_arr Fate.cs_len hgk (Fate.cs_33 _))))) ?_; clear F a; intro a F
       refine still_val F (F.wants 180 true rfl (by kernel_rfl) rfl true rfl) rfl rfl (.slice (some adt) ts.length c) (ex_move _ rfl _ (F.e rfl)) ?_; clear F a; intro a F
       refine still_val F (F.wants 180 true rfl (by kernel_rfl) rfl true rfl) rfl rfl (.int .i64 i) (ex_move _ rfl _ (F.e rfl)) ?_; clear F a; intro a F
       refine still_val F (F.wants 180 true rfl (by kernel_rfl) rfl true rfl) rfl rfl (.pointer (some (adt.add (i * 35)))) (ex_ix _ _ _ rfl 35 cy_sl_92_35 adt _ _ (F.e rfl) .i64 _ (F.e rfl) i rfl (by omega) (adt.add (i * 35)) rfl) ?_; clear F a; intro a F
       refine still_val F (F.wants 180 true rfl (by kernel_rfl) rfl true rfl) rfl rfl (.pointer (some ((adt.add (i * 35)).add 33))) (ex_fa _ _ _ rfl _ (F.e rfl) 33 cy_fa_99_2_33 ((adt.add (i * 35)).add 33) rfl) ?_; clear F a; intro a F
       refine still_val F (F.wants 180 true rfl (by kernel_rfl) rfl true rfl) rfl rfl (.int .i64 o.at_) (ex_load _ _ rfl _ (F.e rfl) _ (lv1 cy_one_2 ((zt.below M.bel).cell 33 _ (Turn.cs_33 _)))) ?_; clear F a; intro a F
       refine still_val F (F.wants 180 true rfl (by kernel_rfl) rfl true rfl) rfl rfl (.bool false) (ex_bin .leq _ _ _ _ rfl .i64 _ _ (F.e rfl) (F.e rfl) _ (b_leq (decide_eq_false hu))) ?_; clear F a; intro a F
       refine still_val F (F.wants 173 false rfl (by kernel_rfl) rfl true rfl) rfl rfl (.bool false) (ex_pick_t _ _ _ rfl (F.e rfl) _ (F.e rfl)) ?_; clear F a; intro a F
       refine still_val F (wn rfl) rfl rfl (.bool false) (ex_pick_f _ _ _ rfl (F.e rfl) _ (F.e rfl)) ?_; clear F a; intro a F
       refine still_val F (wn rfl) rfl rfl (.pointer (some ⟨gr, k * 35, none⟩)) (ex_ix _ _ _ rfl 35 cy_sl_97_35 ⟨gr, 0, none⟩ _ _ (F.e rfl) .i64 _ (F.e rfl) k rfl (by omega) ⟨gr, k * 35, none⟩ ad0) ?_; clear F a; intro a F
       refine still_val F (wn rfl) rfl rfl (.pointer (some ⟨gr, k * 35 + 34, none⟩)) (ex_fa _ _ _ rfl _ (F.e rfl) 34 cy_fa_96_3_34 ⟨gr, k * 35 + 34, none⟩ rfl) ?_; clear F a; intro a F
       refine still_end ?_
       refine list_do (wn rfl) (fun K hK => ?_)
       refine ow_store F M rfl 4 _ _ rfl 1 gr _ _ rfl (k * 35 + 34) (F.e rfl) _ (F.e rfl) [.bool false] rfl cy_info_4_map_size_some_1 (by rw [List.size_toArray, List.length_append, rows_len Fate.cs_len, prun_len]; simp; omega) (by simp [Value.oneCell']) (((prun o.at_ (f0 ++ [fl]) (k + 1)).flatMap Fate.cs ++ sp).toArray) (congrArg List.toArray (by rw [← prun_set hfk, ← hpr]; exact rows_set (vs := [.bool false]) Fate.cs_len hgk (by simp) (Fate.set_34 _ _))) ?_
       clear F a; have Mo := M; clear M; intro a v F M hgr
       refine hK _ _ ?_
       clear hK K
       replace O_r := O_r.grown (Mo.blk 1 _ rfl) (by show 107 ≠ 96; decide) hgr
       clear Mo hgr; try clear u
       replace M : Mm w v [⟨g4, #[.slice A_159 ((live (f0.map (prF o.at_))).length + 1) c_159, .int .u64 next], 69⟩, ⟨gr, (((prun o.at_ (f0 ++ [fl]) (k + 1)).flatMap Fate.cs ++ sp).toArray), 96⟩] := M
       refine wpList_nil ?_
       replace F : Fr 272 a [(2, .bool false), (3, .slice (some adt) ts.length c), (4, .pointer (some ⟨g4, 0, none⟩)), (5, .slice (some ⟨gr, 0, none⟩) (f0.length + 1) cap), (6, .int .i64 i), (7, .int .i64 ((live f0).length + 1)), (13, .int .i64 k), (33, .bool true), (39, .bool false), (55, .bool false), (152, .bool true), (163, .bool true)] := F.keep ⟨rfl, rfl, rfl, rfl, rfl, rfl, rfl, rfl, rfl, rfl, rfl, rfl, trivial⟩
       refine in_n ?_
       refine then_n ?_
       refine wp_region_lit ?_
       refine list_val F (wn rfl) rfl rfl (.int .i64 k) (ex_move _ rfl _ (F.e rfl)) ?_; clear F a; intro a F
       refine list_val F (wn rfl) rfl rfl (.int .i64 (k + 1)) (ex_bin .add _ _ _ _ rfl .i64 _ _ (F.e rfl) rfl _ (b_add (w_i64 (by omega) (by omega)))) ?_; clear F a; intro a F
       refine list_val F (wn rfl) rfl rfl (.int .i64 (k + 1)) (ex_assign _ rfl _ (F.e rfl)) ?_; clear F a; intro a F
       refine wpList_nil ?_
       replace F : Fr 272 a [(2, .bool false), (3, .slice (some adt) ts.length c), (4, .pointer (some ⟨g4, 0, none⟩)), (5, .slice (some ⟨gr, 0, none⟩) (f0.length + 1) cap), (6, .int .i64 i), (7, .int .i64 ((live f0).length + 1)), (13, .int .i64 (k + 1)), (33, .bool true), (39, .bool false), (55, .bool false), (152, .bool true), (163, .bool true)] := F.keep ⟨rfl, rfl, rfl, rfl, rfl, rfl, rfl, rfl, rfl, rfl, rfl, rfl, trivial⟩
       refine then_n ?_
       exact ⟨(f0.length + 1) - (k + 1), by omega, (k + 1), F.keep ⟨rfl, rfl, rfl, rfl, rfl, rfl, rfl, rfl, rfl, rfl, rfl, trivial⟩, (by refine M.pick' [0, 1] _ ?_ (by decide); exact ⟨rfl, rfl, trivial⟩), O_r, (by omega), (by omega)⟩
      have hpr : ({ f with gone := false } : Fate) = prF o.at_ f := by unfold prF; rw [hgn, decide_eq_false ht]; rfl
      refine wp_seq ?_
      refine wp_seq ?_
      refine wp_region_lit ?_
      refine list_val F (wn rfl) rfl rfl (.int .i64 k) (ex_move _ rfl _ (F.e rfl)) ?_; clear F a; intro a F
      refine list_val F (wn rfl) rfl rfl (.slice (some ⟨gr, 0, none⟩) (f0.length + 1) cap) (ex_move _ rfl _ (F.e rfl)) ?_; clear F a; intro a F
      refine list_val F (wn rfl) rfl rfl (.int .i64 (((f0.length + 1) : Nat) : Int)) (ex_len _ _ rfl 35 cy_sl_97_35 _ _ _ (F.e rfl)) ?_; clear F a; intro a F
      refine list_val F (wn rfl) rfl rfl (.bool true) (ex_bin .lss _ _ _ _ rfl .i64 _ _ (F.e rfl) (F.e rfl) _ (b_lss (decide_eq_true (by omega)))) ?_; clear F a; intro a F
      refine wpList_nil ?_
      replace F : Fr 272 a [(2, .bool false), (3, .slice (some adt) ts.length c), (4, .pointer (some ⟨g4, 0, none⟩)), (5, .slice (some ⟨gr, 0, none⟩) (f0.length + 1) cap), (6, .int .i64 i), (7, .int .i64 ((live f0).length + 1)), (13, .int .i64 k), (33, .bool true), (39, .bool false), (55, .bool false), (152, .bool true), (163, .bool true)] := F.keep ⟨rfl, rfl, rfl, rfl, rfl, rfl, rfl, rfl, rfl, rfl, rfl, rfl, trivial⟩
      refine then_n ?_
      refine wp_cond_true (F.e rfl) ?_
      refine wp_skip ?_
      refine then_n ?_
      refine wp_seq ?_
      refine wp_block ?_
      refine region_tail 30 cy_follows_mixedOrders (by kernel_rfl) M ?_; clear M; intro u M hb
      replace O_r := O_r.below hb
      clear hb; try clear v
      refine still_val F (wn rfl) rfl rfl (.slice (some ⟨gr, 0, none⟩) (f0.length + 1) cap) (ex_move _ rfl _ (F.e rfl)) ?_; clear F a; intro a F
      refine still_val F (wn rfl) rfl rfl (.int .i64 k) (ex_move _ rfl _ (F.e rfl)) ?_; clear F a; intro a F
      refine still_val F (wn rfl) rfl rfl (.slice (some ⟨gr, 0, none⟩) (f0.length + 1) cap) (ex_move _ rfl _ (F.e rfl)) ?_; clear F a; intro a F
      refine still_val F (wn rfl) rfl rfl (.int .i64 k) (ex_move _ rfl _ (F.e rfl)) ?_; clear F a; intro a F
      refine still_val F (wn rfl) rfl rfl (.pointer (some ⟨gr, k * 35, none⟩)) (ex_ix _ _ _ rfl 35 cy_sl_97_35 ⟨gr, 0, none⟩ _ _ (F.e rfl) .i64 _ (F.e rfl) k rfl (by omega) ⟨gr, k * 35, none⟩ ad0) ?_; clear F a; intro a F
      refine still_val F (wn rfl) rfl rfl (.pointer (some ⟨gr, k * 35 + 34, none⟩)) (ex_fa _ _ _ rfl _ (F.e rfl) 34 cy_fa_96_3_34 ⟨gr, k * 35 + 34, none⟩ rfl) ?_; clear F a; intro a F
      refine still_val F (wn rfl) rfl rfl (.bool false) (ex_load _ _ rfl _ (F.e rfl) _ (lv1 cy_one_4 (M.cell (i := 1) rfl (j := k * 35 + 34) (rows_arr Fate.cs_len hgk (by rw [Fate.cs_34, hgn]))))) ?_; clear F a; intro a F
      refine still_val F (wn rfl) rfl rfl (.bool false) (ex_move _ rfl _ (F.e rfl)) ?_; clear F a; intro a F
      refine still_val F (F.wants 173 false rfl (by kernel_rfl) rfl true rfl) rfl rfl (.slice (some ⟨gr, 0, none⟩) (f0.length + 1) cap) (ex_move _ rfl _ (F.e rfl)) ?_; clear F a; intro a F
      refine still_val F (F.wants 173 false rfl (by kernel_rfl) rfl true rfl) rfl rfl (.int .i64 k) (ex_move _ rfl _ (F.e rfl)) ?_; clear F a; intro a F
      refine still_val F (F.wants 173 false rfl (by kernel_rfl) rfl true rfl) rfl rfl (.pointer (some ⟨gr, k * 35, none⟩)) (ex_ix _ _ _ rfl 35 cy_sl_97_35 ⟨gr, 0, none⟩ _ _ (F.e rfl) .i64 _ (F.e rfl) k rfl (by omega) ⟨gr, k * 35, none⟩ ad0) ?_; clear F a; intro a F
      refine still_val F (F.wants 173 false rfl (by kernel_rfl) rfl true rfl) rfl rfl (.pointer (some ⟨gr, k * 35 + 33, none⟩)) (ex_fa _ _ _ rfl _ (F.e rfl) 33 cy_fa_96_2_33 ⟨gr, k * 35 + 33, none⟩ rfl) ?_; clear F a; intro a F
      refine still_val F (F.wants 173 false rfl (by kernel_rfl) rfl true rfl) rfl rfl (.int .i64 f.til) (ex_load _ _ rfl _ (F.e rfl) _ (lv1 cy_one_2 (M.cell (i := 1) rfl (j := k * 35 + 33) (rows_arr Fate.cs_len hgk (Fate.cs_33 _))))) ?_; clear F a; intro a F
      refine still_val F (F.wants 173 false rfl (by kernel_rfl) rfl true rfl) rfl rfl (.bool false) (ex_bin .gtr _ _ _ _ rfl .i64 _ _ (F.e rfl) rfl _ (b_gtr (decide_eq_false ht))) ?_; clear F a; intro a F
      refine still_val F (F.wants 173 false rfl (by kernel_rfl) rfl true rfl) rfl rfl (.bool false) (ex_move _ rfl _ (F.e rfl)) ?_; clear F a; intro a F
      refine still_skip F (F.wants 180 false rfl (by kernel_rfl) rfl false rfl) rfl rfl ?_; clear F a; intro a F
      refine still_skip F (F.wants 180 false rfl (by kernel_rfl) rfl false rfl) rfl rfl ?_; clear F a; intro a F
      refine still_skip F (F.wants 180 false rfl (by kernel_rfl) rfl false rfl) rfl rfl ?_; clear F a; intro a F
      refine still_skip F (F.wants 180 false rfl (by kernel_rfl) rfl false rfl) rfl rfl ?_; clear F a; intro a F
      refine still_skip F (F.wants 180 false rfl (by kernel_rfl) rfl false rfl) rfl rfl ?_; clear F a; intro a F
      refine still_skip F (F.wants 180 false rfl (by kernel_rfl) rfl false rfl) rfl rfl ?_; clear F a; intro a F
      refine still_skip F (F.wants 180 false rfl (by kernel_rfl) rfl false rfl) rfl rfl ?_; clear F a; intro a F
      refine still_skip F (F.wants 180 false rfl (by kernel_rfl) rfl false rfl) rfl rfl ?_; clear F a; intro a F
      refine still_skip F (F.wants 180 false rfl (by kernel_rfl) rfl false rfl) rfl rfl ?_; clear F a; intro a F
      refine still_skip F (F.wants 180 false rfl (by kernel_rfl) rfl false rfl) rfl rfl ?_; clear F a; intro a F
      refine still_skip F (F.wants 180 false rfl (by kernel_rfl) rfl false rfl) rfl rfl ?_; clear F a; intro a F
      refine still_val F (F.wants 173 false rfl (by kernel_rfl) rfl true rfl) rfl rfl (.bool false) (ex_pick_f _ _ _ rfl (F.e rfl) _ rfl) ?_; clear F a; intro a F
      refine still_val F (wn rfl) rfl rfl (.bool false) (ex_pick_f _ _ _ rfl (F.e rfl) _ (F.e rfl)) ?_; clear F a; intro a F
      refine still_val F (wn rfl) rfl rfl (.pointer (some ⟨gr, k * 35, none⟩)) (ex_ix _ _ _ rfl 35 cy_sl_97_35 ⟨gr, 0, none⟩ _ _ (F.e rfl) .i64 _ (F.e rfl) k rfl (by omega) ⟨gr, k * 35, none⟩ ad0) ?_; clear F a; intro a F
      refine still_val F (wn rfl) rfl rfl (.pointer (some ⟨gr, k * 35 + 34, none⟩)) (ex_fa _ _ _ rfl _ (F.e rfl) 34 cy_fa_96_3_34 ⟨gr, k * 35 + 34, none⟩ rfl) ?_; clear F a; intro a F
      refine still_end ?_
      refine list_do (wn rfl) (fun K hK => ?_)
      refine ow_store F M rfl 4 _ _ rfl 1 gr _ _ rfl (k * 35 + 34) (F.e rfl) _ (F.e rfl) [.bool false] rfl cy_info_4_map_size_some_1 (by rw [List.size_toArray, List.length_append, rows_len Fate.cs_len, prun_len]; simp; omega) (by simp [Value.oneCell']) (((prun o.at_ (f0 ++ [fl]) (k + 1)).flatMap Fate.cs ++ sp).toArray) (congrArg List.toArray (by rw [← prun_set hfk, ← hpr]; exact rows_set (vs := [.bool false]) Fate.cs_len hgk (by simp) (Fate.set_34 _ _))) ?_
      clear F a; have Mo := M; clear M; intro a v F M hgr
      refine hK _ _ ?_
      clear hK K
      replace O_r := O_r.grown (Mo.blk 1 _ rfl) (by show 107 ≠ 96; decide) hgr
      clear Mo hgr; try clear u
      replace M : Mm w v [⟨g4, #[.slice A_159 ((live (f0.map (prF o.at_))).length + 1) c_159, .int .u64 next], 69⟩, ⟨gr, (((prun o.at_ (f0 ++ [fl]) (k + 1)).flatMap Fate.cs ++ sp).toArray), 96⟩] := M
      refine wpList_nil ?_
      replace F : Fr 272 a [(2, .bool false), (3, .slice (some adt) ts.length c), (4, .pointer (some ⟨g4, 0, none⟩)), (5, .slice (some ⟨gr, 0, none⟩) (f0.length + 1) cap), (6, .int .i64 i), (7, .int .i64 ((live f0).length + 1)), (13, .int .i64 k), (33, .bool true), (39, .bool false), (55, .bool false), (152, .bool true), (163, .bool true)] := F.keep ⟨rfl, rfl, rfl, rfl, rfl, rfl, rfl, rfl, rfl, rfl, rfl, rfl, trivial⟩
      refine in_n ?_
      refine then_n ?_
      refine wp_region_lit ?_
      refine list_val F (wn rfl) rfl rfl (.int .i64 k) (ex_move _ rfl _ (F.e rfl)) ?_; clear F a; intro a F
      refine list_val F (wn rfl) rfl rfl (.int .i64 (k + 1)) (ex_bin .add _ _ _ _ rfl .i64 _ _ (F.e rfl) rfl _ (b_add (w_i64 (by omega) (by omega)))) ?_; clear F a; intro a F
      refine list_val F (wn rfl) rfl rfl (.int .i64 (k + 1)) (ex_assign _ rfl _ (F.e rfl)) ?_; clear F a; intro a F
      refine wpList_nil ?_
      replace F : Fr 272 a [(2, .bool false), (3, .slice (some adt) ts.length c), (4, .pointer (some ⟨g4, 0, none⟩)), (5, .slice (some ⟨gr, 0, none⟩) (f0.length + 1) cap), (6, .int .i64 i), (7, .int .i64 ((live f0).length + 1)), (13, .int .i64 (k + 1)), (33, .bool true), (39, .bool false), (55, .bool false), (152, .bool true), (163, .bool true)] := F.keep ⟨rfl, rfl, rfl, rfl, rfl, rfl, rfl, rfl, rfl, rfl, rfl, rfl, trivial⟩
      refine then_n ?_
      exact ⟨(f0.length + 1) - (k + 1), by omega, (k + 1), F.keep ⟨rfl, rfl, rfl, rfl, rfl, rfl, rfl, rfl, rfl, rfl, rfl, trivial⟩, (by refine M.pick' [0, 1] _ ?_ (by decide); exact ⟨rfl, rfl, trivial⟩), O_r, (by omega), (by omega)⟩
     obtain rfl : k = f0.length + 1 := by omega
     rw [hL.prun_all] at M
     refine wp_seq ?_
     refine wp_seq ?_
     refine wp_region_lit ?_
     refine list_val F (wn rfl) rfl rfl (.int .i64 (f0.length + 1)) (ex_move _ rfl _ (F.e rfl)) ?_; clear F a; intro a F
     refine list_val F (wn rfl) rfl rfl (.slice (some ⟨gr, 0, none⟩) (f0.length + 1) cap) (ex_move _ rfl _ (F.e rfl)) ?_; clear F a; intro a F
     refine list_val F (wn rfl) rfl rfl (.int .i64 (((f0.length + 1) : Nat) : Int)) (ex_len _ _ rfl 35 cy_sl_97_35 _ _ _ (F.e rfl)) ?_; clear F a; intro a F
     refine list_val F (wn rfl) rfl rfl (.bool false) (ex_bin .lss _ _ _ _ rfl .i64 _ _ (F.e rfl) (F.e rfl) _ (b_lss (decide_eq_false (by omega)))) ?_; clear F a; intro a F
     refine wpList_nil ?_
     replace F : Fr 272 a [(2, .bool false), (3, .slice (some adt) ts.length c), (4, .pointer (some ⟨g4, 0, none⟩)), (5, .slice (some ⟨gr, 0, none⟩) (f0.length + 1) cap), (6, .int .i64 i), (7, .int .i64 ((live f0).length + 1)), (13, .int .i64 (f0.length + 1)), (33, .bool true), (39, .bool false), (55, .bool false), (152, .bool true), (163, .bool false)] := F.keep ⟨rfl, rfl, rfl, rfl, rfl, rfl, rfl, rfl, rfl, rfl, rfl, rfl, trivial⟩
     refine then_n ?_
     refine wp_cond_false (F.e rfl) ?_
     refine wp_exit ?_
     refine then_x ?_
     refine then_x ?_
     refine in_hit ?_
     refine only_n ?_
     rw [show f0.length = (f0.map (prF o.at_)).length by simp] at F
     exact ⟨(f0.map (prF o.at_)), fl, next, A_159, c_159, gr, cap, sp, F.keep ⟨rfl, rfl, rfl, rfl, rfl, rfl, rfl, trivial⟩, (by refine M.pick' [0, 1] _ ?_ (by decide); exact ⟨rfl, rfl, trivial⟩), O_r, (hL.prune o.at_).2, (by rw [List.length_append, rows_len Fate.cs_len] at hcap ⊢; simpa using hcap), (by rw [List.length_map]; exact hqc), hcm, (by rw [List.length_map]; omega)⟩
    refine wp_region_lit ?_
    refine list_val F (wn rfl) rfl rfl (.slice (some adt) ts.length c) (ex_move _ rfl _ (F.e rfl)) ?_; clear F a; intro a F
    refine list_val F (wn rfl) rfl rfl (.int .i64 i) (ex_move _ rfl _ (F.e rfl)) ?_; clear F a; intro a F
    refine list_val F (wn rfl) rfl rfl (.pointer (some (adt.add (i * 35)))) (ex_ix _ _ _ rfl 35 cy_sl_92_35 adt _ _ (F.e rfl) .i64 _ (F.e rfl) i rfl (by omega) (adt.add (i * 35)) rfl) ?_; clear F a; intro a F
    refine list_val F (wn rfl) rfl rfl (.pointer (some (adt.add (i * 35)))) (ex_fa _ _ _ rfl _ (F.e rfl) 0 cy_fa_99_0_0 (adt.add (i * 35)) rfl) ?_; clear F a; intro a F
    refine list_val F (wn rfl) rfl rfl (.int .i64 o.act) (ex_load _ _ rfl _ (F.e rfl) _ (lv1 cy_one_3 ((zt.below M.bel).cell 0 _ (Turn.cs_0 _)))) ?_; clear F a; intro a F
    refine list_val F (wn rfl) rfl rfl (.bool false) (ex_bin .eql _ _ _ _ rfl .i64 _ _ (F.e rfl) rfl _ (b_eql (by simp [ha1]))) ?_; clear F a; intro a F
    refine wpList_nil ?_
    replace F : Fr 272 a [(2, .bool false), (3, .slice (some adt) ts.length c), (4, .pointer (some ⟨g4, 0, none⟩)), (5, .slice (some ⟨gr, 0, none⟩) (f0.length + 1) cap), (6, .int .i64 i), (7, .int .i64 ((live f0).length + 1)), (8, .int .i64 k), (33, .bool true), (39, .bool false), (55, .bool false), (152, .bool false)] := F.keep ⟨rfl, rfl, rfl, rfl, rfl, rfl, rfl, rfl, rfl, rfl, rfl, trivial⟩
    refine then_n ?_
    refine wp_cond_false (F.e rfl) ?_
    refine wp_seq ?_
    by_cases hu : 0 < o.at_
    ·
     by_cases hfe : (live f0).length + 1 < 8
     ·
      have hfj : (f0 ++ [fl])[f0.length]? = some fl := by simp
      have hgn := hL.alive
      refine wp_only (fun ar wr => ∃ (A_208 : Option Addr), ∃ (c_208 : Nat), ∃ (g14 : Nat), Fr 272 ar [(2, .bool false), (3, .slice (some adt) ts.length c), (4, .pointer (some ⟨g4, 0, none⟩)), (5, .slice (some ⟨gr, 0, none⟩) (f0.length + 1) cap), (6, .int .i64 i), (7, .int .i64 ((live f0).length + 1)), (8, .int .i64 k), (14, .pointer (some ⟨g14, 0, none⟩)), (15, .int .i64 0), (33, .bool true), (39, .bool false), (55, .bool false), (152, .bool false)] ∧ Mm w wr [⟨g14, #[.slice A_208 ((live (f0 ++ [{ fl with til := o.at_ }])).length + 1) c_208, .int .u64 (next + 1)], 69⟩, ⟨g4, #[.slice Ar ((live f0).length + 1) cr, .int .u64 next], 69⟩, ⟨gr, (((f0 ++ [fl]).flatMap Fate.cs ++ sp).toArray), 96⟩] ∧ RO wr Ar cr ⟨live f0 ++ [fl.key], next⟩ ∧ RO wr A_208 c_208 ⟨live (f0 ++ [{ fl with til := o.at_ }]) ++ [(⟨next, o.sec, 0, false⟩ : Fate).key], next + 1⟩) ?_ ?_
      ·
       refine region_any cy_follows_mixedOrders M ?_; clear M; intro wD M hb
       replace O_r := O_r.below hb
       clear hb; try clear v
       have hS : Below wD.heap.size wD wD := Below.refl _ _; have MD := M
       have D_O_r := O_r
       refine any_val F 0 rfl (by kernel_rfl) (wn rfl) rfl rfl (.agg #[.slice Ar ((live f0).length + 1) cr, .int .u64 next]) (fun w' hS' => ex_load _ _ rfl _ (F.e rfl) _ (lvr (cs := [.slice Ar ((live f0).length + 1) cr, .int .u64 next]) cy_row_69_2 ((MD.below hS').at (i := 0) rfl))) hS ?_; clear F a; intro a F
       refine any_val F 1 rfl (by kernel_rfl) (wn rfl) rfl rfl (.slice (some adt) ts.length c) (fun w' hS' => ex_move _ rfl _ (F.e rfl)) hS ?_; clear F a; intro a F
       refine any_val F 2 rfl (by kernel_rfl) (wn rfl) rfl rfl (.int .i64 i) (fun w' hS' => ex_move _ rfl _ (F.e rfl)) hS ?_; clear F a; intro a F
       refine any_val F 3 rfl (by kernel_rfl) (wn rfl) rfl rfl (.pointer (some (adt.add (i * 35)))) (fun w' hS' => ex_ix _ _ _ rfl 35 cy_sl_92_35 adt _ _ (F.e rfl) .i64 _ (F.e rfl) i rfl (by omega) (adt.add (i * 35)) rfl) hS ?_; clear F a; intro a F
       refine any_val F 4 rfl (by kernel_rfl) (wn rfl) rfl rfl (.pointer (some ((adt.add (i * 35)).add 1))) (fun w' hS' => ex_fa _ _ _ rfl _ (F.e rfl) 1 cy_fa_99_1_1 ((adt.add (i * 35)).add 1) rfl) hS ?_; clear F a; intro a F
       refine any_val F 5 rfl (by kernel_rfl) (wn rfl) rfl rfl (.agg o.sec.cs.toArray) (fun w' hS' => ex_load _ _ rfl _ (F.e rfl) _ (lvr (cs := o.sec.cs) (by rw [Bs.cs_len]; exact cy_row_70_32) (turn_sec ((zt.below (MD.below hS').bel))))) hS ?_; clear F a; intro a F
       refine any_val F 6 rfl (by kernel_rfl) (wn rfl) rfl rfl (.slice (some adt) ts.length c) (fun w' hS' => ex_move _ rfl _ (F.e rfl)) hS ?_; clear F a; intro a F
       refine any_val F 7 rfl (by kernel_rfl) (wn rfl) rfl rfl (.int .i64 i) (fun w' hS' => ex_move _ rfl _ (F.e rfl)) hS ?_; clear F a; intro a F
       refine any_val F 8 rfl (by kernel_rfl) (wn rfl) rfl rfl (.pointer (some (adt.add (i * 35)))) (fun w' hS' => ex_ix _ _ _ rfl 35 cy_sl_92_35 adt _ _ (F.e rfl) .i64 _ (F.e rfl) i rfl (by omega) (adt.add (i * 35)) rfl) hS ?_; clear F a; intro a F
       refine any_val F 9 rfl (by kernel_rfl) (wn rfl) rfl rfl (.pointer (some ((adt.add (i * 35)).add 33))) (fun w' hS' => ex_fa _ _ _ rfl _ (F.e rfl) 33 cy_fa_99_2_33 ((adt.add (i * 35)).add 33) rfl) hS ?_; clear F a; intro a F
       refine any_val F 10 rfl (by kernel_rfl) (wn rfl) rfl rfl (.int .i64 o.at_) (fun w' hS' => ex_load _ _ rfl _ (F.e rfl) _ (lv1 cy_one_2 ((zt.below (MD.below hS').bel).cell 33 _ (Turn.cs_33 _)))) hS ?_; clear F a; intro a F
       refine any_ready [11, 15] (by kernel_rfl) (by simp) ?_
       refine ready_do rfl (wn rfl) (fun K hK => ?_) ?_
       ·
        refine ow_call rfl rfl F 12 #[.agg #[.slice Ar ((live f0).length + 1) cr, .int .u64 next], .agg o.sec.cs.toArray, .int .i64 o.at_] (ex_call 12 _ _ rfl rfl cy_ent_12 _ (map3 (F.e rfl) (F.e rfl) (F.e rfl))) (rot_ok hL hu hfe hnm _ _ _ _ O_r) (fun e v hR => ?_)
        obtain ⟨A_208, c_208, he, O_208, hb⟩ := hR
        refine ⟨.tuple #[.agg #[.slice A_208 ((live (f0 ++ [{ fl with til := o.at_ }])).length + 1) c_208, .int .u64 (next + 1)], .int .i64 0], he, ?_⟩; clear he F a; intro a F
        refine hK _ _ (S_below hS hb) ?_
        replace hS := S_below hS hb
        clear hK K
        replace O_r := O_r.below hb
        replace M := M.below hb; clear hb; try clear wD
        refine any_val F 12 rfl (by kernel_rfl) (wn rfl) rfl rfl (.tuple #[.agg #[.slice A_208 ((live (f0 ++ [{ fl with til := o.at_ }])).length + 1) c_208, .int .u64 (next + 1)], .int .i64 0]) (fun w' hS' => ex_move _ rfl _ (F.e rfl)) hS ?_; clear F a; intro a F
        refine any_val F 13 rfl (by kernel_rfl) (wn rfl) rfl rfl (.agg #[.slice A_208 ((live (f0 ++ [{ fl with til := o.at_ }])).length + 1) c_208, .int .u64 (next + 1)]) (fun w' hS' => ex_extract _ _ rfl _ (F.e rfl) _ rfl) hS ?_; clear F a; intro a F
        refine any_val F 14 rfl (by kernel_rfl) (wn rfl) rfl rfl (.int .i64 0) (fun w' hS' => ex_extract _ _ rfl _ (F.e rfl) _ rfl) hS ?_; clear F a; intro a F
        refine any_ready [15] (by kernel_rfl) (by simp) ?_
        refine ready_do rfl (wn rfl) (fun K hK => ?_) AllReadyH.nil
        refine ow_alloc F M rfl rfl 69 rfl (.agg #[.slice none 0 0, .int .u64 0]) z69 #[.slice none 0 0, .int .u64 0] rfl ?_
        clear F M a; intro a g14 u F M hb hg
        have los_g14 := Nat.le_trans hS.size hg
        refine hK _ _ (S_below hS hb) ?_
        replace hS := S_below hS hb
        clear hK K
        have K_O_r := O_r
        have K_O_208 := O_208
        replace O_r := O_r.below hb
        replace O_208 := O_208.below hb
        have hz_g14 := hb; have lo_g14 := hg
        clear hb hg; try clear v
        refine any_ready [16] (by kernel_rfl) (by simp) ?_
        refine ready_do rfl (wn rfl) (fun K hK => ?_) AllReadyH.nil
        refine ow_put F M rfl 69 _ _ rfl 0 _ #[.slice none 0 0, .int .u64 0] _ rfl (F.e rfl) #[.slice A_208 ((live (f0 ++ [{ fl with til := o.at_ }])).length + 1) c_208, .int .u64 (next + 1)] (F.e rfl) (sz_row (m := 2) cy_row_69_2) rfl (by simp [Value.oneCell']) ?_
        clear F a; have Mo := M; clear M; intro a v F M hgr
        refine hK _ _ (S_grown hS hgr los_g14) ?_
        replace hS := S_grown hS hgr los_g14
        clear hK K
        have hzz := S_grown hz_g14 hgr lo_g14
        replace O_r := K_O_r.below hzz
        replace O_208 := K_O_208.below hzz
        clear hzz hz_g14 lo_g14 K_O_r K_O_208
        clear Mo hgr; try clear u
        replace M : Mm w v [⟨g14, #[.slice A_208 ((live (f0 ++ [{ fl with til := o.at_ }])).length + 1) c_208, .int .u64 (next + 1)], 69⟩, ⟨g4, #[.slice Ar ((live f0).length + 1) cr, .int .u64 next], 69⟩, ⟨gr, (((f0 ++ [fl]).flatMap Fate.cs ++ sp).toArray), 96⟩] := M
        refine any_val F 17 rfl (by kernel_rfl) (wn rfl) rfl rfl (.int .i64 0) (fun w' hS' => ex_assign _ rfl _ (F.e rfl)) hS ?_; clear F a; intro a F
        refine any_done (by kernel_rfl) ?_
        exact ⟨A_208, c_208, g14, F.keep ⟨rfl, rfl, rfl, rfl, rfl, rfl, rfl, rfl, rfl, rfl, rfl, rfl, rfl, trivial⟩, (by refine M.pick' [0, 1, 2] _ ?_ (by decide); exact ⟨rfl, rfl, rfl, trivial⟩), O_r, O_208⟩
       refine ready_do rfl (wn rfl) (fun K hK => ?_) AllReadyH.nil
       refine ow_alloc F M rfl rfl 69 rfl (.agg #[.slice none 0 0, .int .u64 0]) z69 #[.slice none 0 0, .int .u64 0] rfl ?_
       clear F M a; intro a g14 v F M hb hg
       have los_g14 := Nat.le_trans hS.size hg
       refine hK _ _ (S_below hS hb) ?_
       replace hS := S_below hS hb
       clear hK K
       have K_O_r := O_r
       replace O_r := O_r.below hb
       have hz_g14 := hb; have lo_g14 := hg
       clear hb hg; try clear wD
       refine any_ready [11] (by kernel_rfl) (by simp) ?_
       refine ready_do rfl (wn rfl) (fun K hK => ?_) AllReadyH.nil
       refine ow_call rfl rfl F 12 #[.agg #[.slice Ar ((live f0).length + 1) cr, .int .u64 next], .agg o.sec.cs.toArray, .int .i64 o.at_] (ex_call 12 _ _ rfl rfl cy_ent_12 _ (map3 (F.e rfl) (F.e rfl) (F.e rfl))) (rot_ok hL hu hfe hnm _ _ _ _ O_r) (fun e u hR => ?_)
       obtain ⟨A_208, c_208, he, O_208, hb⟩ := hR
       refine ⟨.tuple #[.agg #[.slice A_208 ((live (f0 ++ [{ fl with til := o.at_ }])).length + 1) c_208, .int .u64 (next + 1)], .int .i64 0], he, ?_⟩; clear he F a; intro a F
       refine hK _ _ (S_below hS hb) ?_
       replace hS := S_below hS hb
       clear hK K
       replace O_r := O_r.below hb
       replace hz_g14 := S_below hz_g14 hb
       replace M := M.below hb; clear hb; try clear v
       refine any_val F 12 rfl (by kernel_rfl) (wn rfl) rfl rfl (.tuple #[.agg #[.slice A_208 ((live (f0 ++ [{ fl with til := o.at_ }])).length + 1) c_208, .int .u64 (next + 1)], .int .i64 0]) (fun w' hS' => ex_move _ rfl _ (F.e rfl)) hS ?_; clear F a; intro a F
       refine any_val F 13 rfl (by kernel_rfl) (wn rfl) rfl rfl (.agg #[.slice A_208 ((live (f0 ++ [{ fl with til := o.at_ }])).length + 1) c_208, .int .u64 (next + 1)]) (fun w' hS' => ex_extract _ _ rfl _ (F.e rfl) _ rfl) hS ?_; clear F a; intro a F
       refine any_val F 14 rfl (by kernel_rfl) (wn rfl) rfl rfl (.int .i64 0) (fun w' hS' => ex_extract _ _ rfl _ (F.e rfl) _ rfl) hS ?_; clear F a; intro a F
       refine any_ready [16] (by kernel_rfl) (by simp) ?_
       refine ready_do rfl (wn rfl) (fun K hK => ?_) AllReadyH.nil
       refine ow_put F M rfl 69 _ _ rfl 0 _ #[.slice none 0 0, .int .u64 0] _ rfl (F.e rfl) #[.slice A_208 ((live (f0 ++ [{ fl with til := o.at_ }])).length + 1) c_208, .int .u64 (next + 1)] (F.e rfl) (sz_row (m := 2) cy_row_69_2) rfl (by simp [Value.oneCell']) ?_
       clear F a; have Mo := M; clear M; intro a v F M hgr
       refine hK _ _ (S_grown hS hgr los_g14) ?_
       replace hS := S_grown hS hgr los_g14
       clear hK K
       have hzz := S_grown hz_g14 hgr lo_g14
       replace O_r := K_O_r.below hzz
       replace O_208 := O_208.grown (Mo.blk 0 _ rfl) (by show 107 ≠ 69; decide) hgr
       clear hzz hz_g14 lo_g14 K_O_r
       clear Mo hgr; try clear u
       replace M : Mm w v [⟨g14, #[.slice A_208 ((live (f0 ++ [{ fl with til := o.at_ }])).length + 1) c_208, .int .u64 (next + 1)], 69⟩, ⟨g4, #[.slice Ar ((live f0).length + 1) cr, .int .u64 next], 69⟩, ⟨gr, (((f0 ++ [fl]).flatMap Fate.cs ++ sp).toArray), 96⟩] := M
       refine any_val F 17 rfl (by kernel_rfl) (wn rfl) rfl rfl (.int .i64 0) (fun w' hS' => ex_assign _ rfl _ (F.e rfl)) hS ?_; clear F a; intro a F
       refine any_done (by kernel_rfl) ?_
       exact ⟨A_208, c_208, g14, F.keep ⟨rfl, rfl, rfl, rfl, rfl, rfl, rfl, rfl, rfl, rfl, rfl, rfl, rfl, trivial⟩, (by refine M.pick' [0, 1, 2] _ ?_ (by decide); exact ⟨rfl, rfl, rfl, trivial⟩), O_r, O_208⟩
      clear F M a O_r
      intro a u hR; obtain ⟨A_208, c_208, g14, F, M, O_r, O_208⟩ := hR; try clear v
      refine then_n ?_
      refine wp_seq ?_
      refine wp_region_lit ?_
      refine list_val F (wn rfl) rfl rfl (.slice (some adt) ts.length c) (ex_move _ rfl _ (F.e rfl)) ?_; clear F a; intro a F
      refine list_val F (wn rfl) rfl rfl (.int .i64 i) (ex_move _ rfl _ (F.e rfl)) ?_; clear F a; intro a F
      refine list_val F (wn rfl) rfl rfl (.pointer (some (adt.add (i * 35)))) (ex_ix _ _ _ rfl 35 cy_sl_92_35 adt _ _ (F.e rfl) .i64 _ (F.e rfl) i rfl (by omega) (adt.add (i * 35)) rfl) ?_; clear F a; intro a F
      refine list_val F (wn rfl) rfl rfl (.pointer (some ((adt.add (i * 35)).add 33))) (ex_fa _ _ _ rfl _ (F.e rfl) 33 cy_fa_99_2_33 ((adt.add (i * 35)).add 33) rfl) ?_; clear F a; intro a F
      refine list_val F (wn rfl) rfl rfl (.int .i64 o.at_) (ex_load _ _ rfl _ (F.e rfl) _ (lv1 cy_one_2 ((zt.below M.bel).cell 33 _ (Turn.cs_33 _)))) ?_; clear F a; intro a F
      refine list_val F (wn rfl) rfl rfl (.bool true) (ex_bin .gtr _ _ _ _ rfl .i64 _ _ (F.e rfl) rfl _ (b_gtr (decide_eq_true hu))) ?_; clear F a; intro a F
      refine list_val F (wn rfl) rfl rfl (.bool true) (ex_move _ rfl _ (F.e rfl)) ?_; clear F a; intro a F
      refine list_val F (F.wants 217 true rfl (by kernel_rfl) rfl true rfl) rfl rfl (.int .i64 ((live f0).length + 1)) (ex_move _ rfl _ (F.e rfl)) ?_; clear F a; intro a F
      refine list_val F (F.wants 217 true rfl (by kernel_rfl) rfl true rfl) rfl rfl (.bool true) (ex_bin .lss _ _ _ _ rfl .i64 _ _ (F.e rfl) rfl _ (b_lss (decide_eq_true (by omega)))) ?_; clear F a; intro a F
      refine list_val F (wn rfl) rfl rfl (.bool true) (ex_pick_t _ _ _ rfl (F.e rfl) _ (F.e rfl)) ?_; clear F a; intro a F
      refine list_val F (wn rfl) rfl rfl (.bool true) (ex_assign _ rfl _ (F.e rfl)) ?_; clear F a; intro a F
      refine wpList_nil ?_
      replace F : Fr 272 a [(2, .bool false), (3, .slice (some adt) ts.length c), (4, .pointer (some ⟨g4, 0, none⟩)), (5, .slice (some ⟨gr, 0, none⟩) (f0.length + 1) cap), (6, .int .i64 i), (7, .int .i64 ((live f0).length + 1)), (8, .int .i64 k), (14, .pointer (some ⟨g14, 0, none⟩)), (15, .int .i64 0), (16, .bool true), (33, .bool true), (39, .bool false), (55, .bool false), (152, .bool false)] := F.keep ⟨rfl, rfl, rfl, rfl, rfl, rfl, rfl, rfl, rfl, rfl, rfl, rfl, rfl, rfl, trivial⟩
      refine then_n ?_
      refine wp_seq ?_
      refine wp_seq ?_
      refine wp_region_lit ?_
      refine list_val F (wn rfl) rfl rfl (.int .i64 0) (ex_move _ rfl _ (F.e rfl)) ?_; clear F a; intro a F
      refine list_do (wn rfl) (fun K hK => ?_)
      refine ow_call rfl rfl F 22 #[.int .i64 0] (ex_call 22 _ _ rfl rfl cy_ent_22 _ (map1 (F.e rfl))) (num_any _ _) (fun e v hR => ?_)
      obtain ⟨he, hw⟩ := hR
      refine ⟨.int .i64 0, he, ?_⟩; clear he F a; intro a F
      obtain rfl := hw
      refine hK _ _ ?_
      clear hK K
      refine list_val F (wn rfl) rfl rfl (.bool true) (ex_bin .eql _ _ _ _ rfl .i64 _ _ (F.e rfl) rfl _ (b_eql (by decide))) ?_; clear F a; intro a F
      refine list_val F (wn rfl) rfl rfl (.bool true) (ex_move _ rfl _ (F.e rfl)) ?_; clear F a; intro a F
      refine list_val F (wn rfl) rfl rfl (.bool false) (ex_neqb _ _ _ _ rfl cy_bool_4 true true (F.e rfl) (F.e rfl) false rfl) ?_; clear F a; intro a F
      refine list_val F (wn rfl) rfl rfl (.bool false) (ex_move _ rfl _ (F.e rfl)) ?_; clear F a; intro a F
      refine list_val F (F.wants 226 false rfl (by kernel_rfl) rfl true rfl) rfl rfl (.bool true) (ex_move _ rfl _ (F.e rfl)) ?_; clear F a; intro a F
      refine list_val F (F.wants 226 false rfl (by kernel_rfl) rfl true rfl) rfl rfl (.bool false) (ex_not _ _ rfl _ (F.e rfl) _ rfl) ?_; clear F a; intro a F
      refine list_val F (F.wants 226 false rfl (by kernel_rfl) rfl true rfl) rfl rfl (.bool false) (ex_move _ rfl _ (F.e rfl)) ?_; clear F a; intro a F
      refine list_skip F (F.wants 229 false rfl (by kernel_rfl) rfl false rfl) rfl rfl ?_; clear F a; intro a F
      refine list_skip F (F.wants 229 false rfl (by kernel_rfl) rfl false rfl) rfl rfl ?_; clear F a; intro a F
      refine list_skip F (F.wants 229 false rfl (by kernel_rfl) rfl false rfl) rfl rfl ?_; clear F a; intro a F
      refine list_skip F (F.wants 229 false rfl (by kernel_rfl) rfl false rfl) rfl rfl ?_; clear F a; intro a F
      refine list_val F (F.wants 226 false rfl (by kernel_rfl) rfl true rfl) rfl rfl (.bool false) (ex_pick_f _ _ _ rfl (F.e rfl) _ rfl) ?_; clear F a; intro a F
      refine list_val F (wn rfl) rfl rfl (.bool false) (ex_pick_f _ _ _ rfl (F.e rfl) _ (F.e rfl)) ?_; clear F a; intro a F
      refine wpList_nil ?_
      replace F : Fr 272 a [(2, .bool false), (3, .slice (some adt) ts.length c), (4, .pointer (some ⟨g4, 0, none⟩)), (5, .slice (some ⟨gr, 0, none⟩) (f0.length + 1) cap), (6, .int .i64 i), (7, .int .i64 ((live f0).length + 1)), (8, .int .i64 k), (14, .pointer (some ⟨g14, 0, none⟩)), (15, .int .i64 0), (16, .bool true), (33, .bool true), (39, .bool false), (55, .bool false), (152, .bool false), (235, .bool false)] := F.keep ⟨rfl, rfl, rfl, rfl, rfl, rfl, rfl, rfl, rfl, rfl, rfl, rfl, rfl, rfl, rfl, trivial⟩
      refine then_n ?_
      refine wp_cond_false (F.e rfl) ?_
      refine wp_skip ?_
      refine then_n ?_
      refine wp_seq ?_
      refine wp_region_lit ?_
      refine list_val F (wn rfl) rfl rfl (.bool true) (ex_move _ rfl _ (F.e rfl)) ?_; clear F a; intro a F
      refine wpList_nil ?_
      replace F : Fr 272 a [(2, .bool false), (3, .slice (some adt) ts.length c), (4, .pointer (some ⟨g4, 0, none⟩)), (5, .slice (some ⟨gr, 0, none⟩) (f0.length + 1) cap), (6, .int .i64 i), (7, .int .i64 ((live f0).length + 1)), (8, .int .i64 k), (14, .pointer (some ⟨g14, 0, none⟩)), (15, .int .i64 0), (16, .bool true), (33, .bool true), (39, .bool false), (55, .bool false), (152, .bool false), (235, .bool false), (236, .bool true)] := F.keep ⟨rfl, rfl, rfl, rfl, rfl, rfl, rfl, rfl, rfl, rfl, rfl, rfl, rfl, rfl, rfl, rfl, trivial⟩
      refine then_n ?_
      refine wp_cond_true (F.e rfl) ?_
      refine wp_seq ?_
      refine wp_region_lit ?_
      refine list_val F (wn rfl) rfl rfl (.slice (some ⟨gr, 0, none⟩) (f0.length + 1) cap) (ex_move _ rfl _ (F.e rfl)) ?_; clear F a; intro a F
      refine list_val F (wn rfl) rfl rfl (.slice (some ⟨gr, 0, none⟩) (f0.length + 1) cap) (ex_move _ rfl _ (F.e rfl)) ?_; clear F a; intro a F
      refine list_val F (wn rfl) rfl rfl (.int .i64 (((f0.length + 1) : Nat) : Int)) (ex_len _ _ rfl 35 cy_sl_97_35 _ _ _ (F.e rfl)) ?_; clear F a; intro a F
      refine list_val F (wn rfl) rfl rfl (.int .i64 f0.length) (ex_bin .sub _ _ _ _ rfl .i64 _ _ (F.e rfl) rfl _ (b_sub ((w_i64 (by omega) (by omega)).trans (by omega)))) ?_; clear F a; intro a F
      refine list_val F (wn rfl) rfl rfl (.slice (some adt) ts.length c) (ex_move _ rfl _ (F.e rfl)) ?_; clear F a; intro a F
      refine list_val F (wn rfl) rfl rfl (.int .i64 i) (ex_move _ rfl _ (F.e rfl)) ?_; clear F a; intro a F
      refine list_val F (wn rfl) rfl rfl (.pointer (some (adt.add (i * 35)))) (ex_ix _ _ _ rfl 35 cy_sl_92_35 adt _ _ (F.e rfl) .i64 _ (F.e rfl) i rfl (by omega) (adt.add (i * 35)) rfl) ?_; clear F a; intro a F
      refine list_val F (wn rfl) rfl rfl (.pointer (some ((adt.add (i * 35)).add 33))) (ex_fa _ _ _ rfl _ (F.e rfl) 33 cy_fa_99_2_33 ((adt.add (i * 35)).add 33) rfl) ?_; clear F a; intro a F
      refine list_val F (wn rfl) rfl rfl (.int .i64 o.at_) (ex_load _ _ rfl _ (F.e rfl) _ (lv1 cy_one_2 ((zt.below M.bel).cell 33 _ (Turn.cs_33 _)))) ?_; clear F a; intro a F
      refine list_val F (wn rfl) rfl rfl (.pointer (some ⟨gr, f0.length * 35, none⟩)) (ex_ix _ _ _ rfl 35 cy_sl_97_35 ⟨gr, 0, none⟩ _ _ (F.e rfl) .i64 _ (F.e rfl) f0.length rfl (by omega) ⟨gr, f0.length * 35, none⟩ ad0) ?_; clear F a; intro a F
      refine list_val F (wn rfl) rfl rfl (.pointer (some ⟨gr, f0.length * 35 + 33, none⟩)) (ex_fa _ _ _ rfl _ (F.e rfl) 33 cy_fa_96_2_33 ⟨gr, f0.length * 35 + 33, none⟩ rfl) ?_; clear F a; intro a F
      refine list_do (wn rfl) (fun K hK => ?_)
      refine ow_store F M rfl 2 _ _ rfl 2 gr _ _ rfl (f0.length * 35 + 33) (F.e rfl) _ (F.e rfl) [.int .i64 o.at_] rfl cy_info_2_map_size_some_1 (by rw [List.size_toArray, List.length_append, rows_len Fate.cs_len]; simp; omega) (by simp [Value.oneCell']) ((((f0 ++ [{ fl with til := o.at_ }])).flatMap Fate.cs ++ sp).toArray) (congrArg List.toArray (by rw [show f0 ++ [({ fl with til := o.at_ } : Fate)] = (f0 ++ [fl]).set f0.length { fl with til := o.at_ } by simp]; exact rows_set (vs := [.int .i64 o.at_]) Fate.cs_len hfj (by simp) (Fate.set_33 _ _))) ?_
      clear F a; have Mo := M; clear M; intro a v F M hgr
      refine hK _ _ ?_
      clear hK K
      replace O_r := O_r.grown (Mo.blk 2 _ rfl) (by show 107 ≠ 96; decide) hgr
      replace O_208 := O_208.grown (Mo.blk 2 _ rfl) (by show 107 ≠ 96; decide) hgr
      clear Mo hgr; try clear u
      replace M : Mm w v [⟨g14, #[.slice A_208 ((live (f0 ++ [{ fl with til := o.at_ }])).length + 1) c_208, .int .u64 (next + 1)], 69⟩, ⟨g4, #[.slice Ar ((live f0).length + 1) cr, .int .u64 next], 69⟩, ⟨gr, ((((f0 ++ [{ fl with til := o.at_ }])).flatMap Fate.cs ++ sp).toArray), 96⟩] := M
      refine wpList_nil ?_
      replace F : Fr 272 a [(2, .bool false), (3, .slice (some adt) ts.length c), (4, .pointer (some ⟨g4, 0, none⟩)), (5, .slice (some ⟨gr, 0, none⟩) (f0.length + 1) cap), (6, .int .i64 i), (7, .int .i64 ((live f0).length + 1)), (8, .int .i64 k), (14, .pointer (some ⟨g14, 0, none⟩)), (15, .int .i64 0), (16, .bool true), (33, .bool true), (39, .bool false), (55, .bool false), (152, .bool false), (235, .bool false), (236, .bool true)] := F.keep ⟨rfl, rfl, rfl, rfl, rfl, rfl, rfl, rfl, rfl, rfl, rfl, rfl, rfl, rfl, rfl, rfl, trivial⟩
      refine then_n ?_
      refine wp_seq ?_
      refine wp_region_lit ?_
      refine list_val F (wn rfl) rfl rfl (.slice (some ⟨gr, 0, none⟩) (f0.length + 1) cap) (ex_move _ rfl _ (F.e rfl)) ?_; clear F a; intro a F
      refine list_val F (wn rfl) rfl rfl (.slice (some ⟨gr, 0, none⟩) (f0.length + 1) cap) (ex_move _ rfl _ (F.e rfl)) ?_; clear F a; intro a F
      refine list_val F (wn rfl) rfl rfl (.int .i64 (((f0.length + 1) : Nat) : Int)) (ex_len _ _ rfl 35 cy_sl_97_35 _ _ _ (F.e rfl)) ?_; clear F a; intro a F
      refine list_val F (wn rfl) rfl rfl (.int .i64 next) (ex_bin .add _ _ _ _ rfl .i64 _ _ (F.e rfl) rfl _ (b_add ((w_i64 (by omega) (by omega)).trans (by rw [hnx]; omega)))) ?_; clear F a; intro a F
      refine list_val F (wn rfl) rfl rfl (.int .u64 next) (ex_conv _ _ _ rfl _ .u64 cy_cv_3_67_u64 _ (F.e rfl) _ (w_u64 (by omega) (by omega))) ?_; clear F a; intro a F
      refine list_val F (wn rfl) rfl rfl (.slice (some adt) ts.length c) (ex_move _ rfl _ (F.e rfl)) ?_; clear F a; intro a F
      refine list_val F (wn rfl) rfl rfl (.int .i64 i) (ex_move _ rfl _ (F.e rfl)) ?_; clear F a; intro a F
      refine list_val F (wn rfl) rfl rfl (.pointer (some (adt.add (i * 35)))) (ex_ix _ _ _ rfl 35 cy_sl_92_35 adt _ _ (F.e rfl) .i64 _ (F.e rfl) i rfl (by omega) (adt.add (i * 35)) rfl) ?_; clear F a; intro a F
      refine list_val F (wn rfl) rfl rfl (.pointer (some ((adt.add (i * 35)).add 1))) (ex_fa _ _ _ rfl _ (F.e rfl) 1 cy_fa_99_1_1 ((adt.add (i * 35)).add 1) rfl) ?_; clear F a; intro a F
      refine list_val F (wn rfl) rfl rfl (.agg o.sec.cs.toArray) (ex_load _ _ rfl _ (F.e rfl) _ (lvr (cs := o.sec.cs) (by rw [Bs.cs_len]; exact cy_row_70_32) (turn_sec ((zt.below M.bel))))) ?_; clear F a; intro a F
      refine list_val F (wn rfl) rfl rfl (.agg ((⟨next, o.sec, 0, false⟩ : Fate).arr)) (ex_build 96 _ rfl #[(0, .int .u64 next), (1, .agg o.sec.cs.toArray)] (parts2 (F.e rfl) (F.e rfl)) (.agg ((⟨next, o.sec, 0, false⟩ : Fate).arr)) (build96_01 next o.sec _)) ?_; clear F a; intro a F
      refine list_do (wn rfl) (fun K hK => ?_)
      refine ow_bslice F M rfl rfl 97 1 _ rfl #[(0, .agg ((⟨next, o.sec, 0, false⟩ : Fate).arr))] (parts1 (F.e rfl)) ((⟨next, o.sec, 0, false⟩ : Fate).arr) 96 (newrow96 _ _) ?_
      clear F M a; intro a g259 u F M hb hg
      refine hK _ _ ?_
      clear hK K
      replace O_r := O_r.below hb
      replace O_208 := O_208.below hb
      clear hb hg; try clear v
      refine list_do (wn rfl) (fun K hK => ?_)
      refine ow_append F M rfl rfl _ _ 97 96 35 56 rfl cy_ap_97_96_35_56 3 gr (((f0 ++ [{ fl with til := o.at_ }])).flatMap Fate.cs) sp rfl (f0.length + 1) cap (F.e rfl) (by rw [rows_len Fate.cs_len]; simp) (by rw [List.length_append, rows_len Fate.cs_len] at hcap ⊢; simpa using hcap) hqc hcm ⟨g259, 0, none⟩ 1 1 ((⟨next, o.sec, 0, false⟩ : Fate).cs) (F.e rfl) (Fate.cs_len _) (M.at (i := 0) rfl) (Fate.cs_one _) (by simp only [maxLen]; omega) (by omega) ?_
      clear F a; have Mo := M; clear M; intro a ga_260 ca_260 sp_260 v F M hcap' hqc' hcm' hgr
      refine hK _ _ ?_
      clear hK K
      replace O_r := O_r.grown (Mo.blk 3 _ rfl) (by show 107 ≠ 96; decide) hgr
      replace O_208 := O_208.grown (Mo.blk 3 _ rfl) (by show 107 ≠ 96; decide) hgr
      clear Mo hgr hcap hqc hcm; try clear u
      rw [fates_push] at M hcap'
      refine list_val F (wn rfl) rfl rfl (.slice (some ⟨ga_260, 0, none⟩) (f0.length + 1 + 1) ca_260) (ex_assign _ rfl _ (F.e rfl)) ?_; clear F a; intro a F
      refine wpList_nil ?_
      replace F : Fr 272 a [(2, .bool false), (3, .slice (some adt) ts.length c), (4, .pointer (some ⟨g4, 0, none⟩)), (5, .slice (some ⟨ga_260, 0, none⟩) (f0.length + 1 + 1) ca_260), (6, .int .i64 i), (7, .int .i64 ((live f0).length + 1)), (8, .int .i64 k), (14, .pointer (some ⟨g14, 0, none⟩)), (15, .int .i64 0), (16, .bool true), (33, .bool true), (39, .bool false), (55, .bool false), (152, .bool false), (235, .bool false), (236, .bool true)] := F.keep ⟨rfl, rfl, rfl, rfl, rfl, rfl, rfl, rfl, rfl, rfl, rfl, rfl, rfl, rfl, rfl, rfl, trivial⟩
      refine then_n ?_
      clear O_r
      have O_r := O_208
      clear O_208
      refine wp_region_lit ?_
      refine list_val F (wn rfl) rfl rfl (.agg #[.slice A_208 ((live (f0 ++ [{ fl with til := o.at_ }])).length + 1) c_208, .int .u64 (next + 1)]) (ex_load _ _ rfl _ (F.e rfl) _ (lvr (cs := [.slice A_208 ((live (f0 ++ [{ fl with til := o.at_ }])).length + 1) c_208, .int .u64 (next + 1)]) cy_row_69_2 (M.at (i := 1) rfl))) ?_; clear F a; intro a F
      refine list_do (wn rfl) (fun K hK => ?_)
      refine ow_put F M rfl 69 _ _ rfl 2 _ #[.slice Ar ((live f0).length + 1) cr, .int .u64 next] _ rfl (F.e rfl) #[.slice A_208 ((live (f0 ++ [{ fl with til := o.at_ }])).length + 1) c_208, .int .u64 (next + 1)] (F.e rfl) (sz_row (m := 2) cy_row_69_2) rfl (by simp [Value.oneCell']) ?_
      clear F a; have Mo := M; clear M; intro a u F M hgr
      refine hK _ _ ?_
      clear hK K
      replace O_r := O_r.grown (Mo.blk 2 _ rfl) (by show 107 ≠ 69; decide) hgr
      clear Mo hgr; try clear v
      replace M : Mm w u [⟨g259, ((⟨next, o.sec, 0, false⟩ : Fate).arr), 96⟩, ⟨g14, #[.slice A_208 ((live (f0 ++ [{ fl with til := o.at_ }])).length + 1) c_208, .int .u64 (next + 1)], 69⟩, ⟨g4, #[.slice A_208 ((live (f0 ++ [{ fl with til := o.at_ }])).length + 1) c_208, .int .u64 (next + 1)], 69⟩, ⟨ga_260, (((((f0 ++ [{ fl with til := o.at_ }])) ++ [(⟨next, o.sec, 0, false⟩ : Fate)]).flatMap Fate.cs ++ sp_260).toArray), 96⟩] := M
      refine wpList_nil ?_
      replace F : Fr 272 a [(2, .bool false), (3, .slice (some adt) ts.length c), (4, .pointer (some ⟨g4, 0, none⟩)), (5, .slice (some ⟨ga_260, 0, none⟩) (f0.length + 1 + 1) ca_260), (6, .int .i64 i), (7, .int .i64 ((live f0).length + 1)), (8, .int .i64 k), (14, .pointer (some ⟨g14, 0, none⟩)), (15, .int .i64 0), (16, .bool true), (33, .bool true), (39, .bool false), (55, .bool false), (152, .bool false), (235, .bool false), (236, .bool true)] := F.keep ⟨rfl, rfl, rfl, rfl, rfl, rfl, rfl, rfl, rfl, rfl, rfl, rfl, rfl, rfl, rfl, rfl, trivial⟩
      refine only_n ?_
      rw [show f0.length + 1 = (f0 ++ [({ fl with til := o.at_ } : Fate)]).length by simp] at F
      exact ⟨(f0 ++ [{ fl with til := o.at_ }]), (⟨next, o.sec, 0, false⟩ : Fate), (next + 1), A_208, c_208, ga_260, ca_260, sp_260, F.keep ⟨rfl, rfl, rfl, rfl, rfl, rfl, rfl, trivial⟩, (by refine M.pick' [2, 3] _ ?_ (by decide); exact ⟨rfl, rfl, trivial⟩), O_r, (hL.rotate o.sec hu hfe hnm).2, hcap', (by simpa using hqc'), hcm', (by simp; omega)⟩
     have hno : o.at_ ≤ 0 ∨ 8 ≤ (live f0).length + 1 := .inr (by omega)
     refine wp_only (fun ar wr => ∃ (en : Int), ∃ (A_208 : Option Addr), ∃ (c_208 : Nat), ∃ (g14 : Nat), Fr 272 ar [(2, .bool false), (3, .slice (some adt) ts.length c), (4, .pointer (some ⟨g4, 0, none⟩)), (5, .slice (some ⟨gr, 0, none⟩) (f0.length + 1) cap), (6, .int .i64 i), (7, .int .i64 ((live f0).length + 1)), (8, .int .i64 k), (14, .pointer (some ⟨g14, 0, none⟩)), (15, .int .i64 en), (33, .bool true), (39, .bool false), (55, .bool false), (152, .bool false)] ∧ Mm w wr [⟨g14, #[.slice A_208 0 c_208, .int .u64 0], 69⟩, ⟨g4, #[.slice Ar ((live f0).length + 1) cr, .int .u64 next], 69⟩, ⟨gr, (((f0 ++ [fl]).flatMap Fate.cs ++ sp).toArray), 96⟩] ∧ RO wr Ar cr ⟨live f0 ++ [fl.key], next⟩ ∧ en ≠ 0) ?_ ?_
     ·
      refine region_any cy_follows_mixedOrders M ?_; clear M; intro wD M hb
      replace O_r := O_r.below hb
      clear hb; try clear v
      have hS : Below wD.heap.size wD wD := Below.refl _ _; have MD := M
      have D_O_r := O_r
      refine any_val F 0 rfl (by kernel_rfl) (wn rfl) rfl rfl (.agg #[.slice Ar ((live f0).length + 1) cr, .int .u64 next]) (fun w' hS' => ex_load _ _ rfl _ (F.e rfl) _ (lvr (cs := [.slice Ar ((live f0).length + 1) cr, .int .u64 next]) cy_row_69_2 ((MD.below hS').at (i := 0) rfl))) hS ?_; clear F a; intro a F
      refine any_val F 1 rfl (by kernel_rfl) (wn rfl) rfl rfl (.slice (some adt) ts.length c) (fun w' hS' => ex_move _ rfl _ (F.e rfl)) hS ?_; clear F a; intro a F
      refine any_val F 2 rfl (by kernel_rfl) (wn rfl) rfl rfl (.int .i64 i) (fun w' hS' => ex_move _ rfl _ (F.e rfl)) hS ?_; clear F a; intro a F
      refine any_val F 3 rfl (by kernel_rfl) (wn rfl) rfl rfl (.pointer (some (adt.add (i * 35)))) (fun w' hS' => ex_ix _ _ _ rfl 35 cy_sl_92_35 adt _ _ (F.e rfl) .i64 _ (F.e rfl) i rfl (by omega) (adt.add (i * 35)) rfl) hS ?_; clear F a; intro a F
      refine any_val F 4 rfl (by kernel_rfl) (wn rfl) rfl rfl (.pointer (some ((adt.add (i * 35)).add 1))) (fun w' hS' => ex_fa _ _ _ rfl _ (F.e rfl) 1 cy_fa_99_1_1 ((adt.add (i * 35)).add 1) rfl) hS ?_; clear F a; intro a F
      refine any_val F 5 rfl (by kernel_rfl) (wn rfl) rfl rfl (.agg o.sec.cs.toArray) (fun w' hS' => ex_load _ _ rfl _ (F.e rfl) _ (lvr (cs := o.sec.cs) (by rw [Bs.cs_len]; exact cy_row_70_32) (turn_sec ((zt.below (MD.below hS').bel))))) hS ?_; clear F a; intro a F
      refine any_val F 6 rfl (by kernel_rfl) (wn rfl) rfl rfl (.slice (some adt) ts.length c) (fun w' hS' => ex_move _ rfl _ (F.e rfl)) hS ?_; clear F a; intro a F
      refine any_val F 7 rfl (by kernel_rfl) (wn rfl) rfl rfl (.int .i64 i) (fun w' hS' => ex_move _ rfl _ (F.e rfl)) hS ?_; clear F a; intro a F
      refine any_val F 8 rfl (by kernel_rfl) (wn rfl) rfl rfl (.pointer (some (adt.add (i * 35)))) (fun w' hS' => ex_ix _ _ _ rfl 35 cy_sl_92_35 adt _ _ (F.e rfl) .i64 _ (F.e rfl) i rfl (by omega) (adt.add (i * 35)) rfl) hS ?_; clear F a; intro a F
      refine any_val F 9 rfl (by kernel_rfl) (wn rfl) rfl rfl (.pointer (some ((adt.add (i * 35)).add 33))) (fun w' hS' => ex_fa _ _ _ rfl _ (F.e rfl) 33 cy_fa_99_2_33 ((adt.add (i * 35)).add 33) rfl) hS ?_; clear F a; intro a F
      refine any_val F 10 rfl (by kernel_rfl) (wn rfl) rfl rfl (.int .i64 o.at_) (fun w' hS' => ex_load _ _ rfl _ (F.e rfl) _ (lv1 cy_one_2 ((zt.below (MD.below hS').bel).cell 33 _ (Turn.cs_33 _)))) hS ?_; clear F a; intro a F
      refine any_ready [11, 15] (by kernel_rfl) (by simp) ?_
      refine ready_do rfl (wn rfl) (fun K hK => ?_) ?_
      ·
       obtain ⟨en, hen, hrot⟩ := rot_no hL hnm hno o.sec _ _ _ O_r
       refine ow_call rfl rfl F 12 #[.agg #[.slice Ar ((live f0).length + 1) cr, .int .u64 next], .agg o.sec.cs.toArray, .int .i64 o.at_] (ex_call 12 _ _ rfl rfl cy_ent_12 _ (map3 (F.e rfl) (F.e rfl) (F.e rfl))) (hrot) (fun e v hR => ?_)
       obtain ⟨A_208, c_208, he, hb⟩ := hR
       refine ⟨.tuple #[.agg #[.slice A_208 0 c_208, .int .u64 0], .int .i64 en], he, ?_⟩; clear he F a; intro a F
       refine hK _ _ (S_below hS hb) ?_
       replace hS := S_below hS hb
       clear hK K
       replace O_r := O_r.below hb
       replace M := M.below hb; clear hb; try clear wD
       refine any_val F 12 rfl (by kernel_rfl) (wn rfl) rfl rfl (.tuple #[.agg #[.slice A_208 0 c_208, .int .u64 0], .int .i64 en]) (fun w' hS' => ex_move _ rfl _ (F.e rfl)) hS ?_; clear F a; intro a F
       refine any_val F 13 rfl (by kernel_rfl) (wn rfl) rfl rfl (.agg #[.slice A_208 0 c_208, .int .u64 0]) (fun w' hS' => ex_extract _ _ rfl _ (F.e rfl) _ rfl) hS ?_; clear F a; intro a F
       refine any_val F 14 rfl (by kernel_rfl) (wn rfl) rfl rfl (.int .i64 en) (fun w' hS' => ex_extract _ _ rfl _ (F.e rfl) _ rfl) hS ?_; clear F a; intro a F
       refine any_ready [15] (by kernel_rfl) (by simp) ?_
       refine ready_do rfl (wn rfl) (fun K hK => ?_) AllReadyH.nil
       refine ow_alloc F M rfl rfl 69 rfl (.agg #[.slice none 0 0, .int .u64 0]) z69 #[.slice none 0 0, .int .u64 0] rfl ?_
       clear F M a; intro a g14 u F M hb hg
       have los_g14 := Nat.le_trans hS.size hg
       refine hK _ _ (S_below hS hb) ?_
       replace hS := S_below hS hb
       clear hK K
       have K_O_r := O_r
       have K_hen := hen
       replace O_r := O_r.below hb
       replace hen := hen
       have hz_g14 := hb; have lo_g14 := hg
       clear hb hg; try clear v
       refine any_ready [16] (by kernel_rfl) (by simp) ?_
       refine ready_do rfl (wn rfl) (fun K hK => ?_) AllReadyH.nil
       refine ow_put F M rfl 69 _ _ rfl 0 _ #[.slice none 0 0, .int .u64 0] _ rfl (F.e rfl) #[.slice A_208 0 c_208, .int .u64 0] (F.e rfl) (sz_row (m := 2) cy_row_69_2) rfl (by simp [Value.oneCell']) ?_
       clear F a; have Mo := M; clear M; intro a v F M hgr
       refine hK _ _ (S_grown hS hgr los_g14) ?_
       replace hS := S_grown hS hgr los_g14
       clear hK K
       have hzz := S_grown hz_g14 hgr lo_g14
       replace O_r := K_O_r.below hzz
       replace hen := K_hen
       clear hzz hz_g14 lo_g14 K_O_r K_hen
       clear Mo hgr; try clear u
       replace M : Mm w v [⟨g14, #[.slice A_208 0 c_208, .int .u64 0], 69⟩, ⟨g4, #[.slice Ar ((live f0).length + 1) cr, .int .u64 next], 69⟩, ⟨gr, (((f0 ++ [fl]).flatMap Fate.cs ++ sp).toArray), 96⟩] := M
       refine any_val F 17 rfl (by kernel_rfl) (wn rfl) rfl rfl (.int .i64 en) (fun w' hS' => ex_assign _ rfl _ (F.e rfl)) hS ?_; clear F a; intro a F
       refine any_done (by kernel_rfl) ?_
       exact ⟨en, A_208, c_208, g14, F.keep ⟨rfl, rfl, rfl, rfl, rfl, rfl, rfl, rfl, rfl, rfl, rfl, rfl, rfl, trivial⟩, (by refine M.pick' [0, 1, 2] _ ?_ (by decide); exact ⟨rfl, rfl, rfl, trivial⟩), O_r, hen⟩
      refine ready_do rfl (wn rfl) (fun K hK => ?_) AllReadyH.nil
      refine ow_alloc F M rfl rfl 69 rfl (.agg #[.slice none 0 0, .int .u64 0]) z69 #[.slice none 0 0, .int .u64 0] rfl ?_
      clear F M a; intro a g14 v F M hb hg
      have los_g14 := Nat.le_trans hS.size hg
      refine hK _ _ (S_below hS hb) ?_
      replace hS := S_below hS hb
      clear hK K
      have K_O_r := O_r
      replace O_r := O_r.below hb
      have hz_g14 := hb; have lo_g14 := hg
      clear hb hg; try clear wD
      refine any_ready [11] (by kernel_rfl) (by simp) ?_
      refine ready_do rfl (wn rfl) (fun K hK => ?_) AllReadyH.nil
      obtain ⟨en, hen, hrot⟩ := rot_no hL hnm hno o.sec _ _ _ O_r
      refine ow_call rfl rfl F 12 #[.agg #[.slice Ar ((live f0).length + 1) cr, .int .u64 next], .agg o.sec.cs.toArray, .int .i64 o.at_] (ex_call 12 _ _ rfl rfl cy_ent_12 _ (map3 (F.e rfl) (F.e rfl) (F.e rfl))) (hrot) (fun e u hR => ?_)
      obtain ⟨A_208, c_208, he, hb⟩ := hR
      refine ⟨.tuple #[.agg #[.slice A_208 0 c_208, .int .u64 0], .int .i64 en], he, ?_⟩; clear he F a; intro a F
      refine hK _ _ (S_below hS hb) ?_
      replace hS := S_below hS hb
      clear hK K
      replace O_r := O_r.below hb
      replace hz_g14 := S_below hz_g14 hb
      replace M := M.below hb; clear hb; try clear v
      refine any_val F 12 rfl (by kernel_rfl) (wn rfl) rfl rfl (.tuple #[.agg #[.slice A_208 0 c_208, .int .u64 0], .int .i64 en]) (fun w' hS' => ex_move _ rfl _ (F.e rfl)) hS ?_; clear F a; intro a F
      refine any_val F 13 rfl (by kernel_rfl) (wn rfl) rfl rfl (.agg #[.slice A_208 0 c_208, .int .u64 0]) (fun w' hS' => ex_extract _ _ rfl _ (F.e rfl) _ rfl) hS ?_; clear F a; intro a F
      refine any_val F 14 rfl (by kernel_rfl) (wn rfl) rfl rfl (.int .i64 en) (fun w' hS' => ex_extract _ _ rfl _ (F.e rfl) _ rfl) hS ?_; clear F a; intro a F
      refine any_ready [16] (by kernel_rfl) (by simp) ?_
      refine ready_do rfl (wn rfl) (fun K hK => ?_) AllReadyH.nil
      refine ow_put F M rfl 69 _ _ rfl 0 _ #[.slice none 0 0, .int .u64 0] _ rfl (F.e rfl) #[.slice A_208 0 c_208, .int .u64 0] (F.e rfl) (sz_row (m := 2) cy_row_69_2) rfl (by simp [Value.oneCell']) ?_
      clear F a; have Mo := M; clear M; intro a v F M hgr
      refine hK _ _ (S_grown hS hgr los_g14) ?_
      replace hS := S_grown hS hgr los_g14
      clear hK K
      have hzz := S_grown hz_g14 hgr lo_g14
      replace O_r := K_O_r.below hzz
      replace hen := hen
      clear hzz hz_g14 lo_g14 K_O_r
      clear Mo hgr; try clear u
      replace M : Mm w v [⟨g14, #[.slice A_208 0 c_208, .int .u64 0], 69⟩, ⟨g4, #[.slice Ar ((live f0).length + 1) cr, .int .u64 next], 69⟩, ⟨gr, (((f0 ++ [fl]).flatMap Fate.cs ++ sp).toArray), 96⟩] := M
      refine any_val F 17 rfl (by kernel_rfl) (wn rfl) rfl rfl (.int .i64 en) (fun w' hS' => ex_assign _ rfl _ (F.e rfl)) hS ?_; clear F a; intro a F
      refine any_done (by kernel_rfl) ?_
      exact ⟨en, A_208, c_208, g14, F.keep ⟨rfl, rfl, rfl, rfl, rfl, rfl, rfl, rfl, rfl, rfl, rfl, rfl, rfl, trivial⟩, (by refine M.pick' [0, 1, 2] _ ?_ (by decide); exact ⟨rfl, rfl, rfl, trivial⟩), O_r, hen⟩
     clear F M a O_r
     intro a u hR; obtain ⟨en, A_208, c_208, g14, F, M, O_r, hen⟩ := hR; try clear v
     refine then_n ?_
     refine wp_seq ?_
     refine wp_region_lit ?_
     refine list_val F (wn rfl) rfl rfl (.slice (some adt) ts.length c) (ex_move _ rfl _ (F.e rfl)) ?_; clear F a; intro a F
     refine list_val F (wn rfl) rfl rfl (.int .i64 i) (ex_move _ rfl _ (F.e rfl)) ?_; clear F a; intro a F
     refine list_val F (wn rfl) rfl rfl (.pointer (some (adt.add (i * 35)))) (ex_ix _ _ _ rfl 35 cy_sl_92_35 adt _ _ (F.e rfl) .i64 _ (F.e rfl) i rfl (by omega) (adt.add (i * 35)) rfl) ?_; clear F a; intro a F
     refine list_val F (wn rfl) rfl rfl (.pointer (some ((adt.add (i * 35)).add 33))) (ex_fa _ _ _ rfl _ (F.e rfl) 33 cy_fa_99_2_33 ((adt.add (i * 35)).add 33) rfl) ?_; clear F a; intro a F
     refine list_val F (wn rfl) rfl rfl (.int .i64 o.at_) (ex_load _ _ rfl _ (F.e rfl) _ (lv1 cy_one_2 ((zt.below M.bel).cell 33 _ (Turn.cs_33 _)))) ?_; clear F a; intro a F
     refine list_val F (wn rfl) rfl rfl (.bool true) (ex_bin .gtr _ _ _ _ rfl .i64 _ _ (F.e rfl) rfl _ (b_gtr (decide_eq_true hu))) ?_; clear F a; intro a F
     refine list_val F (wn rfl) rfl rfl (.bool true) (ex_move _ rfl _ (F.e rfl)) ?_; clear F a; intro a F
     refine list_val F (F.wants 217 true rfl (by kernel_rfl) rfl true rfl) rfl rfl (.int .i64 ((live f0).length + 1)) (ex_move _ rfl _ (F.e rfl)) ?_; clear F a; intro a F
     refine list_val F (F.wants 217 true rfl (by kernel_rfl) rfl true rfl) rfl rfl (.bool false) (ex_bin .lss _ _ _ _ rfl .i64 _ _ (F.e rfl) rfl _ (b_lss (decide_eq_false (by omega)))) ?_; clear F a; intro a F
     refine list_val F (wn rfl) rfl rfl (.bool false) (ex_pick_t _ _ _ rfl (F.e rfl) _ (F.e rfl)) ?_; clear F a; intro a F
     refine list_val F (wn rfl) rfl rfl (.bool false) (ex_assign _ rfl _ (F.e rfl)) ?_; clear F a; intro a F
     refine wpList_nil ?_
     replace F : Fr 272 a [(2, .bool false), (3, .slice (some adt) ts.length c), (4, .pointer (some ⟨g4, 0, none⟩)), (5, .slice (some ⟨gr, 0, none⟩) (f0.length + 1) cap), (6, .int .i64 i), (7, .int .i64 ((live f0).length + 1)), (8, .int .i64 k), (14, .pointer (some ⟨g14, 0, none⟩)), (15, .int .i64 en), (16, .bool false), (33, .bool true), (39, .bool false), (55, .bool false), (152, .bool false)] := F.keep ⟨rfl, rfl, rfl, rfl, rfl, rfl, rfl, rfl, rfl, rfl, rfl, rfl, rfl, rfl, trivial⟩
     refine then_n ?_
     refine wp_seq ?_
     refine wp_seq ?_
     refine wp_region_lit ?_
     refine list_val F (wn rfl) rfl rfl (.int .i64 en) (ex_move _ rfl _ (F.e rfl)) ?_; clear F a; intro a F
     refine list_do (wn rfl) (fun K hK => ?_)
     refine ow_call rfl rfl F 22 #[.int .i64 en] (ex_call 22 _ _ rfl rfl cy_ent_22 _ (map1 (F.e rfl))) (num_any _ _) (fun e v hR => ?_)
     obtain ⟨he, hw⟩ := hR
     refine ⟨.int .i64 en, he, ?_⟩; clear he F a; intro a F
     obtain rfl := hw
     refine hK _ _ ?_
     clear hK K
     refine list_val F (wn rfl) rfl rfl (.bool false) (ex_bin .eql _ _ _ _ rfl .i64 _ _ (F.e rfl) rfl _ (b_eql (by simp [hen]))) ?_; clear F a; intro a F
     refine list_val F (wn rfl) rfl rfl (.bool false) (ex_move _ rfl _ (F.e rfl)) ?_; clear F a; intro a F
     refine list_val F (wn rfl) rfl rfl (.bool false) (ex_neqb _ _ _ _ rfl cy_bool_4 false false (F.e rfl) (F.e rfl) false rfl) ?_; clear F a; intro a F
     refine list_val F (wn rfl) rfl rfl (.bool false) (ex_move _ rfl _ (F.e rfl)) ?_; clear F a; intro a F
     refine list_val F (F.wants 226 false rfl (by kernel_rfl) rfl true rfl) rfl rfl (.bool false) (ex_move _ rfl _ (F.e rfl)) ?_; clear F a; intro a F
     refine list_val F (F.wants 226 false rfl (by kernel_rfl) rfl true rfl) rfl rfl (.bool true) (ex_not _ _ rfl _ (F.e rfl) _ rfl) ?_; clear F a; intro a F
     refine list_val F (F.wants 226 false rfl (by kernel_rfl) rfl true rfl) rfl rfl (.bool true) (ex_move _ rfl _ (F.e rfl)) ?_; clear F a; intro a F
     refine list_val F (F.wants 229 true rfl (by kernel_rfl) rfl true rfl) rfl rfl (.pointer (some ⟨g14, 0, none⟩)) (ex_fa _ _ _ rfl _ (F.e rfl) 0 cy_fa_69_0_0 ⟨g14, 0, none⟩ rfl) ?_; clear F a; intro a F
     refine list_val F (F.wants 229 true rfl (by kernel_rfl) rfl true rfl) rfl rfl (.slice A_208 0 c_208) (ex_load _ _ rfl _ (F.e rfl) _ (lv1 cy_one_55 (M.cell (i := 0) rfl (j := 0) rfl))) ?_; clear F a; intro a F
     refine list_val F (F.wants 229 true rfl (by kernel_rfl) rfl true rfl) rfl rfl (.int .i64 0) (ex_len _ _ rfl 34 cy_sl_55_34 _ _ _ (F.e rfl)) ?_; clear F a; intro a F
     refine list_val F (F.wants 229 true rfl (by kernel_rfl) rfl true rfl) rfl rfl (.bool false) (ex_bin .gtr _ _ _ _ rfl .i64 _ _ (F.e rfl) rfl _ (b_gtr (by decide))) ?_; clear F a; intro a F
     refine list_val F (F.wants 226 false rfl (by kernel_rfl) rfl true rfl) rfl rfl (.bool false) (ex_pick_t _ _ _ rfl (F.e rfl) _ (F.e rfl)) ?_; clear F a; intro a F
     refine list_val F (wn rfl) rfl rfl (.bool false) (ex_pick_f _ _ _ rfl (F.e rfl) _ (F.e rfl)) ?_; clear F a; intro a F
     refine wpList_nil ?_
     replace F : Fr 272 a [(2, .bool false), (3, .slice (some adt) ts.length c), (4, .pointer (some ⟨g4, 0, none⟩)), (5, .slice (some ⟨gr, 0, none⟩) (f0.length + 1) cap), (6, .int .i64 i), (7, .int .i64 ((live f0).length + 1)), (8, .int .i64 k), (14, .pointer (some ⟨g14, 0, none⟩)), (15, .int .i64 en), (16, .bool false), (33, .bool true), (39, .bool false), (55, .bool false), (152, .bool false), (235, .bool false)] := F.keep ⟨rfl, rfl, rfl, rfl, rfl, rfl, rfl, rfl, rfl, rfl, rfl, rfl, rfl, rfl, rfl, trivial⟩
     refine then_n ?_
     refine wp_cond_false (F.e rfl) ?_
     refine wp_skip ?_
     refine then_n ?_
     refine wp_seq ?_
     refine wp_region_lit ?_
     refine list_val F (wn rfl) rfl rfl (.bool false) (ex_move _ rfl _ (F.e rfl)) ?_; clear F a; intro a F
     refine wpList_nil ?_
     replace F : Fr 272 a [(2, .bool false), (3, .slice (some adt) ts.length c), (4, .pointer (some ⟨g4, 0, none⟩)), (5, .slice (some ⟨gr, 0, none⟩) (f0.length + 1) cap), (6, .int .i64 i), (7, .int .i64 ((live f0).length + 1)), (8, .int .i64 k), (14, .pointer (some ⟨g14, 0, none⟩)), (15, .int .i64 en), (16, .bool false), (33, .bool true), (39, .bool false), (55, .bool false), (152, .bool false), (235, .bool false), (236, .bool false)] := F.keep ⟨rfl, rfl, rfl, rfl, rfl, rfl, rfl, rfl, rfl, rfl, rfl, rfl, rfl, rfl, rfl, rfl, trivial⟩
     refine then_n ?_
     refine wp_cond_false (F.e rfl) ?_
     refine wp_skip ?_
     refine only_n ?_
     exact ⟨f0, fl, next, Ar, cr, gr, cap, sp, F.keep ⟨rfl, rfl, rfl, rfl, rfl, rfl, rfl, trivial⟩, (by refine M.pick' [1, 2] _ ?_ (by decide); exact ⟨rfl, rfl, trivial⟩), O_r, hL, hcap, hqc, hcm, (by omega)⟩
    have hno : o.at_ ≤ 0 ∨ 8 ≤ (live f0).length + 1 := .inl (by omega)
    refine wp_only (fun ar wr => ∃ (en : Int), ∃ (A_208 : Option Addr), ∃ (c_208 : Nat), ∃ (g14 : Nat), Fr 272 ar [(2, .bool false), (3, .slice (some adt) ts.length c), (4, .pointer (some ⟨g4, 0, none⟩)), (5, .slice (some ⟨gr, 0, none⟩) (f0.length + 1) cap), (6, .int .i64 i), (7, .int .i64 ((live f0).length + 1)), (8, .int .i64 k), (14, .pointer (some ⟨g14, 0, none⟩)), (15, .int .i64 en), (33, .bool true), (39, .bool false), (55, .bool false), (152, .bool false)] ∧ Mm w wr [⟨g14, #[.slice A_208 0 c_208, .int .u64 0], 69⟩, ⟨g4, #[.slice Ar ((live f0).length + 1) cr, .int .u64 next], 69⟩, ⟨gr, (((f0 ++ [fl]).flatMap Fate.cs ++ sp).toArray), 96⟩] ∧ RO wr Ar cr ⟨live f0 ++ [fl.key], next⟩ ∧ en ≠ 0) ?_ ?_
    ·
     refine region_any cy_follows_mixedOrders M ?_; clear M; intro wD M hb
     replace O_r := O_r.below hb
     clear hb; try clear v
     have hS : Below wD.heap.size wD wD := Below.refl _ _; have MD := M
     have D_O_r := O_r
     refine any_val F 0 rfl (by kernel_rfl) (wn rfl) rfl rfl (.agg #[.slice Ar ((live f0).length + 1) cr, .int .u64 next]) (fun w' hS' => ex_load _ _ rfl _ (F.e rfl) _ (lvr (cs := [.slice Ar ((live f0).length + 1) cr, .int .u64 next]) cy_row_69_2 ((MD.below hS').at (i := 0) rfl))) hS ?_; clear F a; intro a F
     refine any_val F 1 rfl (by kernel_rfl) (wn rfl) rfl rfl (.slice (some adt) ts.length c) (fun w' hS' => ex_move _ rfl _ (F.e rfl)) hS ?_; clear F a; intro a F
     refine any_val F 2 rfl (by kernel_rfl) (wn rfl) rfl rfl (.int .i64 i) (fun w' hS' => ex_move _ rfl _ (F.e rfl)) hS ?_; clear F a; intro a F
     refine any_val F 3 rfl (by kernel_rfl) (wn rfl) rfl rfl (.pointer (some (adt.add (i * 35)))) (fun w' hS' => ex_ix _ _ _ rfl 35 cy_sl_92_35 adt _ _ (F.e rfl) .i64 _ (F.e rfl) i rfl (by omega) (adt.add (i * 35)) rfl) hS ?_; clear F a; intro a F
     refine any_val F 4 rfl (by kernel_rfl) (wn rfl) rfl rfl (.pointer (some ((adt.add (i * 35)).add 1))) (fun w' hS' => ex_fa _ _ _ rfl _ (F.e rfl) 1 cy_fa_99_1_1 ((adt.add (i * 35)).add 1) rfl) hS ?_; clear F a; intro a F
     refine any_val F 5 rfl (by kernel_rfl) (wn rfl) rfl rfl (.agg o.sec.cs.toArray) (fun w' hS' => ex_load _ _ rfl _ (F.e rfl) _ (lvr (cs := o.sec.cs) (by rw [Bs.cs_len]; exact cy_row_70_32) (turn_sec ((zt.below (MD.below hS').bel))))) hS ?_; clear F a; intro a F
     refine any_val F 6 rfl (by kernel_rfl) (wn rfl) rfl rfl (.slice (some adt) ts.length c) (fun w' hS' => ex_move _ rfl _ (F.e rfl)) hS ?_; clear F a; intro a F
     refine any_val F 7 rfl (by kernel_rfl) (wn rfl) rfl rfl (.int .i64 i) (fun w' hS' => ex_move _ rfl _ (F.e rfl)) hS ?_; clear F a; intro a F
     refine any_val F 8 rfl (by kernel_rfl) (wn rfl) rfl rfl (.pointer (some (adt.add (i * 35)))) (fun w' hS' => ex_ix _ _ _ rfl 35 cy_sl_92_35 adt _ _ (F.e rfl) .i64 _ (F.e rfl) i rfl (by omega) (adt.add (i * 35)) rfl) hS ?_; clear F a; intro a F
     refine any_val F 9 rfl (by kernel_rfl) (wn rfl) rfl rfl (.pointer (some ((adt.add (i * 35)).add 33))) (fun w' hS' => ex_fa _ _ _ rfl _ (F.e rfl) 33 cy_fa_99_2_33 ((adt.add (i * 35)).add 33) rfl) hS ?_; clear F a; intro a F
     refine any_val F 10 rfl (by kernel_rfl) (wn rfl) rfl rfl (.int .i64 o.at_) (fun w' hS' => ex_load _ _ rfl _ (F.e rfl) _ (lv1 cy_one_2 ((zt.below (MD.below hS').bel).cell 33 _ (Turn.cs_33 _)))) hS ?_; clear F a; intro a F
     refine any_ready [11, 15] (by kernel_rfl) (by simp) ?_
     refine ready_do rfl (wn rfl) (fun K hK => ?_) ?_
     ·
      obtain ⟨en, hen, hrot⟩ := rot_no hL hnm hno o.sec _ _ _ O_r
      refine ow_call rfl rfl F 12 #[.agg #[.slice Ar ((live f0).length + 1) cr, .int .u64 next], .agg o.sec.cs.toArray, .int .i64 o.at_] (ex_call 12 _ _ rfl rfl cy_ent_12 _ (map3 (F.e rfl) (F.e rfl) (F.e rfl))) (hrot) (fun e v hR => ?_)
      obtain ⟨A_208, c_208, he, hb⟩ := hR
      refine ⟨.tuple #[.agg #[.slice A_208 0 c_208, .int .u64 0], .int .i64 en], he, ?_⟩; clear he F a; intro a F
      refine hK _ _ (S_below hS hb) ?_
      replace hS := S_below hS hb
      clear hK K
      replace O_r := O_r.below hb
      replace M := M.below hb; clear hb; try clear wD
      refine any_val F 12 rfl (by kernel_rfl) (wn rfl) rfl rfl (.tuple #[.agg #[.slice A_208 0 c_208, .int .u64 0], .int .i64 en]) (fun w' hS' => ex_move _ rfl _ (F.e rfl)) hS ?_; clear F a; intro a F
      refine any_val F 13 rfl (by kernel_rfl) (wn rfl) rfl rfl (.agg #[.slice A_208 0 c_208, .int .u64 0]) (fun w' hS' => ex_extract _ _ rfl _ (F.e rfl) _ rfl) hS ?_; clear F a; intro a F
      refine any_val F 14 rfl (by kernel_rfl) (wn rfl) rfl rfl (.int .i64 en) (fun w' hS' => ex_extract _ _ rfl _ (F.e rfl) _ rfl) hS ?_; clear F a; intro a F
      refine any_ready [15] (by kernel_rfl) (by simp) ?_
      refine ready_do rfl (wn rfl) (fun K hK => ?_) AllReadyH.nil
      refine ow_alloc F M rfl rfl 69 rfl (.agg #[.slice none 0 0, .int .u64 0]) z69 #[.slice none 0 0, .int .u64 0] rfl ?_
      clear F M a; intro a g14 u F M hb hg
      have los_g14 := Nat.le_trans hS.size hg
      refine hK _ _ (S_below hS hb) ?_
      replace hS := S_below hS hb
      clear hK K
      have K_O_r := O_r
      have K_hen := hen
      replace O_r := O_r.below hb
      replace hen := hen
      have hz_g14 := hb; have lo_g14 := hg
      clear hb hg; try clear v
      refine any_ready [16] (by kernel_rfl) (by simp) ?_
      refine ready_do rfl (wn rfl) (fun K hK => ?_) AllReadyH.nil
      refine ow_put F M rfl 69 _ _ rfl 0 _ #[.slice none 0 0, .int .u64 0] _ rfl (F.e rfl) #[.slice A_208 0 c_208, .int .u64 0] (F.e rfl) (sz_row (m := 2) cy_row_69_2) rfl (by simp [Value.oneCell']) ?_
      clear F a; have Mo := M; clear M; intro a v F M hgr
      refine hK _ _ (S_grown hS hgr los_g14) ?_
      replace hS := S_grown hS hgr los_g14
      clear hK K
      have hzz := S_grown hz_g14 hgr lo_g14
      replace O_r := K_O_r.below hzz
      replace hen := K_hen
      clear hzz hz_g14 lo_g14 K_O_r K_hen
      clear Mo hgr; try clear u
      replace M : Mm w v [⟨g14, #[.slice A_208 0 c_208, .int .u64 0], 69⟩, ⟨g4, #[.slice Ar ((live f0).length + 1) cr, .int .u64 next], 69⟩, ⟨gr, (((f0 ++ [fl]).flatMap Fate.cs ++ sp).toArray), 96⟩] := M
      refine any_val F 17 rfl (by kernel_rfl) (wn rfl) rfl rfl (.int .i64 en) (fun w' hS' => ex_assign _ rfl _ (F.e rfl)) hS ?_; clear F a; intro a F
      refine any_done (by kernel_rfl) ?_
      exact ⟨en, A_208, c_208, g14, F.keep ⟨rfl, rfl, rfl, rfl, rfl, rfl, rfl, rfl, rfl, rfl, rfl, rfl, rfl, trivial⟩, (by refine M.pick' [0, 1, 2] _ ?_ (by decide); exact ⟨rfl, rfl, rfl, trivial⟩), O_r, hen⟩
     refine ready_do rfl (wn rfl) (fun K hK => ?_) AllReadyH.nil
     refine ow_alloc F M rfl rfl 69 rfl (.agg #[.slice none 0 0, .int .u64 0]) z69 #[.slice none 0 0, .int .u64 0] rfl ?_
     clear F M a; intro a g14 v F M hb hg
     have los_g14 := Nat.le_trans hS.size hg
     refine hK _ _ (S_below hS hb) ?_
     replace hS := S_below hS hb
     clear hK K
     have K_O_r := O_r
     replace O_r := O_r.below hb
     have hz_g14 := hb; have lo_g14 := hg
     clear hb hg; try clear wD
     refine any_ready [11] (by kernel_rfl) (by simp) ?_
     refine ready_do rfl (wn rfl) (fun K hK => ?_) AllReadyH.nil
     obtain ⟨en, hen, hrot⟩ := rot_no hL hnm hno o.sec _ _ _ O_r
     refine ow_call rfl rfl F 12 #[.agg #[.slice Ar ((live f0).length + 1) cr, .int .u64 next], .agg o.sec.cs.toArray, .int .i64 o.at_] (ex_call 12 _ _ rfl rfl cy_ent_12 _ (map3 (F.e rfl) (F.e rfl) (F.e rfl))) (hrot) (fun e u hR => ?_)
     obtain ⟨A_208, c_208, he, hb⟩ := hR
     refine ⟨.tuple #[.agg #[.slice A_208 0 c_208, .int .u64 0], .int .i64 en], he, ?_⟩; clear he F a; intro a F
     refine hK _ _ (S_below hS hb) ?_
     replace hS := S_below hS hb
     clear hK K
     replace O_r := O_r.below hb
     replace hz_g14 := S_below hz_g14 hb
     replace M := M.below hb; clear hb; try clear v
     refine any_val F 12 rfl (by kernel_rfl) (wn rfl) rfl rfl (.tuple #[.agg #[.slice A_208 0 c_208, .int .u64 0], .int .i64 en]) (fun w' hS' => ex_move _ rfl _ (F.e rfl)) hS ?_; clear F a; intro a F
     refine any_val F 13 rfl (by kernel_rfl) (wn rfl) rfl rfl (.agg #[.slice A_208 0 c_208, .int .u64 0]) (fun w' hS' => ex_extract _ _ rfl _ (F.e rfl) _ rfl) hS ?_; clear F a; intro a F
     refine any_val F 14 rfl (by kernel_rfl) (wn rfl) rfl rfl (.int .i64 en) (fun w' hS' => ex_extract _ _ rfl _ (F.e rfl) _ rfl) hS ?_; clear F a; intro a F
     refine any_ready [16] (by kernel_rfl) (by simp) ?_
     refine ready_do rfl (wn rfl) (fun K hK => ?_) AllReadyH.nil
     refine ow_put F M rfl 69 _ _ rfl 0 _ #[.slice none 0 0, .int .u64 0] _ rfl (F.e rfl) #[.slice A_208 0 c_208, .int .u64 0] (F.e rfl) (sz_row (m := 2) cy_row_69_2) rfl (by simp [Value.oneCell']) ?_
     clear F a; have Mo := M; clear M; intro a v F M hgr
     refine hK _ _ (S_grown hS hgr los_g14) ?_
     replace hS := S_grown hS hgr los_g14
     clear hK K
     have hzz := S_grown hz_g14 hgr lo_g14
     replace O_r := K_O_r.below hzz
     replace hen := hen
     clear hzz hz_g14 lo_g14 K_O_r
     clear Mo hgr; try clear u
     replace M : Mm w v [⟨g14, #[.slice A_208 0 c_208, .int .u64 0], 69⟩, ⟨g4, #[.slice Ar ((live f0).length + 1) cr, .int .u64 next], 69⟩, ⟨gr, (((f0 ++ [fl]).flatMap Fate.cs ++ sp).toArray), 96⟩] := M
     refine any_val F 17 rfl (by kernel_rfl) (wn rfl) rfl rfl (.int .i64 en) (fun w' hS' => ex_assign _ rfl _ (F.e rfl)) hS ?_; clear F a; intro a F
     refine any_done (by kernel_rfl) ?_
     exact ⟨en, A_208, c_208, g14, F.keep ⟨rfl, rfl, rfl, rfl, rfl, rfl, rfl, rfl, rfl, rfl, rfl, rfl, rfl, trivial⟩, (by refine M.pick' [0, 1, 2] _ ?_ (by decide); exact ⟨rfl, rfl, rfl, trivial⟩), O_r, hen⟩
    clear F M a O_r
    intro a u hR; obtain ⟨en, A_208, c_208, g14, F, M, O_r, hen⟩ := hR; try clear v
    refine then_n ?_
    refine wp_seq ?_
    refine wp_region_lit ?_
    refine list_val F (wn rfl) rfl rfl (.slice (some adt) ts.length c) (ex_move _ rfl _ (F.e rfl)) ?_; clear F a; intro a F
    refine list_val F (wn rfl) rfl rfl (.int .i64 i) (ex_move _ rfl _ (F.e rfl)) ?_; clear F a; intro a F
    refine list_val F (wn rfl) rfl rfl (.pointer (some (adt.add (i * 35)))) (ex_ix _ _ _ rfl 35 cy_sl_92_35 adt _ _ (F.e rfl) .i64 _ (F.e rfl) i rfl (by omega) (adt.add (i * 35)) rfl) ?_; clear F a; intro a F
    refine list_val F (wn rfl) rfl rfl (.pointer (some ((adt.add (i * 35)).add 33))) (ex_fa _ _ _ rfl _ (F.e rfl) 33 cy_fa_99_2_33 ((adt.add (i * 35)).add 33) rfl) ?_; clear F a; intro a F
    refine list_val F (wn rfl) rfl rfl (.int .i64 o.at_) (ex_load _ _ rfl _ (F.e rfl) _ (lv1 cy_one_2 ((zt.below M.bel).cell 33 _ (Turn.cs_33 _)))) ?_; clear F a; intro a F
    refine list_val F (wn rfl) rfl rfl (.bool false) (ex_bin .gtr _ _ _ _ rfl .i64 _ _ (F.e rfl) rfl _ (b_gtr (decide_eq_false hu))) ?_; clear F a; intro a F
    refine list_val F (wn rfl) rfl rfl (.bool false) (ex_move _ rfl _ (F.e rfl)) ?_; clear F a; intro a F
    refine list_skip F (F.wants 217 false rfl (by kernel_rfl) rfl false rfl) rfl rfl ?_; clear F a; intro a F
    refine list_skip F (F.wants 217 false rfl (by kernel_rfl) rfl false rfl) rfl rfl ?_; clear F a; intro a F
    refine list_val F (wn rfl) rfl rfl (.bool false) (ex_pick_f _ _ _ rfl (F.e rfl) _ rfl) ?_; clear F a; intro a F
    refine list_val F (wn rfl) rfl rfl (.bool false) (ex_assign _ rfl _ (F.e rfl)) ?_; clear F a; intro a F
    refine wpList_nil ?_
    replace F : Fr 272 a [(2, .bool false), (3, .slice (some adt) ts.length c), (4, .pointer (some ⟨g4, 0, none⟩)), (5, .slice (some ⟨gr, 0, none⟩) (f0.length + 1) cap), (6, .int .i64 i), (7, .int .i64 ((live f0).length + 1)), (8, .int .i64 k), (14, .pointer (some ⟨g14, 0, none⟩)), (15, .int .i64 en), (16, .bool false), (33, .bool true), (39, .bool false), (55, .bool false), (152, .bool false)] := F.keep ⟨rfl, rfl, rfl, rfl, rfl, rfl, rfl, rfl, rfl, rfl, rfl, rfl, rfl, rfl, trivial⟩
    refine then_n ?_
    refine wp_seq ?_
    refine wp_seq ?_
    refine wp_region_lit ?_
    refine list_val F (wn rfl) rfl rfl (.int .i64 en) (ex_move _ rfl _ (F.e rfl)) ?_; clear F a; intro a F
    refine list_do (wn rfl) (fun K hK => ?_)
    refine ow_call rfl rfl F 22 #[.int .i64 en] (ex_call 22 _ _ rfl rfl cy_ent_22 _ (map1 (F.e rfl))) (num_any _ _) (fun e v hR => ?_)
    obtain ⟨he, hw⟩ := hR
    refine ⟨.int .i64 en, he, ?_⟩; clear he F a; intro a F
    obtain rfl := hw
    refine hK _ _ ?_
    clear hK K
    refine list_val F (wn rfl) rfl rfl (.bool false) (ex_bin .eql _ _ _ _ rfl .i64 _ _ (F.e rfl) rfl _ (b_eql (by simp [hen]))) ?_; clear F a; intro a F
    refine list_val F (wn rfl) rfl rfl (.bool false) (ex_move _ rfl _ (F.e rfl)) ?_; clear F a; intro a F
    refine list_val F (wn rfl) rfl rfl (.bool false) (ex_neqb _ _ _ _ rfl cy_bool_4 false false (F.e rfl) (F.e rfl) false rfl) ?_; clear F a; intro a F
    refine list_val F (wn rfl) rfl rfl (.bool false) (ex_move _ rfl _ (F.e rfl)) ?_; clear F a; intro a F
    refine list_val F (F.wants 226 false rfl (by kernel_rfl) rfl true rfl) rfl rfl (.bool false) (ex_move _ rfl _ (F.e rfl)) ?_; clear F a; intro a F
    refine list_val F (F.wants 226 false rfl (by kernel_rfl) rfl true rfl) rfl rfl (.bool true) (ex_not _ _ rfl _ (F.e rfl) _ rfl) ?_; clear F a; intro a F
    refine list_val F (F.wants 226 false rfl (by kernel_rfl) rfl true rfl) rfl rfl (.bool true) (ex_move _ rfl _ (F.e rfl)) ?_; clear F a; intro a F
    refine list_val F (F.wants 229 true rfl (by kernel_rfl) rfl true rfl) rfl rfl (.pointer (some ⟨g14, 0, none⟩)) (ex_fa _ _ _ rfl _ (F.e rfl) 0 cy_fa_69_0_0 ⟨g14, 0, none⟩ rfl) ?_; clear F a; intro a F
    refine list_val F (F.wants 229 true rfl (by kernel_rfl) rfl true rfl) rfl rfl (.slice A_208 0 c_208) (ex_load _ _ rfl _ (F.e rfl) _ (lv1 cy_one_55 (M.cell (i := 0) rfl (j := 0) rfl))) ?_; clear F a; intro a F
    refine list_val F (F.wants 229 true rfl (by kernel_rfl) rfl true rfl) rfl rfl (.int .i64 0) (ex_len _ _ rfl 34 cy_sl_55_34 _ _ _ (F.e rfl)) ?_; clear F a; intro a F
    refine list_val F (F.wants 229 true rfl (by kernel_rfl) rfl true rfl) rfl rfl (.bool false) (ex_bin .gtr _ _ _ _ rfl .i64 _ _ (F.e rfl) rfl _ (b_gtr (by decide))) ?_; clear F a; intro a F
    refine list_val F (F.wants 226 false rfl (by kernel_rfl) rfl true rfl) rfl rfl (.bool false) (ex_pick_t _ _ _ rfl (F.e rfl) _ (F.e rfl)) ?_; clear F a; intro a F
    refine list_val F (wn rfl) rfl rfl (.bool false) (ex_pick_f _ _ _ rfl (F.e rfl) _ (F.e rfl)) ?_; clear F a; intro a F
    refine wpList_nil ?_
    replace F : Fr 272 a [(2, .bool false), (3, .slice (some adt) ts.length c), (4, .pointer (some ⟨g4, 0, none⟩)), (5, .slice (some ⟨gr, 0, none⟩) (f0.length + 1) cap), (6, .int .i64 i), (7, .int .i64 ((live f0).length + 1)), (8, .int .i64 k), (14, .pointer (some ⟨g14, 0, none⟩)), (15, .int .i64 en), (16, .bool false), (33, .bool true), (39, .bool false), (55, .bool false), (152, .bool false), (235, .bool false)] := F.keep ⟨rfl, rfl, rfl, rfl, rfl, rfl, rfl, rfl, rfl, rfl, rfl, rfl, rfl, rfl, rfl, trivial⟩
    refine then_n ?_
    refine wp_cond_false (F.e rfl) ?_
    refine wp_skip ?_
    refine then_n ?_
    refine wp_seq ?_
    refine wp_region_lit ?_
    refine list_val F (wn rfl) rfl rfl (.bool false) (ex_move _ rfl _ (F.e rfl)) ?_; clear F a; intro a F
    refine wpList_nil ?_
    replace F : Fr 272 a [(2, .bool false), (3, .slice (some adt) ts.length c), (4, .pointer (some ⟨g4, 0, none⟩)), (5, .slice (some ⟨gr, 0, none⟩) (f0.length + 1) cap), (6, .int .i64 i), (7, .int .i64 ((live f0).length + 1)), (8, .int .i64 k), (14, .pointer (some ⟨g14, 0, none⟩)), (15, .int .i64 en), (16, .bool false), (33, .bool true), (39, .bool false), (55, .bool false), (152, .bool false), (235, .bool false), (236, .bool false)] := F.keep ⟨rfl, rfl, rfl, rfl, rfl, rfl, rfl, rfl, rfl, rfl, rfl, rfl, rfl, rfl, rfl, rfl, trivial⟩
    refine then_n ?_
    refine wp_cond_false (F.e rfl) ?_
    refine wp_skip ?_
    refine only_n ?_
    exact ⟨f0, fl, next, Ar, cr, gr, cap, sp, F.keep ⟨rfl, rfl, rfl, rfl, rfl, rfl, rfl, trivial⟩, (by refine M.pick' [1, 2] _ ?_ (by decide); exact ⟨rfl, rfl, trivial⟩), O_r, hL, hcap, hqc, hcm, (by omega)⟩
   clear F M a O_r
   intro a u hR; obtain ⟨f1, fl1, next1, Ar1, cr1, gr1, cap1, sp1, F, M, O_r, hL1, hcap1, hqc1, hcm1, hlen1⟩ := hR; try clear v
   refine then_n ?_
   refine wp_seq ?_
   refine wp_region_lit ?_
   refine list_val F (wn rfl) rfl rfl (.agg #[.slice Ar1 ((live f1).length + 1) cr1, .int .u64 next1]) (ex_load _ _ rfl _ (F.e rfl) _ (lvr (cs := [.slice Ar1 ((live f1).length + 1) cr1, .int .u64 next1]) cy_row_69_2 (M.at (i := 0) rfl))) ?_; clear F a; intro a F
   refine list_val F (wn rfl) rfl rfl (.slice (some ⟨gr1, 0, none⟩) (f1.length + 1) cap1) (ex_move _ rfl _ (F.e rfl)) ?_; clear F a; intro a F
   refine list_do (wn rfl) (fun K hK => ?_)
   refine ow_call rfl rfl F 27 #[.agg #[.slice Ar1 ((live f1).length + 1) cr1, .int .u64 next1], .slice (some ⟨gr1, 0, none⟩) (f1.length + 1) cap1] (ex_call 27 _ _ rfl rfl cy_ent_27 _ (map2 (F.e rfl) (F.e rfl))) (stands_any hL1 _ _ _ _ _ O_r (rows_C' Fate.cs_len (M.at (i := 1) rfl) (by simp) (by simp only [maxLen]; omega)) (by omega)) (fun e v hR => ?_)
   obtain ⟨he, hb⟩ := hR
   refine ⟨.bool true, he, ?_⟩; clear he F a; intro a F
   refine hK _ _ ?_
   clear hK K
   replace O_r := O_r.below hb
   replace M := M.below hb; clear hb; try clear u
   refine list_val F (wn rfl) rfl rfl (.bool false) (ex_not _ _ rfl _ (F.e rfl) _ rfl) ?_; clear F a; intro a F
   refine wpList_nil ?_
   replace F : Fr 272 a [(2, .bool false), (3, .slice (some adt) ts.length c), (4, .pointer (some ⟨g4, 0, none⟩)), (5, .slice (some ⟨gr1, 0, none⟩) (f1.length + 1) cap1), (6, .int .i64 i), (33, .bool true), (39, .bool false), (265, .bool false)] := F.keep ⟨rfl, rfl, rfl, rfl, rfl, rfl, rfl, rfl, trivial⟩
   refine then_n ?_
   refine wp_cond_false (F.e rfl) ?_
   refine wp_skip ?_
   refine in_n ?_
   refine then_n ?_
   refine wp_region_lit ?_
   refine list_val F (wn rfl) rfl rfl (.int .i64 i) (ex_move _ rfl _ (F.e rfl)) ?_; clear F a; intro a F
   refine list_val F (wn rfl) rfl rfl (.int .i64 (i + 1)) (ex_bin .add _ _ _ _ rfl .i64 _ _ (F.e rfl) rfl _ (b_add (w_i64 (by omega) (by omega)))) ?_; clear F a; intro a F
   refine list_val F (wn rfl) rfl rfl (.int .i64 (i + 1)) (ex_assign _ rfl _ (F.e rfl)) ?_; clear F a; intro a F
   refine wpList_nil ?_
   replace F : Fr 272 a [(2, .bool false), (3, .slice (some adt) ts.length c), (4, .pointer (some ⟨g4, 0, none⟩)), (5, .slice (some ⟨gr1, 0, none⟩) (f1.length + 1) cap1), (6, .int .i64 (i + 1)), (33, .bool true), (39, .bool false), (265, .bool false)] := F.keep ⟨rfl, rfl, rfl, rfl, rfl, rfl, rfl, rfl, trivial⟩
   refine then_n ?_
   exact ⟨ts.length - (i + 1), by omega, f1, fl1, next1, Ar1, cr1, gr1, cap1, sp1, (i + 1), F.keep ⟨rfl, rfl, rfl, rfl, rfl, trivial⟩, (by refine M.pick' [0, 1] _ ?_ (by decide); exact ⟨rfl, rfl, trivial⟩), O_r, hL1, hcap1, hqc1, hcm1, (by omega), (by omega), (by omega), (by omega)⟩
  refine wp_seq ?_
  refine wp_seq ?_
  refine wp_region_lit ?_
  refine list_val F (wn rfl) rfl rfl (.int .i64 i) (ex_move _ rfl _ (F.e rfl)) ?_; clear F a; intro a F
  refine list_val F (wn rfl) rfl rfl (.slice A ts.length c) (ex_move _ rfl _ (F.e rfl)) ?_; clear F a; intro a F
  refine list_val F (wn rfl) rfl rfl (.int .i64 ((ts.length : Nat) : Int)) (ex_len _ _ rfl 35 cy_sl_92_35 _ _ _ (F.e rfl)) ?_; clear F a; intro a F
  refine list_val F (wn rfl) rfl rfl (.bool true) (ex_bin .lss _ _ _ _ rfl .i64 _ _ (F.e rfl) (F.e rfl) _ (b_lss (decide_eq_true (by omega)))) ?_; clear F a; intro a F
  refine list_val F (wn rfl) rfl rfl (.bool true) (ex_move _ rfl _ (F.e rfl)) ?_; clear F a; intro a F
  refine list_val F (F.wants 30 true rfl (by kernel_rfl) rfl true rfl) rfl rfl (.int .i64 i) (ex_move _ rfl _ (F.e rfl)) ?_; clear F a; intro a F
  refine list_val F (F.wants 30 true rfl (by kernel_rfl) rfl true rfl) rfl rfl (.bool false) (ex_bin .lss _ _ _ _ rfl .i64 _ _ (F.e rfl) rfl _ (b_lss (decide_eq_false (by omega)))) ?_; clear F a; intro a F
  refine list_val F (wn rfl) rfl rfl (.bool false) (ex_pick_t _ _ _ rfl (F.e rfl) _ (F.e rfl)) ?_; clear F a; intro a F
  refine wpList_nil ?_
  replace F : Fr 272 a [(2, .bool false), (3, .slice A ts.length c), (4, .pointer (some ⟨g4, 0, none⟩)), (5, .slice (some ⟨gr, 0, none⟩) (f0.length + 1) cap), (6, .int .i64 i), (33, .bool false)] := F.keep ⟨rfl, rfl, rfl, rfl, rfl, rfl, trivial⟩
  refine then_n ?_
  refine wp_cond_false (F.e rfl) ?_
  refine wp_exit ?_
  refine then_x ?_
  refine then_x ?_
  refine in_hit ?_
  refine then_n ?_
  refine wp_seq ?_
  refine wp_region_lit ?_
  refine list_val F (wn rfl) rfl rfl (.agg #[.slice Ar ((live f0).length + 1) cr, .int .u64 next]) (ex_load _ _ rfl _ (F.e rfl) _ (lvr (cs := [.slice Ar ((live f0).length + 1) cr, .int .u64 next]) cy_row_69_2 (M.at (i := 0) rfl))) ?_; clear F a; intro a F
  refine list_val F (wn rfl) rfl rfl (.slice (some ⟨gr, 0, none⟩) (f0.length + 1) cap) (ex_move _ rfl _ (F.e rfl)) ?_; clear F a; intro a F
  refine list_do (wn rfl) (fun K hK => ?_)
  refine ow_call rfl rfl F 27 #[.agg #[.slice Ar ((live f0).length + 1) cr, .int .u64 next], .slice (some ⟨gr, 0, none⟩) (f0.length + 1) cap] (ex_call 27 _ _ rfl rfl cy_ent_27 _ (map2 (F.e rfl) (F.e rfl))) (stands_any hL _ _ _ _ _ O_r (rows_C' Fate.cs_len (M.at (i := 1) rfl) (by simp) (by simp only [maxLen]; omega)) (by omega)) (fun e v hR => ?_)
  obtain ⟨he, hb⟩ := hR
  refine ⟨.bool true, he, ?_⟩; clear he F a; intro a F
  refine hK _ _ ?_
  clear hK K
  replace O_r := O_r.below hb
  replace M := M.below hb; clear hb; try clear u
  refine list_val F (wn rfl) rfl rfl (.bool true) (ex_move _ rfl _ (F.e rfl)) ?_; clear F a; intro a F
  refine list_do (F.wants 269 true rfl (by kernel_rfl) rfl true rfl) (fun K hK => ?_)
  refine ow_call rfl rfl F 26 #[] (ex_call 26 _ _ rfl rfl cy_ent_26 _ (map0)) (wakes_any _) (fun e u hR => ?_)
  obtain ⟨he, hb⟩ := hR
  refine ⟨.bool true, he, ?_⟩; clear he F a; intro a F
  refine hK _ _ ?_
  clear hK K
  replace O_r := O_r.below hb
  replace M := M.below hb; clear hb; try clear v
  refine list_val F (wn rfl) rfl rfl (.bool true) (ex_pick_t _ _ _ rfl (F.e rfl) _ (F.e rfl)) ?_; clear F a; intro a F
  refine list_val F (wn rfl) rfl rfl (.bool true) (ex_assign _ rfl _ (F.e rfl)) ?_; clear F a; intro a F
  refine wpList_nil ?_
  replace F : Fr 272 a [(2, .bool true), (3, .slice A ts.length c), (4, .pointer (some ⟨g4, 0, none⟩)), (5, .slice (some ⟨gr, 0, none⟩) (f0.length + 1) cap), (6, .int .i64 i), (33, .bool false)] := F.keep ⟨rfl, rfl, rfl, rfl, rfl, rfl, trivial⟩
  refine then_n ?_
  refine wp_ret ?_
  exact ret_tmp F rfl rfl ⟨rfl, M.bel⟩
 refine wp_seq ?_
 refine wp_seq ?_
 refine wp_region_lit ?_
 refine list_val F (wn rfl) rfl rfl (.int .i64 i) (ex_move _ rfl _ (F.e rfl)) ?_; clear F a; intro a F
 refine list_val F (wn rfl) rfl rfl (.slice A ts.length c) (ex_move _ rfl _ (F.e rfl)) ?_; clear F a; intro a F
 refine list_val F (wn rfl) rfl rfl (.int .i64 ((ts.length : Nat) : Int)) (ex_len _ _ rfl 35 cy_sl_92_35 _ _ _ (F.e rfl)) ?_; clear F a; intro a F
 refine list_val F (wn rfl) rfl rfl (.bool false) (ex_bin .lss _ _ _ _ rfl .i64 _ _ (F.e rfl) (F.e rfl) _ (b_lss (decide_eq_false (by omega)))) ?_; clear F a; intro a F
 refine list_val F (wn rfl) rfl rfl (.bool false) (ex_move _ rfl _ (F.e rfl)) ?_; clear F a; intro a F
 refine list_skip F (F.wants 30 false rfl (by kernel_rfl) rfl false rfl) rfl rfl ?_; clear F a; intro a F
 refine list_skip F (F.wants 30 false rfl (by kernel_rfl) rfl false rfl) rfl rfl ?_; clear F a; intro a F
 refine list_val F (wn rfl) rfl rfl (.bool false) (ex_pick_f _ _ _ rfl (F.e rfl) _ rfl) ?_; clear F a; intro a F
 refine wpList_nil ?_
 replace F : Fr 272 a [(2, .bool false), (3, .slice A ts.length c), (4, .pointer (some ⟨g4, 0, none⟩)), (5, .slice (some ⟨gr, 0, none⟩) (f0.length + 1) cap), (6, .int .i64 i), (33, .bool false)] := F.keep ⟨rfl, rfl, rfl, rfl, rfl, rfl, trivial⟩
 refine then_n ?_
 refine wp_cond_false (F.e rfl) ?_
 refine wp_exit ?_
 refine then_x ?_
 refine then_x ?_
 refine in_hit ?_
 refine then_n ?_
 refine wp_seq ?_
 refine wp_region_lit ?_
 refine list_val F (wn rfl) rfl rfl (.agg #[.slice Ar ((live f0).length + 1) cr, .int .u64 next]) (ex_load _ _ rfl _ (F.e rfl) _ (lvr (cs := [.slice Ar ((live f0).length + 1) cr, .int .u64 next]) cy_row_69_2 (M.at (i := 0) rfl))) ?_; clear F a; intro a F
 refine list_val F (wn rfl) rfl rfl (.slice (some ⟨gr, 0, none⟩) (f0.length + 1) cap) (ex_move _ rfl _ (F.e rfl)) ?_; clear F a; intro a F
 refine list_do (wn rfl) (fun K hK => ?_)
 refine ow_call rfl rfl F 27 #[.agg #[.slice Ar ((live f0).length + 1) cr, .int .u64 next], .slice (some ⟨gr, 0, none⟩) (f0.length + 1) cap] (ex_call 27 _ _ rfl rfl cy_ent_27 _ (map2 (F.e rfl) (F.e rfl))) (stands_any hL _ _ _ _ _ O_r (rows_C' Fate.cs_len (M.at (i := 1) rfl) (by simp) (by simp only [maxLen]; omega)) (by omega)) (fun e v hR => ?_)
 obtain ⟨he, hb⟩ := hR
 refine ⟨.bool true, he, ?_⟩; clear he F a; intro a F
 refine hK _ _ ?_
 clear hK K
 replace O_r := O_r.below hb
 replace M := M.below hb; clear hb; try clear u
 refine list_val F (wn rfl) rfl rfl (.bool true) (ex_move _ rfl _ (F.e rfl)) ?_; clear F a; intro a F
 refine list_do (F.wants 269 true rfl (by kernel_rfl) rfl true rfl) (fun K hK => ?_)
 refine ow_call rfl rfl F 26 #[] (ex_call 26 _ _ rfl rfl cy_ent_26 _ (map0)) (wakes_any _) (fun e u hR => ?_)
 obtain ⟨he, hb⟩ := hR
 refine ⟨.bool true, he, ?_⟩; clear he F a; intro a F
 refine hK _ _ ?_
 clear hK K
 replace O_r := O_r.below hb
 replace M := M.below hb; clear hb; try clear v
 refine list_val F (wn rfl) rfl rfl (.bool true) (ex_pick_t _ _ _ rfl (F.e rfl) _ (F.e rfl)) ?_; clear F a; intro a F
 refine list_val F (wn rfl) rfl rfl (.bool true) (ex_assign _ rfl _ (F.e rfl)) ?_; clear F a; intro a F
 refine wpList_nil ?_
 replace F : Fr 272 a [(2, .bool true), (3, .slice A ts.length c), (4, .pointer (some ⟨g4, 0, none⟩)), (5, .slice (some ⟨gr, 0, none⟩) (f0.length + 1) cap), (6, .int .i64 i), (33, .bool false)] := F.keep ⟨rfl, rfl, rfl, rfl, rfl, rfl, trivial⟩
 refine then_n ?_
 refine wp_ret ?_
 exact ret_tmp F rfl rfl ⟨rfl, M.bel⟩
end Go.Proofs.Ytnechcibpmjblaa
