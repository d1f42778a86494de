/- posternlaw1.Book at one type of elements: its cells, what holds of it, its calls' walks. Conditions: those of each lemma. -/
import Derived.Test.YtnjbjjmoglogeaaGreatBK
import Derived.Test.YtnjbjjmoglogeaaGreatST
import Derived.Test.YtnjbjjmoglogeaaGreatR6
namespace Go.Proofs.YtnjbjjmoglogeaaGreat
open Go.RowKit Go.Proofs.YtnjbjjmoglogeaaGreatW.PrintWords KB WG RO BK
set_option linter.unusedVariables false
set_option linter.unusedSimpArgs false
set_option linter.unnecessarySimpa false
def mkM (k j : Nat) : Rv := ⟨false, ((k * 1048576 : Nat) : Int), zBs 16, -7⟩
theorem build85_13 (g t : Int) (w : World) : (Instr.build 85 #[(1, .int .u64 g), (3, .int .i64 t)]).run Tryz.prog w = .ok (.agg (⟨false, g, zBs 16, t⟩ : Rv).arr) w := by kernel_rfl
theorem ret_c1 {P : Program} {a : Act} {w : World} {n : Nat} {L : List (Nat × Value)} {fn : Func} {R : Ending → World → Prop} (F : Fr n a L) {t : Nat} {T : TypeId} {p : Addr} {v : Value} (hr : fn.results = #[.cell t T]) (hv : lk L t = some (.pointer (some p)))
    (hl : (loadVar T p).run P w = .ok v w) (h : R (.returned v) w) : bodyPost P fn R .ret a w :=
  bodyPost_ret (by
    have e1 : a.tmps[t]?.getD undef = .pointer (some p) := by rw [← Array.getD_eq_getD_getElem?]; exact F.ev t _ hv
    simp [results, hr, e1, asAddr, hl, Sem.run_bind]) F.defers h
def bkC (kv ko : Value) (kA tn dn us : Nat) : List Value := [.slice none 0 0, .slice none 0 0, .int .i64 0, .slice none 0 0, .slice none 0 0, .int .i64 0, .slice none 0 0, .slice none 0 0, .int .i64 0, .slice none 0 0, .slice none 0 0, .int .i64 0, .slice none 0 0, .slice none 0 0, .int .i64 0, .slice none 0 0, .slice none 0 0, .int .i64 0, .slice none 0 0, .slice none 0 0, .int .i64 0, .slice none 0 0, .slice none 0 0, .int .i64 0, .slice none 0 0, .slice none 0 0, .int .i64 0, .slice none 0 0, .slice none 0 0, .int .i64 0, kv, ko, .int .i64 (kA : Int), .slice none 0 0, .slice none 0 0, .int .i64 0, .slice none 0 0, .slice none 0 0, .int .i64 0, .slice none 0 0, .slice none 0 0, .int .i64 0, .slice none 0 0, .slice none 0 0, .int .i64 0, .slice none 0 0, .slice none 0 0, .int .i64 0, .slice none 0 0, .slice none 0 0, .int .i64 0, .slice none 0 0, .slice none 0 0, .int .i64 0, .slice none 0 0, .slice none 0 0, .int .i64 0, .slice none 0 0, .slice none 0 0, .int .i64 0, .slice none 0 0, .slice none 0 0, .int .i64 0, .slice none 0 0, .slice none 0 0, .int .i64 0, .slice none 0 0, .slice none 0 0, .int .i64 0, .slice none 0 0, .slice none 0 0, .int .i64 0, .int .i64 (tn : Int), .int .i64 (dn : Int), .int .i64 (us : Int)]
abbrev AllM (own : Nat → Nat) (base : Nat) (w : World) (rows : List Sl) (ms : List Nat) : Prop := AllK Rv.cs 19 85 mkM own base w rows ms
/-- How much is kept: rows, marks, bytes. -/
structure BkB (rows : List Sl) (ms : List Nat) (kA tn us : Nat) : Prop where
  n : ∀ (i : Nat) s, rows[i]? = some s → s.n ≤ 1000100 ∧ (kA ≤ i → s.n ≤ 1000000)
  m : ∀ k ∈ ms, k ≤ tn
  a : kA ≤ rows.length
  r : rows.length + 9 * (rows.length - kA) ≤ 10 * tn
  u : us ≤ 16777216
structure Bk (own : Nat → Nat) (base gb : Nat) (KA : Option Addr) (Kc : Nat) (rows : List Sl) (IA : Option Addr) (Ic : Nat) (ms : List Nat) (kA tn dn us : Nat) (w : World) : Prop where
  blk : w.heap[gb]? = some (.cells (bkC (.slice KA rows.length Kc) (.slice IA ms.length Ic) kA tn dn us).toArray 50 (0, 0))
  lo : base ≤ gb
  ks : Ow kS 57 w base (.slice KA rows.length Kc) rows
  is : Ow kN 3 w base (.slice IA ms.length Ic) ms
  all : AllM own base w rows ms
  bd : BkB rows ms kA tn us
theorem Bk.below {own : Nat → Nat} {base gb : Nat} {KA : Option Addr} {Kc : Nat} {rows : List Sl} {IA : Option Addr} {Ic : Nat} {ms : List Nat} {kA tn dn us : Nat} {w u : World} (B : Bk own base gb KA Kc rows IA Ic ms kA tn dn us w) (hb : Below w.heap.size w u) : Bk own base gb KA Kc rows IA Ic ms kA tn dn us u :=
  ⟨(hb.block gb (Array.getElem?_eq_some_iff.1 B.blk).1).trans B.blk, B.lo, B.ks.below hb, B.is.below hb, B.all.below hb, B.bd⟩
theorem BkB.turn {rows : List Sl} {ms : List Nat} {kA tn us : Nat} (h : BkB rows ms kA tn us) : BkB rows ms kA (tn + 1) us :=
  ⟨h.n, fun k hk => by have := h.m k hk; omega, h.a, by have := h.r; omega, h.u⟩
theorem BkB.snoc {rows : List Sl} {ms : List Nat} {kA tn us us' : Nat} {s : Sl} (h : BkB rows ms kA tn us) (hs : s.n ≤ 1000000) (hu : us' ≤ 16777216) : BkB (rows ++ [s]) (ms ++ [tn + 1]) kA (tn + 1) us' :=
  ⟨fun i r hr => by
    rcases Nat.lt_or_ge i rows.length with hi | hi
    · rw [List.getElem?_append_left hi] at hr
      exact h.n i r hr
    · rw [List.getElem?_append_right hi] at hr
      cases hj : i - rows.length with
      | zero => rw [hj] at hr
                obtain rfl : s = r := by simpa using hr
                exact ⟨by omega, fun _ => hs⟩
      | succ j => rw [hj] at hr; simp at hr, fun k hk => by
    rcases List.mem_append.1 hk with hk | hk
    · have := h.m k hk; omega
    · rw [List.mem_singleton.1 hk]; exact Nat.le_refl _, by have := h.a; rw [List.length_append]; omega, by have h1 := h.r; have h2 := h.a; rw [List.length_append, List.length_singleton]; omega, hu⟩
section
variable {P : Program} {op : Oper} {ρ : Operand → Value} {w : World}
theorem ex_nilck (x : Operand) (ho : op.op = .nilCheck x) (p : Addr) (hx : ρ x = .pointer (some p)) : (execOp ρ op).run P w = .ok (.value (.pointer (some p))) w := by
  unfold execOp
  simp only [ho, hx]
  rfl
end
theorem ret_none {P : Program} {n : Nat} {a : Act} {w : World} {L : List (Nat × Value)} {fn : Func} {R : Ending → World → Prop} (F : Fr n a L) (hr : fn.results = #[]) (h : R (.returned (.tuple #[])) w) : bodyPost P fn R .normal a w := bodyPost_end (results_none hr _ _ _) F.defers h
theorem ret_none_r {P : Program} {n : Nat} {a : Act} {w : World} {L : List (Nat × Value)} {fn : Func} {R : Ending → World → Prop} (F : Fr n a L) (hr : fn.results = #[]) (h : R (.returned (.tuple #[])) w) : bodyPost P fn R .ret a w := bodyPost_ret (results_none hr _ _ _) F.defers h
theorem newrow (s : Sl) (w : World) : (Instr.buildSlice 35 1 #[(0, s.v)]).run Tryz.prog w = .ok (.slice (some ⟨w.heap.size, 0, none⟩) 1 1) (w.alloc (.cells ([s].flatMap Sl.cs).toArray 57)) := by kernel_rfl
theorem newnum (n : Nat) (w : World) : (Instr.buildSlice 25 1 #[(0, .int .i64 ((n : Nat) : Int))]).run Tryz.prog w = .ok (.slice (some ⟨w.heap.size, 0, none⟩) 1 1) (w.alloc (.cells ([n].flatMap nc).toArray 3)) := by kernel_rfl
theorem iS : (Tryz.prog.info? 57).map (fun i => (i.zero, i.size, i.bytes)) = some (some (.slice none 0 0), 1, 24) := by kernel_rfl
theorem iI : (Tryz.prog.info? 3).map (fun i => (i.zero, i.size, i.bytes)) = some (some (.int .i64 0), 1, 8) := by kernel_rfl
theorem uT1 : Tryz.prog.underlying 35 = some (.slice 57) := by kernel_rfl
theorem uTI : Tryz.prog.underlying 25 = some (.slice 3) := by kernel_rfl
theorem bk_rem (a b : Nat) : (a : Int).tmod (b : Int) = ((a % b : Nat) : Int) := rfl
theorem Grows_size {e base : Nat} {w w' : World} (h : Grows e base w w') : w.heap.size ≤ w'.heap.size := by
  obtain ⟨_, hg, _⟩ := h
  exact hg.size
theorem rows_bd {rows : List Sl} {s : Sl} {kA N : Nat} (h : ∀ (i : Nat) r, rows[i]? = some r → r.n ≤ 1000100 ∧ (kA ≤ i → i < N → r.n ≤ 1000000)) (hN : N ≤ rows.length) (hs : s.n ≤ 1000100) : ∀ (i : Nat) r, (rows ++ [s])[i]? = some r → r.n ≤ 1000100 ∧ (kA ≤ i → i < N → r.n ≤ 1000000) := fun i r hr => by
  rcases Nat.lt_or_ge i rows.length with hi | hi
  · rw [List.getElem?_append_left hi] at hr
    exact h i r hr
  · rw [List.getElem?_append_right hi] at hr
    cases hj : i - rows.length with
    | zero => rw [hj] at hr
              obtain rfl : s = r := by simpa using hr
              exact ⟨hs, fun _ h2 => by omega⟩
    | succ j => rw [hj] at hr; simp at hr
theorem marks_bd {ms : List Nat} {m tn : Nat} (h : ∀ k ∈ ms, k ≤ tn) (hm : m ≤ tn) : ∀ k ∈ ms ++ [m], k ≤ tn := fun k hk => by
  rcases List.mem_append.1 hk with hk | hk
  · exact h k hk
  · rw [List.mem_singleton.1 hk]; exact hm
theorem rg_fa_50_74_74 : fa? Tryz.prog 50 74 74 = true := by kernel_rfl
theorem rg_one_3 : one? Tryz.prog 3 = true := by kernel_rfl
set_option maxHeartbeats 1000000 in
set_option maxRecDepth 100000 in
theorem tight_full (gb : Nat) (kv ko : Value) (kA tn dn us x : Nat) (w : World) (hbk : w.heap[gb]? = some (.cells (bkC (kv) (ko) kA tn dn us).toArray 50 (0, 0))) (hx : x ≤ 1000000000000) (hu : us ≤ 16777216) (hf : 16777216 < us + x) :
    Calls Tryz.prog 28 #[.pointer (some ⟨gb, 0, none⟩), .int .i64 ((x : Nat) : Int)] w fun e w' => e = .returned (.bool true) ∧ Below w.heap.size w w' := by
 have G_ := gg_refl w gb
 refine calls_start Tryz.func28 rfl rfl rfl (fun a F => ?_)
 have M : Mm (cutW w gb) w [⟨gb, (bkC (kv) (ko) kA tn dn us).toArray, 50⟩] := cut_one (Nat.le_refl _) hbk
 refine wp_seq ?_
 refine wp_region_lit ?_
 refine list_val F (wn rfl) rfl rfl (.bool false) (ex_assign _ rfl _ rfl) ?_; clear F a; intro a F
 refine wpList_nil ?_
 replace F : Fr 21 a [(0, .pointer (some ⟨gb, 0, none⟩)), (1, .int .i64 ((x : Nat) : Int)), (4, .bool false)] := F.keep ⟨rfl, rfl, rfl, trivial⟩
 refine then_n ?_
 refine wp_seq ?_
 refine wp_seq ?_
 refine wp_region_lit ?_
 refine list_val F (wn rfl) rfl rfl (.pointer (some ⟨gb, 0, none⟩)) (ex_move _ rfl _ (F.e rfl)) ?_; clear F a; intro a F
 refine list_val F (wn rfl) rfl rfl (.pointer (some ⟨gb, 0, none⟩)) (ex_nilck _ rfl _ (F.e rfl)) ?_; clear F a; intro a F
 refine list_val F (wn rfl) rfl rfl (.pointer (some ⟨gb, 74, none⟩)) (ex_fa _ _ _ rfl _ (F.e rfl) 74 rg_fa_50_74_74 ⟨gb, 74, none⟩ rfl) ?_; clear F a; intro a F
 refine list_val F (wn rfl) rfl rfl (.int .i64 ((us : Nat) : Int)) (ex_load _ _ rfl _ (F.e rfl) _ (lv1 rg_one_3 (M.cell (i := 0) rfl (j := 74) rfl))) ?_; clear F a; intro a F
 refine list_val F (wn rfl) rfl rfl (.int .i64 ((x : Nat) : Int)) (ex_move _ rfl _ (F.e rfl)) ?_; clear F a; intro a F
 refine list_val F (wn rfl) rfl rfl (.int .i64 ((us + x : Nat) : Int)) (ex_bin .add _ _ _ _ rfl .i64 _ _ (F.e rfl) (F.e rfl) _ (b_add ((w_i64 (by omega) (by omega)).trans (by omega)))) ?_; clear F a; intro a F
 refine list_val F (wn rfl) rfl rfl (.bool true) (ex_bin .gtr _ _ _ _ rfl .i64 _ _ (F.e rfl) rfl _ (b_gtr (decide_eq_true (by omega)))) ?_; clear F a; intro a F
 refine wpList_nil ?_
 replace F : Fr 21 a [(0, .pointer (some ⟨gb, 0, none⟩)), (1, .int .i64 ((x : Nat) : Int)), (4, .bool false), (11, .bool true)] := F.keep ⟨rfl, rfl, rfl, rfl, trivial⟩
 refine then_n ?_
 refine wp_cond_true (F.e rfl) ?_
 refine wp_seq ?_
 refine wp_region_lit ?_
 refine list_val F (wn rfl) rfl rfl (.bool true) (ex_assign _ rfl _ rfl) ?_; clear F a; intro a F
 refine wpList_nil ?_
 replace F : Fr 21 a [(0, .pointer (some ⟨gb, 0, none⟩)), (1, .int .i64 ((x : Nat) : Int)), (4, .bool true), (11, .bool true)] := F.keep ⟨rfl, rfl, rfl, rfl, trivial⟩
 refine then_n ?_
 refine wp_ret ?_
 refine then_r ?_
 exact ret_tmp F rfl rfl ⟨rfl, gg_same G_ hbk (M.blk 0 _ rfl)⟩
theorem rg_info_3_map_size_some_1 : (Tryz.prog.info? 3).map (·.size) = some 1 := by kernel_rfl
set_option maxHeartbeats 1000000 in
set_option maxRecDepth 100000 in
theorem tight_room (gb : Nat) (kv ko : Value) (kA tn dn us x : Nat) (w : World) (hbk : w.heap[gb]? = some (.cells (bkC (kv) (ko) kA tn dn us).toArray 50 (0, 0))) (hx : x ≤ 1000000000000) (hu : us ≤ 16777216) (hf : ¬ 16777216 < us + x) :
    Calls Tryz.prog 28 #[.pointer (some ⟨gb, 0, none⟩), .int .i64 ((x : Nat) : Int)] w fun e w' => e = .returned (.bool false) ∧ w.grownBy w' (some gb) ∧ w'.heap[gb]? = some (.cells (bkC (kv) (ko) kA tn dn (us + x)).toArray 50 (0, 0)) := by
 have G_ := gg_refl w gb
 refine calls_start Tryz.func28 rfl rfl rfl (fun a F => ?_)
 have M : Mm (cutW w gb) w [⟨gb, (bkC (kv) (ko) kA tn dn us).toArray, 50⟩] := cut_one (Nat.le_refl _) hbk
 refine wp_seq ?_
 refine wp_region_lit ?_
 refine list_val F (wn rfl) rfl rfl (.bool false) (ex_assign _ rfl _ rfl) ?_; clear F a; intro a F
 refine wpList_nil ?_
 replace F : Fr 21 a [(0, .pointer (some ⟨gb, 0, none⟩)), (1, .int .i64 ((x : Nat) : Int)), (4, .bool false)] := F.keep ⟨rfl, rfl, rfl, trivial⟩
 refine then_n ?_
 refine wp_seq ?_
 refine wp_seq ?_
 refine wp_region_lit ?_
 refine list_val F (wn rfl) rfl rfl (.pointer (some ⟨gb, 0, none⟩)) (ex_move _ rfl _ (F.e rfl)) ?_; clear F a; intro a F
 refine list_val F (wn rfl) rfl rfl (.pointer (some ⟨gb, 0, none⟩)) (ex_nilck _ rfl _ (F.e rfl)) ?_; clear F a; intro a F
 refine list_val F (wn rfl) rfl rfl (.pointer (some ⟨gb, 74, none⟩)) (ex_fa _ _ _ rfl _ (F.e rfl) 74 rg_fa_50_74_74 ⟨gb, 74, none⟩ rfl) ?_; clear F a; intro a F
 refine list_val F (wn rfl) rfl rfl (.int .i64 ((us : Nat) : Int)) (ex_load _ _ rfl _ (F.e rfl) _ (lv1 rg_one_3 (M.cell (i := 0) rfl (j := 74) rfl))) ?_; clear F a; intro a F
 refine list_val F (wn rfl) rfl rfl (.int .i64 ((x : Nat) : Int)) (ex_move _ rfl _ (F.e rfl)) ?_; clear F a; intro a F
 refine list_val F (wn rfl) rfl rfl (.int .i64 ((us + x : Nat) : Int)) (ex_bin .add _ _ _ _ rfl .i64 _ _ (F.e rfl) (F.e rfl) _ (b_add ((w_i64 (by omega) (by omega)).trans (by omega)))) ?_; clear F a; intro a F
 refine list_val F (wn rfl) rfl rfl (.bool false) (ex_bin .gtr _ _ _ _ rfl .i64 _ _ (F.e rfl) rfl _ (b_gtr (decide_eq_false (by omega)))) ?_; clear F a; intro a F
 refine wpList_nil ?_
 replace F : Fr 21 a [(0, .pointer (some ⟨gb, 0, none⟩)), (1, .int .i64 ((x : Nat) : Int)), (4, .bool false), (11, .bool false)] := F.keep ⟨rfl, rfl, rfl, rfl, trivial⟩
 refine then_n ?_
 refine wp_cond_false (F.e rfl) ?_
 refine wp_skip ?_
 refine then_n ?_
 refine wp_seq ?_
 refine wp_region_lit ?_
 refine list_val F (wn rfl) rfl rfl (.pointer (some ⟨gb, 0, none⟩)) (ex_move _ rfl _ (F.e rfl)) ?_; clear F a; intro a F
 refine list_val F (wn rfl) rfl rfl (.pointer (some ⟨gb, 0, none⟩)) (ex_move _ rfl _ (F.e rfl)) ?_; clear F a; intro a F
 refine list_val F (wn rfl) rfl rfl (.pointer (some ⟨gb, 0, none⟩)) (ex_nilck _ rfl _ (F.e rfl)) ?_; clear F a; intro a F
 refine list_val F (wn rfl) rfl rfl (.pointer (some ⟨gb, 74, none⟩)) (ex_fa _ _ _ rfl _ (F.e rfl) 74 rg_fa_50_74_74 ⟨gb, 74, none⟩ rfl) ?_; clear F a; intro a F
 refine list_val F (wn rfl) rfl rfl (.int .i64 ((us : Nat) : Int)) (ex_load _ _ rfl _ (F.e rfl) _ (lv1 rg_one_3 (M.cell (i := 0) rfl (j := 74) rfl))) ?_; clear F a; intro a F
 refine list_val F (wn rfl) rfl rfl (.int .i64 ((x : Nat) : Int)) (ex_move _ rfl _ (F.e rfl)) ?_; clear F a; intro a F
 refine list_val F (wn rfl) rfl rfl (.int .i64 ((us + x : Nat) : Int)) (ex_bin .add _ _ _ _ rfl .i64 _ _ (F.e rfl) (F.e rfl) _ (b_add ((w_i64 (by omega) (by omega)).trans (by omega)))) ?_; clear F a; intro a F
 refine list_val F (wn rfl) rfl rfl (.pointer (some ⟨gb, 0, none⟩)) (ex_nilck _ rfl _ (F.e rfl)) ?_; clear F a; intro a F
 refine list_val F (wn rfl) rfl rfl (.pointer (some ⟨gb, 74, none⟩)) (ex_fa _ _ _ rfl _ (F.e rfl) 74 rg_fa_50_74_74 ⟨gb, 74, none⟩ rfl) ?_; clear F a; intro a F
 refine list_do (wn rfl) (fun K hK => ?_)
 refine ow_store F M rfl 3 _ _ rfl 0 gb ((bkC (kv) (ko) kA tn dn us).toArray) _ rfl 74 (F.e rfl) _ (F.e rfl) [.int .i64 ((us + x : Nat) : Int)] rfl rg_info_3_map_size_some_1 (by show 75 ≤ 75; decide) (by simp [Value.oneCell']) ((bkC (kv) (ko) kA tn dn (us + x)).toArray) rfl ?_
 clear F a; have Mo := M; clear M; intro a v F M hgr
 refine hK _ _ ?_
 clear hK K
 replace G_ := gg_grown G_ hgr
 clear Mo hgr; try clear w
 replace M : Mm (cutW w gb) v [⟨gb, (bkC (kv) (ko) kA tn dn (us + x)).toArray, 50⟩] := M
 refine wpList_nil ?_
 replace F : Fr 21 a [(0, .pointer (some ⟨gb, 0, none⟩)), (1, .int .i64 ((x : Nat) : Int)), (4, .bool false), (11, .bool false)] := F.keep ⟨rfl, rfl, rfl, rfl, trivial⟩
 refine then_n ?_
 refine wp_seq ?_
 refine wp_region_lit ?_
 refine list_val F (wn rfl) rfl rfl (.bool false) (ex_assign _ rfl _ rfl) ?_; clear F a; intro a F
 refine wpList_nil ?_
 replace F : Fr 21 a [(0, .pointer (some ⟨gb, 0, none⟩)), (1, .int .i64 ((x : Nat) : Int)), (4, .bool false), (11, .bool false)] := F.keep ⟨rfl, rfl, rfl, rfl, trivial⟩
 refine then_n ?_
 refine wp_ret ?_
 exact ret_tmp F rfl rfl ⟨rfl, G_, M.blk 0 _ rfl⟩
theorem rg_cv_3_67_u64 : cv? Tryz.prog 3 67 .u64 = true := by kernel_rfl
set_option maxHeartbeats 1000000 in
set_option maxRecDepth 100000 in
theorem mark_any (k j : Nat) (hk : k ≤ 20000000) (w : World) : Calls Tryz.prog 27 #[.int .i64 ((k : Nat) : Int)] w fun e w' => e = .returned (.agg (mkM k j).arr) ∧ Below w.heap.size w w' := by
 refine calls_start Tryz.func27 rfl rfl rfl (fun a F => ?_)
 have M : Mm w w [] := Mm.nil w
 refine wp_seq ?_
 refine wp_region_lit ?_
 refine list_do (wn rfl) (fun K hK => ?_)
 refine ow_alloc F M rfl rfl 85 rfl (.agg zRv.arr) zero85 zRv.arr rfl ?_
 clear F M a; intro a g2 v F M hb hg
 refine hK _ _ ?_
 clear hK K
 clear hb hg; try clear w
 refine wpList_nil ?_
 replace F : Fr 7 a [(0, .int .i64 ((k : Nat) : Int)), (2, .pointer (some ⟨g2, 0, none⟩))] := F.keep ⟨rfl, rfl, trivial⟩
 refine then_n ?_
 refine wp_seq ?_
 refine wp_region_lit ?_
 refine list_val F (wn rfl) rfl rfl (.int .i64 ((k : Nat) : Int)) (ex_move _ rfl _ (F.e rfl)) ?_; clear F a; intro a F
 refine list_val F (wn rfl) rfl rfl (.int .u64 ((k : Nat) : Int)) (ex_conv _ _ _ rfl _ .u64 rg_cv_3_67_u64 _ (F.e rfl) _ (w_u64 (by omega) (by omega))) ?_; clear F a; intro a F
 refine list_val F (wn rfl) rfl rfl (.int .u64 ((k * 1048576 : Nat) : Int)) (ST.ex_shlN _ _ _ _ rfl .u64 .u64 k 20 _ (F.e rfl) rfl rfl (by decide) (k * 1048576) rfl (w_u64 (by omega) (by omega))) ?_; clear F a; intro a F
 refine list_val F (wn rfl) rfl rfl (.agg ((⟨false, ((k * 1048576 : Nat) : Int), (zBs 16), -7⟩ : Rv).arr)) (ex_build 85 _ rfl #[(1, .int .u64 ((k * 1048576 : Nat) : Int)), (3, .int .i64 (-7))] (parts2 (F.e rfl) rfl) (.agg ((⟨false, ((k * 1048576 : Nat) : Int), (zBs 16), -7⟩ : Rv).arr)) (build85_13 ((k * 1048576 : Nat) : Int) (-7) _)) ?_; clear F a; intro a F
 refine list_do (wn rfl) (fun K hK => ?_)
 refine ow_put F M rfl 85 _ _ rfl 0 _ zRv.arr _ rfl (F.e rfl) ((⟨false, ((k * 1048576 : Nat) : Int), (zBs 16), -7⟩ : Rv).arr) (F.e rfl) (sz85 _) (by simp only [Rv.arr_size]) (Rv.arr_one _) ?_
 clear F a; have Mo := M; clear M; intro a u F M hgr
 refine hK _ _ ?_
 clear hK K
 clear Mo hgr; try clear v
 replace M : Mm w u [⟨g2, (⟨false, ((k * 1048576 : Nat) : Int), (zBs 16), -7⟩ : Rv).arr, 85⟩] := M
 refine wpList_nil ?_
 replace F : Fr 7 a [(0, .int .i64 ((k : Nat) : Int)), (2, .pointer (some ⟨g2, 0, none⟩))] := F.keep ⟨rfl, rfl, trivial⟩
 refine then_n ?_
 refine wp_ret ?_
 exact ret_c1 (v := .agg (mkM k j).arr) F rfl rfl (lrow85 (⟨false, ((k * 1048576 : Nat) : Int), (zBs 16), -7⟩ : Rv) (M.at (i := 0) rfl)) ⟨rfl, M.bel⟩
theorem rg_fa_50_72_72 : fa? Tryz.prog 50 72 72 = true := by kernel_rfl
theorem rg_ent_27 : ent? Tryz.prog 27 = true := by kernel_rfl
theorem rg_sl_57_19 : sl? Tryz.prog 57 19 = true := by kernel_rfl
theorem rg_ent_28 : ent? Tryz.prog 28 = true := by kernel_rfl
theorem rg_fa_50_30_30 : fa? Tryz.prog 50 30 30 = true := by kernel_rfl
theorem rg_one_35 : one? Tryz.prog 35 = true := by kernel_rfl
theorem rg_info_35_map_size_some_1 : (Tryz.prog.info? 35).map (·.size) = some 1 := by kernel_rfl
theorem rg_fa_50_31_31 : fa? Tryz.prog 50 31 31 = true := by kernel_rfl
theorem rg_one_25 : one? Tryz.prog 25 = true := by kernel_rfl
theorem rg_info_25_map_size_some_1 : (Tryz.prog.info? 25).map (·.size) = some 1 := by kernel_rfl
set_option maxHeartbeats 1000000 in
set_option maxRecDepth 100000 in
theorem take_nil (own : Nat → Nat) (base gb : Nat) (KA : Option Addr) (Kc : Nat) (rows : List Sl) (IA : Option Addr) (Ic : Nat) (ms : List Nat) (kA tn dn us : Nat) (w : World) (hB : Bk own base gb KA Kc rows IA Ic ms kA tn dn us w) (htn : tn ≤ 10000000) :
    Calls Tryz.prog 12 #[.pointer (some ⟨gb, 0, none⟩), .slice none 0 0] w fun e w' => e = .returned (.tuple #[]) ∧ ∃ KA' Kc' rows' IA' Ic' ms' us' own', Bk own' base gb KA' Kc' rows' IA' Ic' ms' kA (tn + 1) dn us' w' ∧ (∀ k, none ≠ some k → own' k = own k) ∧ Only base [50, 57, 3] none w w' := by
 have hgb := hB.lo
 have hbw : base ≤ w.heap.size := Nat.le_of_lt (Nat.lt_of_le_of_lt hB.lo (Array.getElem?_eq_some_iff.1 hB.blk).1)
 have G_ : Only base [50, 57, 3] none w w := Only.refl w
 have O_k := hB.ks
 have O_i := hB.is
 have hrl := hB.bd.r
 have hus := hB.bd.u
 have hml := hB.all.1
 refine calls_start Tryz.func12 rfl rfl rfl (fun a F => ?_)
 have M : Mm (cutW w base) w [⟨gb, (bkC (.slice KA rows.length Kc) (.slice IA ms.length Ic) kA tn dn us).toArray, 50⟩] := cut_one hB.lo hB.blk
 refine wp_seq ?_
 refine wp_region_lit ?_
 refine list_val F (wn rfl) rfl rfl (.pointer (some ⟨gb, 0, none⟩)) (ex_move _ rfl _ (F.e rfl)) ?_; clear F a; intro a F
 refine list_val F (wn rfl) rfl rfl (.pointer (some ⟨gb, 0, none⟩)) (ex_nilck _ rfl _ (F.e rfl)) ?_; clear F a; intro a F
 refine list_val F (wn rfl) rfl rfl (.pointer (some ⟨gb, 72, none⟩)) (ex_fa _ _ _ rfl _ (F.e rfl) 72 rg_fa_50_72_72 ⟨gb, 72, none⟩ rfl) ?_; clear F a; intro a F
 refine list_val F (wn rfl) rfl rfl (.int .i64 ((tn : Nat) : Int)) (ex_load _ _ rfl _ (F.e rfl) _ (lv1 rg_one_3 (M.cell (i := 0) rfl (j := 72) rfl))) ?_; clear F a; intro a F
 refine list_val F (wn rfl) rfl rfl (.int .i64 ((tn + 1 : Nat) : Int)) (ex_bin .add _ _ _ _ rfl .i64 _ _ (F.e rfl) rfl _ (b_add ((w_i64 (by omega) (by omega)).trans (by omega)))) ?_; clear F a; intro a F
 refine list_val F (wn rfl) rfl rfl (.pointer (some ⟨gb, 0, none⟩)) (ex_nilck _ rfl _ (F.e rfl)) ?_; clear F a; intro a F
 refine list_val F (wn rfl) rfl rfl (.pointer (some ⟨gb, 72, none⟩)) (ex_fa _ _ _ rfl _ (F.e rfl) 72 rg_fa_50_72_72 ⟨gb, 72, none⟩ rfl) ?_; clear F a; intro a F
 refine list_do (wn rfl) (fun K hK => ?_)
 refine ow_store F M rfl 3 _ _ rfl 0 gb ((bkC (.slice KA rows.length Kc) (.slice IA ms.length Ic) kA tn dn us).toArray) _ rfl 72 (F.e rfl) _ (F.e rfl) [.int .i64 ((tn + 1 : Nat) : Int)] rfl rg_info_3_map_size_some_1 (by show 73 ≤ 75; decide) (by simp [Value.oneCell']) ((bkC (.slice KA rows.length Kc) (.slice IA ms.length Ic) kA (tn + 1) dn us).toArray) rfl ?_
 clear F a; have Mo := M; clear M; intro a v F M hgr
 refine hK _ _ ?_
 clear hK K
 replace G_ := G_.grown (Mo.blk 0 _ rfl) hgb (.inl (by show (50 : Nat) ∈ [50, 57, 3]; decide)) hgr
 replace O_k := O_k.grown (Mo.blk 0 _ rfl) (.inl (by show (57 : Nat) ≠ 50; decide)) hgr
 replace O_i := O_i.grown (Mo.blk 0 _ rfl) (.inl (by show (3 : Nat) ≠ 50; decide)) hgr
 clear Mo hgr; try clear w
 replace M : Mm (cutW w base) v [⟨gb, (bkC (.slice KA rows.length Kc) (.slice IA ms.length Ic) kA (tn + 1) dn us).toArray, 50⟩] := M
 refine wpList_nil ?_
 replace F : Fr 56 a [(0, .pointer (some ⟨gb, 0, none⟩)), (1, .slice none 0 0)] := F.keep ⟨rfl, rfl, trivial⟩
 refine then_n ?_
 refine wp_seq ?_
 refine wp_region_lit ?_
 refine list_val F (wn rfl) rfl rfl (.pointer (some ⟨gb, 0, none⟩)) (ex_move _ rfl _ (F.e rfl)) ?_; clear F a; intro a F
 refine list_val F (wn rfl) rfl rfl (.pointer (some ⟨gb, 0, none⟩)) (ex_nilck _ rfl _ (F.e rfl)) ?_; clear F a; intro a F
 refine list_val F (wn rfl) rfl rfl (.pointer (some ⟨gb, 72, none⟩)) (ex_fa _ _ _ rfl _ (F.e rfl) 72 rg_fa_50_72_72 ⟨gb, 72, none⟩ rfl) ?_; clear F a; intro a F
 refine list_val F (wn rfl) rfl rfl (.int .i64 ((tn + 1 : Nat) : Int)) (ex_load _ _ rfl _ (F.e rfl) _ (lv1 rg_one_3 (M.cell (i := 0) rfl (j := 72) rfl))) ?_; clear F a; intro a F
 refine list_val F (wn rfl) rfl rfl (.int .i64 ((tn + 1 : Nat) : Int)) (ex_assign _ rfl _ (F.e rfl)) ?_; clear F a; intro a F
 refine wpList_nil ?_
 replace F : Fr 56 a [(0, .pointer (some ⟨gb, 0, none⟩)), (1, .slice none 0 0), (4, .int .i64 ((tn + 1 : Nat) : Int))] := F.keep ⟨rfl, rfl, rfl, trivial⟩
 refine then_n ?_
 refine wp_seq ?_
 refine wp_region_lit ?_
 refine list_val F (wn rfl) rfl rfl (.int .i64 ((tn + 1 : Nat) : Int)) (ex_move _ rfl _ (F.e rfl)) ?_; clear F a; intro a F
 refine list_do (wn rfl) (fun K hK => ?_)
 refine ow_call rfl rfl F 27 #[.int .i64 ((tn + 1 : Nat) : Int)] (ex_call 27 _ _ rfl rfl rg_ent_27 _ (map1 (F.e rfl))) (mark_any (tn + 1) 0 (by omega) _) (fun e u hR => ?_)
 obtain ⟨he, hb⟩ := hR
 refine ⟨.agg ((mkM (tn + 1) 0).arr), he, ?_⟩; clear he F a; intro a F
 refine hK _ _ ?_
 clear hK K
 replace G_ := G_.below hb
 replace O_k := O_k.below hb
 replace O_i := O_i.below hb
 replace M := M.below hb; clear hb; try clear v
 refine list_do (wn rfl) (fun K hK => ?_)
 refine ow_alloc F M rfl rfl 85 rfl (.agg zRv.arr) zero85 zRv.arr rfl ?_
 clear F M a; intro a g5 v F M hb hg
 refine hK _ _ ?_
 clear hK K
 have lw_g5 : w.heap.size ≤ g5 := Nat.le_trans G_.size hg
 replace G_ := G_.below hb
 replace O_k := O_k.below hb
 replace O_i := O_i.below hb
 clear hb hg; try clear u
 refine list_do (wn rfl) (fun K hK => ?_)
 refine ow_put F M rfl 85 _ _ rfl 0 _ zRv.arr _ rfl (F.e rfl) ((mkM (tn + 1) 0).arr) (F.e rfl) (sz85 _) (by simp only [Rv.arr_size]) (Rv.arr_one _) ?_
 clear F a; have Mo := M; clear M; intro a u F M hgr
 refine hK _ _ ?_
 clear hK K
 replace G_ := G_.fresh lw_g5 hgr
 replace O_k := O_k.grown (Mo.blk 0 _ rfl) (.inl (by show (57 : Nat) ≠ 85; decide)) hgr
 replace O_i := O_i.grown (Mo.blk 0 _ rfl) (.inl (by show (3 : Nat) ≠ 85; decide)) hgr
 clear Mo hgr; try clear v
 replace M : Mm (cutW w base) u [⟨g5, (mkM (tn + 1) 0).arr, 85⟩, ⟨gb, (bkC (.slice KA rows.length Kc) (.slice IA ms.length Ic) kA (tn + 1) dn us).toArray, 50⟩] := M
 refine wpList_nil ?_
 replace F : Fr 56 a [(0, .pointer (some ⟨gb, 0, none⟩)), (1, .slice none 0 0), (4, .int .i64 ((tn + 1 : Nat) : Int)), (5, .pointer (some ⟨g5, 0, none⟩))] := F.keep ⟨rfl, rfl, rfl, rfl, trivial⟩
 refine then_n ?_
 refine wp_seq ?_
 refine wp_seq ?_
 refine wp_region_lit ?_
 refine list_val F (wn rfl) rfl rfl (.int .i64 0) (ex_assign _ rfl _ rfl) ?_; clear F a; intro a F
 refine wpList_nil ?_
 replace F : Fr 56 a [(0, .pointer (some ⟨gb, 0, none⟩)), (1, .slice none 0 0), (4, .int .i64 ((tn + 1 : Nat) : Int)), (5, .pointer (some ⟨g5, 0, none⟩)), (6, .int .i64 0)] := F.keep ⟨rfl, rfl, rfl, rfl, rfl, trivial⟩
 refine then_n ?_
 refine wp_block ?_
 refine wp_loop_rounds 1 ?_
 refine rounds_do 0 ?_
 refine wp_seq ?_
 refine wp_seq ?_
 refine wp_region_lit ?_
 refine list_val F (wn rfl) rfl rfl (.int .i64 0) (ex_move _ rfl _ (F.e rfl)) ?_; clear F a; intro a F
 refine list_val F (wn rfl) rfl rfl (.slice none 0 0) (ex_move _ rfl _ (F.e rfl)) ?_; clear F a; intro a F
 refine list_val F (wn rfl) rfl rfl (.int .i64 0) (ex_len _ _ rfl 19 rg_sl_57_19 _ _ _ (F.e rfl)) ?_; clear F a; intro a F
 refine list_val F (wn rfl) rfl rfl (.bool false) (ex_bin .lss _ _ _ _ rfl .i64 _ _ (F.e rfl) (F.e rfl) _ (b_lss (by decide))) ?_; clear F a; intro a F
 refine wpList_nil ?_
 replace F : Fr 56 a [(0, .pointer (some ⟨gb, 0, none⟩)), (1, .slice none 0 0), (4, .int .i64 ((tn + 1 : Nat) : Int)), (5, .pointer (some ⟨g5, 0, none⟩)), (6, .int .i64 0), (23, .bool false)] := F.keep ⟨rfl, rfl, rfl, rfl, rfl, rfl, trivial⟩
 refine then_n ?_
 refine wp_cond_false (F.e rfl) ?_
 refine wp_exit ?_
 refine then_x ?_
 refine then_x ?_
 refine in_hit ?_
 refine then_n ?_
 refine wp_seq ?_
 refine wp_seq ?_
 by_cases htt : 16777216 < us + (8000 + 300 * 0)
 ·
  refine wp_region_lit ?_
  refine list_val F (wn rfl) rfl rfl (.pointer (some ⟨gb, 0, none⟩)) (ex_move _ rfl _ (F.e rfl)) ?_; clear F a; intro a F
  refine list_val F (wn rfl) rfl rfl (.slice none 0 0) (ex_move _ rfl _ (F.e rfl)) ?_; clear F a; intro a F
  refine list_val F (wn rfl) rfl rfl (.int .i64 0) (ex_len _ _ rfl 19 rg_sl_57_19 _ _ _ (F.e rfl)) ?_; clear F a; intro a F
  refine list_val F (wn rfl) rfl rfl (.int .i64 ((300 * 0 : Nat) : Int)) (ex_bin .mul _ _ _ _ rfl .i64 _ _ rfl (F.e rfl) _ (b_mul ((w_i64 (by omega) (by omega)).trans (by omega)))) ?_; clear F a; intro a F
  refine list_val F (wn rfl) rfl rfl (.int .i64 ((8000 + 300 * 0 : Nat) : Int)) (ex_bin .add _ _ _ _ rfl .i64 _ _ rfl (F.e rfl) _ (b_add ((w_i64 (by omega) (by omega)).trans (by omega)))) ?_; clear F a; intro a F
  refine list_do (wn rfl) (fun K hK => ?_)
  refine ow_call rfl rfl F 28 #[.pointer (some ⟨gb, 0, none⟩), .int .i64 ((8000 + 300 * 0 : Nat) : Int)] (ex_call 28 _ _ rfl rfl rg_ent_28 _ (map2 (F.e rfl) (F.e rfl))) (tight_full gb _ _ _ _ _ _ (8000 + 300 * 0) _ (M.blk 1 _ rfl) (by omega) hB.bd.u htt) (fun e v hR => ?_)
  obtain ⟨he, hb⟩ := hR
  refine ⟨.bool true, he, ?_⟩; clear he F a; intro a F
  refine hK _ _ ?_
  clear hK K
  replace G_ := G_.below hb
  replace O_k := O_k.below hb
  replace O_i := O_i.below hb
  replace M := M.below hb; clear hb; try clear u
  refine wpList_nil ?_
  replace F : Fr 56 a [(0, .pointer (some ⟨gb, 0, none⟩)), (1, .slice none 0 0), (4, .int .i64 ((tn + 1 : Nat) : Int)), (5, .pointer (some ⟨g5, 0, none⟩)), (6, .int .i64 0), (23, .bool false), (35, .bool true)] := F.keep ⟨rfl, rfl, rfl, rfl, rfl, rfl, rfl, trivial⟩
  refine then_n ?_
  refine wp_cond_true (F.e rfl) ?_
  refine wp_ret ?_
  refine then_r ?_
  exact ret_none_r F rfl ⟨rfl, ⟨KA, Kc, rows, IA, Ic, ms, us, own, ⟨M.blk 1 _ rfl, hgb, O_k, O_i, AllK_only hB.all G_ (by decide) (fun k hk => by cases hk), hB.bd.turn⟩, (fun k _ => rfl), G_⟩⟩
 refine wp_region_lit ?_
 refine list_val F (wn rfl) rfl rfl (.pointer (some ⟨gb, 0, none⟩)) (ex_move _ rfl _ (F.e rfl)) ?_; clear F a; intro a F
 refine list_val F (wn rfl) rfl rfl (.slice none 0 0) (ex_move _ rfl _ (F.e rfl)) ?_; clear F a; intro a F
 refine list_val F (wn rfl) rfl rfl (.int .i64 0) (ex_len _ _ rfl 19 rg_sl_57_19 _ _ _ (F.e rfl)) ?_; clear F a; intro a F
 refine list_val F (wn rfl) rfl rfl (.int .i64 ((300 * 0 : Nat) : Int)) (ex_bin .mul _ _ _ _ rfl .i64 _ _ rfl (F.e rfl) _ (b_mul ((w_i64 (by omega) (by omega)).trans (by omega)))) ?_; clear F a; intro a F
 refine list_val F (wn rfl) rfl rfl (.int .i64 ((8000 + 300 * 0 : Nat) : Int)) (ex_bin .add _ _ _ _ rfl .i64 _ _ rfl (F.e rfl) _ (b_add ((w_i64 (by omega) (by omega)).trans (by omega)))) ?_; clear F a; intro a F
 refine list_do (wn rfl) (fun K hK => ?_)
 refine ow_call rfl rfl F 28 #[.pointer (some ⟨gb, 0, none⟩), .int .i64 ((8000 + 300 * 0 : Nat) : Int)] (ex_call 28 _ _ rfl rfl rg_ent_28 _ (map2 (F.e rfl) (F.e rfl))) (tight_room gb _ _ _ _ _ _ (8000 + 300 * 0) _ (M.blk 1 _ rfl) (by omega) hB.bd.u htt) (fun e v hR => ?_)
 obtain ⟨he, hgr, hn⟩ := hR
 refine ⟨.bool false, he, ?_⟩; clear he F a; intro a F
 refine hK _ _ ?_
 clear hK K
 have Mo := M; clear M
 replace G_ := G_.grown (Mo.blk 1 _ rfl) hgb (.inl (by show (50 : Nat) ∈ [50, 57, 3]; decide)) hgr
 replace O_k := O_k.grown (Mo.blk 1 _ rfl) (.inl (by show (57 : Nat) ≠ 50; decide)) hgr
 replace O_i := O_i.grown (Mo.blk 1 _ rfl) (.inl (by show (3 : Nat) ≠ 50; decide)) hgr
 have M : Mm (cutW w base) v [⟨g5, (mkM (tn + 1) 0).arr, 85⟩, ⟨gb, (bkC (.slice KA rows.length Kc) (.slice IA ms.length Ic) kA (tn + 1) dn (us + (8000 + 300 * 0))).toArray, 50⟩] := Mo.grown (b := ⟨gb, (bkC (.slice KA rows.length Kc) (.slice IA ms.length Ic) kA (tn + 1) dn us).toArray, 50⟩) (i := 1) rfl ((bkC (.slice KA rows.length Kc) (.slice IA ms.length Ic) kA (tn + 1) dn (us + (8000 + 300 * 0))).toArray) hgr hn
 clear Mo hgr hn; try clear u
 refine wpList_nil ?_
 replace F : Fr 56 a [(0, .pointer (some ⟨gb, 0, none⟩)), (1, .slice none 0 0), (4, .int .i64 ((tn + 1 : Nat) : Int)), (5, .pointer (some ⟨g5, 0, none⟩)), (6, .int .i64 0), (23, .bool false), (35, .bool false)] := F.keep ⟨rfl, rfl, rfl, rfl, rfl, rfl, rfl, trivial⟩
 refine then_n ?_
 refine wp_cond_false (F.e rfl) ?_
 refine wp_skip ?_
 refine then_n ?_
 refine wp_seq ?_
 refine wp_region_lit ?_
 refine list_val F (wn rfl) rfl rfl (.pointer (some ⟨gb, 0, none⟩)) (ex_move _ rfl _ (F.e rfl)) ?_; clear F a; intro a F
 refine list_val F (wn rfl) rfl rfl (.pointer (some ⟨gb, 0, none⟩)) (ex_move _ rfl _ (F.e rfl)) ?_; clear F a; intro a F
 refine list_val F (wn rfl) rfl rfl (.pointer (some ⟨gb, 0, none⟩)) (ex_nilck _ rfl _ (F.e rfl)) ?_; clear F a; intro a F
 refine list_val F (wn rfl) rfl rfl (.pointer (some ⟨gb, 30, none⟩)) (ex_fa _ _ _ rfl _ (F.e rfl) 30 rg_fa_50_30_30 ⟨gb, 30, none⟩ rfl) ?_; clear F a; intro a F
 refine list_val F (wn rfl) rfl rfl (.slice KA rows.length Kc) (ex_load _ _ rfl _ (F.e rfl) _ (lv1 rg_one_35 (M.cell (i := 1) rfl (j := 30) rfl))) ?_; clear F a; intro a F
 refine list_val F (wn rfl) rfl rfl (.slice none 0 0) (ex_move _ rfl _ (F.e rfl)) ?_; clear F a; intro a F
 refine list_do (wn rfl) (fun K hK => ?_)
 refine ow_bslice F M rfl rfl 35 1 _ rfl #[(0, .slice none 0 0)] (parts1 (F.e rfl)) (([(⟨none, 0, 0⟩ : Sl)].flatMap Sl.cs).toArray) 57 (newrow (⟨none, 0, 0⟩ : Sl) _) ?_
 clear F M a; intro a g42 u F M hb hg
 refine hK _ _ ?_
 clear hK K
 have lw_g42 : w.heap.size ≤ g42 := Nat.le_trans G_.size hg
 replace G_ := G_.below hb
 replace O_k := O_k.below hb
 replace O_i := O_i.below hb
 clear hb hg; try clear v
 refine list_do (wn rfl) (fun K hK => ?_)
 have hxx := C_one (enc := Sl.cs) (m := 1) (hl := Sl.cs_len) (h1 := Sl.cs_one) (x := (⟨none, 0, 0⟩ : Sl)) (M.at (i := 0) rfl)
 replace M : Mm (cutW w base) u [⟨g5, (mkM (tn + 1) 0).arr, 85⟩, ⟨gb, (bkC (.slice KA rows.length Kc) (.slice IA ms.length Ic) kA (tn + 1) dn (us + (8000 + 300 * 0))).toArray, 50⟩] := (by refine M.pick' [1, 2] _ ?_ (by decide); exact ⟨rfl, rfl, trivial⟩)
 refine og_app F M uT1 iS rfl (by decide) (by decide) (Nat.le_of_eq (cut_size hbw)) (by have h_ := M.bel.size; rwa [cut_size hbw] at h_) ⟨.inl (by show (85 : Nat) ≠ 57; decide), .inl (by show (50 : Nat) ≠ 57; decide), trivial⟩ rfl rfl rfl _ _ rfl (.slice KA rows.length Kc) rows [(⟨none, 0, 0⟩ : Sl)] (rows ++ [(⟨none, 0, 0⟩ : Sl)]) rfl (some ⟨g42, 0, none⟩) 1 1 (F.e rfl) (F.e rfl) O_k hxx (by have h_ := hrl; first | omega | (have h2_ := K_.1; simp only [List.length_cons] at h2_; omega)) ?_
 clear F a; have Mo := M; clear M; intro a A_43 c_43 v F M Oz hgr
 refine hK _ _ ?_
 clear hK K
 replace G_ := G_.ow O_k (Nat.le_refl _) (by decide) hgr
 replace O_i := Ow_grows O_i (grows_ow O_k hgr) (by decide)
 clear O_k Mo hgr hxx; have O_k := Oz; clear Oz; try clear u
 refine list_val F (wn rfl) rfl rfl (.pointer (some ⟨gb, 0, none⟩)) (ex_nilck _ rfl _ (F.e rfl)) ?_; clear F a; intro a F
 refine list_val F (wn rfl) rfl rfl (.pointer (some ⟨gb, 30, none⟩)) (ex_fa _ _ _ rfl _ (F.e rfl) 30 rg_fa_50_30_30 ⟨gb, 30, none⟩ rfl) ?_; clear F a; intro a F
 refine list_do (wn rfl) (fun K hK => ?_)
 refine ow_store F M rfl 35 _ _ rfl 1 gb ((bkC (.slice KA rows.length Kc) (.slice IA ms.length Ic) kA (tn + 1) dn (us + (8000 + 300 * 0))).toArray) _ rfl 30 (F.e rfl) _ (F.e rfl) [.slice A_43 ((rows ++ [(⟨none, 0, 0⟩ : Sl)]).length) c_43] rfl rg_info_35_map_size_some_1 (by show 31 ≤ 75; decide) (by simp [Value.oneCell']) ((bkC (.slice A_43 ((rows ++ [(⟨none, 0, 0⟩ : Sl)]).length) c_43) (.slice IA ms.length Ic) kA (tn + 1) dn (us + (8000 + 300 * 0))).toArray) rfl ?_
 clear F a; have Mo := M; clear M; intro a u F M hgr
 refine hK _ _ ?_
 clear hK K
 replace G_ := G_.grown (Mo.blk 1 _ rfl) hgb (.inl (by show (50 : Nat) ∈ [50, 57, 3]; decide)) hgr
 replace O_k := O_k.grown (Mo.blk 1 _ rfl) (.inl (by show (57 : Nat) ≠ 50; decide)) hgr
 replace O_i := O_i.grown (Mo.blk 1 _ rfl) (.inl (by show (3 : Nat) ≠ 50; decide)) hgr
 clear Mo hgr; try clear v
 replace M : Mm (cutW w base) u [⟨g5, (mkM (tn + 1) 0).arr, 85⟩, ⟨gb, (bkC (.slice A_43 ((rows ++ [(⟨none, 0, 0⟩ : Sl)]).length) c_43) (.slice IA ms.length Ic) kA (tn + 1) dn (us + (8000 + 300 * 0))).toArray, 50⟩] := M
 refine wpList_nil ?_
 replace F : Fr 56 a [(0, .pointer (some ⟨gb, 0, none⟩)), (1, .slice none 0 0), (4, .int .i64 ((tn + 1 : Nat) : Int)), (5, .pointer (some ⟨g5, 0, none⟩)), (6, .int .i64 0), (23, .bool false), (35, .bool false)] := F.keep ⟨rfl, rfl, rfl, rfl, rfl, rfl, rfl, trivial⟩
 refine then_n ?_
 refine wp_region_lit ?_
 refine list_val F (wn rfl) rfl rfl (.pointer (some ⟨gb, 0, none⟩)) (ex_move _ rfl _ (F.e rfl)) ?_; clear F a; intro a F
 refine list_val F (wn rfl) rfl rfl (.pointer (some ⟨gb, 0, none⟩)) (ex_move _ rfl _ (F.e rfl)) ?_; clear F a; intro a F
 refine list_val F (wn rfl) rfl rfl (.pointer (some ⟨gb, 0, none⟩)) (ex_nilck _ rfl _ (F.e rfl)) ?_; clear F a; intro a F
 refine list_val F (wn rfl) rfl rfl (.pointer (some ⟨gb, 31, none⟩)) (ex_fa _ _ _ rfl _ (F.e rfl) 31 rg_fa_50_31_31 ⟨gb, 31, none⟩ rfl) ?_; clear F a; intro a F
 refine list_val F (wn rfl) rfl rfl (.slice IA ms.length Ic) (ex_load _ _ rfl _ (F.e rfl) _ (lv1 rg_one_25 (M.cell (i := 1) rfl (j := 31) rfl))) ?_; clear F a; intro a F
 refine list_val F (wn rfl) rfl rfl (.int .i64 ((tn + 1 : Nat) : Int)) (ex_move _ rfl _ (F.e rfl)) ?_; clear F a; intro a F
 refine list_do (wn rfl) (fun K hK => ?_)
 refine ow_bslice F M rfl rfl 25 1 _ rfl #[(0, .int .i64 ((tn + 1 : Nat) : Int))] (parts1 (F.e rfl)) (([(tn + 1)].flatMap nc).toArray) 3 (newnum (tn + 1) _) ?_
 clear F M a; intro a g52 v F M hb hg
 refine hK _ _ ?_
 clear hK K
 have lw_g52 : w.heap.size ≤ g52 := Nat.le_trans G_.size hg
 replace G_ := G_.below hb
 replace O_k := O_k.below hb
 replace O_i := O_i.below hb
 clear hb hg; try clear u
 refine list_do (wn rfl) (fun K hK => ?_)
 have hxx := C_one (enc := nc) (m := 1) (hl := nc_len) (h1 := nc_one) (x := (tn + 1)) (M.at (i := 0) rfl)
 replace M : Mm (cutW w base) v [⟨g5, (mkM (tn + 1) 0).arr, 85⟩, ⟨gb, (bkC (.slice A_43 ((rows ++ [(⟨none, 0, 0⟩ : Sl)]).length) c_43) (.slice IA ms.length Ic) kA (tn + 1) dn (us + (8000 + 300 * 0))).toArray, 50⟩] := (by refine M.pick' [1, 2] _ ?_ (by decide); exact ⟨rfl, rfl, trivial⟩)
 refine og_app F M uTI iI rfl (by decide) (by decide) (Nat.le_of_eq (cut_size hbw)) (by have h_ := M.bel.size; rwa [cut_size hbw] at h_) ⟨.inl (by show (85 : Nat) ≠ 3; decide), .inl (by show (50 : Nat) ≠ 3; decide), trivial⟩ rfl rfl rfl _ _ rfl (.slice IA ms.length Ic) ms [(tn + 1)] (ms ++ [(tn + 1)]) rfl (some ⟨g52, 0, none⟩) 1 1 (F.e rfl) (F.e rfl) O_i hxx (by have h_ := hrl; first | omega | (have h2_ := K_.1; simp only [List.length_cons] at h2_; omega)) ?_
 clear F a; have Mo := M; clear M; intro a A_53 c_53 u F M Oz hgr
 refine hK _ _ ?_
 clear hK K
 replace G_ := G_.ow O_i (Nat.le_refl _) (by decide) hgr
 replace O_k := Ow_grows O_k (grows_ow O_i hgr) (by decide)
 clear O_i Mo hgr hxx; have O_i := Oz; clear Oz; try clear v
 refine list_val F (wn rfl) rfl rfl (.pointer (some ⟨gb, 0, none⟩)) (ex_nilck _ rfl _ (F.e rfl)) ?_; clear F a; intro a F
 refine list_val F (wn rfl) rfl rfl (.pointer (some ⟨gb, 31, none⟩)) (ex_fa _ _ _ rfl _ (F.e rfl) 31 rg_fa_50_31_31 ⟨gb, 31, none⟩ rfl) ?_; clear F a; intro a F
 refine list_do (wn rfl) (fun K hK => ?_)
 refine ow_store F M rfl 25 _ _ rfl 1 gb ((bkC (.slice A_43 ((rows ++ [(⟨none, 0, 0⟩ : Sl)]).length) c_43) (.slice IA ms.length Ic) kA (tn + 1) dn (us + (8000 + 300 * 0))).toArray) _ rfl 31 (F.e rfl) _ (F.e rfl) [.slice A_53 ((ms ++ [(tn + 1)]).length) c_53] rfl rg_info_25_map_size_some_1 (by show 32 ≤ 75; decide) (by simp [Value.oneCell']) ((bkC (.slice A_43 ((rows ++ [(⟨none, 0, 0⟩ : Sl)]).length) c_43) (.slice A_53 ((ms ++ [(tn + 1)]).length) c_53) kA (tn + 1) dn (us + (8000 + 300 * 0))).toArray) rfl ?_
 clear F a; have Mo := M; clear M; intro a v F M hgr
 refine hK _ _ ?_
 clear hK K
 replace G_ := G_.grown (Mo.blk 1 _ rfl) hgb (.inl (by show (50 : Nat) ∈ [50, 57, 3]; decide)) hgr
 replace O_k := O_k.grown (Mo.blk 1 _ rfl) (.inl (by show (57 : Nat) ≠ 50; decide)) hgr
 replace O_i := O_i.grown (Mo.blk 1 _ rfl) (.inl (by show (3 : Nat) ≠ 50; decide)) hgr
 clear Mo hgr; try clear u
 replace M : Mm (cutW w base) v [⟨g5, (mkM (tn + 1) 0).arr, 85⟩, ⟨gb, (bkC (.slice A_43 ((rows ++ [(⟨none, 0, 0⟩ : Sl)]).length) c_43) (.slice A_53 ((ms ++ [(tn + 1)]).length) c_53) kA (tn + 1) dn (us + (8000 + 300 * 0))).toArray, 50⟩] := M
 refine wpList_nil ?_
 replace F : Fr 56 a [(0, .pointer (some ⟨gb, 0, none⟩)), (1, .slice none 0 0), (4, .int .i64 ((tn + 1 : Nat) : Int)), (5, .pointer (some ⟨g5, 0, none⟩)), (6, .int .i64 0), (23, .bool false), (35, .bool false)] := F.keep ⟨rfl, rfl, rfl, rfl, rfl, rfl, rfl, trivial⟩
 exact ret_none F rfl ⟨rfl, ⟨A_43, c_43, (rows ++ [(⟨none, 0, 0⟩ : Sl)]), A_53, c_53, (ms ++ [(tn + 1)]), (us + (8000 + 300 * 0)), own, ⟨M.blk 1 _ rfl, hgb, O_k, O_i, (AllK_only hB.all G_ (by decide) (fun k hk => by cases hk)).snoc (.inl rfl) (by omega), hB.bd.snoc (by show 0 ≤ 1000000; decide) (by omega)⟩, (fun k _ => rfl), G_⟩⟩
set_option maxHeartbeats 1000000 in
set_option maxRecDepth 100000 in
theorem take_row (own : Nat → Nat) (base gb : Nat) (KA : Option Addr) (Kc : Nat) (rows : List Sl) (IA : Option Addr) (Ic : Nat) (ms : List Nat) (kA tn dn us : Nat) (w : World) (hB : Bk own base gb KA Kc rows IA Ic ms kA tn dn us w) (gl n c : Nat) (arr : Array Value) (hgl : base ≤ gl) (hh : w.heap[gl]? = some (.cells arr 85 (0, 0))) (has : arr.size = c * 19) (hnc : n ≤ c) (hcm : c ≤ maxLen) (hn : n ≤ 1000000) (how : own gl = 0) (hne : gl ≠ gb) (htn : tn ≤ 10000000) :
    Calls Tryz.prog 12 #[.pointer (some ⟨gb, 0, none⟩), .slice (some ⟨gl, 0, none⟩) n c] w fun e w' => e = .returned (.tuple #[]) ∧ ∃ KA' Kc' rows' IA' Ic' ms' us' own', Bk own' base gb KA' Kc' rows' IA' Ic' ms' kA (tn + 1) dn us' w' ∧ (∀ k, (some gl) ≠ some k → own' k = own k) ∧ Only base [50, 57, 3] (some gl) w w' := by
 have hgb := hB.lo
 have hbw : base ≤ w.heap.size := Nat.le_of_lt (Nat.lt_of_le_of_lt hB.lo (Array.getElem?_eq_some_iff.1 hB.blk).1)
 have G_ : Only base [50, 57, 3] (some gl) w w := Only.refl w
 have O_k := hB.ks
 have O_i := hB.is
 have hrl := hB.bd.r
 have hus := hB.bd.u
 have hml := hB.all.1
 refine calls_start Tryz.func12 rfl rfl rfl (fun a F => ?_)
 have M : Mm (cutW w base) w [⟨gb, (bkC (.slice KA rows.length Kc) (.slice IA ms.length Ic) kA tn dn us).toArray, 50⟩, ⟨gl, arr, 85⟩] := cut_two hB.lo hB.blk hgl hh hne
 refine wp_seq ?_
 refine wp_region_lit ?_
 refine list_val F (wn rfl) rfl rfl (.pointer (some ⟨gb, 0, none⟩)) (ex_move _ rfl _ (F.e rfl)) ?_; clear F a; intro a F
 refine list_val F (wn rfl) rfl rfl (.pointer (some ⟨gb, 0, none⟩)) (ex_nilck _ rfl _ (F.e rfl)) ?_; clear F a; intro a F
 refine list_val F (wn rfl) rfl rfl (.pointer (some ⟨gb, 72, none⟩)) (ex_fa _ _ _ rfl _ (F.e rfl) 72 rg_fa_50_72_72 ⟨gb, 72, none⟩ rfl) ?_; clear F a; intro a F
 refine list_val F (wn rfl) rfl rfl (.int .i64 ((tn : Nat) : Int)) (ex_load _ _ rfl _ (F.e rfl) _ (lv1 rg_one_3 (M.cell (i := 0) rfl (j := 72) rfl))) ?_; clear F a; intro a F
 refine list_val F (wn rfl) rfl rfl (.int .i64 ((tn + 1 : Nat) : Int)) (ex_bin .add _ _ _ _ rfl .i64 _ _ (F.e rfl) rfl _ (b_add ((w_i64 (by omega) (by omega)).trans (by omega)))) ?_; clear F a; intro a F
 refine list_val F (wn rfl) rfl rfl (.pointer (some ⟨gb, 0, none⟩)) (ex_nilck _ rfl _ (F.e rfl)) ?_; clear F a; intro a F
 refine list_val F (wn rfl) rfl rfl (.pointer (some ⟨gb, 72, none⟩)) (ex_fa _ _ _ rfl _ (F.e rfl) 72 rg_fa_50_72_72 ⟨gb, 72, none⟩ rfl) ?_; clear F a; intro a F
 refine list_do (wn rfl) (fun K hK => ?_)
 refine ow_store F M rfl 3 _ _ rfl 0 gb ((bkC (.slice KA rows.length Kc) (.slice IA ms.length Ic) kA tn dn us).toArray) _ rfl 72 (F.e rfl) _ (F.e rfl) [.int .i64 ((tn + 1 : Nat) : Int)] rfl rg_info_3_map_size_some_1 (by show 73 ≤ 75; decide) (by simp [Value.oneCell']) ((bkC (.slice KA rows.length Kc) (.slice IA ms.length Ic) kA (tn + 1) dn us).toArray) rfl ?_
 clear F a; have Mo := M; clear M; intro a v F M hgr
 refine hK _ _ ?_
 clear hK K
 replace G_ := G_.grown (Mo.blk 0 _ rfl) hgb (.inl (by show (50 : Nat) ∈ [50, 57, 3]; decide)) hgr
 replace O_k := O_k.grown (Mo.blk 0 _ rfl) (.inl (by show (57 : Nat) ≠ 50; decide)) hgr
 replace O_i := O_i.grown (Mo.blk 0 _ rfl) (.inl (by show (3 : Nat) ≠ 50; decide)) hgr
 clear Mo hgr; try clear w
 replace M : Mm (cutW w base) v [⟨gb, (bkC (.slice KA rows.length Kc) (.slice IA ms.length Ic) kA (tn + 1) dn us).toArray, 50⟩, ⟨gl, arr, 85⟩] := M
 refine wpList_nil ?_
 replace F : Fr 56 a [(0, .pointer (some ⟨gb, 0, none⟩)), (1, .slice (some ⟨gl, 0, none⟩) n c)] := F.keep ⟨rfl, rfl, trivial⟩
 refine then_n ?_
 refine wp_seq ?_
 refine wp_region_lit ?_
 refine list_val F (wn rfl) rfl rfl (.pointer (some ⟨gb, 0, none⟩)) (ex_move _ rfl _ (F.e rfl)) ?_; clear F a; intro a F
 refine list_val F (wn rfl) rfl rfl (.pointer (some ⟨gb, 0, none⟩)) (ex_nilck _ rfl _ (F.e rfl)) ?_; clear F a; intro a F
 refine list_val F (wn rfl) rfl rfl (.pointer (some ⟨gb, 72, none⟩)) (ex_fa _ _ _ rfl _ (F.e rfl) 72 rg_fa_50_72_72 ⟨gb, 72, none⟩ rfl) ?_; clear F a; intro a F
 refine list_val F (wn rfl) rfl rfl (.int .i64 ((tn + 1 : Nat) : Int)) (ex_load _ _ rfl _ (F.e rfl) _ (lv1 rg_one_3 (M.cell (i := 0) rfl (j := 72) rfl))) ?_; clear F a; intro a F
 refine list_val F (wn rfl) rfl rfl (.int .i64 ((tn + 1 : Nat) : Int)) (ex_assign _ rfl _ (F.e rfl)) ?_; clear F a; intro a F
 refine wpList_nil ?_
 replace F : Fr 56 a [(0, .pointer (some ⟨gb, 0, none⟩)), (1, .slice (some ⟨gl, 0, none⟩) n c), (4, .int .i64 ((tn + 1 : Nat) : Int))] := F.keep ⟨rfl, rfl, rfl, trivial⟩
 refine then_n ?_
 refine wp_seq ?_
 refine wp_region_lit ?_
 refine list_val F (wn rfl) rfl rfl (.int .i64 ((tn + 1 : Nat) : Int)) (ex_move _ rfl _ (F.e rfl)) ?_; clear F a; intro a F
 refine list_do (wn rfl) (fun K hK => ?_)
 refine ow_call rfl rfl F 27 #[.int .i64 ((tn + 1 : Nat) : Int)] (ex_call 27 _ _ rfl rfl rg_ent_27 _ (map1 (F.e rfl))) (mark_any (tn + 1) 0 (by omega) _) (fun e u hR => ?_)
 obtain ⟨he, hb⟩ := hR
 refine ⟨.agg ((mkM (tn + 1) 0).arr), he, ?_⟩; clear he F a; intro a F
 refine hK _ _ ?_
 clear hK K
 replace G_ := G_.below hb
 replace O_k := O_k.below hb
 replace O_i := O_i.below hb
 replace M := M.below hb; clear hb; try clear v
 refine list_do (wn rfl) (fun K hK => ?_)
 refine ow_alloc F M rfl rfl 85 rfl (.agg zRv.arr) zero85 zRv.arr rfl ?_
 clear F M a; intro a g5 v F M hb hg
 refine hK _ _ ?_
 clear hK K
 have lw_g5 : w.heap.size ≤ g5 := Nat.le_trans G_.size hg
 replace G_ := G_.below hb
 replace O_k := O_k.below hb
 replace O_i := O_i.below hb
 clear hb hg; try clear u
 refine list_do (wn rfl) (fun K hK => ?_)
 refine ow_put F M rfl 85 _ _ rfl 0 _ zRv.arr _ rfl (F.e rfl) ((mkM (tn + 1) 0).arr) (F.e rfl) (sz85 _) (by simp only [Rv.arr_size]) (Rv.arr_one _) ?_
 clear F a; have Mo := M; clear M; intro a u F M hgr
 refine hK _ _ ?_
 clear hK K
 replace G_ := G_.fresh lw_g5 hgr
 replace O_k := O_k.grown (Mo.blk 0 _ rfl) (.inl (by show (57 : Nat) ≠ 85; decide)) hgr
 replace O_i := O_i.grown (Mo.blk 0 _ rfl) (.inl (by show (3 : Nat) ≠ 85; decide)) hgr
 clear Mo hgr; try clear v
 replace M : Mm (cutW w base) u [⟨g5, (mkM (tn + 1) 0).arr, 85⟩, ⟨gb, (bkC (.slice KA rows.length Kc) (.slice IA ms.length Ic) kA (tn + 1) dn us).toArray, 50⟩, ⟨gl, arr, 85⟩] := M
 refine wpList_nil ?_
 replace F : Fr 56 a [(0, .pointer (some ⟨gb, 0, none⟩)), (1, .slice (some ⟨gl, 0, none⟩) n c), (4, .int .i64 ((tn + 1 : Nat) : Int)), (5, .pointer (some ⟨g5, 0, none⟩))] := F.keep ⟨rfl, rfl, rfl, rfl, trivial⟩
 refine then_n ?_
 refine wp_seq ?_
 refine wp_seq ?_
 refine wp_region_lit ?_
 refine list_val F (wn rfl) rfl rfl (.int .i64 0) (ex_assign _ rfl _ rfl) ?_; clear F a; intro a F
 refine wpList_nil ?_
 replace F : Fr 56 a [(0, .pointer (some ⟨gb, 0, none⟩)), (1, .slice (some ⟨gl, 0, none⟩) n c), (4, .int .i64 ((tn + 1 : Nat) : Int)), (5, .pointer (some ⟨g5, 0, none⟩)), (6, .int .i64 0)] := F.keep ⟨rfl, rfl, rfl, rfl, rfl, trivial⟩
 refine then_n ?_
 refine wp_block ?_
 refine wp_loopN (fun mq ar wr => ∃ (i : Nat), ∃ (ax : Array Value), Fr 56 ar [(0, .pointer (some ⟨gb, 0, none⟩)), (1, .slice (some ⟨gl, 0, none⟩) n c), (4, .int .i64 ((tn + 1 : Nat) : Int)), (5, .pointer (some ⟨g5, 0, none⟩)), (6, .int .i64 ((i : Nat) : Int))] ∧ Mm (cutW w base) wr [⟨g5, (mkM (tn + 1) 0).arr, 85⟩, ⟨gb, (bkC (.slice KA rows.length Kc) (.slice IA ms.length Ic) kA (tn + 1) dn us).toArray, 50⟩, ⟨gl, ax, 85⟩] ∧ Only base [50, 57, 3] (some gl) w wr ∧ Ow kS 57 wr base (.slice KA rows.length Kc) rows ∧ Ow kN 3 wr base (.slice IA ms.length Ic) ms ∧ i ≤ n ∧ ax.size = c * 19 ∧ (∀ (j : Nat), j < i → ∀ (q : Nat) v, (Rv.cs (mkM (tn + 1) j))[q]? = some v → ax[j * 19 + q]? = some v) ∧ mq + i = n) n ?_ ?_
 ·
  exact ⟨0, arr, F.keep ⟨rfl, rfl, rfl, rfl, rfl, trivial⟩, M, G_, O_k, O_i, (Nat.zero_le _), has, (fun j hj => absurd hj (Nat.not_lt_zero j)), (by omega)⟩
 clear F M a G_ O_k O_i
 rintro mq a v ⟨i, ax, F, M, G_, O_k, O_i, hi, har, hmk, hq⟩; try clear u
 by_cases hin : i < n
 ·
  refine wp_seq ?_
  refine wp_seq ?_
  refine wp_region_lit ?_
  refine list_val F (wn rfl) rfl rfl (.int .i64 ((i : Nat) : Int)) (ex_move _ rfl _ (F.e rfl)) ?_; clear F a; intro a F
  refine list_val F (wn rfl) rfl rfl (.slice (some ⟨gl, 0, none⟩) n c) (ex_move _ rfl _ (F.e rfl)) ?_; clear F a; intro a F
  refine list_val F (wn rfl) rfl rfl (.int .i64 ((n : Nat) : Int)) (ex_len _ _ rfl 19 rg_sl_57_19 _ _ _ (F.e rfl)) ?_; clear F a; intro a F
  refine list_val F (wn rfl) rfl rfl (.bool true) (ex_bin .lss _ _ _ _ rfl .i64 _ _ (F.e rfl) (F.e rfl) _ (b_lss (decide_eq_true (by omega)))) ?_; clear F a; intro a F
  refine wpList_nil ?_
  replace F : Fr 56 a [(0, .pointer (some ⟨gb, 0, none⟩)), (1, .slice (some ⟨gl, 0, none⟩) n c), (4, .int .i64 ((tn + 1 : Nat) : Int)), (5, .pointer (some ⟨g5, 0, none⟩)), (6, .int .i64 ((i : Nat) : Int)), (23, .bool true)] := F.keep ⟨rfl, rfl, rfl, rfl, rfl, rfl, trivial⟩
  refine then_n ?_
  refine wp_cond_true (F.e rfl) ?_
  refine wp_skip ?_
  refine then_n ?_
  refine wp_seq ?_
  refine wp_block ?_
  refine wp_region_lit ?_
  refine list_val F (wn rfl) rfl rfl (.slice (some ⟨gl, 0, none⟩) n c) (ex_move _ rfl _ (F.e rfl)) ?_; clear F a; intro a F
  refine list_val F (wn rfl) rfl rfl (.int .i64 ((i : Nat) : Int)) (ex_move _ rfl _ (F.e rfl)) ?_; clear F a; intro a F
  refine list_val F (wn rfl) rfl rfl (.agg ((mkM (tn + 1) 0).arr)) (ex_load _ _ rfl _ (F.e rfl) _ (lrow85 (mkM (tn + 1) 0) (M.at (i := 0) rfl))) ?_; clear F a; intro a F
  refine list_val F (wn rfl) rfl rfl (.pointer (some ⟨gl, i * 19, none⟩)) (ex_ix _ _ _ rfl 19 rg_sl_57_19 ⟨gl, 0, none⟩ _ _ (F.e rfl) .i64 _ (F.e rfl) i rfl (by omega) ⟨gl, i * 19, none⟩ ((addr_add _ _ _).trans (by rw [Nat.zero_add]))) ?_; clear F a; intro a F
  refine list_do (wn rfl) (fun K hK => ?_)
  refine ow_store F M rfl 85 _ _ rfl 2 gl ax _ rfl (i * 19) (F.e rfl) _ (F.e rfl) (Rv.cs (mkM (tn + 1) 0)) rfl (by rw [Rv.cs_len]; exact s85) (by rw [har, Rv.cs_len]; have h_ := Nat.mul_le_mul_right 19 (show i + 1 ≤ c by omega); rw [Nat.add_mul, Nat.one_mul] at h_; exact h_) (Rv.cs_one _) ((ax.toList.take (i * 19) ++ (Rv.cs (mkM (tn + 1) 0)) ++ ax.toList.drop (i * 19 + ((Rv.cs (mkM (tn + 1) 0))).length)).toArray) rfl ?_
  clear F a; have Mo := M; clear M; intro a u F M hgr
  refine hK _ _ ?_
  clear hK K
  replace G_ := G_.grown (Mo.blk 2 _ rfl) hgl (.inr rfl) hgr
  replace O_k := O_k.grown (Mo.blk 2 _ rfl) (.inl (by show (57 : Nat) ≠ 85; decide)) hgr
  replace O_i := O_i.grown (Mo.blk 2 _ rfl) (.inl (by show (3 : Nat) ≠ 85; decide)) hgr
  clear Mo hgr; try clear v
  replace M : Mm (cutW w base) u [⟨g5, (mkM (tn + 1) 0).arr, 85⟩, ⟨gb, (bkC (.slice KA rows.length Kc) (.slice IA ms.length Ic) kA (tn + 1) dn us).toArray, 50⟩, ⟨gl, ((ax.toList.take (i * 19) ++ (Rv.cs (mkM (tn + 1) 0)) ++ ax.toList.drop (i * 19 + ((Rv.cs (mkM (tn + 1) 0))).length)).toArray), 85⟩] := M
  refine wpList_nil ?_
  replace F : Fr 56 a [(0, .pointer (some ⟨gb, 0, none⟩)), (1, .slice (some ⟨gl, 0, none⟩) n c), (4, .int .i64 ((tn + 1 : Nat) : Int)), (5, .pointer (some ⟨g5, 0, none⟩)), (6, .int .i64 ((i : Nat) : Int)), (23, .bool true)] := F.keep ⟨rfl, rfl, rfl, rfl, rfl, rfl, trivial⟩
  refine in_n ?_
  refine then_n ?_
  refine wp_region_lit ?_
  refine list_val F (wn rfl) rfl rfl (.int .i64 ((i : Nat) : Int)) (ex_move _ rfl _ (F.e rfl)) ?_; clear F a; intro a F
  refine list_val F (wn rfl) rfl rfl (.int .i64 ((i + 1 : Nat) : Int)) (ex_bin .add _ _ _ _ rfl .i64 _ _ (F.e rfl) rfl _ (b_add ((w_i64 (by omega) (by omega)).trans (by omega)))) ?_; clear F a; intro a F
  refine list_val F (wn rfl) rfl rfl (.int .i64 ((i + 1 : Nat) : Int)) (ex_assign _ rfl _ (F.e rfl)) ?_; clear F a; intro a F
  refine wpList_nil ?_
  replace F : Fr 56 a [(0, .pointer (some ⟨gb, 0, none⟩)), (1, .slice (some ⟨gl, 0, none⟩) n c), (4, .int .i64 ((tn + 1 : Nat) : Int)), (5, .pointer (some ⟨g5, 0, none⟩)), (6, .int .i64 ((i + 1 : Nat) : Int)), (23, .bool true)] := F.keep ⟨rfl, rfl, rfl, rfl, rfl, rfl, trivial⟩
  refine then_n ?_
  obtain ⟨hz2, hk2⟩ := marks_put (enc := Rv.cs) (mark := mkM) (k := tn + 1) Rv.cs_len har (show i < c by omega) hmk
  exact ⟨n - (i + 1), by omega, (i + 1), ((ax.toList.take (i * 19) ++ (Rv.cs (mkM (tn + 1) 0)) ++ ax.toList.drop (i * 19 + ((Rv.cs (mkM (tn + 1) 0))).length)).toArray), F.keep ⟨rfl, rfl, rfl, rfl, rfl, trivial⟩, (by refine M.pick' [0, 1, 2] _ ?_ (by decide); exact ⟨rfl, rfl, rfl, trivial⟩), G_, O_k, O_i, (by omega), hz2, hk2, (by omega)⟩
 obtain rfl : i = n := by omega
 refine wp_seq ?_
 refine wp_seq ?_
 refine wp_region_lit ?_
 refine list_val F (wn rfl) rfl rfl (.int .i64 ((i : Nat) : Int)) (ex_move _ rfl _ (F.e rfl)) ?_; clear F a; intro a F
 refine list_val F (wn rfl) rfl rfl (.slice (some ⟨gl, 0, none⟩) i c) (ex_move _ rfl _ (F.e rfl)) ?_; clear F a; intro a F
 refine list_val F (wn rfl) rfl rfl (.int .i64 ((i : Nat) : Int)) (ex_len _ _ rfl 19 rg_sl_57_19 _ _ _ (F.e rfl)) ?_; clear F a; intro a F
 refine list_val F (wn rfl) rfl rfl (.bool false) (ex_bin .lss _ _ _ _ rfl .i64 _ _ (F.e rfl) (F.e rfl) _ (b_lss (decide_eq_false (by omega)))) ?_; clear F a; intro a F
 refine wpList_nil ?_
 replace F : Fr 56 a [(0, .pointer (some ⟨gb, 0, none⟩)), (1, .slice (some ⟨gl, 0, none⟩) i c), (4, .int .i64 ((tn + 1 : Nat) : Int)), (5, .pointer (some ⟨g5, 0, none⟩)), (6, .int .i64 ((i : Nat) : Int)), (23, .bool false)] := F.keep ⟨rfl, rfl, rfl, rfl, rfl, rfl, trivial⟩
 refine then_n ?_
 refine wp_cond_false (F.e rfl) ?_
 refine wp_exit ?_
 refine then_x ?_
 refine then_x ?_
 refine in_hit ?_
 refine then_n ?_
 refine wp_seq ?_
 refine wp_seq ?_
 by_cases htt : 16777216 < us + (8000 + 300 * i)
 ·
  refine wp_region_lit ?_
  refine list_val F (wn rfl) rfl rfl (.pointer (some ⟨gb, 0, none⟩)) (ex_move _ rfl _ (F.e rfl)) ?_; clear F a; intro a F
  refine list_val F (wn rfl) rfl rfl (.slice (some ⟨gl, 0, none⟩) i c) (ex_move _ rfl _ (F.e rfl)) ?_; clear F a; intro a F
  refine list_val F (wn rfl) rfl rfl (.int .i64 ((i : Nat) : Int)) (ex_len _ _ rfl 19 rg_sl_57_19 _ _ _ (F.e rfl)) ?_; clear F a; intro a F
  refine list_val F (wn rfl) rfl rfl (.int .i64 ((300 * i : Nat) : Int)) (ex_bin .mul _ _ _ _ rfl .i64 _ _ rfl (F.e rfl) _ (b_mul ((w_i64 (by omega) (by omega)).trans (by omega)))) ?_; clear F a; intro a F
  refine list_val F (wn rfl) rfl rfl (.int .i64 ((8000 + 300 * i : Nat) : Int)) (ex_bin .add _ _ _ _ rfl .i64 _ _ rfl (F.e rfl) _ (b_add ((w_i64 (by omega) (by omega)).trans (by omega)))) ?_; clear F a; intro a F
  refine list_do (wn rfl) (fun K hK => ?_)
  refine ow_call rfl rfl F 28 #[.pointer (some ⟨gb, 0, none⟩), .int .i64 ((8000 + 300 * i : Nat) : Int)] (ex_call 28 _ _ rfl rfl rg_ent_28 _ (map2 (F.e rfl) (F.e rfl))) (tight_full gb _ _ _ _ _ _ (8000 + 300 * i) _ (M.blk 1 _ rfl) (by omega) hB.bd.u htt) (fun e u hR => ?_)
  obtain ⟨he, hb⟩ := hR
  refine ⟨.bool true, he, ?_⟩; clear he F a; intro a F
  refine hK _ _ ?_
  clear hK K
  replace G_ := G_.below hb
  replace O_k := O_k.below hb
  replace O_i := O_i.below hb
  replace M := M.below hb; clear hb; try clear v
  refine wpList_nil ?_
  replace F : Fr 56 a [(0, .pointer (some ⟨gb, 0, none⟩)), (1, .slice (some ⟨gl, 0, none⟩) i c), (4, .int .i64 ((tn + 1 : Nat) : Int)), (5, .pointer (some ⟨g5, 0, none⟩)), (6, .int .i64 ((i : Nat) : Int)), (23, .bool false), (35, .bool true)] := F.keep ⟨rfl, rfl, rfl, rfl, rfl, rfl, rfl, trivial⟩
  refine then_n ?_
  refine wp_cond_true (F.e rfl) ?_
  refine wp_ret ?_
  refine then_r ?_
  exact ret_none_r F rfl ⟨rfl, ⟨KA, Kc, rows, IA, Ic, ms, us, own, ⟨M.blk 1 _ rfl, hgb, O_k, O_i, AllK_only hB.all G_ (by decide) (fun k hk => by injection hk with hk; rw [← hk]; exact how), hB.bd.turn⟩, (fun k _ => rfl), G_⟩⟩
 refine wp_region_lit ?_
 refine list_val F (wn rfl) rfl rfl (.pointer (some ⟨gb, 0, none⟩)) (ex_move _ rfl _ (F.e rfl)) ?_; clear F a; intro a F
 refine list_val F (wn rfl) rfl rfl (.slice (some ⟨gl, 0, none⟩) i c) (ex_move _ rfl _ (F.e rfl)) ?_; clear F a; intro a F
 refine list_val F (wn rfl) rfl rfl (.int .i64 ((i : Nat) : Int)) (ex_len _ _ rfl 19 rg_sl_57_19 _ _ _ (F.e rfl)) ?_; clear F a; intro a F
 refine list_val F (wn rfl) rfl rfl (.int .i64 ((300 * i : Nat) : Int)) (ex_bin .mul _ _ _ _ rfl .i64 _ _ rfl (F.e rfl) _ (b_mul ((w_i64 (by omega) (by omega)).trans (by omega)))) ?_; clear F a; intro a F
 refine list_val F (wn rfl) rfl rfl (.int .i64 ((8000 + 300 * i : Nat) : Int)) (ex_bin .add _ _ _ _ rfl .i64 _ _ rfl (F.e rfl) _ (b_add ((w_i64 (by omega) (by omega)).trans (by omega)))) ?_; clear F a; intro a F
 refine list_do (wn rfl) (fun K hK => ?_)
 refine ow_call rfl rfl F 28 #[.pointer (some ⟨gb, 0, none⟩), .int .i64 ((8000 + 300 * i : Nat) : Int)] (ex_call 28 _ _ rfl rfl rg_ent_28 _ (map2 (F.e rfl) (F.e rfl))) (tight_room gb _ _ _ _ _ _ (8000 + 300 * i) _ (M.blk 1 _ rfl) (by omega) hB.bd.u htt) (fun e u hR => ?_)
 obtain ⟨he, hgr, hn⟩ := hR
 refine ⟨.bool false, he, ?_⟩; clear he F a; intro a F
 refine hK _ _ ?_
 clear hK K
 have Mo := M; clear M
 replace G_ := G_.grown (Mo.blk 1 _ rfl) hgb (.inl (by show (50 : Nat) ∈ [50, 57, 3]; decide)) hgr
 replace O_k := O_k.grown (Mo.blk 1 _ rfl) (.inl (by show (57 : Nat) ≠ 50; decide)) hgr
 replace O_i := O_i.grown (Mo.blk 1 _ rfl) (.inl (by show (3 : Nat) ≠ 50; decide)) hgr
 have M : Mm (cutW w base) u [⟨g5, (mkM (tn + 1) 0).arr, 85⟩, ⟨gb, (bkC (.slice KA rows.length Kc) (.slice IA ms.length Ic) kA (tn + 1) dn (us + (8000 + 300 * i))).toArray, 50⟩, ⟨gl, ax, 85⟩] := Mo.grown (b := ⟨gb, (bkC (.slice KA rows.length Kc) (.slice IA ms.length Ic) kA (tn + 1) dn us).toArray, 50⟩) (i := 1) rfl ((bkC (.slice KA rows.length Kc) (.slice IA ms.length Ic) kA (tn + 1) dn (us + (8000 + 300 * i))).toArray) hgr hn
 clear Mo hgr hn; try clear v
 refine wpList_nil ?_
 replace F : Fr 56 a [(0, .pointer (some ⟨gb, 0, none⟩)), (1, .slice (some ⟨gl, 0, none⟩) i c), (4, .int .i64 ((tn + 1 : Nat) : Int)), (5, .pointer (some ⟨g5, 0, none⟩)), (6, .int .i64 ((i : Nat) : Int)), (23, .bool false), (35, .bool false)] := F.keep ⟨rfl, rfl, rfl, rfl, rfl, rfl, rfl, trivial⟩
 refine then_n ?_
 refine wp_cond_false (F.e rfl) ?_
 refine wp_skip ?_
 refine then_n ?_
 refine wp_seq ?_
 refine wp_region_lit ?_
 refine list_val F (wn rfl) rfl rfl (.pointer (some ⟨gb, 0, none⟩)) (ex_move _ rfl _ (F.e rfl)) ?_; clear F a; intro a F
 refine list_val F (wn rfl) rfl rfl (.pointer (some ⟨gb, 0, none⟩)) (ex_move _ rfl _ (F.e rfl)) ?_; clear F a; intro a F
 refine list_val F (wn rfl) rfl rfl (.pointer (some ⟨gb, 0, none⟩)) (ex_nilck _ rfl _ (F.e rfl)) ?_; clear F a; intro a F
 refine list_val F (wn rfl) rfl rfl (.pointer (some ⟨gb, 30, none⟩)) (ex_fa _ _ _ rfl _ (F.e rfl) 30 rg_fa_50_30_30 ⟨gb, 30, none⟩ rfl) ?_; clear F a; intro a F
 refine list_val F (wn rfl) rfl rfl (.slice KA rows.length Kc) (ex_load _ _ rfl _ (F.e rfl) _ (lv1 rg_one_35 (M.cell (i := 1) rfl (j := 30) rfl))) ?_; clear F a; intro a F
 refine list_val F (wn rfl) rfl rfl (.slice (some ⟨gl, 0, none⟩) i c) (ex_move _ rfl _ (F.e rfl)) ?_; clear F a; intro a F
 refine list_do (wn rfl) (fun K hK => ?_)
 refine ow_bslice F M rfl rfl 35 1 _ rfl #[(0, .slice (some ⟨gl, 0, none⟩) i c)] (parts1 (F.e rfl)) (([(⟨(some ⟨gl, 0, none⟩), i, c⟩ : Sl)].flatMap Sl.cs).toArray) 57 (newrow (⟨(some ⟨gl, 0, none⟩), i, c⟩ : Sl) _) ?_
 clear F M a; intro a g42 v F M hb hg
 refine hK _ _ ?_
 clear hK K
 have lw_g42 : w.heap.size ≤ g42 := Nat.le_trans G_.size hg
 replace G_ := G_.below hb
 replace O_k := O_k.below hb
 replace O_i := O_i.below hb
 clear hb hg; try clear u
 refine list_do (wn rfl) (fun K hK => ?_)
 have hxx := C_one (enc := Sl.cs) (m := 1) (hl := Sl.cs_len) (h1 := Sl.cs_one) (x := (⟨(some ⟨gl, 0, none⟩), i, c⟩ : Sl)) (M.at (i := 0) rfl)
 replace M : Mm (cutW w base) v [⟨g5, (mkM (tn + 1) 0).arr, 85⟩, ⟨gb, (bkC (.slice KA rows.length Kc) (.slice IA ms.length Ic) kA (tn + 1) dn (us + (8000 + 300 * i))).toArray, 50⟩, ⟨gl, ax, 85⟩] := (by refine M.pick' [1, 2, 3] _ ?_ (by decide); exact ⟨rfl, rfl, rfl, trivial⟩)
 refine og_app F M uT1 iS rfl (by decide) (by decide) (Nat.le_of_eq (cut_size hbw)) (by have h_ := M.bel.size; rwa [cut_size hbw] at h_) ⟨.inl (by show (85 : Nat) ≠ 57; decide), .inl (by show (50 : Nat) ≠ 57; decide), .inl (by show (85 : Nat) ≠ 57; decide), trivial⟩ rfl rfl rfl _ _ rfl (.slice KA rows.length Kc) rows [(⟨(some ⟨gl, 0, none⟩), i, c⟩ : Sl)] (rows ++ [(⟨(some ⟨gl, 0, none⟩), i, c⟩ : Sl)]) rfl (some ⟨g42, 0, none⟩) 1 1 (F.e rfl) (F.e rfl) O_k hxx (by have h_ := hrl; first | omega | (have h2_ := K_.1; simp only [List.length_cons] at h2_; omega)) ?_
 clear F a; have Mo := M; clear M; intro a A_43 c_43 u F M Oz hgr
 refine hK _ _ ?_
 clear hK K
 replace G_ := G_.ow O_k (Nat.le_refl _) (by decide) hgr
 replace O_i := Ow_grows O_i (grows_ow O_k hgr) (by decide)
 clear O_k Mo hgr hxx; have O_k := Oz; clear Oz; try clear v
 refine list_val F (wn rfl) rfl rfl (.pointer (some ⟨gb, 0, none⟩)) (ex_nilck _ rfl _ (F.e rfl)) ?_; clear F a; intro a F
 refine list_val F (wn rfl) rfl rfl (.pointer (some ⟨gb, 30, none⟩)) (ex_fa _ _ _ rfl _ (F.e rfl) 30 rg_fa_50_30_30 ⟨gb, 30, none⟩ rfl) ?_; clear F a; intro a F
 refine list_do (wn rfl) (fun K hK => ?_)
 refine ow_store F M rfl 35 _ _ rfl 1 gb ((bkC (.slice KA rows.length Kc) (.slice IA ms.length Ic) kA (tn + 1) dn (us + (8000 + 300 * i))).toArray) _ rfl 30 (F.e rfl) _ (F.e rfl) [.slice A_43 ((rows ++ [(⟨(some ⟨gl, 0, none⟩), i, c⟩ : Sl)]).length) c_43] rfl rg_info_35_map_size_some_1 (by show 31 ≤ 75; decide) (by simp [Value.oneCell']) ((bkC (.slice A_43 ((rows ++ [(⟨(some ⟨gl, 0, none⟩), i, c⟩ : Sl)]).length) c_43) (.slice IA ms.length Ic) kA (tn + 1) dn (us + (8000 + 300 * i))).toArray) rfl ?_
 clear F a; have Mo := M; clear M; intro a v F M hgr
 refine hK _ _ ?_
 clear hK K
 replace G_ := G_.grown (Mo.blk 1 _ rfl) hgb (.inl (by show (50 : Nat) ∈ [50, 57, 3]; decide)) hgr
 replace O_k := O_k.grown (Mo.blk 1 _ rfl) (.inl (by show (57 : Nat) ≠ 50; decide)) hgr
 replace O_i := O_i.grown (Mo.blk 1 _ rfl) (.inl (by show (3 : Nat) ≠ 50; decide)) hgr
 clear Mo hgr; try clear u
 replace M : Mm (cutW w base) v [⟨g5, (mkM (tn + 1) 0).arr, 85⟩, ⟨gb, (bkC (.slice A_43 ((rows ++ [(⟨(some ⟨gl, 0, none⟩), i, c⟩ : Sl)]).length) c_43) (.slice IA ms.length Ic) kA (tn + 1) dn (us + (8000 + 300 * i))).toArray, 50⟩, ⟨gl, ax, 85⟩] := M
 refine wpList_nil ?_
 replace F : Fr 56 a [(0, .pointer (some ⟨gb, 0, none⟩)), (1, .slice (some ⟨gl, 0, none⟩) i c), (4, .int .i64 ((tn + 1 : Nat) : Int)), (5, .pointer (some ⟨g5, 0, none⟩)), (6, .int .i64 ((i : Nat) : Int)), (23, .bool false), (35, .bool false)] := F.keep ⟨rfl, rfl, rfl, rfl, rfl, rfl, rfl, trivial⟩
 refine then_n ?_
 refine wp_region_lit ?_
 refine list_val F (wn rfl) rfl rfl (.pointer (some ⟨gb, 0, none⟩)) (ex_move _ rfl _ (F.e rfl)) ?_; clear F a; intro a F
 refine list_val F (wn rfl) rfl rfl (.pointer (some ⟨gb, 0, none⟩)) (ex_move _ rfl _ (F.e rfl)) ?_; clear F a; intro a F
 refine list_val F (wn rfl) rfl rfl (.pointer (some ⟨gb, 0, none⟩)) (ex_nilck _ rfl _ (F.e rfl)) ?_; clear F a; intro a F
 refine list_val F (wn rfl) rfl rfl (.pointer (some ⟨gb, 31, none⟩)) (ex_fa _ _ _ rfl _ (F.e rfl) 31 rg_fa_50_31_31 ⟨gb, 31, none⟩ rfl) ?_; clear F a; intro a F
 refine list_val F (wn rfl) rfl rfl (.slice IA ms.length Ic) (ex_load _ _ rfl _ (F.e rfl) _ (lv1 rg_one_25 (M.cell (i := 1) rfl (j := 31) rfl))) ?_; clear F a; intro a F
 refine list_val F (wn rfl) rfl rfl (.int .i64 ((tn + 1 : Nat) : Int)) (ex_move _ rfl _ (F.e rfl)) ?_; clear F a; intro a F
 refine list_do (wn rfl) (fun K hK => ?_)
 refine ow_bslice F M rfl rfl 25 1 _ rfl #[(0, .int .i64 ((tn + 1 : Nat) : Int))] (parts1 (F.e rfl)) (([(tn + 1)].flatMap nc).toArray) 3 (newnum (tn + 1) _) ?_
 clear F M a; intro a g52 u F M hb hg
 refine hK _ _ ?_
 clear hK K
 have lw_g52 : w.heap.size ≤ g52 := Nat.le_trans G_.size hg
 replace G_ := G_.below hb
 replace O_k := O_k.below hb
 replace O_i := O_i.below hb
 clear hb hg; try clear v
 refine list_do (wn rfl) (fun K hK => ?_)
 have hxx := C_one (enc := nc) (m := 1) (hl := nc_len) (h1 := nc_one) (x := (tn + 1)) (M.at (i := 0) rfl)
 replace M : Mm (cutW w base) u [⟨g5, (mkM (tn + 1) 0).arr, 85⟩, ⟨gb, (bkC (.slice A_43 ((rows ++ [(⟨(some ⟨gl, 0, none⟩), i, c⟩ : Sl)]).length) c_43) (.slice IA ms.length Ic) kA (tn + 1) dn (us + (8000 + 300 * i))).toArray, 50⟩, ⟨gl, ax, 85⟩] := (by refine M.pick' [1, 2, 3] _ ?_ (by decide); exact ⟨rfl, rfl, rfl, trivial⟩)
 refine og_app F M uTI iI rfl (by decide) (by decide) (Nat.le_of_eq (cut_size hbw)) (by have h_ := M.bel.size; rwa [cut_size hbw] at h_) ⟨.inl (by show (85 : Nat) ≠ 3; decide), .inl (by show (50 : Nat) ≠ 3; decide), .inl (by show (85 : Nat) ≠ 3; decide), trivial⟩ rfl rfl rfl _ _ rfl (.slice IA ms.length Ic) ms [(tn + 1)] (ms ++ [(tn + 1)]) rfl (some ⟨g52, 0, none⟩) 1 1 (F.e rfl) (F.e rfl) O_i hxx (by have h_ := hrl; first | omega | (have h2_ := K_.1; simp only [List.length_cons] at h2_; omega)) ?_
 clear F a; have Mo := M; clear M; intro a A_53 c_53 v F M Oz hgr
 refine hK _ _ ?_
 clear hK K
 replace G_ := G_.ow O_i (Nat.le_refl _) (by decide) hgr
 replace O_k := Ow_grows O_k (grows_ow O_i hgr) (by decide)
 clear O_i Mo hgr hxx; have O_i := Oz; clear Oz; try clear u
 refine list_val F (wn rfl) rfl rfl (.pointer (some ⟨gb, 0, none⟩)) (ex_nilck _ rfl _ (F.e rfl)) ?_; clear F a; intro a F
 refine list_val F (wn rfl) rfl rfl (.pointer (some ⟨gb, 31, none⟩)) (ex_fa _ _ _ rfl _ (F.e rfl) 31 rg_fa_50_31_31 ⟨gb, 31, none⟩ rfl) ?_; clear F a; intro a F
 refine list_do (wn rfl) (fun K hK => ?_)
 refine ow_store F M rfl 25 _ _ rfl 1 gb ((bkC (.slice A_43 ((rows ++ [(⟨(some ⟨gl, 0, none⟩), i, c⟩ : Sl)]).length) c_43) (.slice IA ms.length Ic) kA (tn + 1) dn (us + (8000 + 300 * i))).toArray) _ rfl 31 (F.e rfl) _ (F.e rfl) [.slice A_53 ((ms ++ [(tn + 1)]).length) c_53] rfl rg_info_25_map_size_some_1 (by show 32 ≤ 75; decide) (by simp [Value.oneCell']) ((bkC (.slice A_43 ((rows ++ [(⟨(some ⟨gl, 0, none⟩), i, c⟩ : Sl)]).length) c_43) (.slice A_53 ((ms ++ [(tn + 1)]).length) c_53) kA (tn + 1) dn (us + (8000 + 300 * i))).toArray) rfl ?_
 clear F a; have Mo := M; clear M; intro a u F M hgr
 refine hK _ _ ?_
 clear hK K
 replace G_ := G_.grown (Mo.blk 1 _ rfl) hgb (.inl (by show (50 : Nat) ∈ [50, 57, 3]; decide)) hgr
 replace O_k := O_k.grown (Mo.blk 1 _ rfl) (.inl (by show (57 : Nat) ≠ 50; decide)) hgr
 replace O_i := O_i.grown (Mo.blk 1 _ rfl) (.inl (by show (3 : Nat) ≠ 50; decide)) hgr
 clear Mo hgr; try clear v
 replace M : Mm (cutW w base) u [⟨g5, (mkM (tn + 1) 0).arr, 85⟩, ⟨gb, (bkC (.slice A_43 ((rows ++ [(⟨(some ⟨gl, 0, none⟩), i, c⟩ : Sl)]).length) c_43) (.slice A_53 ((ms ++ [(tn + 1)]).length) c_53) kA (tn + 1) dn (us + (8000 + 300 * i))).toArray, 50⟩, ⟨gl, ax, 85⟩] := M
 refine wpList_nil ?_
 replace F : Fr 56 a [(0, .pointer (some ⟨gb, 0, none⟩)), (1, .slice (some ⟨gl, 0, none⟩) i c), (4, .int .i64 ((tn + 1 : Nat) : Int)), (5, .pointer (some ⟨g5, 0, none⟩)), (6, .int .i64 ((i : Nat) : Int)), (23, .bool false), (35, .bool false)] := F.keep ⟨rfl, rfl, rfl, rfl, rfl, rfl, rfl, trivial⟩
 exact ret_none F rfl ⟨rfl, ⟨A_43, c_43, (rows ++ [(⟨(some ⟨gl, 0, none⟩), i, c⟩ : Sl)]), A_53, c_53, (ms ++ [(tn + 1)]), (us + (8000 + 300 * i)), (fun g => if g = gl then tn + 1 else own g), ⟨M.blk 1 _ rfl, hgb, O_k, O_i, ((AllK_only hB.all G_ (by decide) (fun k hk => by injection hk with hk; rw [← hk]; exact how)).keep (fun g cells _ h0 hh => ⟨rfl, if_neg (fun e => h0 (by rw [e]; exact how))⟩)).snoc (.inr ⟨gl, ax, rfl, hgl, M.blk 2 _ rfl, har, by omega, hcm, if_pos rfl, hmk⟩) (by omega), hB.bd.snoc (by show i ≤ 1000000; omega) (by omega)⟩, (fun k hk => if_neg (fun e => hk (by rw [e]))), G_⟩⟩
theorem rg_fa_50_0_0 : fa? Tryz.prog 50 0 0 = true := by kernel_rfl
theorem rg_one_24 : one? Tryz.prog 24 = true := by kernel_rfl
theorem rg_sl_24_1 : sl? Tryz.prog 24 1 = true := by kernel_rfl
theorem rg_fa_50_2_2 : fa? Tryz.prog 50 2 2 = true := by kernel_rfl
set_option maxHeartbeats 1000000 in
set_option maxRecDepth 100000 in
theorem growBytes_any (gb : Nat) (kv ko : Value) (kA tn dn us : Nat) (w : World) (hbk : w.heap[gb]? = some (.cells (bkC (kv) (ko) kA tn dn us).toArray 50 (0, 0))) :
    Calls Tryz.prog 51 #[.pointer (some ⟨gb, 0, none⟩)] w fun e w' => e = .returned (.tuple #[]) ∧ Below w.heap.size w w' := by
 have G_ := gg_refl w gb
 refine calls_start Tryz.func51 rfl rfl rfl (fun a F => ?_)
 have M : Mm (cutW w gb) w [⟨gb, (bkC (kv) (ko) kA tn dn us).toArray, 50⟩] := cut_one (Nat.le_refl _) hbk
 refine wp_seq ?_
 refine wp_region_lit ?_
 refine list_val F (wn rfl) rfl rfl (.pointer (some ⟨gb, 0, none⟩)) (ex_move _ rfl _ (F.e rfl)) ?_; clear F a; intro a F
 refine list_val F (wn rfl) rfl rfl (.pointer (some ⟨gb, 0, none⟩)) (ex_nilck _ rfl _ (F.e rfl)) ?_; clear F a; intro a F
 refine list_val F (wn rfl) rfl rfl (.pointer (some ⟨gb, 0, none⟩)) (ex_fa _ _ _ rfl _ (F.e rfl) 0 rg_fa_50_0_0 ⟨gb, 0, none⟩ rfl) ?_; clear F a; intro a F
 refine list_val F (wn rfl) rfl rfl (.slice none 0 0) (ex_load _ _ rfl _ (F.e rfl) _ (lv1 rg_one_24 (M.cell (i := 0) rfl (j := 0) rfl))) ?_; clear F a; intro a F
 refine list_val F (wn rfl) rfl rfl (.int .i64 0) (ex_len _ _ rfl 1 rg_sl_24_1 _ _ _ (F.e rfl)) ?_; clear F a; intro a F
 refine list_val F (wn rfl) rfl rfl (.int .i64 0) (ex_assign _ rfl _ (F.e rfl)) ?_; clear F a; intro a F
 refine wpList_nil ?_
 replace F : Fr 81 a [(0, .pointer (some ⟨gb, 0, none⟩)), (2, .int .i64 0)] := F.keep ⟨rfl, rfl, trivial⟩
 refine then_n ?_
 refine wp_seq ?_
 refine wp_seq ?_
 refine wp_region_lit ?_
 refine list_val F (wn rfl) rfl rfl (.pointer (some ⟨gb, 0, none⟩)) (ex_move _ rfl _ (F.e rfl)) ?_; clear F a; intro a F
 refine list_val F (wn rfl) rfl rfl (.pointer (some ⟨gb, 0, none⟩)) (ex_nilck _ rfl _ (F.e rfl)) ?_; clear F a; intro a F
 refine list_val F (wn rfl) rfl rfl (.pointer (some ⟨gb, 2, none⟩)) (ex_fa _ _ _ rfl _ (F.e rfl) 2 rg_fa_50_2_2 ⟨gb, 2, none⟩ rfl) ?_; clear F a; intro a F
 refine list_val F (wn rfl) rfl rfl (.int .i64 0) (ex_load _ _ rfl _ (F.e rfl) _ (lv1 rg_one_3 (M.cell (i := 0) rfl (j := 2) rfl))) ?_; clear F a; intro a F
 refine list_val F (wn rfl) rfl rfl (.int .i64 0) (ex_assign _ rfl _ (F.e rfl)) ?_; clear F a; intro a F
 refine wpList_nil ?_
 replace F : Fr 81 a [(0, .pointer (some ⟨gb, 0, none⟩)), (2, .int .i64 0), (3, .int .i64 0)] := F.keep ⟨rfl, rfl, rfl, trivial⟩
 refine then_n ?_
 refine wp_block ?_
 refine wp_loop_rounds 1 ?_
 refine rounds_do 0 ?_
 refine wp_seq ?_
 refine wp_seq ?_
 refine wp_region_lit ?_
 refine list_val F (wn rfl) rfl rfl (.int .i64 0) (ex_move _ rfl _ (F.e rfl)) ?_; clear F a; intro a F
 refine list_val F (wn rfl) rfl rfl (.int .i64 0) (ex_move _ rfl _ (F.e rfl)) ?_; clear F a; intro a F
 refine list_val F (wn rfl) rfl rfl (.bool false) (ex_bin .lss _ _ _ _ rfl .i64 _ _ (F.e rfl) (F.e rfl) _ (b_lss (by decide))) ?_; clear F a; intro a F
 refine wpList_nil ?_
 replace F : Fr 81 a [(0, .pointer (some ⟨gb, 0, none⟩)), (2, .int .i64 0), (3, .int .i64 0), (18, .bool false)] := F.keep ⟨rfl, rfl, rfl, rfl, trivial⟩
 refine then_n ?_
 refine wp_cond_false (F.e rfl) ?_
 refine wp_exit ?_
 refine then_x ?_
 refine then_x ?_
 refine in_hit ?_
 refine then_n ?_
 refine wp_region_lit ?_
 refine list_val F (wn rfl) rfl rfl (.pointer (some ⟨gb, 0, none⟩)) (ex_move _ rfl _ (F.e rfl)) ?_; clear F a; intro a F
 refine list_val F (wn rfl) rfl rfl (.pointer (some ⟨gb, 0, none⟩)) (ex_move _ rfl _ (F.e rfl)) ?_; clear F a; intro a F
 refine list_val F (wn rfl) rfl rfl (.pointer (some ⟨gb, 0, none⟩)) (ex_nilck _ rfl _ (F.e rfl)) ?_; clear F a; intro a F
 refine list_val F (wn rfl) rfl rfl (.pointer (some ⟨gb, 0, none⟩)) (ex_fa _ _ _ rfl _ (F.e rfl) 0 rg_fa_50_0_0 ⟨gb, 0, none⟩ rfl) ?_; clear F a; intro a F
 refine list_val F (wn rfl) rfl rfl (.slice none 0 0) (ex_load _ _ rfl _ (F.e rfl) _ (lv1 rg_one_24 (M.cell (i := 0) rfl (j := 0) rfl))) ?_; clear F a; intro a F
 refine list_val F (wn rfl) rfl rfl (.int .i64 0) (ex_len _ _ rfl 1 rg_sl_24_1 _ _ _ (F.e rfl)) ?_; clear F a; intro a F
 refine list_val F (wn rfl) rfl rfl (.pointer (some ⟨gb, 0, none⟩)) (ex_nilck _ rfl _ (F.e rfl)) ?_; clear F a; intro a F
 refine list_val F (wn rfl) rfl rfl (.pointer (some ⟨gb, 2, none⟩)) (ex_fa _ _ _ rfl _ (F.e rfl) 2 rg_fa_50_2_2 ⟨gb, 2, none⟩ rfl) ?_; clear F a; intro a F
 refine list_do (wn rfl) (fun K hK => ?_)
 refine ow_store F M rfl 3 _ _ rfl 0 gb ((bkC (kv) (ko) kA tn dn us).toArray) _ rfl 2 (F.e rfl) _ (F.e rfl) [.int .i64 0] rfl rg_info_3_map_size_some_1 (by show 3 ≤ 75; decide) (by simp [Value.oneCell']) ((bkC (kv) (ko) kA tn dn us).toArray) rfl ?_
 clear F a; have Mo := M; clear M; intro a v F M hgr
 refine hK _ _ ?_
 clear hK K
 replace G_ := gg_grown G_ hgr
 clear Mo hgr; try clear w
 replace M : Mm (cutW w gb) v [⟨gb, (bkC (kv) (ko) kA tn dn us).toArray, 50⟩] := M
 refine wpList_nil ?_
 replace F : Fr 81 a [(0, .pointer (some ⟨gb, 0, none⟩)), (2, .int .i64 0), (3, .int .i64 0), (18, .bool false)] := F.keep ⟨rfl, rfl, rfl, rfl, trivial⟩
 exact ret_none F rfl ⟨rfl, gg_same G_ hbk (M.blk 0 _ rfl)⟩
theorem rg_fa_50_3_3 : fa? Tryz.prog 50 3 3 = true := by kernel_rfl
theorem rg_one_26 : one? Tryz.prog 26 = true := by kernel_rfl
theorem rg_sl_26_1 : sl? Tryz.prog 26 1 = true := by kernel_rfl
theorem rg_fa_50_5_5 : fa? Tryz.prog 50 5 5 = true := by kernel_rfl
set_option maxHeartbeats 1000000 in
set_option maxRecDepth 100000 in
theorem growRows_any (gb : Nat) (kv ko : Value) (kA tn dn us : Nat) (w : World) (hbk : w.heap[gb]? = some (.cells (bkC (kv) (ko) kA tn dn us).toArray 50 (0, 0))) :
    Calls Tryz.prog 52 #[.pointer (some ⟨gb, 0, none⟩)] w fun e w' => e = .returned (.tuple #[]) ∧ Below w.heap.size w w' := by
 have G_ := gg_refl w gb
 refine calls_start Tryz.func52 rfl rfl rfl (fun a F => ?_)
 have M : Mm (cutW w gb) w [⟨gb, (bkC (kv) (ko) kA tn dn us).toArray, 50⟩] := cut_one (Nat.le_refl _) hbk
 refine wp_seq ?_
 refine wp_region_lit ?_
 refine list_val F (wn rfl) rfl rfl (.pointer (some ⟨gb, 0, none⟩)) (ex_move _ rfl _ (F.e rfl)) ?_; clear F a; intro a F
 refine list_val F (wn rfl) rfl rfl (.pointer (some ⟨gb, 0, none⟩)) (ex_nilck _ rfl _ (F.e rfl)) ?_; clear F a; intro a F
 refine list_val F (wn rfl) rfl rfl (.pointer (some ⟨gb, 3, none⟩)) (ex_fa _ _ _ rfl _ (F.e rfl) 3 rg_fa_50_3_3 ⟨gb, 3, none⟩ rfl) ?_; clear F a; intro a F
 refine list_val F (wn rfl) rfl rfl (.slice none 0 0) (ex_load _ _ rfl _ (F.e rfl) _ (lv1 rg_one_26 (M.cell (i := 0) rfl (j := 3) rfl))) ?_; clear F a; intro a F
 refine list_val F (wn rfl) rfl rfl (.int .i64 0) (ex_len _ _ rfl 1 rg_sl_26_1 _ _ _ (F.e rfl)) ?_; clear F a; intro a F
 refine list_val F (wn rfl) rfl rfl (.int .i64 0) (ex_assign _ rfl _ (F.e rfl)) ?_; clear F a; intro a F
 refine wpList_nil ?_
 replace F : Fr 82 a [(0, .pointer (some ⟨gb, 0, none⟩)), (2, .int .i64 0)] := F.keep ⟨rfl, rfl, trivial⟩
 refine then_n ?_
 refine wp_seq ?_
 refine wp_seq ?_
 refine wp_region_lit ?_
 refine list_val F (wn rfl) rfl rfl (.pointer (some ⟨gb, 0, none⟩)) (ex_move _ rfl _ (F.e rfl)) ?_; clear F a; intro a F
 refine list_val F (wn rfl) rfl rfl (.pointer (some ⟨gb, 0, none⟩)) (ex_nilck _ rfl _ (F.e rfl)) ?_; clear F a; intro a F
 refine list_val F (wn rfl) rfl rfl (.pointer (some ⟨gb, 5, none⟩)) (ex_fa _ _ _ rfl _ (F.e rfl) 5 rg_fa_50_5_5 ⟨gb, 5, none⟩ rfl) ?_; clear F a; intro a F
 refine list_val F (wn rfl) rfl rfl (.int .i64 0) (ex_load _ _ rfl _ (F.e rfl) _ (lv1 rg_one_3 (M.cell (i := 0) rfl (j := 5) rfl))) ?_; clear F a; intro a F
 refine list_val F (wn rfl) rfl rfl (.int .i64 0) (ex_assign _ rfl _ (F.e rfl)) ?_; clear F a; intro a F
 refine wpList_nil ?_
 replace F : Fr 82 a [(0, .pointer (some ⟨gb, 0, none⟩)), (2, .int .i64 0), (3, .int .i64 0)] := F.keep ⟨rfl, rfl, rfl, trivial⟩
 refine then_n ?_
 refine wp_block ?_
 refine wp_loop_rounds 1 ?_
 refine rounds_do 0 ?_
 refine wp_seq ?_
 refine wp_seq ?_
 refine wp_region_lit ?_
 refine list_val F (wn rfl) rfl rfl (.int .i64 0) (ex_move _ rfl _ (F.e rfl)) ?_; clear F a; intro a F
 refine list_val F (wn rfl) rfl rfl (.int .i64 0) (ex_move _ rfl _ (F.e rfl)) ?_; clear F a; intro a F
 refine list_val F (wn rfl) rfl rfl (.bool false) (ex_bin .lss _ _ _ _ rfl .i64 _ _ (F.e rfl) (F.e rfl) _ (b_lss (by decide))) ?_; clear F a; intro a F
 refine wpList_nil ?_
 replace F : Fr 82 a [(0, .pointer (some ⟨gb, 0, none⟩)), (2, .int .i64 0), (3, .int .i64 0), (18, .bool false)] := F.keep ⟨rfl, rfl, rfl, rfl, trivial⟩
 refine then_n ?_
 refine wp_cond_false (F.e rfl) ?_
 refine wp_exit ?_
 refine then_x ?_
 refine then_x ?_
 refine in_hit ?_
 refine then_n ?_
 refine wp_region_lit ?_
 refine list_val F (wn rfl) rfl rfl (.pointer (some ⟨gb, 0, none⟩)) (ex_move _ rfl _ (F.e rfl)) ?_; clear F a; intro a F
 refine list_val F (wn rfl) rfl rfl (.pointer (some ⟨gb, 0, none⟩)) (ex_move _ rfl _ (F.e rfl)) ?_; clear F a; intro a F
 refine list_val F (wn rfl) rfl rfl (.pointer (some ⟨gb, 0, none⟩)) (ex_nilck _ rfl _ (F.e rfl)) ?_; clear F a; intro a F
 refine list_val F (wn rfl) rfl rfl (.pointer (some ⟨gb, 3, none⟩)) (ex_fa _ _ _ rfl _ (F.e rfl) 3 rg_fa_50_3_3 ⟨gb, 3, none⟩ rfl) ?_; clear F a; intro a F
 refine list_val F (wn rfl) rfl rfl (.slice none 0 0) (ex_load _ _ rfl _ (F.e rfl) _ (lv1 rg_one_26 (M.cell (i := 0) rfl (j := 3) rfl))) ?_; clear F a; intro a F
 refine list_val F (wn rfl) rfl rfl (.int .i64 0) (ex_len _ _ rfl 1 rg_sl_26_1 _ _ _ (F.e rfl)) ?_; clear F a; intro a F
 refine list_val F (wn rfl) rfl rfl (.pointer (some ⟨gb, 0, none⟩)) (ex_nilck _ rfl _ (F.e rfl)) ?_; clear F a; intro a F
 refine list_val F (wn rfl) rfl rfl (.pointer (some ⟨gb, 5, none⟩)) (ex_fa _ _ _ rfl _ (F.e rfl) 5 rg_fa_50_5_5 ⟨gb, 5, none⟩ rfl) ?_; clear F a; intro a F
 refine list_do (wn rfl) (fun K hK => ?_)
 refine ow_store F M rfl 3 _ _ rfl 0 gb ((bkC (kv) (ko) kA tn dn us).toArray) _ rfl 5 (F.e rfl) _ (F.e rfl) [.int .i64 0] rfl rg_info_3_map_size_some_1 (by show 6 ≤ 75; decide) (by simp [Value.oneCell']) ((bkC (kv) (ko) kA tn dn us).toArray) rfl ?_
 clear F a; have Mo := M; clear M; intro a v F M hgr
 refine hK _ _ ?_
 clear hK K
 replace G_ := gg_grown G_ hgr
 clear Mo hgr; try clear w
 replace M : Mm (cutW w gb) v [⟨gb, (bkC (kv) (ko) kA tn dn us).toArray, 50⟩] := M
 refine wpList_nil ?_
 replace F : Fr 82 a [(0, .pointer (some ⟨gb, 0, none⟩)), (2, .int .i64 0), (3, .int .i64 0), (18, .bool false)] := F.keep ⟨rfl, rfl, rfl, rfl, trivial⟩
 exact ret_none F rfl ⟨rfl, gg_same G_ hbk (M.blk 0 _ rfl)⟩
theorem rg_fa_50_6_6 : fa? Tryz.prog 50 6 6 = true := by kernel_rfl
theorem rg_one_27 : one? Tryz.prog 27 = true := by kernel_rfl
theorem rg_sl_27_1 : sl? Tryz.prog 27 1 = true := by kernel_rfl
theorem rg_fa_50_8_8 : fa? Tryz.prog 50 8 8 = true := by kernel_rfl
set_option maxHeartbeats 1000000 in
set_option maxRecDepth 100000 in
theorem growTexts_any (gb : Nat) (kv ko : Value) (kA tn dn us : Nat) (w : World) (hbk : w.heap[gb]? = some (.cells (bkC (kv) (ko) kA tn dn us).toArray 50 (0, 0))) :
    Calls Tryz.prog 53 #[.pointer (some ⟨gb, 0, none⟩)] w fun e w' => e = .returned (.tuple #[]) ∧ Below w.heap.size w w' := by
 have G_ := gg_refl w gb
 refine calls_start Tryz.func53 rfl rfl rfl (fun a F => ?_)
 have M : Mm (cutW w gb) w [⟨gb, (bkC (kv) (ko) kA tn dn us).toArray, 50⟩] := cut_one (Nat.le_refl _) hbk
 refine wp_seq ?_
 refine wp_region_lit ?_
 refine list_val F (wn rfl) rfl rfl (.pointer (some ⟨gb, 0, none⟩)) (ex_move _ rfl _ (F.e rfl)) ?_; clear F a; intro a F
 refine list_val F (wn rfl) rfl rfl (.pointer (some ⟨gb, 0, none⟩)) (ex_nilck _ rfl _ (F.e rfl)) ?_; clear F a; intro a F
 refine list_val F (wn rfl) rfl rfl (.pointer (some ⟨gb, 6, none⟩)) (ex_fa _ _ _ rfl _ (F.e rfl) 6 rg_fa_50_6_6 ⟨gb, 6, none⟩ rfl) ?_; clear F a; intro a F
 refine list_val F (wn rfl) rfl rfl (.slice none 0 0) (ex_load _ _ rfl _ (F.e rfl) _ (lv1 rg_one_27 (M.cell (i := 0) rfl (j := 6) rfl))) ?_; clear F a; intro a F
 refine list_val F (wn rfl) rfl rfl (.int .i64 0) (ex_len _ _ rfl 1 rg_sl_27_1 _ _ _ (F.e rfl)) ?_; clear F a; intro a F
 refine list_val F (wn rfl) rfl rfl (.int .i64 0) (ex_assign _ rfl _ (F.e rfl)) ?_; clear F a; intro a F
 refine wpList_nil ?_
 replace F : Fr 79 a [(0, .pointer (some ⟨gb, 0, none⟩)), (2, .int .i64 0)] := F.keep ⟨rfl, rfl, trivial⟩
 refine then_n ?_
 refine wp_seq ?_
 refine wp_seq ?_
 refine wp_region_lit ?_
 refine list_val F (wn rfl) rfl rfl (.pointer (some ⟨gb, 0, none⟩)) (ex_move _ rfl _ (F.e rfl)) ?_; clear F a; intro a F
 refine list_val F (wn rfl) rfl rfl (.pointer (some ⟨gb, 0, none⟩)) (ex_nilck _ rfl _ (F.e rfl)) ?_; clear F a; intro a F
 refine list_val F (wn rfl) rfl rfl (.pointer (some ⟨gb, 8, none⟩)) (ex_fa _ _ _ rfl _ (F.e rfl) 8 rg_fa_50_8_8 ⟨gb, 8, none⟩ rfl) ?_; clear F a; intro a F
 refine list_val F (wn rfl) rfl rfl (.int .i64 0) (ex_load _ _ rfl _ (F.e rfl) _ (lv1 rg_one_3 (M.cell (i := 0) rfl (j := 8) rfl))) ?_; clear F a; intro a F
 refine list_val F (wn rfl) rfl rfl (.int .i64 0) (ex_assign _ rfl _ (F.e rfl)) ?_; clear F a; intro a F
 refine wpList_nil ?_
 replace F : Fr 79 a [(0, .pointer (some ⟨gb, 0, none⟩)), (2, .int .i64 0), (3, .int .i64 0)] := F.keep ⟨rfl, rfl, rfl, trivial⟩
 refine then_n ?_
 refine wp_block ?_
 refine wp_loop_rounds 1 ?_
 refine rounds_do 0 ?_
 refine wp_seq ?_
 refine wp_seq ?_
 refine wp_region_lit ?_
 refine list_val F (wn rfl) rfl rfl (.int .i64 0) (ex_move _ rfl _ (F.e rfl)) ?_; clear F a; intro a F
 refine list_val F (wn rfl) rfl rfl (.int .i64 0) (ex_move _ rfl _ (F.e rfl)) ?_; clear F a; intro a F
 refine list_val F (wn rfl) rfl rfl (.bool false) (ex_bin .lss _ _ _ _ rfl .i64 _ _ (F.e rfl) (F.e rfl) _ (b_lss (by decide))) ?_; clear F a; intro a F
 refine wpList_nil ?_
 replace F : Fr 79 a [(0, .pointer (some ⟨gb, 0, none⟩)), (2, .int .i64 0), (3, .int .i64 0), (18, .bool false)] := F.keep ⟨rfl, rfl, rfl, rfl, trivial⟩
 refine then_n ?_
 refine wp_cond_false (F.e rfl) ?_
 refine wp_exit ?_
 refine then_x ?_
 refine then_x ?_
 refine in_hit ?_
 refine then_n ?_
 refine wp_region_lit ?_
 refine list_val F (wn rfl) rfl rfl (.pointer (some ⟨gb, 0, none⟩)) (ex_move _ rfl _ (F.e rfl)) ?_; clear F a; intro a F
 refine list_val F (wn rfl) rfl rfl (.pointer (some ⟨gb, 0, none⟩)) (ex_move _ rfl _ (F.e rfl)) ?_; clear F a; intro a F
 refine list_val F (wn rfl) rfl rfl (.pointer (some ⟨gb, 0, none⟩)) (ex_nilck _ rfl _ (F.e rfl)) ?_; clear F a; intro a F
 refine list_val F (wn rfl) rfl rfl (.pointer (some ⟨gb, 6, none⟩)) (ex_fa _ _ _ rfl _ (F.e rfl) 6 rg_fa_50_6_6 ⟨gb, 6, none⟩ rfl) ?_; clear F a; intro a F
 refine list_val F (wn rfl) rfl rfl (.slice none 0 0) (ex_load _ _ rfl _ (F.e rfl) _ (lv1 rg_one_27 (M.cell (i := 0) rfl (j := 6) rfl))) ?_; clear F a; intro a F
 refine list_val F (wn rfl) rfl rfl (.int .i64 0) (ex_len _ _ rfl 1 rg_sl_27_1 _ _ _ (F.e rfl)) ?_; clear F a; intro a F
 refine list_val F (wn rfl) rfl rfl (.pointer (some ⟨gb, 0, none⟩)) (ex_nilck _ rfl _ (F.e rfl)) ?_; clear F a; intro a F
 refine list_val F (wn rfl) rfl rfl (.pointer (some ⟨gb, 8, none⟩)) (ex_fa _ _ _ rfl _ (F.e rfl) 8 rg_fa_50_8_8 ⟨gb, 8, none⟩ rfl) ?_; clear F a; intro a F
 refine list_do (wn rfl) (fun K hK => ?_)
 refine ow_store F M rfl 3 _ _ rfl 0 gb ((bkC (kv) (ko) kA tn dn us).toArray) _ rfl 8 (F.e rfl) _ (F.e rfl) [.int .i64 0] rfl rg_info_3_map_size_some_1 (by show 9 ≤ 75; decide) (by simp [Value.oneCell']) ((bkC (kv) (ko) kA tn dn us).toArray) rfl ?_
 clear F a; have Mo := M; clear M; intro a v F M hgr
 refine hK _ _ ?_
 clear hK K
 replace G_ := gg_grown G_ hgr
 clear Mo hgr; try clear w
 replace M : Mm (cutW w gb) v [⟨gb, (bkC (kv) (ko) kA tn dn us).toArray, 50⟩] := M
 refine wpList_nil ?_
 replace F : Fr 79 a [(0, .pointer (some ⟨gb, 0, none⟩)), (2, .int .i64 0), (3, .int .i64 0), (18, .bool false)] := F.keep ⟨rfl, rfl, rfl, rfl, trivial⟩
 exact ret_none F rfl ⟨rfl, gg_same G_ hbk (M.blk 0 _ rfl)⟩
theorem rg_fa_50_9_9 : fa? Tryz.prog 50 9 9 = true := by kernel_rfl
theorem rg_one_28 : one? Tryz.prog 28 = true := by kernel_rfl
theorem rg_sl_28_1 : sl? Tryz.prog 28 1 = true := by kernel_rfl
theorem rg_fa_50_11_11 : fa? Tryz.prog 50 11 11 = true := by kernel_rfl
set_option maxHeartbeats 1000000 in
set_option maxRecDepth 100000 in
theorem growInts_any (gb : Nat) (kv ko : Value) (kA tn dn us : Nat) (w : World) (hbk : w.heap[gb]? = some (.cells (bkC (kv) (ko) kA tn dn us).toArray 50 (0, 0))) :
    Calls Tryz.prog 54 #[.pointer (some ⟨gb, 0, none⟩)] w fun e w' => e = .returned (.tuple #[]) ∧ Below w.heap.size w w' := by
 have G_ := gg_refl w gb
 refine calls_start Tryz.func54 rfl rfl rfl (fun a F => ?_)
 have M : Mm (cutW w gb) w [⟨gb, (bkC (kv) (ko) kA tn dn us).toArray, 50⟩] := cut_one (Nat.le_refl _) hbk
 refine wp_seq ?_
 refine wp_region_lit ?_
 refine list_val F (wn rfl) rfl rfl (.pointer (some ⟨gb, 0, none⟩)) (ex_move _ rfl _ (F.e rfl)) ?_; clear F a; intro a F
 refine list_val F (wn rfl) rfl rfl (.pointer (some ⟨gb, 0, none⟩)) (ex_nilck _ rfl _ (F.e rfl)) ?_; clear F a; intro a F
 refine list_val F (wn rfl) rfl rfl (.pointer (some ⟨gb, 9, none⟩)) (ex_fa _ _ _ rfl _ (F.e rfl) 9 rg_fa_50_9_9 ⟨gb, 9, none⟩ rfl) ?_; clear F a; intro a F
 refine list_val F (wn rfl) rfl rfl (.slice none 0 0) (ex_load _ _ rfl _ (F.e rfl) _ (lv1 rg_one_28 (M.cell (i := 0) rfl (j := 9) rfl))) ?_; clear F a; intro a F
 refine list_val F (wn rfl) rfl rfl (.int .i64 0) (ex_len _ _ rfl 1 rg_sl_28_1 _ _ _ (F.e rfl)) ?_; clear F a; intro a F
 refine list_val F (wn rfl) rfl rfl (.int .i64 0) (ex_assign _ rfl _ (F.e rfl)) ?_; clear F a; intro a F
 refine wpList_nil ?_
 replace F : Fr 79 a [(0, .pointer (some ⟨gb, 0, none⟩)), (2, .int .i64 0)] := F.keep ⟨rfl, rfl, trivial⟩
 refine then_n ?_
 refine wp_seq ?_
 refine wp_seq ?_
 refine wp_region_lit ?_
 refine list_val F (wn rfl) rfl rfl (.pointer (some ⟨gb, 0, none⟩)) (ex_move _ rfl _ (F.e rfl)) ?_; clear F a; intro a F
 refine list_val F (wn rfl) rfl rfl (.pointer (some ⟨gb, 0, none⟩)) (ex_nilck _ rfl _ (F.e rfl)) ?_; clear F a; intro a F
 refine list_val F (wn rfl) rfl rfl (.pointer (some ⟨gb, 11, none⟩)) (ex_fa _ _ _ rfl _ (F.e rfl) 11 rg_fa_50_11_11 ⟨gb, 11, none⟩ rfl) ?_; clear F a; intro a F
 refine list_val F (wn rfl) rfl rfl (.int .i64 0) (ex_load _ _ rfl _ (F.e rfl) _ (lv1 rg_one_3 (M.cell (i := 0) rfl (j := 11) rfl))) ?_; clear F a; intro a F
 refine list_val F (wn rfl) rfl rfl (.int .i64 0) (ex_assign _ rfl _ (F.e rfl)) ?_; clear F a; intro a F
 refine wpList_nil ?_
 replace F : Fr 79 a [(0, .pointer (some ⟨gb, 0, none⟩)), (2, .int .i64 0), (3, .int .i64 0)] := F.keep ⟨rfl, rfl, rfl, trivial⟩
 refine then_n ?_
 refine wp_block ?_
 refine wp_loop_rounds 1 ?_
 refine rounds_do 0 ?_
 refine wp_seq ?_
 refine wp_seq ?_
 refine wp_region_lit ?_
 refine list_val F (wn rfl) rfl rfl (.int .i64 0) (ex_move _ rfl _ (F.e rfl)) ?_; clear F a; intro a F
 refine list_val F (wn rfl) rfl rfl (.int .i64 0) (ex_move _ rfl _ (F.e rfl)) ?_; clear F a; intro a F
 refine list_val F (wn rfl) rfl rfl (.bool false) (ex_bin .lss _ _ _ _ rfl .i64 _ _ (F.e rfl) (F.e rfl) _ (b_lss (by decide))) ?_; clear F a; intro a F
 refine wpList_nil ?_
 replace F : Fr 79 a [(0, .pointer (some ⟨gb, 0, none⟩)), (2, .int .i64 0), (3, .int .i64 0), (18, .bool false)] := F.keep ⟨rfl, rfl, rfl, rfl, trivial⟩
 refine then_n ?_
 refine wp_cond_false (F.e rfl) ?_
 refine wp_exit ?_
 refine then_x ?_
 refine then_x ?_
 refine in_hit ?_
 refine then_n ?_
 refine wp_region_lit ?_
 refine list_val F (wn rfl) rfl rfl (.pointer (some ⟨gb, 0, none⟩)) (ex_move _ rfl _ (F.e rfl)) ?_; clear F a; intro a F
 refine list_val F (wn rfl) rfl rfl (.pointer (some ⟨gb, 0, none⟩)) (ex_move _ rfl _ (F.e rfl)) ?_; clear F a; intro a F
 refine list_val F (wn rfl) rfl rfl (.pointer (some ⟨gb, 0, none⟩)) (ex_nilck _ rfl _ (F.e rfl)) ?_; clear F a; intro a F
 refine list_val F (wn rfl) rfl rfl (.pointer (some ⟨gb, 9, none⟩)) (ex_fa _ _ _ rfl _ (F.e rfl) 9 rg_fa_50_9_9 ⟨gb, 9, none⟩ rfl) ?_; clear F a; intro a F
 refine list_val F (wn rfl) rfl rfl (.slice none 0 0) (ex_load _ _ rfl _ (F.e rfl) _ (lv1 rg_one_28 (M.cell (i := 0) rfl (j := 9) rfl))) ?_; clear F a; intro a F
 refine list_val F (wn rfl) rfl rfl (.int .i64 0) (ex_len _ _ rfl 1 rg_sl_28_1 _ _ _ (F.e rfl)) ?_; clear F a; intro a F
 refine list_val F (wn rfl) rfl rfl (.pointer (some ⟨gb, 0, none⟩)) (ex_nilck _ rfl _ (F.e rfl)) ?_; clear F a; intro a F
 refine list_val F (wn rfl) rfl rfl (.pointer (some ⟨gb, 11, none⟩)) (ex_fa _ _ _ rfl _ (F.e rfl) 11 rg_fa_50_11_11 ⟨gb, 11, none⟩ rfl) ?_; clear F a; intro a F
 refine list_do (wn rfl) (fun K hK => ?_)
 refine ow_store F M rfl 3 _ _ rfl 0 gb ((bkC (kv) (ko) kA tn dn us).toArray) _ rfl 11 (F.e rfl) _ (F.e rfl) [.int .i64 0] rfl rg_info_3_map_size_some_1 (by show 12 ≤ 75; decide) (by simp [Value.oneCell']) ((bkC (kv) (ko) kA tn dn us).toArray) rfl ?_
 clear F a; have Mo := M; clear M; intro a v F M hgr
 refine hK _ _ ?_
 clear hK K
 replace G_ := gg_grown G_ hgr
 clear Mo hgr; try clear w
 replace M : Mm (cutW w gb) v [⟨gb, (bkC (kv) (ko) kA tn dn us).toArray, 50⟩] := M
 refine wpList_nil ?_
 replace F : Fr 79 a [(0, .pointer (some ⟨gb, 0, none⟩)), (2, .int .i64 0), (3, .int .i64 0), (18, .bool false)] := F.keep ⟨rfl, rfl, rfl, rfl, trivial⟩
 exact ret_none F rfl ⟨rfl, gg_same G_ hbk (M.blk 0 _ rfl)⟩
theorem rg_fa_50_12_12 : fa? Tryz.prog 50 12 12 = true := by kernel_rfl
theorem rg_one_29 : one? Tryz.prog 29 = true := by kernel_rfl
theorem rg_sl_29_1 : sl? Tryz.prog 29 1 = true := by kernel_rfl
theorem rg_fa_50_14_14 : fa? Tryz.prog 50 14 14 = true := by kernel_rfl
set_option maxHeartbeats 1000000 in
set_option maxRecDepth 100000 in
theorem growWords_any (gb : Nat) (kv ko : Value) (kA tn dn us : Nat) (w : World) (hbk : w.heap[gb]? = some (.cells (bkC (kv) (ko) kA tn dn us).toArray 50 (0, 0))) :
    Calls Tryz.prog 55 #[.pointer (some ⟨gb, 0, none⟩)] w fun e w' => e = .returned (.tuple #[]) ∧ Below w.heap.size w w' := by
 have G_ := gg_refl w gb
 refine calls_start Tryz.func55 rfl rfl rfl (fun a F => ?_)
 have M : Mm (cutW w gb) w [⟨gb, (bkC (kv) (ko) kA tn dn us).toArray, 50⟩] := cut_one (Nat.le_refl _) hbk
 refine wp_seq ?_
 refine wp_region_lit ?_
 refine list_val F (wn rfl) rfl rfl (.pointer (some ⟨gb, 0, none⟩)) (ex_move _ rfl _ (F.e rfl)) ?_; clear F a; intro a F
 refine list_val F (wn rfl) rfl rfl (.pointer (some ⟨gb, 0, none⟩)) (ex_nilck _ rfl _ (F.e rfl)) ?_; clear F a; intro a F
 refine list_val F (wn rfl) rfl rfl (.pointer (some ⟨gb, 12, none⟩)) (ex_fa _ _ _ rfl _ (F.e rfl) 12 rg_fa_50_12_12 ⟨gb, 12, none⟩ rfl) ?_; clear F a; intro a F
 refine list_val F (wn rfl) rfl rfl (.slice none 0 0) (ex_load _ _ rfl _ (F.e rfl) _ (lv1 rg_one_29 (M.cell (i := 0) rfl (j := 12) rfl))) ?_; clear F a; intro a F
 refine list_val F (wn rfl) rfl rfl (.int .i64 0) (ex_len _ _ rfl 1 rg_sl_29_1 _ _ _ (F.e rfl)) ?_; clear F a; intro a F
 refine list_val F (wn rfl) rfl rfl (.int .i64 0) (ex_assign _ rfl _ (F.e rfl)) ?_; clear F a; intro a F
 refine wpList_nil ?_
 replace F : Fr 79 a [(0, .pointer (some ⟨gb, 0, none⟩)), (2, .int .i64 0)] := F.keep ⟨rfl, rfl, trivial⟩
 refine then_n ?_
 refine wp_seq ?_
 refine wp_seq ?_
 refine wp_region_lit ?_
 refine list_val F (wn rfl) rfl rfl (.pointer (some ⟨gb, 0, none⟩)) (ex_move _ rfl _ (F.e rfl)) ?_; clear F a; intro a F
 refine list_val F (wn rfl) rfl rfl (.pointer (some ⟨gb, 0, none⟩)) (ex_nilck _ rfl _ (F.e rfl)) ?_; clear F a; intro a F
 refine list_val F (wn rfl) rfl rfl (.pointer (some ⟨gb, 14, none⟩)) (ex_fa _ _ _ rfl _ (F.e rfl) 14 rg_fa_50_14_14 ⟨gb, 14, none⟩ rfl) ?_; clear F a; intro a F
 refine list_val F (wn rfl) rfl rfl (.int .i64 0) (ex_load _ _ rfl _ (F.e rfl) _ (lv1 rg_one_3 (M.cell (i := 0) rfl (j := 14) rfl))) ?_; clear F a; intro a F
 refine list_val F (wn rfl) rfl rfl (.int .i64 0) (ex_assign _ rfl _ (F.e rfl)) ?_; clear F a; intro a F
 refine wpList_nil ?_
 replace F : Fr 79 a [(0, .pointer (some ⟨gb, 0, none⟩)), (2, .int .i64 0), (3, .int .i64 0)] := F.keep ⟨rfl, rfl, rfl, trivial⟩
 refine then_n ?_
 refine wp_block ?_
 refine wp_loop_rounds 1 ?_
 refine rounds_do 0 ?_
 refine wp_seq ?_
 refine wp_seq ?_
 refine wp_region_lit ?_
 refine list_val F (wn rfl) rfl rfl (.int .i64 0) (ex_move _ rfl _ (F.e rfl)) ?_; clear F a; intro a F
 refine list_val F (wn rfl) rfl rfl (.int .i64 0) (ex_move _ rfl _ (F.e rfl)) ?_; clear F a; intro a F
 refine list_val F (wn rfl) rfl rfl (.bool false) (ex_bin .lss _ _ _ _ rfl .i64 _ _ (F.e rfl) (F.e rfl) _ (b_lss (by decide))) ?_; clear F a; intro a F
 refine wpList_nil ?_
 replace F : Fr 79 a [(0, .pointer (some ⟨gb, 0, none⟩)), (2, .int .i64 0), (3, .int .i64 0), (18, .bool false)] := F.keep ⟨rfl, rfl, rfl, rfl, trivial⟩
 refine then_n ?_
 refine wp_cond_false (F.e rfl) ?_
 refine wp_exit ?_
 refine then_x ?_
 refine then_x ?_
 refine in_hit ?_
 refine then_n ?_
 refine wp_region_lit ?_
 refine list_val F (wn rfl) rfl rfl (.pointer (some ⟨gb, 0, none⟩)) (ex_move _ rfl _ (F.e rfl)) ?_; clear F a; intro a F
 refine list_val F (wn rfl) rfl rfl (.pointer (some ⟨gb, 0, none⟩)) (ex_move _ rfl _ (F.e rfl)) ?_; clear F a; intro a F
 refine list_val F (wn rfl) rfl rfl (.pointer (some ⟨gb, 0, none⟩)) (ex_nilck _ rfl _ (F.e rfl)) ?_; clear F a; intro a F
 refine list_val F (wn rfl) rfl rfl (.pointer (some ⟨gb, 12, none⟩)) (ex_fa _ _ _ rfl _ (F.e rfl) 12 rg_fa_50_12_12 ⟨gb, 12, none⟩ rfl) ?_; clear F a; intro a F
 refine list_val F (wn rfl) rfl rfl (.slice none 0 0) (ex_load _ _ rfl _ (F.e rfl) _ (lv1 rg_one_29 (M.cell (i := 0) rfl (j := 12) rfl))) ?_; clear F a; intro a F
 refine list_val F (wn rfl) rfl rfl (.int .i64 0) (ex_len _ _ rfl 1 rg_sl_29_1 _ _ _ (F.e rfl)) ?_; clear F a; intro a F
 refine list_val F (wn rfl) rfl rfl (.pointer (some ⟨gb, 0, none⟩)) (ex_nilck _ rfl _ (F.e rfl)) ?_; clear F a; intro a F
 refine list_val F (wn rfl) rfl rfl (.pointer (some ⟨gb, 14, none⟩)) (ex_fa _ _ _ rfl _ (F.e rfl) 14 rg_fa_50_14_14 ⟨gb, 14, none⟩ rfl) ?_; clear F a; intro a F
 refine list_do (wn rfl) (fun K hK => ?_)
 refine ow_store F M rfl 3 _ _ rfl 0 gb ((bkC (kv) (ko) kA tn dn us).toArray) _ rfl 14 (F.e rfl) _ (F.e rfl) [.int .i64 0] rfl rg_info_3_map_size_some_1 (by show 15 ≤ 75; decide) (by simp [Value.oneCell']) ((bkC (kv) (ko) kA tn dn us).toArray) rfl ?_
 clear F a; have Mo := M; clear M; intro a v F M hgr
 refine hK _ _ ?_
 clear hK K
 replace G_ := gg_grown G_ hgr
 clear Mo hgr; try clear w
 replace M : Mm (cutW w gb) v [⟨gb, (bkC (kv) (ko) kA tn dn us).toArray, 50⟩] := M
 refine wpList_nil ?_
 replace F : Fr 79 a [(0, .pointer (some ⟨gb, 0, none⟩)), (2, .int .i64 0), (3, .int .i64 0), (18, .bool false)] := F.keep ⟨rfl, rfl, rfl, rfl, trivial⟩
 exact ret_none F rfl ⟨rfl, gg_same G_ hbk (M.blk 0 _ rfl)⟩
theorem rg_fa_50_15_15 : fa? Tryz.prog 50 15 15 = true := by kernel_rfl
theorem rg_one_30 : one? Tryz.prog 30 = true := by kernel_rfl
theorem rg_sl_30_1 : sl? Tryz.prog 30 1 = true := by kernel_rfl
theorem rg_fa_50_17_17 : fa? Tryz.prog 50 17 17 = true := by kernel_rfl
set_option maxHeartbeats 1000000 in
set_option maxRecDepth 100000 in
theorem growIds_any (gb : Nat) (kv ko : Value) (kA tn dn us : Nat) (w : World) (hbk : w.heap[gb]? = some (.cells (bkC (kv) (ko) kA tn dn us).toArray 50 (0, 0))) :
    Calls Tryz.prog 56 #[.pointer (some ⟨gb, 0, none⟩)] w fun e w' => e = .returned (.tuple #[]) ∧ Below w.heap.size w w' := by
 have G_ := gg_refl w gb
 refine calls_start Tryz.func56 rfl rfl rfl (fun a F => ?_)
 have M : Mm (cutW w gb) w [⟨gb, (bkC (kv) (ko) kA tn dn us).toArray, 50⟩] := cut_one (Nat.le_refl _) hbk
 refine wp_seq ?_
 refine wp_region_lit ?_
 refine list_val F (wn rfl) rfl rfl (.pointer (some ⟨gb, 0, none⟩)) (ex_move _ rfl _ (F.e rfl)) ?_; clear F a; intro a F
 refine list_val F (wn rfl) rfl rfl (.pointer (some ⟨gb, 0, none⟩)) (ex_nilck _ rfl _ (F.e rfl)) ?_; clear F a; intro a F
 refine list_val F (wn rfl) rfl rfl (.pointer (some ⟨gb, 15, none⟩)) (ex_fa _ _ _ rfl _ (F.e rfl) 15 rg_fa_50_15_15 ⟨gb, 15, none⟩ rfl) ?_; clear F a; intro a F
 refine list_val F (wn rfl) rfl rfl (.slice none 0 0) (ex_load _ _ rfl _ (F.e rfl) _ (lv1 rg_one_30 (M.cell (i := 0) rfl (j := 15) rfl))) ?_; clear F a; intro a F
 refine list_val F (wn rfl) rfl rfl (.int .i64 0) (ex_len _ _ rfl 1 rg_sl_30_1 _ _ _ (F.e rfl)) ?_; clear F a; intro a F
 refine list_val F (wn rfl) rfl rfl (.int .i64 0) (ex_assign _ rfl _ (F.e rfl)) ?_; clear F a; intro a F
 refine wpList_nil ?_
 replace F : Fr 79 a [(0, .pointer (some ⟨gb, 0, none⟩)), (2, .int .i64 0)] := F.keep ⟨rfl, rfl, trivial⟩
 refine then_n ?_
 refine wp_seq ?_
 refine wp_seq ?_
 refine wp_region_lit ?_
 refine list_val F (wn rfl) rfl rfl (.pointer (some ⟨gb, 0, none⟩)) (ex_move _ rfl _ (F.e rfl)) ?_; clear F a; intro a F
 refine list_val F (wn rfl) rfl rfl (.pointer (some ⟨gb, 0, none⟩)) (ex_nilck _ rfl _ (F.e rfl)) ?_; clear F a; intro a F
 refine list_val F (wn rfl) rfl rfl (.pointer (some ⟨gb, 17, none⟩)) (ex_fa _ _ _ rfl _ (F.e rfl) 17 rg_fa_50_17_17 ⟨gb, 17, none⟩ rfl) ?_; clear F a; intro a F
 refine list_val F (wn rfl) rfl rfl (.int .i64 0) (ex_load _ _ rfl _ (F.e rfl) _ (lv1 rg_one_3 (M.cell (i := 0) rfl (j := 17) rfl))) ?_; clear F a; intro a F
 refine list_val F (wn rfl) rfl rfl (.int .i64 0) (ex_assign _ rfl _ (F.e rfl)) ?_; clear F a; intro a F
 refine wpList_nil ?_
 replace F : Fr 79 a [(0, .pointer (some ⟨gb, 0, none⟩)), (2, .int .i64 0), (3, .int .i64 0)] := F.keep ⟨rfl, rfl, rfl, trivial⟩
 refine then_n ?_
 refine wp_block ?_
 refine wp_loop_rounds 1 ?_
 refine rounds_do 0 ?_
 refine wp_seq ?_
 refine wp_seq ?_
 refine wp_region_lit ?_
 refine list_val F (wn rfl) rfl rfl (.int .i64 0) (ex_move _ rfl _ (F.e rfl)) ?_; clear F a; intro a F
 refine list_val F (wn rfl) rfl rfl (.int .i64 0) (ex_move _ rfl _ (F.e rfl)) ?_; clear F a; intro a F
 refine list_val F (wn rfl) rfl rfl (.bool false) (ex_bin .lss _ _ _ _ rfl .i64 _ _ (F.e rfl) (F.e rfl) _ (b_lss (by decide))) ?_; clear F a; intro a F
 refine wpList_nil ?_
 replace F : Fr 79 a [(0, .pointer (some ⟨gb, 0, none⟩)), (2, .int .i64 0), (3, .int .i64 0), (18, .bool false)] := F.keep ⟨rfl, rfl, rfl, rfl, trivial⟩
 refine then_n ?_
 refine wp_cond_false (F.e rfl) ?_
 refine wp_exit ?_
 refine then_x ?_
 refine then_x ?_
 refine in_hit ?_
 refine then_n ?_
 refine wp_region_lit ?_
 refine list_val F (wn rfl) rfl rfl (.pointer (some ⟨gb, 0, none⟩)) (ex_move _ rfl _ (F.e rfl)) ?_; clear F a; intro a F
 refine list_val F (wn rfl) rfl rfl (.pointer (some ⟨gb, 0, none⟩)) (ex_move _ rfl _ (F.e rfl)) ?_; clear F a; intro a F
 refine list_val F (wn rfl) rfl rfl (.pointer (some ⟨gb, 0, none⟩)) (ex_nilck _ rfl _ (F.e rfl)) ?_; clear F a; intro a F
 refine list_val F (wn rfl) rfl rfl (.pointer (some ⟨gb, 15, none⟩)) (ex_fa _ _ _ rfl _ (F.e rfl) 15 rg_fa_50_15_15 ⟨gb, 15, none⟩ rfl) ?_; clear F a; intro a F
 refine list_val F (wn rfl) rfl rfl (.slice none 0 0) (ex_load _ _ rfl _ (F.e rfl) _ (lv1 rg_one_30 (M.cell (i := 0) rfl (j := 15) rfl))) ?_; clear F a; intro a F
 refine list_val F (wn rfl) rfl rfl (.int .i64 0) (ex_len _ _ rfl 1 rg_sl_30_1 _ _ _ (F.e rfl)) ?_; clear F a; intro a F
 refine list_val F (wn rfl) rfl rfl (.pointer (some ⟨gb, 0, none⟩)) (ex_nilck _ rfl _ (F.e rfl)) ?_; clear F a; intro a F
 refine list_val F (wn rfl) rfl rfl (.pointer (some ⟨gb, 17, none⟩)) (ex_fa _ _ _ rfl _ (F.e rfl) 17 rg_fa_50_17_17 ⟨gb, 17, none⟩ rfl) ?_; clear F a; intro a F
 refine list_do (wn rfl) (fun K hK => ?_)
 refine ow_store F M rfl 3 _ _ rfl 0 gb ((bkC (kv) (ko) kA tn dn us).toArray) _ rfl 17 (F.e rfl) _ (F.e rfl) [.int .i64 0] rfl rg_info_3_map_size_some_1 (by show 18 ≤ 75; decide) (by simp [Value.oneCell']) ((bkC (kv) (ko) kA tn dn us).toArray) rfl ?_
 clear F a; have Mo := M; clear M; intro a v F M hgr
 refine hK _ _ ?_
 clear hK K
 replace G_ := gg_grown G_ hgr
 clear Mo hgr; try clear w
 replace M : Mm (cutW w gb) v [⟨gb, (bkC (kv) (ko) kA tn dn us).toArray, 50⟩] := M
 refine wpList_nil ?_
 replace F : Fr 79 a [(0, .pointer (some ⟨gb, 0, none⟩)), (2, .int .i64 0), (3, .int .i64 0), (18, .bool false)] := F.keep ⟨rfl, rfl, rfl, rfl, trivial⟩
 exact ret_none F rfl ⟨rfl, gg_same G_ hbk (M.blk 0 _ rfl)⟩
theorem rg_fa_50_18_18 : fa? Tryz.prog 50 18 18 = true := by kernel_rfl
theorem rg_one_31 : one? Tryz.prog 31 = true := by kernel_rfl
theorem rg_sl_31_1 : sl? Tryz.prog 31 1 = true := by kernel_rfl
theorem rg_fa_50_20_20 : fa? Tryz.prog 50 20 20 = true := by kernel_rfl
set_option maxHeartbeats 1000000 in
set_option maxRecDepth 100000 in
theorem growKeys_any (gb : Nat) (kv ko : Value) (kA tn dn us : Nat) (w : World) (hbk : w.heap[gb]? = some (.cells (bkC (kv) (ko) kA tn dn us).toArray 50 (0, 0))) :
    Calls Tryz.prog 57 #[.pointer (some ⟨gb, 0, none⟩)] w fun e w' => e = .returned (.tuple #[]) ∧ Below w.heap.size w w' := by
 have G_ := gg_refl w gb
 refine calls_start Tryz.func57 rfl rfl rfl (fun a F => ?_)
 have M : Mm (cutW w gb) w [⟨gb, (bkC (kv) (ko) kA tn dn us).toArray, 50⟩] := cut_one (Nat.le_refl _) hbk
 refine wp_seq ?_
 refine wp_region_lit ?_
 refine list_val F (wn rfl) rfl rfl (.pointer (some ⟨gb, 0, none⟩)) (ex_move _ rfl _ (F.e rfl)) ?_; clear F a; intro a F
 refine list_val F (wn rfl) rfl rfl (.pointer (some ⟨gb, 0, none⟩)) (ex_nilck _ rfl _ (F.e rfl)) ?_; clear F a; intro a F
 refine list_val F (wn rfl) rfl rfl (.pointer (some ⟨gb, 18, none⟩)) (ex_fa _ _ _ rfl _ (F.e rfl) 18 rg_fa_50_18_18 ⟨gb, 18, none⟩ rfl) ?_; clear F a; intro a F
 refine list_val F (wn rfl) rfl rfl (.slice none 0 0) (ex_load _ _ rfl _ (F.e rfl) _ (lv1 rg_one_31 (M.cell (i := 0) rfl (j := 18) rfl))) ?_; clear F a; intro a F
 refine list_val F (wn rfl) rfl rfl (.int .i64 0) (ex_len _ _ rfl 1 rg_sl_31_1 _ _ _ (F.e rfl)) ?_; clear F a; intro a F
 refine list_val F (wn rfl) rfl rfl (.int .i64 0) (ex_assign _ rfl _ (F.e rfl)) ?_; clear F a; intro a F
 refine wpList_nil ?_
 replace F : Fr 79 a [(0, .pointer (some ⟨gb, 0, none⟩)), (2, .int .i64 0)] := F.keep ⟨rfl, rfl, trivial⟩
 refine then_n ?_
 refine wp_seq ?_
 refine wp_seq ?_
 refine wp_region_lit ?_
 refine list_val F (wn rfl) rfl rfl (.pointer (some ⟨gb, 0, none⟩)) (ex_move _ rfl _ (F.e rfl)) ?_; clear F a; intro a F
 refine list_val F (wn rfl) rfl rfl (.pointer (some ⟨gb, 0, none⟩)) (ex_nilck _ rfl _ (F.e rfl)) ?_; clear F a; intro a F
 refine list_val F (wn rfl) rfl rfl (.pointer (some ⟨gb, 20, none⟩)) (ex_fa _ _ _ rfl _ (F.e rfl) 20 rg_fa_50_20_20 ⟨gb, 20, none⟩ rfl) ?_; clear F a; intro a F
 refine list_val F (wn rfl) rfl rfl (.int .i64 0) (ex_load _ _ rfl _ (F.e rfl) _ (lv1 rg_one_3 (M.cell (i := 0) rfl (j := 20) rfl))) ?_; clear F a; intro a F
 refine list_val F (wn rfl) rfl rfl (.int .i64 0) (ex_assign _ rfl _ (F.e rfl)) ?_; clear F a; intro a F
 refine wpList_nil ?_
 replace F : Fr 79 a [(0, .pointer (some ⟨gb, 0, none⟩)), (2, .int .i64 0), (3, .int .i64 0)] := F.keep ⟨rfl, rfl, rfl, trivial⟩
 refine then_n ?_
 refine wp_block ?_
 refine wp_loop_rounds 1 ?_
 refine rounds_do 0 ?_
 refine wp_seq ?_
 refine wp_seq ?_
 refine wp_region_lit ?_
 refine list_val F (wn rfl) rfl rfl (.int .i64 0) (ex_move _ rfl _ (F.e rfl)) ?_; clear F a; intro a F
 refine list_val F (wn rfl) rfl rfl (.int .i64 0) (ex_move _ rfl _ (F.e rfl)) ?_; clear F a; intro a F
 refine list_val F (wn rfl) rfl rfl (.bool false) (ex_bin .lss _ _ _ _ rfl .i64 _ _ (F.e rfl) (F.e rfl) _ (b_lss (by decide))) ?_; clear F a; intro a F
 refine wpList_nil ?_
 replace F : Fr 79 a [(0, .pointer (some ⟨gb, 0, none⟩)), (2, .int .i64 0), (3, .int .i64 0), (18, .bool false)] := F.keep ⟨rfl, rfl, rfl, rfl, trivial⟩
 refine then_n ?_
 refine wp_cond_false (F.e rfl) ?_
 refine wp_exit ?_
 refine then_x ?_
 refine then_x ?_
 refine in_hit ?_
 refine then_n ?_
 refine wp_region_lit ?_
 refine list_val F (wn rfl) rfl rfl (.pointer (some ⟨gb, 0, none⟩)) (ex_move _ rfl _ (F.e rfl)) ?_; clear F a; intro a F
 refine list_val F (wn rfl) rfl rfl (.pointer (some ⟨gb, 0, none⟩)) (ex_move _ rfl _ (F.e rfl)) ?_; clear F a; intro a F
 refine list_val F (wn rfl) rfl rfl (.pointer (some ⟨gb, 0, none⟩)) (ex_nilck _ rfl _ (F.e rfl)) ?_; clear F a; intro a F
 refine list_val F (wn rfl) rfl rfl (.pointer (some ⟨gb, 18, none⟩)) (ex_fa _ _ _ rfl _ (F.e rfl) 18 rg_fa_50_18_18 ⟨gb, 18, none⟩ rfl) ?_; clear F a; intro a F
 refine list_val F (wn rfl) rfl rfl (.slice none 0 0) (ex_load _ _ rfl _ (F.e rfl) _ (lv1 rg_one_31 (M.cell (i := 0) rfl (j := 18) rfl))) ?_; clear F a; intro a F
 refine list_val F (wn rfl) rfl rfl (.int .i64 0) (ex_len _ _ rfl 1 rg_sl_31_1 _ _ _ (F.e rfl)) ?_; clear F a; intro a F
 refine list_val F (wn rfl) rfl rfl (.pointer (some ⟨gb, 0, none⟩)) (ex_nilck _ rfl _ (F.e rfl)) ?_; clear F a; intro a F
 refine list_val F (wn rfl) rfl rfl (.pointer (some ⟨gb, 20, none⟩)) (ex_fa _ _ _ rfl _ (F.e rfl) 20 rg_fa_50_20_20 ⟨gb, 20, none⟩ rfl) ?_; clear F a; intro a F
 refine list_do (wn rfl) (fun K hK => ?_)
 refine ow_store F M rfl 3 _ _ rfl 0 gb ((bkC (kv) (ko) kA tn dn us).toArray) _ rfl 20 (F.e rfl) _ (F.e rfl) [.int .i64 0] rfl rg_info_3_map_size_some_1 (by show 21 ≤ 75; decide) (by simp [Value.oneCell']) ((bkC (kv) (ko) kA tn dn us).toArray) rfl ?_
 clear F a; have Mo := M; clear M; intro a v F M hgr
 refine hK _ _ ?_
 clear hK K
 replace G_ := gg_grown G_ hgr
 clear Mo hgr; try clear w
 replace M : Mm (cutW w gb) v [⟨gb, (bkC (kv) (ko) kA tn dn us).toArray, 50⟩] := M
 refine wpList_nil ?_
 replace F : Fr 79 a [(0, .pointer (some ⟨gb, 0, none⟩)), (2, .int .i64 0), (3, .int .i64 0), (18, .bool false)] := F.keep ⟨rfl, rfl, rfl, rfl, trivial⟩
 exact ret_none F rfl ⟨rfl, gg_same G_ hbk (M.blk 0 _ rfl)⟩
theorem rg_fa_50_21_21 : fa? Tryz.prog 50 21 21 = true := by kernel_rfl
theorem rg_one_32 : one? Tryz.prog 32 = true := by kernel_rfl
theorem rg_sl_32_1 : sl? Tryz.prog 32 1 = true := by kernel_rfl
theorem rg_fa_50_23_23 : fa? Tryz.prog 50 23 23 = true := by kernel_rfl
set_option maxHeartbeats 1000000 in
set_option maxRecDepth 100000 in
theorem growUsers_any (gb : Nat) (kv ko : Value) (kA tn dn us : Nat) (w : World) (hbk : w.heap[gb]? = some (.cells (bkC (kv) (ko) kA tn dn us).toArray 50 (0, 0))) :
    Calls Tryz.prog 58 #[.pointer (some ⟨gb, 0, none⟩)] w fun e w' => e = .returned (.tuple #[]) ∧ Below w.heap.size w w' := by
 have G_ := gg_refl w gb
 refine calls_start Tryz.func58 rfl rfl rfl (fun a F => ?_)
 have M : Mm (cutW w gb) w [⟨gb, (bkC (kv) (ko) kA tn dn us).toArray, 50⟩] := cut_one (Nat.le_refl _) hbk
 refine wp_seq ?_
 refine wp_region_lit ?_
 refine list_val F (wn rfl) rfl rfl (.pointer (some ⟨gb, 0, none⟩)) (ex_move _ rfl _ (F.e rfl)) ?_; clear F a; intro a F
 refine list_val F (wn rfl) rfl rfl (.pointer (some ⟨gb, 0, none⟩)) (ex_nilck _ rfl _ (F.e rfl)) ?_; clear F a; intro a F
 refine list_val F (wn rfl) rfl rfl (.pointer (some ⟨gb, 21, none⟩)) (ex_fa _ _ _ rfl _ (F.e rfl) 21 rg_fa_50_21_21 ⟨gb, 21, none⟩ rfl) ?_; clear F a; intro a F
 refine list_val F (wn rfl) rfl rfl (.slice none 0 0) (ex_load _ _ rfl _ (F.e rfl) _ (lv1 rg_one_32 (M.cell (i := 0) rfl (j := 21) rfl))) ?_; clear F a; intro a F
 refine list_val F (wn rfl) rfl rfl (.int .i64 0) (ex_len _ _ rfl 1 rg_sl_32_1 _ _ _ (F.e rfl)) ?_; clear F a; intro a F
 refine list_val F (wn rfl) rfl rfl (.int .i64 0) (ex_assign _ rfl _ (F.e rfl)) ?_; clear F a; intro a F
 refine wpList_nil ?_
 replace F : Fr 79 a [(0, .pointer (some ⟨gb, 0, none⟩)), (2, .int .i64 0)] := F.keep ⟨rfl, rfl, trivial⟩
 refine then_n ?_
 refine wp_seq ?_
 refine wp_seq ?_
 refine wp_region_lit ?_
 refine list_val F (wn rfl) rfl rfl (.pointer (some ⟨gb, 0, none⟩)) (ex_move _ rfl _ (F.e rfl)) ?_; clear F a; intro a F
 refine list_val F (wn rfl) rfl rfl (.pointer (some ⟨gb, 0, none⟩)) (ex_nilck _ rfl _ (F.e rfl)) ?_; clear F a; intro a F
 refine list_val F (wn rfl) rfl rfl (.pointer (some ⟨gb, 23, none⟩)) (ex_fa _ _ _ rfl _ (F.e rfl) 23 rg_fa_50_23_23 ⟨gb, 23, none⟩ rfl) ?_; clear F a; intro a F
 refine list_val F (wn rfl) rfl rfl (.int .i64 0) (ex_load _ _ rfl _ (F.e rfl) _ (lv1 rg_one_3 (M.cell (i := 0) rfl (j := 23) rfl))) ?_; clear F a; intro a F
 refine list_val F (wn rfl) rfl rfl (.int .i64 0) (ex_assign _ rfl _ (F.e rfl)) ?_; clear F a; intro a F
 refine wpList_nil ?_
 replace F : Fr 79 a [(0, .pointer (some ⟨gb, 0, none⟩)), (2, .int .i64 0), (3, .int .i64 0)] := F.keep ⟨rfl, rfl, rfl, trivial⟩
 refine then_n ?_
 refine wp_block ?_
 refine wp_loop_rounds 1 ?_
 refine rounds_do 0 ?_
 refine wp_seq ?_
 refine wp_seq ?_
 refine wp_region_lit ?_
 refine list_val F (wn rfl) rfl rfl (.int .i64 0) (ex_move _ rfl _ (F.e rfl)) ?_; clear F a; intro a F
 refine list_val F (wn rfl) rfl rfl (.int .i64 0) (ex_move _ rfl _ (F.e rfl)) ?_; clear F a; intro a F
 refine list_val F (wn rfl) rfl rfl (.bool false) (ex_bin .lss _ _ _ _ rfl .i64 _ _ (F.e rfl) (F.e rfl) _ (b_lss (by decide))) ?_; clear F a; intro a F
 refine wpList_nil ?_
 replace F : Fr 79 a [(0, .pointer (some ⟨gb, 0, none⟩)), (2, .int .i64 0), (3, .int .i64 0), (18, .bool false)] := F.keep ⟨rfl, rfl, rfl, rfl, trivial⟩
 refine then_n ?_
 refine wp_cond_false (F.e rfl) ?_
 refine wp_exit ?_
 refine then_x ?_
 refine then_x ?_
 refine in_hit ?_
 refine then_n ?_
 refine wp_region_lit ?_
 refine list_val F (wn rfl) rfl rfl (.pointer (some ⟨gb, 0, none⟩)) (ex_move _ rfl _ (F.e rfl)) ?_; clear F a; intro a F
 refine list_val F (wn rfl) rfl rfl (.pointer (some ⟨gb, 0, none⟩)) (ex_move _ rfl _ (F.e rfl)) ?_; clear F a; intro a F
 refine list_val F (wn rfl) rfl rfl (.pointer (some ⟨gb, 0, none⟩)) (ex_nilck _ rfl _ (F.e rfl)) ?_; clear F a; intro a F
 refine list_val F (wn rfl) rfl rfl (.pointer (some ⟨gb, 21, none⟩)) (ex_fa _ _ _ rfl _ (F.e rfl) 21 rg_fa_50_21_21 ⟨gb, 21, none⟩ rfl) ?_; clear F a; intro a F
 refine list_val F (wn rfl) rfl rfl (.slice none 0 0) (ex_load _ _ rfl _ (F.e rfl) _ (lv1 rg_one_32 (M.cell (i := 0) rfl (j := 21) rfl))) ?_; clear F a; intro a F
 refine list_val F (wn rfl) rfl rfl (.int .i64 0) (ex_len _ _ rfl 1 rg_sl_32_1 _ _ _ (F.e rfl)) ?_; clear F a; intro a F
 refine list_val F (wn rfl) rfl rfl (.pointer (some ⟨gb, 0, none⟩)) (ex_nilck _ rfl _ (F.e rfl)) ?_; clear F a; intro a F
 refine list_val F (wn rfl) rfl rfl (.pointer (some ⟨gb, 23, none⟩)) (ex_fa _ _ _ rfl _ (F.e rfl) 23 rg_fa_50_23_23 ⟨gb, 23, none⟩ rfl) ?_; clear F a; intro a F
 refine list_do (wn rfl) (fun K hK => ?_)
 refine ow_store F M rfl 3 _ _ rfl 0 gb ((bkC (kv) (ko) kA tn dn us).toArray) _ rfl 23 (F.e rfl) _ (F.e rfl) [.int .i64 0] rfl rg_info_3_map_size_some_1 (by show 24 ≤ 75; decide) (by simp [Value.oneCell']) ((bkC (kv) (ko) kA tn dn us).toArray) rfl ?_
 clear F a; have Mo := M; clear M; intro a v F M hgr
 refine hK _ _ ?_
 clear hK K
 replace G_ := gg_grown G_ hgr
 clear Mo hgr; try clear w
 replace M : Mm (cutW w gb) v [⟨gb, (bkC (kv) (ko) kA tn dn us).toArray, 50⟩] := M
 refine wpList_nil ?_
 replace F : Fr 79 a [(0, .pointer (some ⟨gb, 0, none⟩)), (2, .int .i64 0), (3, .int .i64 0), (18, .bool false)] := F.keep ⟨rfl, rfl, rfl, rfl, trivial⟩
 exact ret_none F rfl ⟨rfl, gg_same G_ hbk (M.blk 0 _ rfl)⟩
theorem rg_fa_50_24_24 : fa? Tryz.prog 50 24 24 = true := by kernel_rfl
theorem rg_one_33 : one? Tryz.prog 33 = true := by kernel_rfl
theorem rg_sl_33_1 : sl? Tryz.prog 33 1 = true := by kernel_rfl
theorem rg_fa_50_26_26 : fa? Tryz.prog 50 26 26 = true := by kernel_rfl
set_option maxHeartbeats 1000000 in
set_option maxRecDepth 100000 in
theorem growSessions_any (gb : Nat) (kv ko : Value) (kA tn dn us : Nat) (w : World) (hbk : w.heap[gb]? = some (.cells (bkC (kv) (ko) kA tn dn us).toArray 50 (0, 0))) :
    Calls Tryz.prog 59 #[.pointer (some ⟨gb, 0, none⟩)] w fun e w' => e = .returned (.tuple #[]) ∧ Below w.heap.size w w' := by
 have G_ := gg_refl w gb
 refine calls_start Tryz.func59 rfl rfl rfl (fun a F => ?_)
 have M : Mm (cutW w gb) w [⟨gb, (bkC (kv) (ko) kA tn dn us).toArray, 50⟩] := cut_one (Nat.le_refl _) hbk
 refine wp_seq ?_
 refine wp_region_lit ?_
 refine list_val F (wn rfl) rfl rfl (.pointer (some ⟨gb, 0, none⟩)) (ex_move _ rfl _ (F.e rfl)) ?_; clear F a; intro a F
 refine list_val F (wn rfl) rfl rfl (.pointer (some ⟨gb, 0, none⟩)) (ex_nilck _ rfl _ (F.e rfl)) ?_; clear F a; intro a F
 refine list_val F (wn rfl) rfl rfl (.pointer (some ⟨gb, 24, none⟩)) (ex_fa _ _ _ rfl _ (F.e rfl) 24 rg_fa_50_24_24 ⟨gb, 24, none⟩ rfl) ?_; clear F a; intro a F
 refine list_val F (wn rfl) rfl rfl (.slice none 0 0) (ex_load _ _ rfl _ (F.e rfl) _ (lv1 rg_one_33 (M.cell (i := 0) rfl (j := 24) rfl))) ?_; clear F a; intro a F
 refine list_val F (wn rfl) rfl rfl (.int .i64 0) (ex_len _ _ rfl 1 rg_sl_33_1 _ _ _ (F.e rfl)) ?_; clear F a; intro a F
 refine list_val F (wn rfl) rfl rfl (.int .i64 0) (ex_assign _ rfl _ (F.e rfl)) ?_; clear F a; intro a F
 refine wpList_nil ?_
 replace F : Fr 79 a [(0, .pointer (some ⟨gb, 0, none⟩)), (2, .int .i64 0)] := F.keep ⟨rfl, rfl, trivial⟩
 refine then_n ?_
 refine wp_seq ?_
 refine wp_seq ?_
 refine wp_region_lit ?_
 refine list_val F (wn rfl) rfl rfl (.pointer (some ⟨gb, 0, none⟩)) (ex_move _ rfl _ (F.e rfl)) ?_; clear F a; intro a F
 refine list_val F (wn rfl) rfl rfl (.pointer (some ⟨gb, 0, none⟩)) (ex_nilck _ rfl _ (F.e rfl)) ?_; clear F a; intro a F
 refine list_val F (wn rfl) rfl rfl (.pointer (some ⟨gb, 26, none⟩)) (ex_fa _ _ _ rfl _ (F.e rfl) 26 rg_fa_50_26_26 ⟨gb, 26, none⟩ rfl) ?_; clear F a; intro a F
 refine list_val F (wn rfl) rfl rfl (.int .i64 0) (ex_load _ _ rfl _ (F.e rfl) _ (lv1 rg_one_3 (M.cell (i := 0) rfl (j := 26) rfl))) ?_; clear F a; intro a F
 refine list_val F (wn rfl) rfl rfl (.int .i64 0) (ex_assign _ rfl _ (F.e rfl)) ?_; clear F a; intro a F
 refine wpList_nil ?_
 replace F : Fr 79 a [(0, .pointer (some ⟨gb, 0, none⟩)), (2, .int .i64 0), (3, .int .i64 0)] := F.keep ⟨rfl, rfl, rfl, trivial⟩
 refine then_n ?_
 refine wp_block ?_
 refine wp_loop_rounds 1 ?_
 refine rounds_do 0 ?_
 refine wp_seq ?_
 refine wp_seq ?_
 refine wp_region_lit ?_
 refine list_val F (wn rfl) rfl rfl (.int .i64 0) (ex_move _ rfl _ (F.e rfl)) ?_; clear F a; intro a F
 refine list_val F (wn rfl) rfl rfl (.int .i64 0) (ex_move _ rfl _ (F.e rfl)) ?_; clear F a; intro a F
 refine list_val F (wn rfl) rfl rfl (.bool false) (ex_bin .lss _ _ _ _ rfl .i64 _ _ (F.e rfl) (F.e rfl) _ (b_lss (by decide))) ?_; clear F a; intro a F
 refine wpList_nil ?_
 replace F : Fr 79 a [(0, .pointer (some ⟨gb, 0, none⟩)), (2, .int .i64 0), (3, .int .i64 0), (18, .bool false)] := F.keep ⟨rfl, rfl, rfl, rfl, trivial⟩
 refine then_n ?_
 refine wp_cond_false (F.e rfl) ?_
 refine wp_exit ?_
 refine then_x ?_
 refine then_x ?_
 refine in_hit ?_
 refine then_n ?_
 refine wp_region_lit ?_
 refine list_val F (wn rfl) rfl rfl (.pointer (some ⟨gb, 0, none⟩)) (ex_move _ rfl _ (F.e rfl)) ?_; clear F a; intro a F
 refine list_val F (wn rfl) rfl rfl (.pointer (some ⟨gb, 0, none⟩)) (ex_move _ rfl _ (F.e rfl)) ?_; clear F a; intro a F
 refine list_val F (wn rfl) rfl rfl (.pointer (some ⟨gb, 0, none⟩)) (ex_nilck _ rfl _ (F.e rfl)) ?_; clear F a; intro a F
 refine list_val F (wn rfl) rfl rfl (.pointer (some ⟨gb, 24, none⟩)) (ex_fa _ _ _ rfl _ (F.e rfl) 24 rg_fa_50_24_24 ⟨gb, 24, none⟩ rfl) ?_; clear F a; intro a F
 refine list_val F (wn rfl) rfl rfl (.slice none 0 0) (ex_load _ _ rfl _ (F.e rfl) _ (lv1 rg_one_33 (M.cell (i := 0) rfl (j := 24) rfl))) ?_; clear F a; intro a F
 refine list_val F (wn rfl) rfl rfl (.int .i64 0) (ex_len _ _ rfl 1 rg_sl_33_1 _ _ _ (F.e rfl)) ?_; clear F a; intro a F
 refine list_val F (wn rfl) rfl rfl (.pointer (some ⟨gb, 0, none⟩)) (ex_nilck _ rfl _ (F.e rfl)) ?_; clear F a; intro a F
 refine list_val F (wn rfl) rfl rfl (.pointer (some ⟨gb, 26, none⟩)) (ex_fa _ _ _ rfl _ (F.e rfl) 26 rg_fa_50_26_26 ⟨gb, 26, none⟩ rfl) ?_; clear F a; intro a F
 refine list_do (wn rfl) (fun K hK => ?_)
 refine ow_store F M rfl 3 _ _ rfl 0 gb ((bkC (kv) (ko) kA tn dn us).toArray) _ rfl 26 (F.e rfl) _ (F.e rfl) [.int .i64 0] rfl rg_info_3_map_size_some_1 (by show 27 ≤ 75; decide) (by simp [Value.oneCell']) ((bkC (kv) (ko) kA tn dn us).toArray) rfl ?_
 clear F a; have Mo := M; clear M; intro a v F M hgr
 refine hK _ _ ?_
 clear hK K
 replace G_ := gg_grown G_ hgr
 clear Mo hgr; try clear w
 replace M : Mm (cutW w gb) v [⟨gb, (bkC (kv) (ko) kA tn dn us).toArray, 50⟩] := M
 refine wpList_nil ?_
 replace F : Fr 79 a [(0, .pointer (some ⟨gb, 0, none⟩)), (2, .int .i64 0), (3, .int .i64 0), (18, .bool false)] := F.keep ⟨rfl, rfl, rfl, rfl, trivial⟩
 exact ret_none F rfl ⟨rfl, gg_same G_ hbk (M.blk 0 _ rfl)⟩
theorem rg_fa_50_27_27 : fa? Tryz.prog 50 27 27 = true := by kernel_rfl
theorem rg_one_34 : one? Tryz.prog 34 = true := by kernel_rfl
theorem rg_sl_34_1 : sl? Tryz.prog 34 1 = true := by kernel_rfl
theorem rg_fa_50_29_29 : fa? Tryz.prog 50 29 29 = true := by kernel_rfl
set_option maxHeartbeats 1000000 in
set_option maxRecDepth 100000 in
theorem growRefreshes_any (gb : Nat) (kv ko : Value) (kA tn dn us : Nat) (w : World) (hbk : w.heap[gb]? = some (.cells (bkC (kv) (ko) kA tn dn us).toArray 50 (0, 0))) :
    Calls Tryz.prog 60 #[.pointer (some ⟨gb, 0, none⟩)] w fun e w' => e = .returned (.tuple #[]) ∧ Below w.heap.size w w' := by
 have G_ := gg_refl w gb
 refine calls_start Tryz.func60 rfl rfl rfl (fun a F => ?_)
 have M : Mm (cutW w gb) w [⟨gb, (bkC (kv) (ko) kA tn dn us).toArray, 50⟩] := cut_one (Nat.le_refl _) hbk
 refine wp_seq ?_
 refine wp_region_lit ?_
 refine list_val F (wn rfl) rfl rfl (.pointer (some ⟨gb, 0, none⟩)) (ex_move _ rfl _ (F.e rfl)) ?_; clear F a; intro a F
 refine list_val F (wn rfl) rfl rfl (.pointer (some ⟨gb, 0, none⟩)) (ex_nilck _ rfl _ (F.e rfl)) ?_; clear F a; intro a F
 refine list_val F (wn rfl) rfl rfl (.pointer (some ⟨gb, 27, none⟩)) (ex_fa _ _ _ rfl _ (F.e rfl) 27 rg_fa_50_27_27 ⟨gb, 27, none⟩ rfl) ?_; clear F a; intro a F
 refine list_val F (wn rfl) rfl rfl (.slice none 0 0) (ex_load _ _ rfl _ (F.e rfl) _ (lv1 rg_one_34 (M.cell (i := 0) rfl (j := 27) rfl))) ?_; clear F a; intro a F
 refine list_val F (wn rfl) rfl rfl (.int .i64 0) (ex_len _ _ rfl 1 rg_sl_34_1 _ _ _ (F.e rfl)) ?_; clear F a; intro a F
 refine list_val F (wn rfl) rfl rfl (.int .i64 0) (ex_assign _ rfl _ (F.e rfl)) ?_; clear F a; intro a F
 refine wpList_nil ?_
 replace F : Fr 79 a [(0, .pointer (some ⟨gb, 0, none⟩)), (2, .int .i64 0)] := F.keep ⟨rfl, rfl, trivial⟩
 refine then_n ?_
 refine wp_seq ?_
 refine wp_seq ?_
 refine wp_region_lit ?_
 refine list_val F (wn rfl) rfl rfl (.pointer (some ⟨gb, 0, none⟩)) (ex_move _ rfl _ (F.e rfl)) ?_; clear F a; intro a F
 refine list_val F (wn rfl) rfl rfl (.pointer (some ⟨gb, 0, none⟩)) (ex_nilck _ rfl _ (F.e rfl)) ?_; clear F a; intro a F
 refine list_val F (wn rfl) rfl rfl (.pointer (some ⟨gb, 29, none⟩)) (ex_fa _ _ _ rfl _ (F.e rfl) 29 rg_fa_50_29_29 ⟨gb, 29, none⟩ rfl) ?_; clear F a; intro a F
 refine list_val F (wn rfl) rfl rfl (.int .i64 0) (ex_load _ _ rfl _ (F.e rfl) _ (lv1 rg_one_3 (M.cell (i := 0) rfl (j := 29) rfl))) ?_; clear F a; intro a F
 refine list_val F (wn rfl) rfl rfl (.int .i64 0) (ex_assign _ rfl _ (F.e rfl)) ?_; clear F a; intro a F
 refine wpList_nil ?_
 replace F : Fr 79 a [(0, .pointer (some ⟨gb, 0, none⟩)), (2, .int .i64 0), (3, .int .i64 0)] := F.keep ⟨rfl, rfl, rfl, trivial⟩
 refine then_n ?_
 refine wp_block ?_
 refine wp_loop_rounds 1 ?_
 refine rounds_do 0 ?_
 refine wp_seq ?_
 refine wp_seq ?_
 refine wp_region_lit ?_
 refine list_val F (wn rfl) rfl rfl (.int .i64 0) (ex_move _ rfl _ (F.e rfl)) ?_; clear F a; intro a F
 refine list_val F (wn rfl) rfl rfl (.int .i64 0) (ex_move _ rfl _ (F.e rfl)) ?_; clear F a; intro a F
 refine list_val F (wn rfl) rfl rfl (.bool false) (ex_bin .lss _ _ _ _ rfl .i64 _ _ (F.e rfl) (F.e rfl) _ (b_lss (by decide))) ?_; clear F a; intro a F
 refine wpList_nil ?_
 replace F : Fr 79 a [(0, .pointer (some ⟨gb, 0, none⟩)), (2, .int .i64 0), (3, .int .i64 0), (18, .bool false)] := F.keep ⟨rfl, rfl, rfl, rfl, trivial⟩
 refine then_n ?_
 refine wp_cond_false (F.e rfl) ?_
 refine wp_exit ?_
 refine then_x ?_
 refine then_x ?_
 refine in_hit ?_
 refine then_n ?_
 refine wp_region_lit ?_
 refine list_val F (wn rfl) rfl rfl (.pointer (some ⟨gb, 0, none⟩)) (ex_move _ rfl _ (F.e rfl)) ?_; clear F a; intro a F
 refine list_val F (wn rfl) rfl rfl (.pointer (some ⟨gb, 0, none⟩)) (ex_move _ rfl _ (F.e rfl)) ?_; clear F a; intro a F
 refine list_val F (wn rfl) rfl rfl (.pointer (some ⟨gb, 0, none⟩)) (ex_nilck _ rfl _ (F.e rfl)) ?_; clear F a; intro a F
 refine list_val F (wn rfl) rfl rfl (.pointer (some ⟨gb, 27, none⟩)) (ex_fa _ _ _ rfl _ (F.e rfl) 27 rg_fa_50_27_27 ⟨gb, 27, none⟩ rfl) ?_; clear F a; intro a F
 refine list_val F (wn rfl) rfl rfl (.slice none 0 0) (ex_load _ _ rfl _ (F.e rfl) _ (lv1 rg_one_34 (M.cell (i := 0) rfl (j := 27) rfl))) ?_; clear F a; intro a F
 refine list_val F (wn rfl) rfl rfl (.int .i64 0) (ex_len _ _ rfl 1 rg_sl_34_1 _ _ _ (F.e rfl)) ?_; clear F a; intro a F
 refine list_val F (wn rfl) rfl rfl (.pointer (some ⟨gb, 0, none⟩)) (ex_nilck _ rfl _ (F.e rfl)) ?_; clear F a; intro a F
 refine list_val F (wn rfl) rfl rfl (.pointer (some ⟨gb, 29, none⟩)) (ex_fa _ _ _ rfl _ (F.e rfl) 29 rg_fa_50_29_29 ⟨gb, 29, none⟩ rfl) ?_; clear F a; intro a F
 refine list_do (wn rfl) (fun K hK => ?_)
 refine ow_store F M rfl 3 _ _ rfl 0 gb ((bkC (kv) (ko) kA tn dn us).toArray) _ rfl 29 (F.e rfl) _ (F.e rfl) [.int .i64 0] rfl rg_info_3_map_size_some_1 (by show 30 ≤ 75; decide) (by simp [Value.oneCell']) ((bkC (kv) (ko) kA tn dn us).toArray) rfl ?_
 clear F a; have Mo := M; clear M; intro a v F M hgr
 refine hK _ _ ?_
 clear hK K
 replace G_ := gg_grown G_ hgr
 clear Mo hgr; try clear w
 replace M : Mm (cutW w gb) v [⟨gb, (bkC (kv) (ko) kA tn dn us).toArray, 50⟩] := M
 refine wpList_nil ?_
 replace F : Fr 79 a [(0, .pointer (some ⟨gb, 0, none⟩)), (2, .int .i64 0), (3, .int .i64 0), (18, .bool false)] := F.keep ⟨rfl, rfl, rfl, rfl, trivial⟩
 exact ret_none F rfl ⟨rfl, gg_same G_ hbk (M.blk 0 _ rfl)⟩
theorem rg_fa_50_33_33 : fa? Tryz.prog 50 33 33 = true := by kernel_rfl
theorem rg_one_36 : one? Tryz.prog 36 = true := by kernel_rfl
theorem rg_sl_36_1 : sl? Tryz.prog 36 1 = true := by kernel_rfl
theorem rg_fa_50_35_35 : fa? Tryz.prog 50 35 35 = true := by kernel_rfl
set_option maxHeartbeats 1000000 in
set_option maxRecDepth 100000 in
theorem growFields_any (gb : Nat) (kv ko : Value) (kA tn dn us : Nat) (w : World) (hbk : w.heap[gb]? = some (.cells (bkC (kv) (ko) kA tn dn us).toArray 50 (0, 0))) :
    Calls Tryz.prog 62 #[.pointer (some ⟨gb, 0, none⟩)] w fun e w' => e = .returned (.tuple #[]) ∧ Below w.heap.size w w' := by
 have G_ := gg_refl w gb
 refine calls_start Tryz.func62 rfl rfl rfl (fun a F => ?_)
 have M : Mm (cutW w gb) w [⟨gb, (bkC (kv) (ko) kA tn dn us).toArray, 50⟩] := cut_one (Nat.le_refl _) hbk
 refine wp_seq ?_
 refine wp_region_lit ?_
 refine list_val F (wn rfl) rfl rfl (.pointer (some ⟨gb, 0, none⟩)) (ex_move _ rfl _ (F.e rfl)) ?_; clear F a; intro a F
 refine list_val F (wn rfl) rfl rfl (.pointer (some ⟨gb, 0, none⟩)) (ex_nilck _ rfl _ (F.e rfl)) ?_; clear F a; intro a F
 refine list_val F (wn rfl) rfl rfl (.pointer (some ⟨gb, 33, none⟩)) (ex_fa _ _ _ rfl _ (F.e rfl) 33 rg_fa_50_33_33 ⟨gb, 33, none⟩ rfl) ?_; clear F a; intro a F
 refine list_val F (wn rfl) rfl rfl (.slice none 0 0) (ex_load _ _ rfl _ (F.e rfl) _ (lv1 rg_one_36 (M.cell (i := 0) rfl (j := 33) rfl))) ?_; clear F a; intro a F
 refine list_val F (wn rfl) rfl rfl (.int .i64 0) (ex_len _ _ rfl 1 rg_sl_36_1 _ _ _ (F.e rfl)) ?_; clear F a; intro a F
 refine list_val F (wn rfl) rfl rfl (.int .i64 0) (ex_assign _ rfl _ (F.e rfl)) ?_; clear F a; intro a F
 refine wpList_nil ?_
 replace F : Fr 79 a [(0, .pointer (some ⟨gb, 0, none⟩)), (2, .int .i64 0)] := F.keep ⟨rfl, rfl, trivial⟩
 refine then_n ?_
 refine wp_seq ?_
 refine wp_seq ?_
 refine wp_region_lit ?_
 refine list_val F (wn rfl) rfl rfl (.pointer (some ⟨gb, 0, none⟩)) (ex_move _ rfl _ (F.e rfl)) ?_; clear F a; intro a F
 refine list_val F (wn rfl) rfl rfl (.pointer (some ⟨gb, 0, none⟩)) (ex_nilck _ rfl _ (F.e rfl)) ?_; clear F a; intro a F
 refine list_val F (wn rfl) rfl rfl (.pointer (some ⟨gb, 35, none⟩)) (ex_fa _ _ _ rfl _ (F.e rfl) 35 rg_fa_50_35_35 ⟨gb, 35, none⟩ rfl) ?_; clear F a; intro a F
 refine list_val F (wn rfl) rfl rfl (.int .i64 0) (ex_load _ _ rfl _ (F.e rfl) _ (lv1 rg_one_3 (M.cell (i := 0) rfl (j := 35) rfl))) ?_; clear F a; intro a F
 refine list_val F (wn rfl) rfl rfl (.int .i64 0) (ex_assign _ rfl _ (F.e rfl)) ?_; clear F a; intro a F
 refine wpList_nil ?_
 replace F : Fr 79 a [(0, .pointer (some ⟨gb, 0, none⟩)), (2, .int .i64 0), (3, .int .i64 0)] := F.keep ⟨rfl, rfl, rfl, trivial⟩
 refine then_n ?_
 refine wp_block ?_
 refine wp_loop_rounds 1 ?_
 refine rounds_do 0 ?_
 refine wp_seq ?_
 refine wp_seq ?_
 refine wp_region_lit ?_
 refine list_val F (wn rfl) rfl rfl (.int .i64 0) (ex_move _ rfl _ (F.e rfl)) ?_; clear F a; intro a F
 refine list_val F (wn rfl) rfl rfl (.int .i64 0) (ex_move _ rfl _ (F.e rfl)) ?_; clear F a; intro a F
 refine list_val F (wn rfl) rfl rfl (.bool false) (ex_bin .lss _ _ _ _ rfl .i64 _ _ (F.e rfl) (F.e rfl) _ (b_lss (by decide))) ?_; clear F a; intro a F
 refine wpList_nil ?_
 replace F : Fr 79 a [(0, .pointer (some ⟨gb, 0, none⟩)), (2, .int .i64 0), (3, .int .i64 0), (18, .bool false)] := F.keep ⟨rfl, rfl, rfl, rfl, trivial⟩
 refine then_n ?_
 refine wp_cond_false (F.e rfl) ?_
 refine wp_exit ?_
 refine then_x ?_
 refine then_x ?_
 refine in_hit ?_
 refine then_n ?_
 refine wp_region_lit ?_
 refine list_val F (wn rfl) rfl rfl (.pointer (some ⟨gb, 0, none⟩)) (ex_move _ rfl _ (F.e rfl)) ?_; clear F a; intro a F
 refine list_val F (wn rfl) rfl rfl (.pointer (some ⟨gb, 0, none⟩)) (ex_move _ rfl _ (F.e rfl)) ?_; clear F a; intro a F
 refine list_val F (wn rfl) rfl rfl (.pointer (some ⟨gb, 0, none⟩)) (ex_nilck _ rfl _ (F.e rfl)) ?_; clear F a; intro a F
 refine list_val F (wn rfl) rfl rfl (.pointer (some ⟨gb, 33, none⟩)) (ex_fa _ _ _ rfl _ (F.e rfl) 33 rg_fa_50_33_33 ⟨gb, 33, none⟩ rfl) ?_; clear F a; intro a F
 refine list_val F (wn rfl) rfl rfl (.slice none 0 0) (ex_load _ _ rfl _ (F.e rfl) _ (lv1 rg_one_36 (M.cell (i := 0) rfl (j := 33) rfl))) ?_; clear F a; intro a F
 refine list_val F (wn rfl) rfl rfl (.int .i64 0) (ex_len _ _ rfl 1 rg_sl_36_1 _ _ _ (F.e rfl)) ?_; clear F a; intro a F
 refine list_val F (wn rfl) rfl rfl (.pointer (some ⟨gb, 0, none⟩)) (ex_nilck _ rfl _ (F.e rfl)) ?_; clear F a; intro a F
 refine list_val F (wn rfl) rfl rfl (.pointer (some ⟨gb, 35, none⟩)) (ex_fa _ _ _ rfl _ (F.e rfl) 35 rg_fa_50_35_35 ⟨gb, 35, none⟩ rfl) ?_; clear F a; intro a F
 refine list_do (wn rfl) (fun K hK => ?_)
 refine ow_store F M rfl 3 _ _ rfl 0 gb ((bkC (kv) (ko) kA tn dn us).toArray) _ rfl 35 (F.e rfl) _ (F.e rfl) [.int .i64 0] rfl rg_info_3_map_size_some_1 (by show 36 ≤ 75; decide) (by simp [Value.oneCell']) ((bkC (kv) (ko) kA tn dn us).toArray) rfl ?_
 clear F a; have Mo := M; clear M; intro a v F M hgr
 refine hK _ _ ?_
 clear hK K
 replace G_ := gg_grown G_ hgr
 clear Mo hgr; try clear w
 replace M : Mm (cutW w gb) v [⟨gb, (bkC (kv) (ko) kA tn dn us).toArray, 50⟩] := M
 refine wpList_nil ?_
 replace F : Fr 79 a [(0, .pointer (some ⟨gb, 0, none⟩)), (2, .int .i64 0), (3, .int .i64 0), (18, .bool false)] := F.keep ⟨rfl, rfl, rfl, rfl, trivial⟩
 exact ret_none F rfl ⟨rfl, gg_same G_ hbk (M.blk 0 _ rfl)⟩
theorem rg_fa_50_36_36 : fa? Tryz.prog 50 36 36 = true := by kernel_rfl
theorem rg_one_37 : one? Tryz.prog 37 = true := by kernel_rfl
theorem rg_sl_37_1 : sl? Tryz.prog 37 1 = true := by kernel_rfl
theorem rg_fa_50_38_38 : fa? Tryz.prog 50 38 38 = true := by kernel_rfl
set_option maxHeartbeats 1000000 in
set_option maxRecDepth 100000 in
theorem growFiles_any (gb : Nat) (kv ko : Value) (kA tn dn us : Nat) (w : World) (hbk : w.heap[gb]? = some (.cells (bkC (kv) (ko) kA tn dn us).toArray 50 (0, 0))) :
    Calls Tryz.prog 63 #[.pointer (some ⟨gb, 0, none⟩)] w fun e w' => e = .returned (.tuple #[]) ∧ Below w.heap.size w w' := by
 have G_ := gg_refl w gb
 refine calls_start Tryz.func63 rfl rfl rfl (fun a F => ?_)
 have M : Mm (cutW w gb) w [⟨gb, (bkC (kv) (ko) kA tn dn us).toArray, 50⟩] := cut_one (Nat.le_refl _) hbk
 refine wp_seq ?_
 refine wp_region_lit ?_
 refine list_val F (wn rfl) rfl rfl (.pointer (some ⟨gb, 0, none⟩)) (ex_move _ rfl _ (F.e rfl)) ?_; clear F a; intro a F
 refine list_val F (wn rfl) rfl rfl (.pointer (some ⟨gb, 0, none⟩)) (ex_nilck _ rfl _ (F.e rfl)) ?_; clear F a; intro a F
 refine list_val F (wn rfl) rfl rfl (.pointer (some ⟨gb, 36, none⟩)) (ex_fa _ _ _ rfl _ (F.e rfl) 36 rg_fa_50_36_36 ⟨gb, 36, none⟩ rfl) ?_; clear F a; intro a F
 refine list_val F (wn rfl) rfl rfl (.slice none 0 0) (ex_load _ _ rfl _ (F.e rfl) _ (lv1 rg_one_37 (M.cell (i := 0) rfl (j := 36) rfl))) ?_; clear F a; intro a F
 refine list_val F (wn rfl) rfl rfl (.int .i64 0) (ex_len _ _ rfl 1 rg_sl_37_1 _ _ _ (F.e rfl)) ?_; clear F a; intro a F
 refine list_val F (wn rfl) rfl rfl (.int .i64 0) (ex_assign _ rfl _ (F.e rfl)) ?_; clear F a; intro a F
 refine wpList_nil ?_
 replace F : Fr 79 a [(0, .pointer (some ⟨gb, 0, none⟩)), (2, .int .i64 0)] := F.keep ⟨rfl, rfl, trivial⟩
 refine then_n ?_
 refine wp_seq ?_
 refine wp_seq ?_
 refine wp_region_lit ?_
 refine list_val F (wn rfl) rfl rfl (.pointer (some ⟨gb, 0, none⟩)) (ex_move _ rfl _ (F.e rfl)) ?_; clear F a; intro a F
 refine list_val F (wn rfl) rfl rfl (.pointer (some ⟨gb, 0, none⟩)) (ex_nilck _ rfl _ (F.e rfl)) ?_; clear F a; intro a F
 refine list_val F (wn rfl) rfl rfl (.pointer (some ⟨gb, 38, none⟩)) (ex_fa _ _ _ rfl _ (F.e rfl) 38 rg_fa_50_38_38 ⟨gb, 38, none⟩ rfl) ?_; clear F a; intro a F
 refine list_val F (wn rfl) rfl rfl (.int .i64 0) (ex_load _ _ rfl _ (F.e rfl) _ (lv1 rg_one_3 (M.cell (i := 0) rfl (j := 38) rfl))) ?_; clear F a; intro a F
 refine list_val F (wn rfl) rfl rfl (.int .i64 0) (ex_assign _ rfl _ (F.e rfl)) ?_; clear F a; intro a F
 refine wpList_nil ?_
 replace F : Fr 79 a [(0, .pointer (some ⟨gb, 0, none⟩)), (2, .int .i64 0), (3, .int .i64 0)] := F.keep ⟨rfl, rfl, rfl, trivial⟩
 refine then_n ?_
 refine wp_block ?_
 refine wp_loop_rounds 1 ?_
 refine rounds_do 0 ?_
 refine wp_seq ?_
 refine wp_seq ?_
 refine wp_region_lit ?_
 refine list_val F (wn rfl) rfl rfl (.int .i64 0) (ex_move _ rfl _ (F.e rfl)) ?_; clear F a; intro a F
 refine list_val F (wn rfl) rfl rfl (.int .i64 0) (ex_move _ rfl _ (F.e rfl)) ?_; clear F a; intro a F
 refine list_val F (wn rfl) rfl rfl (.bool false) (ex_bin .lss _ _ _ _ rfl .i64 _ _ (F.e rfl) (F.e rfl) _ (b_lss (by decide))) ?_; clear F a; intro a F
 refine wpList_nil ?_
 replace F : Fr 79 a [(0, .pointer (some ⟨gb, 0, none⟩)), (2, .int .i64 0), (3, .int .i64 0), (18, .bool false)] := F.keep ⟨rfl, rfl, rfl, rfl, trivial⟩
 refine then_n ?_
 refine wp_cond_false (F.e rfl) ?_
 refine wp_exit ?_
 refine then_x ?_
 refine then_x ?_
 refine in_hit ?_
 refine then_n ?_
 refine wp_region_lit ?_
 refine list_val F (wn rfl) rfl rfl (.pointer (some ⟨gb, 0, none⟩)) (ex_move _ rfl _ (F.e rfl)) ?_; clear F a; intro a F
 refine list_val F (wn rfl) rfl rfl (.pointer (some ⟨gb, 0, none⟩)) (ex_move _ rfl _ (F.e rfl)) ?_; clear F a; intro a F
 refine list_val F (wn rfl) rfl rfl (.pointer (some ⟨gb, 0, none⟩)) (ex_nilck _ rfl _ (F.e rfl)) ?_; clear F a; intro a F
 refine list_val F (wn rfl) rfl rfl (.pointer (some ⟨gb, 36, none⟩)) (ex_fa _ _ _ rfl _ (F.e rfl) 36 rg_fa_50_36_36 ⟨gb, 36, none⟩ rfl) ?_; clear F a; intro a F
 refine list_val F (wn rfl) rfl rfl (.slice none 0 0) (ex_load _ _ rfl _ (F.e rfl) _ (lv1 rg_one_37 (M.cell (i := 0) rfl (j := 36) rfl))) ?_; clear F a; intro a F
 refine list_val F (wn rfl) rfl rfl (.int .i64 0) (ex_len _ _ rfl 1 rg_sl_37_1 _ _ _ (F.e rfl)) ?_; clear F a; intro a F
 refine list_val F (wn rfl) rfl rfl (.pointer (some ⟨gb, 0, none⟩)) (ex_nilck _ rfl _ (F.e rfl)) ?_; clear F a; intro a F
 refine list_val F (wn rfl) rfl rfl (.pointer (some ⟨gb, 38, none⟩)) (ex_fa _ _ _ rfl _ (F.e rfl) 38 rg_fa_50_38_38 ⟨gb, 38, none⟩ rfl) ?_; clear F a; intro a F
 refine list_do (wn rfl) (fun K hK => ?_)
 refine ow_store F M rfl 3 _ _ rfl 0 gb ((bkC (kv) (ko) kA tn dn us).toArray) _ rfl 38 (F.e rfl) _ (F.e rfl) [.int .i64 0] rfl rg_info_3_map_size_some_1 (by show 39 ≤ 75; decide) (by simp [Value.oneCell']) ((bkC (kv) (ko) kA tn dn us).toArray) rfl ?_
 clear F a; have Mo := M; clear M; intro a v F M hgr
 refine hK _ _ ?_
 clear hK K
 replace G_ := gg_grown G_ hgr
 clear Mo hgr; try clear w
 replace M : Mm (cutW w gb) v [⟨gb, (bkC (kv) (ko) kA tn dn us).toArray, 50⟩] := M
 refine wpList_nil ?_
 replace F : Fr 79 a [(0, .pointer (some ⟨gb, 0, none⟩)), (2, .int .i64 0), (3, .int .i64 0), (18, .bool false)] := F.keep ⟨rfl, rfl, rfl, rfl, trivial⟩
 exact ret_none F rfl ⟨rfl, gg_same G_ hbk (M.blk 0 _ rfl)⟩
theorem rg_fa_50_39_39 : fa? Tryz.prog 50 39 39 = true := by kernel_rfl
theorem rg_one_38 : one? Tryz.prog 38 = true := by kernel_rfl
theorem rg_sl_38_1 : sl? Tryz.prog 38 1 = true := by kernel_rfl
theorem rg_fa_50_41_41 : fa? Tryz.prog 50 41 41 = true := by kernel_rfl
set_option maxHeartbeats 1000000 in
set_option maxRecDepth 100000 in
theorem growPairs_any (gb : Nat) (kv ko : Value) (kA tn dn us : Nat) (w : World) (hbk : w.heap[gb]? = some (.cells (bkC (kv) (ko) kA tn dn us).toArray 50 (0, 0))) :
    Calls Tryz.prog 64 #[.pointer (some ⟨gb, 0, none⟩)] w fun e w' => e = .returned (.tuple #[]) ∧ Below w.heap.size w w' := by
 have G_ := gg_refl w gb
 refine calls_start Tryz.func64 rfl rfl rfl (fun a F => ?_)
 have M : Mm (cutW w gb) w [⟨gb, (bkC (kv) (ko) kA tn dn us).toArray, 50⟩] := cut_one (Nat.le_refl _) hbk
 refine wp_seq ?_
 refine wp_region_lit ?_
 refine list_val F (wn rfl) rfl rfl (.pointer (some ⟨gb, 0, none⟩)) (ex_move _ rfl _ (F.e rfl)) ?_; clear F a; intro a F
 refine list_val F (wn rfl) rfl rfl (.pointer (some ⟨gb, 0, none⟩)) (ex_nilck _ rfl _ (F.e rfl)) ?_; clear F a; intro a F
 refine list_val F (wn rfl) rfl rfl (.pointer (some ⟨gb, 39, none⟩)) (ex_fa _ _ _ rfl _ (F.e rfl) 39 rg_fa_50_39_39 ⟨gb, 39, none⟩ rfl) ?_; clear F a; intro a F
 refine list_val F (wn rfl) rfl rfl (.slice none 0 0) (ex_load _ _ rfl _ (F.e rfl) _ (lv1 rg_one_38 (M.cell (i := 0) rfl (j := 39) rfl))) ?_; clear F a; intro a F
 refine list_val F (wn rfl) rfl rfl (.int .i64 0) (ex_len _ _ rfl 1 rg_sl_38_1 _ _ _ (F.e rfl)) ?_; clear F a; intro a F
 refine list_val F (wn rfl) rfl rfl (.int .i64 0) (ex_assign _ rfl _ (F.e rfl)) ?_; clear F a; intro a F
 refine wpList_nil ?_
 replace F : Fr 79 a [(0, .pointer (some ⟨gb, 0, none⟩)), (2, .int .i64 0)] := F.keep ⟨rfl, rfl, trivial⟩
 refine then_n ?_
 refine wp_seq ?_
 refine wp_seq ?_
 refine wp_region_lit ?_
 refine list_val F (wn rfl) rfl rfl (.pointer (some ⟨gb, 0, none⟩)) (ex_move _ rfl _ (F.e rfl)) ?_; clear F a; intro a F
 refine list_val F (wn rfl) rfl rfl (.pointer (some ⟨gb, 0, none⟩)) (ex_nilck _ rfl _ (F.e rfl)) ?_; clear F a; intro a F
 refine list_val F (wn rfl) rfl rfl (.pointer (some ⟨gb, 41, none⟩)) (ex_fa _ _ _ rfl _ (F.e rfl) 41 rg_fa_50_41_41 ⟨gb, 41, none⟩ rfl) ?_; clear F a; intro a F
 refine list_val F (wn rfl) rfl rfl (.int .i64 0) (ex_load _ _ rfl _ (F.e rfl) _ (lv1 rg_one_3 (M.cell (i := 0) rfl (j := 41) rfl))) ?_; clear F a; intro a F
 refine list_val F (wn rfl) rfl rfl (.int .i64 0) (ex_assign _ rfl _ (F.e rfl)) ?_; clear F a; intro a F
 refine wpList_nil ?_
 replace F : Fr 79 a [(0, .pointer (some ⟨gb, 0, none⟩)), (2, .int .i64 0), (3, .int .i64 0)] := F.keep ⟨rfl, rfl, rfl, trivial⟩
 refine then_n ?_
 refine wp_block ?_
 refine wp_loop_rounds 1 ?_
 refine rounds_do 0 ?_
 refine wp_seq ?_
 refine wp_seq ?_
 refine wp_region_lit ?_
 refine list_val F (wn rfl) rfl rfl (.int .i64 0) (ex_move _ rfl _ (F.e rfl)) ?_; clear F a; intro a F
 refine list_val F (wn rfl) rfl rfl (.int .i64 0) (ex_move _ rfl _ (F.e rfl)) ?_; clear F a; intro a F
 refine list_val F (wn rfl) rfl rfl (.bool false) (ex_bin .lss _ _ _ _ rfl .i64 _ _ (F.e rfl) (F.e rfl) _ (b_lss (by decide))) ?_; clear F a; intro a F
 refine wpList_nil ?_
 replace F : Fr 79 a [(0, .pointer (some ⟨gb, 0, none⟩)), (2, .int .i64 0), (3, .int .i64 0), (18, .bool false)] := F.keep ⟨rfl, rfl, rfl, rfl, trivial⟩
 refine then_n ?_
 refine wp_cond_false (F.e rfl) ?_
 refine wp_exit ?_
 refine then_x ?_
 refine then_x ?_
 refine in_hit ?_
 refine then_n ?_
 refine wp_region_lit ?_
 refine list_val F (wn rfl) rfl rfl (.pointer (some ⟨gb, 0, none⟩)) (ex_move _ rfl _ (F.e rfl)) ?_; clear F a; intro a F
 refine list_val F (wn rfl) rfl rfl (.pointer (some ⟨gb, 0, none⟩)) (ex_move _ rfl _ (F.e rfl)) ?_; clear F a; intro a F
 refine list_val F (wn rfl) rfl rfl (.pointer (some ⟨gb, 0, none⟩)) (ex_nilck _ rfl _ (F.e rfl)) ?_; clear F a; intro a F
 refine list_val F (wn rfl) rfl rfl (.pointer (some ⟨gb, 39, none⟩)) (ex_fa _ _ _ rfl _ (F.e rfl) 39 rg_fa_50_39_39 ⟨gb, 39, none⟩ rfl) ?_; clear F a; intro a F
 refine list_val F (wn rfl) rfl rfl (.slice none 0 0) (ex_load _ _ rfl _ (F.e rfl) _ (lv1 rg_one_38 (M.cell (i := 0) rfl (j := 39) rfl))) ?_; clear F a; intro a F
 refine list_val F (wn rfl) rfl rfl (.int .i64 0) (ex_len _ _ rfl 1 rg_sl_38_1 _ _ _ (F.e rfl)) ?_; clear F a; intro a F
 refine list_val F (wn rfl) rfl rfl (.pointer (some ⟨gb, 0, none⟩)) (ex_nilck _ rfl _ (F.e rfl)) ?_; clear F a; intro a F
 refine list_val F (wn rfl) rfl rfl (.pointer (some ⟨gb, 41, none⟩)) (ex_fa _ _ _ rfl _ (F.e rfl) 41 rg_fa_50_41_41 ⟨gb, 41, none⟩ rfl) ?_; clear F a; intro a F
 refine list_do (wn rfl) (fun K hK => ?_)
 refine ow_store F M rfl 3 _ _ rfl 0 gb ((bkC (kv) (ko) kA tn dn us).toArray) _ rfl 41 (F.e rfl) _ (F.e rfl) [.int .i64 0] rfl rg_info_3_map_size_some_1 (by show 42 ≤ 75; decide) (by simp [Value.oneCell']) ((bkC (kv) (ko) kA tn dn us).toArray) rfl ?_
 clear F a; have Mo := M; clear M; intro a v F M hgr
 refine hK _ _ ?_
 clear hK K
 replace G_ := gg_grown G_ hgr
 clear Mo hgr; try clear w
 replace M : Mm (cutW w gb) v [⟨gb, (bkC (kv) (ko) kA tn dn us).toArray, 50⟩] := M
 refine wpList_nil ?_
 replace F : Fr 79 a [(0, .pointer (some ⟨gb, 0, none⟩)), (2, .int .i64 0), (3, .int .i64 0), (18, .bool false)] := F.keep ⟨rfl, rfl, rfl, rfl, trivial⟩
 exact ret_none F rfl ⟨rfl, gg_same G_ hbk (M.blk 0 _ rfl)⟩
theorem rg_fa_50_42_42 : fa? Tryz.prog 50 42 42 = true := by kernel_rfl
theorem rg_one_39 : one? Tryz.prog 39 = true := by kernel_rfl
theorem rg_sl_39_1 : sl? Tryz.prog 39 1 = true := by kernel_rfl
theorem rg_fa_50_44_44 : fa? Tryz.prog 50 44 44 = true := by kernel_rfl
set_option maxHeartbeats 1000000 in
set_option maxRecDepth 100000 in
theorem growChanges_any (gb : Nat) (kv ko : Value) (kA tn dn us : Nat) (w : World) (hbk : w.heap[gb]? = some (.cells (bkC (kv) (ko) kA tn dn us).toArray 50 (0, 0))) :
    Calls Tryz.prog 65 #[.pointer (some ⟨gb, 0, none⟩)] w fun e w' => e = .returned (.tuple #[]) ∧ Below w.heap.size w w' := by
 have G_ := gg_refl w gb
 refine calls_start Tryz.func65 rfl rfl rfl (fun a F => ?_)
 have M : Mm (cutW w gb) w [⟨gb, (bkC (kv) (ko) kA tn dn us).toArray, 50⟩] := cut_one (Nat.le_refl _) hbk
 refine wp_seq ?_
 refine wp_region_lit ?_
 refine list_val F (wn rfl) rfl rfl (.pointer (some ⟨gb, 0, none⟩)) (ex_move _ rfl _ (F.e rfl)) ?_; clear F a; intro a F
 refine list_val F (wn rfl) rfl rfl (.pointer (some ⟨gb, 0, none⟩)) (ex_nilck _ rfl _ (F.e rfl)) ?_; clear F a; intro a F
 refine list_val F (wn rfl) rfl rfl (.pointer (some ⟨gb, 42, none⟩)) (ex_fa _ _ _ rfl _ (F.e rfl) 42 rg_fa_50_42_42 ⟨gb, 42, none⟩ rfl) ?_; clear F a; intro a F
 refine list_val F (wn rfl) rfl rfl (.slice none 0 0) (ex_load _ _ rfl _ (F.e rfl) _ (lv1 rg_one_39 (M.cell (i := 0) rfl (j := 42) rfl))) ?_; clear F a; intro a F
 refine list_val F (wn rfl) rfl rfl (.int .i64 0) (ex_len _ _ rfl 1 rg_sl_39_1 _ _ _ (F.e rfl)) ?_; clear F a; intro a F
 refine list_val F (wn rfl) rfl rfl (.int .i64 0) (ex_assign _ rfl _ (F.e rfl)) ?_; clear F a; intro a F
 refine wpList_nil ?_
 replace F : Fr 79 a [(0, .pointer (some ⟨gb, 0, none⟩)), (2, .int .i64 0)] := F.keep ⟨rfl, rfl, trivial⟩
 refine then_n ?_
 refine wp_seq ?_
 refine wp_seq ?_
 refine wp_region_lit ?_
 refine list_val F (wn rfl) rfl rfl (.pointer (some ⟨gb, 0, none⟩)) (ex_move _ rfl _ (F.e rfl)) ?_; clear F a; intro a F
 refine list_val F (wn rfl) rfl rfl (.pointer (some ⟨gb, 0, none⟩)) (ex_nilck _ rfl _ (F.e rfl)) ?_; clear F a; intro a F
 refine list_val F (wn rfl) rfl rfl (.pointer (some ⟨gb, 44, none⟩)) (ex_fa _ _ _ rfl _ (F.e rfl) 44 rg_fa_50_44_44 ⟨gb, 44, none⟩ rfl) ?_; clear F a; intro a F
 refine list_val F (wn rfl) rfl rfl (.int .i64 0) (ex_load _ _ rfl _ (F.e rfl) _ (lv1 rg_one_3 (M.cell (i := 0) rfl (j := 44) rfl))) ?_; clear F a; intro a F
 refine list_val F (wn rfl) rfl rfl (.int .i64 0) (ex_assign _ rfl _ (F.e rfl)) ?_; clear F a; intro a F
 refine wpList_nil ?_
 replace F : Fr 79 a [(0, .pointer (some ⟨gb, 0, none⟩)), (2, .int .i64 0), (3, .int .i64 0)] := F.keep ⟨rfl, rfl, rfl, trivial⟩
 refine then_n ?_
 refine wp_block ?_
 refine wp_loop_rounds 1 ?_
 refine rounds_do 0 ?_
 refine wp_seq ?_
 refine wp_seq ?_
 refine wp_region_lit ?_
 refine list_val F (wn rfl) rfl rfl (.int .i64 0) (ex_move _ rfl _ (F.e rfl)) ?_; clear F a; intro a F
 refine list_val F (wn rfl) rfl rfl (.int .i64 0) (ex_move _ rfl _ (F.e rfl)) ?_; clear F a; intro a F
 refine list_val F (wn rfl) rfl rfl (.bool false) (ex_bin .lss _ _ _ _ rfl .i64 _ _ (F.e rfl) (F.e rfl) _ (b_lss (by decide))) ?_; clear F a; intro a F
 refine wpList_nil ?_
 replace F : Fr 79 a [(0, .pointer (some ⟨gb, 0, none⟩)), (2, .int .i64 0), (3, .int .i64 0), (18, .bool false)] := F.keep ⟨rfl, rfl, rfl, rfl, trivial⟩
 refine then_n ?_
 refine wp_cond_false (F.e rfl) ?_
 refine wp_exit ?_
 refine then_x ?_
 refine then_x ?_
 refine in_hit ?_
 refine then_n ?_
 refine wp_region_lit ?_
 refine list_val F (wn rfl) rfl rfl (.pointer (some ⟨gb, 0, none⟩)) (ex_move _ rfl _ (F.e rfl)) ?_; clear F a; intro a F
 refine list_val F (wn rfl) rfl rfl (.pointer (some ⟨gb, 0, none⟩)) (ex_move _ rfl _ (F.e rfl)) ?_; clear F a; intro a F
 refine list_val F (wn rfl) rfl rfl (.pointer (some ⟨gb, 0, none⟩)) (ex_nilck _ rfl _ (F.e rfl)) ?_; clear F a; intro a F
 refine list_val F (wn rfl) rfl rfl (.pointer (some ⟨gb, 42, none⟩)) (ex_fa _ _ _ rfl _ (F.e rfl) 42 rg_fa_50_42_42 ⟨gb, 42, none⟩ rfl) ?_; clear F a; intro a F
 refine list_val F (wn rfl) rfl rfl (.slice none 0 0) (ex_load _ _ rfl _ (F.e rfl) _ (lv1 rg_one_39 (M.cell (i := 0) rfl (j := 42) rfl))) ?_; clear F a; intro a F
 refine list_val F (wn rfl) rfl rfl (.int .i64 0) (ex_len _ _ rfl 1 rg_sl_39_1 _ _ _ (F.e rfl)) ?_; clear F a; intro a F
 refine list_val F (wn rfl) rfl rfl (.pointer (some ⟨gb, 0, none⟩)) (ex_nilck _ rfl _ (F.e rfl)) ?_; clear F a; intro a F
 refine list_val F (wn rfl) rfl rfl (.pointer (some ⟨gb, 44, none⟩)) (ex_fa _ _ _ rfl _ (F.e rfl) 44 rg_fa_50_44_44 ⟨gb, 44, none⟩ rfl) ?_; clear F a; intro a F
 refine list_do (wn rfl) (fun K hK => ?_)
 refine ow_store F M rfl 3 _ _ rfl 0 gb ((bkC (kv) (ko) kA tn dn us).toArray) _ rfl 44 (F.e rfl) _ (F.e rfl) [.int .i64 0] rfl rg_info_3_map_size_some_1 (by show 45 ≤ 75; decide) (by simp [Value.oneCell']) ((bkC (kv) (ko) kA tn dn us).toArray) rfl ?_
 clear F a; have Mo := M; clear M; intro a v F M hgr
 refine hK _ _ ?_
 clear hK K
 replace G_ := gg_grown G_ hgr
 clear Mo hgr; try clear w
 replace M : Mm (cutW w gb) v [⟨gb, (bkC (kv) (ko) kA tn dn us).toArray, 50⟩] := M
 refine wpList_nil ?_
 replace F : Fr 79 a [(0, .pointer (some ⟨gb, 0, none⟩)), (2, .int .i64 0), (3, .int .i64 0), (18, .bool false)] := F.keep ⟨rfl, rfl, rfl, rfl, trivial⟩
 exact ret_none F rfl ⟨rfl, gg_same G_ hbk (M.blk 0 _ rfl)⟩
theorem rg_fa_50_45_45 : fa? Tryz.prog 50 45 45 = true := by kernel_rfl
theorem rg_one_40 : one? Tryz.prog 40 = true := by kernel_rfl
theorem rg_sl_40_1 : sl? Tryz.prog 40 1 = true := by kernel_rfl
theorem rg_fa_50_47_47 : fa? Tryz.prog 50 47 47 = true := by kernel_rfl
set_option maxHeartbeats 1000000 in
set_option maxRecDepth 100000 in
theorem growValues_any (gb : Nat) (kv ko : Value) (kA tn dn us : Nat) (w : World) (hbk : w.heap[gb]? = some (.cells (bkC (kv) (ko) kA tn dn us).toArray 50 (0, 0))) :
    Calls Tryz.prog 66 #[.pointer (some ⟨gb, 0, none⟩)] w fun e w' => e = .returned (.tuple #[]) ∧ Below w.heap.size w w' := by
 have G_ := gg_refl w gb
 refine calls_start Tryz.func66 rfl rfl rfl (fun a F => ?_)
 have M : Mm (cutW w gb) w [⟨gb, (bkC (kv) (ko) kA tn dn us).toArray, 50⟩] := cut_one (Nat.le_refl _) hbk
 refine wp_seq ?_
 refine wp_region_lit ?_
 refine list_val F (wn rfl) rfl rfl (.pointer (some ⟨gb, 0, none⟩)) (ex_move _ rfl _ (F.e rfl)) ?_; clear F a; intro a F
 refine list_val F (wn rfl) rfl rfl (.pointer (some ⟨gb, 0, none⟩)) (ex_nilck _ rfl _ (F.e rfl)) ?_; clear F a; intro a F
 refine list_val F (wn rfl) rfl rfl (.pointer (some ⟨gb, 45, none⟩)) (ex_fa _ _ _ rfl _ (F.e rfl) 45 rg_fa_50_45_45 ⟨gb, 45, none⟩ rfl) ?_; clear F a; intro a F
 refine list_val F (wn rfl) rfl rfl (.slice none 0 0) (ex_load _ _ rfl _ (F.e rfl) _ (lv1 rg_one_40 (M.cell (i := 0) rfl (j := 45) rfl))) ?_; clear F a; intro a F
 refine list_val F (wn rfl) rfl rfl (.int .i64 0) (ex_len _ _ rfl 1 rg_sl_40_1 _ _ _ (F.e rfl)) ?_; clear F a; intro a F
 refine list_val F (wn rfl) rfl rfl (.int .i64 0) (ex_assign _ rfl _ (F.e rfl)) ?_; clear F a; intro a F
 refine wpList_nil ?_
 replace F : Fr 79 a [(0, .pointer (some ⟨gb, 0, none⟩)), (2, .int .i64 0)] := F.keep ⟨rfl, rfl, trivial⟩
 refine then_n ?_
 refine wp_seq ?_
 refine wp_seq ?_
 refine wp_region_lit ?_
 refine list_val F (wn rfl) rfl rfl (.pointer (some ⟨gb, 0, none⟩)) (ex_move _ rfl _ (F.e rfl)) ?_; clear F a; intro a F
 refine list_val F (wn rfl) rfl rfl (.pointer (some ⟨gb, 0, none⟩)) (ex_nilck _ rfl _ (F.e rfl)) ?_; clear F a; intro a F
 refine list_val F (wn rfl) rfl rfl (.pointer (some ⟨gb, 47, none⟩)) (ex_fa _ _ _ rfl _ (F.e rfl) 47 rg_fa_50_47_47 ⟨gb, 47, none⟩ rfl) ?_; clear F a; intro a F
 refine list_val F (wn rfl) rfl rfl (.int .i64 0) (ex_load _ _ rfl _ (F.e rfl) _ (lv1 rg_one_3 (M.cell (i := 0) rfl (j := 47) rfl))) ?_; clear F a; intro a F
 refine list_val F (wn rfl) rfl rfl (.int .i64 0) (ex_assign _ rfl _ (F.e rfl)) ?_; clear F a; intro a F
 refine wpList_nil ?_
 replace F : Fr 79 a [(0, .pointer (some ⟨gb, 0, none⟩)), (2, .int .i64 0), (3, .int .i64 0)] := F.keep ⟨rfl, rfl, rfl, trivial⟩
 refine then_n ?_
 refine wp_block ?_
 refine wp_loop_rounds 1 ?_
 refine rounds_do 0 ?_
 refine wp_seq ?_
 refine wp_seq ?_
 refine wp_region_lit ?_
 refine list_val F (wn rfl) rfl rfl (.int .i64 0) (ex_move _ rfl _ (F.e rfl)) ?_; clear F a; intro a F
 refine list_val F (wn rfl) rfl rfl (.int .i64 0) (ex_move _ rfl _ (F.e rfl)) ?_; clear F a; intro a F
 refine list_val F (wn rfl) rfl rfl (.bool false) (ex_bin .lss _ _ _ _ rfl .i64 _ _ (F.e rfl) (F.e rfl) _ (b_lss (by decide))) ?_; clear F a; intro a F
 refine wpList_nil ?_
 replace F : Fr 79 a [(0, .pointer (some ⟨gb, 0, none⟩)), (2, .int .i64 0), (3, .int .i64 0), (18, .bool false)] := F.keep ⟨rfl, rfl, rfl, rfl, trivial⟩
 refine then_n ?_
 refine wp_cond_false (F.e rfl) ?_
 refine wp_exit ?_
 refine then_x ?_
 refine then_x ?_
 refine in_hit ?_
 refine then_n ?_
 refine wp_region_lit ?_
 refine list_val F (wn rfl) rfl rfl (.pointer (some ⟨gb, 0, none⟩)) (ex_move _ rfl _ (F.e rfl)) ?_; clear F a; intro a F
 refine list_val F (wn rfl) rfl rfl (.pointer (some ⟨gb, 0, none⟩)) (ex_move _ rfl _ (F.e rfl)) ?_; clear F a; intro a F
 refine list_val F (wn rfl) rfl rfl (.pointer (some ⟨gb, 0, none⟩)) (ex_nilck _ rfl _ (F.e rfl)) ?_; clear F a; intro a F
 refine list_val F (wn rfl) rfl rfl (.pointer (some ⟨gb, 45, none⟩)) (ex_fa _ _ _ rfl _ (F.e rfl) 45 rg_fa_50_45_45 ⟨gb, 45, none⟩ rfl) ?_; clear F a; intro a F
 refine list_val F (wn rfl) rfl rfl (.slice none 0 0) (ex_load _ _ rfl _ (F.e rfl) _ (lv1 rg_one_40 (M.cell (i := 0) rfl (j := 45) rfl))) ?_; clear F a; intro a F
 refine list_val F (wn rfl) rfl rfl (.int .i64 0) (ex_len _ _ rfl 1 rg_sl_40_1 _ _ _ (F.e rfl)) ?_; clear F a; intro a F
 refine list_val F (wn rfl) rfl rfl (.pointer (some ⟨gb, 0, none⟩)) (ex_nilck _ rfl _ (F.e rfl)) ?_; clear F a; intro a F
 refine list_val F (wn rfl) rfl rfl (.pointer (some ⟨gb, 47, none⟩)) (ex_fa _ _ _ rfl _ (F.e rfl) 47 rg_fa_50_47_47 ⟨gb, 47, none⟩ rfl) ?_; clear F a; intro a F
 refine list_do (wn rfl) (fun K hK => ?_)
 refine ow_store F M rfl 3 _ _ rfl 0 gb ((bkC (kv) (ko) kA tn dn us).toArray) _ rfl 47 (F.e rfl) _ (F.e rfl) [.int .i64 0] rfl rg_info_3_map_size_some_1 (by show 48 ≤ 75; decide) (by simp [Value.oneCell']) ((bkC (kv) (ko) kA tn dn us).toArray) rfl ?_
 clear F a; have Mo := M; clear M; intro a v F M hgr
 refine hK _ _ ?_
 clear hK K
 replace G_ := gg_grown G_ hgr
 clear Mo hgr; try clear w
 replace M : Mm (cutW w gb) v [⟨gb, (bkC (kv) (ko) kA tn dn us).toArray, 50⟩] := M
 refine wpList_nil ?_
 replace F : Fr 79 a [(0, .pointer (some ⟨gb, 0, none⟩)), (2, .int .i64 0), (3, .int .i64 0), (18, .bool false)] := F.keep ⟨rfl, rfl, rfl, rfl, trivial⟩
 exact ret_none F rfl ⟨rfl, gg_same G_ hbk (M.blk 0 _ rfl)⟩
theorem rg_fa_50_48_48 : fa? Tryz.prog 50 48 48 = true := by kernel_rfl
theorem rg_one_41 : one? Tryz.prog 41 = true := by kernel_rfl
theorem rg_sl_41_1 : sl? Tryz.prog 41 1 = true := by kernel_rfl
theorem rg_fa_50_50_50 : fa? Tryz.prog 50 50 50 = true := by kernel_rfl
set_option maxHeartbeats 1000000 in
set_option maxRecDepth 100000 in
theorem growClients_any (gb : Nat) (kv ko : Value) (kA tn dn us : Nat) (w : World) (hbk : w.heap[gb]? = some (.cells (bkC (kv) (ko) kA tn dn us).toArray 50 (0, 0))) :
    Calls Tryz.prog 67 #[.pointer (some ⟨gb, 0, none⟩)] w fun e w' => e = .returned (.tuple #[]) ∧ Below w.heap.size w w' := by
 have G_ := gg_refl w gb
 refine calls_start Tryz.func67 rfl rfl rfl (fun a F => ?_)
 have M : Mm (cutW w gb) w [⟨gb, (bkC (kv) (ko) kA tn dn us).toArray, 50⟩] := cut_one (Nat.le_refl _) hbk
 refine wp_seq ?_
 refine wp_region_lit ?_
 refine list_val F (wn rfl) rfl rfl (.pointer (some ⟨gb, 0, none⟩)) (ex_move _ rfl _ (F.e rfl)) ?_; clear F a; intro a F
 refine list_val F (wn rfl) rfl rfl (.pointer (some ⟨gb, 0, none⟩)) (ex_nilck _ rfl _ (F.e rfl)) ?_; clear F a; intro a F
 refine list_val F (wn rfl) rfl rfl (.pointer (some ⟨gb, 48, none⟩)) (ex_fa _ _ _ rfl _ (F.e rfl) 48 rg_fa_50_48_48 ⟨gb, 48, none⟩ rfl) ?_; clear F a; intro a F
 refine list_val F (wn rfl) rfl rfl (.slice none 0 0) (ex_load _ _ rfl _ (F.e rfl) _ (lv1 rg_one_41 (M.cell (i := 0) rfl (j := 48) rfl))) ?_; clear F a; intro a F
 refine list_val F (wn rfl) rfl rfl (.int .i64 0) (ex_len _ _ rfl 1 rg_sl_41_1 _ _ _ (F.e rfl)) ?_; clear F a; intro a F
 refine list_val F (wn rfl) rfl rfl (.int .i64 0) (ex_assign _ rfl _ (F.e rfl)) ?_; clear F a; intro a F
 refine wpList_nil ?_
 replace F : Fr 79 a [(0, .pointer (some ⟨gb, 0, none⟩)), (2, .int .i64 0)] := F.keep ⟨rfl, rfl, trivial⟩
 refine then_n ?_
 refine wp_seq ?_
 refine wp_seq ?_
 refine wp_region_lit ?_
 refine list_val F (wn rfl) rfl rfl (.pointer (some ⟨gb, 0, none⟩)) (ex_move _ rfl _ (F.e rfl)) ?_; clear F a; intro a F
 refine list_val F (wn rfl) rfl rfl (.pointer (some ⟨gb, 0, none⟩)) (ex_nilck _ rfl _ (F.e rfl)) ?_; clear F a; intro a F
 refine list_val F (wn rfl) rfl rfl (.pointer (some ⟨gb, 50, none⟩)) (ex_fa _ _ _ rfl _ (F.e rfl) 50 rg_fa_50_50_50 ⟨gb, 50, none⟩ rfl) ?_; clear F a; intro a F
 refine list_val F (wn rfl) rfl rfl (.int .i64 0) (ex_load _ _ rfl _ (F.e rfl) _ (lv1 rg_one_3 (M.cell (i := 0) rfl (j := 50) rfl))) ?_; clear F a; intro a F
 refine list_val F (wn rfl) rfl rfl (.int .i64 0) (ex_assign _ rfl _ (F.e rfl)) ?_; clear F a; intro a F
 refine wpList_nil ?_
 replace F : Fr 79 a [(0, .pointer (some ⟨gb, 0, none⟩)), (2, .int .i64 0), (3, .int .i64 0)] := F.keep ⟨rfl, rfl, rfl, trivial⟩
 refine then_n ?_
 refine wp_block ?_
 refine wp_loop_rounds 1 ?_
 refine rounds_do 0 ?_
 refine wp_seq ?_
 refine wp_seq ?_
 refine wp_region_lit ?_
 refine list_val F (wn rfl) rfl rfl (.int .i64 0) (ex_move _ rfl _ (F.e rfl)) ?_; clear F a; intro a F
 refine list_val F (wn rfl) rfl rfl (.int .i64 0) (ex_move _ rfl _ (F.e rfl)) ?_; clear F a; intro a F
 refine list_val F (wn rfl) rfl rfl (.bool false) (ex_bin .lss _ _ _ _ rfl .i64 _ _ (F.e rfl) (F.e rfl) _ (b_lss (by decide))) ?_; clear F a; intro a F
 refine wpList_nil ?_
 replace F : Fr 79 a [(0, .pointer (some ⟨gb, 0, none⟩)), (2, .int .i64 0), (3, .int .i64 0), (18, .bool false)] := F.keep ⟨rfl, rfl, rfl, rfl, trivial⟩
 refine then_n ?_
 refine wp_cond_false (F.e rfl) ?_
 refine wp_exit ?_
 refine then_x ?_
 refine then_x ?_
 refine in_hit ?_
 refine then_n ?_
 refine wp_region_lit ?_
 refine list_val F (wn rfl) rfl rfl (.pointer (some ⟨gb, 0, none⟩)) (ex_move _ rfl _ (F.e rfl)) ?_; clear F a; intro a F
 refine list_val F (wn rfl) rfl rfl (.pointer (some ⟨gb, 0, none⟩)) (ex_move _ rfl _ (F.e rfl)) ?_; clear F a; intro a F
 refine list_val F (wn rfl) rfl rfl (.pointer (some ⟨gb, 0, none⟩)) (ex_nilck _ rfl _ (F.e rfl)) ?_; clear F a; intro a F
 refine list_val F (wn rfl) rfl rfl (.pointer (some ⟨gb, 48, none⟩)) (ex_fa _ _ _ rfl _ (F.e rfl) 48 rg_fa_50_48_48 ⟨gb, 48, none⟩ rfl) ?_; clear F a; intro a F
 refine list_val F (wn rfl) rfl rfl (.slice none 0 0) (ex_load _ _ rfl _ (F.e rfl) _ (lv1 rg_one_41 (M.cell (i := 0) rfl (j := 48) rfl))) ?_; clear F a; intro a F
 refine list_val F (wn rfl) rfl rfl (.int .i64 0) (ex_len _ _ rfl 1 rg_sl_41_1 _ _ _ (F.e rfl)) ?_; clear F a; intro a F
 refine list_val F (wn rfl) rfl rfl (.pointer (some ⟨gb, 0, none⟩)) (ex_nilck _ rfl _ (F.e rfl)) ?_; clear F a; intro a F
 refine list_val F (wn rfl) rfl rfl (.pointer (some ⟨gb, 50, none⟩)) (ex_fa _ _ _ rfl _ (F.e rfl) 50 rg_fa_50_50_50 ⟨gb, 50, none⟩ rfl) ?_; clear F a; intro a F
 refine list_do (wn rfl) (fun K hK => ?_)
 refine ow_store F M rfl 3 _ _ rfl 0 gb ((bkC (kv) (ko) kA tn dn us).toArray) _ rfl 50 (F.e rfl) _ (F.e rfl) [.int .i64 0] rfl rg_info_3_map_size_some_1 (by show 51 ≤ 75; decide) (by simp [Value.oneCell']) ((bkC (kv) (ko) kA tn dn us).toArray) rfl ?_
 clear F a; have Mo := M; clear M; intro a v F M hgr
 refine hK _ _ ?_
 clear hK K
 replace G_ := gg_grown G_ hgr
 clear Mo hgr; try clear w
 replace M : Mm (cutW w gb) v [⟨gb, (bkC (kv) (ko) kA tn dn us).toArray, 50⟩] := M
 refine wpList_nil ?_
 replace F : Fr 79 a [(0, .pointer (some ⟨gb, 0, none⟩)), (2, .int .i64 0), (3, .int .i64 0), (18, .bool false)] := F.keep ⟨rfl, rfl, rfl, rfl, trivial⟩
 exact ret_none F rfl ⟨rfl, gg_same G_ hbk (M.blk 0 _ rfl)⟩
theorem rg_fa_50_51_51 : fa? Tryz.prog 50 51 51 = true := by kernel_rfl
theorem rg_one_42 : one? Tryz.prog 42 = true := by kernel_rfl
theorem rg_sl_42_1 : sl? Tryz.prog 42 1 = true := by kernel_rfl
theorem rg_fa_50_53_53 : fa? Tryz.prog 50 53 53 = true := by kernel_rfl
set_option maxHeartbeats 1000000 in
set_option maxRecDepth 100000 in
theorem growConsents_any (gb : Nat) (kv ko : Value) (kA tn dn us : Nat) (w : World) (hbk : w.heap[gb]? = some (.cells (bkC (kv) (ko) kA tn dn us).toArray 50 (0, 0))) :
    Calls Tryz.prog 68 #[.pointer (some ⟨gb, 0, none⟩)] w fun e w' => e = .returned (.tuple #[]) ∧ Below w.heap.size w w' := by
 have G_ := gg_refl w gb
 refine calls_start Tryz.func68 rfl rfl rfl (fun a F => ?_)
 have M : Mm (cutW w gb) w [⟨gb, (bkC (kv) (ko) kA tn dn us).toArray, 50⟩] := cut_one (Nat.le_refl _) hbk
 refine wp_seq ?_
 refine wp_region_lit ?_
 refine list_val F (wn rfl) rfl rfl (.pointer (some ⟨gb, 0, none⟩)) (ex_move _ rfl _ (F.e rfl)) ?_; clear F a; intro a F
 refine list_val F (wn rfl) rfl rfl (.pointer (some ⟨gb, 0, none⟩)) (ex_nilck _ rfl _ (F.e rfl)) ?_; clear F a; intro a F
 refine list_val F (wn rfl) rfl rfl (.pointer (some ⟨gb, 51, none⟩)) (ex_fa _ _ _ rfl _ (F.e rfl) 51 rg_fa_50_51_51 ⟨gb, 51, none⟩ rfl) ?_; clear F a; intro a F
 refine list_val F (wn rfl) rfl rfl (.slice none 0 0) (ex_load _ _ rfl _ (F.e rfl) _ (lv1 rg_one_42 (M.cell (i := 0) rfl (j := 51) rfl))) ?_; clear F a; intro a F
 refine list_val F (wn rfl) rfl rfl (.int .i64 0) (ex_len _ _ rfl 1 rg_sl_42_1 _ _ _ (F.e rfl)) ?_; clear F a; intro a F
 refine list_val F (wn rfl) rfl rfl (.int .i64 0) (ex_assign _ rfl _ (F.e rfl)) ?_; clear F a; intro a F
 refine wpList_nil ?_
 replace F : Fr 79 a [(0, .pointer (some ⟨gb, 0, none⟩)), (2, .int .i64 0)] := F.keep ⟨rfl, rfl, trivial⟩
 refine then_n ?_
 refine wp_seq ?_
 refine wp_seq ?_
 refine wp_region_lit ?_
 refine list_val F (wn rfl) rfl rfl (.pointer (some ⟨gb, 0, none⟩)) (ex_move _ rfl _ (F.e rfl)) ?_; clear F a; intro a F
 refine list_val F (wn rfl) rfl rfl (.pointer (some ⟨gb, 0, none⟩)) (ex_nilck _ rfl _ (F.e rfl)) ?_; clear F a; intro a F
 refine list_val F (wn rfl) rfl rfl (.pointer (some ⟨gb, 53, none⟩)) (ex_fa _ _ _ rfl _ (F.e rfl) 53 rg_fa_50_53_53 ⟨gb, 53, none⟩ rfl) ?_; clear F a; intro a F
 refine list_val F (wn rfl) rfl rfl (.int .i64 0) (ex_load _ _ rfl _ (F.e rfl) _ (lv1 rg_one_3 (M.cell (i := 0) rfl (j := 53) rfl))) ?_; clear F a; intro a F
 refine list_val F (wn rfl) rfl rfl (.int .i64 0) (ex_assign _ rfl _ (F.e rfl)) ?_; clear F a; intro a F
 refine wpList_nil ?_
 replace F : Fr 79 a [(0, .pointer (some ⟨gb, 0, none⟩)), (2, .int .i64 0), (3, .int .i64 0)] := F.keep ⟨rfl, rfl, rfl, trivial⟩
 refine then_n ?_
 refine wp_block ?_
 refine wp_loop_rounds 1 ?_
 refine rounds_do 0 ?_
 refine wp_seq ?_
 refine wp_seq ?_
 refine wp_region_lit ?_
 refine list_val F (wn rfl) rfl rfl (.int .i64 0) (ex_move _ rfl _ (F.e rfl)) ?_; clear F a; intro a F
 refine list_val F (wn rfl) rfl rfl (.int .i64 0) (ex_move _ rfl _ (F.e rfl)) ?_; clear F a; intro a F
 refine list_val F (wn rfl) rfl rfl (.bool false) (ex_bin .lss _ _ _ _ rfl .i64 _ _ (F.e rfl) (F.e rfl) _ (b_lss (by decide))) ?_; clear F a; intro a F
 refine wpList_nil ?_
 replace F : Fr 79 a [(0, .pointer (some ⟨gb, 0, none⟩)), (2, .int .i64 0), (3, .int .i64 0), (18, .bool false)] := F.keep ⟨rfl, rfl, rfl, rfl, trivial⟩
 refine then_n ?_
 refine wp_cond_false (F.e rfl) ?_
 refine wp_exit ?_
 refine then_x ?_
 refine then_x ?_
 refine in_hit ?_
 refine then_n ?_
 refine wp_region_lit ?_
 refine list_val F (wn rfl) rfl rfl (.pointer (some ⟨gb, 0, none⟩)) (ex_move _ rfl _ (F.e rfl)) ?_; clear F a; intro a F
 refine list_val F (wn rfl) rfl rfl (.pointer (some ⟨gb, 0, none⟩)) (ex_move _ rfl _ (F.e rfl)) ?_; clear F a; intro a F
 refine list_val F (wn rfl) rfl rfl (.pointer (some ⟨gb, 0, none⟩)) (ex_nilck _ rfl _ (F.e rfl)) ?_; clear F a; intro a F
 refine list_val F (wn rfl) rfl rfl (.pointer (some ⟨gb, 51, none⟩)) (ex_fa _ _ _ rfl _ (F.e rfl) 51 rg_fa_50_51_51 ⟨gb, 51, none⟩ rfl) ?_; clear F a; intro a F
 refine list_val F (wn rfl) rfl rfl (.slice none 0 0) (ex_load _ _ rfl _ (F.e rfl) _ (lv1 rg_one_42 (M.cell (i := 0) rfl (j := 51) rfl))) ?_; clear F a; intro a F
 refine list_val F (wn rfl) rfl rfl (.int .i64 0) (ex_len _ _ rfl 1 rg_sl_42_1 _ _ _ (F.e rfl)) ?_; clear F a; intro a F
 refine list_val F (wn rfl) rfl rfl (.pointer (some ⟨gb, 0, none⟩)) (ex_nilck _ rfl _ (F.e rfl)) ?_; clear F a; intro a F
 refine list_val F (wn rfl) rfl rfl (.pointer (some ⟨gb, 53, none⟩)) (ex_fa _ _ _ rfl _ (F.e rfl) 53 rg_fa_50_53_53 ⟨gb, 53, none⟩ rfl) ?_; clear F a; intro a F
 refine list_do (wn rfl) (fun K hK => ?_)
 refine ow_store F M rfl 3 _ _ rfl 0 gb ((bkC (kv) (ko) kA tn dn us).toArray) _ rfl 53 (F.e rfl) _ (F.e rfl) [.int .i64 0] rfl rg_info_3_map_size_some_1 (by show 54 ≤ 75; decide) (by simp [Value.oneCell']) ((bkC (kv) (ko) kA tn dn us).toArray) rfl ?_
 clear F a; have Mo := M; clear M; intro a v F M hgr
 refine hK _ _ ?_
 clear hK K
 replace G_ := gg_grown G_ hgr
 clear Mo hgr; try clear w
 replace M : Mm (cutW w gb) v [⟨gb, (bkC (kv) (ko) kA tn dn us).toArray, 50⟩] := M
 refine wpList_nil ?_
 replace F : Fr 79 a [(0, .pointer (some ⟨gb, 0, none⟩)), (2, .int .i64 0), (3, .int .i64 0), (18, .bool false)] := F.keep ⟨rfl, rfl, rfl, rfl, trivial⟩
 exact ret_none F rfl ⟨rfl, gg_same G_ hbk (M.blk 0 _ rfl)⟩
theorem rg_fa_50_54_54 : fa? Tryz.prog 50 54 54 = true := by kernel_rfl
theorem rg_one_43 : one? Tryz.prog 43 = true := by kernel_rfl
theorem rg_sl_43_1 : sl? Tryz.prog 43 1 = true := by kernel_rfl
theorem rg_fa_50_56_56 : fa? Tryz.prog 50 56 56 = true := by kernel_rfl
set_option maxHeartbeats 1000000 in
set_option maxRecDepth 100000 in
theorem growCodes_any (gb : Nat) (kv ko : Value) (kA tn dn us : Nat) (w : World) (hbk : w.heap[gb]? = some (.cells (bkC (kv) (ko) kA tn dn us).toArray 50 (0, 0))) :
    Calls Tryz.prog 69 #[.pointer (some ⟨gb, 0, none⟩)] w fun e w' => e = .returned (.tuple #[]) ∧ Below w.heap.size w w' := by
 have G_ := gg_refl w gb
 refine calls_start Tryz.func69 rfl rfl rfl (fun a F => ?_)
 have M : Mm (cutW w gb) w [⟨gb, (bkC (kv) (ko) kA tn dn us).toArray, 50⟩] := cut_one (Nat.le_refl _) hbk
 refine wp_seq ?_
 refine wp_region_lit ?_
 refine list_val F (wn rfl) rfl rfl (.pointer (some ⟨gb, 0, none⟩)) (ex_move _ rfl _ (F.e rfl)) ?_; clear F a; intro a F
 refine list_val F (wn rfl) rfl rfl (.pointer (some ⟨gb, 0, none⟩)) (ex_nilck _ rfl _ (F.e rfl)) ?_; clear F a; intro a F
 refine list_val F (wn rfl) rfl rfl (.pointer (some ⟨gb, 54, none⟩)) (ex_fa _ _ _ rfl _ (F.e rfl) 54 rg_fa_50_54_54 ⟨gb, 54, none⟩ rfl) ?_; clear F a; intro a F
 refine list_val F (wn rfl) rfl rfl (.slice none 0 0) (ex_load _ _ rfl _ (F.e rfl) _ (lv1 rg_one_43 (M.cell (i := 0) rfl (j := 54) rfl))) ?_; clear F a; intro a F
 refine list_val F (wn rfl) rfl rfl (.int .i64 0) (ex_len _ _ rfl 1 rg_sl_43_1 _ _ _ (F.e rfl)) ?_; clear F a; intro a F
 refine list_val F (wn rfl) rfl rfl (.int .i64 0) (ex_assign _ rfl _ (F.e rfl)) ?_; clear F a; intro a F
 refine wpList_nil ?_
 replace F : Fr 79 a [(0, .pointer (some ⟨gb, 0, none⟩)), (2, .int .i64 0)] := F.keep ⟨rfl, rfl, trivial⟩
 refine then_n ?_
 refine wp_seq ?_
 refine wp_seq ?_
 refine wp_region_lit ?_
 refine list_val F (wn rfl) rfl rfl (.pointer (some ⟨gb, 0, none⟩)) (ex_move _ rfl _ (F.e rfl)) ?_; clear F a; intro a F
 refine list_val F (wn rfl) rfl rfl (.pointer (some ⟨gb, 0, none⟩)) (ex_nilck _ rfl _ (F.e rfl)) ?_; clear F a; intro a F
 refine list_val F (wn rfl) rfl rfl (.pointer (some ⟨gb, 56, none⟩)) (ex_fa _ _ _ rfl _ (F.e rfl) 56 rg_fa_50_56_56 ⟨gb, 56, none⟩ rfl) ?_; clear F a; intro a F
 refine list_val F (wn rfl) rfl rfl (.int .i64 0) (ex_load _ _ rfl _ (F.e rfl) _ (lv1 rg_one_3 (M.cell (i := 0) rfl (j := 56) rfl))) ?_; clear F a; intro a F
 refine list_val F (wn rfl) rfl rfl (.int .i64 0) (ex_assign _ rfl _ (F.e rfl)) ?_; clear F a; intro a F
 refine wpList_nil ?_
 replace F : Fr 79 a [(0, .pointer (some ⟨gb, 0, none⟩)), (2, .int .i64 0), (3, .int .i64 0)] := F.keep ⟨rfl, rfl, rfl, trivial⟩
 refine then_n ?_
 refine wp_block ?_
 refine wp_loop_rounds 1 ?_
 refine rounds_do 0 ?_
 refine wp_seq ?_
 refine wp_seq ?_
 refine wp_region_lit ?_
 refine list_val F (wn rfl) rfl rfl (.int .i64 0) (ex_move _ rfl _ (F.e rfl)) ?_; clear F a; intro a F
 refine list_val F (wn rfl) rfl rfl (.int .i64 0) (ex_move _ rfl _ (F.e rfl)) ?_; clear F a; intro a F
 refine list_val F (wn rfl) rfl rfl (.bool false) (ex_bin .lss _ _ _ _ rfl .i64 _ _ (F.e rfl) (F.e rfl) _ (b_lss (by decide))) ?_; clear F a; intro a F
 refine wpList_nil ?_
 replace F : Fr 79 a [(0, .pointer (some ⟨gb, 0, none⟩)), (2, .int .i64 0), (3, .int .i64 0), (18, .bool false)] := F.keep ⟨rfl, rfl, rfl, rfl, trivial⟩
 refine then_n ?_
 refine wp_cond_false (F.e rfl) ?_
 refine wp_exit ?_
 refine then_x ?_
 refine then_x ?_
 refine in_hit ?_
 refine then_n ?_
 refine wp_region_lit ?_
 refine list_val F (wn rfl) rfl rfl (.pointer (some ⟨gb, 0, none⟩)) (ex_move _ rfl _ (F.e rfl)) ?_; clear F a; intro a F
 refine list_val F (wn rfl) rfl rfl (.pointer (some ⟨gb, 0, none⟩)) (ex_move _ rfl _ (F.e rfl)) ?_; clear F a; intro a F
 refine list_val F (wn rfl) rfl rfl (.pointer (some ⟨gb, 0, none⟩)) (ex_nilck _ rfl _ (F.e rfl)) ?_; clear F a; intro a F
 refine list_val F (wn rfl) rfl rfl (.pointer (some ⟨gb, 54, none⟩)) (ex_fa _ _ _ rfl _ (F.e rfl) 54 rg_fa_50_54_54 ⟨gb, 54, none⟩ rfl) ?_; clear F a; intro a F
 refine list_val F (wn rfl) rfl rfl (.slice none 0 0) (ex_load _ _ rfl _ (F.e rfl) _ (lv1 rg_one_43 (M.cell (i := 0) rfl (j := 54) rfl))) ?_; clear F a; intro a F
 refine list_val F (wn rfl) rfl rfl (.int .i64 0) (ex_len _ _ rfl 1 rg_sl_43_1 _ _ _ (F.e rfl)) ?_; clear F a; intro a F
 refine list_val F (wn rfl) rfl rfl (.pointer (some ⟨gb, 0, none⟩)) (ex_nilck _ rfl _ (F.e rfl)) ?_; clear F a; intro a F
 refine list_val F (wn rfl) rfl rfl (.pointer (some ⟨gb, 56, none⟩)) (ex_fa _ _ _ rfl _ (F.e rfl) 56 rg_fa_50_56_56 ⟨gb, 56, none⟩ rfl) ?_; clear F a; intro a F
 refine list_do (wn rfl) (fun K hK => ?_)
 refine ow_store F M rfl 3 _ _ rfl 0 gb ((bkC (kv) (ko) kA tn dn us).toArray) _ rfl 56 (F.e rfl) _ (F.e rfl) [.int .i64 0] rfl rg_info_3_map_size_some_1 (by show 57 ≤ 75; decide) (by simp [Value.oneCell']) ((bkC (kv) (ko) kA tn dn us).toArray) rfl ?_
 clear F a; have Mo := M; clear M; intro a v F M hgr
 refine hK _ _ ?_
 clear hK K
 replace G_ := gg_grown G_ hgr
 clear Mo hgr; try clear w
 replace M : Mm (cutW w gb) v [⟨gb, (bkC (kv) (ko) kA tn dn us).toArray, 50⟩] := M
 refine wpList_nil ?_
 replace F : Fr 79 a [(0, .pointer (some ⟨gb, 0, none⟩)), (2, .int .i64 0), (3, .int .i64 0), (18, .bool false)] := F.keep ⟨rfl, rfl, rfl, rfl, trivial⟩
 exact ret_none F rfl ⟨rfl, gg_same G_ hbk (M.blk 0 _ rfl)⟩
theorem rg_fa_50_57_57 : fa? Tryz.prog 50 57 57 = true := by kernel_rfl
theorem rg_one_44 : one? Tryz.prog 44 = true := by kernel_rfl
theorem rg_sl_44_1 : sl? Tryz.prog 44 1 = true := by kernel_rfl
theorem rg_fa_50_59_59 : fa? Tryz.prog 50 59 59 = true := by kernel_rfl
set_option maxHeartbeats 1000000 in
set_option maxRecDepth 100000 in
theorem growGrants_any (gb : Nat) (kv ko : Value) (kA tn dn us : Nat) (w : World) (hbk : w.heap[gb]? = some (.cells (bkC (kv) (ko) kA tn dn us).toArray 50 (0, 0))) :
    Calls Tryz.prog 70 #[.pointer (some ⟨gb, 0, none⟩)] w fun e w' => e = .returned (.tuple #[]) ∧ Below w.heap.size w w' := by
 have G_ := gg_refl w gb
 refine calls_start Tryz.func70 rfl rfl rfl (fun a F => ?_)
 have M : Mm (cutW w gb) w [⟨gb, (bkC (kv) (ko) kA tn dn us).toArray, 50⟩] := cut_one (Nat.le_refl _) hbk
 refine wp_seq ?_
 refine wp_region_lit ?_
 refine list_val F (wn rfl) rfl rfl (.pointer (some ⟨gb, 0, none⟩)) (ex_move _ rfl _ (F.e rfl)) ?_; clear F a; intro a F
 refine list_val F (wn rfl) rfl rfl (.pointer (some ⟨gb, 0, none⟩)) (ex_nilck _ rfl _ (F.e rfl)) ?_; clear F a; intro a F
 refine list_val F (wn rfl) rfl rfl (.pointer (some ⟨gb, 57, none⟩)) (ex_fa _ _ _ rfl _ (F.e rfl) 57 rg_fa_50_57_57 ⟨gb, 57, none⟩ rfl) ?_; clear F a; intro a F
 refine list_val F (wn rfl) rfl rfl (.slice none 0 0) (ex_load _ _ rfl _ (F.e rfl) _ (lv1 rg_one_44 (M.cell (i := 0) rfl (j := 57) rfl))) ?_; clear F a; intro a F
 refine list_val F (wn rfl) rfl rfl (.int .i64 0) (ex_len _ _ rfl 1 rg_sl_44_1 _ _ _ (F.e rfl)) ?_; clear F a; intro a F
 refine list_val F (wn rfl) rfl rfl (.int .i64 0) (ex_assign _ rfl _ (F.e rfl)) ?_; clear F a; intro a F
 refine wpList_nil ?_
 replace F : Fr 79 a [(0, .pointer (some ⟨gb, 0, none⟩)), (2, .int .i64 0)] := F.keep ⟨rfl, rfl, trivial⟩
 refine then_n ?_
 refine wp_seq ?_
 refine wp_seq ?_
 refine wp_region_lit ?_
 refine list_val F (wn rfl) rfl rfl (.pointer (some ⟨gb, 0, none⟩)) (ex_move _ rfl _ (F.e rfl)) ?_; clear F a; intro a F
 refine list_val F (wn rfl) rfl rfl (.pointer (some ⟨gb, 0, none⟩)) (ex_nilck _ rfl _ (F.e rfl)) ?_; clear F a; intro a F
 refine list_val F (wn rfl) rfl rfl (.pointer (some ⟨gb, 59, none⟩)) (ex_fa _ _ _ rfl _ (F.e rfl) 59 rg_fa_50_59_59 ⟨gb, 59, none⟩ rfl) ?_; clear F a; intro a F
 refine list_val F (wn rfl) rfl rfl (.int .i64 0) (ex_load _ _ rfl _ (F.e rfl) _ (lv1 rg_one_3 (M.cell (i := 0) rfl (j := 59) rfl))) ?_; clear F a; intro a F
 refine list_val F (wn rfl) rfl rfl (.int .i64 0) (ex_assign _ rfl _ (F.e rfl)) ?_; clear F a; intro a F
 refine wpList_nil ?_
 replace F : Fr 79 a [(0, .pointer (some ⟨gb, 0, none⟩)), (2, .int .i64 0), (3, .int .i64 0)] := F.keep ⟨rfl, rfl, rfl, trivial⟩
 refine then_n ?_
 refine wp_block ?_
 refine wp_loop_rounds 1 ?_
 refine rounds_do 0 ?_
 refine wp_seq ?_
 refine wp_seq ?_
 refine wp_region_lit ?_
 refine list_val F (wn rfl) rfl rfl (.int .i64 0) (ex_move _ rfl _ (F.e rfl)) ?_; clear F a; intro a F
 refine list_val F (wn rfl) rfl rfl (.int .i64 0) (ex_move _ rfl _ (F.e rfl)) ?_; clear F a; intro a F
 refine list_val F (wn rfl) rfl rfl (.bool false) (ex_bin .lss _ _ _ _ rfl .i64 _ _ (F.e rfl) (F.e rfl) _ (b_lss (by decide))) ?_; clear F a; intro a F
 refine wpList_nil ?_
 replace F : Fr 79 a [(0, .pointer (some ⟨gb, 0, none⟩)), (2, .int .i64 0), (3, .int .i64 0), (18, .bool false)] := F.keep ⟨rfl, rfl, rfl, rfl, trivial⟩
 refine then_n ?_
 refine wp_cond_false (F.e rfl) ?_
 refine wp_exit ?_
 refine then_x ?_
 refine then_x ?_
 refine in_hit ?_
 refine then_n ?_
 refine wp_region_lit ?_
 refine list_val F (wn rfl) rfl rfl (.pointer (some ⟨gb, 0, none⟩)) (ex_move _ rfl _ (F.e rfl)) ?_; clear F a; intro a F
 refine list_val F (wn rfl) rfl rfl (.pointer (some ⟨gb, 0, none⟩)) (ex_move _ rfl _ (F.e rfl)) ?_; clear F a; intro a F
 refine list_val F (wn rfl) rfl rfl (.pointer (some ⟨gb, 0, none⟩)) (ex_nilck _ rfl _ (F.e rfl)) ?_; clear F a; intro a F
 refine list_val F (wn rfl) rfl rfl (.pointer (some ⟨gb, 57, none⟩)) (ex_fa _ _ _ rfl _ (F.e rfl) 57 rg_fa_50_57_57 ⟨gb, 57, none⟩ rfl) ?_; clear F a; intro a F
 refine list_val F (wn rfl) rfl rfl (.slice none 0 0) (ex_load _ _ rfl _ (F.e rfl) _ (lv1 rg_one_44 (M.cell (i := 0) rfl (j := 57) rfl))) ?_; clear F a; intro a F
 refine list_val F (wn rfl) rfl rfl (.int .i64 0) (ex_len _ _ rfl 1 rg_sl_44_1 _ _ _ (F.e rfl)) ?_; clear F a; intro a F
 refine list_val F (wn rfl) rfl rfl (.pointer (some ⟨gb, 0, none⟩)) (ex_nilck _ rfl _ (F.e rfl)) ?_; clear F a; intro a F
 refine list_val F (wn rfl) rfl rfl (.pointer (some ⟨gb, 59, none⟩)) (ex_fa _ _ _ rfl _ (F.e rfl) 59 rg_fa_50_59_59 ⟨gb, 59, none⟩ rfl) ?_; clear F a; intro a F
 refine list_do (wn rfl) (fun K hK => ?_)
 refine ow_store F M rfl 3 _ _ rfl 0 gb ((bkC (kv) (ko) kA tn dn us).toArray) _ rfl 59 (F.e rfl) _ (F.e rfl) [.int .i64 0] rfl rg_info_3_map_size_some_1 (by show 60 ≤ 75; decide) (by simp [Value.oneCell']) ((bkC (kv) (ko) kA tn dn us).toArray) rfl ?_
 clear F a; have Mo := M; clear M; intro a v F M hgr
 refine hK _ _ ?_
 clear hK K
 replace G_ := gg_grown G_ hgr
 clear Mo hgr; try clear w
 replace M : Mm (cutW w gb) v [⟨gb, (bkC (kv) (ko) kA tn dn us).toArray, 50⟩] := M
 refine wpList_nil ?_
 replace F : Fr 79 a [(0, .pointer (some ⟨gb, 0, none⟩)), (2, .int .i64 0), (3, .int .i64 0), (18, .bool false)] := F.keep ⟨rfl, rfl, rfl, rfl, trivial⟩
 exact ret_none F rfl ⟨rfl, gg_same G_ hbk (M.blk 0 _ rfl)⟩
theorem rg_fa_50_60_60 : fa? Tryz.prog 50 60 60 = true := by kernel_rfl
theorem rg_one_45 : one? Tryz.prog 45 = true := by kernel_rfl
theorem rg_sl_45_1 : sl? Tryz.prog 45 1 = true := by kernel_rfl
theorem rg_fa_50_62_62 : fa? Tryz.prog 50 62 62 = true := by kernel_rfl
set_option maxHeartbeats 1000000 in
set_option maxRecDepth 100000 in
theorem growClaims_any (gb : Nat) (kv ko : Value) (kA tn dn us : Nat) (w : World) (hbk : w.heap[gb]? = some (.cells (bkC (kv) (ko) kA tn dn us).toArray 50 (0, 0))) :
    Calls Tryz.prog 71 #[.pointer (some ⟨gb, 0, none⟩)] w fun e w' => e = .returned (.tuple #[]) ∧ Below w.heap.size w w' := by
 have G_ := gg_refl w gb
 refine calls_start Tryz.func71 rfl rfl rfl (fun a F => ?_)
 have M : Mm (cutW w gb) w [⟨gb, (bkC (kv) (ko) kA tn dn us).toArray, 50⟩] := cut_one (Nat.le_refl _) hbk
 refine wp_seq ?_
 refine wp_region_lit ?_
 refine list_val F (wn rfl) rfl rfl (.pointer (some ⟨gb, 0, none⟩)) (ex_move _ rfl _ (F.e rfl)) ?_; clear F a; intro a F
 refine list_val F (wn rfl) rfl rfl (.pointer (some ⟨gb, 0, none⟩)) (ex_nilck _ rfl _ (F.e rfl)) ?_; clear F a; intro a F
 refine list_val F (wn rfl) rfl rfl (.pointer (some ⟨gb, 60, none⟩)) (ex_fa _ _ _ rfl _ (F.e rfl) 60 rg_fa_50_60_60 ⟨gb, 60, none⟩ rfl) ?_; clear F a; intro a F
 refine list_val F (wn rfl) rfl rfl (.slice none 0 0) (ex_load _ _ rfl _ (F.e rfl) _ (lv1 rg_one_45 (M.cell (i := 0) rfl (j := 60) rfl))) ?_; clear F a; intro a F
 refine list_val F (wn rfl) rfl rfl (.int .i64 0) (ex_len _ _ rfl 1 rg_sl_45_1 _ _ _ (F.e rfl)) ?_; clear F a; intro a F
 refine list_val F (wn rfl) rfl rfl (.int .i64 0) (ex_assign _ rfl _ (F.e rfl)) ?_; clear F a; intro a F
 refine wpList_nil ?_
 replace F : Fr 79 a [(0, .pointer (some ⟨gb, 0, none⟩)), (2, .int .i64 0)] := F.keep ⟨rfl, rfl, trivial⟩
 refine then_n ?_
 refine wp_seq ?_
 refine wp_seq ?_
 refine wp_region_lit ?_
 refine list_val F (wn rfl) rfl rfl (.pointer (some ⟨gb, 0, none⟩)) (ex_move _ rfl _ (F.e rfl)) ?_; clear F a; intro a F
 refine list_val F (wn rfl) rfl rfl (.pointer (some ⟨gb, 0, none⟩)) (ex_nilck _ rfl _ (F.e rfl)) ?_; clear F a; intro a F
 refine list_val F (wn rfl) rfl rfl (.pointer (some ⟨gb, 62, none⟩)) (ex_fa _ _ _ rfl _ (F.e rfl) 62 rg_fa_50_62_62 ⟨gb, 62, none⟩ rfl) ?_; clear F a; intro a F
 refine list_val F (wn rfl) rfl rfl (.int .i64 0) (ex_load _ _ rfl _ (F.e rfl) _ (lv1 rg_one_3 (M.cell (i := 0) rfl (j := 62) rfl))) ?_; clear F a; intro a F
 refine list_val F (wn rfl) rfl rfl (.int .i64 0) (ex_assign _ rfl _ (F.e rfl)) ?_; clear F a; intro a F
 refine wpList_nil ?_
 replace F : Fr 79 a [(0, .pointer (some ⟨gb, 0, none⟩)), (2, .int .i64 0), (3, .int .i64 0)] := F.keep ⟨rfl, rfl, rfl, trivial⟩
 refine then_n ?_
 refine wp_block ?_
 refine wp_loop_rounds 1 ?_
 refine rounds_do 0 ?_
 refine wp_seq ?_
 refine wp_seq ?_
 refine wp_region_lit ?_
 refine list_val F (wn rfl) rfl rfl (.int .i64 0) (ex_move _ rfl _ (F.e rfl)) ?_; clear F a; intro a F
 refine list_val F (wn rfl) rfl rfl (.int .i64 0) (ex_move _ rfl _ (F.e rfl)) ?_; clear F a; intro a F
 refine list_val F (wn rfl) rfl rfl (.bool false) (ex_bin .lss _ _ _ _ rfl .i64 _ _ (F.e rfl) (F.e rfl) _ (b_lss (by decide))) ?_; clear F a; intro a F
 refine wpList_nil ?_
 replace F : Fr 79 a [(0, .pointer (some ⟨gb, 0, none⟩)), (2, .int .i64 0), (3, .int .i64 0), (18, .bool false)] := F.keep ⟨rfl, rfl, rfl, rfl, trivial⟩
 refine then_n ?_
 refine wp_cond_false (F.e rfl) ?_
 refine wp_exit ?_
 refine then_x ?_
 refine then_x ?_
 refine in_hit ?_
 refine then_n ?_
 refine wp_region_lit ?_
 refine list_val F (wn rfl) rfl rfl (.pointer (some ⟨gb, 0, none⟩)) (ex_move _ rfl _ (F.e rfl)) ?_; clear F a; intro a F
 refine list_val F (wn rfl) rfl rfl (.pointer (some ⟨gb, 0, none⟩)) (ex_move _ rfl _ (F.e rfl)) ?_; clear F a; intro a F
 refine list_val F (wn rfl) rfl rfl (.pointer (some ⟨gb, 0, none⟩)) (ex_nilck _ rfl _ (F.e rfl)) ?_; clear F a; intro a F
 refine list_val F (wn rfl) rfl rfl (.pointer (some ⟨gb, 60, none⟩)) (ex_fa _ _ _ rfl _ (F.e rfl) 60 rg_fa_50_60_60 ⟨gb, 60, none⟩ rfl) ?_; clear F a; intro a F
 refine list_val F (wn rfl) rfl rfl (.slice none 0 0) (ex_load _ _ rfl _ (F.e rfl) _ (lv1 rg_one_45 (M.cell (i := 0) rfl (j := 60) rfl))) ?_; clear F a; intro a F
 refine list_val F (wn rfl) rfl rfl (.int .i64 0) (ex_len _ _ rfl 1 rg_sl_45_1 _ _ _ (F.e rfl)) ?_; clear F a; intro a F
 refine list_val F (wn rfl) rfl rfl (.pointer (some ⟨gb, 0, none⟩)) (ex_nilck _ rfl _ (F.e rfl)) ?_; clear F a; intro a F
 refine list_val F (wn rfl) rfl rfl (.pointer (some ⟨gb, 62, none⟩)) (ex_fa _ _ _ rfl _ (F.e rfl) 62 rg_fa_50_62_62 ⟨gb, 62, none⟩ rfl) ?_; clear F a; intro a F
 refine list_do (wn rfl) (fun K hK => ?_)
 refine ow_store F M rfl 3 _ _ rfl 0 gb ((bkC (kv) (ko) kA tn dn us).toArray) _ rfl 62 (F.e rfl) _ (F.e rfl) [.int .i64 0] rfl rg_info_3_map_size_some_1 (by show 63 ≤ 75; decide) (by simp [Value.oneCell']) ((bkC (kv) (ko) kA tn dn us).toArray) rfl ?_
 clear F a; have Mo := M; clear M; intro a v F M hgr
 refine hK _ _ ?_
 clear hK K
 replace G_ := gg_grown G_ hgr
 clear Mo hgr; try clear w
 replace M : Mm (cutW w gb) v [⟨gb, (bkC (kv) (ko) kA tn dn us).toArray, 50⟩] := M
 refine wpList_nil ?_
 replace F : Fr 79 a [(0, .pointer (some ⟨gb, 0, none⟩)), (2, .int .i64 0), (3, .int .i64 0), (18, .bool false)] := F.keep ⟨rfl, rfl, rfl, rfl, trivial⟩
 exact ret_none F rfl ⟨rfl, gg_same G_ hbk (M.blk 0 _ rfl)⟩
theorem rg_fa_50_63_63 : fa? Tryz.prog 50 63 63 = true := by kernel_rfl
theorem rg_one_46 : one? Tryz.prog 46 = true := by kernel_rfl
theorem rg_sl_46_1 : sl? Tryz.prog 46 1 = true := by kernel_rfl
theorem rg_fa_50_65_65 : fa? Tryz.prog 50 65 65 = true := by kernel_rfl
set_option maxHeartbeats 1000000 in
set_option maxRecDepth 100000 in
theorem growRoutes_any (gb : Nat) (kv ko : Value) (kA tn dn us : Nat) (w : World) (hbk : w.heap[gb]? = some (.cells (bkC (kv) (ko) kA tn dn us).toArray 50 (0, 0))) :
    Calls Tryz.prog 72 #[.pointer (some ⟨gb, 0, none⟩)] w fun e w' => e = .returned (.tuple #[]) ∧ Below w.heap.size w w' := by
 have G_ := gg_refl w gb
 refine calls_start Tryz.func72 rfl rfl rfl (fun a F => ?_)
 have M : Mm (cutW w gb) w [⟨gb, (bkC (kv) (ko) kA tn dn us).toArray, 50⟩] := cut_one (Nat.le_refl _) hbk
 refine wp_seq ?_
 refine wp_region_lit ?_
 refine list_val F (wn rfl) rfl rfl (.pointer (some ⟨gb, 0, none⟩)) (ex_move _ rfl _ (F.e rfl)) ?_; clear F a; intro a F
 refine list_val F (wn rfl) rfl rfl (.pointer (some ⟨gb, 0, none⟩)) (ex_nilck _ rfl _ (F.e rfl)) ?_; clear F a; intro a F
 refine list_val F (wn rfl) rfl rfl (.pointer (some ⟨gb, 63, none⟩)) (ex_fa _ _ _ rfl _ (F.e rfl) 63 rg_fa_50_63_63 ⟨gb, 63, none⟩ rfl) ?_; clear F a; intro a F
 refine list_val F (wn rfl) rfl rfl (.slice none 0 0) (ex_load _ _ rfl _ (F.e rfl) _ (lv1 rg_one_46 (M.cell (i := 0) rfl (j := 63) rfl))) ?_; clear F a; intro a F
 refine list_val F (wn rfl) rfl rfl (.int .i64 0) (ex_len _ _ rfl 1 rg_sl_46_1 _ _ _ (F.e rfl)) ?_; clear F a; intro a F
 refine list_val F (wn rfl) rfl rfl (.int .i64 0) (ex_assign _ rfl _ (F.e rfl)) ?_; clear F a; intro a F
 refine wpList_nil ?_
 replace F : Fr 79 a [(0, .pointer (some ⟨gb, 0, none⟩)), (2, .int .i64 0)] := F.keep ⟨rfl, rfl, trivial⟩
 refine then_n ?_
 refine wp_seq ?_
 refine wp_seq ?_
 refine wp_region_lit ?_
 refine list_val F (wn rfl) rfl rfl (.pointer (some ⟨gb, 0, none⟩)) (ex_move _ rfl _ (F.e rfl)) ?_; clear F a; intro a F
 refine list_val F (wn rfl) rfl rfl (.pointer (some ⟨gb, 0, none⟩)) (ex_nilck _ rfl _ (F.e rfl)) ?_; clear F a; intro a F
 refine list_val F (wn rfl) rfl rfl (.pointer (some ⟨gb, 65, none⟩)) (ex_fa _ _ _ rfl _ (F.e rfl) 65 rg_fa_50_65_65 ⟨gb, 65, none⟩ rfl) ?_; clear F a; intro a F
 refine list_val F (wn rfl) rfl rfl (.int .i64 0) (ex_load _ _ rfl _ (F.e rfl) _ (lv1 rg_one_3 (M.cell (i := 0) rfl (j := 65) rfl))) ?_; clear F a; intro a F
 refine list_val F (wn rfl) rfl rfl (.int .i64 0) (ex_assign _ rfl _ (F.e rfl)) ?_; clear F a; intro a F
 refine wpList_nil ?_
 replace F : Fr 79 a [(0, .pointer (some ⟨gb, 0, none⟩)), (2, .int .i64 0), (3, .int .i64 0)] := F.keep ⟨rfl, rfl, rfl, trivial⟩
 refine then_n ?_
 refine wp_block ?_
 refine wp_loop_rounds 1 ?_
 refine rounds_do 0 ?_
 refine wp_seq ?_
 refine wp_seq ?_
 refine wp_region_lit ?_
 refine list_val F (wn rfl) rfl rfl (.int .i64 0) (ex_move _ rfl _ (F.e rfl)) ?_; clear F a; intro a F
 refine list_val F (wn rfl) rfl rfl (.int .i64 0) (ex_move _ rfl _ (F.e rfl)) ?_; clear F a; intro a F
 refine list_val F (wn rfl) rfl rfl (.bool false) (ex_bin .lss _ _ _ _ rfl .i64 _ _ (F.e rfl) (F.e rfl) _ (b_lss (by decide))) ?_; clear F a; intro a F
 refine wpList_nil ?_
 replace F : Fr 79 a [(0, .pointer (some ⟨gb, 0, none⟩)), (2, .int .i64 0), (3, .int .i64 0), (18, .bool false)] := F.keep ⟨rfl, rfl, rfl, rfl, trivial⟩
 refine then_n ?_
 refine wp_cond_false (F.e rfl) ?_
 refine wp_exit ?_
 refine then_x ?_
 refine then_x ?_
 refine in_hit ?_
 refine then_n ?_
 refine wp_region_lit ?_
 refine list_val F (wn rfl) rfl rfl (.pointer (some ⟨gb, 0, none⟩)) (ex_move _ rfl _ (F.e rfl)) ?_; clear F a; intro a F
 refine list_val F (wn rfl) rfl rfl (.pointer (some ⟨gb, 0, none⟩)) (ex_move _ rfl _ (F.e rfl)) ?_; clear F a; intro a F
 refine list_val F (wn rfl) rfl rfl (.pointer (some ⟨gb, 0, none⟩)) (ex_nilck _ rfl _ (F.e rfl)) ?_; clear F a; intro a F
 refine list_val F (wn rfl) rfl rfl (.pointer (some ⟨gb, 63, none⟩)) (ex_fa _ _ _ rfl _ (F.e rfl) 63 rg_fa_50_63_63 ⟨gb, 63, none⟩ rfl) ?_; clear F a; intro a F
 refine list_val F (wn rfl) rfl rfl (.slice none 0 0) (ex_load _ _ rfl _ (F.e rfl) _ (lv1 rg_one_46 (M.cell (i := 0) rfl (j := 63) rfl))) ?_; clear F a; intro a F
 refine list_val F (wn rfl) rfl rfl (.int .i64 0) (ex_len _ _ rfl 1 rg_sl_46_1 _ _ _ (F.e rfl)) ?_; clear F a; intro a F
 refine list_val F (wn rfl) rfl rfl (.pointer (some ⟨gb, 0, none⟩)) (ex_nilck _ rfl _ (F.e rfl)) ?_; clear F a; intro a F
 refine list_val F (wn rfl) rfl rfl (.pointer (some ⟨gb, 65, none⟩)) (ex_fa _ _ _ rfl _ (F.e rfl) 65 rg_fa_50_65_65 ⟨gb, 65, none⟩ rfl) ?_; clear F a; intro a F
 refine list_do (wn rfl) (fun K hK => ?_)
 refine ow_store F M rfl 3 _ _ rfl 0 gb ((bkC (kv) (ko) kA tn dn us).toArray) _ rfl 65 (F.e rfl) _ (F.e rfl) [.int .i64 0] rfl rg_info_3_map_size_some_1 (by show 66 ≤ 75; decide) (by simp [Value.oneCell']) ((bkC (kv) (ko) kA tn dn us).toArray) rfl ?_
 clear F a; have Mo := M; clear M; intro a v F M hgr
 refine hK _ _ ?_
 clear hK K
 replace G_ := gg_grown G_ hgr
 clear Mo hgr; try clear w
 replace M : Mm (cutW w gb) v [⟨gb, (bkC (kv) (ko) kA tn dn us).toArray, 50⟩] := M
 refine wpList_nil ?_
 replace F : Fr 79 a [(0, .pointer (some ⟨gb, 0, none⟩)), (2, .int .i64 0), (3, .int .i64 0), (18, .bool false)] := F.keep ⟨rfl, rfl, rfl, rfl, trivial⟩
 exact ret_none F rfl ⟨rfl, gg_same G_ hbk (M.blk 0 _ rfl)⟩
theorem rg_fa_50_66_66 : fa? Tryz.prog 50 66 66 = true := by kernel_rfl
theorem rg_one_47 : one? Tryz.prog 47 = true := by kernel_rfl
theorem rg_sl_47_1 : sl? Tryz.prog 47 1 = true := by kernel_rfl
theorem rg_fa_50_68_68 : fa? Tryz.prog 50 68 68 = true := by kernel_rfl
set_option maxHeartbeats 1000000 in
set_option maxRecDepth 100000 in
theorem growAnswers_any (gb : Nat) (kv ko : Value) (kA tn dn us : Nat) (w : World) (hbk : w.heap[gb]? = some (.cells (bkC (kv) (ko) kA tn dn us).toArray 50 (0, 0))) :
    Calls Tryz.prog 73 #[.pointer (some ⟨gb, 0, none⟩)] w fun e w' => e = .returned (.tuple #[]) ∧ Below w.heap.size w w' := by
 have G_ := gg_refl w gb
 refine calls_start Tryz.func73 rfl rfl rfl (fun a F => ?_)
 have M : Mm (cutW w gb) w [⟨gb, (bkC (kv) (ko) kA tn dn us).toArray, 50⟩] := cut_one (Nat.le_refl _) hbk
 refine wp_seq ?_
 refine wp_region_lit ?_
 refine list_val F (wn rfl) rfl rfl (.pointer (some ⟨gb, 0, none⟩)) (ex_move _ rfl _ (F.e rfl)) ?_; clear F a; intro a F
 refine list_val F (wn rfl) rfl rfl (.pointer (some ⟨gb, 0, none⟩)) (ex_nilck _ rfl _ (F.e rfl)) ?_; clear F a; intro a F
 refine list_val F (wn rfl) rfl rfl (.pointer (some ⟨gb, 66, none⟩)) (ex_fa _ _ _ rfl _ (F.e rfl) 66 rg_fa_50_66_66 ⟨gb, 66, none⟩ rfl) ?_; clear F a; intro a F
 refine list_val F (wn rfl) rfl rfl (.slice none 0 0) (ex_load _ _ rfl _ (F.e rfl) _ (lv1 rg_one_47 (M.cell (i := 0) rfl (j := 66) rfl))) ?_; clear F a; intro a F
 refine list_val F (wn rfl) rfl rfl (.int .i64 0) (ex_len _ _ rfl 1 rg_sl_47_1 _ _ _ (F.e rfl)) ?_; clear F a; intro a F
 refine list_val F (wn rfl) rfl rfl (.int .i64 0) (ex_assign _ rfl _ (F.e rfl)) ?_; clear F a; intro a F
 refine wpList_nil ?_
 replace F : Fr 79 a [(0, .pointer (some ⟨gb, 0, none⟩)), (2, .int .i64 0)] := F.keep ⟨rfl, rfl, trivial⟩
 refine then_n ?_
 refine wp_seq ?_
 refine wp_seq ?_
 refine wp_region_lit ?_
 refine list_val F (wn rfl) rfl rfl (.pointer (some ⟨gb, 0, none⟩)) (ex_move _ rfl _ (F.e rfl)) ?_; clear F a; intro a F
 refine list_val F (wn rfl) rfl rfl (.pointer (some ⟨gb, 0, none⟩)) (ex_nilck _ rfl _ (F.e rfl)) ?_; clear F a; intro a F
 refine list_val F (wn rfl) rfl rfl (.pointer (some ⟨gb, 68, none⟩)) (ex_fa _ _ _ rfl _ (F.e rfl) 68 rg_fa_50_68_68 ⟨gb, 68, none⟩ rfl) ?_; clear F a; intro a F
 refine list_val F (wn rfl) rfl rfl (.int .i64 0) (ex_load _ _ rfl _ (F.e rfl) _ (lv1 rg_one_3 (M.cell (i := 0) rfl (j := 68) rfl))) ?_; clear F a; intro a F
 refine list_val F (wn rfl) rfl rfl (.int .i64 0) (ex_assign _ rfl _ (F.e rfl)) ?_; clear F a; intro a F
 refine wpList_nil ?_
 replace F : Fr 79 a [(0, .pointer (some ⟨gb, 0, none⟩)), (2, .int .i64 0), (3, .int .i64 0)] := F.keep ⟨rfl, rfl, rfl, trivial⟩
 refine then_n ?_
 refine wp_block ?_
 refine wp_loop_rounds 1 ?_
 refine rounds_do 0 ?_
 refine wp_seq ?_
 refine wp_seq ?_
 refine wp_region_lit ?_
 refine list_val F (wn rfl) rfl rfl (.int .i64 0) (ex_move _ rfl _ (F.e rfl)) ?_; clear F a; intro a F
 refine list_val F (wn rfl) rfl rfl (.int .i64 0) (ex_move _ rfl _ (F.e rfl)) ?_; clear F a; intro a F
 refine list_val F (wn rfl) rfl rfl (.bool false) (ex_bin .lss _ _ _ _ rfl .i64 _ _ (F.e rfl) (F.e rfl) _ (b_lss (by decide))) ?_; clear F a; intro a F
 refine wpList_nil ?_
 replace F : Fr 79 a [(0, .pointer (some ⟨gb, 0, none⟩)), (2, .int .i64 0), (3, .int .i64 0), (18, .bool false)] := F.keep ⟨rfl, rfl, rfl, rfl, trivial⟩
 refine then_n ?_
 refine wp_cond_false (F.e rfl) ?_
 refine wp_exit ?_
 refine then_x ?_
 refine then_x ?_
 refine in_hit ?_
 refine then_n ?_
 refine wp_region_lit ?_
 refine list_val F (wn rfl) rfl rfl (.pointer (some ⟨gb, 0, none⟩)) (ex_move _ rfl _ (F.e rfl)) ?_; clear F a; intro a F
 refine list_val F (wn rfl) rfl rfl (.pointer (some ⟨gb, 0, none⟩)) (ex_move _ rfl _ (F.e rfl)) ?_; clear F a; intro a F
 refine list_val F (wn rfl) rfl rfl (.pointer (some ⟨gb, 0, none⟩)) (ex_nilck _ rfl _ (F.e rfl)) ?_; clear F a; intro a F
 refine list_val F (wn rfl) rfl rfl (.pointer (some ⟨gb, 66, none⟩)) (ex_fa _ _ _ rfl _ (F.e rfl) 66 rg_fa_50_66_66 ⟨gb, 66, none⟩ rfl) ?_; clear F a; intro a F
 refine list_val F (wn rfl) rfl rfl (.slice none 0 0) (ex_load _ _ rfl _ (F.e rfl) _ (lv1 rg_one_47 (M.cell (i := 0) rfl (j := 66) rfl))) ?_; clear F a; intro a F
 refine list_val F (wn rfl) rfl rfl (.int .i64 0) (ex_len _ _ rfl 1 rg_sl_47_1 _ _ _ (F.e rfl)) ?_; clear F a; intro a F
 refine list_val F (wn rfl) rfl rfl (.pointer (some ⟨gb, 0, none⟩)) (ex_nilck _ rfl _ (F.e rfl)) ?_; clear F a; intro a F
 refine list_val F (wn rfl) rfl rfl (.pointer (some ⟨gb, 68, none⟩)) (ex_fa _ _ _ rfl _ (F.e rfl) 68 rg_fa_50_68_68 ⟨gb, 68, none⟩ rfl) ?_; clear F a; intro a F
 refine list_do (wn rfl) (fun K hK => ?_)
 refine ow_store F M rfl 3 _ _ rfl 0 gb ((bkC (kv) (ko) kA tn dn us).toArray) _ rfl 68 (F.e rfl) _ (F.e rfl) [.int .i64 0] rfl rg_info_3_map_size_some_1 (by show 69 ≤ 75; decide) (by simp [Value.oneCell']) ((bkC (kv) (ko) kA tn dn us).toArray) rfl ?_
 clear F a; have Mo := M; clear M; intro a v F M hgr
 refine hK _ _ ?_
 clear hK K
 replace G_ := gg_grown G_ hgr
 clear Mo hgr; try clear w
 replace M : Mm (cutW w gb) v [⟨gb, (bkC (kv) (ko) kA tn dn us).toArray, 50⟩] := M
 refine wpList_nil ?_
 replace F : Fr 79 a [(0, .pointer (some ⟨gb, 0, none⟩)), (2, .int .i64 0), (3, .int .i64 0), (18, .bool false)] := F.keep ⟨rfl, rfl, rfl, rfl, trivial⟩
 exact ret_none F rfl ⟨rfl, gg_same G_ hbk (M.blk 0 _ rfl)⟩
theorem rg_fa_50_69_69 : fa? Tryz.prog 50 69 69 = true := by kernel_rfl
theorem rg_one_48 : one? Tryz.prog 48 = true := by kernel_rfl
theorem rg_sl_48_1 : sl? Tryz.prog 48 1 = true := by kernel_rfl
theorem rg_fa_50_71_71 : fa? Tryz.prog 50 71 71 = true := by kernel_rfl
set_option maxHeartbeats 1000000 in
set_option maxRecDepth 100000 in
theorem growHelds_any (gb : Nat) (kv ko : Value) (kA tn dn us : Nat) (w : World) (hbk : w.heap[gb]? = some (.cells (bkC (kv) (ko) kA tn dn us).toArray 50 (0, 0))) :
    Calls Tryz.prog 74 #[.pointer (some ⟨gb, 0, none⟩)] w fun e w' => e = .returned (.tuple #[]) ∧ Below w.heap.size w w' := by
 have G_ := gg_refl w gb
 refine calls_start Tryz.func74 rfl rfl rfl (fun a F => ?_)
 have M : Mm (cutW w gb) w [⟨gb, (bkC (kv) (ko) kA tn dn us).toArray, 50⟩] := cut_one (Nat.le_refl _) hbk
 refine wp_seq ?_
 refine wp_region_lit ?_
 refine list_val F (wn rfl) rfl rfl (.pointer (some ⟨gb, 0, none⟩)) (ex_move _ rfl _ (F.e rfl)) ?_; clear F a; intro a F
 refine list_val F (wn rfl) rfl rfl (.pointer (some ⟨gb, 0, none⟩)) (ex_nilck _ rfl _ (F.e rfl)) ?_; clear F a; intro a F
 refine list_val F (wn rfl) rfl rfl (.pointer (some ⟨gb, 69, none⟩)) (ex_fa _ _ _ rfl _ (F.e rfl) 69 rg_fa_50_69_69 ⟨gb, 69, none⟩ rfl) ?_; clear F a; intro a F
 refine list_val F (wn rfl) rfl rfl (.slice none 0 0) (ex_load _ _ rfl _ (F.e rfl) _ (lv1 rg_one_48 (M.cell (i := 0) rfl (j := 69) rfl))) ?_; clear F a; intro a F
 refine list_val F (wn rfl) rfl rfl (.int .i64 0) (ex_len _ _ rfl 1 rg_sl_48_1 _ _ _ (F.e rfl)) ?_; clear F a; intro a F
 refine list_val F (wn rfl) rfl rfl (.int .i64 0) (ex_assign _ rfl _ (F.e rfl)) ?_; clear F a; intro a F
 refine wpList_nil ?_
 replace F : Fr 79 a [(0, .pointer (some ⟨gb, 0, none⟩)), (2, .int .i64 0)] := F.keep ⟨rfl, rfl, trivial⟩
 refine then_n ?_
 refine wp_seq ?_
 refine wp_seq ?_
 refine wp_region_lit ?_
 refine list_val F (wn rfl) rfl rfl (.pointer (some ⟨gb, 0, none⟩)) (ex_move _ rfl _ (F.e rfl)) ?_; clear F a; intro a F
 refine list_val F (wn rfl) rfl rfl (.pointer (some ⟨gb, 0, none⟩)) (ex_nilck _ rfl _ (F.e rfl)) ?_; clear F a; intro a F
 refine list_val F (wn rfl) rfl rfl (.pointer (some ⟨gb, 71, none⟩)) (ex_fa _ _ _ rfl _ (F.e rfl) 71 rg_fa_50_71_71 ⟨gb, 71, none⟩ rfl) ?_; clear F a; intro a F
 refine list_val F (wn rfl) rfl rfl (.int .i64 0) (ex_load _ _ rfl _ (F.e rfl) _ (lv1 rg_one_3 (M.cell (i := 0) rfl (j := 71) rfl))) ?_; clear F a; intro a F
 refine list_val F (wn rfl) rfl rfl (.int .i64 0) (ex_assign _ rfl _ (F.e rfl)) ?_; clear F a; intro a F
 refine wpList_nil ?_
 replace F : Fr 79 a [(0, .pointer (some ⟨gb, 0, none⟩)), (2, .int .i64 0), (3, .int .i64 0)] := F.keep ⟨rfl, rfl, rfl, trivial⟩
 refine then_n ?_
 refine wp_block ?_
 refine wp_loop_rounds 1 ?_
 refine rounds_do 0 ?_
 refine wp_seq ?_
 refine wp_seq ?_
 refine wp_region_lit ?_
 refine list_val F (wn rfl) rfl rfl (.int .i64 0) (ex_move _ rfl _ (F.e rfl)) ?_; clear F a; intro a F
 refine list_val F (wn rfl) rfl rfl (.int .i64 0) (ex_move _ rfl _ (F.e rfl)) ?_; clear F a; intro a F
 refine list_val F (wn rfl) rfl rfl (.bool false) (ex_bin .lss _ _ _ _ rfl .i64 _ _ (F.e rfl) (F.e rfl) _ (b_lss (by decide))) ?_; clear F a; intro a F
 refine wpList_nil ?_
 replace F : Fr 79 a [(0, .pointer (some ⟨gb, 0, none⟩)), (2, .int .i64 0), (3, .int .i64 0), (18, .bool false)] := F.keep ⟨rfl, rfl, rfl, rfl, trivial⟩
 refine then_n ?_
 refine wp_cond_false (F.e rfl) ?_
 refine wp_exit ?_
 refine then_x ?_
 refine then_x ?_
 refine in_hit ?_
 refine then_n ?_
 refine wp_region_lit ?_
 refine list_val F (wn rfl) rfl rfl (.pointer (some ⟨gb, 0, none⟩)) (ex_move _ rfl _ (F.e rfl)) ?_; clear F a; intro a F
 refine list_val F (wn rfl) rfl rfl (.pointer (some ⟨gb, 0, none⟩)) (ex_move _ rfl _ (F.e rfl)) ?_; clear F a; intro a F
 refine list_val F (wn rfl) rfl rfl (.pointer (some ⟨gb, 0, none⟩)) (ex_nilck _ rfl _ (F.e rfl)) ?_; clear F a; intro a F
 refine list_val F (wn rfl) rfl rfl (.pointer (some ⟨gb, 69, none⟩)) (ex_fa _ _ _ rfl _ (F.e rfl) 69 rg_fa_50_69_69 ⟨gb, 69, none⟩ rfl) ?_; clear F a; intro a F
 refine list_val F (wn rfl) rfl rfl (.slice none 0 0) (ex_load _ _ rfl _ (F.e rfl) _ (lv1 rg_one_48 (M.cell (i := 0) rfl (j := 69) rfl))) ?_; clear F a; intro a F
 refine list_val F (wn rfl) rfl rfl (.int .i64 0) (ex_len _ _ rfl 1 rg_sl_48_1 _ _ _ (F.e rfl)) ?_; clear F a; intro a F
 refine list_val F (wn rfl) rfl rfl (.pointer (some ⟨gb, 0, none⟩)) (ex_nilck _ rfl _ (F.e rfl)) ?_; clear F a; intro a F
 refine list_val F (wn rfl) rfl rfl (.pointer (some ⟨gb, 71, none⟩)) (ex_fa _ _ _ rfl _ (F.e rfl) 71 rg_fa_50_71_71 ⟨gb, 71, none⟩ rfl) ?_; clear F a; intro a F
 refine list_do (wn rfl) (fun K hK => ?_)
 refine ow_store F M rfl 3 _ _ rfl 0 gb ((bkC (kv) (ko) kA tn dn us).toArray) _ rfl 71 (F.e rfl) _ (F.e rfl) [.int .i64 0] rfl rg_info_3_map_size_some_1 (by show 72 ≤ 75; decide) (by simp [Value.oneCell']) ((bkC (kv) (ko) kA tn dn us).toArray) rfl ?_
 clear F a; have Mo := M; clear M; intro a v F M hgr
 refine hK _ _ ?_
 clear hK K
 replace G_ := gg_grown G_ hgr
 clear Mo hgr; try clear w
 replace M : Mm (cutW w gb) v [⟨gb, (bkC (kv) (ko) kA tn dn us).toArray, 50⟩] := M
 refine wpList_nil ?_
 replace F : Fr 79 a [(0, .pointer (some ⟨gb, 0, none⟩)), (2, .int .i64 0), (3, .int .i64 0), (18, .bool false)] := F.keep ⟨rfl, rfl, rfl, rfl, trivial⟩
 exact ret_none F rfl ⟨rfl, gg_same G_ hbk (M.blk 0 _ rfl)⟩
theorem rg_sl_35_1 : sl? Tryz.prog 35 1 = true := by kernel_rfl
theorem rg_fa_50_32_32 : fa? Tryz.prog 50 32 32 = true := by kernel_rfl
theorem rg_one_57 : one? Tryz.prog 57 = true := by kernel_rfl
theorem rg_sl_25_1 : sl? Tryz.prog 25 1 = true := by kernel_rfl
theorem rg_ap_57_85_19_40 : ap? Tryz.prog 57 85 19 40 = true := by kernel_rfl
set_option maxHeartbeats 1000000 in
set_option maxRecDepth 100000 in
theorem grow_row (own0 : Nat → Nat) (base gb : Nat) (KA0 : Option Addr) (Kc0 : Nat) (rows0 : List Sl) (IA0 : Option Addr) (Ic0 : Nat) (ms0 : List Nat) (kA tn dn us : Nat) (w : World) (hB : Bk own0 base gb KA0 Kc0 rows0 IA0 Ic0 ms0 kA tn dn us w) (htn : tn ≤ 10000000) :
    Calls Tryz.prog 61 #[.pointer (some ⟨gb, 0, none⟩)] w fun e w' => e = .returned (.tuple #[]) ∧ (∃ KA' Kc' rows' IA' Ic' ms' us' own', Bk own' base gb KA' Kc' rows' IA' Ic' ms' rows'.length tn dn us' w' ∧ Below base w w') := by
 have hgb := hB.lo
 have hbw : base ≤ w.heap.size := Nat.le_of_lt (Nat.lt_of_le_of_lt hB.lo (Array.getElem?_eq_some_iff.1 hB.blk).1)
 have O_k := hB.ks
 have O_i := hB.is
 have K_ := hB.all
 have S_ := Nat.le_refl w.heap.size
 have hr0 := hB.bd.r
 have ha0 := hB.bd.a
 refine calls_start Tryz.func61 rfl rfl rfl (fun a F => ?_)
 have M : Mm (cutW w base) w [⟨gb, (bkC (.slice KA0 rows0.length Kc0) (.slice IA0 ms0.length Ic0) kA tn dn us).toArray, 50⟩] := cut_one hB.lo hB.blk
 refine wp_seq ?_
 refine wp_region_lit ?_
 refine list_val F (wn rfl) rfl rfl (.pointer (some ⟨gb, 0, none⟩)) (ex_move _ rfl _ (F.e rfl)) ?_; clear F a; intro a F
 refine list_val F (wn rfl) rfl rfl (.pointer (some ⟨gb, 0, none⟩)) (ex_nilck _ rfl _ (F.e rfl)) ?_; clear F a; intro a F
 refine list_val F (wn rfl) rfl rfl (.pointer (some ⟨gb, 30, none⟩)) (ex_fa _ _ _ rfl _ (F.e rfl) 30 rg_fa_50_30_30 ⟨gb, 30, none⟩ rfl) ?_; clear F a; intro a F
 refine list_val F (wn rfl) rfl rfl (.slice KA0 rows0.length Kc0) (ex_load _ _ rfl _ (F.e rfl) _ (lv1 rg_one_35 (M.cell (i := 0) rfl (j := 30) rfl))) ?_; clear F a; intro a F
 refine list_val F (wn rfl) rfl rfl (.int .i64 ((rows0.length : Nat) : Int)) (ex_len _ _ rfl 1 rg_sl_35_1 _ _ _ (F.e rfl)) ?_; clear F a; intro a F
 refine list_val F (wn rfl) rfl rfl (.int .i64 ((rows0.length : Nat) : Int)) (ex_assign _ rfl _ (F.e rfl)) ?_; clear F a; intro a F
 refine wpList_nil ?_
 replace F : Fr 79 a [(0, .pointer (some ⟨gb, 0, none⟩)), (2, .int .i64 ((rows0.length : Nat) : Int))] := F.keep ⟨rfl, rfl, trivial⟩
 refine then_n ?_
 refine wp_seq ?_
 refine wp_seq ?_
 refine wp_region_lit ?_
 refine list_val F (wn rfl) rfl rfl (.pointer (some ⟨gb, 0, none⟩)) (ex_move _ rfl _ (F.e rfl)) ?_; clear F a; intro a F
 refine list_val F (wn rfl) rfl rfl (.pointer (some ⟨gb, 0, none⟩)) (ex_nilck _ rfl _ (F.e rfl)) ?_; clear F a; intro a F
 refine list_val F (wn rfl) rfl rfl (.pointer (some ⟨gb, 32, none⟩)) (ex_fa _ _ _ rfl _ (F.e rfl) 32 rg_fa_50_32_32 ⟨gb, 32, none⟩ rfl) ?_; clear F a; intro a F
 refine list_val F (wn rfl) rfl rfl (.int .i64 ((kA : Nat) : Int)) (ex_load _ _ rfl _ (F.e rfl) _ (lv1 rg_one_3 (M.cell (i := 0) rfl (j := 32) rfl))) ?_; clear F a; intro a F
 refine list_val F (wn rfl) rfl rfl (.int .i64 ((kA : Nat) : Int)) (ex_assign _ rfl _ (F.e rfl)) ?_; clear F a; intro a F
 refine wpList_nil ?_
 replace F : Fr 79 a [(0, .pointer (some ⟨gb, 0, none⟩)), (2, .int .i64 ((rows0.length : Nat) : Int)), (3, .int .i64 ((kA : Nat) : Int))] := F.keep ⟨rfl, rfl, rfl, trivial⟩
 refine then_n ?_
 refine wp_block ?_
 refine wp_loopN (fun mq ar wr => ∃ (j : Nat), ∃ (KA : Option Addr), ∃ (Kc : Nat), ∃ (rows : List Sl), ∃ (IA : Option Addr), ∃ (Ic : Nat), ∃ (ms : List Nat), ∃ (own : Nat → Nat), Fr 79 ar [(0, .pointer (some ⟨gb, 0, none⟩)), (2, .int .i64 ((rows0.length : Nat) : Int)), (3, .int .i64 ((kA + j : Nat) : Int))] ∧ Mm (cutW w base) wr [⟨gb, (bkC (.slice KA rows.length Kc) (.slice IA ms.length Ic) kA tn dn us).toArray, 50⟩] ∧ Ow kS 57 wr base (.slice KA rows.length Kc) rows ∧ Ow kN 3 wr base (.slice IA ms.length Ic) ms ∧ AllM own base wr rows ms ∧ w.heap.size ≤ wr.heap.size ∧ kA + j ≤ rows0.length ∧ rows.length ≤ rows0.length + 9 * j ∧ rows0.length ≤ rows.length ∧ (∀ (i : Nat) s, rows[i]? = some s → s.n ≤ 1000100 ∧ (kA ≤ i → i < rows0.length → s.n ≤ 1000000)) ∧ (∀ k ∈ ms, k ≤ tn) ∧ mq + j = (rows0.length - kA)) (rows0.length - kA) ?_ ?_
 ·
  exact ⟨0, KA0, Kc0, rows0, IA0, Ic0, ms0, own0, F.keep ⟨rfl, rfl, rfl, trivial⟩, M, O_k, O_i, K_, S_, (by have := hB.bd.a; omega), (by omega), (Nat.le_refl _), (fun i s h => ⟨(hB.bd.n i s h).1, fun h2 _ => (hB.bd.n i s h).2 h2⟩), hB.bd.m, (by omega)⟩
 clear F M a O_k O_i K_ S_
 rintro mq a v ⟨j, KA, Kc, rows, IA, Ic, ms, own, F, M, O_k, O_i, K_, S_, hj, hrl, hNl, hrn, hmm, hq⟩; try clear w
 by_cases hjn : kA + j < rows0.length
 ·
  refine wp_seq ?_
  refine wp_seq ?_
  refine wp_region_lit ?_
  refine list_val F (wn rfl) rfl rfl (.int .i64 ((kA + j : Nat) : Int)) (ex_move _ rfl _ (F.e rfl)) ?_; clear F a; intro a F
  refine list_val F (wn rfl) rfl rfl (.int .i64 ((rows0.length : Nat) : Int)) (ex_move _ rfl _ (F.e rfl)) ?_; clear F a; intro a F
  refine list_val F (wn rfl) rfl rfl (.bool true) (ex_bin .lss _ _ _ _ rfl .i64 _ _ (F.e rfl) (F.e rfl) _ (b_lss (decide_eq_true (by omega)))) ?_; clear F a; intro a F
  refine wpList_nil ?_
  replace F : Fr 79 a [(0, .pointer (some ⟨gb, 0, none⟩)), (2, .int .i64 ((rows0.length : Nat) : Int)), (3, .int .i64 ((kA + j : Nat) : Int)), (18, .bool true)] := F.keep ⟨rfl, rfl, rfl, rfl, trivial⟩
  refine then_n ?_
  refine wp_cond_true (F.e rfl) ?_
  refine wp_skip ?_
  refine then_n ?_
  refine wp_seq ?_
  refine wp_block ?_
  refine wp_seq ?_
  obtain ⟨⟨sA, sn, sc⟩, hs⟩ : ∃ s, rows[kA + j]? = some s := ⟨_, List.getElem?_eq_getElem (by omega)⟩
  obtain ⟨m, hm, hm0, hKs⟩ := K_.get hs
  have hsn : sn ≤ 1000000 := (hrn _ _ hs).2 (by omega) (by omega)
  have hmt := hmm m (List.mem_of_getElem? hm)
  obtain ⟨adk, hAk, zk⟩ := C_ix (enc := Sl.cs) (m := 1) (hl := Sl.cs_len) (h1 := Sl.cs_one) O_k.rd.1 hs
  obtain ⟨adi, hAi, zi⟩ := C_ix (enc := nc) (m := 1) (hl := nc_len) (h1 := nc_one) O_i.rd.1 hm
  subst hAk hAi
  have hml := K_.1
  refine wp_region_lit ?_
  refine list_val F (wn rfl) rfl rfl (.pointer (some ⟨gb, 0, none⟩)) (ex_move _ rfl _ (F.e rfl)) ?_; clear F a; intro a F
  refine list_val F (wn rfl) rfl rfl (.pointer (some ⟨gb, 0, none⟩)) (ex_nilck _ rfl _ (F.e rfl)) ?_; clear F a; intro a F
  refine list_val F (wn rfl) rfl rfl (.pointer (some ⟨gb, 30, none⟩)) (ex_fa _ _ _ rfl _ (F.e rfl) 30 rg_fa_50_30_30 ⟨gb, 30, none⟩ rfl) ?_; clear F a; intro a F
  refine list_val F (wn rfl) rfl rfl (.slice (some adk) rows.length Kc) (ex_load _ _ rfl _ (F.e rfl) _ (lv1 rg_one_35 (M.cell (i := 0) rfl (j := 30) rfl))) ?_; clear F a; intro a F
  refine list_val F (wn rfl) rfl rfl (.int .i64 ((kA + j : Nat) : Int)) (ex_move _ rfl _ (F.e rfl)) ?_; clear F a; intro a F
  refine list_val F (wn rfl) rfl rfl (.pointer (some (adk.add ((kA + j) * 1)))) (ex_ix _ _ _ rfl 1 rg_sl_35_1 adk _ _ (F.e rfl) .i64 _ (F.e rfl) (kA + j) rfl (by omega) (adk.add ((kA + j) * 1)) rfl) ?_; clear F a; intro a F
  refine list_val F (wn rfl) rfl rfl (.slice sA sn sc) (ex_load _ _ rfl _ (F.e rfl) _ (lv1 rg_one_57 (zk.cell 0 _ rfl))) ?_; clear F a; intro a F
  refine list_val F (wn rfl) rfl rfl (.slice sA sn sc) (ex_assign _ rfl _ (F.e rfl)) ?_; clear F a; intro a F
  refine wpList_nil ?_
  replace F : Fr 79 a [(0, .pointer (some ⟨gb, 0, none⟩)), (2, .int .i64 ((rows0.length : Nat) : Int)), (3, .int .i64 ((kA + j : Nat) : Int)), (4, .slice sA sn sc), (18, .bool true)] := F.keep ⟨rfl, rfl, rfl, rfl, rfl, trivial⟩
  refine then_n ?_
  refine wp_seq ?_
  refine wp_region_lit ?_
  refine list_val F (wn rfl) rfl rfl (.pointer (some ⟨gb, 0, none⟩)) (ex_move _ rfl _ (F.e rfl)) ?_; clear F a; intro a F
  refine list_val F (wn rfl) rfl rfl (.pointer (some ⟨gb, 0, none⟩)) (ex_nilck _ rfl _ (F.e rfl)) ?_; clear F a; intro a F
  refine list_val F (wn rfl) rfl rfl (.pointer (some ⟨gb, 31, none⟩)) (ex_fa _ _ _ rfl _ (F.e rfl) 31 rg_fa_50_31_31 ⟨gb, 31, none⟩ rfl) ?_; clear F a; intro a F
  refine list_val F (wn rfl) rfl rfl (.slice (some adi) ms.length Ic) (ex_load _ _ rfl _ (F.e rfl) _ (lv1 rg_one_25 (M.cell (i := 0) rfl (j := 31) rfl))) ?_; clear F a; intro a F
  refine list_val F (wn rfl) rfl rfl (.int .i64 ((kA + j : Nat) : Int)) (ex_move _ rfl _ (F.e rfl)) ?_; clear F a; intro a F
  refine list_val F (wn rfl) rfl rfl (.pointer (some (adi.add ((kA + j) * 1)))) (ex_ix _ _ _ rfl 1 rg_sl_25_1 adi _ _ (F.e rfl) .i64 _ (F.e rfl) (kA + j) rfl (by omega) (adi.add ((kA + j) * 1)) rfl) ?_; clear F a; intro a F
  refine list_val F (wn rfl) rfl rfl (.int .i64 ((m : Nat) : Int)) (ex_load _ _ rfl _ (F.e rfl) _ (lv1 rg_one_3 (zi.cell 0 _ rfl))) ?_; clear F a; intro a F
  refine list_val F (wn rfl) rfl rfl (.int .i64 ((m : Nat) : Int)) (ex_assign _ rfl _ (F.e rfl)) ?_; clear F a; intro a F
  refine wpList_nil ?_
  replace F : Fr 79 a [(0, .pointer (some ⟨gb, 0, none⟩)), (2, .int .i64 ((rows0.length : Nat) : Int)), (3, .int .i64 ((kA + j : Nat) : Int)), (4, .slice sA sn sc), (5, .int .i64 ((m : Nat) : Int)), (18, .bool true)] := F.keep ⟨rfl, rfl, rfl, rfl, rfl, rfl, trivial⟩
  refine then_n ?_
  refine wp_seq ?_
  clear zk zi; replace K_ := AllK.cons hKs hm0 K_; clear hKs
  refine wp_region_lit ?_
  refine list_val F (wn rfl) rfl rfl (.int .i64 1) (ex_assign _ rfl _ rfl) ?_; clear F a; intro a F
  refine wpList_nil ?_
  replace F : Fr 79 a [(0, .pointer (some ⟨gb, 0, none⟩)), (2, .int .i64 ((rows0.length : Nat) : Int)), (3, .int .i64 ((kA + j : Nat) : Int)), (4, .slice sA sn sc), (5, .int .i64 ((m : Nat) : Int)), (6, .int .i64 1), (18, .bool true)] := F.keep ⟨rfl, rfl, rfl, rfl, rfl, rfl, rfl, trivial⟩
  refine then_n ?_
  refine wp_block ?_
  refine wp_loopN (fun mq ar wr => ∃ (ii : Nat), ∃ (cA : Option Addr), ∃ (cn : Nat), ∃ (cc : Nat), ∃ (KA : Option Addr), ∃ (Kc : Nat), ∃ (rows : List Sl), ∃ (IA : Option Addr), ∃ (Ic : Nat), ∃ (ms : List Nat), ∃ (own : Nat → Nat), Fr 79 ar [(0, .pointer (some ⟨gb, 0, none⟩)), (2, .int .i64 ((rows0.length : Nat) : Int)), (3, .int .i64 ((kA + j : Nat) : Int)), (4, .slice cA cn cc), (5, .int .i64 ((m : Nat) : Int)), (6, .int .i64 ((ii + 1 : Nat) : Int)), (18, .bool true)] ∧ Mm (cutW w base) wr [⟨gb, (bkC (.slice KA rows.length Kc) (.slice IA ms.length Ic) kA tn dn us).toArray, 50⟩] ∧ Ow kS 57 wr base (.slice KA rows.length Kc) rows ∧ Ow kN 3 wr base (.slice IA ms.length Ic) ms ∧ AllM own base wr ((⟨cA, cn, cc⟩ : Sl) :: rows) (m :: ms) ∧ w.heap.size ≤ wr.heap.size ∧ ii ≤ 32 ∧ cn ≤ 1000000 + ii ∧ rows.length ≤ rows0.length + 9 * j + min ii 3 + ii / 16 ∧ rows0.length ≤ rows.length ∧ (∀ (i : Nat) s, rows[i]? = some s → s.n ≤ 1000100 ∧ (kA ≤ i → i < rows0.length → s.n ≤ 1000000)) ∧ (∀ k ∈ ms, k ≤ tn) ∧ mq + ii = 32) 32 ?_ ?_
  ·
   exact ⟨0, sA, sn, sc, (some adk), Kc, rows, (some adi), Ic, ms, own, F.keep ⟨rfl, rfl, rfl, rfl, rfl, rfl, rfl, trivial⟩, M, O_k, O_i, K_, S_, (Nat.zero_le _), (by omega), (by omega), hNl, hrn, hmm, (by omega)⟩
  clear F M a O_k O_i K_ S_
  rintro mq a u ⟨ii, cA, cn, cc, KA, Kc, rows, IA, Ic, ms, own, F, M, O_k, O_i, K_, S_, hii, hcn, hrl, hNl, hrn, hmm, hq⟩; try clear v
  by_cases hiN : ii < 32
  ·
   refine wp_seq ?_
   refine wp_seq ?_
   refine wp_region_lit ?_
   refine list_val F (wn rfl) rfl rfl (.int .i64 ((ii + 1 : Nat) : Int)) (ex_move _ rfl _ (F.e rfl)) ?_; clear F a; intro a F
   refine list_val F (wn rfl) rfl rfl (.bool true) (ex_bin .leq _ _ _ _ rfl .i64 _ _ (F.e rfl) rfl _ (b_leq (decide_eq_true (by omega)))) ?_; clear F a; intro a F
   refine wpList_nil ?_
   replace F : Fr 79 a [(0, .pointer (some ⟨gb, 0, none⟩)), (2, .int .i64 ((rows0.length : Nat) : Int)), (3, .int .i64 ((kA + j : Nat) : Int)), (4, .slice cA cn cc), (5, .int .i64 ((m : Nat) : Int)), (6, .int .i64 ((ii + 1 : Nat) : Int)), (18, .bool true), (36, .bool true)] := F.keep ⟨rfl, rfl, rfl, rfl, rfl, rfl, rfl, rfl, trivial⟩
   refine then_n ?_
   refine wp_cond_true (F.e rfl) ?_
   refine wp_skip ?_
   refine then_n ?_
   refine wp_seq ?_
   refine wp_block ?_
   refine wp_seq ?_
   refine wp_region_lit ?_
   refine list_val F (wn rfl) rfl rfl (.slice cA cn cc) (ex_move _ rfl _ (F.e rfl)) ?_; clear F a; intro a F
   refine list_val F (wn rfl) rfl rfl (.int .i64 ((m : Nat) : Int)) (ex_move _ rfl _ (F.e rfl)) ?_; clear F a; intro a F
   refine list_do (wn rfl) (fun K hK => ?_)
   refine ow_call rfl rfl F 27 #[.int .i64 ((m : Nat) : Int)] (ex_call 27 _ _ rfl rfl rg_ent_27 _ (map1 (F.e rfl))) (mark_any m 0 (by omega) _) (fun e v hR => ?_)
   obtain ⟨he, hb⟩ := hR
   refine ⟨.agg ((mkM m cn).arr), he, ?_⟩; clear he F a; intro a F
   refine hK _ _ ?_
   clear hK K
   replace O_k := O_k.below hb
   replace O_i := O_i.below hb
   replace K_ := K_.below hb
   replace S_ := Nat.le_trans S_ hb.size
   replace M := M.below hb; clear hb; try clear u
   refine list_do (wn rfl) (fun K hK => ?_)
   refine ow_bslice F M rfl rfl 57 1 _ rfl #[(0, .agg ((mkM m cn).arr))] (parts1 (F.e rfl)) ((mkM m cn).arr) 85 (newrow85 (mkM m cn) _) ?_
   clear F M a; intro a g42 u F M hb hg
   refine hK _ _ ?_
   clear hK K
   replace O_k := O_k.below hb
   replace O_i := O_i.below hb
   replace K_ := K_.below hb
   replace S_ := Nat.le_trans S_ hb.size
   clear hb hg; try clear v
   refine list_do (wn rfl) (fun K hK => ?_)
   have hxx : At _ ⟨g42, 0, none⟩ (Rv.cs (mkM m cn)) := M.at (i := 0) rfl
   replace M : Mm (cutW w base) u [⟨gb, (bkC (.slice KA rows.length Kc) (.slice IA ms.length Ic) kA tn dn us).toArray, 50⟩] := (by refine M.pick' [1] _ ?_ (by decide); exact ⟨rfl, trivial⟩)
   refine ow_mark Rv.cs_len Rv.cs_one F M rfl rfl _ _ rfl rg_ap_57_85_19_40 ⟨cA, cn, cc⟩ m (F.e rfl) K_ ⟨g42, 0, none⟩ 1 (F.e rfl) hxx (by show cn + 1 ≤ maxLen; simp only [maxLen]; omega) (by show (cn + 1) * 40 ≤ _; omega) (Nat.le_of_eq (cut_size hbw)) (by have h_ := M.bel.size; rwa [cut_size hbw] at h_) ⟨.inl (by show (50 : Nat) ≠ 85; decide), trivial⟩ ?_
   clear F a; have Mo := M; clear M; intro a rw own2 v F M hn2 K2 ho2 hgs
   refine hK _ _ ?_
   clear hK K
   obtain ⟨rA, rn, rc⟩ := rw
   obtain rfl : rn = cn + 1 := hn2
   replace O_k := Ow_grows O_k hgs (by decide)
   replace O_i := Ow_grows O_i hgs (by decide)
   replace S_ := Nat.le_trans S_ (Grows_size hgs)
   clear K_; have K_ := K2.drop2; clear K2 ho2 hgs Mo hxx; try clear u
   refine list_val F (wn rfl) rfl rfl (.slice rA (cn + 1) rc) (ex_assign _ rfl _ (F.e rfl)) ?_; clear F a; intro a F
   refine wpList_nil ?_
   replace F : Fr 79 a [(0, .pointer (some ⟨gb, 0, none⟩)), (2, .int .i64 ((rows0.length : Nat) : Int)), (3, .int .i64 ((kA + j : Nat) : Int)), (4, .slice rA (cn + 1) rc), (5, .int .i64 ((m : Nat) : Int)), (6, .int .i64 ((ii + 1 : Nat) : Int)), (18, .bool true), (36, .bool true)] := F.keep ⟨rfl, rfl, rfl, rfl, rfl, rfl, rfl, rfl, trivial⟩
   refine then_n ?_
   refine wp_seq ?_
   by_cases hi3 : ii < 3
   ·
    refine wp_region_lit ?_
    refine list_val F (wn rfl) rfl rfl (.int .i64 ((ii + 1 : Nat) : Int)) (ex_move _ rfl _ (F.e rfl)) ?_; clear F a; intro a F
    refine list_val F (wn rfl) rfl rfl (.bool true) (ex_bin .lss _ _ _ _ rfl .i64 _ _ (F.e rfl) rfl _ (b_lss (decide_eq_true (by omega)))) ?_; clear F a; intro a F
    refine list_val F (wn rfl) rfl rfl (.bool true) (ex_move _ rfl _ (F.e rfl)) ?_; clear F a; intro a F
    refine list_skip F (F.wants 46 true rfl (by kernel_rfl) rfl false rfl) rfl rfl ?_; clear F a; intro a F
    refine list_skip F (F.wants 46 true rfl (by kernel_rfl) rfl false rfl) rfl rfl ?_; clear F a; intro a F
    refine list_skip F (F.wants 46 true rfl (by kernel_rfl) rfl false rfl) rfl rfl ?_; clear F a; intro a F
    refine list_val F (wn rfl) rfl rfl (.bool true) (ex_pick_t _ _ _ rfl (F.e rfl) _ rfl) ?_; clear F a; intro a F
    refine wpList_nil ?_
    replace F : Fr 79 a [(0, .pointer (some ⟨gb, 0, none⟩)), (2, .int .i64 ((rows0.length : Nat) : Int)), (3, .int .i64 ((kA + j : Nat) : Int)), (4, .slice rA (cn + 1) rc), (5, .int .i64 ((m : Nat) : Int)), (6, .int .i64 ((ii + 1 : Nat) : Int)), (18, .bool true), (36, .bool true), (50, .bool true)] := F.keep ⟨rfl, rfl, rfl, rfl, rfl, rfl, rfl, rfl, rfl, trivial⟩
    refine then_n ?_
    refine wp_cond_true (F.e rfl) ?_
    refine wp_seq ?_
    refine wp_region_lit ?_
    refine list_val F (wn rfl) rfl rfl (.pointer (some ⟨gb, 0, none⟩)) (ex_move _ rfl _ (F.e rfl)) ?_; clear F a; intro a F
    refine list_val F (wn rfl) rfl rfl (.pointer (some ⟨gb, 0, none⟩)) (ex_move _ rfl _ (F.e rfl)) ?_; clear F a; intro a F
    refine list_val F (wn rfl) rfl rfl (.pointer (some ⟨gb, 0, none⟩)) (ex_nilck _ rfl _ (F.e rfl)) ?_; clear F a; intro a F
    refine list_val F (wn rfl) rfl rfl (.pointer (some ⟨gb, 30, none⟩)) (ex_fa _ _ _ rfl _ (F.e rfl) 30 rg_fa_50_30_30 ⟨gb, 30, none⟩ rfl) ?_; clear F a; intro a F
    refine list_val F (wn rfl) rfl rfl (.slice KA rows.length Kc) (ex_load _ _ rfl _ (F.e rfl) _ (lv1 rg_one_35 (M.cell (i := 0) rfl (j := 30) rfl))) ?_; clear F a; intro a F
    refine list_val F (wn rfl) rfl rfl (.slice rA (cn + 1) rc) (ex_move _ rfl _ (F.e rfl)) ?_; clear F a; intro a F
    refine list_do (wn rfl) (fun K hK => ?_)
    refine ow_bslice F M rfl rfl 35 1 _ rfl #[(0, .slice rA (cn + 1) rc)] (parts1 (F.e rfl)) (([(⟨rA, (cn + 1), rc⟩ : Sl)].flatMap Sl.cs).toArray) 57 (newrow (⟨rA, (cn + 1), rc⟩ : Sl) _) ?_
    clear F M a; intro a g57 u F M hb hg
    refine hK _ _ ?_
    clear hK K
    replace O_k := O_k.below hb
    replace O_i := O_i.below hb
    replace K_ := K_.below hb
    replace S_ := Nat.le_trans S_ hb.size
    clear hb hg; try clear v
    refine list_do (wn rfl) (fun K hK => ?_)
    have hxx := C_one (enc := Sl.cs) (m := 1) (hl := Sl.cs_len) (h1 := Sl.cs_one) (x := (⟨rA, (cn + 1), rc⟩ : Sl)) (M.at (i := 0) rfl)
    replace M : Mm (cutW w base) u [⟨gb, (bkC (.slice KA rows.length Kc) (.slice IA ms.length Ic) kA tn dn us).toArray, 50⟩] := (by refine M.pick' [1] _ ?_ (by decide); exact ⟨rfl, trivial⟩)
    refine og_app F M uT1 iS rfl (by decide) (by decide) (Nat.le_of_eq (cut_size hbw)) (by have h_ := M.bel.size; rwa [cut_size hbw] at h_) ⟨.inl (by show (50 : Nat) ≠ 57; decide), trivial⟩ rfl rfl rfl _ _ rfl (.slice KA rows.length Kc) rows [(⟨rA, (cn + 1), rc⟩ : Sl)] (rows ++ [(⟨rA, (cn + 1), rc⟩ : Sl)]) rfl (some ⟨g57, 0, none⟩) 1 1 (F.e rfl) (F.e rfl) O_k hxx (by have h_ := hrl; first | omega | (have h2_ := K_.1; simp only [List.length_cons] at h2_; omega)) ?_
    clear F a; have Mo := M; clear M; intro a A_58 c_58 v F M Oz hgr
    refine hK _ _ ?_
    clear hK K
    replace O_i := Ow_grows O_i (grows_ow O_k hgr) (by decide)
    replace K_ := K_.ow O_k (by decide) hgr
    replace S_ := Nat.le_trans S_ hgr.size
    clear O_k Mo hgr hxx; have O_k := Oz; clear Oz; try clear u
    refine list_val F (wn rfl) rfl rfl (.pointer (some ⟨gb, 0, none⟩)) (ex_nilck _ rfl _ (F.e rfl)) ?_; clear F a; intro a F
    refine list_val F (wn rfl) rfl rfl (.pointer (some ⟨gb, 30, none⟩)) (ex_fa _ _ _ rfl _ (F.e rfl) 30 rg_fa_50_30_30 ⟨gb, 30, none⟩ rfl) ?_; clear F a; intro a F
    refine list_do (wn rfl) (fun K hK => ?_)
    refine ow_store F M rfl 35 _ _ rfl 0 gb ((bkC (.slice KA rows.length Kc) (.slice IA ms.length Ic) kA tn dn us).toArray) _ rfl 30 (F.e rfl) _ (F.e rfl) [.slice A_58 ((rows ++ [(⟨rA, (cn + 1), rc⟩ : Sl)]).length) c_58] rfl rg_info_35_map_size_some_1 (by show 31 ≤ 75; decide) (by simp [Value.oneCell']) ((bkC (.slice A_58 ((rows ++ [(⟨rA, (cn + 1), rc⟩ : Sl)]).length) c_58) (.slice IA ms.length Ic) kA tn dn us).toArray) rfl ?_
    clear F a; have Mo := M; clear M; intro a u F M hgr
    refine hK _ _ ?_
    clear hK K
    replace O_k := O_k.grown (Mo.blk 0 _ rfl) (.inl (by show (57 : Nat) ≠ 50; decide)) hgr
    replace O_i := O_i.grown (Mo.blk 0 _ rfl) (.inl (by show (3 : Nat) ≠ 50; decide)) hgr
    replace K_ := K_.grown (Mo.blk 0 _ rfl) (.inl (by show (50 : Nat) ≠ 85; decide)) hgr
    replace S_ := Nat.le_trans S_ hgr.size
    clear Mo hgr; try clear v
    replace M : Mm (cutW w base) u [⟨gb, (bkC (.slice A_58 ((rows ++ [(⟨rA, (cn + 1), rc⟩ : Sl)]).length) c_58) (.slice IA ms.length Ic) kA tn dn us).toArray, 50⟩] := M
    refine wpList_nil ?_
    replace F : Fr 79 a [(0, .pointer (some ⟨gb, 0, none⟩)), (2, .int .i64 ((rows0.length : Nat) : Int)), (3, .int .i64 ((kA + j : Nat) : Int)), (4, .slice rA (cn + 1) rc), (5, .int .i64 ((m : Nat) : Int)), (6, .int .i64 ((ii + 1 : Nat) : Int)), (18, .bool true), (36, .bool true), (50, .bool true)] := F.keep ⟨rfl, rfl, rfl, rfl, rfl, rfl, rfl, rfl, rfl, trivial⟩
    refine then_n ?_
    refine wp_region_lit ?_
    refine list_val F (wn rfl) rfl rfl (.pointer (some ⟨gb, 0, none⟩)) (ex_move _ rfl _ (F.e rfl)) ?_; clear F a; intro a F
    refine list_val F (wn rfl) rfl rfl (.pointer (some ⟨gb, 0, none⟩)) (ex_move _ rfl _ (F.e rfl)) ?_; clear F a; intro a F
    refine list_val F (wn rfl) rfl rfl (.pointer (some ⟨gb, 0, none⟩)) (ex_nilck _ rfl _ (F.e rfl)) ?_; clear F a; intro a F
    refine list_val F (wn rfl) rfl rfl (.pointer (some ⟨gb, 31, none⟩)) (ex_fa _ _ _ rfl _ (F.e rfl) 31 rg_fa_50_31_31 ⟨gb, 31, none⟩ rfl) ?_; clear F a; intro a F
    refine list_val F (wn rfl) rfl rfl (.slice IA ms.length Ic) (ex_load _ _ rfl _ (F.e rfl) _ (lv1 rg_one_25 (M.cell (i := 0) rfl (j := 31) rfl))) ?_; clear F a; intro a F
    refine list_val F (wn rfl) rfl rfl (.int .i64 ((m : Nat) : Int)) (ex_move _ rfl _ (F.e rfl)) ?_; clear F a; intro a F
    refine list_do (wn rfl) (fun K hK => ?_)
    refine ow_bslice F M rfl rfl 25 1 _ rfl #[(0, .int .i64 ((m : Nat) : Int))] (parts1 (F.e rfl)) (([m].flatMap nc).toArray) 3 (newnum m _) ?_
    clear F M a; intro a g67 v F M hb hg
    refine hK _ _ ?_
    clear hK K
    replace O_k := O_k.below hb
    replace O_i := O_i.below hb
    replace K_ := K_.below hb
    replace S_ := Nat.le_trans S_ hb.size
    clear hb hg; try clear u
    refine list_do (wn rfl) (fun K hK => ?_)
    have hxx := C_one (enc := nc) (m := 1) (hl := nc_len) (h1 := nc_one) (x := m) (M.at (i := 0) rfl)
    replace M : Mm (cutW w base) v [⟨gb, (bkC (.slice A_58 ((rows ++ [(⟨rA, (cn + 1), rc⟩ : Sl)]).length) c_58) (.slice IA ms.length Ic) kA tn dn us).toArray, 50⟩] := (by refine M.pick' [1] _ ?_ (by decide); exact ⟨rfl, trivial⟩)
    refine og_app F M uTI iI rfl (by decide) (by decide) (Nat.le_of_eq (cut_size hbw)) (by have h_ := M.bel.size; rwa [cut_size hbw] at h_) ⟨.inl (by show (50 : Nat) ≠ 3; decide), trivial⟩ rfl rfl rfl _ _ rfl (.slice IA ms.length Ic) ms [m] (ms ++ [m]) rfl (some ⟨g67, 0, none⟩) 1 1 (F.e rfl) (F.e rfl) O_i hxx (by have h_ := hrl; first | omega | (have h2_ := K_.1; simp only [List.length_cons] at h2_; omega)) ?_
    clear F a; have Mo := M; clear M; intro a A_68 c_68 u F M Oz hgr
    refine hK _ _ ?_
    clear hK K
    replace O_k := Ow_grows O_k (grows_ow O_i hgr) (by decide)
    replace K_ := K_.ow O_i (by decide) hgr
    replace S_ := Nat.le_trans S_ hgr.size
    clear O_i Mo hgr hxx; have O_i := Oz; clear Oz; try clear v
    refine list_val F (wn rfl) rfl rfl (.pointer (some ⟨gb, 0, none⟩)) (ex_nilck _ rfl _ (F.e rfl)) ?_; clear F a; intro a F
    refine list_val F (wn rfl) rfl rfl (.pointer (some ⟨gb, 31, none⟩)) (ex_fa _ _ _ rfl _ (F.e rfl) 31 rg_fa_50_31_31 ⟨gb, 31, none⟩ rfl) ?_; clear F a; intro a F
    refine list_do (wn rfl) (fun K hK => ?_)
    refine ow_store F M rfl 25 _ _ rfl 0 gb ((bkC (.slice A_58 ((rows ++ [(⟨rA, (cn + 1), rc⟩ : Sl)]).length) c_58) (.slice IA ms.length Ic) kA tn dn us).toArray) _ rfl 31 (F.e rfl) _ (F.e rfl) [.slice A_68 ((ms ++ [m]).length) c_68] rfl rg_info_25_map_size_some_1 (by show 32 ≤ 75; decide) (by simp [Value.oneCell']) ((bkC (.slice A_58 ((rows ++ [(⟨rA, (cn + 1), rc⟩ : Sl)]).length) c_58) (.slice A_68 ((ms ++ [m]).length) c_68) kA tn dn us).toArray) rfl ?_
    clear F a; have Mo := M; clear M; intro a v F M hgr
    refine hK _ _ ?_
    clear hK K
    replace O_k := O_k.grown (Mo.blk 0 _ rfl) (.inl (by show (57 : Nat) ≠ 50; decide)) hgr
    replace O_i := O_i.grown (Mo.blk 0 _ rfl) (.inl (by show (3 : Nat) ≠ 50; decide)) hgr
    replace K_ := K_.grown (Mo.blk 0 _ rfl) (.inl (by show (50 : Nat) ≠ 85; decide)) hgr
    replace S_ := Nat.le_trans S_ hgr.size
    clear Mo hgr; try clear u
    replace M : Mm (cutW w base) v [⟨gb, (bkC (.slice A_58 ((rows ++ [(⟨rA, (cn + 1), rc⟩ : Sl)]).length) c_58) (.slice A_68 ((ms ++ [m]).length) c_68) kA tn dn us).toArray, 50⟩] := M
    refine wpList_nil ?_
    replace F : Fr 79 a [(0, .pointer (some ⟨gb, 0, none⟩)), (2, .int .i64 ((rows0.length : Nat) : Int)), (3, .int .i64 ((kA + j : Nat) : Int)), (4, .slice rA (cn + 1) rc), (5, .int .i64 ((m : Nat) : Int)), (6, .int .i64 ((ii + 1 : Nat) : Int)), (18, .bool true), (36, .bool true), (50, .bool true)] := F.keep ⟨rfl, rfl, rfl, rfl, rfl, rfl, rfl, rfl, rfl, trivial⟩
    refine in_n ?_
    refine then_n ?_
    refine wp_region_lit ?_
    refine list_val F (wn rfl) rfl rfl (.int .i64 ((ii + 1 : Nat) : Int)) (ex_move _ rfl _ (F.e rfl)) ?_; clear F a; intro a F
    refine list_val F (wn rfl) rfl rfl (.int .i64 ((ii + 1 + 1 : Nat) : Int)) (ex_bin .add _ _ _ _ rfl .i64 _ _ (F.e rfl) rfl _ (b_add ((w_i64 (by omega) (by omega)).trans (by omega)))) ?_; clear F a; intro a F
    refine list_val F (wn rfl) rfl rfl (.int .i64 ((ii + 1 + 1 : Nat) : Int)) (ex_assign _ rfl _ (F.e rfl)) ?_; clear F a; intro a F
    refine wpList_nil ?_
    replace F : Fr 79 a [(0, .pointer (some ⟨gb, 0, none⟩)), (2, .int .i64 ((rows0.length : Nat) : Int)), (3, .int .i64 ((kA + j : Nat) : Int)), (4, .slice rA (cn + 1) rc), (5, .int .i64 ((m : Nat) : Int)), (6, .int .i64 ((ii + 1 + 1 : Nat) : Int)), (18, .bool true), (36, .bool true), (50, .bool true)] := F.keep ⟨rfl, rfl, rfl, rfl, rfl, rfl, rfl, rfl, rfl, trivial⟩
    refine then_n ?_
    replace K_ := AllK.cons K_.head.2 K_.head.1 (K_.tail.snoc K_.head.2 K_.head.1)
    have hl1 : (rows ++ [(⟨rA, (cn + 1), rc⟩ : Sl)]).length = rows.length + 1 := by rw [List.length_append, List.length_singleton]
    exact ⟨32 - (ii + 1), by omega, (ii + 1), rA, (cn + 1), rc, A_58, c_58, (rows ++ [(⟨rA, (cn + 1), rc⟩ : Sl)]), A_68, c_68, (ms ++ [m]), own2, F.keep ⟨rfl, rfl, rfl, rfl, rfl, rfl, rfl, trivial⟩, (by refine M.pick' [0] _ ?_ (by decide); exact ⟨rfl, trivial⟩), O_k, O_i, K_, S_, (by omega), (by omega), (by rw [hl1]; omega), (by rw [hl1]; omega), (rows_bd hrn hNl (by show cn + 1 ≤ 1000100; omega)), (marks_bd hmm hmt), (by omega)⟩
   by_cases h16 : (ii + 1) % 16 = 0
   ·
    refine wp_region_lit ?_
    refine list_val F (wn rfl) rfl rfl (.int .i64 ((ii + 1 : Nat) : Int)) (ex_move _ rfl _ (F.e rfl)) ?_; clear F a; intro a F
    refine list_val F (wn rfl) rfl rfl (.bool false) (ex_bin .lss _ _ _ _ rfl .i64 _ _ (F.e rfl) rfl _ (b_lss (decide_eq_false (by omega)))) ?_; clear F a; intro a F
    refine list_val F (wn rfl) rfl rfl (.bool false) (ex_move _ rfl _ (F.e rfl)) ?_; clear F a; intro a F
    refine list_val F (F.wants 46 false rfl (by kernel_rfl) rfl true rfl) rfl rfl (.int .i64 ((ii + 1 : Nat) : Int)) (ex_move _ rfl _ (F.e rfl)) ?_; clear F a; intro a F
    refine list_val F (F.wants 46 false rfl (by kernel_rfl) rfl true rfl) rfl rfl (.int .i64 (((ii + 1) % 16 : Nat) : Int)) (ex_bin .rem _ _ _ _ rfl .i64 _ _ (F.e rfl) rfl _ (b_rem (by decide) (bk_rem _ 16))) ?_; clear F a; intro a F
    refine list_val F (F.wants 46 false rfl (by kernel_rfl) rfl true rfl) rfl rfl (.bool true) (ex_bin .eql _ _ _ _ rfl .i64 _ _ (F.e rfl) rfl _ (b_eql (by rw [h16]; rfl))) ?_; clear F a; intro a F
    refine list_val F (wn rfl) rfl rfl (.bool true) (ex_pick_f _ _ _ rfl (F.e rfl) _ (F.e rfl)) ?_; clear F a; intro a F
    refine wpList_nil ?_
    replace F : Fr 79 a [(0, .pointer (some ⟨gb, 0, none⟩)), (2, .int .i64 ((rows0.length : Nat) : Int)), (3, .int .i64 ((kA + j : Nat) : Int)), (4, .slice rA (cn + 1) rc), (5, .int .i64 ((m : Nat) : Int)), (6, .int .i64 ((ii + 1 : Nat) : Int)), (18, .bool true), (36, .bool true), (50, .bool true)] := F.keep ⟨rfl, rfl, rfl, rfl, rfl, rfl, rfl, rfl, rfl, trivial⟩
    refine then_n ?_
    refine wp_cond_true (F.e rfl) ?_
    refine wp_seq ?_
    refine wp_region_lit ?_
    refine list_val F (wn rfl) rfl rfl (.pointer (some ⟨gb, 0, none⟩)) (ex_move _ rfl _ (F.e rfl)) ?_; clear F a; intro a F
    refine list_val F (wn rfl) rfl rfl (.pointer (some ⟨gb, 0, none⟩)) (ex_move _ rfl _ (F.e rfl)) ?_; clear F a; intro a F
    refine list_val F (wn rfl) rfl rfl (.pointer (some ⟨gb, 0, none⟩)) (ex_nilck _ rfl _ (F.e rfl)) ?_; clear F a; intro a F
    refine list_val F (wn rfl) rfl rfl (.pointer (some ⟨gb, 30, none⟩)) (ex_fa _ _ _ rfl _ (F.e rfl) 30 rg_fa_50_30_30 ⟨gb, 30, none⟩ rfl) ?_; clear F a; intro a F
    refine list_val F (wn rfl) rfl rfl (.slice KA rows.length Kc) (ex_load _ _ rfl _ (F.e rfl) _ (lv1 rg_one_35 (M.cell (i := 0) rfl (j := 30) rfl))) ?_; clear F a; intro a F
    refine list_val F (wn rfl) rfl rfl (.slice rA (cn + 1) rc) (ex_move _ rfl _ (F.e rfl)) ?_; clear F a; intro a F
    refine list_do (wn rfl) (fun K hK => ?_)
    refine ow_bslice F M rfl rfl 35 1 _ rfl #[(0, .slice rA (cn + 1) rc)] (parts1 (F.e rfl)) (([(⟨rA, (cn + 1), rc⟩ : Sl)].flatMap Sl.cs).toArray) 57 (newrow (⟨rA, (cn + 1), rc⟩ : Sl) _) ?_
    clear F M a; intro a g57 u F M hb hg
    refine hK _ _ ?_
    clear hK K
    replace O_k := O_k.below hb
    replace O_i := O_i.below hb
    replace K_ := K_.below hb
    replace S_ := Nat.le_trans S_ hb.size
    clear hb hg; try clear v
    refine list_do (wn rfl) (fun K hK => ?_)
    have hxx := C_one (enc := Sl.cs) (m := 1) (hl := Sl.cs_len) (h1 := Sl.cs_one) (x := (⟨rA, (cn + 1), rc⟩ : Sl)) (M.at (i := 0) rfl)
    replace M : Mm (cutW w base) u [⟨gb, (bkC (.slice KA rows.length Kc) (.slice IA ms.length Ic) kA tn dn us).toArray, 50⟩] := (by refine M.pick' [1] _ ?_ (by decide); exact ⟨rfl, trivial⟩)
    refine og_app F M uT1 iS rfl (by decide) (by decide) (Nat.le_of_eq (cut_size hbw)) (by have h_ := M.bel.size; rwa [cut_size hbw] at h_) ⟨.inl (by show (50 : Nat) ≠ 57; decide), trivial⟩ rfl rfl rfl _ _ rfl (.slice KA rows.length Kc) rows [(⟨rA, (cn + 1), rc⟩ : Sl)] (rows ++ [(⟨rA, (cn + 1), rc⟩ : Sl)]) rfl (some ⟨g57, 0, none⟩) 1 1 (F.e rfl) (F.e rfl) O_k hxx (by have h_ := hrl; first | omega | (have h2_ := K_.1; simp only [List.length_cons] at h2_; omega)) ?_
    clear F a; have Mo := M; clear M; intro a A_58 c_58 v F M Oz hgr
    refine hK _ _ ?_
    clear hK K
    replace O_i := Ow_grows O_i (grows_ow O_k hgr) (by decide)
    replace K_ := K_.ow O_k (by decide) hgr
    replace S_ := Nat.le_trans S_ hgr.size
    clear O_k Mo hgr hxx; have O_k := Oz; clear Oz; try clear u
    refine list_val F (wn rfl) rfl rfl (.pointer (some ⟨gb, 0, none⟩)) (ex_nilck _ rfl _ (F.e rfl)) ?_; clear F a; intro a F
    refine list_val F (wn rfl) rfl rfl (.pointer (some ⟨gb, 30, none⟩)) (ex_fa _ _ _ rfl _ (F.e rfl) 30 rg_fa_50_30_30 ⟨gb, 30, none⟩ rfl) ?_; clear F a; intro a F
    refine list_do (wn rfl) (fun K hK => ?_)
    refine ow_store F M rfl 35 _ _ rfl 0 gb ((bkC (.slice KA rows.length Kc) (.slice IA ms.length Ic) kA tn dn us).toArray) _ rfl 30 (F.e rfl) _ (F.e rfl) [.slice A_58 ((rows ++ [(⟨rA, (cn + 1), rc⟩ : Sl)]).length) c_58] rfl rg_info_35_map_size_some_1 (by show 31 ≤ 75; decide) (by simp [Value.oneCell']) ((bkC (.slice A_58 ((rows ++ [(⟨rA, (cn + 1), rc⟩ : Sl)]).length) c_58) (.slice IA ms.length Ic) kA tn dn us).toArray) rfl ?_
    clear F a; have Mo := M; clear M; intro a u F M hgr
    refine hK _ _ ?_
    clear hK K
    replace O_k := O_k.grown (Mo.blk 0 _ rfl) (.inl (by show (57 : Nat) ≠ 50; decide)) hgr
    replace O_i := O_i.grown (Mo.blk 0 _ rfl) (.inl (by show (3 : Nat) ≠ 50; decide)) hgr
    replace K_ := K_.grown (Mo.blk 0 _ rfl) (.inl (by show (50 : Nat) ≠ 85; decide)) hgr
    replace S_ := Nat.le_trans S_ hgr.size
    clear Mo hgr; try clear v
    replace M : Mm (cutW w base) u [⟨gb, (bkC (.slice A_58 ((rows ++ [(⟨rA, (cn + 1), rc⟩ : Sl)]).length) c_58) (.slice IA ms.length Ic) kA tn dn us).toArray, 50⟩] := M
    refine wpList_nil ?_
    replace F : Fr 79 a [(0, .pointer (some ⟨gb, 0, none⟩)), (2, .int .i64 ((rows0.length : Nat) : Int)), (3, .int .i64 ((kA + j : Nat) : Int)), (4, .slice rA (cn + 1) rc), (5, .int .i64 ((m : Nat) : Int)), (6, .int .i64 ((ii + 1 : Nat) : Int)), (18, .bool true), (36, .bool true), (50, .bool true)] := F.keep ⟨rfl, rfl, rfl, rfl, rfl, rfl, rfl, rfl, rfl, trivial⟩
    refine then_n ?_
    refine wp_region_lit ?_
    refine list_val F (wn rfl) rfl rfl (.pointer (some ⟨gb, 0, none⟩)) (ex_move _ rfl _ (F.e rfl)) ?_; clear F a; intro a F
    refine list_val F (wn rfl) rfl rfl (.pointer (some ⟨gb, 0, none⟩)) (ex_move _ rfl _ (F.e rfl)) ?_; clear F a; intro a F
    refine list_val F (wn rfl) rfl rfl (.pointer (some ⟨gb, 0, none⟩)) (ex_nilck _ rfl _ (F.e rfl)) ?_; clear F a; intro a F
    refine list_val F (wn rfl) rfl rfl (.pointer (some ⟨gb, 31, none⟩)) (ex_fa _ _ _ rfl _ (F.e rfl) 31 rg_fa_50_31_31 ⟨gb, 31, none⟩ rfl) ?_; clear F a; intro a F
    refine list_val F (wn rfl) rfl rfl (.slice IA ms.length Ic) (ex_load _ _ rfl _ (F.e rfl) _ (lv1 rg_one_25 (M.cell (i := 0) rfl (j := 31) rfl))) ?_; clear F a; intro a F
    refine list_val F (wn rfl) rfl rfl (.int .i64 ((m : Nat) : Int)) (ex_move _ rfl _ (F.e rfl)) ?_; clear F a; intro a F
    refine list_do (wn rfl) (fun K hK => ?_)
    refine ow_bslice F M rfl rfl 25 1 _ rfl #[(0, .int .i64 ((m : Nat) : Int))] (parts1 (F.e rfl)) (([m].flatMap nc).toArray) 3 (newnum m _) ?_
    clear F M a; intro a g67 v F M hb hg
    refine hK _ _ ?_
    clear hK K
    replace O_k := O_k.below hb
    replace O_i := O_i.below hb
    replace K_ := K_.below hb
    replace S_ := Nat.le_trans S_ hb.size
    clear hb hg; try clear u
    refine list_do (wn rfl) (fun K hK => ?_)
    have hxx := C_one (enc := nc) (m := 1) (hl := nc_len) (h1 := nc_one) (x := m) (M.at (i := 0) rfl)
    replace M : Mm (cutW w base) v [⟨gb, (bkC (.slice A_58 ((rows ++ [(⟨rA, (cn + 1), rc⟩ : Sl)]).length) c_58) (.slice IA ms.length Ic) kA tn dn us).toArray, 50⟩] := (by refine M.pick' [1] _ ?_ (by decide); exact ⟨rfl, trivial⟩)
    refine og_app F M uTI iI rfl (by decide) (by decide) (Nat.le_of_eq (cut_size hbw)) (by have h_ := M.bel.size; rwa [cut_size hbw] at h_) ⟨.inl (by show (50 : Nat) ≠ 3; decide), trivial⟩ rfl rfl rfl _ _ rfl (.slice IA ms.length Ic) ms [m] (ms ++ [m]) rfl (some ⟨g67, 0, none⟩) 1 1 (F.e rfl) (F.e rfl) O_i hxx (by have h_ := hrl; first | omega | (have h2_ := K_.1; simp only [List.length_cons] at h2_; omega)) ?_
    clear F a; have Mo := M; clear M; intro a A_68 c_68 u F M Oz hgr
    refine hK _ _ ?_
    clear hK K
    replace O_k := Ow_grows O_k (grows_ow O_i hgr) (by decide)
    replace K_ := K_.ow O_i (by decide) hgr
    replace S_ := Nat.le_trans S_ hgr.size
    clear O_i Mo hgr hxx; have O_i := Oz; clear Oz; try clear v
    refine list_val F (wn rfl) rfl rfl (.pointer (some ⟨gb, 0, none⟩)) (ex_nilck _ rfl _ (F.e rfl)) ?_; clear F a; intro a F
    refine list_val F (wn rfl) rfl rfl (.pointer (some ⟨gb, 31, none⟩)) (ex_fa _ _ _ rfl _ (F.e rfl) 31 rg_fa_50_31_31 ⟨gb, 31, none⟩ rfl) ?_; clear F a; intro a F
    refine list_do (wn rfl) (fun K hK => ?_)
    refine ow_store F M rfl 25 _ _ rfl 0 gb ((bkC (.slice A_58 ((rows ++ [(⟨rA, (cn + 1), rc⟩ : Sl)]).length) c_58) (.slice IA ms.length Ic) kA tn dn us).toArray) _ rfl 31 (F.e rfl) _ (F.e rfl) [.slice A_68 ((ms ++ [m]).length) c_68] rfl rg_info_25_map_size_some_1 (by show 32 ≤ 75; decide) (by simp [Value.oneCell']) ((bkC (.slice A_58 ((rows ++ [(⟨rA, (cn + 1), rc⟩ : Sl)]).length) c_58) (.slice A_68 ((ms ++ [m]).length) c_68) kA tn dn us).toArray) rfl ?_
    clear F a; have Mo := M; clear M; intro a v F M hgr
    refine hK _ _ ?_
    clear hK K
    replace O_k := O_k.grown (Mo.blk 0 _ rfl) (.inl (by show (57 : Nat) ≠ 50; decide)) hgr
    replace O_i := O_i.grown (Mo.blk 0 _ rfl) (.inl (by show (3 : Nat) ≠ 50; decide)) hgr
    replace K_ := K_.grown (Mo.blk 0 _ rfl) (.inl (by show (50 : Nat) ≠ 85; decide)) hgr
    replace S_ := Nat.le_trans S_ hgr.size
    clear Mo hgr; try clear u
    replace M : Mm (cutW w base) v [⟨gb, (bkC (.slice A_58 ((rows ++ [(⟨rA, (cn + 1), rc⟩ : Sl)]).length) c_58) (.slice A_68 ((ms ++ [m]).length) c_68) kA tn dn us).toArray, 50⟩] := M
    refine wpList_nil ?_
    replace F : Fr 79 a [(0, .pointer (some ⟨gb, 0, none⟩)), (2, .int .i64 ((rows0.length : Nat) : Int)), (3, .int .i64 ((kA + j : Nat) : Int)), (4, .slice rA (cn + 1) rc), (5, .int .i64 ((m : Nat) : Int)), (6, .int .i64 ((ii + 1 : Nat) : Int)), (18, .bool true), (36, .bool true), (50, .bool true)] := F.keep ⟨rfl, rfl, rfl, rfl, rfl, rfl, rfl, rfl, rfl, trivial⟩
    refine in_n ?_
    refine then_n ?_
    refine wp_region_lit ?_
    refine list_val F (wn rfl) rfl rfl (.int .i64 ((ii + 1 : Nat) : Int)) (ex_move _ rfl _ (F.e rfl)) ?_; clear F a; intro a F
    refine list_val F (wn rfl) rfl rfl (.int .i64 ((ii + 1 + 1 : Nat) : Int)) (ex_bin .add _ _ _ _ rfl .i64 _ _ (F.e rfl) rfl _ (b_add ((w_i64 (by omega) (by omega)).trans (by omega)))) ?_; clear F a; intro a F
    refine list_val F (wn rfl) rfl rfl (.int .i64 ((ii + 1 + 1 : Nat) : Int)) (ex_assign _ rfl _ (F.e rfl)) ?_; clear F a; intro a F
    refine wpList_nil ?_
    replace F : Fr 79 a [(0, .pointer (some ⟨gb, 0, none⟩)), (2, .int .i64 ((rows0.length : Nat) : Int)), (3, .int .i64 ((kA + j : Nat) : Int)), (4, .slice rA (cn + 1) rc), (5, .int .i64 ((m : Nat) : Int)), (6, .int .i64 ((ii + 1 + 1 : Nat) : Int)), (18, .bool true), (36, .bool true), (50, .bool true)] := F.keep ⟨rfl, rfl, rfl, rfl, rfl, rfl, rfl, rfl, rfl, trivial⟩
    refine then_n ?_
    replace K_ := AllK.cons K_.head.2 K_.head.1 (K_.tail.snoc K_.head.2 K_.head.1)
    have hl1 : (rows ++ [(⟨rA, (cn + 1), rc⟩ : Sl)]).length = rows.length + 1 := by rw [List.length_append, List.length_singleton]
    exact ⟨32 - (ii + 1), by omega, (ii + 1), rA, (cn + 1), rc, A_58, c_58, (rows ++ [(⟨rA, (cn + 1), rc⟩ : Sl)]), A_68, c_68, (ms ++ [m]), own2, F.keep ⟨rfl, rfl, rfl, rfl, rfl, rfl, rfl, trivial⟩, (by refine M.pick' [0] _ ?_ (by decide); exact ⟨rfl, trivial⟩), O_k, O_i, K_, S_, (by omega), (by omega), (by rw [hl1]; omega), (by rw [hl1]; omega), (rows_bd hrn hNl (by show cn + 1 ≤ 1000100; omega)), (marks_bd hmm hmt), (by omega)⟩
   refine wp_region_lit ?_
   refine list_val F (wn rfl) rfl rfl (.int .i64 ((ii + 1 : Nat) : Int)) (ex_move _ rfl _ (F.e rfl)) ?_; clear F a; intro a F
   refine list_val F (wn rfl) rfl rfl (.bool false) (ex_bin .lss _ _ _ _ rfl .i64 _ _ (F.e rfl) rfl _ (b_lss (decide_eq_false (by omega)))) ?_; clear F a; intro a F
   refine list_val F (wn rfl) rfl rfl (.bool false) (ex_move _ rfl _ (F.e rfl)) ?_; clear F a; intro a F
   refine list_val F (F.wants 46 false rfl (by kernel_rfl) rfl true rfl) rfl rfl (.int .i64 ((ii + 1 : Nat) : Int)) (ex_move _ rfl _ (F.e rfl)) ?_; clear F a; intro a F
   refine list_val F (F.wants 46 false rfl (by kernel_rfl) rfl true rfl) rfl rfl (.int .i64 (((ii + 1) % 16 : Nat) : Int)) (ex_bin .rem _ _ _ _ rfl .i64 _ _ (F.e rfl) rfl _ (b_rem (by decide) (bk_rem _ 16))) ?_; clear F a; intro a F
   refine list_val F (F.wants 46 false rfl (by kernel_rfl) rfl true rfl) rfl rfl (.bool false) (ex_bin .eql _ _ _ _ rfl .i64 _ _ (F.e rfl) rfl _ (b_eql (by rw [beq_eq_false_iff_ne]; omega))) ?_; clear F a; intro a F
   refine list_val F (wn rfl) rfl rfl (.bool false) (ex_pick_f _ _ _ rfl (F.e rfl) _ (F.e rfl)) ?_; clear F a; intro a F
   refine wpList_nil ?_
   replace F : Fr 79 a [(0, .pointer (some ⟨gb, 0, none⟩)), (2, .int .i64 ((rows0.length : Nat) : Int)), (3, .int .i64 ((kA + j : Nat) : Int)), (4, .slice rA (cn + 1) rc), (5, .int .i64 ((m : Nat) : Int)), (6, .int .i64 ((ii + 1 : Nat) : Int)), (18, .bool true), (36, .bool true), (50, .bool false)] := F.keep ⟨rfl, rfl, rfl, rfl, rfl, rfl, rfl, rfl, rfl, trivial⟩
   refine then_n ?_
   refine wp_cond_false (F.e rfl) ?_
   refine wp_skip ?_
   refine in_n ?_
   refine then_n ?_
   refine wp_region_lit ?_
   refine list_val F (wn rfl) rfl rfl (.int .i64 ((ii + 1 : Nat) : Int)) (ex_move _ rfl _ (F.e rfl)) ?_; clear F a; intro a F
   refine list_val F (wn rfl) rfl rfl (.int .i64 ((ii + 1 + 1 : Nat) : Int)) (ex_bin .add _ _ _ _ rfl .i64 _ _ (F.e rfl) rfl _ (b_add ((w_i64 (by omega) (by omega)).trans (by omega)))) ?_; clear F a; intro a F
   refine list_val F (wn rfl) rfl rfl (.int .i64 ((ii + 1 + 1 : Nat) : Int)) (ex_assign _ rfl _ (F.e rfl)) ?_; clear F a; intro a F
   refine wpList_nil ?_
   replace F : Fr 79 a [(0, .pointer (some ⟨gb, 0, none⟩)), (2, .int .i64 ((rows0.length : Nat) : Int)), (3, .int .i64 ((kA + j : Nat) : Int)), (4, .slice rA (cn + 1) rc), (5, .int .i64 ((m : Nat) : Int)), (6, .int .i64 ((ii + 1 + 1 : Nat) : Int)), (18, .bool true), (36, .bool true), (50, .bool false)] := F.keep ⟨rfl, rfl, rfl, rfl, rfl, rfl, rfl, rfl, rfl, trivial⟩
   refine then_n ?_
   exact ⟨32 - (ii + 1), by omega, (ii + 1), rA, (cn + 1), rc, KA, Kc, rows, IA, Ic, ms, own2, F.keep ⟨rfl, rfl, rfl, rfl, rfl, rfl, rfl, trivial⟩, (by refine M.pick' [0] _ ?_ (by decide); exact ⟨rfl, trivial⟩), O_k, O_i, K_, S_, (by omega), (by omega), (by omega), hNl, hrn, hmm, (by omega)⟩
  replace K_ := K_.tail
  refine wp_seq ?_
  refine wp_seq ?_
  refine wp_region_lit ?_
  refine list_val F (wn rfl) rfl rfl (.int .i64 ((ii + 1 : Nat) : Int)) (ex_move _ rfl _ (F.e rfl)) ?_; clear F a; intro a F
  refine list_val F (wn rfl) rfl rfl (.bool false) (ex_bin .leq _ _ _ _ rfl .i64 _ _ (F.e rfl) rfl _ (b_leq (decide_eq_false (by omega)))) ?_; clear F a; intro a F
  refine wpList_nil ?_
  replace F : Fr 79 a [(0, .pointer (some ⟨gb, 0, none⟩)), (2, .int .i64 ((rows0.length : Nat) : Int)), (3, .int .i64 ((kA + j : Nat) : Int)), (4, .slice cA cn cc), (5, .int .i64 ((m : Nat) : Int)), (6, .int .i64 ((ii + 1 : Nat) : Int)), (18, .bool true), (36, .bool false)] := F.keep ⟨rfl, rfl, rfl, rfl, rfl, rfl, rfl, rfl, trivial⟩
  refine then_n ?_
  refine wp_cond_false (F.e rfl) ?_
  refine wp_exit ?_
  refine then_x ?_
  refine then_x ?_
  refine in_hit ?_
  refine in_n ?_
  refine then_n ?_
  refine wp_region_lit ?_
  refine list_val F (wn rfl) rfl rfl (.int .i64 ((kA + j : Nat) : Int)) (ex_move _ rfl _ (F.e rfl)) ?_; clear F a; intro a F
  refine list_val F (wn rfl) rfl rfl (.int .i64 ((kA + j + 1 : Nat) : Int)) (ex_bin .add _ _ _ _ rfl .i64 _ _ (F.e rfl) rfl _ (b_add ((w_i64 (by omega) (by omega)).trans (by omega)))) ?_; clear F a; intro a F
  refine list_val F (wn rfl) rfl rfl (.int .i64 ((kA + j + 1 : Nat) : Int)) (ex_assign _ rfl _ (F.e rfl)) ?_; clear F a; intro a F
  refine wpList_nil ?_
  replace F : Fr 79 a [(0, .pointer (some ⟨gb, 0, none⟩)), (2, .int .i64 ((rows0.length : Nat) : Int)), (3, .int .i64 ((kA + j + 1 : Nat) : Int)), (4, .slice cA cn cc), (5, .int .i64 ((m : Nat) : Int)), (6, .int .i64 ((ii + 1 : Nat) : Int)), (18, .bool true), (36, .bool false)] := F.keep ⟨rfl, rfl, rfl, rfl, rfl, rfl, rfl, rfl, trivial⟩
  refine then_n ?_
  exact ⟨(rows0.length - kA) - (j + 1), by omega, (j + 1), KA, Kc, rows, IA, Ic, ms, own, F.keep ⟨rfl, rfl, rfl, trivial⟩, (by refine M.pick' [0] _ ?_ (by decide); exact ⟨rfl, trivial⟩), O_k, O_i, K_, S_, (by omega), (by omega), hNl, hrn, hmm, (by omega)⟩
 refine wp_seq ?_
 refine wp_seq ?_
 refine wp_region_lit ?_
 refine list_val F (wn rfl) rfl rfl (.int .i64 ((kA + j : Nat) : Int)) (ex_move _ rfl _ (F.e rfl)) ?_; clear F a; intro a F
 refine list_val F (wn rfl) rfl rfl (.int .i64 ((rows0.length : Nat) : Int)) (ex_move _ rfl _ (F.e rfl)) ?_; clear F a; intro a F
 refine list_val F (wn rfl) rfl rfl (.bool false) (ex_bin .lss _ _ _ _ rfl .i64 _ _ (F.e rfl) (F.e rfl) _ (b_lss (decide_eq_false (by omega)))) ?_; clear F a; intro a F
 refine wpList_nil ?_
 replace F : Fr 79 a [(0, .pointer (some ⟨gb, 0, none⟩)), (2, .int .i64 ((rows0.length : Nat) : Int)), (3, .int .i64 ((kA + j : Nat) : Int)), (18, .bool false)] := F.keep ⟨rfl, rfl, rfl, rfl, trivial⟩
 refine then_n ?_
 refine wp_cond_false (F.e rfl) ?_
 refine wp_exit ?_
 refine then_x ?_
 refine then_x ?_
 refine in_hit ?_
 refine then_n ?_
 refine wp_region_lit ?_
 refine list_val F (wn rfl) rfl rfl (.pointer (some ⟨gb, 0, none⟩)) (ex_move _ rfl _ (F.e rfl)) ?_; clear F a; intro a F
 refine list_val F (wn rfl) rfl rfl (.pointer (some ⟨gb, 0, none⟩)) (ex_move _ rfl _ (F.e rfl)) ?_; clear F a; intro a F
 refine list_val F (wn rfl) rfl rfl (.pointer (some ⟨gb, 0, none⟩)) (ex_nilck _ rfl _ (F.e rfl)) ?_; clear F a; intro a F
 refine list_val F (wn rfl) rfl rfl (.pointer (some ⟨gb, 30, none⟩)) (ex_fa _ _ _ rfl _ (F.e rfl) 30 rg_fa_50_30_30 ⟨gb, 30, none⟩ rfl) ?_; clear F a; intro a F
 refine list_val F (wn rfl) rfl rfl (.slice KA rows.length Kc) (ex_load _ _ rfl _ (F.e rfl) _ (lv1 rg_one_35 (M.cell (i := 0) rfl (j := 30) rfl))) ?_; clear F a; intro a F
 refine list_val F (wn rfl) rfl rfl (.int .i64 ((rows.length : Nat) : Int)) (ex_len _ _ rfl 1 rg_sl_35_1 _ _ _ (F.e rfl)) ?_; clear F a; intro a F
 refine list_val F (wn rfl) rfl rfl (.pointer (some ⟨gb, 0, none⟩)) (ex_nilck _ rfl _ (F.e rfl)) ?_; clear F a; intro a F
 refine list_val F (wn rfl) rfl rfl (.pointer (some ⟨gb, 32, none⟩)) (ex_fa _ _ _ rfl _ (F.e rfl) 32 rg_fa_50_32_32 ⟨gb, 32, none⟩ rfl) ?_; clear F a; intro a F
 refine list_do (wn rfl) (fun K hK => ?_)
 refine ow_store F M rfl 3 _ _ rfl 0 gb ((bkC (.slice KA rows.length Kc) (.slice IA ms.length Ic) kA tn dn us).toArray) _ rfl 32 (F.e rfl) _ (F.e rfl) [.int .i64 ((rows.length : Nat) : Int)] rfl rg_info_3_map_size_some_1 (by show 33 ≤ 75; decide) (by simp [Value.oneCell']) ((bkC (.slice KA rows.length Kc) (.slice IA ms.length Ic) rows.length tn dn us).toArray) rfl ?_
 clear F a; have Mo := M; clear M; intro a u F M hgr
 refine hK _ _ ?_
 clear hK K
 replace O_k := O_k.grown (Mo.blk 0 _ rfl) (.inl (by show (57 : Nat) ≠ 50; decide)) hgr
 replace O_i := O_i.grown (Mo.blk 0 _ rfl) (.inl (by show (3 : Nat) ≠ 50; decide)) hgr
 replace K_ := K_.grown (Mo.blk 0 _ rfl) (.inl (by show (50 : Nat) ≠ 85; decide)) hgr
 replace S_ := Nat.le_trans S_ hgr.size
 clear Mo hgr; try clear v
 replace M : Mm (cutW w base) u [⟨gb, (bkC (.slice KA rows.length Kc) (.slice IA ms.length Ic) rows.length tn dn us).toArray, 50⟩] := M
 refine wpList_nil ?_
 replace F : Fr 79 a [(0, .pointer (some ⟨gb, 0, none⟩)), (2, .int .i64 ((rows0.length : Nat) : Int)), (3, .int .i64 ((kA + j : Nat) : Int)), (18, .bool false)] := F.keep ⟨rfl, rfl, rfl, rfl, trivial⟩
 exact ret_none F rfl ⟨rfl, ⟨KA, Kc, rows, IA, Ic, ms, us, own, ⟨M.blk 0 _ rfl, hgb, O_k, O_i, K_, ⟨fun i s h => ⟨(hrn i s h).1, fun h2 => by have := (List.getElem?_eq_some_iff.1 h).1; omega⟩, hmm, Nat.le_refl _, by omega, hB.bd.u⟩⟩, cut_to hbw S_ M.bel⟩⟩
end Go.Proofs.YtnjbjjmoglogeaaGreat
