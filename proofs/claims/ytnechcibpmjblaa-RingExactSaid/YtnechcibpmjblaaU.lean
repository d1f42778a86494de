/- The law RingTimes of the given program answers true: its walk; '==' of rings. Conditions: the turns are read. -/
import Derived.Test.YtnechcibpmjblaaT
import Derived.Test.YtnechcibpmjblaaRL
namespace Go.Proofs.Ytnechcibpmjblaa
open Go.RowKit Go.Proofs.YtnechcibpmjblaaW.PrintWords KB WG
set_option linter.unusedVariables false
set_option linter.unusedSimpArgs false

/-- What a Prune at a time leaves of the keys but the last. -/
def flt (now : Int) (l : List Key) : List Key := l.filter fun k => !(decide (0 < k.til) && decide (k.til ≤ now))
/-- Does a key stay behind a Prune at a time? -/
def stay (late : Int) (k : Key) : Bool := (k.til == 0) || decide (late < k.til)
/-- So many of the first i keys stay. -/
def cnt (late : Int) (l : List Key) (i : Nat) : Nat := ((l.take i).filter (stay late)).length
/-- A Times value's cells. -/
def timesArr (s : Bs 32) (sl : Value) (a b : Int) : Array Value := (timesCs s sl a b).toArray
theorem ring_eq (r q : Rg) (h : r.next = q.next) : decide (r.keys = q.keys) = decide (r = q) := by
  obtain ⟨a, b⟩ := r
  obtain ⟨c, d⟩ := q
  simp only at h
  subst h
  simp
theorem cu_fa_69_1_1 : fa? Try.prog 69 1 1 = true := by kernel_rfl
theorem cu_one_67 : one? Try.prog 67 = true := by kernel_rfl
theorem cu_fa_69_0_0 : fa? Try.prog 69 0 0 = true := by kernel_rfl
theorem cu_one_55 : one? Try.prog 55 = true := by kernel_rfl
theorem cu_ent_41 : ent? Try.prog 41 = true := by kernel_rfl
set_option maxHeartbeats 4000000 in
set_option maxRecDepth 100000 in
theorem eqRing_any (r q : Rg) (A B : Option Addr) (c d : Nat) (w : World) (hr : RK w A c r) (hq : RK w B d q) :
    Calls Try.prog 21 #[.agg #[.slice A r.keys.length c, .int .u64 r.next], .agg #[.slice B q.keys.length d, .int .u64 q.next]] w fun e w' => e = .returned (.bool (decide (r = q))) ∧ Below w.heap.size w w' := by
 refine calls_start Try.func21 rfl rfl rfl (fun a F => ?_)
 have M : Mm w w [] := Mm.nil w
 refine wp_seq ?_
 refine wp_region_lit ?_
 refine list_do (wn rfl) (fun K hK => ?_)
 refine ow_box F M rfl rfl 69 _ rfl _ (F.e rfl) #[.slice A r.keys.length c, .int .u64 r.next] rfl ?_
 clear F M a; intro a g2 v F M hb hg
 refine hK _ _ ?_
 clear hK K
 clear hb hg; try clear w
 refine list_do (wn rfl) (fun K hK => ?_)
 refine ow_box F M rfl rfl 69 _ rfl _ (F.e rfl) #[.slice B q.keys.length d, .int .u64 q.next] rfl ?_
 clear F M a; intro a g3 u F M hb hg
 refine hK _ _ ?_
 clear hK K
 clear hb hg; try clear v
 refine list_val F (wn rfl) rfl rfl (.bool false) (ex_assign _ rfl _ rfl) ?_; clear F a; intro a F
 refine wpList_nil ?_
 replace F : Fr 17 a [(0, .agg #[.slice A r.keys.length c, .int .u64 r.next]), (1, .agg #[.slice B q.keys.length d, .int .u64 q.next]), (2, .pointer (some ⟨g2, 0, none⟩)), (3, .pointer (some ⟨g3, 0, none⟩)), (4, .bool false)] := F.keep ⟨rfl, rfl, rfl, rfl, rfl, trivial⟩
 refine then_n ?_
 refine wp_seq ?_
 by_cases hn : r.next = q.next
 ·
  refine wp_region_lit ?_
  refine list_val F (wn rfl) rfl rfl (.pointer (some ⟨g2, 1, none⟩)) (ex_fa _ _ _ rfl _ (F.e rfl) 1 cu_fa_69_1_1 ⟨g2, 1, none⟩ rfl) ?_; clear F a; intro a F
  refine list_val F (wn rfl) rfl rfl (.int .u64 r.next) (ex_load _ _ rfl _ (F.e rfl) _ (lv1 cu_one_67 (M.cell (i := 1) rfl (j := 1) rfl))) ?_; clear F a; intro a F
  refine list_val F (wn rfl) rfl rfl (.pointer (some ⟨g3, 1, none⟩)) (ex_fa _ _ _ rfl _ (F.e rfl) 1 cu_fa_69_1_1 ⟨g3, 1, none⟩ rfl) ?_; clear F a; intro a F
  refine list_val F (wn rfl) rfl rfl (.int .u64 q.next) (ex_load _ _ rfl _ (F.e rfl) _ (lv1 cu_one_67 (M.cell (i := 0) rfl (j := 1) rfl))) ?_; clear F a; intro a F
  refine list_val F (wn rfl) rfl rfl (.bool true) (ex_bin .eql _ _ _ _ rfl .u64 _ _ (F.e rfl) (F.e rfl) _ (b_eql (by simp [hn]))) ?_; clear F a; intro a F
  refine list_val F (wn rfl) rfl rfl (.bool true) (ex_move _ rfl _ (F.e rfl)) ?_; clear F a; intro a F
  refine list_val F (F.wants 10 true rfl (by kernel_rfl) rfl true rfl) rfl rfl (.pointer (some ⟨g2, 0, none⟩)) (ex_fa _ _ _ rfl _ (F.e rfl) 0 cu_fa_69_0_0 ⟨g2, 0, none⟩ rfl) ?_; clear F a; intro a F
  refine list_val F (F.wants 10 true rfl (by kernel_rfl) rfl true rfl) rfl rfl (.slice A r.keys.length c) (ex_load _ _ rfl _ (F.e rfl) _ (lv1 cu_one_55 (M.cell (i := 1) rfl (j := 0) rfl))) ?_; clear F a; intro a F
  refine list_val F (F.wants 10 true rfl (by kernel_rfl) rfl true rfl) rfl rfl (.pointer (some ⟨g3, 0, none⟩)) (ex_fa _ _ _ rfl _ (F.e rfl) 0 cu_fa_69_0_0 ⟨g3, 0, none⟩ rfl) ?_; clear F a; intro a F
  refine list_val F (F.wants 10 true rfl (by kernel_rfl) rfl true rfl) rfl rfl (.slice B q.keys.length d) (ex_load _ _ rfl _ (F.e rfl) _ (lv1 cu_one_55 (M.cell (i := 0) rfl (j := 0) rfl))) ?_; clear F a; intro a F
  refine list_do (F.wants 10 true rfl (by kernel_rfl) rfl true rfl) (fun K hK => ?_)
  refine ow_call rfl rfl F 41 #[.slice A r.keys.length c, .slice B q.keys.length d] (ex_call 41 _ _ rfl rfl cu_ent_41 _ (map2 (F.e rfl) (F.e rfl))) (eqKeys_any r.keys q.keys A B c d _ (Kd.C_below hr.1 M.bel) (Kd.C_below hq.1 M.bel) hr.2 hq.2) (fun e v hR => ?_)
  obtain ⟨he, hb⟩ := hR
  refine ⟨.bool (decide (r.keys = q.keys)), he, ?_⟩; clear he F a; intro a F
  refine hK _ _ ?_
  clear hK K
  replace M := M.below hb; clear hb; try clear u
  refine list_val F (wn rfl) rfl rfl (.bool (decide (r.keys = q.keys))) (ex_pick_t _ _ _ rfl (F.e rfl) _ (F.e rfl)) ?_; clear F a; intro a F
  refine list_val F (wn rfl) rfl rfl (.bool (decide (r.keys = q.keys))) (ex_assign _ rfl _ (F.e rfl)) ?_; clear F a; intro a F
  refine wpList_nil ?_
  replace F : Fr 17 a [(0, .agg #[.slice A r.keys.length c, .int .u64 r.next]), (1, .agg #[.slice B q.keys.length d, .int .u64 q.next]), (2, .pointer (some ⟨g2, 0, none⟩)), (3, .pointer (some ⟨g3, 0, none⟩)), (4, .bool (decide (r.keys = q.keys)))] := F.keep ⟨rfl, rfl, rfl, rfl, rfl, trivial⟩
  refine then_n ?_
  refine wp_ret ?_
  exact ret_tmp F rfl rfl ⟨(by rw [ring_eq r q hn]), M.bel⟩
 refine wp_region_lit ?_
 refine list_val F (wn rfl) rfl rfl (.pointer (some ⟨g2, 1, none⟩)) (ex_fa _ _ _ rfl _ (F.e rfl) 1 cu_fa_69_1_1 ⟨g2, 1, none⟩ rfl) ?_; clear F a; intro a F
 refine list_val F (wn rfl) rfl rfl (.int .u64 r.next) (ex_load _ _ rfl _ (F.e rfl) _ (lv1 cu_one_67 (M.cell (i := 1) rfl (j := 1) rfl))) ?_; clear F a; intro a F
 refine list_val F (wn rfl) rfl rfl (.pointer (some ⟨g3, 1, none⟩)) (ex_fa _ _ _ rfl _ (F.e rfl) 1 cu_fa_69_1_1 ⟨g3, 1, none⟩ rfl) ?_; clear F a; intro a F
 refine list_val F (wn rfl) rfl rfl (.int .u64 q.next) (ex_load _ _ rfl _ (F.e rfl) _ (lv1 cu_one_67 (M.cell (i := 0) rfl (j := 1) rfl))) ?_; clear F a; intro a F
 refine list_val F (wn rfl) rfl rfl (.bool false) (ex_bin .eql _ _ _ _ rfl .u64 _ _ (F.e rfl) (F.e rfl) _ (b_eql (by simp [hn]))) ?_; clear F a; intro a F
 refine list_val F (wn rfl) rfl rfl (.bool false) (ex_move _ rfl _ (F.e rfl)) ?_; clear F a; intro a F
 refine list_skip F (F.wants 10 false rfl (by kernel_rfl) rfl false rfl) rfl rfl ?_; clear F a; intro a F
 refine list_skip F (F.wants 10 false rfl (by kernel_rfl) rfl false rfl) rfl rfl ?_; clear F a; intro a F
 refine list_skip F (F.wants 10 false rfl (by kernel_rfl) rfl false rfl) rfl rfl ?_; clear F a; intro a F
 refine list_skip F (F.wants 10 false rfl (by kernel_rfl) rfl false rfl) rfl rfl ?_; clear F a; intro a F
 refine list_skip F (F.wants 10 false rfl (by kernel_rfl) rfl false rfl) rfl rfl ?_; clear F a; intro a F
 refine list_val F (wn rfl) rfl rfl (.bool false) (ex_pick_f _ _ _ rfl (F.e rfl) _ rfl) ?_; clear F a; intro a F
 refine list_val F (wn rfl) rfl rfl (.bool false) (ex_assign _ rfl _ (F.e rfl)) ?_; clear F a; intro a F
 refine wpList_nil ?_
 replace F : Fr 17 a [(0, .agg #[.slice A r.keys.length c, .int .u64 r.next]), (1, .agg #[.slice B q.keys.length d, .int .u64 q.next]), (2, .pointer (some ⟨g2, 0, none⟩)), (3, .pointer (some ⟨g3, 0, none⟩)), (4, .bool false)] := F.keep ⟨rfl, rfl, rfl, rfl, rfl, trivial⟩
 refine then_n ?_
 refine wp_ret ?_
 exact ret_tmp F rfl rfl ⟨(by rw [decide_eq_false (fun e => hn (congrArg Rg.next e))]), M.bel⟩
end Go.Proofs.Ytnechcibpmjblaa
