/- The walks of ring.First and ring.Prune. Conditions: the ring's keys are read. -/
import Derived.Test.YtnechcibpmjblaaF
namespace Go.Proofs.Ytnechcibpmjblaa
open Go.RowKit Go.Proofs.YtnechcibpmjblaaW.PrintWords KB
set_option linter.unusedVariables false
set_option linter.unusedSimpArgs false

theorem load_bytes {ops : Array Oper} {rest : List Oper} {op : Oper} {a : Act} {w : World} {Q : Exit → Act → World → Prop} (hgd : op.guard = none) (x : Operand) (ho : op.op = .load 70 x) (p : Addr) (hx : a.eval x = .pointer (some p)) (k : Bs 32) (hc : At w p k.cs)
    (h : wpList Try.prog ops Q rest (a.put op.dst (.agg k.cs.toArray)) w) : wpList Try.prog ops Q (op :: rest) a w :=
  wpList_load_at hgd 70 x ho p hx k.cs _ hc Try.underlying70 rfl (by rw [info70, Bs.cs_len]) h
theorem yields_bytes {ops : Array Oper} {op : Oper} {a : Act} {S : World → Prop} (hw : Region.wanted op (yielded ops a.tmps) = true) (x : Operand) (ho : op.op = .load 70 x) (p : Addr) (hx : a.eval x = .pointer (some p)) (k : Bs 32) (hS : ∀ w, S w → At w p k.cs) :
    YieldsIf Try.prog ops S op (.agg k.cs.toArray) a :=
  yieldsIf_load_at hw 70 x ho p hx k.cs _ hS Try.underlying70 rfl (by rw [info70, Bs.cs_len])

theorem wpList_exec {P : Program} {ops : Array Oper} {rest : List Oper} {op : Oper} {a : Act} {w w' : World} {Q : Exit → Act → World → Prop} (hgd : op.guard = none) (v : Value) (he : (execOp a.eval op).run P w = .ok (.value v) w')
    (h : wpList P ops Q rest (a.put op.dst v) w') : wpList P ops Q (op :: rest) a w :=
  wpList_plain hgd fun K hK => by
    unfold Oper.wp
    rw [he]
    exact hK _ _ h
section
variable {ops : Array Oper} {rest : List Oper} {op : Oper} {a : Act} {w : World} {Q : Exit → Act → World → Prop}
theorem make_key (hgd : op.guard = none) (x y : Operand) (ho : op.op = .build 107 #[(0, x), (1, y)]) (n : Int) (s : Bs 32) (hx : a.eval x = .int .u64 n) (hy : a.eval y = .agg s.cs.toArray)
    (h : wpList Try.prog ops Q rest (a.put op.dst (.agg (Key.mk n s 0).arr)) w) : wpList Try.prog ops Q (op :: rest) a w :=
  wpList_exec hgd _ (exec_build2 107 0 1 x y ho _ _ _ hx hy (build107 n s w)) h
theorem make_row (hgd : op.guard = none) (x : Operand) (ho : op.op = .buildSlice 55 1 #[(0, x)]) (k : Key) (hx : a.eval x = .agg k.arr)
    (h : wpList Try.prog ops Q rest (a.put op.dst (.slice (some ⟨w.heap.size, 0, none⟩) 1 1)) (w.alloc (.cells k.arr 107))) : wpList Try.prog ops Q (op :: rest) a w :=
  wpList_exec hgd _ (exec_slice1 55 1 0 x ho _ _ hx (newKeys k w)) h
end
theorem own_set {w : World} {base : Nat} {v : Value} {ks : List Key} {g t : Nat} {cells : Array Value} (h : OwnKeys w base v ks) (hb : w.heap[g]? = some (.cells cells t (0, 0))) (ht : 107 ≠ t) (j : Nat) (u : Value) : OwnKeys (w.setCell ⟨g, j, none⟩ u) base v ks :=
  Kd.R_mono (Kd.R_set h hb (fun q hq => by
    obtain rfl : q = 107 := by simpa [kKey, kBlk] using hq
    exact ht) j u) (fun _ _ => trivial)
theorem bcellB {B : Nat} {W w1 : World} (hb : Below B W w1) : (∀ b o, b < B → w1.cell? ⟨b, o, none⟩ = W.cell? ⟨b, o, none⟩) ∧ (∀ b o, b < B → w1.frozen? ⟨b, o, none⟩ = W.frozen? ⟨b, o, none⟩) :=
  ⟨fun b o h => hb.cell (p := ⟨b, o, none⟩) h, fun b o h => hb.frozen (p := ⟨b, o, none⟩) h⟩
theorem nil_own (w : World) (base : Nat) : OwnKeys w base (.slice none 0 0) [] := Kd.R_nil kKey 107 w base _
structure Rg where
  keys : List Key
  next : Int
deriving DecidableEq
/-- A ring of one's own. -/
def RingV (w : World) (base : Nat) (v : Value) (r : Rg) : Prop := ∃ sl, v = .agg #[sl, .int .u64 r.next] ∧ OwnKeys w base sl r.keys
def zRg : Rg := ⟨[], 0⟩
def firstF (s : Bs 32) : Rg := ⟨[⟨1, s, 0⟩], 2⟩
theorem own_one (W : World) (base : Nat) (h : base ≤ W.heap.size) (k : Key) : OwnKeys (W.alloc (.cells k.arr 107)) base (.slice (some ⟨W.heap.size, 0, none⟩) 1 1) [k] :=
  ⟨fun _ _ => trivial, k.cs, ⟨by rw [Key.cs_len]; rfl, .inr ⟨W.heap.size, 1, k.arr, rfl, h, blk_new _ _, Nat.le_refl _, by decide, by rw [Key.arr_size]; rfl, by rw [Key.arr_eq]; show k.cs.take (1 * 34) = k.cs; exact List.take_of_length_le (by rw [Key.cs_len]; decide)⟩⟩,
    ⟨by rw [Key.cs_len]; rfl, fun j p hj => by
      have h0 : j = 0 := by have := (List.getElem?_eq_some_iff.1 hj).1; simpa using this
      subst h0
      obtain rfl : k = p := by simpa using hj
      show _ = k.cs
      rw [Nat.zero_mul, List.drop_zero]
      exact List.take_of_length_le (by rw [Key.cs_len]; decide)⟩⟩
set_option maxHeartbeats 2000000 in
set_option maxRecDepth 100000 in
theorem first_any (s : Bs 32) (w : World) : Calls Try.prog 10 #[.agg s.cs.toArray] w fun e w' => ∃ v, e = .returned v ∧ RingV w' w.heap.size v (firstF s) ∧ Below w.heap.size w w' := by
  have hu107 := Try.underlying107
  have hu70 := Try.underlying70
  have hs : Aside0 (At ((w.alloc (.cells s.cs.toArray 70)).alloc (.cells #[.slice none 0 0, .int .u64 0] 69)) ⟨w.heap.size, 0, none⟩ s.cs) := ⟨at_block (blk_alloc (blk_new _ _) _)⟩
  go_enter Try.func10, Try.ntmps10
  go_wp2_with (first | refine load_bytes rfl _ rfl _ rfl _ hs.out ?_ | refine make_key rfl _ _ rfl 1 s rfl rfl ?_ | refine make_row rfl _ rfl ⟨1, s, 0⟩ rfl ?_)
  have h1 := own_one ((w.alloc (.cells s.cs.toArray 70)).alloc (.cells #[.slice (some ⟨w.heap.size + 1 + 1, 0, none⟩) 1 1, .int .u64 2] 69)) w.heap.size (by rw [alloc_size, alloc_size]; omega) ⟨1, s, 0⟩
  rw [alloc_size, alloc_size] at h1
  exact bodyPost_ret (results_single (r := .cell 2 69) rfl (.cell _ 69 _ _ _ rfl (blk_alloc (by rw [← alloc_size w (.cells s.cs.toArray 70)]; exact blk_new _ _) _) Try.underlying69 rfl (by kernel_rfl) .nil)) rfl
    ⟨_, rfl, ⟨_, rfl, h1⟩, by repeat (first | exact Below.refl _ _ | apply below_alloc)⟩
theorem results_ring {P : Program} {fn : Func} {tmps : Array Value} {w : World} {p : Tmp} {b : Nat} {x y : Value} {fs : Array Field} (hu : P.underlying 69 = some (.struct fs)) (hi : (P.info? 69).map (·.size) = some 2) (hr : fn.results = #[.cell p 69]) (hp : tmps.getD p undef = .pointer (some ⟨b, 0, none⟩)) (hb : w.heap[b]? = some (.cells #[x, y] 69 (0, 0))) :
    (results fn tmps).run P w = .ok (.agg #[x, y]) w :=
  results_single hr (.cell _ 69 _ _ _ hp hb hu rfl hi .nil)
def prK (ks : List Key) (now : Int) : List Key := ks.filter fun k => !(decide (0 < k.til) && decide (k.til ≤ now))
def pruneF (r : Rg) (now : Int) : Rg := if checkK r.keys r.next then ⟨prK r.keys now, r.next⟩ else zRg
theorem check_len {ks : List Key} {next : Int} (h : checkK ks next = true) : 1 ≤ ks.length ∧ ks.length ≤ 8 ∧ next ≤ 9223372036854775807 := by
  unfold checkK at h
  simp only [Bool.and_eq_true, decide_eq_true_iff] at h
  exact ⟨h.1.1.1.1, h.1.1.1.2, h.1.1.2⟩
set_option maxHeartbeats 4000000 in
set_option maxRecDepth 100000 in
theorem prune_any (ks : List Key) (A : Option Addr) (c : Nat) (next now : Int) (w : World) (hr : kKey.C w A ks.length ks) (hc : ks.length ≤ c) :
    Calls Try.prog 14 #[.agg #[.slice A ks.length c, .int .u64 next], .int .i64 now] w fun e w' => ∃ v, e = .returned v ∧ RingV w' w.heap.size v (pruneF ⟨ks, next⟩ now) ∧ Below w.heap.size w w' := by
  have hu107 := Try.underlying107
  have hu69 := Try.underlying69
  have hu55 := Try.underlying55
  have hmf := hmf
  have hBel3 : Aside0 (Below w.heap.size w (((w.alloc (.cells #[.slice A ks.length c, .int .u64 next] 69)).alloc (.cells #[.int .i64 now] 2)).alloc (.cells #[.slice none 0 0, .int .u64 0] 69))) := ⟨by repeat (first | exact Below.refl _ _ | apply below_alloc)⟩
  have hcall := check_any ks A c next (((w.alloc (.cells #[.slice A ks.length c, .int .u64 next] 69)).alloc (.cells #[.int .i64 now] 2)).alloc (.cells #[.slice none 0 0, .int .u64 0] 69)) (Kd.C_below hr hBel3.out) hc
  have hs3 : Aside0 (w.heap.size + 1 + 1 < (((w.alloc (.cells #[.slice A ks.length c, .int .u64 next] 69)).alloc (.cells #[.int .i64 now] 2)).alloc (.cells #[.slice none 0 0, .int .u64 0] 69)).heap.size) := ⟨by simp⟩
  have hs3' : Aside0 (w.heap.size < (((w.alloc (.cells #[.slice A ks.length c, .int .u64 next] 69)).alloc (.cells #[.int .i64 now] 2)).alloc (.cells #[.slice none 0 0, .int .u64 0] 69)).heap.size) := ⟨by simp; omega⟩
  have hbn : Aside0 ((((w.alloc (.cells #[.slice A ks.length c, .int .u64 next] 69)).alloc (.cells #[.int .i64 now] 2)).alloc (.cells #[.slice none 0 0, .int .u64 0] 69)).cell? ⟨w.heap.size + 1, 0, none⟩ = some (.int .i64 now)) := ⟨by rw [blk_cell (blk_alloc (by rw [← alloc_size]; exact blk_new _ _) _)]; rfl⟩
  have hbr : Aside0 ((((w.alloc (.cells #[.slice A ks.length c, .int .u64 next] 69)).alloc (.cells #[.int .i64 now] 2)).alloc (.cells #[.slice none 0 0, .int .u64 0] 69)).heap[w.heap.size + 1 + 1]? = some (.cells #[.slice none 0 0, .int .u64 0] 69 (0, 0))) := ⟨by rw [← alloc_size w (.cells #[.slice A ks.length c, .int .u64 next] 69), ← alloc_size]; exact blk_new _ _⟩
  have hR := Aside0.mk hr
  clear hr
  cases h1 : checkK ks next
  · have e1 : errK ks next = 50 := by unfold errK; rw [h1]; rfl
    have e2 : pruneF ⟨ks, next⟩ now = zRg := by unfold pruneF; rw [h1]; rfl
    rw [e1] at hcall
    rw [e2]
    clear e1 e2
    go_enter Try.func14, Try.ntmps14
    go_wp2_with (first | (go_at_call 31; refine hcall.mono ?_; rintro e w1 ⟨rfl, hb⟩; obtain ⟨hbc, hbf⟩ := bcell hb; have hs4 := hs3'.out; have hs5 := hs3.out))
    have hz : w.heap.size ≤ w1.heap.size := by have := hb.size; omega
    exact bodyPost_ret (results_ring Try.underlying69 (by kernel_rfl) rfl rfl (blk_put (blk_put (blk_below hbr.out hb) 0 _ rfl) 1 _ rfl)) rfl
      ⟨_, rfl, ⟨_, rfl, nil_own _ _⟩, below_set (below_set (below_step hBel3.out hb) (by omega)) (by omega)⟩
  · have e1 : errK ks next = 0 := by unfold errK; rw [h1]; rfl
    have e2 : pruneF ⟨ks, next⟩ now = ⟨prK ks now, next⟩ := by unfold pruneF; rw [h1]; rfl
    rw [e1] at hcall
    rw [e2]
    obtain ⟨l1, l8, _⟩ := check_len h1
    clear e1 e2 h1
    obtain ⟨ad, rfl, _⟩ := hR.out.2.2 (by omega)
    have ck := fun w' (hb : Below w.heap.size w w') => clone_any ks ad c w' (Kd.C_below hR.out hb) hc (by omega)
    go_enter Try.func14, Try.ntmps14
    go_wp2_with (first | (go_at_call 31; refine hcall.mono ?_; rintro e w1 ⟨rfl, hb⟩; obtain ⟨hbc, hbf⟩ := bcell hb; have hs4 := hs3'.out; have hs5 := hs3.out) | (go_at_call 34; refine (ck _ (below_step hBel3.out hb)).mono ?_; rintro e w2 ⟨v2, rfl, hO2, hb2⟩; obtain ⟨hbc2, hbf2⟩ := bcell hb2) | (go_at_call 35; refine (delete_any (fun k => decide (0 < k.til) && decide (k.til ≤ now)) 36 _ ks v2 w1.heap.size w2 hO2 hb2.size (by omega) (paysB_prune (by show w.heap.size + 1 < _; have := hb.size; omega) (pw_cell_below hb2 (pw_cell_below hb hbn.out))) (by omega)).mono ?_; rintro e w3 ⟨v3, rfl, hO3, hb3⟩; replace hO3 : OwnKeys w3 w1.heap.size v3 (prK ks now) := hO3; obtain ⟨A3, c3, rfl⟩ := Kd.R_slice hO3; have hO3 := Aside0.mk hO3; obtain ⟨hbc3, hbf3⟩ := bcellB hb3; have hs6 : w.heap.size + 1 + 1 < w1.heap.size := (by have := hb.size; omega); have hs7 : w.heap.size < w1.heap.size := (by omega)))
    have b1 : w3.heap[w.heap.size + 1 + 1]? = some (.cells #[.slice none 0 0, .int .u64 0] 69 (0, 0)) := (hb3.block _ hs6).trans ((hb2.block _ hs6).trans (blk_below hbr.out hb))
    have hbel : Below w.heap.size w w3 := (below_step (below_step hBel3.out hb) hb2).trans ⟨hb3.os, hb3.tape, hb3.output, hb3.size, fun k hk => hb3.block k (by omega)⟩
    exact bodyPost_ret (results_ring Try.underlying69 (by kernel_rfl) rfl rfl (blk_put (blk_put b1 0 _ rfl) 1 _ rfl)) rfl
      ⟨_, rfl, ⟨_, rfl, own_set (own_set (Kd.R_lower (base' := w.heap.size) hO3.out (by omega)) b1 (by decide) _ _) (blk_put b1 0 _ rfl) (by decide) _ _⟩, below_set (below_set hbel (by omega)) (by omega)⟩
end Go.Proofs.Ytnechcibpmjblaa
