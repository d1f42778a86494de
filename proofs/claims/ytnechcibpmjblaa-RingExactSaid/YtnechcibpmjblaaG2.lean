/- The walks of ring.Rotate and ring.Distrust. Conditions: the ring's keys are read, its number is no negative one. -/
import Derived.Test.YtnechcibpmjblaaG1
namespace Go.Proofs.Ytnechcibpmjblaa
open Go.RowKit Go.Proofs.YtnechcibpmjblaaW.PrintWords KB
set_option linter.unusedVariables false
set_option linter.unusedSimpArgs false

theorem wp_exec {P : Program} {op : Oper} {a : Act} {w w' : World} {K : Act → World → Prop} {Q : Exit → Act → World → Prop} (v : Value) (he : (execOp a.eval op).run P w = .ok (.value v) w') (h : K (a.put op.dst v) w') : op.wp P a w K Q := by
  unfold Oper.wp
  rw [he]
  exact h
theorem results_ring2 {P : Program} {fn : Func} {tmps : Array Value} {w : World} {p u : Tmp} {b : Nat} {x y : Value} {fs : Array Field} (hu : P.underlying 69 = some (.struct fs)) (hi : (P.info? 69).map (·.size) = some 2) (hr : fn.results = #[.cell p 69, .tmp u]) (hp : tmps.getD p undef = .pointer (some ⟨b, 0, none⟩)) (hb : w.heap[b]? = some (.cells #[x, y] 69 (0, 0))) :
    (results fn tmps).run P w = .ok (.tuple #[.agg #[x, y], tmps.getD u undef]) w :=
  results_list (rs := [.cell p 69, .tmp u]) hr (by simp) (.cell _ 69 _ _ _ hp hb hu rfl hi (.tmp .nil))
theorem atB {B : Nat} {W w1 : World} {p : Addr} {cs : List Value} (h : At W p cs) (hb : Below B W w1) (hp : p.block < B) : At w1 p cs := fun j u hu => (hb.cell (by rw [add_block]; exact hp)).trans (h j u hu)
theorem cell_grown {W w1 : World} {row : Option Nat} {p : Addr} {v : Value} (h : W.cell? p = some v) (hg : W.grownBy w1 row) (hne : some p.block ≠ row) : w1.cell? p = some v := by
  rw [← h]
  unfold World.cell?
  rw [hg.block _ (World.block_lt_of_cell? W p h) hne]
theorem atG {W w1 : World} {row : Option Nat} {p : Addr} {cs : List Value} (h : At W p cs) (hg : W.grownBy w1 row) (hne : some p.block ≠ row) : At w1 p cs := fun j u hu => cell_grown (h j u hu) hg (by rw [add_block]; exact hne)
theorem ne69 : ∀ q, q ∈ 107 :: kKey.E → q ≠ 69 := fun q hq => by
  obtain rfl : q = 107 := by simpa [kKey, kBlk] using hq
  decide
theorem build69 (A : Option Addr) (n c : Nat) (x : Int) (w : World) : (Instr.build 69 #[(0, .slice A n c), (1, .int .u64 x)]).run Try.prog w = .ok (.agg #[.slice A n c, .int .u64 x]) w := by kernel_rfl
theorem two_one (x y : Value) (hx : x.oneCell' = true) (hy : y.oneCell' = true) : #[x, y].all (·.oneCell') = true :=
  all_oneCell_toArray (cs := [x, y]) (fun v hv => by
    simp only [List.mem_cons, List.not_mem_nil, or_false] at hv
    rcases hv with rfl | rfl
    · exact hx
    · exact hy)
def rotK (ks : List Key) (u : Int) : List Key := ks.set (ks.length - 1) { rdK ks ((ks.length - 1 : Nat) : Int) with til := u }
def rotateF (r : Rg) (s : Bs 32) (u : Int) : Rg × Int :=
  if checkK r.keys r.next = false then (zRg, 50) else if u < 1 then (zRg, 52) else if r.keys.length = 8 ∨ r.next = 9223372036854775807 then (zRg, 51) else (⟨rotK r.keys u ++ [⟨r.next, s, 0⟩], r.next + 1⟩, 0)

theorem own_cells {w : World} {base g n cap m : Nat} {ks : List Key} (h : OwnKeys w base (.slice (some ⟨g, 0, none⟩) n cap) ks) (hm : (m : Int) < (ks.length : Int)) : ∀ (j : Nat) (u : Value), (rdK ks (m : Int)).cs[j]? = some u → w.cell? ⟨g, (m : Int).toNat * 34 + j, none⟩ = some u := by
  intro j u hu
  have C := (Kd.R_reads' h).2.2
  obtain ⟨_, had, zm, _, _⟩ := at_Key C (m : Int) (by omega) hm
  obtain rfl := Option.some.inj had
  have := zm j u hu
  rwa [add_plain, Addr.add_mid] at this
theorem set_til {w : World} {B : Nat} {ok : Nat → Prop} (k : Key) (u : Int) : kKey.M w B ok { k with til := u } (k.cs.take 33 ++ [.int .i64 u] ++ k.cs.drop (33 + [Value.int .i64 u].length)) := by
  have h : k.sec.cs.length = 32 := Bs.cs_len _
  show _ = Key.cs _
  rw [List.drop_eq_nil_of_le (by rw [Key.cs_len]; exact Nat.le_refl 34), List.append_nil]
  show (Value.int .u64 k.kid :: (k.sec.cs ++ [Value.int .i64 k.til])).take 33 ++ [Value.int .i64 u] = Value.int .u64 k.kid :: (k.sec.cs ++ [Value.int .i64 u])
  rw [List.take_succ_cons, List.take_left' h, List.cons_append]

set_option maxHeartbeats 4000000 in
set_option maxRecDepth 100000 in
theorem rotate_any (ks : List Key) (A : Option Addr) (c : Nat) (next u : Int) (s : Bs 32) (w : World) (hr : kKey.C w A ks.length ks) (hc : ks.length ≤ c) (hn : 0 ≤ next) :
    Calls Try.prog 12 #[.agg #[.slice A ks.length c, .int .u64 next], .agg s.cs.toArray, .int .i64 u] w fun e w' => ∃ v, e = .returned (.tuple #[v, .int .i64 (rotateF ⟨ks, next⟩ s u).2]) ∧ RingV w' w.heap.size v (rotateF ⟨ks, next⟩ s u).1 ∧ Below w.heap.size w w' := by
  have hu107 := Try.underlying107
  have hu69 := Try.underlying69
  have hu55 := Try.underlying55
  have hmf := hmf
  have hBel3 : Aside0 (Below w.heap.size w (((w.alloc (.cells #[.slice A ks.length c, .int .u64 next] 69)).alloc (.cells s.cs.toArray 70)).alloc (.cells #[.slice none 0 0, .int .u64 0] 69))) := ⟨by repeat (first | exact Below.refl _ _ | apply below_alloc)⟩
  have hcall := check_any ks A c next (((w.alloc (.cells #[.slice A ks.length c, .int .u64 next] 69)).alloc (.cells s.cs.toArray 70)).alloc (.cells #[.slice none 0 0, .int .u64 0] 69)) (Kd.C_below hr hBel3.out) hc
  have hs3 : Aside0 (w.heap.size + 1 + 1 < (((w.alloc (.cells #[.slice A ks.length c, .int .u64 next] 69)).alloc (.cells s.cs.toArray 70)).alloc (.cells #[.slice none 0 0, .int .u64 0] 69)).heap.size) := ⟨by simp⟩
  have hs3' : Aside0 (w.heap.size < (((w.alloc (.cells #[.slice A ks.length c, .int .u64 next] 69)).alloc (.cells s.cs.toArray 70)).alloc (.cells #[.slice none 0 0, .int .u64 0] 69)).heap.size) := ⟨by simp; omega⟩
  have hbn : Aside0 (At (((w.alloc (.cells #[.slice A ks.length c, .int .u64 next] 69)).alloc (.cells s.cs.toArray 70)).alloc (.cells #[.slice none 0 0, .int .u64 0] 69)) ⟨w.heap.size + 1, 0, none⟩ s.cs) := ⟨at_block (blk_alloc (by rw [← alloc_size]; exact blk_new _ _) _)⟩
  have hb0 : Aside0 ((((w.alloc (.cells #[.slice A ks.length c, .int .u64 next] 69)).alloc (.cells s.cs.toArray 70)).alloc (.cells #[.slice none 0 0, .int .u64 0] 69)).cell? ⟨w.heap.size, 1, none⟩ = some (.int .u64 next)) := ⟨by rw [blk_cell (blk_alloc (blk_alloc (blk_new _ _) _) _)]; rfl⟩
  have hbr : Aside0 ((((w.alloc (.cells #[.slice A ks.length c, .int .u64 next] 69)).alloc (.cells s.cs.toArray 70)).alloc (.cells #[.slice none 0 0, .int .u64 0] 69)).heap[w.heap.size + 1 + 1]? = some (.cells #[.slice none 0 0, .int .u64 0] 69 (0, 0))) := ⟨by rw [← alloc_size w (.cells #[.slice A ks.length c, .int .u64 next] 69), ← alloc_size]; exact blk_new _ _⟩
  have hR := Aside0.mk hr
  clear hr
  cases h1 : checkK ks next
  · have e1 : errK ks next = 50 := by unfold errK; rw [h1]; rfl
    have e2 : rotateF ⟨ks, next⟩ s u = (zRg, 50) := by unfold rotateF; rw [h1]; rfl
    rw [e1] at hcall
    rw [e2]
    clear e1 e2
    go_enter Try.func12, Try.ntmps12
    go_wp2_with (first | (go_at_call 31; refine hcall.mono ?_; rintro e w1 ⟨rfl, hb⟩; obtain ⟨hbc, hbf⟩ := bcell hb; have hs4 := hs3'.out; have hs5 := hs3.out; have hs8 : w.heap.size < w1.heap.size := (by have := hb.size; omega); have hs14 : w.heap.size + 1 + 1 < w1.heap.size := (by have := hb.size; omega)))
    have hz : w.heap.size ≤ w1.heap.size := by have := hb.size; omega
    exact bodyPost_ret (results_ring2 Try.underlying69 (by kernel_rfl) rfl rfl (blk_put (blk_put (blk_below hbr.out hb) 0 _ rfl) 1 _ rfl)) rfl
      ⟨_, rfl, ⟨_, rfl, nil_own _ _⟩, below_set (below_set (below_step hBel3.out hb) (by omega)) (by omega)⟩
  have e1 : errK ks next = 0 := by unfold errK; rw [h1]; rfl
  rw [e1] at hcall
  obtain ⟨l1, l8, lmax⟩ := check_len h1
  clear e1
  have hbelow := hBel3
  by_cases h2 : u < 1
  · have e2 : rotateF ⟨ks, next⟩ s u = (zRg, 52) := by unfold rotateF; rw [h1]; simp [h2]
    have d2 : decide (u < 1) = true := decide_eq_true h2
    rw [e2]
    clear e2 h1 h2
    go_enter Try.func12, Try.ntmps12
    go_wp2_with (first | (go_at_call 31; refine hcall.mono ?_; rintro e w1 ⟨rfl, hb⟩; obtain ⟨hbc, hbf⟩ := bcell hb; have hs4 := hs3'.out; have hs5 := hs3.out; have hs8 : w.heap.size < w1.heap.size := (by have := hb.size; omega); have hs14 : w.heap.size + 1 + 1 < w1.heap.size := (by have := hb.size; omega)))
    have hz : w.heap.size ≤ w1.heap.size := by have := hb.size; omega
    exact bodyPost_ret (results_ring2 Try.underlying69 (by kernel_rfl) rfl rfl (blk_put (blk_put (blk_below hbr.out hb) 0 _ rfl) 1 _ rfl)) rfl
      ⟨_, rfl, ⟨_, rfl, nil_own _ _⟩, below_set (below_set (below_step hBel3.out hb) (by omega)) (by omega)⟩
  have d2 : decide (u < 1) = false := decide_eq_false h2
  by_cases h3 : ks.length = 8
  · have e2 : rotateF ⟨ks, next⟩ s u = (zRg, 51) := by unfold rotateF; rw [h1]; simp [h2, h3]
    have d3 : ((ks.length : Int) == 8) = true := by simp; omega
    rw [e2]
    clear e2 h1 h2 h3
    go_enter Try.func12, Try.ntmps12
    go_wp2_with (first | (go_at_call 31; refine hcall.mono ?_; rintro e w1 ⟨rfl, hb⟩; obtain ⟨hbc, hbf⟩ := bcell hb; have hs4 := hs3'.out; have hs5 := hs3.out; have hs8 : w.heap.size < w1.heap.size := (by have := hb.size; omega); have hs14 : w.heap.size + 1 + 1 < w1.heap.size := (by have := hb.size; omega)))
    have hz : w.heap.size ≤ w1.heap.size := by have := hb.size; omega
    exact bodyPost_ret (results_ring2 Try.underlying69 (by kernel_rfl) rfl rfl (blk_put (blk_put (blk_below hbr.out hb) 0 _ rfl) 1 _ rfl)) rfl
      ⟨_, rfl, ⟨_, rfl, nil_own _ _⟩, below_set (below_set (below_step hBel3.out hb) (by omega)) (by omega)⟩
  have d3 : ((ks.length : Int) == 8) = false := by simp; omega
  by_cases h4 : next = 9223372036854775807
  · have e2 : rotateF ⟨ks, next⟩ s u = (zRg, 51) := by unfold rotateF; rw [h1]; simp [h2, h4]
    have d4 : (next == 9223372036854775807) = true := by simp [h4]
    rw [e2]
    clear e2 h1 h2 h3 h4
    go_enter Try.func12, Try.ntmps12
    go_wp2_with (first | (go_at_call 31; refine hcall.mono ?_; rintro e w1 ⟨rfl, hb⟩; obtain ⟨hbc, hbf⟩ := bcell hb; have hs4 := hs3'.out; have hs5 := hs3.out; have hs8 : w.heap.size < w1.heap.size := (by have := hb.size; omega); have hs14 : w.heap.size + 1 + 1 < w1.heap.size := (by have := hb.size; omega)))
    have hz : w.heap.size ≤ w1.heap.size := by have := hb.size; omega
    exact bodyPost_ret (results_ring2 Try.underlying69 (by kernel_rfl) rfl rfl (blk_put (blk_put (blk_below hbr.out hb) 0 _ rfl) 1 _ rfl)) rfl
      ⟨_, rfl, ⟨_, rfl, nil_own _ _⟩, below_set (below_set (below_step hBel3.out hb) (by omega)) (by omega)⟩
  have d4 : (next == 9223372036854775807) = false := by simp [h4]
  have e2 : rotateF ⟨ks, next⟩ s u = (⟨rotK ks u ++ [⟨next, s, 0⟩], next + 1⟩, 0) := by unfold rotateF; rw [h1]; simp [h2, h3, h4]
  have hnx : 0 ≤ next ∧ next < 9223372036854775807 := by omega
  rw [e2]
  clear e2 h1 h2 h3 h4
  obtain ⟨ad, rfl, _⟩ := hR.out.2.2 (by omega)
  obtain ⟨m, hm⟩ : ∃ m : Nat, ks.length = m + 1 := ⟨ks.length - 1, by omega⟩
  have hw1 : wrap64 ((ks.length : Int) - 1) = (m : Int) := by unfold wrap64; omega
  have hw2 : IntKind.i64.wrap ((ks.length : Int) - 1) = (m : Int) := by rw [IntKind.wrap_i64]; omega
  have i1 : (m : Int) < (ks.length : Int) := by omega
  have hrk : Aside0 (rotK ks u = ks.set (m : Int).toNat { rdK ks (m : Int) with til := u }) := ⟨by unfold rotK; rw [show ks.length - 1 = m by omega]; rfl⟩
  have hmk := Lib.hid hm
  clear hm
  have hmax : ks.length ≤ 9223372036854775807 := by omega
  have ck := fun w' (hb : Below w.heap.size w w') => clone_any ks ad c w' (Kd.C_below hR.out hb) hc (by omega)
  go_enter Try.func12, Try.ntmps12
  go_wp2_with (first | (go_at_call 31; refine hcall.mono ?_; rintro e w1 ⟨rfl, hb⟩; obtain ⟨hbc, hbf⟩ := bcell hb; have hs4 := hs3'.out; have hs5 := hs3.out; have hs8 : w.heap.size < w1.heap.size := (by have := hb.size; omega); have hs14 : w.heap.size + 1 + 1 < w1.heap.size := (by have := hb.size; omega)) | (go_at_call 34; refine (ck _ (below_step hBel3.out hb)).mono ?_; rintro e w2 ⟨v2, rfl, hO2, hb2⟩; obtain ⟨g, cap, rfl, hg, hgl, _⟩ := Kd.R_form hO2 (by omega); have hO2 := Aside0.mk hO2; obtain ⟨hbc2, hbf2⟩ := bcell hb2) | (refine Kd.R_store kKey (w0 := w1) w1.heap.size rfl rfl 2 (.tmp 38) (.tmp 36) rfl 107 (m : Int) 33 ks { rdK ks (m : Int) with til := u } (.int .i64 u) [.int .i64 u] (rdK ks (m : Int)).cs (fun _ => True) (fun _ => False) rfl rfl rfl rfl (by kernel_rfl) (fun q hq => by rw [List.mem_singleton.1 hq]; rfl) hO2.out (by omega) i1 (Key.cs_len _) (own_cells hO2.out i1) (Nat.le_refl 34) (set_til _ _) (fun _ h => h.elim) hb2 ?_; intro w3 hO3 hb3 hg3))
  replace hO3 : OwnKeys w3 w1.heap.size (.slice (some ⟨g, 0, none⟩) ks.length cap) (rotK ks u) := by rw [hrk.out]; exact hO3
  have hxl : (rotK ks u).length ≤ 8 := by unfold rotK; rw [List.length_set]; omega
  have hs6 : w.heap.size + 1 + 1 < w1.heap.size := by have := hb.size; omega
  have d1 := pw_cell_below hb hb0.out
  have dB := hbn.out.below hb
  have d6 := blk_below hbr.out hb
  have hbase := below_step hBel3.out hb
  have hwn : IntKind.u64.wrap (next + 1) = next + 1 := by rw [IntKind.wrap_u64]; omega
  have c1 := (hb3.cell (p := ⟨w.heap.size, 1, none⟩) hs8).trans d1
  have cB := atB dB hb3 (Nat.lt_trans (Nat.lt_succ_self _) hs6)
  refine wp_region_held_drew (S := (fun w' => w'.cell? ⟨w.heap.size, 1, none⟩ = some (.int .u64 next) ∧ At w' ⟨w.heap.size + 1, 0, none⟩ s.cs)) (by kernel_rfl) ⟨c1, cB⟩ (fun hHeld => ?_)
  refine wpAnyH_take (i := 0) (v := (.slice (some ⟨g, 0, none⟩) ks.length cap)) rfl (by kernel_rfl) (by kernel_rfl) (by kernel_rfl) (fun _ _ _ h => h) (Or.inl ⟨by rfl, fun w hS => by unfold execOp; rfl⟩) hHeld ?_
  try simp only [Act.put, List.setIfInBounds_toArray, List.set_cons_zero, List.set_cons_succ, List.getElem_toArray, List.getElem_cons_succ, List.getElem_cons_zero]
  refine wpAnyH_take (i := 1) (v := (.pointer (some ⟨w.heap.size, 1, none⟩))) rfl (by kernel_rfl) (by kernel_rfl) (by kernel_rfl) (fun _ _ _ h => h) (Or.inl ⟨by rfl, fun w hS => by have h1 := hS.1; clear hS; go_simp⟩) hHeld ?_
  try simp only [Act.put, List.setIfInBounds_toArray, List.set_cons_zero, List.set_cons_succ, List.getElem_toArray, List.getElem_cons_succ, List.getElem_cons_zero]
  refine wpAnyH_take (i := 2) (v := .int .u64 next) rfl (by kernel_rfl) (by kernel_rfl) (by kernel_rfl) (fun _ _ _ h => h) (Or.inl ⟨by rfl, fun w hS => by have h1 := hS.1; clear hS; go_simp⟩) hHeld ?_
  try simp only [Act.put, List.setIfInBounds_toArray, List.set_cons_zero, List.set_cons_succ, List.getElem_toArray, List.getElem_cons_succ, List.getElem_cons_zero]
  refine wpAnyH_take (i := 3) (v := _) rfl (by kernel_rfl) (by kernel_rfl) (by kernel_rfl) (fun _ _ _ h => h) (yields_bytes (by rfl) _ rfl _ rfl s (fun w hS => hS.2)) hHeld ?_
  try simp only [Act.put, List.setIfInBounds_toArray, List.set_cons_zero, List.set_cons_succ, List.getElem_toArray, List.getElem_cons_succ, List.getElem_cons_zero]
  refine wpAnyH_take (i := 4) (v := .agg (Key.mk next s 0).arr) rfl (by kernel_rfl) (by kernel_rfl) (by kernel_rfl) (fun _ _ _ h => h) (Or.inl ⟨by rfl, fun w hS => exec_build2 107 0 1 _ _ rfl (.int .u64 next) (.agg s.cs.toArray) _ rfl rfl (build107 next s w)⟩) hHeld ?_
  try simp only [Act.put, List.setIfInBounds_toArray, List.set_cons_zero, List.set_cons_succ, List.getElem_toArray, List.getElem_cons_succ, List.getElem_cons_zero]
  refine wpAnyH_take (i := 7) (v := (.pointer (some ⟨w.heap.size, 1, none⟩))) rfl (by kernel_rfl) (by kernel_rfl) (by kernel_rfl) (fun _ _ _ h => h) (Or.inl ⟨by rfl, fun w hS => by have h1 := hS.1; clear hS; go_simp⟩) hHeld ?_
  try simp only [Act.put, List.setIfInBounds_toArray, List.set_cons_zero, List.set_cons_succ, List.getElem_toArray, List.getElem_cons_succ, List.getElem_cons_zero]
  refine wpAnyH_take (i := 8) (v := .int .u64 next) rfl (by kernel_rfl) (by kernel_rfl) (by kernel_rfl) (fun _ _ _ h => h) (Or.inl ⟨by rfl, fun w hS => by have h1 := hS.1; clear hS; go_simp⟩) hHeld ?_
  try simp only [Act.put, List.setIfInBounds_toArray, List.set_cons_zero, List.set_cons_succ, List.getElem_toArray, List.getElem_cons_succ, List.getElem_cons_zero]
  refine wpAnyH_take (i := 9) (v := .int .u64 (next + 1)) rfl (by kernel_rfl) (by kernel_rfl) (by kernel_rfl) (fun _ _ _ h => h) (Or.inl ⟨by rfl, fun w hS => by have h1 := hS.1; clear hS; go_simp⟩) hHeld ?_
  try simp only [Act.put, List.setIfInBounds_toArray, List.set_cons_zero, List.set_cons_succ, List.getElem_toArray, List.getElem_cons_succ, List.getElem_cons_zero]
  refine wpAnyH_ready (rs := [5]) (by kernel_rfl) (by simp) ?_
  refine AllReadyH.cons rfl (fun K hK => ?_) AllReadyH.nil
  rw [if_pos (by rfl)]
  refine wp_exec _ (exec_slice1 55 1 0 _ rfl (.agg (Key.mk next s 0).arr) _ rfl (newKeys (Key.mk next s 0) _)) ?_
  refine hK.out _ _ ⟨pw_cell_below (below_alloc (Below.refl _ _) _) hHeld.1, At.below hHeld.2 (below_alloc (Below.refl _ _) _)⟩ (fun hHeld5 => ?_)
  clear hK
  try simp only [Act.put, List.setIfInBounds_toArray, List.set_cons_zero, List.set_cons_succ, List.getElem_toArray, List.getElem_cons_succ, List.getElem_cons_zero]
  refine wpAnyH_ready (rs := [6]) (by kernel_rfl) (by simp) ?_
  refine AllReadyH.cons rfl (fun K hK => ?_) AllReadyH.nil
  refine Kd.R_append_step kKey (w0 := w1) (W := w3.drew) w1.heap.size (by rfl) _ _ 55 107 _ 48 rfl Try.underlying55 info107z (by rw [show (Value.agg zKey.arr).cells = zKey.arr from rfl, Key.arr_size]; rfl) (by decide) (by decide) (.slice (some ⟨g, 0, none⟩) ks.length cap) (rotK ks u) (Key.mk next s 0) (Key.mk next s 0).cs (fun _ => True) (fun _ => False) rfl rfl rfl (fun _ h => h.elim) (fun _ _ => trivial) hO3 (below_drew1 hb3) hb3.size (by omega) ?_
  intro v4 w4 hO4 hb4 hg4 hat4
  refine hK.out _ _ ⟨(hb4.cell (p := ⟨w.heap.size, 1, none⟩) hs8).trans d1, atB dB hb4 (Nat.lt_trans (Nat.lt_succ_self _) hs6)⟩ (fun hHeld6 => ?_)
  clear hK
  try simp only [Act.put, List.setIfInBounds_toArray, List.set_cons_zero, List.set_cons_succ, List.getElem_toArray, List.getElem_cons_succ, List.getElem_cons_zero]
  obtain ⟨A4, c4, rfl⟩ := Kd.R_slice hO4
  refine wpAnyH_take (i := 10) (v := .agg #[.slice A4 ((rotK ks u) ++ [(Key.mk next s 0)]).length c4, .int .u64 (next + 1)]) rfl (by kernel_rfl) (by kernel_rfl) (by kernel_rfl) (fun _ _ _ h => h) (Or.inl ⟨by rfl, fun w hS => exec_build2 69 0 1 _ _ rfl (.slice A4 ((rotK ks u) ++ [(Key.mk next s 0)]).length c4) (.int .u64 (next + 1)) _ rfl rfl (build69 _ _ _ _ _)⟩) hHeld6 ?_
  try simp only [Act.put, List.setIfInBounds_toArray, List.set_cons_zero, List.set_cons_succ, List.getElem_toArray, List.getElem_cons_succ, List.getElem_cons_zero]
  have b64 : w4.heap[w.heap.size + 1 + 1]? = some (.cells #[.slice none 0 0, .int .u64 0] 69 (0, 0)) := (hb4.block _ hs6).trans d6
  refine wpAnyH_ready (rs := [11]) (by kernel_rfl) (by simp) ?_
  refine AllReadyH.cons rfl (fun K hK => ?_) AllReadyH.nil
  rw [if_pos (by rfl)]
  refine wp_put_row 69 _ _ rfl _ 69 _ #[.slice A4 ((rotK ks u) ++ [(Key.mk next s 0)]).length c4, .int .u64 (next + 1)] b64 rfl rfl (by kernel_rfl) rfl (two_one _ _ rfl rfl) (fun w5 hB5 hg5 hz5 => ?_)
  refine hK.out _ _ ⟨cell_grown hHeld6.1 hg5 (by simp; omega), atG hHeld6.2 hg5 (by simp)⟩ (fun hHeld7 => ?_)
  clear hK
  try simp only [Act.put, List.setIfInBounds_toArray, List.set_cons_zero, List.set_cons_succ, List.getElem_toArray, List.getElem_cons_succ, List.getElem_cons_zero]
  refine wpAnyH_take (i := 12) (v := .int .i64 0) rfl (by kernel_rfl) (by kernel_rfl) (by kernel_rfl) (fun _ _ _ h => h) (Or.inl ⟨by rfl, fun w hS => by unfold execOp; rfl⟩) hHeld7 ?_
  try simp only [Act.put, List.setIfInBounds_toArray, List.set_cons_zero, List.set_cons_succ, List.getElem_toArray, List.getElem_cons_succ, List.getElem_cons_zero]
  refine wpAnyH_done (by kernel_rfl) ?_ _
  go_wp2
  exact bodyPost_ret (results_ring2 Try.underlying69 (by kernel_rfl) rfl rfl hB5) rfl
    ⟨_, rfl, ⟨_, rfl, Kd.R_lower (base' := w.heap.size) (Kd.R_mono (Kd.R_grown (ok := fun k => True ∧ k ≠ w.heap.size + 1 + 1) (Kd.R_types hO4 b64 ne69) hg5 (fun k hk he => hk.2 (by injection he))) (fun _ _ => trivial)) (by omega)⟩, pw_below_grown (hbase.trans ⟨hb4.os, hb4.tape, hb4.output, hb4.size, fun k hk => hb4.block k (by omega)⟩) _ (by have := hb4.size; omega) hg5 (fun k hk => by injection hk with hk; omega)⟩

def disK (ks : List Key) (k : Key) : List Key := ks.filter fun x => !decide (x = k)
def distrustF (r : Rg) (kid : Int) (s : Bs 32) : Rg × Int :=
  if checkK r.keys r.next = false then (zRg, 50) else if findF kid r.keys r.next = zKey then (zRg, 53) else if (findF kid r.keys r.next).til = 0 ∧ r.next = 9223372036854775807 then (zRg, 51)
  else if 0 < (findF kid r.keys r.next).til then (⟨disK r.keys (findF kid r.keys r.next), r.next⟩, 0) else (⟨disK r.keys (findF kid r.keys r.next) ++ [⟨r.next, s, 0⟩], r.next + 1⟩, 0)
theorem check_til {ks : List Key} {next : Int} (h : checkK ks next = true) (i : Nat) (hi : i < ks.length) : (i + 1 = ks.length ∧ (rdK ks (i : Int)).til = 0) ∨ (i + 1 ≠ ks.length ∧ 0 < (rdK ks (i : Int)).til) := by
  unfold checkK at h
  simp only [Bool.and_eq_true] at h
  have := List.all_eq_true.1 h.2 i (List.mem_range.2 hi)
  unfold badK at this
  simp only [Bool.not_eq_true', Bool.or_eq_false_iff, Bool.and_eq_false_iff, decide_eq_false_iff_not] at this
  omega
theorem find_til {ks : List Key} {next : Int} (kid : Int) (h : checkK ks next = true) : 0 ≤ (findF kid ks next).til := by
  unfold findF oneF
  rcases idx_range (fun k => k.kid == kid) ks with hi | ⟨i, hi, hl⟩
  · rw [h, hi]
    exact Int.le_refl 0
  · rw [h, hi]
    have := check_til h i hl
    simp only [Bool.true_and]
    rw [if_pos (by simp)]
    omega
theorem disK_len (ks : List Key) (k : Key) : (disK ks k).length ≤ ks.length := List.length_filter_le ..


set_option maxHeartbeats 4000000 in
set_option maxRecDepth 100000 in
theorem distrust_any (ks : List Key) (A : Option Addr) (c : Nat) (next kid : Int) (s : Bs 32) (w : World) (hr : kKey.C w A ks.length ks) (hc : ks.length ≤ c) (hn : 0 ≤ next) :
    Calls Try.prog 16 #[.agg #[.slice A ks.length c, .int .u64 next], .int .u64 kid, .agg s.cs.toArray] w fun e w' => ∃ v, e = .returned (.tuple #[v, .int .i64 (distrustF ⟨ks, next⟩ kid s).2]) ∧ RingV w' w.heap.size v (distrustF ⟨ks, next⟩ kid s).1 ∧ Below w.heap.size w w' := by
  have hu107 := Try.underlying107
  have hu69 := Try.underlying69
  have hu55 := Try.underlying55
  have hmf := hmf
  have hBel3 : Aside0 (Below w.heap.size w (((w.alloc (.cells #[.slice A ks.length c, .int .u64 next] 69)).alloc (.cells s.cs.toArray 70)).alloc (.cells #[.slice none 0 0, .int .u64 0] 69))) := ⟨by repeat (first | exact Below.refl _ _ | apply below_alloc)⟩
  have hcall := check_any ks A c next (((w.alloc (.cells #[.slice A ks.length c, .int .u64 next] 69)).alloc (.cells s.cs.toArray 70)).alloc (.cells #[.slice none 0 0, .int .u64 0] 69)) (Kd.C_below hr hBel3.out) hc
  have hs3 : Aside0 (w.heap.size + 1 + 1 < (((w.alloc (.cells #[.slice A ks.length c, .int .u64 next] 69)).alloc (.cells s.cs.toArray 70)).alloc (.cells #[.slice none 0 0, .int .u64 0] 69)).heap.size) := ⟨by simp⟩
  have hs3' : Aside0 (w.heap.size < (((w.alloc (.cells #[.slice A ks.length c, .int .u64 next] 69)).alloc (.cells s.cs.toArray 70)).alloc (.cells #[.slice none 0 0, .int .u64 0] 69)).heap.size) := ⟨by simp; omega⟩
  have hbn : Aside0 (At (((w.alloc (.cells #[.slice A ks.length c, .int .u64 next] 69)).alloc (.cells s.cs.toArray 70)).alloc (.cells #[.slice none 0 0, .int .u64 0] 69)) ⟨w.heap.size + 1, 0, none⟩ s.cs) := ⟨at_block (blk_alloc (by rw [← alloc_size]; exact blk_new _ _) _)⟩
  have hb0 : Aside0 ((((w.alloc (.cells #[.slice A ks.length c, .int .u64 next] 69)).alloc (.cells s.cs.toArray 70)).alloc (.cells #[.slice none 0 0, .int .u64 0] 69)).cell? ⟨w.heap.size, 1, none⟩ = some (.int .u64 next)) := ⟨by rw [blk_cell (blk_alloc (blk_alloc (blk_new _ _) _) _)]; rfl⟩
  have hbr : Aside0 ((((w.alloc (.cells #[.slice A ks.length c, .int .u64 next] 69)).alloc (.cells s.cs.toArray 70)).alloc (.cells #[.slice none 0 0, .int .u64 0] 69)).heap[w.heap.size + 1 + 1]? = some (.cells #[.slice none 0 0, .int .u64 0] 69 (0, 0))) := ⟨by rw [← alloc_size w (.cells #[.slice A ks.length c, .int .u64 next] 69), ← alloc_size]; exact blk_new _ _⟩
  have hR := Aside0.mk hr
  clear hr
  cases h1 : checkK ks next
  · have e1 : errK ks next = 50 := by unfold errK; rw [h1]; rfl
    have e2 : distrustF ⟨ks, next⟩ kid s = (zRg, 50) := by unfold distrustF; rw [h1]; rfl
    rw [e1] at hcall
    rw [e2]
    clear e1 e2
    go_enter Try.func16, Try.ntmps16
    go_wp2_with (first | (go_at_call 31; refine hcall.mono ?_; rintro e w1 ⟨rfl, hb⟩; obtain ⟨hbc, hbf⟩ := bcell hb; have hs4 := hs3'.out; have hs5 := hs3.out; have hs8 : w.heap.size < w1.heap.size := (by have := hb.size; omega); have hs14 : w.heap.size + 1 + 1 < w1.heap.size := (by have := hb.size; omega)))
    have hz : w.heap.size ≤ w1.heap.size := by have := hb.size; omega
    exact bodyPost_ret (results_ring2 Try.underlying69 (by kernel_rfl) rfl rfl (blk_put (blk_put (blk_below hbr.out hb) 0 _ rfl) 1 _ rfl)) rfl
      ⟨_, rfl, ⟨_, rfl, nil_own _ _⟩, below_set (below_set (below_step hBel3.out hb) (by omega)) (by omega)⟩
  have e1 : errK ks next = 0 := by unfold errK; rw [h1]; rfl
  rw [e1] at hcall
  obtain ⟨l1, l8, lmax⟩ := check_len h1
  clear e1
  have hbelow := hBel3
  have hz107 := zero107
  have cf := fun w' (hb : Below w.heap.size w w') => find_any kid ks A c next w' (Kd.C_below hR.out hb) hc
  have e2 : distrustF ⟨ks, next⟩ kid s = if findF kid ks next = zKey then (zRg, 53) else if (findF kid ks next).til = 0 ∧ next = 9223372036854775807 then (zRg, 51)
    else if 0 < (findF kid ks next).til then (⟨disK ks (findF kid ks next), next⟩, 0) else (⟨disK ks (findF kid ks next) ++ [⟨next, s, 0⟩], next + 1⟩, 0) := by unfold distrustF; rw [h1]; rfl
  have htil := find_til kid h1
  rw [e2]
  clear e2 h1
  generalize findF kid ks next = ky at *
  have ha33 := ky.arr_33
  by_cases h2 : ky = zKey
  · rw [if_pos h2]
    rw [decide_eq_true h2] at cf
    clear h2
    go_enter Try.func16, Try.ntmps16
    go_wp2_with (first | (go_at_call 31; refine hcall.mono ?_; rintro e w1 ⟨rfl, hb⟩; obtain ⟨hbc, hbf⟩ := bcell hb; have hs4 := hs3'.out; have hs5 := hs3.out; have hs8 : w.heap.size < w1.heap.size := (by have := hb.size; omega); have hs14 : w.heap.size + 1 + 1 < w1.heap.size := (by have := hb.size; omega)) | (go_at_call 30; refine (cf _ (below_step hBel3.out hb)).mono ?_; rintro e w2 ⟨rfl, hb2⟩; obtain ⟨hbc2, hbf2⟩ := bcell hb2; have hs9 : w.heap.size < w2.heap.size := (by have := hb2.size; omega); have hs10 : w.heap.size + 1 + 1 < w2.heap.size := (by have := hb2.size; have := hb.size; omega)) | refine new_key rfl _ _ rfl _ _ rfl rfl ?_)
    have d6a := blk_below hbr.out hb
    have hbase1 := below_step hBel3.out hb
    exact bodyPost_ret (results_ring2 Try.underlying69 (by kernel_rfl) rfl rfl (blk_alloc (blk_put (blk_put (blk_below d6a hb2) 0 _ rfl) 1 _ rfl) _)) rfl
      ⟨_, rfl, ⟨_, rfl, nil_own _ _⟩, below_alloc (below_set (below_set (below_step hbase1 hb2) (by omega)) (by omega)) _⟩
  rw [if_neg h2]
  rw [decide_eq_false h2] at cf
  clear h2
  by_cases h3 : ky.til = 0 ∧ next = 9223372036854775807
  · rw [if_pos h3]
    have d3 : (ky.til == 0) = true := by simp [h3.1]
    have d4 : (next == 9223372036854775807) = true := by simp [h3.2]
    clear h3
    go_enter Try.func16, Try.ntmps16
    go_wp2_with (first | (go_at_call 31; refine hcall.mono ?_; rintro e w1 ⟨rfl, hb⟩; obtain ⟨hbc, hbf⟩ := bcell hb; have hs4 := hs3'.out; have hs5 := hs3.out; have hs8 : w.heap.size < w1.heap.size := (by have := hb.size; omega); have hs14 : w.heap.size + 1 + 1 < w1.heap.size := (by have := hb.size; omega)) | (go_at_call 30; refine (cf _ (below_step hBel3.out hb)).mono ?_; rintro e w2 ⟨rfl, hb2⟩; obtain ⟨hbc2, hbf2⟩ := bcell hb2; have hs9 : w.heap.size < w2.heap.size := (by have := hb2.size; omega); have hs10 : w.heap.size + 1 + 1 < w2.heap.size := (by have := hb2.size; have := hb.size; omega)) | refine new_key rfl _ _ rfl _ _ rfl rfl ?_)
    have d6a := blk_below hbr.out hb
    have hbase1 := below_step hBel3.out hb
    exact bodyPost_ret (results_ring2 Try.underlying69 (by kernel_rfl) rfl rfl (blk_alloc (blk_put (blk_put (blk_below d6a hb2) 0 _ rfl) 1 _ rfl) _)) rfl
      ⟨_, rfl, ⟨_, rfl, nil_own _ _⟩, below_alloc (below_set (below_set (below_step hbase1 hb2) (by omega)) (by omega)) _⟩
  rw [if_neg h3]
  obtain ⟨ad, rfl, _⟩ := hR.out.2.2 (by omega)
  have ck := fun w' (hb : Below w.heap.size w w') => clone_any ks ad c w' (Kd.C_below hR.out hb) hc (by omega)
  have hdl := disK_len ks ky
  by_cases h4 : 0 < ky.til
  · rw [if_pos h4]
    have d3 : (ky.til == 0) = false := by simp; omega
    have d5 : decide (0 < ky.til) = true := decide_eq_true h4
    clear h3 h4
    go_enter Try.func16, Try.ntmps16
    go_wp2_with (first | (go_at_call 31; refine hcall.mono ?_; rintro e w1 ⟨rfl, hb⟩; obtain ⟨hbc, hbf⟩ := bcell hb; have hs4 := hs3'.out; have hs5 := hs3.out; have hs8 : w.heap.size < w1.heap.size := (by have := hb.size; omega); have hs14 : w.heap.size + 1 + 1 < w1.heap.size := (by have := hb.size; omega)) | (go_at_call 30; refine (cf _ (below_step hBel3.out hb)).mono ?_; rintro e w2 ⟨rfl, hb2⟩; obtain ⟨hbc2, hbf2⟩ := bcell hb2; have hs9 : w.heap.size < w2.heap.size := (by have := hb2.size; omega); have hs10 : w.heap.size + 1 + 1 < w2.heap.size := (by have := hb2.size; have := hb.size; omega)) | refine new_key rfl _ _ rfl _ _ rfl rfl ?_ | (go_at_call 34; refine (ck (w2.alloc (.cells ky.arr 107)) (below_alloc (below_step (below_step hBel3.out hb) hb2) _)).mono ?_; rintro e w3 ⟨v3, rfl, hO3, hb3⟩; have hs11 : w.heap.size < (w2.alloc (.cells ky.arr 107)).heap.size := (by rw [alloc_size]; omega); have hs12 : w.heap.size + 1 + 1 < (w2.alloc (.cells ky.arr 107)).heap.size := (by rw [alloc_size]; omega); have hs13 : w2.heap.size < (w2.alloc (.cells ky.arr 107)).heap.size := (by rw [alloc_size]; omega); have hs15 : w.heap.size < w2.heap.size + 1 := (by omega); have hs16 : w.heap.size ≤ w2.heap.size := (by omega); have hs17 : w.heap.size + 1 + 1 < w2.heap.size + 1 := (by omega); have hs18 : w.heap.size + 1 + 1 ≤ w2.heap.size := (by omega)) | (go_at_call 35; refine (delete_any (fun x => decide (x = ky)) 38 _ ks v3 (w2.alloc (.cells ky.arr 107)).heap.size w3 hO3 hb3.size (by omega) (paysB_dis hs13 (blk_below (blk_new _ _) hb3)) (by omega)).mono ?_; rintro e w4 ⟨v4, rfl, hO4, hb4⟩; replace hO4 : OwnKeys w4 (w2.alloc (.cells ky.arr 107)).heap.size v4 (disK ks ky) := hO4; obtain ⟨A4, c4, rfl⟩ := Kd.R_slice hO4; have hO4 := Aside0.mk hO4; have hb4' := hb3.trans hb4; obtain ⟨hbc4, hbf4⟩ := bcellB hb4'))
    have b1 : w4.heap[w.heap.size + 1 + 1]? = some (.cells #[.slice none 0 0, .int .u64 0] 69 (0, 0)) := (hb4'.block _ hs12).trans (blk_alloc (blk_below (blk_below hbr.out hb) hb2) _)
    have hbel : Below w.heap.size w w4 := (below_alloc (below_step (below_step hBel3.out hb) hb2) _).trans ⟨hb4'.os, hb4'.tape, hb4'.output, hb4'.size, fun k hk => hb4'.block k (by omega)⟩
    exact bodyPost_ret (results_ring2 Try.underlying69 (by kernel_rfl) rfl rfl (blk_put (blk_put b1 0 _ rfl) 1 _ rfl)) rfl
      ⟨_, rfl, ⟨_, rfl, own_set (own_set (Kd.R_lower (base' := w.heap.size) hO4.out (by omega)) b1 (by decide) _ _) (blk_put b1 0 _ rfl) (by decide) _ _⟩, below_set (below_set hbel (by omega)) (by omega)⟩
  · rw [if_neg h4]
    have d5 : decide (0 < ky.til) = false := decide_eq_false h4
    by_cases h5 : ky.til = 0
    · have d3 : (ky.til == 0) = true := by simp [h5]
      have hnx : 0 ≤ next ∧ next < 9223372036854775807 := by omega
      have d4 : (next == 9223372036854775807) = false := by simp; omega
      clear h3 h4 h5
      go_enter Try.func16, Try.ntmps16
      go_wp2_with (first | (go_at_call 31; refine hcall.mono ?_; rintro e w1 ⟨rfl, hb⟩; obtain ⟨hbc, hbf⟩ := bcell hb; have hs4 := hs3'.out; have hs5 := hs3.out; have hs8 : w.heap.size < w1.heap.size := (by have := hb.size; omega); have hs14 : w.heap.size + 1 + 1 < w1.heap.size := (by have := hb.size; omega)) | (go_at_call 30; refine (cf _ (below_step hBel3.out hb)).mono ?_; rintro e w2 ⟨rfl, hb2⟩; obtain ⟨hbc2, hbf2⟩ := bcell hb2; have hs9 : w.heap.size < w2.heap.size := (by have := hb2.size; omega); have hs10 : w.heap.size + 1 + 1 < w2.heap.size := (by have := hb2.size; have := hb.size; omega)) | refine new_key rfl _ _ rfl _ _ rfl rfl ?_ | (go_at_call 34; refine (ck (w2.alloc (.cells ky.arr 107)) (below_alloc (below_step (below_step hBel3.out hb) hb2) _)).mono ?_; rintro e w3 ⟨v3, rfl, hO3, hb3⟩; have hs11 : w.heap.size < (w2.alloc (.cells ky.arr 107)).heap.size := (by rw [alloc_size]; omega); have hs12 : w.heap.size + 1 + 1 < (w2.alloc (.cells ky.arr 107)).heap.size := (by rw [alloc_size]; omega); have hs13 : w2.heap.size < (w2.alloc (.cells ky.arr 107)).heap.size := (by rw [alloc_size]; omega); have hs15 : w.heap.size < w2.heap.size + 1 := (by omega); have hs16 : w.heap.size ≤ w2.heap.size := (by omega); have hs17 : w.heap.size + 1 + 1 < w2.heap.size + 1 := (by omega); have hs18 : w.heap.size + 1 + 1 ≤ w2.heap.size := (by omega)) | (go_at_call 35; refine (delete_any (fun x => decide (x = ky)) 38 _ ks v3 (w2.alloc (.cells ky.arr 107)).heap.size w3 hO3 hb3.size (by omega) (paysB_dis hs13 (blk_below (blk_new _ _) hb3)) (by omega)).mono ?_; rintro e w4 ⟨v4, rfl, hO4, hb4⟩; replace hO4 : OwnKeys w4 (w2.alloc (.cells ky.arr 107)).heap.size v4 (disK ks ky) := hO4; obtain ⟨A4, c4, rfl⟩ := Kd.R_slice hO4; have hO4 := Aside0.mk hO4; have hb4' := hb3.trans hb4; obtain ⟨hbc4, hbf4⟩ := bcellB hb4'))
      have d1 : (w2.alloc (.cells ky.arr 107)).cell? ⟨w.heap.size, 1, none⟩ = some (.int .u64 next) := pw_cell_below (below_alloc hb2 _) (pw_cell_below hb hb0.out)
      have dB : At (w2.alloc (.cells ky.arr 107)) ⟨w.heap.size + 1, 0, none⟩ s.cs := (hbn.out.below hb).below (below_alloc hb2 _)
      have d6 := blk_alloc (blk_below (blk_below hbr.out hb) hb2) (.cells ky.arr 107)
      have hbase := below_alloc (below_step (below_step hBel3.out hb) hb2) (.cells ky.arr 107)
      have hs6 := hs12
      have hs8 := hs11
      replace hb3 := hb4'
      have hO3 := hO4.out
      have hwn : IntKind.u64.wrap (next + 1) = next + 1 := by rw [IntKind.wrap_u64]; omega
      have c1 := (hb3.cell (p := ⟨w.heap.size, 1, none⟩) hs8).trans d1
      have cB := atB dB hb3 (Nat.lt_trans (Nat.lt_succ_self _) hs6)
      refine wp_region_held_drew (S := (fun w' => w'.cell? ⟨w.heap.size, 1, none⟩ = some (.int .u64 next) ∧ At w' ⟨w.heap.size + 1, 0, none⟩ s.cs)) (by kernel_rfl) ⟨c1, cB⟩ (fun hHeld => ?_)
      refine wpAnyH_take (i := 0) (v := (.slice A4 (disK ks ky).length c4)) rfl (by kernel_rfl) (by kernel_rfl) (by kernel_rfl) (fun _ _ _ h => h) (Or.inl ⟨by rfl, fun w hS => by unfold execOp; rfl⟩) hHeld ?_
      try simp only [Act.put, List.setIfInBounds_toArray, List.set_cons_zero, List.set_cons_succ, List.getElem_toArray, List.getElem_cons_succ, List.getElem_cons_zero]
      refine wpAnyH_take (i := 1) (v := (.pointer (some ⟨w.heap.size, 1, none⟩))) rfl (by kernel_rfl) (by kernel_rfl) (by kernel_rfl) (fun _ _ _ h => h) (Or.inl ⟨by rfl, fun w hS => by have h1 := hS.1; clear hS; go_simp⟩) hHeld ?_
      try simp only [Act.put, List.setIfInBounds_toArray, List.set_cons_zero, List.set_cons_succ, List.getElem_toArray, List.getElem_cons_succ, List.getElem_cons_zero]
      refine wpAnyH_take (i := 2) (v := .int .u64 next) rfl (by kernel_rfl) (by kernel_rfl) (by kernel_rfl) (fun _ _ _ h => h) (Or.inl ⟨by rfl, fun w hS => by have h1 := hS.1; clear hS; go_simp⟩) hHeld ?_
      try simp only [Act.put, List.setIfInBounds_toArray, List.set_cons_zero, List.set_cons_succ, List.getElem_toArray, List.getElem_cons_succ, List.getElem_cons_zero]
      refine wpAnyH_take (i := 3) (v := _) rfl (by kernel_rfl) (by kernel_rfl) (by kernel_rfl) (fun _ _ _ h => h) (yields_bytes (by rfl) _ rfl _ rfl s (fun w hS => hS.2)) hHeld ?_
      try simp only [Act.put, List.setIfInBounds_toArray, List.set_cons_zero, List.set_cons_succ, List.getElem_toArray, List.getElem_cons_succ, List.getElem_cons_zero]
      refine wpAnyH_take (i := 4) (v := .agg (Key.mk next s 0).arr) rfl (by kernel_rfl) (by kernel_rfl) (by kernel_rfl) (fun _ _ _ h => h) (Or.inl ⟨by rfl, fun w hS => exec_build2 107 0 1 _ _ rfl (.int .u64 next) (.agg s.cs.toArray) _ rfl rfl (build107 next s w)⟩) hHeld ?_
      try simp only [Act.put, List.setIfInBounds_toArray, List.set_cons_zero, List.set_cons_succ, List.getElem_toArray, List.getElem_cons_succ, List.getElem_cons_zero]
      refine wpAnyH_take (i := 7) (v := (.pointer (some ⟨w.heap.size, 1, none⟩))) rfl (by kernel_rfl) (by kernel_rfl) (by kernel_rfl) (fun _ _ _ h => h) (Or.inl ⟨by rfl, fun w hS => by have h1 := hS.1; clear hS; go_simp⟩) hHeld ?_
      try simp only [Act.put, List.setIfInBounds_toArray, List.set_cons_zero, List.set_cons_succ, List.getElem_toArray, List.getElem_cons_succ, List.getElem_cons_zero]
      refine wpAnyH_take (i := 8) (v := .int .u64 next) rfl (by kernel_rfl) (by kernel_rfl) (by kernel_rfl) (fun _ _ _ h => h) (Or.inl ⟨by rfl, fun w hS => by have h1 := hS.1; clear hS; go_simp⟩) hHeld ?_
      try simp only [Act.put, List.setIfInBounds_toArray, List.set_cons_zero, List.set_cons_succ, List.getElem_toArray, List.getElem_cons_succ, List.getElem_cons_zero]
      refine wpAnyH_take (i := 9) (v := .int .u64 (next + 1)) rfl (by kernel_rfl) (by kernel_rfl) (by kernel_rfl) (fun _ _ _ h => h) (Or.inl ⟨by rfl, fun w hS => by have h1 := hS.1; clear hS; go_simp⟩) hHeld ?_
      try simp only [Act.put, List.setIfInBounds_toArray, List.set_cons_zero, List.set_cons_succ, List.getElem_toArray, List.getElem_cons_succ, List.getElem_cons_zero]
      refine wpAnyH_ready (rs := [5]) (by kernel_rfl) (by simp) ?_
      refine AllReadyH.cons rfl (fun K hK => ?_) AllReadyH.nil
      rw [if_pos (by rfl)]
      refine wp_exec _ (exec_slice1 55 1 0 _ rfl (.agg (Key.mk next s 0).arr) _ rfl (newKeys (Key.mk next s 0) _)) ?_
      refine hK.out _ _ ⟨pw_cell_below (below_alloc (Below.refl _ _) _) hHeld.1, At.below hHeld.2 (below_alloc (Below.refl _ _) _)⟩ (fun hHeld5 => ?_)
      clear hK
      try simp only [Act.put, List.setIfInBounds_toArray, List.set_cons_zero, List.set_cons_succ, List.getElem_toArray, List.getElem_cons_succ, List.getElem_cons_zero]
      refine wpAnyH_ready (rs := [6]) (by kernel_rfl) (by simp) ?_
      refine AllReadyH.cons rfl (fun K hK => ?_) AllReadyH.nil
      refine Kd.R_append_step kKey (w0 := (w2.alloc (.cells ky.arr 107))) (W := w4.drew) (w2.alloc (.cells ky.arr 107)).heap.size (by rfl) _ _ 55 107 _ 48 rfl Try.underlying55 info107z (by rw [show (Value.agg zKey.arr).cells = zKey.arr from rfl, Key.arr_size]; rfl) (by decide) (by decide) (.slice A4 (disK ks ky).length c4) (disK ks ky) (Key.mk next s 0) (Key.mk next s 0).cs (fun _ => True) (fun _ => False) rfl rfl rfl (fun _ h => h.elim) (fun _ _ => trivial) hO3 (below_drew1 hb3) hb3.size (by omega) ?_
      intro v4 w4 hO4 hb4 hg4 hat4
      refine hK.out _ _ ⟨(hb4.cell (p := ⟨w.heap.size, 1, none⟩) hs8).trans d1, atB dB hb4 (Nat.lt_trans (Nat.lt_succ_self _) hs6)⟩ (fun hHeld6 => ?_)
      clear hK
      try simp only [Act.put, List.setIfInBounds_toArray, List.set_cons_zero, List.set_cons_succ, List.getElem_toArray, List.getElem_cons_succ, List.getElem_cons_zero]
      obtain ⟨A4, c4, rfl⟩ := Kd.R_slice hO4
      refine wpAnyH_take (i := 10) (v := .agg #[.slice A4 ((disK ks ky) ++ [(Key.mk next s 0)]).length c4, .int .u64 (next + 1)]) rfl (by kernel_rfl) (by kernel_rfl) (by kernel_rfl) (fun _ _ _ h => h) (Or.inl ⟨by rfl, fun w hS => exec_build2 69 0 1 _ _ rfl (.slice A4 ((disK ks ky) ++ [(Key.mk next s 0)]).length c4) (.int .u64 (next + 1)) _ rfl rfl (build69 _ _ _ _ _)⟩) hHeld6 ?_
      try simp only [Act.put, List.setIfInBounds_toArray, List.set_cons_zero, List.set_cons_succ, List.getElem_toArray, List.getElem_cons_succ, List.getElem_cons_zero]
      have b64 : w4.heap[w.heap.size + 1 + 1]? = some (.cells #[.slice none 0 0, .int .u64 0] 69 (0, 0)) := (hb4.block _ hs6).trans d6
      refine wpAnyH_ready (rs := [11]) (by kernel_rfl) (by simp) ?_
      refine AllReadyH.cons rfl (fun K hK => ?_) AllReadyH.nil
      rw [if_pos (by rfl)]
      refine wp_put_row 69 _ _ rfl _ 69 _ #[.slice A4 ((disK ks ky) ++ [(Key.mk next s 0)]).length c4, .int .u64 (next + 1)] b64 rfl rfl (by kernel_rfl) rfl (two_one _ _ rfl rfl) (fun w5 hB5 hg5 hz5 => ?_)
      refine hK.out _ _ ⟨cell_grown hHeld6.1 hg5 (by simp; omega), atG hHeld6.2 hg5 (by simp)⟩ (fun hHeld7 => ?_)
      clear hK
      try simp only [Act.put, List.setIfInBounds_toArray, List.set_cons_zero, List.set_cons_succ, List.getElem_toArray, List.getElem_cons_succ, List.getElem_cons_zero]
      refine wpAnyH_take (i := 12) (v := .int .i64 0) rfl (by kernel_rfl) (by kernel_rfl) (by kernel_rfl) (fun _ _ _ h => h) (Or.inl ⟨by rfl, fun w hS => by unfold execOp; rfl⟩) hHeld7 ?_
      try simp only [Act.put, List.setIfInBounds_toArray, List.set_cons_zero, List.set_cons_succ, List.getElem_toArray, List.getElem_cons_succ, List.getElem_cons_zero]
      refine wpAnyH_done (by kernel_rfl) ?_ _
      go_wp2
      exact bodyPost_ret (results_ring2 Try.underlying69 (by kernel_rfl) rfl rfl hB5) rfl
        ⟨_, rfl, ⟨_, rfl, Kd.R_lower (base' := w.heap.size) (Kd.R_mono (Kd.R_grown (ok := fun k => True ∧ k ≠ w.heap.size + 1 + 1) (Kd.R_types hO4 b64 ne69) hg5 (fun k hk he => hk.2 (by injection he))) (fun _ _ => trivial)) (by omega)⟩, pw_below_grown (hbase.trans ⟨hb4.os, hb4.tape, hb4.output, hb4.size, fun k hk => hb4.block k (by omega)⟩) _ (by have := hb4.size; omega) hg5 (fun k hk => by injection hk with hk; omega)⟩
    · omega

end Go.Proofs.Ytnechcibpmjblaa
