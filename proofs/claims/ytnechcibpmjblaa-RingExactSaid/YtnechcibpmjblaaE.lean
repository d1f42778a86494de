/- The walks of ring.one, Find and Current. Conditions: the ring's keys are read. -/
import Derived.Test.YtnechcibpmjblaaD
namespace Go.Proofs.Ytnechcibpmjblaa
open Go.RowKit Go.Proofs.YtnechcibpmjblaaW.PrintWords KB
set_option linter.unusedVariables false
set_option linter.unusedSimpArgs false

theorem bcell {W w1 : World} (hb : Below W.heap.size W w1) : (∀ b o, b < W.heap.size → w1.cell? ⟨b, o, none⟩ = W.cell? ⟨b, o, none⟩) ∧ (∀ b o, b < W.heap.size → w1.frozen? ⟨b, o, none⟩ = W.frozen? ⟨b, o, none⟩) :=
  ⟨fun b o h => hb.cell (p := ⟨b, o, none⟩) h, fun b o h => hb.frozen (p := ⟨b, o, none⟩) h⟩
theorem alloc_size (w : World) (o : Obj) : (w.alloc o).heap.size = w.heap.size + 1 := by simp
section
variable {P : Program} {op : Oper} {ρ : Operand → Value} {w w' : World} (t : TypeId)
theorem exec_build0 (ho : op.op = .build t #[]) (v : Value) (hv : (Instr.build t #[]).run P w = .ok v w) : (execOp ρ op).run P w = .ok (.value v) w := by
  unfold execOp
  simp only [ho, List.map_toArray, List.map_nil, Sem.run_bind, hv, Result.andThen_ok, Sem.run_pure]
theorem exec_build2 (i j : Nat) (x y : Operand) (ho : op.op = .build t #[(i, x), (j, y)]) (a b v : Value) (hx : ρ x = a) (hy : ρ y = b) (hv : (Instr.build t #[(i, a), (j, b)]).run P w = .ok v w) : (execOp ρ op).run P w = .ok (.value v) w := by
  unfold execOp
  simp only [ho, List.map_toArray, List.map_cons, List.map_nil, hx, hy, Sem.run_bind, hv, Result.andThen_ok, Sem.run_pure]
theorem exec_slice1 (n i : Nat) (x : Operand) (ho : op.op = .buildSlice t n #[(i, x)]) (a v : Value) (hx : ρ x = a) (hv : (Instr.buildSlice t n #[(i, a)]).run P w = .ok v w') : (execOp ρ op).run P w = .ok (.value v) w' := by
  unfold execOp
  simp only [ho, List.map_toArray, List.map_cons, List.map_nil, hx, Sem.run_bind, hv, Result.andThen_ok, Sem.run_pure]
end
theorem exec_neqKey {op : Oper} {ρ : Operand → Value} {w : World} (x y : Operand) (z : TypeId) (ho : op.op = .binOp .neq 107 x y z) (a b : Key) (hx : ρ x = .agg a.arr) (hy : ρ y = .agg b.arr) :
    (execOp ρ op).run Try.prog w = .ok (.value (.bool (!decide (a = b)))) w := by
  have g : (eqGuard .neq 107 x y (.agg a.arr) (.agg b.arr)).run Try.prog w = .ok () w := by
    have e : Try.prog.eqGuardType Try.prog.depth 107 = false := by kernel_rfl
    unfold eqGuard
    simp [e]
  unfold execOp
  simp only [ho, hx, hy, Sem.run_bind, g, neqKey a b w, Result.andThen_ok, Sem.run_pure]
def oneF (p : Key → Bool) (ks : List Key) (next : Int) : Key := if checkK ks next && decide (0 ≤ idxF p ks) then rdK ks (idxF p ks) else zKey
theorem idx_range (p : Key → Bool) (ks : List Key) : idxF p ks = -1 ∨ ∃ i : Nat, idxF p ks = i ∧ i < ks.length := by
  unfold idxF
  cases h : ks.findIdx? p with
  | none => exact .inl rfl
  | some i => exact .inr ⟨i, rfl, (List.findIdx?_eq_some_iff_getElem.1 h).1⟩
set_option maxHeartbeats 4000000 in
set_option maxRecDepth 100000 in
theorem one_any (p : Key → Bool) (f : Nat) (caps : Array Value) (ks : List Key) (A : Option Addr) (c : Nat) (next : Int) (w : World) (hr : kKey.C w A ks.length ks) (hc : ks.length ≤ c) (hp : Pays f caps p w) :
    Calls Try.prog 46 #[.agg #[.slice A ks.length c, .int .u64 next], .func (.func f) #[] caps] w fun e w' => e = .returned (.tuple #[.agg (oneF p ks next).arr, .bool (!decide (oneF p ks next = zKey))]) ∧ Below w.heap.size w w' := by
  have hu107 := Try.underlying107
  have hu69 := Try.underlying69
  have hu55 := Try.underlying55
  have hz107 := zero107
  have hR := Aside0.mk hr
  have hP := Aside0.mk hp
  have hBel3 : Aside0 (Below w.heap.size w (((w.alloc (.cells #[.slice A ks.length c, .int .u64 next] 69)).alloc (.cells zKey.arr 107)).alloc (.cells zKey.arr 107))) := ⟨by repeat (first | exact Below.refl _ _ | apply below_alloc)⟩
  have hb4 : Aside0 ((((w.alloc (.cells #[.slice A ks.length c, .int .u64 next] 69)).alloc (.cells zKey.arr 107)).alloc (.cells zKey.arr 107)).heap[w.heap.size + 1]? = some (.cells zKey.arr 107 (0, 0))) := ⟨blk_alloc (by rw [← alloc_size]; exact blk_new _ _) _⟩
  have hb6 : Aside0 ((((w.alloc (.cells #[.slice A ks.length c, .int .u64 next] 69)).alloc (.cells zKey.arr 107)).alloc (.cells zKey.arr 107)).heap[w.heap.size + 1 + 1]? = some (.cells zKey.arr 107 (0, 0))) := ⟨by rw [← alloc_size w (.cells #[.slice A ks.length c, .int .u64 next] 69), ← alloc_size]; exact blk_new _ _⟩
  have hcall := check_any ks A c next (((w.alloc (.cells #[.slice A ks.length c, .int .u64 next] 69)).alloc (.cells zKey.arr 107)).alloc (.cells zKey.arr 107)) (Kd.C_below hr hBel3.out) hc
  have hs3 : Aside0 (w.heap.size + 1 + 1 < (((w.alloc (.cells #[.slice A ks.length c, .int .u64 next] 69)).alloc (.cells zKey.arr 107)).alloc (.cells zKey.arr 107)).heap.size) := ⟨by simp⟩
  have hs3' : Aside0 (w.heap.size < (((w.alloc (.cells #[.slice A ks.length c, .int .u64 next] 69)).alloc (.cells zKey.arr 107)).alloc (.cells zKey.arr 107)).heap.size) := ⟨by simp; omega⟩
  clear hr hp
  cases h1 : checkK ks next
  · have e1 : errK ks next = 50 := by unfold errK; rw [h1]; rfl
    have e2 : oneF p ks next = zKey := by unfold oneF; rw [h1]; rfl
    rw [e1] at hcall
    rw [e2]
    clear e1 e2
    go_enter Try.func46, Try.ntmps46
    go_wp2_with (first | (go_at_call 31; refine hcall.mono ?_; rintro e w1 ⟨rfl, hb⟩))
    have B4 := blk_below hb4.out hb
    have B6 := blk_below hb6.out hb
    have BW := below_step hBel3.out hb
    have hsz : w.heap.size + 1 + 1 < w1.heap.size := by have := hs3.out; have := hb.size; omega
    refine wp_region_held_drew (S := fun w' => w'.heap[w.heap.size + 1 + 1]? = some (.cells zKey.arr 107 (0, 0))) (by kernel_rfl) B6 (fun hHeld => ?_)
    refine wpAnyH_take (i := 0) (v := _) rfl (by kernel_rfl) (by kernel_rfl) (by kernel_rfl) (fun _ _ _ h => h) (yields_key (by rfl) _ rfl _ rfl zKey (fun w hS => at_var hS)) hHeld ?_
    try simp only [Act.put, List.setIfInBounds_toArray, List.set_cons_zero, List.set_cons_succ, List.getElem_toArray, List.getElem_cons_succ, List.getElem_cons_zero]
    refine wpAnyH_take (i := 1) (v := _) rfl (by kernel_rfl) (by kernel_rfl) (by kernel_rfl) (fun _ _ _ h => h) (yields_key (by rfl) _ rfl _ rfl zKey (fun w hS => at_var hS)) hHeld ?_
    try simp only [Act.put, List.setIfInBounds_toArray, List.set_cons_zero, List.set_cons_succ, List.getElem_toArray, List.getElem_cons_succ, List.getElem_cons_zero]
    refine wpAnyH_take (i := 2) (v := .agg zKey.arr) rfl (by kernel_rfl) (by kernel_rfl) (by kernel_rfl) (fun _ _ _ h => h) (Or.inl ⟨by rfl, fun w hS => exec_build0 107 rfl _ (build107_0 w)⟩) hHeld ?_
    try simp only [Act.put, List.setIfInBounds_toArray, List.set_cons_zero, List.set_cons_succ, List.getElem_toArray, List.getElem_cons_succ, List.getElem_cons_zero]
    refine wpAnyH_take (i := 3) (v := .bool (!decide (zKey = zKey))) rfl (by kernel_rfl) (by kernel_rfl) (by kernel_rfl) (fun _ _ _ h => h) (Or.inl ⟨by rfl, fun w hS => exec_neqKey _ _ _ rfl zKey zKey rfl rfl⟩) hHeld ?_
    try simp only [Act.put, List.setIfInBounds_toArray, List.set_cons_zero, List.set_cons_succ, List.getElem_toArray, List.getElem_cons_succ, List.getElem_cons_zero]
    refine wpAnyH_ready (rs := [4]) (by kernel_rfl) (by simp) ?_
    refine AllReadyH.cons rfl (fun K hK => ?_) AllReadyH.nil
    rw [if_pos (by rfl)]
    refine wp_store_key _ _ rfl _ zKey zKey (blk_drew' B4) rfl rfl (fun w5 hB5 hg5 hz5 => ?_)
    refine hK.out _ _ (blk_grown (blk_drew' B6) hg5 (by simp)) (fun hHeld5 => ?_)
    clear hK
    try simp only [Act.put, List.setIfInBounds_toArray, List.set_cons_zero, List.set_cons_succ, List.getElem_toArray, List.getElem_cons_succ, List.getElem_cons_zero]
    refine wpAnyH_take (i := 5) (v := .bool (!decide (zKey = zKey))) rfl (by kernel_rfl) (by kernel_rfl) (by kernel_rfl) (fun _ _ _ h => h) (Or.inl ⟨by rfl, fun w hS => by unfold execOp; rfl⟩) hHeld5 ?_
    try simp only [Act.put, List.setIfInBounds_toArray, List.set_cons_zero, List.set_cons_succ, List.getElem_toArray, List.getElem_cons_succ, List.getElem_cons_zero]
    refine wpAnyH_done (by kernel_rfl) ?_ _
    go_wp2
    exact bodyPost_ret (results_list (rs := [.cell 4 107, .tmp 5]) rfl (by simp) (.cell _ 107 _ _ _ rfl hB5 Try.underlying107 rfl (by rw [info107, Key.arr_size]) (.tmp .nil))) rfl ⟨rfl, pw_below_grown (below_drew1 BW) _ (show w.heap.size ≤ w1.heap.size by omega) hg5 (fun k hk => by injection hk with hk; omega)⟩
  · have e1 : errK ks next = 0 := by unfold errK; rw [h1]; rfl
    rw [e1] at hcall
    clear e1
    rcases idx_range p ks with hi | ⟨i, hi, hil⟩
    · have e2 : oneF p ks next = zKey := by unfold oneF; rw [h1, hi]; rfl
      have ck2 := fun w' (hb : Below w.heap.size w w') => index_any p f caps ks A c w' (Kd.C_below hR.out hb) hc (hP.out.below hb)
      rw [e2]
      rw [hi] at ck2
      clear e2
      go_enter Try.func46, Try.ntmps46
      go_wp2_with (first | (go_at_call 31; refine hcall.mono ?_; rintro e w1 ⟨rfl, hb⟩; obtain ⟨hbc, hbf⟩ := bcell hb; have hs4 := hs3'.out) | (go_at_call 49; refine (ck2 _ (below_step hBel3.out hb)).mono ?_; rintro e w2 ⟨rfl, hb2⟩))
      have B4 := blk_below (blk_below hb4.out hb) hb2
      have B6 := blk_below (blk_below hb6.out hb) hb2
      have BW := below_step (below_step hBel3.out hb) hb2
      have hsz : w.heap.size + 1 + 1 < w2.heap.size := by have := hs3.out; have := hb.size; have := hb2.size; omega
      refine wp_region_held_drew (S := fun w' => w'.heap[w.heap.size + 1 + 1]? = some (.cells zKey.arr 107 (0, 0))) (by kernel_rfl) B6 (fun hHeld => ?_)
      refine wpAnyH_take (i := 0) (v := _) rfl (by kernel_rfl) (by kernel_rfl) (by kernel_rfl) (fun _ _ _ h => h) (yields_key (by rfl) _ rfl _ rfl zKey (fun w hS => at_var hS)) hHeld ?_
      try simp only [Act.put, List.setIfInBounds_toArray, List.set_cons_zero, List.set_cons_succ, List.getElem_toArray, List.getElem_cons_succ, List.getElem_cons_zero]
      refine wpAnyH_take (i := 1) (v := _) rfl (by kernel_rfl) (by kernel_rfl) (by kernel_rfl) (fun _ _ _ h => h) (yields_key (by rfl) _ rfl _ rfl zKey (fun w hS => at_var hS)) hHeld ?_
      try simp only [Act.put, List.setIfInBounds_toArray, List.set_cons_zero, List.set_cons_succ, List.getElem_toArray, List.getElem_cons_succ, List.getElem_cons_zero]
      refine wpAnyH_take (i := 2) (v := .agg zKey.arr) rfl (by kernel_rfl) (by kernel_rfl) (by kernel_rfl) (fun _ _ _ h => h) (Or.inl ⟨by rfl, fun w hS => exec_build0 107 rfl _ (build107_0 w)⟩) hHeld ?_
      try simp only [Act.put, List.setIfInBounds_toArray, List.set_cons_zero, List.set_cons_succ, List.getElem_toArray, List.getElem_cons_succ, List.getElem_cons_zero]
      refine wpAnyH_take (i := 3) (v := .bool (!decide (zKey = zKey))) rfl (by kernel_rfl) (by kernel_rfl) (by kernel_rfl) (fun _ _ _ h => h) (Or.inl ⟨by rfl, fun w hS => exec_neqKey _ _ _ rfl zKey zKey rfl rfl⟩) hHeld ?_
      try simp only [Act.put, List.setIfInBounds_toArray, List.set_cons_zero, List.set_cons_succ, List.getElem_toArray, List.getElem_cons_succ, List.getElem_cons_zero]
      refine wpAnyH_ready (rs := [4]) (by kernel_rfl) (by simp) ?_
      refine AllReadyH.cons rfl (fun K hK => ?_) AllReadyH.nil
      rw [if_pos (by rfl)]
      refine wp_store_key _ _ rfl _ zKey zKey (blk_drew' B4) rfl rfl (fun w5 hB5 hg5 hz5 => ?_)
      refine hK.out _ _ (blk_grown (blk_drew' B6) hg5 (by simp)) (fun hHeld5 => ?_)
      clear hK
      try simp only [Act.put, List.setIfInBounds_toArray, List.set_cons_zero, List.set_cons_succ, List.getElem_toArray, List.getElem_cons_succ, List.getElem_cons_zero]
      refine wpAnyH_take (i := 5) (v := .bool (!decide (zKey = zKey))) rfl (by kernel_rfl) (by kernel_rfl) (by kernel_rfl) (fun _ _ _ h => h) (Or.inl ⟨by rfl, fun w hS => by unfold execOp; rfl⟩) hHeld5 ?_
      try simp only [Act.put, List.setIfInBounds_toArray, List.set_cons_zero, List.set_cons_succ, List.getElem_toArray, List.getElem_cons_succ, List.getElem_cons_zero]
      refine wpAnyH_done (by kernel_rfl) ?_ _
      go_wp2
      exact bodyPost_ret (results_list (rs := [.cell 4 107, .tmp 5]) rfl (by simp) (.cell _ 107 _ _ _ rfl hB5 Try.underlying107 rfl (by rw [info107, Key.arr_size]) (.tmp .nil))) rfl ⟨rfl, pw_below_grown (below_drew1 BW) _ (show w.heap.size ≤ w2.heap.size by omega) hg5 (fun k hk => by injection hk with hk; omega)⟩
    · have e2 : oneF p ks next = rdK ks (i : Int) := by unfold oneF; rw [h1, hi]; simp
      have ck2 := fun w' (hb : Below w.heap.size w w') => index_any p f caps ks A c w' (Kd.C_below hR.out hb) hc (hP.out.below hb)
      rw [e2]
      rw [hi] at ck2
      clear e2
      have j1 : (i : Int) < (ks.length : Int) := by omega
      obtain ⟨ad, rfl, ym, y0, y33⟩ := at_Key hR.out (i : Int) (by omega) (by omega)
      rw [show (i : Int).toNat = i from rfl] at y0 y33 ym
      generalize rdK ks (i : Int) = ky at *
      clear y0 y33
      go_enter Try.func46, Try.ntmps46
      go_wp2_with (first | (go_at_call 31; refine hcall.mono ?_; rintro e w1 ⟨rfl, hb⟩; obtain ⟨hbc, hbf⟩ := bcell hb; have hs4 := hs3'.out) | (go_at_call 49; refine (ck2 _ (below_step hBel3.out hb)).mono ?_; rintro e w2 ⟨rfl, hb2⟩; obtain ⟨hbc2, hbf2⟩ := bcell hb2; have hs5 : w.heap.size < w1.heap.size := (by have := hs3'.out; have := hb.size; omega); have ym2 := ym.below (below_step (below_step hBel3.out hb) hb2); have B6 := blk_below (blk_below hb6.out hb) hb2) | refine load_key rfl _ rfl _ rfl _ ym2 ?_ | (refine store_key rfl _ _ rfl _ _ ky B6 rfl rfl ?_; intro w3 B6' hg3 hz3))
      have B4 := blk_grown (blk_below (blk_below hb4.out hb) hb2) hg3 (by simp)
      have hsz : w.heap.size + 1 + 1 < w2.heap.size := by have := hs3.out; have := hb.size; have := hb2.size; omega
      have BW := pw_below_grown (below_step (below_step hBel3.out hb) hb2) _ (by omega) hg3 (fun k hk => by injection hk with hk; omega)
      replace B6 := B6'
      have hsz3 : w.heap.size + 1 + 1 < w3.heap.size := by omega
      refine wp_region_held_drew (S := fun w' => w'.heap[w.heap.size + 1 + 1]? = some (.cells ky.arr 107 (0, 0))) (by kernel_rfl) B6 (fun hHeld => ?_)
      refine wpAnyH_take (i := 0) (v := _) rfl (by kernel_rfl) (by kernel_rfl) (by kernel_rfl) (fun _ _ _ h => h) (yields_key (by rfl) _ rfl _ rfl ky (fun w hS => at_var hS)) hHeld ?_
      try simp only [Act.put, List.setIfInBounds_toArray, List.set_cons_zero, List.set_cons_succ, List.getElem_toArray, List.getElem_cons_succ, List.getElem_cons_zero]
      refine wpAnyH_take (i := 1) (v := _) rfl (by kernel_rfl) (by kernel_rfl) (by kernel_rfl) (fun _ _ _ h => h) (yields_key (by rfl) _ rfl _ rfl ky (fun w hS => at_var hS)) hHeld ?_
      try simp only [Act.put, List.setIfInBounds_toArray, List.set_cons_zero, List.set_cons_succ, List.getElem_toArray, List.getElem_cons_succ, List.getElem_cons_zero]
      refine wpAnyH_take (i := 2) (v := .agg zKey.arr) rfl (by kernel_rfl) (by kernel_rfl) (by kernel_rfl) (fun _ _ _ h => h) (Or.inl ⟨by rfl, fun w hS => exec_build0 107 rfl _ (build107_0 w)⟩) hHeld ?_
      try simp only [Act.put, List.setIfInBounds_toArray, List.set_cons_zero, List.set_cons_succ, List.getElem_toArray, List.getElem_cons_succ, List.getElem_cons_zero]
      refine wpAnyH_take (i := 3) (v := .bool (!decide (ky = zKey))) rfl (by kernel_rfl) (by kernel_rfl) (by kernel_rfl) (fun _ _ _ h => h) (Or.inl ⟨by rfl, fun w hS => exec_neqKey _ _ _ rfl ky zKey rfl rfl⟩) hHeld ?_
      try simp only [Act.put, List.setIfInBounds_toArray, List.set_cons_zero, List.set_cons_succ, List.getElem_toArray, List.getElem_cons_succ, List.getElem_cons_zero]
      refine wpAnyH_ready (rs := [4]) (by kernel_rfl) (by simp) ?_
      refine AllReadyH.cons rfl (fun K hK => ?_) AllReadyH.nil
      rw [if_pos (by rfl)]
      refine wp_store_key _ _ rfl _ zKey ky (blk_drew' B4) rfl rfl (fun w5 hB5 hg5 hz5 => ?_)
      refine hK.out _ _ (blk_grown (blk_drew' B6) hg5 (by simp)) (fun hHeld5 => ?_)
      clear hK
      try simp only [Act.put, List.setIfInBounds_toArray, List.set_cons_zero, List.set_cons_succ, List.getElem_toArray, List.getElem_cons_succ, List.getElem_cons_zero]
      refine wpAnyH_take (i := 5) (v := .bool (!decide (ky = zKey))) rfl (by kernel_rfl) (by kernel_rfl) (by kernel_rfl) (fun _ _ _ h => h) (Or.inl ⟨by rfl, fun w hS => by unfold execOp; rfl⟩) hHeld5 ?_
      try simp only [Act.put, List.setIfInBounds_toArray, List.set_cons_zero, List.set_cons_succ, List.getElem_toArray, List.getElem_cons_succ, List.getElem_cons_zero]
      refine wpAnyH_done (by kernel_rfl) ?_ _
      go_wp2
      exact bodyPost_ret (results_list (rs := [.cell 4 107, .tmp 5]) rfl (by simp) (.cell _ 107 _ _ _ rfl hB5 Try.underlying107 rfl (by rw [info107, Key.arr_size]) (.tmp .nil))) rfl ⟨rfl, pw_below_grown (below_drew1 BW) _ (show w.heap.size ≤ w3.heap.size by omega) hg5 (fun k hk => by injection hk with hk; omega)⟩

def findF (kid : Int) (ks : List Key) (next : Int) : Key := oneF (fun k => k.kid == kid) ks next
set_option maxHeartbeats 4000000 in
set_option maxRecDepth 100000 in
theorem find_any (kid : Int) (ks : List Key) (A : Option Addr) (c : Nat) (next : Int) (w : World) (hr : kKey.C w A ks.length ks) (hc : ks.length ≤ c) :
    Calls Try.prog 30 #[.agg #[.slice A ks.length c, .int .u64 next], .int .u64 kid] w fun e w' => e = .returned (.tuple #[.agg (findF kid ks next).arr, .bool (!decide (findF kid ks next = zKey))]) ∧ Below w.heap.size w w' := by
  have hu107 := Try.underlying107
  have hu69 := Try.underlying69
  have hz107 := zero107
  have hmf := hmf
  have hBel3 : Aside0 (Below w.heap.size w (((w.alloc (.cells #[.slice A ks.length c, .int .u64 next] 69)).alloc (.cells #[.int .u64 kid] 67)).alloc (.cells zKey.arr 107))) := ⟨by repeat (first | exact Below.refl _ _ | apply below_alloc)⟩
  have hb4 : Aside0 ((((w.alloc (.cells #[.slice A ks.length c, .int .u64 next] 69)).alloc (.cells #[.int .u64 kid] 67)).alloc (.cells zKey.arr 107)).heap[w.heap.size + 1 + 1]? = some (.cells zKey.arr 107 (0, 0))) := ⟨by rw [← alloc_size w (.cells #[.slice A ks.length c, .int .u64 next] 69), ← alloc_size (w.alloc (.cells #[.slice A ks.length c, .int .u64 next] 69)) (.cells #[.int .u64 kid] 67)]; exact blk_new _ _⟩
  have hcall := one_any (fun k => k.kid == kid) 48 #[.pointer (some ⟨w.heap.size + 1, 0, none⟩)] ks A c next (((w.alloc (.cells #[.slice A ks.length c, .int .u64 next] 69)).alloc (.cells #[.int .u64 kid] 67)).alloc (.cells zKey.arr 107)) (Kd.C_below hr hBel3.out) hc (pays_find (a := ⟨w.heap.size + 1, 0, none⟩) (by rw [blk_cell (blk_alloc (by rw [← alloc_size]; exact blk_new _ _) _)]; rfl))
  clear hr
  unfold findF
  generalize oneF (fun k => k.kid == kid) ks next = ky at *
  have hs3 : Aside0 (w.heap.size + 1 + 1 < (((w.alloc (.cells #[.slice A ks.length c, .int .u64 next] 69)).alloc (.cells #[.int .u64 kid] 67)).alloc (.cells zKey.arr 107)).heap.size) := ⟨blk_lt hb4.out⟩
  go_enter Try.func30, Try.ntmps30
  go_wp2_with (first | (go_at_call 46; refine hcall.mono ?_; rintro e w1 ⟨rfl, hb⟩; have B4 := blk_below hb4.out hb) | (refine store_key rfl _ _ rfl _ _ ky B4 rfl rfl ?_; intro w3 B6 hg3 hz3))
  have hsz : w.heap.size ≤ w1.heap.size := by have := hs3.out; have := hb.size; omega
  exact bodyPost_ret (results_list (rs := [.cell 4 107, .tmp 5]) rfl (by simp) (.cell _ 107 _ _ _ rfl B6 Try.underlying107 rfl (by rw [info107, Key.arr_size]) (.tmp .nil))) rfl ⟨rfl, pw_below_grown (below_step hBel3.out hb) _ hsz hg3 (fun k hk => by injection hk with hk; omega)⟩


def curF  (ks : List Key) (next : Int) : Key := oneF (fun k => k.til == 0) ks next
set_option maxHeartbeats 4000000 in
set_option maxRecDepth 100000 in
theorem cur_any  (ks : List Key) (A : Option Addr) (c : Nat) (next : Int) (w : World) (hr : kKey.C w A ks.length ks) (hc : ks.length ≤ c) :
    Calls Try.prog 29 #[.agg #[.slice A ks.length c, .int .u64 next]] w fun e w' => e = .returned (.tuple #[.agg (curF  ks next).arr, .bool (!decide (curF  ks next = zKey))]) ∧ Below w.heap.size w w' := by
  have hu107 := Try.underlying107
  have hu69 := Try.underlying69
  have hz107 := zero107
  have hmf := hmf
  have hBel3 : Aside0 (Below w.heap.size w ((w.alloc (.cells #[.slice A ks.length c, .int .u64 next] 69)).alloc (.cells zKey.arr 107))) := ⟨by repeat (first | exact Below.refl _ _ | apply below_alloc)⟩
  have hb4 : Aside0 (((w.alloc (.cells #[.slice A ks.length c, .int .u64 next] 69)).alloc (.cells zKey.arr 107)).heap[w.heap.size + 1]? = some (.cells zKey.arr 107 (0, 0))) := ⟨by rw [← alloc_size w (.cells #[.slice A ks.length c, .int .u64 next] 69)]; exact blk_new _ _⟩
  have hcall := one_any (fun k => k.til == 0) 47 #[] ks A c next ((w.alloc (.cells #[.slice A ks.length c, .int .u64 next] 69)).alloc (.cells zKey.arr 107)) (Kd.C_below hr hBel3.out) hc (pays_cur _)
  clear hr
  unfold curF
  generalize oneF (fun k => k.til == 0) ks next = ky at *
  have hs3 : Aside0 (w.heap.size + 1 < ((w.alloc (.cells #[.slice A ks.length c, .int .u64 next] 69)).alloc (.cells zKey.arr 107)).heap.size) := ⟨blk_lt hb4.out⟩
  go_enter Try.func29, Try.ntmps29
  go_wp2_with (first | (go_at_call 46; refine hcall.mono ?_; rintro e w1 ⟨rfl, hb⟩; have B4 := blk_below hb4.out hb) | (refine store_key rfl _ _ rfl _ _ ky B4 rfl rfl ?_; intro w3 B6 hg3 hz3))
  have hsz : w.heap.size ≤ w1.heap.size := by have := hs3.out; have := hb.size; omega
  exact bodyPost_ret (results_list (rs := [.cell 2 107, .tmp 3]) rfl (by simp) (.cell _ 107 _ _ _ rfl B6 Try.underlying107 rfl (by rw [info107, Key.arr_size]) (.tmp .nil))) rfl ⟨rfl, pw_below_grown (below_step hBel3.out hb) _ hsz hg3 (fun k hk => by injection hk with hk; omega)⟩

end Go.Proofs.Ytnechcibpmjblaa
