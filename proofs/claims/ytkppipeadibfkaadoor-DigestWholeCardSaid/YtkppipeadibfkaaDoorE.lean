/- Rows of bytes; a hash in memory; package digest's take. Conditions: the table is laid; what is handed in is read, and lies apart from the hash. -/
import Derived.Test.YtkppipeadibfkaaDoorS
namespace Go.Proofs.YtkppipeadibfkaaDoor
open Go.RowKit Go.Proofs.YtkppipeadibfkaaDoorW.PrintWords KB WG
set_option linter.unusedVariables false
set_option linter.unusedSimpArgs false
/-! ### Rows of bytes -/
def kBy : Kd By := kBlk (fun b => [bv b]) 1 (fun _ => rfl) (fun b u hu => by obtain rfl := List.mem_singleton.1 hu; rfl)
/-- Bytes that are read. -/
def Rb (w : World) (A : Option Addr) (n : Nat) (bs : List By) : Prop := bs.length = n ∧ n ≤ maxLen ∧ (0 < n → ∃ ad, A = some ad ∧ At w ad (bcs bs))
/-- A row of bytes of one's own. -/
def OwB (w : World) (base : Nat) (v : Value) (bs : List By) : Prop := kBy.R 5 w base (fun _ => True) v bs
theorem Rb.toC {w : World} {A : Option Addr} {n : Nat} {bs : List By} (h : Rb w A n bs) : kBy.C w A n bs := by
  obtain ⟨h1, h2, h3⟩ := h
  refine ⟨h1, h2, fun hn => ?_⟩
  obtain ⟨ad, e, hA⟩ := h3 hn
  refine ⟨ad, e, fun k x hx => ⟨[bv x], rfl, rfl, fun j v hv => ?_⟩⟩
  have hj : j = 0 := by have := (List.getElem?_eq_some_iff.1 hv).1; simpa using this
  subst hj
  obtain rfl : bv x = v := by simpa using hv
  have := hA k (bv x) (by rw [bcs, List.getElem?_map, hx]; rfl)
  simpa [kBy, kBlk, Addr.add_add] using this
theorem Rb.ofC {w : World} {A : Option Addr} {n : Nat} {bs : List By} (h : kBy.C w A n bs) : Rb w A n bs := by
  obtain ⟨h1, h2, h3⟩ := h
  refine ⟨h1, h2, fun hn => ?_⟩
  obtain ⟨ad, e, hA⟩ := h3 hn
  refine ⟨ad, e, fun j v hv => ?_⟩
  rw [bcs, List.getElem?_map] at hv
  obtain ⟨x, hx, rfl⟩ := Option.map_eq_some_iff.1 hv
  obtain ⟨c, hl, hc, hr⟩ := hA j x hx
  have hc : c = [bv x] := hc
  subst hc
  have := hr 0 (bv x) rfl
  simpa [kBy, kBlk, Addr.add_add] using this
theorem Rb.zero (w : World) (A : Option Addr) : Rb w A 0 [] := ⟨rfl, by simp [maxLen], fun h => absurd h (by decide)⟩
theorem Rb.mk' {w : World} {ad : Addr} {n : Nat} {bs : List By} (h : At w ad (bcs bs)) (hn : bs.length = n) (hm : n ≤ maxLen) : Rb w (some ad) n bs := ⟨hn, hm, fun _ => ⟨ad, rfl, h⟩⟩
theorem Rb.ex {w : World} {A : Option Addr} {n : Nat} {bs : List By} (h : Rb w A n bs) (hn : 0 < n) : ∃ ad, A = some ad ∧ At w ad (bcs bs) := h.2.2 hn
theorem Rb.at {w : World} {ad : Addr} {n : Nat} {bs : List By} (h : Rb w (some ad) n bs) : At w ad (bcs bs) := by
  rcases Nat.eq_zero_or_pos n with h0 | h0
  · have := h.1
    obtain rfl : bs = [] := List.eq_nil_of_length_eq_zero (by omega)
    intro j v hv
    simp [bcs] at hv
  · obtain ⟨ad', e, hA⟩ := h.2.2 h0
    injection e with e
    subst e
    exact hA
theorem Rb.below {w w1 : World} {A : Option Addr} {n : Nat} {bs : List By} (h : Rb w A n bs) (hb : Below w.heap.size w w1) : Rb w1 A n bs := ⟨h.1, h.2.1, fun hn => by obtain ⟨ad, e, hA⟩ := h.2.2 hn; exact ⟨ad, e, hA.below hb⟩⟩
theorem at_grownR {w w1 : World} {p : Addr} {cs : List Value} {r : Option Nat} (h : At w p cs) (hg : w.grownBy w1 r) (hne : some p.block ≠ r) : At w1 p cs := fun j v hv => by
  have h1 := h j v hv
  have e : (p.add j).block = p.block := by unfold Addr.add; split <;> rfl
  rw [hg.cell_far (p.add j) (World.block_lt_of_cell? w _ h1) (by rw [e]; exact hne)]
  exact h1
theorem Rb.grown {w w1 : World} {A : Option Addr} {n : Nat} {bs : List By} {r : Option Nat} (h : Rb w A n bs) (hg : w.grownBy w1 r) (hne : 0 < n → ∀ ad, A = some ad → some ad.block ≠ r) : Rb w1 A n bs :=
  ⟨h.1, h.2.1, fun hn => by obtain ⟨ad, e, hA⟩ := h.2.2 hn; exact ⟨ad, e, at_grownR hA hg (hne hn ad e)⟩⟩
theorem Rb.lt {w : World} {A : Option Addr} {n : Nat} {bs : List By} (h : Rb w A n bs) (hn : 0 < n) (ad : Addr) (hA : A = some ad) : ad.block < w.heap.size := by
  obtain ⟨ad', e, hAt⟩ := h.2.2 hn
  rw [hA] at e
  injection e with e
  subst e
  obtain ⟨x, hx⟩ : ∃ x, bs[0]? = some x := ⟨_, List.getElem?_eq_getElem (by have := h.1; omega)⟩
  have h1 := hAt 0 (bv x) (by rw [bcs, List.getElem?_map, hx]; rfl)
  have := World.block_lt_of_cell? w _ h1
  rwa [show (ad.add 0).block = ad.block by unfold Addr.add; split <;> rfl] at this
theorem Rb.take {w : World} {A : Option Addr} {n k : Nat} {bs : List By} (h : Rb w A n bs) (hk : k ≤ n) : Rb w A k (bs.take k) := by
  obtain ⟨h1, h2, h3⟩ := h
  refine ⟨by rw [List.length_take]; omega, by omega, fun h0 => ?_⟩
  obtain ⟨ad, e, hA⟩ := h3 (by omega)
  refine ⟨ad, e, fun j v hv => hA j v ?_⟩
  rw [bcs, List.map_take, List.getElem?_take] at hv
  split at hv
  · exact hv
  · cases hv
/-- The address of what is left behind a cut. -/
def cutA (A : Option Addr) (k c : Nat) : Option Addr := if c = k then A else A.map (·.add k)
theorem Rb.drop {w : World} {A : Option Addr} {n k c : Nat} {bs : List By} (h : Rb w A n bs) (hk : k ≤ n) (hc : n ≤ c) : Rb w (cutA A k c) (n - k) (bs.drop k) := by
  obtain ⟨h1, h2, h3⟩ := h
  refine ⟨by rw [List.length_drop]; omega, by omega, fun h0 => ?_⟩
  obtain ⟨ad, e, hA⟩ := h3 (by omega)
  refine ⟨ad.add k, by rw [cutA, if_neg (by omega), e]; rfl, fun j v hv => ?_⟩
  rw [Addr.add_add]
  refine hA (k + j) v ?_
  rw [bcs, List.map_drop, List.getElem?_drop] at hv
  exact hv
theorem cutA_block {A : Option Addr} {k c : Nat} {ad : Addr} (h : cutA A k c = some ad) : ∃ ad', A = some ad' ∧ ad'.block = ad.block := by
  unfold cutA at h
  split at h
  · exact ⟨ad, h, rfl⟩
  · obtain ⟨p, hp, e⟩ := Option.map_eq_some_iff.1 h
    refine ⟨p, hp, ?_⟩
    rw [← e]
    unfold Addr.add; split <;> rfl
theorem owB_nil (w : World) (base : Nat) : OwB w base (.slice none 0 0) [] := ⟨fun _ _ => trivial, [], ⟨rfl, .inl ⟨rfl, rfl⟩⟩, Reps.none _ _⟩
theorem OwB.rb {w : World} {base : Nat} {A : Option Addr} {n c : Nat} {bs : List By} (h : OwB w base (.slice A n c) bs) : Rb w A n bs ∧ n ≤ c := by
  obtain ⟨A', c', e⟩ := Kd.R_slice h
  have h2 := Kd.R_reads' h
  injection e with e1 e2 e3
  subst e2
  exact ⟨Rb.ofC h2.2.2, h2.2.1⟩
theorem OwB.slice {w : World} {base : Nat} {v : Value} {bs : List By} (h : OwB w base v bs) : ∃ A c, v = .slice A bs.length c := Kd.R_slice h
theorem OwB.below {w w1 : World} {base : Nat} {v : Value} {bs : List By} (h : OwB w base v bs) (hb : Below w.heap.size w w1) : OwB w1 base v bs := Kd.R_below h hb
theorem OwB.low {w : World} {b b' : Nat} {v : Value} {bs : List By} (h : OwB w b v bs) (hb : b' ≤ b) : OwB w b' v bs := by
  obtain ⟨h0, inner, ⟨h1, h2⟩, hr⟩ := h
  refine ⟨h0, inner, ⟨h1, ?_⟩, hr⟩
  rcases h2 with h2 | ⟨g, cap, cur, hv, hg, hrest⟩
  · exact .inl h2
  · exact .inr ⟨g, cap, cur, hv, Nat.le_trans hb hg, hrest⟩
theorem OwB.bound {w : World} {base : Nat} {v : Value} {bs : List By} (h : OwB w base v bs) {k : Nat} (hk : v.ownBlock = some k) : base ≤ k ∧ k < w.heap.size ∧ ∃ cells, w.heap[k]? = some (.cells cells 5 (0, 0)) := by
  obtain ⟨_, h2, h3, q, hq, cells, hc⟩ := (Kd.R_bound h).1 k hk
  obtain rfl : q = 5 := by simpa [kBy, kBlk] using hq
  exact ⟨h2, h3, cells, hc⟩
theorem OwB.far {w w1 : World} {base : Nat} {v : Value} {bs : List By} (h : OwB w base v bs) {r : Option Nat} (hg : w.grownBy w1 r) (hr : ∀ k, v.ownBlock = some k → some k ≠ r) : OwB w1 base v bs :=
  Kd.R_mono (Kd.R_grown (ok := fun k => True ∧ some k ≠ r) ⟨fun k hk => ⟨trivial, hr k hk⟩, by
    obtain ⟨_, inner, ho, hrr⟩ := h
    exact ⟨inner, ho, hrr.imp_ (fun _ _ hp => hp)⟩⟩ hg (fun k hk => hk.2)) (fun _ _ => trivial)
theorem OwB.grown {w w1 : World} {base : Nat} {v : Value} {bs : List By} {g t : Nat} {cells : Array Value} (h : OwB w base v bs) (hb : w.heap[g]? = some (.cells cells t (0, 0))) (ht : 5 ≠ t) (hg : w.grownBy w1 (some g)) : OwB w1 base v bs :=
  h.far hg (fun k hk e => by
    obtain ⟨_, _, c, hc⟩ := h.bound hk
    injection e with e
    subst e
    rw [hb] at hc
    injection hc with hc
    injection hc with _ hc
    exact ht hc.symm)
theorem OwB.apart {w : World} {base : Nat} {v : Value} {bs : List By} (h : OwB w base v bs) {g : Nat} (hg : w.heap.size ≤ g) : some g ≠ v.ownBlock := fun e => by have := (h.bound e.symm).2.1; omega
/-- A new row. -/
theorem OwB.of_block {w : World} {base g n c : Nat} {bs : List By} {sp : List Value} (hh : w.heap[g]? = some (.cells (bcs bs ++ sp).toArray 5 (0, 0))) (hg : base ≤ g) (hn : n = bs.length) (hnc : n ≤ c) (hcm : c ≤ maxLen) (hl : (bcs bs ++ sp).length = c) : OwB w base (.slice (some ⟨g, 0, none⟩) n c) bs := by
  subst hn
  refine ⟨fun _ _ => trivial, bcs bs, ⟨by rw [bcs_len]; exact (Nat.mul_one _).symm, .inr ⟨g, c, _, rfl, hg, hh, hnc, hcm, by rw [List.size_toArray, hl]; exact (Nat.mul_one _).symm, ?_⟩⟩, by rw [bcs_len]; exact (Nat.mul_one _).symm, fun j k hk => ?_⟩
  · show (bcs bs ++ sp).take (bs.length * 1) = _
    rw [Nat.mul_one]
    exact List.take_left' (bcs_len bs)
  · show ((bcs bs).drop (j * 1)).take 1 = [bv k]
    rw [Nat.mul_one, bcs, ← List.map_drop, ← List.map_take]
    have hj := (List.getElem?_eq_some_iff.1 hk)
    obtain ⟨h1, h2⟩ := hj
    rw [List.drop_eq_getElem_cons h1, h2]
    rfl
theorem WG.Mm.grownB {w0 w w' : World} {H : List Blk} (M : Mm w0 w H) {v : Value} {bs : List By} (hO : OwB w w0.heap.size v bs) (hT : H.all (fun b => b.t != 5) = true) (hg : w.grownBy w' v.ownBlock) : Mm w0 w' H := by
  have hrow : ∀ k, v.ownBlock = some k → w0.heap.size ≤ k ∧ ∀ (i : Nat) (b : Blk), H[i]? = some b → some b.g ≠ v.ownBlock := fun k hk => by
    obtain ⟨h2, _, cells, hc⟩ := hO.bound hk
    refine ⟨h2, fun i b hb e => ?_⟩
    rw [hk] at e
    obtain rfl := Option.some.inj e
    have h1 := M.blk i b hb
    rw [hc] at h1
    injection h1 with h1
    injection h1 with _ h1
    have := List.all_eq_true.1 hT b (List.mem_of_getElem? hb)
    rw [← h1] at this
    simp at this
  refine ⟨M.bel.grown hg M.bel.size (fun k hk => (hrow k hk).1), fun i b hb => ?_, M.lo, M.nd⟩
  rw [hg.block _ (M.lt hb) (fun e => (hrow _ e.symm).2 i b hb e)]
  exact M.blk i b hb
theorem info5z : (Tryd.prog.info? 5).map (fun i => (i.zero, i.size, i.bytes)) = some (some (.int .u8 0), 1, 1) := by kernel_rfl
section
variable {a : Act} {w w0 : World} {n : Nat} {L : List (Nat × Value)} {H : List Blk} {op : Oper} {K : Act → World → Prop} {Q : Exit → Act → World → Prop} {ρ : Operand → Value}
/-- append to a row of one's own. -/
theorem ow_appB (F : Fr n a L) (M : Mm w0 w H) (hT : H.all (fun b => b.t != 5) = true) {d : Nat} (hd : op.dst = some d) (hlt : Nat.blt d n = true) (hgd : op.guard = none) (s x : Operand) (ho : op.op = .call { callee := .builtin .append, args := #[s, x], argTypes := #[23, 23] })
    (B : Option Addr) (q b : Nat) (xs ys : List By) (A : Option Addr) (m c : Nat) (hs : a.eval s = .slice B q b) (hx : a.eval x = .slice A m c) (HO : OwB w w0.heap.size (.slice B q b) xs) (HR : Rb w A m ys) (hl : xs.length + m ≤ 140737488355328)
    (h : ∀ a' A1 c1 w', Fr n a' ((d, .slice A1 (xs ++ ys).length c1) :: L) → Mm w0 w' H → OwB w' w0.heap.size (.slice A1 (xs ++ ys).length c1) (xs ++ ys) → w.grownBy w' (Value.slice B q b).ownBlock → ((Value.slice A1 (xs ++ ys).length c1).ownBlock = (Value.slice B q b).ownBlock ∨ ∃ k, (Value.slice A1 (xs ++ ys).length c1).ownBlock = some k ∧ w.heap.size ≤ k) → K a' w') : op.wp Tryd.prog a w K Q := by
  have hw : Region.wanted op (yielded (#[] : Array Oper) a.tmps) = true := wn hgd
  have key := Kd.R_append_rows_step (P := Tryd.prog) (o := op) (a := a) (ops := #[]) (Q := Q) (Kc := K) kBy (w0 := w) (W := w) w0.heap.size hw s x 23 5 (.int .u8 0) 1 ho Tryd.underlying23 info5z rfl (by decide) (by decide) _ xs ys A m c (fun _ => True) (fun _ => False) hs hx HO HR.toC (fun _ _ h => h) (fun _ h => h.elim) (fun _ _ => trivial) ((Below.refl _ w).mono M.bel.size) M.bel.size (by rw [Nat.mul_one]; exact hl) ?_
  · rwa [if_pos hw] at key
  · intro v1 w1 hO1 _ hg hat
    obtain ⟨A1, c1, rfl⟩ := Kd.R_slice hO1
    rw [hd]
    exact h _ A1 c1 w1 (F.put _ hlt) (M.grownB HO hT hg) hO1 hg hat
theorem el23 : Tryd.prog.elem 23 = 5 := by simp [Program.elem, Tryd.underlying23]
theorem un23 : Tryd.prog.underlying 23 = some (.slice (Tryd.prog.elem 23)) := by rw [el23]; exact Tryd.underlying23
/-- The beginning of a row of bytes. -/
theorem ex_cutto (x y : Operand) (ho : op.op = .slice 23 x none (some y) none) (A : Option Addr) (q c : Nat) (hx : ρ x = .slice A q c) (j : Int) (hy : ρ y = .int .i64 j) (m : Nat) (hm : j = (m : Int)) (hc : m ≤ c) :
    (execOp ρ op).run Tryd.prog w = .ok (.value (.slice A m c)) w := by
  subst hm
  obtain ⟨i0, hi, hzz⟩ := Option.map_eq_some_iff.1 info5z
  have ha : (A.map fun x => x.add 0) = A := by cases A <;> simp [Addr.add]
  have hr : (Instr.slice 23 (.slice A q c) none (some (.int .i64 (m : Int))) none).run Tryd.prog w = .ok (.slice A m c) w := by
    rw [run_slice_h w 23 A q c un23 .i64 (m : Int) (by omega) (by omega), el23]
    simp [sizeOf, typeInfo, hi, sliced, Result.andThen, ha]
  unfold execOp
  simp only [ho, hx, hy, Option.map_some, Option.map_none, Sem.run_bind, run_sliceAt_slice _ _ _ _ _ _ un23, hr, Result.andThen_ok, Sem.run_pure]
/-- The end of a row of bytes. -/
theorem ex_cutend (x y : Operand) (ho : op.op = .slice 23 x (some y) none none) (A : Option Addr) (q c : Nat) (hx : ρ x = .slice A q c) (j : Int) (hy : ρ y = .int .i64 j) (m : Nat) (hm : j = (m : Int)) (hc : m ≤ q) :
    (execOp ρ op).run Tryd.prog w = .ok (.value (.slice (cutA A m c) (q - m) (c - m))) w := by
  subst hm
  obtain ⟨i0, hi, hzz⟩ := Option.map_eq_some_iff.1 info5z
  simp only [Prod.mk.injEq] at hzz
  have hr : (Instr.slice 23 (.slice A q c) (some (.int .i64 (m : Int))) none none).run Tryd.prog w = .ok (.slice (cutA A m c) (q - m) (c - m)) w := by
    rw [run_slice_l w 23 A q c un23 .i64 (m : Int) (by omega) (by omega), el23]
    simp [sizeOf, typeInfo, hi, hzz.2.1, sliced, Result.andThen, cutA]
  unfold execOp
  simp only [ho, hx, hy, Option.map_some, Option.map_none, Sem.run_bind, run_sliceAt_slice _ _ _ _ _ _ un23, hr, Result.andThen_ok, Sem.run_pure]
theorem ex_min {P : Program} (x y : Operand) (T T' : TypeId) (ho : op.op = .call { callee := .builtin .min, args := #[x, y], argTypes := #[T, T'] }) (k : IntKind) (m n : Int) (hx : ρ x = .int k m) (hy : ρ y = .int k n) (r : Int) (hr : (if n < m then n else m) = r) : (execOp ρ op).run P w = .ok (.value (.int k r)) w := by
  subst hr
  unfold execOp
  simp only [ho, resolve, List.map_toArray, List.map_cons, List.map_nil, hx, hy, Sem.run_bind, Sem.run_pure, Result.andThen_ok, invoke, builtin, run_min_int2]
end
/-! ### A hash in memory -/
theorem hcs_8 {h : List Wd} {sl : Value} {m : Int} (hh : h.length = 8) : (hcs h sl m)[8]? = some sl := by unfold hcs; rw [List.getElem?_append_right (by rw [wcs_len]; omega), wcs_len, hh]; rfl
theorem hcs_9 {h : List Wd} {sl : Value} {m : Int} (hh : h.length = 8) : (hcs h sl m)[9]? = some (.int .u64 m) := by unfold hcs; rw [List.getElem?_append_right (by rw [wcs_len]; omega), wcs_len, hh]; rfl
theorem hcs_a8 {h : List Wd} {sl : Value} {m : Int} (hh : h.length = 8) : ((hcs h sl m).toArray)[8]? = some sl := by rw [List.getElem?_toArray]; exact hcs_8 hh
theorem hcs_a9 {h : List Wd} {sl : Value} {m : Int} (hh : h.length = 8) : ((hcs h sl m).toArray)[9]? = some (.int .u64 m) := by rw [List.getElem?_toArray]; exact hcs_9 hh
theorem hcs_put8 {h : List Wd} {sl sl' : Value} {m : Int} (hh : h.length = 8) : (hcs h sl m).take 8 ++ [sl'] ++ (hcs h sl m).drop (8 + [sl'].length) = hcs h sl' m := by
  have hw : (wcs h).length = 8 := by rw [wcs_len, hh]
  unfold hcs
  rw [List.take_left' hw, List.drop_append, List.drop_eq_nil_of_le (by simp; omega), hw]
  simp
theorem hcs_put9 {h : List Wd} {sl : Value} {m m' : Int} (hh : h.length = 8) : (hcs h sl m).take 9 ++ [.int .u64 m'] ++ (hcs h sl m).drop (9 + [Value.int .u64 m'].length) = hcs h sl m' := by
  have hw : (wcs h).length = 8 := by rw [wcs_len, hh]
  unfold hcs
  rw [List.take_append, List.take_of_length_le (by omega), List.drop_eq_nil_of_le (by simp; omega), hw]
  simp
theorem w64_add (x : Nm) (n : Nat) : IntKind.u64.wrap ((x.toNat : Int) + (n : Int)) = ((x + BitVec.ofNat 64 n).toNat : Int) := by
  rw [← Int.natCast_add, w64]; simp [BitVec.toNat_add]
/-- What may change when a hash takes bytes: its block, its row. -/
structure Ch (w u : World) (g : Nat) (R : Option Nat) : Prop where
  os : u.os = w.os
  tape : u.tape = w.tape
  output : u.output = w.output
  size : w.heap.size ≤ u.heap.size
  block : ∀ k, k < w.heap.size → k ≠ g → some k ≠ R → u.heap[k]? = w.heap[k]?
/-- .. and the row now is that one, or new. -/
def Cg (w u : World) (g : Nat) (R : Option Nat) (sl : Value) : Prop := Ch w u g R ∧ (sl.ownBlock = R ∨ ∃ k, sl.ownBlock = some k ∧ w.heap.size ≤ k)
theorem Cg.start (w : World) (g : Nat) (sl : Value) : Cg w w g sl.ownBlock sl := ⟨⟨rfl, rfl, rfl, Nat.le_refl _, fun _ _ _ _ => rfl⟩, .inl rfl⟩
theorem Cg.below {w u v : World} {g : Nat} {R : Option Nat} {sl : Value} (h : Cg w u g R sl) (hb : Below u.heap.size u v) : Cg w v g R sl :=
  ⟨⟨hb.os.trans h.1.os, hb.tape.trans h.1.tape, hb.output.trans h.1.output, Nat.le_trans h.1.size hb.size, fun k hk h1 h2 => (hb.block k (Nat.lt_of_lt_of_le hk h.1.size)).trans (h.1.block k hk h1 h2)⟩, h.2⟩
theorem Cg.box {w u v : World} {g : Nat} {R : Option Nat} {sl : Value} (h : Cg w u g R sl) (hg : u.grownBy v (some g)) : Cg w v g R sl :=
  ⟨⟨hg.os.trans h.1.os, hg.tape.trans h.1.tape, hg.output.trans h.1.output, Nat.le_trans h.1.size hg.size, fun k hk h1 h2 => (hg.block k (Nat.lt_of_lt_of_le hk h.1.size) (fun e => h1 (Option.some.inj e))).trans (h.1.block k hk h1 h2)⟩, h.2⟩
theorem Cg.row {w u v : World} {g : Nat} {R : Option Nat} {sl sl' : Value} (h : Cg w u g R sl) (hg : u.grownBy v sl.ownBlock) (hs : sl'.ownBlock = sl.ownBlock ∨ ∃ k, sl'.ownBlock = some k ∧ u.heap.size ≤ k) : Cg w v g R sl' := by
  refine ⟨⟨hg.os.trans h.1.os, hg.tape.trans h.1.tape, hg.output.trans h.1.output, Nat.le_trans h.1.size hg.size, fun k hk h1 h2 => (hg.block k (Nat.lt_of_lt_of_le hk h.1.size) (fun e => ?_)).trans (h.1.block k hk h1 h2)⟩, ?_⟩
  · rcases h.2 with e2 | ⟨j, e2, hj⟩
    · exact h2 (by rw [e, e2])
    · rw [e2] at e; have := Option.some.inj e; omega
  · rcases hs with e | ⟨k, e, hk⟩
    · rw [e]; exact h.2
    · exact .inr ⟨k, e, Nat.le_trans h.1.size hk⟩
/-- Bytes that are read and lie apart from a hash. -/
def RbA (w : World) (B : Option Addr) (n c : Nat) (b : List By) (g : Nat) (sl : Value) : Prop := Rb w B n b ∧ n ≤ c ∧ (0 < n → ∀ ad, B = some ad → ad.block ≠ g ∧ some ad.block ≠ sl.ownBlock)
theorem RbA.below {w u : World} {B : Option Addr} {n c : Nat} {b : List By} {g : Nat} {sl : Value} (h : RbA w B n c b g sl) (hb : Below w.heap.size w u) : RbA u B n c b g sl := ⟨h.1.below hb, h.2⟩
theorem RbA.box {w u : World} {B : Option Addr} {n c : Nat} {b : List By} {g : Nat} {sl : Value} (h : RbA w B n c b g sl) (hg : w.grownBy u (some g)) : RbA u B n c b g sl :=
  ⟨h.1.grown hg (fun hn ad e e2 => (h.2.2 hn ad e).1 (Option.some.inj e2)), h.2⟩
theorem RbA.row {w u : World} {B : Option Addr} {n c : Nat} {b : List By} {g : Nat} {sl sl' : Value} (h : RbA w B n c b g sl) (hg : w.grownBy u sl.ownBlock) (hs : sl'.ownBlock = sl.ownBlock ∨ ∃ k, sl'.ownBlock = some k ∧ w.heap.size ≤ k) : RbA u B n c b g sl' :=
  ⟨h.1.grown hg (fun hn ad e e2 => (h.2.2 hn ad e).2 e2), h.2.1, fun hn ad e => ⟨(h.2.2 hn ad e).1, fun e2 => by
    rcases hs with e3 | ⟨k, e3, hk⟩
    · exact (h.2.2 hn ad e).2 (e2.trans e3)
    · have := h.1.lt hn ad e
      rw [e3] at e2
      have := Option.some.inj e2
      omega⟩⟩
theorem RbA.same {w : World} {B : Option Addr} {n c : Nat} {b : List By} {g : Nat} {sl sl' : Value} (h : RbA w B n c b g sl) (hs : sl'.ownBlock = sl.ownBlock) : RbA w B n c b g sl' := by unfold RbA at *; rw [hs]; exact h
theorem Cg.same {w u : World} {g : Nat} {R : Option Nat} {sl sl' : Value} (h : Cg w u g R sl) (hs : sl'.ownBlock = sl.ownBlock) : Cg w u g R sl' := by unfold Cg at *; rw [hs]; exact h
theorem RbA.cut {w : World} {B : Option Addr} {n c k : Nat} {b : List By} {g : Nat} {sl : Value} (h : RbA w B n c b g sl) (hk : k ≤ n) : RbA w (cutA B k c) (n - k) (c - k) (b.drop k) g sl :=
  ⟨h.1.drop hk h.2.1, by have := h.2.1; omega, fun hn ad e => by obtain ⟨p, hp, e2⟩ := cutA_block e; rw [← e2]; exact h.2.2 (by omega) p hp⟩
theorem own_block_zero (A : Option Addr) (n c m d : Nat) : (Value.slice A n c).ownBlock = (Value.slice A m d).ownBlock := by cases A <;> rfl
/-- A row of one's own from which all is cut away. -/
theorem OwB.cut0 {w : World} {base : Nat} {A : Option Addr} {n c : Nat} {bs : List By} (h : OwB w base (.slice A n c) bs) : OwB w base (.slice A 0 c) [] := by
  obtain ⟨h0, inner, ⟨h1, h2⟩, hr⟩ := h
  refine ⟨fun _ _ => trivial, [], ⟨rfl, ?_⟩, Reps.none _ _⟩
  rcases h2 with ⟨hv, _⟩ | ⟨g, cap, cur, hv, hg, hh, hnc, hcm, hsz, htk⟩
  · simp only [Value.slice.injEq] at hv
    obtain ⟨rfl, rfl, rfl⟩ := hv
    exact .inl ⟨rfl, rfl⟩
  · simp only [Value.slice.injEq] at hv
    obtain ⟨rfl, rfl, rfl⟩ := hv
    exact .inr ⟨g, c, cur, rfl, hg, hh, Nat.zero_le _, hcm, hsz, by simp⟩
theorem OwB.nilcut {w : World} {base : Nat} {A : Option Addr} {n c : Nat} {bs : List By} (h : OwB w base (.slice A n c) bs) (hn : n = 0) : bs = [] := by
  have := h.rb.1.1
  exact List.eq_nil_of_length_eq_zero (by omega)
/-- The world with the blocks ahead of one alone; a block behind. -/
theorem cut_size' {w : World} {m : Nat} (h : m ≤ w.heap.size) : (cutW w m).heap.size = m := by simp [cutW]; omega
theorem cut_below' {w : World} {m : Nat} (h : m ≤ w.heap.size) : Below (cutW w m).heap.size (cutW w m) w := by
  refine ⟨rfl, rfl, rfl, by rw [cut_size' h]; omega, fun k hk => ?_⟩
  rw [cut_size' h] at hk
  show w.heap[k]? = (w.heap.extract 0 m)[k]?
  rw [Array.getElem?_extract]
  simp; omega
theorem cut_mm' {w : World} {m g : Nat} {cs : Array Value} {t : TypeId} (h : w.heap[g]? = some (.cells cs t (0, 0))) (hm : m ≤ g) : Mm (cutW w m) w [⟨g, cs, t⟩] := by
  have hg := (Array.getElem?_eq_some_iff.1 h).1
  refine ⟨cut_below' (by omega), fun i b hi => ?_, fun i b hi => ?_, fun i j b c hi hj _ => ?_⟩
  · match i, hi with
    | 0, hi => obtain rfl := Option.some.inj hi; exact h
  · match i, hi with
    | 0, hi => obtain rfl := Option.some.inj hi; rw [cut_size' (by omega)]; exact hm
  · have h1 := (List.getElem?_eq_some_iff.1 hi).1
    have h2 := (List.getElem?_eq_some_iff.1 hj).1
    simp at h1 h2
    omega
theorem cut_at' {w : World} {m : Nat} {p : Addr} {cs : List Value} (hm : m ≤ w.heap.size) (hp : p.block < m) (h : At w p cs) : At (cutW w m) p cs := fun j v hv => by
  have h1 := h j v hv
  have hb : (cutW w m).heap[p.block]? = w.heap[p.block]? := ((cut_below' hm).block p.block (by rw [cut_size' hm]; exact hp)).symm
  have e : (p.add j).block = p.block := by unfold Addr.add; split <;> rfl
  rw [World.cell?_of_block (w := w) (w' := cutW w m) (a := p.add j) (by rw [e]; exact hb)]
  exact h1
theorem OwB.ne {w : World} {base : Nat} {A : Option Addr} {n c : Nat} {bs : List By} {g : Nat} {cells : Array Value} (h : OwB w base (.slice A n c) bs) (hb : w.heap[g]? = some (.cells cells 82 (0, 0))) : ∀ ad, A = some ad → ad.block ≠ g := fun ad e e2 => by
  subst e e2
  obtain ⟨_, _, c2, hc⟩ := h.bound (k := ad.block) rfl
  rw [hb] at hc
  injection hc with hc
  injection hc with _ hc
  exact absurd hc (by decide)
/-- A block out of whatever row. -/
theorem block_row (h : List Wd) (hh : h.length = 8) (sl : Value) (m : Int) (b : List By) (A : Option Addr) (n c : Nat) (g : Nat) (w : World) (hK : At w ⟨0, 0, none⟩ (wcs kTab)) (h0 : 0 < g) (hB : Rb w A n b) (hn : n = 64) (hne : ∀ ad, A = some ad → ad.block ≠ g)
    (hblk : w.heap[g]? = some (.cells (hcs h sl m).toArray 82 (0, 0))) :
    Calls Tryd.prog 50 #[.pointer (some ⟨g, 0, none⟩), .slice A n c] w fun e w' => e = .returned (.tuple #[]) ∧ w.grownBy w' (some g) ∧ w'.heap[g]? = some (.cells (hcs (blk h b) sl m).toArray 82 (0, 0)) := by
  subst hn
  obtain ⟨ad, rfl, hA⟩ := hB.ex (by decide)
  have hg := (Array.getElem?_eq_some_iff.1 hblk).1
  exact block_any h hh sl m b hB.1 ad c g w (cut_at hg h0 hK) hA (hB.lt (by decide) ad rfl) (hne ad rfl) hblk
theorem ret_none_r {P : Program} {n : Nat} {a : Act} {w : World} {L : List (Nat × Value)} {fn : Func} {R : Ending → World → Prop} (F : Fr n a L) (hr : fn.results = #[]) (h : R (.returned (.tuple #[])) w) : bodyPost P fn R .ret a w := bodyPost_ret (results_none hr _ _ _) F.defers h
theorem feed_first {h : List Wd} {rest b : List By} {tk : Nat} (hl : (rest ++ b.take tk).length = 64) : feed h (rest ++ b) = feed (blk h (rest ++ b.take tk)) (b.drop tk) := by
  have e : rest ++ b = (rest ++ b.take tk) ++ b.drop tk := by rw [List.append_assoc, List.take_append_drop]
  rw [e, feed_ge (by rw [List.length_append]; omega), List.take_left' hl, List.drop_left' hl]
theorem dt_fa_82_2_9 : fa? Tryd.prog 82 2 9 = true := by kernel_rfl
theorem dt_one_62 : one? Tryd.prog 62 = true := by kernel_rfl
theorem dt_sl_23_1 : sl? Tryd.prog 23 1 = true := by kernel_rfl
theorem dt_cv_3_62_u64 : cv? Tryd.prog 3 62 .u64 = true := by kernel_rfl
theorem dt_info_62_map_size_some_1 : (Tryd.prog.info? 62).map (·.size) = some 1 := by kernel_rfl
theorem dt_fa_82_1_8 : fa? Tryd.prog 82 1 8 = true := by kernel_rfl
theorem dt_one_23 : one? Tryd.prog 23 = true := by kernel_rfl
theorem dt_ent_50 : ent? Tryd.prog 50 = true := by kernel_rfl
theorem dt_info_23_map_size_some_1 : (Tryd.prog.info? 23).map (·.size) = some 1 := by kernel_rfl
theorem dt_follows_mixedOrders : Tryd.prog.follows .mixedOrders = true := by kernel_rfl
set_option maxHeartbeats 4000000 in
set_option maxRecDepth 100000 in
theorem take_row (h : List Wd) (hh : h.length = 8) (A : Option Addr) (q k : Nat) (rest : List By) (hr64 : rest.length < 64) (x : Nm) (b : List By) (B : Option Addr) (n c : Nat) (g base : Nat) (R : Option Nat) (hR : R = (Value.slice A q k).ownBlock) (w : World) (hK : At w ⟨0, 0, none⟩ (wcs kTab)) (h0 : 0 < base) (hbs : base ≤ w.heap.size) (hbg : base ≤ g)
    (hblk : w.heap[g]? = some (.cells (hcs h (.slice A q k) (x.toNat : Int)).toArray 82 (0, 0))) (hO : OwB w base (.slice A q k) rest) (hB : RbA w B n c b g (.slice A q k)) :
    Calls Tryd.prog 45 #[.pointer (some ⟨g, 0, none⟩), .slice B n c] w fun e w' => e = .returned (.tuple #[]) ∧ ∃ A' k', w'.heap[g]? = some (.cells (hcs (feed h (rest ++ b)).1 (.slice A' (feed h (rest ++ b)).2.length k') ((x + BitVec.ofNat 64 n).toNat : Int)).toArray 82 (0, 0)) ∧ OwB w' base (.slice A' (feed h (rest ++ b)).2.length k') (feed h (rest ++ b)).2 ∧ Cg w w' g R (.slice A' (feed h (rest ++ b)).2.length k') := by
 have hg0 : 0 < g := by omega
 have hKc := cut_at' hbs (p := ⟨0, 0, none⟩) h0 hK
 have hsz := cut_size' hbs
 rw [← hsz] at hO ⊢
 have O_x := hO
 have Gc : Cg w w g R (.slice A q k) := by rw [hR]; exact Cg.start _ _ _
 have hlr : rest.length = q := hO.rb.1.1
 have hlb := hB.1.1; have hmx := hB.1.2.1; have hnc := hB.2.1; simp only [maxLen] at hmx
 clear hO
 refine calls_start Tryd.func45 rfl rfl rfl (fun a F => ?_)
 have M : Mm (cutW w base) w [⟨g, (hcs h (.slice A q k) ((x.toNat : Int))).toArray, 82⟩] := cut_mm' hblk hbg
 refine wp_seq ?_
 refine wp_region_lit ?_
 refine list_val F (wn rfl) rfl rfl (.pointer (some ⟨g, 0, none⟩)) (ex_move _ rfl _ (F.e rfl)) ?_; clear F a; intro a F
 refine list_val F (wn rfl) rfl rfl (.pointer (some ⟨g, 0, none⟩)) (ex_nilck _ rfl _ (F.e rfl)) ?_; clear F a; intro a F
 refine list_val F (wn rfl) rfl rfl (.pointer (some ⟨g, 9, none⟩)) (ex_fa _ _ _ rfl _ (F.e rfl) 9 dt_fa_82_2_9 ⟨g, 9, none⟩ rfl) ?_; clear F a; intro a F
 refine list_val F (wn rfl) rfl rfl (.int .u64 (x.toNat : Int)) (ex_load _ _ rfl _ (F.e rfl) _ (lv1 dt_one_62 (M.cell (i := 0) rfl (j := 9) (hcs_a9 hh)))) ?_; clear F a; intro a F
 refine list_val F (wn rfl) rfl rfl (.slice B n c) (ex_move _ rfl _ (F.e rfl)) ?_; clear F a; intro a F
 refine list_val F (wn rfl) rfl rfl (.int .i64 ((n : Nat) : Int)) (ex_len _ _ rfl 1 dt_sl_23_1 _ _ _ (F.e rfl)) ?_; clear F a; intro a F
 refine list_val F (wn rfl) rfl rfl (.int .u64 ((n : Nat) : Int)) (ex_conv _ _ _ rfl _ .u64 dt_cv_3_62_u64 _ (F.e rfl) _ (w_u64 (by omega) (by omega))) ?_; clear F a; intro a F
 refine list_val F (wn rfl) rfl rfl (.int .u64 ((x + BitVec.ofNat 64 n).toNat : Int)) (ex_bin .add _ _ _ _ rfl .u64 _ _ (F.e rfl) (F.e rfl) _ (b_add (w64_add x n))) ?_; clear F a; intro a F
 refine list_val F (wn rfl) rfl rfl (.pointer (some ⟨g, 0, none⟩)) (ex_nilck _ rfl _ (F.e rfl)) ?_; clear F a; intro a F
 refine list_val F (wn rfl) rfl rfl (.pointer (some ⟨g, 9, none⟩)) (ex_fa _ _ _ rfl _ (F.e rfl) 9 dt_fa_82_2_9 ⟨g, 9, none⟩ rfl) ?_; clear F a; intro a F
 refine list_do (wn rfl) (fun K hK => ?_)
 refine ow_store F M rfl 62 _ _ rfl 0 g _ _ rfl 9 (F.e rfl) _ (F.e rfl) [.int .u64 ((x + BitVec.ofNat 64 n).toNat : Int)] rfl dt_info_62_map_size_some_1 (by rw [List.size_toArray, hcs_len, hh]; simp) (by simp [Value.oneCell']) (hcs h (.slice A q k) (((x + BitVec.ofNat 64 n).toNat : Int))).toArray (congrArg List.toArray (hcs_put9 hh)) ?_
 clear F a; have Mo := M; clear M; intro a v F M hgr
 refine hK _ _ ?_
 clear hK K
 replace O_x := O_x.grown (Mo.blk 0 _ rfl) (by show 5 ≠ 82; decide) hgr
 replace hB := hB.box hgr
 replace Gc := Gc.box hgr
 clear Mo hgr; try clear w
 replace M : Mm (cutW w base) v [⟨g, (hcs h (.slice A q k) (((x + BitVec.ofNat 64 n).toNat : Int))).toArray, 82⟩] := M
 refine wpList_nil ?_
 replace F : Fr 82 a [(0, .pointer (some ⟨g, 0, none⟩)), (1, .slice B n c)] := F.keep ⟨rfl, rfl, trivial⟩
 refine then_n ?_
 refine wp_seq ?_
 refine wp_seq ?_
 by_cases hq0 : q = 0
 ·
  obtain rfl : q = 0 := by omega
  obtain rfl : rest = [] := O_x.nilcut rfl
  refine wp_region_lit ?_
  refine list_val F (wn rfl) rfl rfl (.pointer (some ⟨g, 0, none⟩)) (ex_move _ rfl _ (F.e rfl)) ?_; clear F a; intro a F
  refine list_val F (wn rfl) rfl rfl (.pointer (some ⟨g, 0, none⟩)) (ex_nilck _ rfl _ (F.e rfl)) ?_; clear F a; intro a F
  refine list_val F (wn rfl) rfl rfl (.pointer (some ⟨g, 8, none⟩)) (ex_fa _ _ _ rfl _ (F.e rfl) 8 dt_fa_82_1_8 ⟨g, 8, none⟩ rfl) ?_; clear F a; intro a F
  refine list_val F (wn rfl) rfl rfl (.slice A 0 k) (ex_load _ _ rfl _ (F.e rfl) _ (lv1 dt_one_23 (M.cell (i := 0) rfl (j := 8) (hcs_a8 hh)))) ?_; clear F a; intro a F
  refine list_val F (wn rfl) rfl rfl (.int .i64 0) (ex_len _ _ rfl 1 dt_sl_23_1 _ _ _ (F.e rfl)) ?_; clear F a; intro a F
  refine list_val F (wn rfl) rfl rfl (.bool false) (ex_bin .gtr _ _ _ _ rfl .i64 _ _ (F.e rfl) rfl _ (b_gtr (decide_eq_false (by omega)))) ?_; clear F a; intro a F
  refine wpList_nil ?_
  replace F : Fr 82 a [(0, .pointer (some ⟨g, 0, none⟩)), (1, .slice B n c), (20, .bool false)] := F.keep ⟨rfl, rfl, rfl, trivial⟩
  refine then_n ?_
  refine wp_cond_false (F.e rfl) ?_
  refine wp_skip ?_
  refine then_n ?_
  refine wp_seq ?_
  refine wp_block ?_
  refine wp_loopN (fun mq ar wr => ∃ (h2 : List Wd), ∃ (B2 : Option Addr), ∃ (n2 : Nat), ∃ (c2 : Nat), ∃ (b2 : List By), ∃ (i : Nat), Fr 82 ar [(0, .pointer (some ⟨g, 0, none⟩)), (1, .slice B2 n2 c2), (20, .bool false)] ∧ Mm (cutW w base) wr [⟨g, (hcs h2 (.slice A 0 k) (((x + BitVec.ofNat 64 n).toNat : Int))).toArray, 82⟩] ∧ OwB wr (cutW w base).heap.size (.slice A 0 k) ([]) ∧ RbA wr B2 n2 c2 b2 g (.slice A 0 k) ∧ Cg w wr g R (.slice A 0 k) ∧ feed h ([] ++ b) = feed h2 b2 ∧ h2.length = 8 ∧ n2 + 64 * i = n ∧ mq + i = n) n ?_ ?_
  ·
   exact ⟨h, B, n, c, b, 0, F.keep ⟨rfl, rfl, rfl, trivial⟩, M, O_x, hB, Gc, rfl, hh, rfl, (by omega)⟩
  clear F M a O_x hB Gc
  rintro mq a u ⟨h2, B2, n2, c2, b2, i, F, M, O_x, hB, Gc, hf, hh2, hn2, hq⟩; try clear v
  have hlb := hB.1.1; have hmx := hB.1.2.1; have hnc := hB.2.1; simp only [maxLen] at hmx
  by_cases h64 : 64 ≤ n2
  ·
   refine wp_seq ?_
   refine wp_seq ?_
   refine wp_region_lit ?_
   refine list_val F (wn rfl) rfl rfl (.slice B2 n2 c2) (ex_move _ rfl _ (F.e rfl)) ?_; clear F a; intro a F
   refine list_val F (wn rfl) rfl rfl (.int .i64 ((n2 : Nat) : Int)) (ex_len _ _ rfl 1 dt_sl_23_1 _ _ _ (F.e rfl)) ?_; clear F a; intro a F
   refine list_val F (wn rfl) rfl rfl (.bool true) (ex_bin .geq _ _ _ _ rfl .i64 _ _ (F.e rfl) rfl _ (b_geq (decide_eq_true (by omega)))) ?_; clear F a; intro a F
   refine wpList_nil ?_
   replace F : Fr 82 a [(0, .pointer (some ⟨g, 0, none⟩)), (1, .slice B2 n2 c2), (20, .bool false), (66, .bool true)] := F.keep ⟨rfl, rfl, rfl, rfl, trivial⟩
   refine then_n ?_
   refine wp_cond_true (F.e rfl) ?_
   refine wp_skip ?_
   refine then_n ?_
   refine wp_block ?_
   refine wp_seq ?_
   refine wp_region_lit ?_
   refine list_val F (wn rfl) rfl rfl (.pointer (some ⟨g, 0, none⟩)) (ex_move _ rfl _ (F.e rfl)) ?_; clear F a; intro a F
   refine list_val F (wn rfl) rfl rfl (.slice B2 n2 c2) (ex_move _ rfl _ (F.e rfl)) ?_; clear F a; intro a F
   refine list_val F (wn rfl) rfl rfl (.slice B2 64 c2) (ex_cutto _ _ rfl B2 n2 c2 (F.e rfl) _ rfl 64 rfl (by omega)) ?_; clear F a; intro a F
   refine list_do (wn rfl) (fun K hK => ?_)
   refine ow_call rfl rfl F 50 #[.pointer (some ⟨g, 0, none⟩), .slice B2 64 c2] (ex_call 50 _ _ rfl rfl dt_ent_50 _ (map2 (F.e rfl) (F.e rfl))) (block_row h2 hh2 (.slice A 0 k) (((x + BitVec.ofNat 64 n).toNat : Int)) (b2.take 64) B2 64 c2 g _ (hKc.below M.bel) hg0 (hB.1.take (by omega)) rfl (fun ad e => (hB.2.2 (by omega) ad e).1) (M.blk 0 _ rfl)) (fun e v hR => ?_)
   obtain ⟨he, hgr, hn⟩ := hR
   refine ⟨.tuple #[], he, ?_⟩; clear he F a; intro a F
   refine hK _ _ ?_
   clear hK K
   have Mo := M; clear M
   replace O_x := O_x.grown (Mo.blk 0 _ rfl) (by show 5 ≠ 82; decide) hgr
   replace hB := hB.box hgr
   replace Gc := Gc.box hgr
   have M : Mm (cutW w base) v [⟨g, (hcs (blk h2 (b2.take 64)) (.slice A 0 k) (((x + BitVec.ofNat 64 n).toNat : Int))).toArray, 82⟩] := Mo.grown (b := ⟨g, (hcs h2 (.slice A 0 k) (((x + BitVec.ofNat 64 n).toNat : Int))).toArray, 82⟩) (i := 0) rfl ((hcs (blk h2 (b2.take 64)) (.slice A 0 k) (((x + BitVec.ofNat 64 n).toNat : Int))).toArray) hgr hn
   clear Mo hgr hn; try clear u
   refine wpList_nil ?_
   replace F : Fr 82 a [(0, .pointer (some ⟨g, 0, none⟩)), (1, .slice B2 n2 c2), (20, .bool false), (66, .bool true)] := F.keep ⟨rfl, rfl, rfl, rfl, trivial⟩
   refine then_n ?_
   refine wp_region_lit ?_
   refine list_val F (wn rfl) rfl rfl (.slice B2 n2 c2) (ex_move _ rfl _ (F.e rfl)) ?_; clear F a; intro a F
   refine list_val F (wn rfl) rfl rfl (.slice (cutA B2 64 c2) (n2 - 64) (c2 - 64)) (ex_cutend _ _ rfl B2 n2 c2 (F.e rfl) _ rfl 64 rfl (by omega)) ?_; clear F a; intro a F
   refine list_val F (wn rfl) rfl rfl (.slice (cutA B2 64 c2) (n2 - 64) (c2 - 64)) (ex_assign _ rfl _ (F.e rfl)) ?_; clear F a; intro a F
   refine wpList_nil ?_
   replace F : Fr 82 a [(0, .pointer (some ⟨g, 0, none⟩)), (1, .slice (cutA B2 64 c2) (n2 - 64) (c2 - 64)), (20, .bool false), (66, .bool true)] := F.keep ⟨rfl, rfl, rfl, rfl, trivial⟩
   refine in_n ?_
   refine then_n ?_
   replace hB := hB.cut (k := 64) (by omega)
   exact ⟨n - (i + 1), by omega, (blk h2 (b2.take 64)), (cutA B2 64 c2), (n2 - 64), (c2 - 64), (b2.drop 64), (i + 1), F.keep ⟨rfl, rfl, rfl, trivial⟩, (by refine M.pick' [0] _ ?_ (by decide); exact ⟨rfl, trivial⟩), O_x, hB, Gc, (by rw [hf, feed_ge (by omega)]), (blk_len _ hh2), (by omega), (by omega)⟩
  refine wp_seq ?_
  refine wp_seq ?_
  refine wp_region_lit ?_
  refine list_val F (wn rfl) rfl rfl (.slice B2 n2 c2) (ex_move _ rfl _ (F.e rfl)) ?_; clear F a; intro a F
  refine list_val F (wn rfl) rfl rfl (.int .i64 ((n2 : Nat) : Int)) (ex_len _ _ rfl 1 dt_sl_23_1 _ _ _ (F.e rfl)) ?_; clear F a; intro a F
  refine list_val F (wn rfl) rfl rfl (.bool false) (ex_bin .geq _ _ _ _ rfl .i64 _ _ (F.e rfl) rfl _ (b_geq (decide_eq_false (by omega)))) ?_; clear F a; intro a F
  refine wpList_nil ?_
  replace F : Fr 82 a [(0, .pointer (some ⟨g, 0, none⟩)), (1, .slice B2 n2 c2), (20, .bool false), (66, .bool false)] := F.keep ⟨rfl, rfl, rfl, rfl, trivial⟩
  refine then_n ?_
  refine wp_cond_false (F.e rfl) ?_
  refine wp_exit ?_
  refine then_x ?_
  refine then_x ?_
  refine in_hit ?_
  refine then_n ?_
  refine wp_region_lit ?_
  refine list_val F (wn rfl) rfl rfl (.pointer (some ⟨g, 0, none⟩)) (ex_move _ rfl _ (F.e rfl)) ?_; clear F a; intro a F
  refine list_val F (wn rfl) rfl rfl (.pointer (some ⟨g, 0, none⟩)) (ex_move _ rfl _ (F.e rfl)) ?_; clear F a; intro a F
  refine list_val F (wn rfl) rfl rfl (.pointer (some ⟨g, 0, none⟩)) (ex_nilck _ rfl _ (F.e rfl)) ?_; clear F a; intro a F
  refine list_val F (wn rfl) rfl rfl (.pointer (some ⟨g, 8, none⟩)) (ex_fa _ _ _ rfl _ (F.e rfl) 8 dt_fa_82_1_8 ⟨g, 8, none⟩ rfl) ?_; clear F a; intro a F
  refine list_val F (wn rfl) rfl rfl (.slice A 0 k) (ex_load _ _ rfl _ (F.e rfl) _ (lv1 dt_one_23 (M.cell (i := 0) rfl (j := 8) (hcs_a8 hh2)))) ?_; clear F a; intro a F
  refine list_val F (wn rfl) rfl rfl (.slice B2 n2 c2) (ex_move _ rfl _ (F.e rfl)) ?_; clear F a; intro a F
  refine list_do (wn rfl) (fun K hK => ?_)
  refine ow_appB F M rfl rfl rfl rfl _ _ rfl A 0 k ([]) b2 _ _ _ (F.e rfl) (F.e rfl) O_x (hB.1) (by show 0 + n2 ≤ _; omega) ?_
  clear F a M O_x; intro a A_79 c_79 v F M O_x hg hat
  replace hB := hB.row hg hat
  replace Gc := Gc.row hg hat
  clear hg hat
  refine hK _ _ ?_
  clear hK K
  try clear u
  refine list_val F (wn rfl) rfl rfl (.pointer (some ⟨g, 0, none⟩)) (ex_nilck _ rfl _ (F.e rfl)) ?_; clear F a; intro a F
  refine list_val F (wn rfl) rfl rfl (.pointer (some ⟨g, 8, none⟩)) (ex_fa _ _ _ rfl _ (F.e rfl) 8 dt_fa_82_1_8 ⟨g, 8, none⟩ rfl) ?_; clear F a; intro a F
  refine list_do (wn rfl) (fun K hK => ?_)
  refine ow_store F M rfl 23 _ _ rfl 0 g _ _ rfl 8 (F.e rfl) _ (F.e rfl) [.slice A_79 (([] ++ b2).length) c_79] rfl dt_info_23_map_size_some_1 (by rw [List.size_toArray, hcs_len, hh2]; simp) (by simp [Value.oneCell']) (hcs h2 (.slice A_79 (([] ++ b2).length) c_79) (((x + BitVec.ofNat 64 n).toNat : Int))).toArray (congrArg List.toArray (hcs_put8 hh2)) ?_
  clear F a; have Mo := M; clear M; intro a u F M hgr
  refine hK _ _ ?_
  clear hK K
  replace O_x := O_x.grown (Mo.blk 0 _ rfl) (by show 5 ≠ 82; decide) hgr
  replace hB := hB.box hgr
  replace Gc := Gc.box hgr
  clear Mo hgr; try clear v
  replace M : Mm (cutW w base) u [⟨g, (hcs h2 (.slice A_79 (([] ++ b2).length) c_79) (((x + BitVec.ofNat 64 n).toNat : Int))).toArray, 82⟩] := M
  refine wpList_nil ?_
  replace F : Fr 82 a [(0, .pointer (some ⟨g, 0, none⟩)), (1, .slice B2 n2 c2), (20, .bool false), (66, .bool false)] := F.keep ⟨rfl, rfl, rfl, rfl, trivial⟩
  rw [feed_lt (h := h2) (by omega)] at hf
  rw [hf]
  exact ret_none F rfl ⟨rfl, A_79, c_79, M.blk 0 _ rfl, O_x, Gc⟩
 obtain ⟨tk, htk⟩ : ∃ tk, tk = min (64 - q) n := ⟨_, rfl⟩
 have hl1 : (rest ++ b.take tk).length = q + tk := by rw [List.length_append, List.length_take]; omega
 refine wp_region_lit ?_
 refine list_val F (wn rfl) rfl rfl (.pointer (some ⟨g, 0, none⟩)) (ex_move _ rfl _ (F.e rfl)) ?_; clear F a; intro a F
 refine list_val F (wn rfl) rfl rfl (.pointer (some ⟨g, 0, none⟩)) (ex_nilck _ rfl _ (F.e rfl)) ?_; clear F a; intro a F
 refine list_val F (wn rfl) rfl rfl (.pointer (some ⟨g, 8, none⟩)) (ex_fa _ _ _ rfl _ (F.e rfl) 8 dt_fa_82_1_8 ⟨g, 8, none⟩ rfl) ?_; clear F a; intro a F
 refine list_val F (wn rfl) rfl rfl (.slice A q k) (ex_load _ _ rfl _ (F.e rfl) _ (lv1 dt_one_23 (M.cell (i := 0) rfl (j := 8) (hcs_a8 hh)))) ?_; clear F a; intro a F
 refine list_val F (wn rfl) rfl rfl (.int .i64 ((q : Nat) : Int)) (ex_len _ _ rfl 1 dt_sl_23_1 _ _ _ (F.e rfl)) ?_; clear F a; intro a F
 refine list_val F (wn rfl) rfl rfl (.bool true) (ex_bin .gtr _ _ _ _ rfl .i64 _ _ (F.e rfl) rfl _ (b_gtr (decide_eq_true (by omega)))) ?_; clear F a; intro a F
 refine wpList_nil ?_
 replace F : Fr 82 a [(0, .pointer (some ⟨g, 0, none⟩)), (1, .slice B n c), (20, .bool true)] := F.keep ⟨rfl, rfl, rfl, trivial⟩
 refine then_n ?_
 refine wp_cond_true (F.e rfl) ?_
 refine wp_seq ?_
 refine wp_region_lit ?_
 refine list_val F (wn rfl) rfl rfl (.pointer (some ⟨g, 0, none⟩)) (ex_move _ rfl _ (F.e rfl)) ?_; clear F a; intro a F
 refine list_val F (wn rfl) rfl rfl (.pointer (some ⟨g, 0, none⟩)) (ex_nilck _ rfl _ (F.e rfl)) ?_; clear F a; intro a F
 refine list_val F (wn rfl) rfl rfl (.pointer (some ⟨g, 8, none⟩)) (ex_fa _ _ _ rfl _ (F.e rfl) 8 dt_fa_82_1_8 ⟨g, 8, none⟩ rfl) ?_; clear F a; intro a F
 refine list_val F (wn rfl) rfl rfl (.slice A q k) (ex_load _ _ rfl _ (F.e rfl) _ (lv1 dt_one_23 (M.cell (i := 0) rfl (j := 8) (hcs_a8 hh)))) ?_; clear F a; intro a F
 refine list_val F (wn rfl) rfl rfl (.int .i64 ((q : Nat) : Int)) (ex_len _ _ rfl 1 dt_sl_23_1 _ _ _ (F.e rfl)) ?_; clear F a; intro a F
 refine list_val F (wn rfl) rfl rfl (.int .i64 ((64 - q : Nat) : Int)) (ex_bin .sub _ _ _ _ rfl .i64 _ _ rfl (F.e rfl) _ (b_sub ((w_i64 (by omega) (by omega)).trans (by omega)))) ?_; clear F a; intro a F
 refine list_val F (wn rfl) rfl rfl (.slice B n c) (ex_move _ rfl _ (F.e rfl)) ?_; clear F a; intro a F
 refine list_val F (wn rfl) rfl rfl (.int .i64 ((n : Nat) : Int)) (ex_len _ _ rfl 1 dt_sl_23_1 _ _ _ (F.e rfl)) ?_; clear F a; intro a F
 refine list_val F (wn rfl) rfl rfl (.int .i64 ((tk : Nat) : Int)) (ex_min _ _ _ _ rfl .i64 _ _ (F.e rfl) (F.e rfl) _ (by split <;> omega)) ?_; clear F a; intro a F
 refine list_val F (wn rfl) rfl rfl (.int .i64 ((tk : Nat) : Int)) (ex_assign _ rfl _ (F.e rfl)) ?_; clear F a; intro a F
 refine wpList_nil ?_
 replace F : Fr 82 a [(0, .pointer (some ⟨g, 0, none⟩)), (1, .slice B n c), (4, .int .i64 ((tk : Nat) : Int)), (20, .bool true)] := F.keep ⟨rfl, rfl, rfl, rfl, trivial⟩
 refine then_n ?_
 refine wp_seq ?_
 refine wp_only (fun ar wr => ∃ (A_38 : Option Addr), ∃ (c_38 : Nat), Fr 82 ar [(0, .pointer (some ⟨g, 0, none⟩)), (1, .slice B n c), (4, .int .i64 ((tk : Nat) : Int)), (20, .bool true)] ∧ Mm (cutW w base) wr [⟨g, (hcs h (.slice A_38 ((rest ++ (b.take tk)).length) c_38) (((x + BitVec.ofNat 64 n).toNat : Int))).toArray, 82⟩] ∧ OwB wr (cutW w base).heap.size (.slice A_38 ((rest ++ (b.take tk)).length) c_38) (rest ++ (b.take tk)) ∧ RbA wr B n c b g (.slice A_38 ((rest ++ (b.take tk)).length) c_38) ∧ Cg w wr g R (.slice A_38 ((rest ++ (b.take tk)).length) c_38)) ?_ ?_
 ·
  refine region_anyM dt_follows_mixedOrders M [] (fun w' M => (by refine M.pick' [] _ ?_ (by decide); exact trivial)) ?_; clear M; intro wD M hb
  replace O_x := O_x.below hb
  replace hB := hB.below hb
  replace Gc := Gc.below hb
  clear hb; try clear v
  have hS : Mm (cutW w base) wD [] := (by refine M.pick' [] _ ?_ (by decide); exact trivial)
  refine any_val F 0 rfl (by kernel_rfl) (wn rfl) rfl rfl (.pointer (some ⟨g, 0, none⟩)) (fun w' hS' => ex_move _ rfl _ (F.e rfl)) hS ?_; clear F a; intro a F
  refine any_val F 1 rfl (by kernel_rfl) (wn rfl) rfl rfl (.pointer (some ⟨g, 0, none⟩)) (fun w' hS' => ex_move _ rfl _ (F.e rfl)) hS ?_; clear F a; intro a F
  refine any_val F 2 rfl (by kernel_rfl) (wn rfl) rfl rfl (.pointer (some ⟨g, 0, none⟩)) (fun w' hS' => ex_nilck _ rfl _ (F.e rfl)) hS ?_; clear F a; intro a F
  refine any_val F 3 rfl (by kernel_rfl) (wn rfl) rfl rfl (.pointer (some ⟨g, 8, none⟩)) (fun w' hS' => ex_fa _ _ _ rfl _ (F.e rfl) 8 dt_fa_82_1_8 ⟨g, 8, none⟩ rfl) hS ?_; clear F a; intro a F
  refine any_val F 5 rfl (by kernel_rfl) (wn rfl) rfl rfl (.slice B n c) (fun w' hS' => ex_move _ rfl _ (F.e rfl)) hS ?_; clear F a; intro a F
  refine any_val F 6 rfl (by kernel_rfl) (wn rfl) rfl rfl (.int .i64 ((tk : Nat) : Int)) (fun w' hS' => ex_move _ rfl _ (F.e rfl)) hS ?_; clear F a; intro a F
  refine any_val F 7 rfl (by kernel_rfl) (wn rfl) rfl rfl (.slice B tk c) (fun w' hS' => ex_cutto _ _ rfl B n c (F.e rfl) _ (F.e rfl) tk rfl (by omega)) hS ?_; clear F a; intro a F
  refine any_ready [4] (by kernel_rfl) (by simp) ?_
  refine ready_do rfl (wn rfl) (fun K hK => ?_) AllReadyH.nil
  refine ow_val F rfl rfl (.slice A q k) (ex_load _ _ rfl _ (F.e rfl) _ (lv1 dt_one_23 (M.cell (i := 0) rfl (j := 8) (hcs_a8 hh)))) ?_; clear F a; intro a F
  replace hS : Mm (cutW w base) wD [] := (by refine M.pick' [] _ ?_ (by decide); exact trivial)
  refine hK _ _ hS ?_
  clear hK K
  refine any_ready [8] (by kernel_rfl) (by simp) ?_
  refine ready_do rfl (wn rfl) (fun K hK => ?_) AllReadyH.nil
  refine ow_appB F M rfl rfl rfl rfl _ _ rfl A q k rest (b.take tk) _ _ _ (F.e rfl) (F.e rfl) O_x (hB.1.take (by omega)) (by omega) ?_
  clear F a M O_x; intro a A_38 c_38 v F M O_x hg hat
  replace hB := hB.row hg hat
  replace Gc := Gc.row hg hat
  clear hg hat
  replace hS : Mm (cutW w base) v [] := (by refine M.pick' [] _ ?_ (by decide); exact trivial)
  refine hK _ _ hS ?_
  clear hK K
  try clear wD
  refine any_val F 9 rfl (by kernel_rfl) (wn rfl) rfl rfl (.pointer (some ⟨g, 0, none⟩)) (fun w' hS' => ex_nilck _ rfl _ (F.e rfl)) hS ?_; clear F a; intro a F
  refine any_val F 10 rfl (by kernel_rfl) (wn rfl) rfl rfl (.pointer (some ⟨g, 8, none⟩)) (fun w' hS' => ex_fa _ _ _ rfl _ (F.e rfl) 8 dt_fa_82_1_8 ⟨g, 8, none⟩ rfl) hS ?_; clear F a; intro a F
  refine any_ready [11] (by kernel_rfl) (by simp) ?_
  refine ready_do rfl (wn rfl) (fun K hK => ?_) AllReadyH.nil
  refine ow_store F M rfl 23 _ _ rfl 0 g _ _ rfl 8 (F.e rfl) _ (F.e rfl) [.slice A_38 ((rest ++ (b.take tk)).length) c_38] rfl dt_info_23_map_size_some_1 (by rw [List.size_toArray, hcs_len, hh]; simp) (by simp [Value.oneCell']) (hcs h (.slice A_38 ((rest ++ (b.take tk)).length) c_38) (((x + BitVec.ofNat 64 n).toNat : Int))).toArray (congrArg List.toArray (hcs_put8 hh)) ?_
  clear F a; have Mo := M; clear M; intro a u F M hgr
  replace hS : Mm (cutW w base) u [] := (by refine M.pick' [] _ ?_ (by decide); exact trivial)
  refine hK _ _ hS ?_
  clear hK K
  replace O_x := O_x.grown (Mo.blk 0 _ rfl) (by show 5 ≠ 82; decide) hgr
  replace hB := hB.box hgr
  replace Gc := Gc.box hgr
  clear Mo hgr; try clear v
  replace M : Mm (cutW w base) u [⟨g, (hcs h (.slice A_38 ((rest ++ (b.take tk)).length) c_38) (((x + BitVec.ofNat 64 n).toNat : Int))).toArray, 82⟩] := M
  refine any_done (by kernel_rfl) ?_
  exact ⟨A_38, c_38, F.keep ⟨rfl, rfl, rfl, rfl, trivial⟩, (by refine M.pick' [0] _ ?_ (by decide); exact ⟨rfl, trivial⟩), O_x, hB, Gc⟩
 clear F M a O_x hB Gc
 intro a u hR; obtain ⟨A_38, c_38, F, M, O_x, hB, Gc⟩ := hR; try clear v
 refine then_n ?_
 refine wp_seq ?_
 refine wp_region_lit ?_
 refine list_val F (wn rfl) rfl rfl (.slice B n c) (ex_move _ rfl _ (F.e rfl)) ?_; clear F a; intro a F
 refine list_val F (wn rfl) rfl rfl (.int .i64 ((tk : Nat) : Int)) (ex_move _ rfl _ (F.e rfl)) ?_; clear F a; intro a F
 refine list_val F (wn rfl) rfl rfl (.slice (cutA B tk c) (n - tk) (c - tk)) (ex_cutend _ _ rfl B n c (F.e rfl) _ (F.e rfl) tk rfl (by omega)) ?_; clear F a; intro a F
 refine list_val F (wn rfl) rfl rfl (.slice (cutA B tk c) (n - tk) (c - tk)) (ex_assign _ rfl _ (F.e rfl)) ?_; clear F a; intro a F
 refine wpList_nil ?_
 replace F : Fr 82 a [(0, .pointer (some ⟨g, 0, none⟩)), (1, .slice (cutA B tk c) (n - tk) (c - tk)), (4, .int .i64 ((tk : Nat) : Int)), (20, .bool true)] := F.keep ⟨rfl, rfl, rfl, rfl, trivial⟩
 refine then_n ?_
 refine wp_seq ?_
 refine wp_seq ?_
 replace hB := hB.cut (k := tk) (by omega)
 by_cases hlt : q + tk < 64
 ·
  refine wp_region_lit ?_
  refine list_val F (wn rfl) rfl rfl (.pointer (some ⟨g, 0, none⟩)) (ex_move _ rfl _ (F.e rfl)) ?_; clear F a; intro a F
  refine list_val F (wn rfl) rfl rfl (.pointer (some ⟨g, 0, none⟩)) (ex_nilck _ rfl _ (F.e rfl)) ?_; clear F a; intro a F
  refine list_val F (wn rfl) rfl rfl (.pointer (some ⟨g, 8, none⟩)) (ex_fa _ _ _ rfl _ (F.e rfl) 8 dt_fa_82_1_8 ⟨g, 8, none⟩ rfl) ?_; clear F a; intro a F
  refine list_val F (wn rfl) rfl rfl (.slice A_38 ((rest ++ (b.take tk)).length) c_38) (ex_load _ _ rfl _ (F.e rfl) _ (lv1 dt_one_23 (M.cell (i := 0) rfl (j := 8) (hcs_a8 hh)))) ?_; clear F a; intro a F
  refine list_val F (wn rfl) rfl rfl (.int .i64 (((rest ++ (b.take tk)).length : Nat) : Int)) (ex_len _ _ rfl 1 dt_sl_23_1 _ _ _ (F.e rfl)) ?_; clear F a; intro a F
  refine list_val F (wn rfl) rfl rfl (.bool true) (ex_bin .lss _ _ _ _ rfl .i64 _ _ (F.e rfl) rfl _ (b_lss (decide_eq_true (by omega)))) ?_; clear F a; intro a F
  refine wpList_nil ?_
  replace F : Fr 82 a [(0, .pointer (some ⟨g, 0, none⟩)), (1, .slice (cutA B tk c) (n - tk) (c - tk)), (4, .int .i64 ((tk : Nat) : Int)), (20, .bool true), (49, .bool true)] := F.keep ⟨rfl, rfl, rfl, rfl, rfl, trivial⟩
  refine then_n ?_
  refine wp_cond_true (F.e rfl) ?_
  refine wp_ret ?_
  refine then_r ?_
  refine then_r ?_
  have hf : feed h (rest ++ b) = (h, rest ++ b.take tk) := by rw [show b.take tk = b from List.take_of_length_le (by omega)]; exact feed_lt (by rw [← hl1] at hlt; rw [show b.take tk = b from List.take_of_length_le (by omega)] at hlt; exact hlt)
  rw [hf]
  exact ret_none_r F rfl ⟨rfl, A_38, c_38, M.blk 0 _ rfl, O_x, Gc⟩
 refine wp_region_lit ?_
 refine list_val F (wn rfl) rfl rfl (.pointer (some ⟨g, 0, none⟩)) (ex_move _ rfl _ (F.e rfl)) ?_; clear F a; intro a F
 refine list_val F (wn rfl) rfl rfl (.pointer (some ⟨g, 0, none⟩)) (ex_nilck _ rfl _ (F.e rfl)) ?_; clear F a; intro a F
 refine list_val F (wn rfl) rfl rfl (.pointer (some ⟨g, 8, none⟩)) (ex_fa _ _ _ rfl _ (F.e rfl) 8 dt_fa_82_1_8 ⟨g, 8, none⟩ rfl) ?_; clear F a; intro a F
 refine list_val F (wn rfl) rfl rfl (.slice A_38 ((rest ++ (b.take tk)).length) c_38) (ex_load _ _ rfl _ (F.e rfl) _ (lv1 dt_one_23 (M.cell (i := 0) rfl (j := 8) (hcs_a8 hh)))) ?_; clear F a; intro a F
 refine list_val F (wn rfl) rfl rfl (.int .i64 (((rest ++ (b.take tk)).length : Nat) : Int)) (ex_len _ _ rfl 1 dt_sl_23_1 _ _ _ (F.e rfl)) ?_; clear F a; intro a F
 refine list_val F (wn rfl) rfl rfl (.bool false) (ex_bin .lss _ _ _ _ rfl .i64 _ _ (F.e rfl) rfl _ (b_lss (decide_eq_false (by omega)))) ?_; clear F a; intro a F
 refine wpList_nil ?_
 replace F : Fr 82 a [(0, .pointer (some ⟨g, 0, none⟩)), (1, .slice (cutA B tk c) (n - tk) (c - tk)), (4, .int .i64 ((tk : Nat) : Int)), (20, .bool true), (49, .bool false)] := F.keep ⟨rfl, rfl, rfl, rfl, rfl, trivial⟩
 refine then_n ?_
 refine wp_cond_false (F.e rfl) ?_
 refine wp_skip ?_
 refine then_n ?_
 refine wp_seq ?_
 refine wp_region_lit ?_
 refine list_val F (wn rfl) rfl rfl (.pointer (some ⟨g, 0, none⟩)) (ex_move _ rfl _ (F.e rfl)) ?_; clear F a; intro a F
 refine list_val F (wn rfl) rfl rfl (.pointer (some ⟨g, 0, none⟩)) (ex_move _ rfl _ (F.e rfl)) ?_; clear F a; intro a F
 refine list_val F (wn rfl) rfl rfl (.pointer (some ⟨g, 0, none⟩)) (ex_nilck _ rfl _ (F.e rfl)) ?_; clear F a; intro a F
 refine list_val F (wn rfl) rfl rfl (.pointer (some ⟨g, 8, none⟩)) (ex_fa _ _ _ rfl _ (F.e rfl) 8 dt_fa_82_1_8 ⟨g, 8, none⟩ rfl) ?_; clear F a; intro a F
 refine list_val F (wn rfl) rfl rfl (.slice A_38 ((rest ++ (b.take tk)).length) c_38) (ex_load _ _ rfl _ (F.e rfl) _ (lv1 dt_one_23 (M.cell (i := 0) rfl (j := 8) (hcs_a8 hh)))) ?_; clear F a; intro a F
 refine list_do (wn rfl) (fun K hK => ?_)
 refine ow_call rfl rfl F 50 #[.pointer (some ⟨g, 0, none⟩), .slice A_38 ((rest ++ (b.take tk)).length) c_38] (ex_call 50 _ _ rfl rfl dt_ent_50 _ (map2 (F.e rfl) (F.e rfl))) (block_row h hh (.slice A_38 ((rest ++ (b.take tk)).length) c_38) (((x + BitVec.ofNat 64 n).toNat : Int)) (rest ++ b.take tk) A_38 ((rest ++ (b.take tk)).length) c_38 g _ (hKc.below M.bel) hg0 O_x.rb.1 (by omega) (O_x.ne (M.blk 0 _ rfl)) (M.blk 0 _ rfl)) (fun e v hR => ?_)
 obtain ⟨he, hgr, hn⟩ := hR
 refine ⟨.tuple #[], he, ?_⟩; clear he F a; intro a F
 refine hK _ _ ?_
 clear hK K
 have Mo := M; clear M
 replace O_x := O_x.grown (Mo.blk 0 _ rfl) (by show 5 ≠ 82; decide) hgr
 replace hB := hB.box hgr
 replace Gc := Gc.box hgr
 have M : Mm (cutW w base) v [⟨g, (hcs (blk h (rest ++ b.take tk)) (.slice A_38 ((rest ++ (b.take tk)).length) c_38) (((x + BitVec.ofNat 64 n).toNat : Int))).toArray, 82⟩] := Mo.grown (b := ⟨g, (hcs h (.slice A_38 ((rest ++ (b.take tk)).length) c_38) (((x + BitVec.ofNat 64 n).toNat : Int))).toArray, 82⟩) (i := 0) rfl ((hcs (blk h (rest ++ b.take tk)) (.slice A_38 ((rest ++ (b.take tk)).length) c_38) (((x + BitVec.ofNat 64 n).toNat : Int))).toArray) hgr hn
 clear Mo hgr hn; try clear u
 refine wpList_nil ?_
 replace F : Fr 82 a [(0, .pointer (some ⟨g, 0, none⟩)), (1, .slice (cutA B tk c) (n - tk) (c - tk)), (4, .int .i64 ((tk : Nat) : Int)), (20, .bool true), (49, .bool false)] := F.keep ⟨rfl, rfl, rfl, rfl, rfl, trivial⟩
 refine then_n ?_
 refine wp_region_lit ?_
 refine list_val F (wn rfl) rfl rfl (.pointer (some ⟨g, 0, none⟩)) (ex_move _ rfl _ (F.e rfl)) ?_; clear F a; intro a F
 refine list_val F (wn rfl) rfl rfl (.pointer (some ⟨g, 0, none⟩)) (ex_move _ rfl _ (F.e rfl)) ?_; clear F a; intro a F
 refine list_val F (wn rfl) rfl rfl (.pointer (some ⟨g, 0, none⟩)) (ex_nilck _ rfl _ (F.e rfl)) ?_; clear F a; intro a F
 refine list_val F (wn rfl) rfl rfl (.pointer (some ⟨g, 8, none⟩)) (ex_fa _ _ _ rfl _ (F.e rfl) 8 dt_fa_82_1_8 ⟨g, 8, none⟩ rfl) ?_; clear F a; intro a F
 refine list_val F (wn rfl) rfl rfl (.slice A_38 ((rest ++ (b.take tk)).length) c_38) (ex_load _ _ rfl _ (F.e rfl) _ (lv1 dt_one_23 (M.cell (i := 0) rfl (j := 8) (hcs_a8 (blk_len _ hh))))) ?_; clear F a; intro a F
 refine list_val F (wn rfl) rfl rfl (.slice A_38 0 c_38) (ex_cutto _ _ rfl A_38 ((rest ++ (b.take tk)).length) c_38 (F.e rfl) _ rfl 0 rfl (by exact Nat.zero_le _)) ?_; clear F a; intro a F
 refine list_val F (wn rfl) rfl rfl (.pointer (some ⟨g, 0, none⟩)) (ex_nilck _ rfl _ (F.e rfl)) ?_; clear F a; intro a F
 refine list_val F (wn rfl) rfl rfl (.pointer (some ⟨g, 8, none⟩)) (ex_fa _ _ _ rfl _ (F.e rfl) 8 dt_fa_82_1_8 ⟨g, 8, none⟩ rfl) ?_; clear F a; intro a F
 refine list_do (wn rfl) (fun K hK => ?_)
 refine ow_store F M rfl 23 _ _ rfl 0 g _ _ rfl 8 (F.e rfl) _ (F.e rfl) [.slice A_38 0 c_38] rfl dt_info_23_map_size_some_1 (by rw [List.size_toArray, hcs_len, (blk_len _ hh)]; simp) (by simp [Value.oneCell']) (hcs (blk h (rest ++ b.take tk)) (.slice A_38 0 c_38) (((x + BitVec.ofNat 64 n).toNat : Int))).toArray (congrArg List.toArray (hcs_put8 (blk_len _ hh))) ?_
 clear F a; have Mo := M; clear M; intro a u F M hgr
 refine hK _ _ ?_
 clear hK K
 replace O_x := O_x.grown (Mo.blk 0 _ rfl) (by show 5 ≠ 82; decide) hgr
 replace hB := hB.box hgr
 replace Gc := Gc.box hgr
 clear Mo hgr; try clear v
 replace M : Mm (cutW w base) u [⟨g, (hcs (blk h (rest ++ b.take tk)) (.slice A_38 0 c_38) (((x + BitVec.ofNat 64 n).toNat : Int))).toArray, 82⟩] := M
 replace O_x := O_x.cut0
 replace hB := hB.same (own_block_zero A_38 0 c_38 _ _)
 replace Gc := Gc.same (own_block_zero A_38 0 c_38 _ _)
 refine wpList_nil ?_
 replace F : Fr 82 a [(0, .pointer (some ⟨g, 0, none⟩)), (1, .slice (cutA B tk c) (n - tk) (c - tk)), (4, .int .i64 ((tk : Nat) : Int)), (20, .bool true), (49, .bool false)] := F.keep ⟨rfl, rfl, rfl, rfl, rfl, trivial⟩
 refine then_n ?_
 refine wp_seq ?_
 refine wp_block ?_
 refine wp_loopN (fun mq ar wr => ∃ (h2 : List Wd), ∃ (B2 : Option Addr), ∃ (n2 : Nat), ∃ (c2 : Nat), ∃ (b2 : List By), ∃ (i : Nat), Fr 82 ar [(0, .pointer (some ⟨g, 0, none⟩)), (1, .slice B2 n2 c2), (4, .int .i64 ((tk : Nat) : Int)), (20, .bool true), (49, .bool false)] ∧ Mm (cutW w base) wr [⟨g, (hcs h2 (.slice A_38 0 c_38) (((x + BitVec.ofNat 64 n).toNat : Int))).toArray, 82⟩] ∧ OwB wr (cutW w base).heap.size (.slice A_38 0 c_38) ([]) ∧ RbA wr B2 n2 c2 b2 g (.slice A_38 0 c_38) ∧ Cg w wr g R (.slice A_38 0 c_38) ∧ feed h (rest ++ b) = feed h2 b2 ∧ h2.length = 8 ∧ n2 + 64 * i = (n - tk) ∧ mq + i = (n - tk)) (n - tk) ?_ ?_
 ·
  exact ⟨(blk h (rest ++ b.take tk)), (cutA B tk c), (n - tk), (c - tk), (b.drop tk), 0, F.keep ⟨rfl, rfl, rfl, rfl, rfl, trivial⟩, M, O_x, hB, Gc, (feed_first (by omega)), (blk_len _ hh), rfl, (by omega)⟩
 clear F M a O_x hB Gc
 rintro mq a v ⟨h2, B2, n2, c2, b2, i, F, M, O_x, hB, Gc, hf, hh2, hn2, hq⟩; try clear u
 have hlb := hB.1.1; have hmx := hB.1.2.1; have hnc := hB.2.1; simp only [maxLen] at hmx
 by_cases h64 : 64 ≤ n2
 ·
  refine wp_seq ?_
  refine wp_seq ?_
  refine wp_region_lit ?_
  refine list_val F (wn rfl) rfl rfl (.slice B2 n2 c2) (ex_move _ rfl _ (F.e rfl)) ?_; clear F a; intro a F
  refine list_val F (wn rfl) rfl rfl (.int .i64 ((n2 : Nat) : Int)) (ex_len _ _ rfl 1 dt_sl_23_1 _ _ _ (F.e rfl)) ?_; clear F a; intro a F
  refine list_val F (wn rfl) rfl rfl (.bool true) (ex_bin .geq _ _ _ _ rfl .i64 _ _ (F.e rfl) rfl _ (b_geq (decide_eq_true (by omega)))) ?_; clear F a; intro a F
  refine wpList_nil ?_
  replace F : Fr 82 a [(0, .pointer (some ⟨g, 0, none⟩)), (1, .slice B2 n2 c2), (4, .int .i64 ((tk : Nat) : Int)), (20, .bool true), (49, .bool false), (66, .bool true)] := F.keep ⟨rfl, rfl, rfl, rfl, rfl, rfl, trivial⟩
  refine then_n ?_
  refine wp_cond_true (F.e rfl) ?_
  refine wp_skip ?_
  refine then_n ?_
  refine wp_block ?_
  refine wp_seq ?_
  refine wp_region_lit ?_
  refine list_val F (wn rfl) rfl rfl (.pointer (some ⟨g, 0, none⟩)) (ex_move _ rfl _ (F.e rfl)) ?_; clear F a; intro a F
  refine list_val F (wn rfl) rfl rfl (.slice B2 n2 c2) (ex_move _ rfl _ (F.e rfl)) ?_; clear F a; intro a F
  refine list_val F (wn rfl) rfl rfl (.slice B2 64 c2) (ex_cutto _ _ rfl B2 n2 c2 (F.e rfl) _ rfl 64 rfl (by omega)) ?_; clear F a; intro a F
  refine list_do (wn rfl) (fun K hK => ?_)
  refine ow_call rfl rfl F 50 #[.pointer (some ⟨g, 0, none⟩), .slice B2 64 c2] (ex_call 50 _ _ rfl rfl dt_ent_50 _ (map2 (F.e rfl) (F.e rfl))) (block_row h2 hh2 (.slice A_38 0 c_38) (((x + BitVec.ofNat 64 n).toNat : Int)) (b2.take 64) B2 64 c2 g _ (hKc.below M.bel) hg0 (hB.1.take (by omega)) rfl (fun ad e => (hB.2.2 (by omega) ad e).1) (M.blk 0 _ rfl)) (fun e u hR => ?_)
  obtain ⟨he, hgr, hn⟩ := hR
  refine ⟨.tuple #[], he, ?_⟩; clear he F a; intro a F
  refine hK _ _ ?_
  clear hK K
  have Mo := M; clear M
  replace O_x := O_x.grown (Mo.blk 0 _ rfl) (by show 5 ≠ 82; decide) hgr
  replace hB := hB.box hgr
  replace Gc := Gc.box hgr
  have M : Mm (cutW w base) u [⟨g, (hcs (blk h2 (b2.take 64)) (.slice A_38 0 c_38) (((x + BitVec.ofNat 64 n).toNat : Int))).toArray, 82⟩] := Mo.grown (b := ⟨g, (hcs h2 (.slice A_38 0 c_38) (((x + BitVec.ofNat 64 n).toNat : Int))).toArray, 82⟩) (i := 0) rfl ((hcs (blk h2 (b2.take 64)) (.slice A_38 0 c_38) (((x + BitVec.ofNat 64 n).toNat : Int))).toArray) hgr hn
  clear Mo hgr hn; try clear v
  refine wpList_nil ?_
  replace F : Fr 82 a [(0, .pointer (some ⟨g, 0, none⟩)), (1, .slice B2 n2 c2), (4, .int .i64 ((tk : Nat) : Int)), (20, .bool true), (49, .bool false), (66, .bool true)] := F.keep ⟨rfl, rfl, rfl, rfl, rfl, rfl, trivial⟩
  refine then_n ?_
  refine wp_region_lit ?_
  refine list_val F (wn rfl) rfl rfl (.slice B2 n2 c2) (ex_move _ rfl _ (F.e rfl)) ?_; clear F a; intro a F
  refine list_val F (wn rfl) rfl rfl (.slice (cutA B2 64 c2) (n2 - 64) (c2 - 64)) (ex_cutend _ _ rfl B2 n2 c2 (F.e rfl) _ rfl 64 rfl (by omega)) ?_; clear F a; intro a F
  refine list_val F (wn rfl) rfl rfl (.slice (cutA B2 64 c2) (n2 - 64) (c2 - 64)) (ex_assign _ rfl _ (F.e rfl)) ?_; clear F a; intro a F
  refine wpList_nil ?_
  replace F : Fr 82 a [(0, .pointer (some ⟨g, 0, none⟩)), (1, .slice (cutA B2 64 c2) (n2 - 64) (c2 - 64)), (4, .int .i64 ((tk : Nat) : Int)), (20, .bool true), (49, .bool false), (66, .bool true)] := F.keep ⟨rfl, rfl, rfl, rfl, rfl, rfl, trivial⟩
  refine in_n ?_
  refine then_n ?_
  replace hB := hB.cut (k := 64) (by omega)
  exact ⟨(n - tk) - (i + 1), by omega, (blk h2 (b2.take 64)), (cutA B2 64 c2), (n2 - 64), (c2 - 64), (b2.drop 64), (i + 1), F.keep ⟨rfl, rfl, rfl, rfl, rfl, trivial⟩, (by refine M.pick' [0] _ ?_ (by decide); exact ⟨rfl, trivial⟩), O_x, hB, Gc, (by rw [hf, feed_ge (by omega)]), (blk_len _ hh2), (by omega), (by omega)⟩
 refine wp_seq ?_
 refine wp_seq ?_
 refine wp_region_lit ?_
 refine list_val F (wn rfl) rfl rfl (.slice B2 n2 c2) (ex_move _ rfl _ (F.e rfl)) ?_; clear F a; intro a F
 refine list_val F (wn rfl) rfl rfl (.int .i64 ((n2 : Nat) : Int)) (ex_len _ _ rfl 1 dt_sl_23_1 _ _ _ (F.e rfl)) ?_; clear F a; intro a F
 refine list_val F (wn rfl) rfl rfl (.bool false) (ex_bin .geq _ _ _ _ rfl .i64 _ _ (F.e rfl) rfl _ (b_geq (decide_eq_false (by omega)))) ?_; clear F a; intro a F
 refine wpList_nil ?_
 replace F : Fr 82 a [(0, .pointer (some ⟨g, 0, none⟩)), (1, .slice B2 n2 c2), (4, .int .i64 ((tk : Nat) : Int)), (20, .bool true), (49, .bool false), (66, .bool false)] := F.keep ⟨rfl, rfl, rfl, rfl, rfl, rfl, trivial⟩
 refine then_n ?_
 refine wp_cond_false (F.e rfl) ?_
 refine wp_exit ?_
 refine then_x ?_
 refine then_x ?_
 refine in_hit ?_
 refine then_n ?_
 refine wp_region_lit ?_
 refine list_val F (wn rfl) rfl rfl (.pointer (some ⟨g, 0, none⟩)) (ex_move _ rfl _ (F.e rfl)) ?_; clear F a; intro a F
 refine list_val F (wn rfl) rfl rfl (.pointer (some ⟨g, 0, none⟩)) (ex_move _ rfl _ (F.e rfl)) ?_; clear F a; intro a F
 refine list_val F (wn rfl) rfl rfl (.pointer (some ⟨g, 0, none⟩)) (ex_nilck _ rfl _ (F.e rfl)) ?_; clear F a; intro a F
 refine list_val F (wn rfl) rfl rfl (.pointer (some ⟨g, 8, none⟩)) (ex_fa _ _ _ rfl _ (F.e rfl) 8 dt_fa_82_1_8 ⟨g, 8, none⟩ rfl) ?_; clear F a; intro a F
 refine list_val F (wn rfl) rfl rfl (.slice A_38 0 c_38) (ex_load _ _ rfl _ (F.e rfl) _ (lv1 dt_one_23 (M.cell (i := 0) rfl (j := 8) (hcs_a8 hh2)))) ?_; clear F a; intro a F
 refine list_val F (wn rfl) rfl rfl (.slice B2 n2 c2) (ex_move _ rfl _ (F.e rfl)) ?_; clear F a; intro a F
 refine list_do (wn rfl) (fun K hK => ?_)
 refine ow_appB F M rfl rfl rfl rfl _ _ rfl A_38 0 c_38 ([]) b2 _ _ _ (F.e rfl) (F.e rfl) O_x (hB.1) (by show 0 + n2 ≤ _; omega) ?_
 clear F a M O_x; intro a A_79 c_79 u F M O_x hg hat
 replace hB := hB.row hg hat
 replace Gc := Gc.row hg hat
 clear hg hat
 refine hK _ _ ?_
 clear hK K
 try clear v
 refine list_val F (wn rfl) rfl rfl (.pointer (some ⟨g, 0, none⟩)) (ex_nilck _ rfl _ (F.e rfl)) ?_; clear F a; intro a F
 refine list_val F (wn rfl) rfl rfl (.pointer (some ⟨g, 8, none⟩)) (ex_fa _ _ _ rfl _ (F.e rfl) 8 dt_fa_82_1_8 ⟨g, 8, none⟩ rfl) ?_; clear F a; intro a F
 refine list_do (wn rfl) (fun K hK => ?_)
 refine ow_store F M rfl 23 _ _ rfl 0 g _ _ rfl 8 (F.e rfl) _ (F.e rfl) [.slice A_79 (([] ++ b2).length) c_79] rfl dt_info_23_map_size_some_1 (by rw [List.size_toArray, hcs_len, hh2]; simp) (by simp [Value.oneCell']) (hcs h2 (.slice A_79 (([] ++ b2).length) c_79) (((x + BitVec.ofNat 64 n).toNat : Int))).toArray (congrArg List.toArray (hcs_put8 hh2)) ?_
 clear F a; have Mo := M; clear M; intro a v F M hgr
 refine hK _ _ ?_
 clear hK K
 replace O_x := O_x.grown (Mo.blk 0 _ rfl) (by show 5 ≠ 82; decide) hgr
 replace hB := hB.box hgr
 replace Gc := Gc.box hgr
 clear Mo hgr; try clear u
 replace M : Mm (cutW w base) v [⟨g, (hcs h2 (.slice A_79 (([] ++ b2).length) c_79) (((x + BitVec.ofNat 64 n).toNat : Int))).toArray, 82⟩] := M
 refine wpList_nil ?_
 replace F : Fr 82 a [(0, .pointer (some ⟨g, 0, none⟩)), (1, .slice B2 n2 c2), (4, .int .i64 ((tk : Nat) : Int)), (20, .bool true), (49, .bool false), (66, .bool false)] := F.keep ⟨rfl, rfl, rfl, rfl, rfl, rfl, trivial⟩
 rw [feed_lt (h := h2) (by omega)] at hf
 rw [hf]
 exact ret_none F rfl ⟨rfl, A_79, c_79, M.blk 0 _ rfl, O_x, Gc⟩
end Go.Proofs.YtkppipeadibfkaaDoor
