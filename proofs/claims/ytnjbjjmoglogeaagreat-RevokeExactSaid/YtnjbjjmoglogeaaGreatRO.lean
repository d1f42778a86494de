/- Rows of values of one size (kBlk): what is read of one, rows of one's own, appends, slices of slices, function values; generic. No conditions but those of each lemma. -/
import Derived.Test.YtnjbjjmoglogeaaGreatWG
import Derived.LoopN
import Derived.Lib.Bytealg
import Derived.Lib.BytesEntry
import Derived.Lib.Overlaps
import Derived.Lib.SliceRun
namespace Go.Proofs.YtnjbjjmoglogeaaGreat.RO
open Go.RowKit Go.Proofs.YtnjbjjmoglogeaaGreatW.PrintWords KB WG
set_option linter.unusedVariables false
set_option linter.unusedSimpArgs false
set_option linter.unnecessarySimpa false
theorem rounds_do {P : Program} {Q : Exit → Act → World → Prop} {a : Act} {w : World} {c : Code} (n : Nat) (h : c.wp P (Exit.then (Code.rounds P c Q n) Q) a w) : Code.rounds P c Q (n + 1) a w := h
/-! ### The world ahead of a block -/
def cutW (w : World) (g : Nat) : World := { w with heap := w.heap.extract 0 g }
theorem cut_size {w : World} {g : Nat} (h : g ≤ w.heap.size) : (cutW w g).heap.size = g := by simp [cutW]; omega
theorem cut_below {w : World} {g : Nat} (h : g ≤ w.heap.size) : Below (cutW w g).heap.size (cutW w g) w := by
  refine ⟨rfl, rfl, rfl, by rw [cut_size h]; omega, fun k hk => ?_⟩
  rw [cut_size h] at hk
  show w.heap[k]? = (w.heap.extract 0 g)[k]?
  rw [Array.getElem?_extract]
  simp; omega
theorem cut_nil {w : World} {g : Nat} (h : g ≤ w.heap.size) : Mm (cutW w g) w [] := ⟨cut_below h, fun _ _ h => by simp at h, fun _ _ h => by simp at h, fun _ _ _ _ h => by simp at h⟩
/-- What holds ahead of the cut holds ahead of that block. -/
theorem cut_to {w w' : World} {g : Nat} (h : g ≤ w.heap.size) (hs : w.heap.size ≤ w'.heap.size) (hb : Below (cutW w g).heap.size (cutW w g) w') : Below g w w' := by
  have hc := cut_below h
  rw [cut_size h] at hb hc
  exact ⟨hb.os.trans hc.os.symm, hb.tape.trans hc.tape.symm, hb.output.trans hc.output.symm, hs, fun k hk => (hb.block k hk).trans (hc.block k hk).symm⟩
section
variable {α : Type} {enc : α → List Value} {m : Nat} {hl : ∀ x, (enc x).length = m} {h1 : ∀ x, ∀ u ∈ enc x, u.oneCell' = true}
/-! ### What is read -/
theorem C_ix {w : World} {A : Option Addr} {n : Nat} {xs : List α} (h : (kBlk enc m hl h1).C w A n xs) {i : Nat} {x : α} (hx : xs[i]? = some x) : ∃ ad, A = some ad ∧ At w (ad.add (i * m)) (enc x) := by
  have hi := (List.getElem?_eq_some_iff.1 hx).1
  have hn : n = xs.length := h.1.symm
  obtain ⟨ad, e, hA⟩ := kBlk_at x h (i : Int) (by omega) (by omega)
  rw [show (i : Int).toNat = i from rfl, List.getD_eq_getElem?_getD, hx] at hA
  exact ⟨ad, e, hA⟩
theorem C_one {w : World} {ad : Addr} {x : α} (h : At w ad (enc x)) : (kBlk enc m hl h1).C w (some ad) 1 [x] :=
  ⟨rfl, by decide, fun _ => ⟨ad, rfl, fun k y hk => by
    match k, hk with
    | 0, hk =>
      obtain rfl := Option.some.inj hk
      refine ⟨enc x, hl x, rfl, fun j v hv => ?_⟩
      rw [Nat.zero_mul, Nat.zero_add]
      exact h j v hv
    | k + 1, hk => simp at hk⟩⟩
def cutA (m : Nat) (A : Option Addr) (k c : Nat) : Option Addr := if c = k then A else A.map (·.add (k * m))
theorem C_mid {w : World} {A : Option Addr} {xs : List α} (h : (kBlk enc m hl h1).C w A xs.length xs) {i j c : Nat} (hij : i ≤ j) (hj : j ≤ xs.length) (hc : xs.length ≤ c) : (kBlk enc m hl h1).C w (cutA m A i c) (j - i) ((xs.drop i).take (j - i)) := by
  have h2 := Kd.C_drop (c := c) h (show i ≤ xs.length by omega) hc
  have h3 := Kd.C_take (m := j - i) h2 (by rw [List.length_drop]; omega)
  rw [List.length_take, List.length_drop, Nat.min_eq_left (by omega)] at h3
  exact h3
theorem C_fst {w : World} {A : Option Addr} {xs : List α} (h : (kBlk enc m hl h1).C w A xs.length xs) {j : Nat} (hj : j ≤ xs.length) : (kBlk enc m hl h1).C w A j (xs.take j) := by
  have h3 := Kd.C_take (m := j) h hj
  rwa [List.length_take, Nat.min_eq_left hj] at h3
theorem C_snd {w : World} {A : Option Addr} {xs : List α} (h : (kBlk enc m hl h1).C w A xs.length xs) {i c : Nat} (hi : i ≤ xs.length) (hc : xs.length ≤ c) : (kBlk enc m hl h1).C w (cutA m A i c) (xs.length - i) (xs.drop i) := by
  have h2 := Kd.C_drop (c := c) h hi hc
  rwa [List.length_drop] at h2
/-! ### Rows of one's own -/
def Ow (k : Kd α) (e : TypeId) (w : World) (base : Nat) (v : Value) (xs : List α) : Prop := k.R e w base (fun _ => True) v xs
variable {e : TypeId}
theorem Ow.nil (k : Kd α) (e : TypeId) (w : World) (base : Nat) : Ow k e w base (.slice none 0 0) [] := ⟨fun _ _ => trivial, [], ⟨by simp, .inl ⟨rfl, rfl⟩⟩, Reps.none _ _⟩
theorem Ow.slice {k : Kd α} {w : World} {base : Nat} {v : Value} {xs : List α} (h : Ow k e w base v xs) : ∃ A c, v = .slice A xs.length c := Kd.R_slice h
theorem Ow.rd {k : Kd α} {w : World} {base : Nat} {A : Option Addr} {n c : Nat} {xs : List α} (h : Ow k e w base (.slice A n c) xs) : k.C w A xs.length xs ∧ n = xs.length ∧ xs.length ≤ c := by
  have h2 := Kd.R_reads' h
  have e1 := h2.1
  subst e1
  exact ⟨h2.2.2, rfl, h2.2.1⟩
theorem Ow.below {k : Kd α} {w w1 : World} {base : Nat} {v : Value} {xs : List α} (h : Ow k e w base v xs) (hb : Below w.heap.size w w1) : Ow k e w1 base v xs := Kd.R_below h hb
theorem Ow.low {w : World} {b b' : Nat} {v : Value} {xs : List α} (h : Ow (kBlk enc m hl h1) e w b v xs) (hb : b' ≤ b) : Ow (kBlk enc m hl h1) e w b' v xs := by
  obtain ⟨h0, inner, ⟨h1, h2⟩, hr⟩ := h
  refine ⟨h0, inner, ⟨h1, ?_⟩, hr⟩
  rcases h2 with h2 | ⟨g, cap, cur, hv, hg, hrest⟩
  · exact .inl h2
  · exact .inr ⟨g, cap, cur, hv, Nat.le_trans hb hg, hrest⟩
theorem Ow.bound {w : World} {base : Nat} {v : Value} {xs : List α} (h : Ow (kBlk enc m hl h1) e w base v xs) {k : Nat} (hk : v.ownBlock = some k) : base ≤ k ∧ k < w.heap.size ∧ ∃ cells, w.heap[k]? = some (.cells cells e (0, 0)) := by
  obtain ⟨_, h2, h3, q, hq, cells, hc⟩ := (Kd.R_bound h).1 k hk
  obtain rfl : q = e := by simpa [kBlk] using hq
  exact ⟨h2, h3, cells, hc⟩
theorem Ow.far {w w1 : World} {base : Nat} {v : Value} {xs : List α} (h : Ow (kBlk enc m hl h1) e w base v xs) {r : Option Nat} (hg : w.grownBy w1 r) (hr : ∀ k, v.ownBlock = some k → some k ≠ r) : Ow (kBlk enc m hl h1) e w1 base v xs :=
  Kd.R_mono (Kd.R_grown (ok := fun k => True ∧ some k ≠ r) ⟨fun k hk => ⟨trivial, hr k hk⟩, by
    obtain ⟨_, inner, ho, hrr⟩ := h
    exact ⟨inner, ho, hrr.imp_ (fun _ _ hp => hp)⟩⟩ hg (fun k hk => hk.2)) (fun _ _ => trivial)
theorem Ow.grown {w w1 : World} {base : Nat} {v : Value} {xs : List α} {g t : Nat} {cells : Array Value} (h : Ow (kBlk enc m hl h1) e w base v xs) (hb : w.heap[g]? = some (.cells cells t (0, 0))) (ht : e ≠ t ∨ g < base) (hg : w.grownBy w1 (some g)) : Ow (kBlk enc m hl h1) e w1 base v xs :=
  h.far hg (fun k hk e2 => by
    obtain ⟨hbk, _, c, hc⟩ := h.bound hk
    injection e2 with e2
    subst e2
    rcases ht with ht | ht
    · rw [hb] at hc
      injection hc with hc
      injection hc with _ hc
      exact ht hc.symm
    · omega)
theorem reps_flat {xs : List α} {inner : List Value} (hm : 0 < m) (hl : ∀ x, (enc x).length = m) (h : Reps (fun (x : α) (cs : List Value) => cs = enc x) m xs inner) : inner = xs.flatMap enc := by
  obtain ⟨hln, hr⟩ := h
  have hl2 := rows_len hl xs
  apply List.ext_getElem?
  intro t
  rcases Nat.lt_or_ge t (xs.length * m) with ht | ht
  · have hq : t / m < xs.length := (Nat.div_lt_iff_lt_mul hm).2 ht
    have hdm : t / m * m + t % m = t := by rw [Nat.mul_comm]; exact Nat.div_add_mod t m
    obtain ⟨k, hk⟩ : ∃ k, xs[t / m]? = some k := ⟨_, List.getElem?_eq_getElem hq⟩
    have h1 := hr _ _ hk
    have hj : t % m < m := Nat.mod_lt _ hm
    have h2 : inner[t]? = (enc k)[t % m]? := by
      rw [← h1, List.getElem?_take_of_lt hj, List.getElem?_drop, hdm]
    obtain ⟨v, hv⟩ : ∃ v, (enc k)[t % m]? = some v := ⟨_, List.getElem?_eq_getElem (by rw [hl]; exact hj)⟩
    have h3 := rows_get hl (sp := []) hk hv
    rw [List.append_nil, hdm] at h3
    rw [h2, hv, h3]
  · rw [List.getElem?_eq_none (by omega), List.getElem?_eq_none (by omega)]
/-- A row of one's own that has items is a block. -/
theorem Ow.open {w : World} {base : Nat} {A : Option Addr} {n c : Nat} {xs : List α} (hO : Ow (kBlk enc m hl h1) e w base (.slice A n c) xs) (hm : 0 < m) (hn : 0 < xs.length) :
    ∃ g sp, A = some ⟨g, 0, none⟩ ∧ n = xs.length ∧ base ≤ g ∧ w.heap[g]? = some (.cells (xs.flatMap enc ++ sp).toArray e (0, 0)) ∧ (xs.flatMap enc ++ sp).length = c * m ∧ xs.length ≤ c ∧ c ≤ maxLen := by
  obtain ⟨_, inner, ho, hr⟩ := hO
  rcases ho.2 with ⟨_, h0⟩ | ⟨g, cap, cur, hv, hg, hh, hnc, hcm, hsz, htk⟩
  · omega
  · simp only [Value.slice.injEq] at hv
    obtain ⟨rfl, rfl, rfl⟩ := hv
    have hf := reps_flat hm hl hr
    rw [hf] at htk
    change cur.toList.take (xs.length * m) = _ at htk
    have e : cur = (xs.flatMap enc ++ cur.toList.drop (xs.length * m)).toArray := by
      rw [← htk, List.take_append_drop, Array.toArray_toList]
    refine ⟨g, cur.toList.drop (xs.length * m), rfl, rfl, hg, ?_, ?_, hnc, hcm⟩
    · rw [← e]; exact hh
    · rw [← htk, List.take_append_drop, Array.length_toList]; exact hsz
theorem Ow.of_block {w : World} {base g n c : Nat} {xs : List α} {sp : List Value} (hh : w.heap[g]? = some (.cells (xs.flatMap enc ++ sp).toArray e (0, 0))) (hg : base ≤ g) (hn : n = xs.length) (hnc : n ≤ c) (hcm : c ≤ maxLen) (hl2 : (xs.flatMap enc ++ sp).length = c * m) : Ow (kBlk enc m hl h1) e w base (.slice (some ⟨g, 0, none⟩) n c) xs := by
  subst hn
  have hr := rows_len hl xs
  refine ⟨fun _ _ => trivial, xs.flatMap enc, ⟨hr, .inr ⟨g, c, _, rfl, hg, hh, hnc, hcm, by rw [List.size_toArray]; exact hl2, ?_⟩⟩, hr, fun j k hk => ?_⟩
  · show (xs.flatMap enc ++ sp).take (xs.length * m) = _
    exact List.take_left' hr
  · show ((xs.flatMap enc).drop (j * m)).take m = enc k
    have hj := (List.getElem?_eq_some_iff.1 hk).1
    rw [rows_split xs j k hk, List.drop_append_of_le_length (by rw [rows_len hl, List.length_take, Nat.min_eq_left (by omega)]; exact Nat.le_refl _), List.drop_eq_nil_of_le (by rw [rows_len hl, List.length_take, Nat.min_eq_left (by omega)]; exact Nat.le_refl _), List.nil_append]
    exact List.take_left' (hl _)
/-- Blocks that stay when rows of type e from base on are written. -/
def farB (e : TypeId) (base : Nat) : List Blk → Prop
  | [] => True
  | b :: l => (b.t ≠ e ∨ b.g < base) ∧ farB e base l
theorem farB_get {base : Nat} : ∀ {H : List Blk}, farB e base H → ∀ (i : Nat) (b : Blk), H[i]? = some b → b.t ≠ e ∨ b.g < base
  | [], _, i, b, h => by simp at h
  | c :: l, ⟨h1, h2⟩, i, b, h => by
    cases i with
    | zero => obtain rfl : c = b := by simpa using h
              exact h1
    | succ i => exact farB_get h2 i b (by simpa using h)
theorem mm_grownO {w0 w w' : World} {H : List Blk} {base : Nat} (M : Mm w0 w H) {v : Value} {xs : List α} (hO : Ow (kBlk enc m hl h1) e w base v xs) (hb0 : w0.heap.size ≤ base) (hT : farB e base H) (hg : w.grownBy w' v.ownBlock) : Mm w0 w' H := by
  have hrow : ∀ k, v.ownBlock = some k → w0.heap.size ≤ k ∧ ∀ (i : Nat) (b : Blk), H[i]? = some b → some b.g ≠ v.ownBlock := fun k hk => by
    obtain ⟨h2, _, cells, hc⟩ := hO.bound hk
    refine ⟨by omega, fun i b hb e2 => ?_⟩
    rw [hk] at e2
    obtain rfl := Option.some.inj e2
    rcases farB_get hT i b hb with h3 | h3
    · have h1 := M.blk i b hb
      rw [hc] at h1
      injection h1 with h1
      injection h1 with _ h1
      exact h3 h1.symm
    · omega
  refine ⟨M.bel.grown hg M.bel.size (fun k hk => (hrow k hk).1), fun i b hb => ?_, M.lo, M.nd⟩
  rw [hg.block _ (M.lt hb) (fun e => (hrow _ e.symm).2 i b hb e)]
  exact M.blk i b hb
/-- Own rows beside one block that is written: another row. -/
theorem Ow.apart {w w1 : World} {base : Nat} {v u : Value} {xs : List α} (h : Ow (kBlk enc m hl h1) e w base v xs) (hg : w.grownBy w1 u.ownBlock) (hne : ∀ k, v.ownBlock = some k → u.ownBlock ≠ some k) : Ow (kBlk enc m hl h1) e w1 base v xs :=
  h.far hg (fun k hk e2 => hne k hk e2.symm)
end
section
variable {α : Type} {enc : α → List Value} {m : Nat} {hl : ∀ x, (enc x).length = m} {h1 : ∀ x, ∀ u ∈ enc x, u.oneCell' = true}
variable {P : Program} {op : Oper} {a : Act} {w w0 : World} {n : Nat} {L : List (Nat × Value)} {H : List Blk} {K : Act → World → Prop} {Q : Exit → Act → World → Prop} {ρ : Operand → Value}
/-- append to a row of one's own. -/
theorem og_app (F : Fr n a L) (M : Mm w0 w H) {base e t b : Nat} {z : Value} (hu : P.underlying t = some (.slice e)) (hz : (P.info? e).map (fun i => (i.zero, i.size, i.bytes)) = some (some z, m, b)) (hzs : z.cells.size = m) (hm : 0 < m) (hb : 0 < b)
    (hb0 : w0.heap.size ≤ base) (hbs : base ≤ w.heap.size) (hT : farB e base H) {d : Nat} (hd : op.dst = some d) (hlt : Nat.blt d n = true) (hgd : op.guard = none) (s x : Operand) (ho : op.op = .call { callee := .builtin .append, args := #[s, x], argTypes := #[t, t] })
    (v : Value) (xs ys zs : List α) (hzz : xs ++ ys = zs) (A : Option Addr) (q c : Nat) (hs : a.eval s = v) (hx : a.eval x = .slice A q c) (HO : Ow (kBlk enc m hl h1) e w base v xs) (HR : (kBlk enc m hl h1).C w A q ys) (hl2 : (xs.length + q) * b ≤ 140737488355328)
    (h : ∀ a' A1 c1 w', Fr n a' ((d, .slice A1 zs.length c1) :: L) → Mm w0 w' H → Ow (kBlk enc m hl h1) e w' base (.slice A1 zs.length c1) zs → w.grownBy w' v.ownBlock → K a' w') : op.wp P a w K Q := by
  subst hzz
  have hw : Region.wanted op (yielded (#[] : Array Oper) a.tmps) = true := wn hgd
  have key := Kd.R_append_rows_step (P := P) (o := op) (a := a) (ops := #[]) (Q := Q) (Kc := K) (kBlk enc m hl h1) (w0 := w) (W := w) base hw s x t e z b ho hu hz hzs hm hb _ xs ys A q c (fun _ => True) (fun _ => False) hs hx HO HR (fun _ _ h => h) (fun _ h => h.elim) (fun _ _ => trivial) ((Below.refl _ w).mono hbs) hbs hl2 ?_
  · rwa [if_pos hw] at key
  · intro v1 w1 hO1 _ hg _
    obtain ⟨A1, c1, rfl⟩ := Kd.R_slice hO1
    rw [hd]
    exact h _ A1 c1 w1 (F.put _ hlt) (mm_grownO M HO hb0 hT hg) hO1 hg
theorem el_of {t e : TypeId} (hu : P.underlying t = some (.slice e)) : P.elem t = e := by simp [Program.elem, hu]
theorem un_of {t e : TypeId} (hu : P.underlying t = some (.slice e)) : P.underlying t = some (.slice (P.elem t)) := by rw [el_of hu]; exact hu
theorem size_run {e m : Nat} (hs : (P.info? e).map (·.size) = some m) (w : World) : (sizeOf e).run P w = .ok m w := by
  obtain ⟨i, hi, hm⟩ := Option.map_eq_some_iff.1 hs
  simp [sizeOf, typeInfo, hi, hm]
/-- The beginning of a row, its end, its middle. -/
theorem ex_cutto (t e m : Nat) (hu : P.underlying t = some (.slice e)) (hs : (P.info? e).map (·.size) = some m) (x y : Operand) (ho : op.op = .slice t x none (some y) none) (A : Option Addr) (q c : Nat) (hx : ρ x = .slice A q c) (j : Int) (hy : ρ y = .int .i64 j) (k : Nat) (hk : j = (k : Int)) (hc : k ≤ c) :
    (execOp ρ op).run P w = .ok (.value (.slice A k c)) w := by
  subst hk
  have ha : (A.map fun x => x.add 0) = A := by cases A <;> simp [Addr.add]
  have hr : (Instr.slice t (.slice A q c) none (some (.int .i64 (k : Int))) none).run P w = .ok (.slice A k c) w := by
    rw [run_slice_h w t A q c (un_of hu) .i64 (k : Int) (by omega) (by omega), el_of hu, size_run hs]
    simp [sliced, Result.andThen, ha]
  unfold execOp
  simp only [ho, hx, hy, Option.map_some, Option.map_none, Sem.run_bind, run_sliceAt_slice _ _ _ _ _ _ (un_of hu), hr, Result.andThen_ok, Sem.run_pure]
theorem ex_cutend (t e m : Nat) (hu : P.underlying t = some (.slice e)) (hs : (P.info? e).map (·.size) = some m) (x y : Operand) (ho : op.op = .slice t x (some y) none none) (A : Option Addr) (q c : Nat) (hx : ρ x = .slice A q c) (j : Int) (hy : ρ y = .int .i64 j) (k : Nat) (hk : j = (k : Int)) (hc : k ≤ q) :
    (execOp ρ op).run P w = .ok (.value (.slice (cutA m A k c) (q - k) (c - k))) w := by
  subst hk
  have hr : (Instr.slice t (.slice A q c) (some (.int .i64 (k : Int))) none none).run P w = .ok (.slice (cutA m A k c) (q - k) (c - k)) w := by
    rw [run_slice_l w t A q c (un_of hu) .i64 (k : Int) (by omega) (by omega), el_of hu, size_run hs]
    simp [sliced, Result.andThen, cutA]
  unfold execOp
  simp only [ho, hx, hy, Option.map_some, Option.map_none, Sem.run_bind, run_sliceAt_slice _ _ _ _ _ _ (un_of hu), hr, Result.andThen_ok, Sem.run_pure]
theorem ex_cutmid (t e m : Nat) (hu : P.underlying t = some (.slice e)) (hs : (P.info? e).map (·.size) = some m) (x y z : Operand) (ho : op.op = .slice t x (some y) (some z) none) (A : Option Addr) (q c : Nat) (hx : ρ x = .slice A q c) (i j : Int) (hy : ρ y = .int .i64 i) (hz : ρ z = .int .i64 j) (k l : Nat) (hk : i = (k : Int)) (hl : j = (l : Int)) (h1 : k ≤ l) (h2 : l ≤ c) :
    (execOp ρ op).run P w = .ok (.value (.slice (cutA m A k c) (l - k) (c - k))) w := by
  subst hk hl
  have hr : (Instr.slice t (.slice A q c) (some (.int .i64 (k : Int))) (some (.int .i64 (l : Int))) none).run P w = .ok (.slice (cutA m A k c) (l - k) (c - k)) w := by
    rw [run_slice_lh w t A q c (un_of hu) .i64 .i64 (k : Int) (l : Int) (by omega) (by omega) (by omega), el_of hu, size_run hs]
    simp [sliced, Result.andThen, cutA]
  unfold execOp
  simp only [ho, hx, hy, hz, Option.map_some, Option.map_none, Sem.run_bind, run_sliceAt_slice _ _ _ _ _ _ (un_of hu), hr, Result.andThen_ok, Sem.run_pure]
/-- A call of a function value of which one knows that it enters. -/
theorem ex_callp (f : Nat) (y : Operand) (xs : Array Operand) (ts : Array TypeId) (ho : op.op = .call { callee := .value y, args := xs, argTypes := ts }) (cap : Array Value) (hy : ρ y = .func (.func f) #[] cap) (vs : Array Value) (hx : xs.map ρ = vs) (he : (callFunc f (vs ++ cap)).run P w = .ok (.enter f (vs ++ cap)) w) : (execOp ρ op).run P w = .ok (.enter f (vs ++ cap)) w := by
  unfold execOp
  simp only [ho, resolve, hy, hx, Deferred.ofValue, Sem.run_bind, Sem.run_pure, Result.andThen_ok, invoke]
  simp [he]
/-- A call of a function without a body, which tells a value. -/
theorem ex_callx (f : Nat) (xs : Array Operand) (ts : Array TypeId) (ho : op.op = .call { callee := .value (.func f), args := xs, argTypes := ts }) (hf : ρ (.func f) = .func (.func f) #[] #[]) (vs : Array Value) (hx : xs.map ρ = vs) (v : Value) (he : (callFunc f vs).run P w = .ok (.value v) w) : (execOp ρ op).run P w = .ok (.value v) w := by
  unfold execOp
  simp only [ho, resolve, hf, hx, Deferred.ofValue, Sem.run_bind, Sem.run_pure, Result.andThen_ok, invoke]
  simp [he]
end
theorem region_anyM {P : Program} {w0 w : World} {H : List Blk} {ops : Array Oper} {R : Act → World → Prop} {a : Act} {id : Nat} (hm : P.follows .mixedOrders = true) (M : Mm w0 w H) (HS : List Blk) (hp : ∀ w', Mm w0 w' H → Mm w0 w' HS)
    (h : ∀ wD, Mm w0 wD H → Below w.heap.size w wD → wpAnyH P .any ops (Only R) (fun w' => Mm w0 w' HS) ops.size (Array.replicate ops.size false) a wD) : (Code.region id ops true).wp P (Only R) a w :=
  wp_region_held_drew (S := fun w' => Mm w0 w' HS) hm (hp _ M.drew) (fun _ => h _ M.drew (below_drew1 (Below.refl _ w)))
end Go.Proofs.YtnjbjjmoglogeaaGreat.RO
