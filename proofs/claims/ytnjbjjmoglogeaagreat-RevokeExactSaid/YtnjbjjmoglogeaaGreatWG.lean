/- A walk by explicit steps: what is known of a frame (Fr) and of the blocks that the call has made (Mm), and a law for each kind of operation. No conditions but those of each lemma. -/
import Derived.Test.YtnjbjjmoglogeaaGreatKB
import Derived.Laws.AppendOwn
namespace Go.Proofs.YtnjbjjmoglogeaaGreat.WG
open Go.RowKit Go.Proofs.YtnjbjjmoglogeaaGreatW.PrintWords KB
set_option linter.unusedVariables false
set_option linter.unusedSimpArgs false

/-! ### What is known of a frame -/
def lk : List (Nat × Value) → Nat → Option Value
  | [], _ => none
  | (d, v) :: l, t => bif Nat.beq d t then some v else lk l t
structure Fr (n : Nat) (a : Act) (L : List (Nat × Value)) : Prop where
  size : a.tmps.size = n
  defers : a.defers = []
  ev : ∀ t v, lk L t = some v → a.eval (.tmp t) = v
theorem Fr.e {n : Nat} {a : Act} {L : List (Nat × Value)} (F : Fr n a L) {t : Nat} {v : Value} (h : lk L t = some v) : a.eval (.tmp t) = v := F.ev t v h
theorem Fr.put {n : Nat} {a : Act} {L : List (Nat × Value)} (F : Fr n a L) {d : Nat} (v : Value) (hd : Nat.blt d n = true) : Fr n (a.put (some d) v) ((d, v) :: L) where
  size := by simp [Act.put, F.size]
  defers := F.defers
  ev := fun t u h => by
    have hd' : d < n := by simpa [Nat.blt_eq] using hd
    simp only [lk] at h
    by_cases e : d = t
    · subst e
      have : Nat.beq d d = true := by simp
      rw [this, cond_true] at h
      obtain rfl := Option.some.inj h
      simp [Act.put, Act.eval, F.size, hd']
    · have hb : Nat.beq d t = false := by
        cases hb : Nat.beq d t with
        | false => rfl
        | true => exact absurd (Nat.eq_of_beq_eq_true hb) e
      rw [hb, cond_false] at h
      have := F.ev t u h
      simp only [Act.eval] at this ⊢
      rw [← this]
      simp [Act.put, Array.getD_eq_getD_getElem?, Array.getElem?_setIfInBounds, e]
def sub (L : List (Nat × Value)) : List (Nat × Value) → Prop
  | [] => True
  | (t, v) :: l => lk L t = some v ∧ sub L l
theorem sub_lk {L : List (Nat × Value)} : ∀ {L' : List (Nat × Value)}, sub L L' → ∀ t v, lk L' t = some v → lk L t = some v
  | [], _, t, v, h => by simp [lk] at h
  | (d, u) :: l, ⟨h1, h2⟩, t, v, h => by
    simp only [lk] at h
    cases hb : Nat.beq d t with
    | true =>
      rw [hb, cond_true] at h
      obtain rfl := Option.some.inj h
      obtain rfl : d = t := by simpa [Nat.beq_eq] using hb
      exact h1
    | false =>
      rw [hb, cond_false] at h
      exact sub_lk h2 t v h
theorem Fr.keep {n : Nat} {a : Act} {L L' : List (Nat × Value)} (F : Fr n a L) (h : sub L L') : Fr n a L' := ⟨F.size, F.defers, fun t v hl => F.ev t v (sub_lk h t v hl)⟩
theorem Fr.wants {n : Nat} {a : Act} {L : List (Nat × Value)} (F : Fr n a L) {op : Oper} {ops : Array Oper} {j : Nat} {c : Bool} (d : Nat) (b : Bool) (hg : op.guard = some (j, c)) (hj : (ops[j]?).bind (·.dst) = some d) (hl : lk L d = some (.bool b)) (r : Bool) (hr : (b == c) = r) :
    Region.wanted op (yielded ops a.tmps) = r := by
  have h := F.ev d _ hl
  have ht : a.tmps[d]? = some (.bool b) := by
    simp only [Act.eval, Array.getD_eq_getD_getElem?] at h
    cases hq : a.tmps[d]? with
    | none => rw [hq] at h; simp [undef] at h
    | some v => rw [hq] at h; simpa using h
  subst hr
  simp only [Region.wanted, hg, yielded, hj, Option.bind_some, ht]
  cases b <;> cases c <;> rfl
theorem Fr.wants0 {n : Nat} {a : Act} {L : List (Nat × Value)} (F : Fr n a L) {op : Oper} {ops : Array Oper} {j : Nat} {c : Bool} (d : Nat) (hg : op.guard = some (j, c)) (hj : (ops[j]?).bind (·.dst) = some d) (hl : lk L d = some undef) :
    Region.wanted op (yielded ops a.tmps) = false := by
  have h := F.ev d _ hl
  have ht : yielded ops a.tmps j = none := by
    simp only [Act.eval, Array.getD_eq_getD_getElem?] at h
    simp only [yielded, hj, Option.bind_some]
    cases hq : a.tmps[d]? with
    | none => rfl
    | some v =>
      rw [hq] at h
      obtain rfl : v = undef := by simpa using h
      rfl
  simp only [Region.wanted, hg, ht]
  rfl
/-- The frame at a function's beginning: its arguments stand in the first slots. -/
def argL : Nat → List Value → List (Nat × Value)
  | _, [] => []
  | k, v :: l => (k, v) :: argL (k + 1) l
theorem argL_lk : ∀ (l : List Value) (k t : Nat) (v : Value), lk (argL k l) t = some v → ∃ j, t = k + j ∧ l[j]? = some v
  | [], k, t, v, h => by simp [argL, lk] at h
  | u :: l, k, t, v, h => by
    simp only [argL, lk] at h
    cases hb : Nat.beq k t with
    | true =>
      rw [hb, cond_true] at h
      obtain rfl : k = t := by simpa [Nat.beq_eq] using hb
      exact ⟨0, rfl, by simpa using h⟩
    | false =>
      rw [hb, cond_false] at h
      obtain ⟨j, rfl, hj⟩ := argL_lk l (k + 1) t v h
      exact ⟨j + 1, by omega, by simpa using hj⟩
theorem Fr.enter {n : Nat} {l : List Value} (hn : Nat.ble l.length n = true) : Fr n { tmps := l.toArray ++ Array.replicate (n - l.toArray.size) undef, defers := [] } (argL 0 l) where
  size := by have : l.length ≤ n := by simpa using hn
             simp; omega
  defers := rfl
  ev := fun t v h => by
    obtain ⟨j, rfl, hj⟩ := argL_lk l 0 t v h
    have hlt : j < l.length := (List.getElem?_eq_some_iff.1 hj).1
    simp only [Act.eval, Nat.zero_add, Array.getD_eq_getD_getElem?]
    rw [Array.getElem?_append_left (by simpa using hlt)]
    simp [hj]

/-! ### What is known of the call's own blocks -/
structure Blk where
  g : Nat
  cs : Array Value
  t : TypeId
structure Mm (w0 w : World) (H : List Blk) : Prop where
  bel : Below w0.heap.size w0 w
  blk : ∀ (i : Nat) (b : Blk), H[i]? = some b → w.heap[b.g]? = some (.cells b.cs b.t (0, 0))
  lo : ∀ (i : Nat) (b : Blk), H[i]? = some b → w0.heap.size ≤ b.g
  nd : ∀ (i j : Nat) (b c : Blk), H[i]? = some b → H[j]? = some c → b.g = c.g → i = j
theorem Mm.nil (w : World) : Mm w w [] := ⟨Below.refl _ _, fun _ _ h => by simp at h, fun _ _ h => by simp at h, fun _ _ _ _ h => by simp at h⟩
theorem Mm.lt {w0 w : World} {H : List Blk} (M : Mm w0 w H) {i : Nat} {b : Blk} (h : H[i]? = some b) : b.g < w.heap.size := (Array.getElem?_eq_some_iff.1 (M.blk i b h)).1
theorem Mm.below {w0 w w' : World} {H : List Blk} (M : Mm w0 w H) (hb : Below w.heap.size w w') : Mm w0 w' H where
  bel := M.bel.trans (hb.mono M.bel.size)
  blk := fun i b h => by rw [hb.block _ (M.lt h)]; exact M.blk i b h
  lo := M.lo
  nd := M.nd
theorem Mm.new {w0 w w' : World} {H : List Blk} (M : Mm w0 w H) (b : Blk) (hb : Below w.heap.size w w') (hg : w.heap.size ≤ b.g) (hn : w'.heap[b.g]? = some (.cells b.cs b.t (0, 0))) : Mm w0 w' (b :: H) where
  bel := M.bel.trans (hb.mono M.bel.size)
  blk := fun i c h => by
    cases i with
    | zero => obtain rfl : b = c := by simpa using h
              exact hn
    | succ i => exact (M.below hb).blk i c (by simpa using h)
  lo := fun i c h => by
    cases i with
    | zero => obtain rfl : b = c := by simpa using h
              exact Nat.le_trans M.bel.size hg
    | succ i => exact M.lo i c (by simpa using h)
  nd := fun i j c d hi hj e => by
    cases i with
    | zero =>
      obtain rfl : b = c := by simpa using hi
      cases j with
      | zero => rfl
      | succ j => have := M.lt (i := j) (b := d) (by simpa using hj); omega
    | succ i =>
      cases j with
      | zero => obtain rfl : b = d := by simpa using hj
                have := M.lt (i := i) (b := c) (by simpa using hi); omega
      | succ j => rw [M.nd i j c d (by simpa using hi) (by simpa using hj) e]
theorem Mm.grown {w0 w w' : World} {H : List Blk} (M : Mm w0 w H) {i : Nat} {b : Blk} (hi : H[i]? = some b) (cs : Array Value) (hg : w.grownBy w' (some b.g)) (hn : w'.heap[b.g]? = some (.cells cs b.t (0, 0))) : Mm w0 w' (H.set i ⟨b.g, cs, b.t⟩) where
  bel := M.bel.grown hg M.bel.size (fun k hk => by injection hk with hk; rw [← hk]; exact M.lo i b hi)
  blk := fun j c h => by
    rw [List.getElem?_set] at h
    split at h
    · split at h
      · obtain rfl := Option.some.inj h; exact hn
      · cases h
    · rename_i hne
      rw [hg.block _ (M.lt h) (fun e => hne (M.nd i j b c hi h (Option.some.inj e).symm))]
      exact M.blk j c h
  lo := fun j c h => by
    rw [List.getElem?_set] at h
    split at h
    · split at h
      · obtain rfl := Option.some.inj h; exact M.lo i b hi
      · cases h
    · exact M.lo j c h
  nd := fun j k c d hj hk e => by
    have key : ∀ (m : Nat) (x : Blk), (H.set i ⟨b.g, cs, b.t⟩)[m]? = some x → ∃ y, H[m]? = some y ∧ y.g = x.g := fun m x h => by
      rw [List.getElem?_set] at h
      split at h
      · rename_i e; subst e
        split at h
        · obtain rfl := Option.some.inj h; exact ⟨b, hi, rfl⟩
        · cases h
      · exact ⟨x, h, rfl⟩
    obtain ⟨y, hy, ey⟩ := key j c hj
    obtain ⟨z, hz, ez⟩ := key k d hk
    exact M.nd j k y z hy hz (by rw [ey, ez, e])
theorem Mm.drew {w0 w : World} {H : List Blk} (M : Mm w0 w H) : Mm w0 w.drew H := M.below (below_drew1 (Below.refl _ w))
theorem Mm.drewN {w0 w : World} {H : List Blk} (M : Mm w0 w H) (k : Nat) : Mm w0 (w.drewN k) H := M.below (pw_below_drewN (Below.refl _ w) k)
theorem Mm.cell {w0 w : World} {H : List Blk} (M : Mm w0 w H) {i : Nat} {g : Nat} {cs : Array Value} {t : TypeId} (h : H[i]? = some ⟨g, cs, t⟩) {j : Nat} {v : Value} (hv : cs[j]? = some v) : w.cell? ⟨g, j, none⟩ = some v := by
  have := M.blk i _ h
  simp only [World.cell?, this]
  simpa using hv
theorem Mm.at {w0 w : World} {H : List Blk} (M : Mm w0 w H) {i : Nat} {g : Nat} {cs : List Value} {t : TypeId} (h : H[i]? = some ⟨g, cs.toArray, t⟩) : At w ⟨g, 0, none⟩ cs := at_block (M.blk i _ h)
theorem Mm.free {w0 w : World} {H : List Blk} (M : Mm w0 w H) {i : Nat} {b : Blk} (h : H[i]? = some b) (j : Nat) : w.frozen? ⟨b.g, j, none⟩ = false := by
  have := M.blk i _ h
  simp [World.frozen?, this]
/-- The first of the blocks falls away. -/
theorem Mm.tail {w0 w : World} {b : Blk} {H : List Blk} (M : Mm w0 w (b :: H)) : Mm w0 w H where
  bel := M.bel
  blk := fun i c h => M.blk (i + 1) c (by simpa using h)
  lo := fun i c h => M.lo (i + 1) c (by simpa using h)
  nd := fun i j c d hi hj e => by have := M.nd (i + 1) (j + 1) c d (by simpa using hi) (by simpa using hj) e; omega
def picks (H : List Blk) : List Nat → List Blk → Prop
  | [], [] => True
  | i :: is, b :: H' => H[i]? = some b ∧ picks H is H'
  | _, _ => False
theorem picks_get {H : List Blk} : ∀ {is : List Nat} {H' : List Blk}, picks H is H' → ∀ (k : Nat) (b : Blk), H'[k]? = some b → ∃ j, is[k]? = some j ∧ H[j]? = some b
  | [], [], _, k, b, h => by simp at h
  | [], _ :: _, h, _, _, _ => h.elim
  | _ :: _, [], h, _, _, _ => h.elim
  | i :: is, c :: H', ⟨h1, h2⟩, k, b, h => by
    cases k with
    | zero => obtain rfl : c = b := by simpa using h
              exact ⟨i, by simp, h1⟩
    | succ k => obtain ⟨j, hj, hb⟩ := picks_get h2 k b (by simpa using h)
                exact ⟨j, by simpa using hj, hb⟩
/-- Other blocks, each of which is one of those. -/
theorem Mm.pick' {w0 w : World} {H : List Blk} (M : Mm w0 w H) (is : List Nat) (H' : List Blk) (h : picks H is H') (hd : is.Nodup) : Mm w0 w H' where
  bel := M.bel
  blk := fun i b hi => by obtain ⟨j, _, hb⟩ := picks_get h i b hi; exact M.blk j b hb
  lo := fun i b hi => by obtain ⟨j, _, hb⟩ := picks_get h i b hi; exact M.lo j b hb
  nd := fun i k b c hi hk e => by
    obtain ⟨j, hj, hb⟩ := picks_get h i b hi
    obtain ⟨l, hl, hc⟩ := picks_get h k c hk
    have := M.nd j l b c hb hc e
    subst this
    have li := (List.getElem?_eq_some_iff.1 hj).1
    have lk := (List.getElem?_eq_some_iff.1 hl).1
    have e1 := (List.getElem?_eq_some_iff.1 hj).2
    have e2 := (List.getElem?_eq_some_iff.1 hl).2
    exact (List.getElem_inj hd).1 (e1.trans e2.symm)

/-! ### Steps through a list of operations -/
section
variable {P : Program} {ops : Array Oper} {Q : Exit → Act → World → Prop} {rest : List Oper} {op : Oper} {a : Act} {w w0 : World} {n : Nat} {L : List (Nat × Value)} {H : List Blk}
theorem list_val (F : Fr n a L) (hw : Region.wanted op (yielded ops a.tmps) = true) {d : Nat} (hd : op.dst = some d) (hlt : Nat.blt d n = true) (v : Value) (he : (execOp a.eval op).run P w = .ok (.value v) w)
    (h : ∀ a', Fr n a' ((d, v) :: L) → wpList P ops Q rest a' w) : wpList P ops Q (op :: rest) a w :=
  wpList_step fun K hK => by
    rw [if_pos hw]
    unfold Oper.wp
    rw [he]
    exact hK _ _ (by rw [hd]; exact h _ (F.put v hlt))
theorem list_skip (F : Fr n a L) (hw : Region.wanted op (yielded ops a.tmps) = false) {d : Nat} (hd : op.dst = some d) (hlt : Nat.blt d n = true)
    (h : ∀ a', Fr n a' ((d, undef) :: L) → wpList P ops Q rest a' w) : wpList P ops Q (op :: rest) a w :=
  wpList_step fun K hK => by
    rw [if_neg (by rw [hw]; simp)]
    exact hK _ _ (by rw [hd]; exact h _ (F.put undef hlt))
theorem list_do (hw : Region.wanted op (yielded ops a.tmps) = true) (h : ∀ K : Act → World → Prop, (∀ a w, wpList P ops Q rest a w → K a w) → op.wp P a w K Q) : wpList P ops Q (op :: rest) a w :=
  wpList_step fun K hK => by
    rw [if_pos hw]
    exact h K hK
/-! Operations that do more than tell a value: at whatever continuation. -/
variable {K : Act → World → Prop}
theorem run_alloc {P : Program} {T : TypeId} {z : Value} (hz : ∀ w, (zeroValue T).run P w = .ok z w) (w : World) : (Instr.alloc T true (.tuple #[])).run P w = .ok (.pointer (some ⟨w.heap.size, 0, none⟩)) (w.alloc (.cells z.cells T)) := by
  unfold Instr.alloc
  simp only [Sem.run_bind, hz w, Result.andThen_ok]
  rfl
theorem blk_of_alloc (w : World) (cs : Array Value) (T : TypeId) : (w.alloc (.cells cs T)).heap[w.heap.size]? = some (.cells cs T (0, 0)) := by
  show (w.heap.push _)[w.heap.size]? = _
  simp
theorem ow_alloc (F : Fr n a L) (M : Mm w0 w H) {d : Nat} (hd : op.dst = some d) (hlt : Nat.blt d n = true) (T : TypeId) (ho : op.op = .alloc T) (z : Value) (hz : ∀ w, (zeroValue T).run P w = .ok z w) (cs : Array Value) (hcs : z.cells = cs)
    (h : ∀ a' g w', Fr n a' ((d, .pointer (some ⟨g, 0, none⟩)) :: L) → Mm w0 w' (⟨g, cs, T⟩ :: H) → Below w.heap.size w w' → w.heap.size ≤ g → K a' w') : op.wp P a w K Q := by
  unfold Oper.wp execOp
  simp only [ho, Sem.run_bind, run_alloc hz w, Result.andThen_ok, Sem.run_pure]
  subst hcs
  have hb : Below w.heap.size w (w.alloc (.cells z.cells T)) := (Below.refl _ _).alloc (Nat.le_refl _) _
  refine h _ w.heap.size _ ?_ (M.new ⟨_, _, _⟩ hb (Nat.le_refl _) (blk_of_alloc _ _ _)) hb (Nat.le_refl _)
  rw [hd]
  exact F.put _ hlt
theorem ow_box (F : Fr n a L) (M : Mm w0 w H) {d : Nat} (hd : op.dst = some d) (hlt : Nat.blt d n = true) (T : TypeId) (x : Operand) (ho : op.op = .box T x) (v : Value) (hx : a.eval x = v) (cs : Array Value) (hcs : v.cells = cs)
    (h : ∀ a' g w', Fr n a' ((d, .pointer (some ⟨g, 0, none⟩)) :: L) → Mm w0 w' (⟨g, cs, T⟩ :: H) → Below w.heap.size w w' → w.heap.size ≤ g → K a' w') : op.wp P a w K Q := by
  unfold Oper.wp execOp
  simp only [ho, hx]
  subst hcs
  have hb : Below w.heap.size w (w.alloc (.cells v.cells T)) := (Below.refl _ _).alloc (Nat.le_refl _) _
  refine h _ w.heap.size _ ?_ (M.new ⟨_, _, _⟩ hb (Nat.le_refl _) (blk_of_alloc _ _ _)) hb (Nat.le_refl _)
  rw [hd]
  exact F.put _ hlt
/-- A whole variable is written. -/
theorem ow_put (F : Fr n a L) (M : Mm w0 w H) (hd : op.dst = none) (T : TypeId) (x y : Operand) (ho : op.op = .store T x y) (i g : Nat) (cs : Array Value) (t : TypeId) (hi : H[i]? = some ⟨g, cs, t⟩) (hx : a.eval x = .pointer (some ⟨g, 0, none⟩)) (cs' : Array Value) (hy : a.eval y = .agg cs')
    (hz : (P.info? T).map (·.size) = some cs'.size) (hs : cs.size = cs'.size) (h1 : cs'.all (·.oneCell') = true)
    (h : ∀ a' w', Fr n a' L → Mm w0 w' (H.set i ⟨g, cs', t⟩) → w.grownBy w' (some g) → K a' w') : op.wp P a w K Q :=
  wp_put_row T x y ho g t cs cs' (M.blk i _ hi) hx hy hz hs h1 (fun w1 hn hg _ => by rw [hd]; exact h _ _ F (M.grown (b := ⟨g, cs, t⟩) hi cs' hg hn) hg)
theorem setRow_grown (w : World) (g : Nat) (cs : Array Value) : w.grownBy (w.setRow g cs) (some g) := grownBy_setRow w g cs
/-- A part of a variable is written: a cell, a field of several, the whole. -/
theorem ow_store (F : Fr n a L) (M : Mm w0 w H) (hd : op.dst = none) (T : TypeId) (x y : Operand) (ho : op.op = .store T x y) (i g : Nat) (cs : Array Value) (t : TypeId) (hi : H[i]? = some ⟨g, cs, t⟩) (o : Nat) (hx : a.eval x = .pointer (some ⟨g, o, none⟩)) (v : Value) (hy : a.eval y = v) (vs : List Value) (hv : v.cells = vs.toArray)
    (hz : (P.info? T).map (·.size) = some vs.length) (hfit : o + vs.length ≤ cs.size) (h1 : ∀ u ∈ vs, u.oneCell' = true) (cs' : Array Value) (hcs : (cs.toList.take o ++ vs ++ cs.toList.drop (o + vs.length)).toArray = cs')
    (h : ∀ a' w', Fr n a' L → Mm w0 w' (H.set i ⟨g, cs', t⟩) → w.grownBy w' (some g) → K a' w') : op.wp P a w K Q := by
  have hb := M.blk i _ hi
  have hst := run_storeCells_at (P := P) g o t vs 0 cs w hb (by simpa using hfit) h1
  simp only [Nat.add_zero] at hst
  rw [hcs] at hst
  have hsv : (storeVar T ⟨g, o, none⟩ v).run P w = .ok () (w.setRow g cs') := by
    cases hq : P.info? T with
    | none => simp [hq] at hz
    | some inf =>
      have hs : inf.size = vs.length := by simpa [hq] using hz
      simp [storeVar, sizeOf, typeInfo, hq, hv, hs, hst]
  unfold Oper.wp execOp
  simp only [ho, hx, hy, Instr.storeAt, Instr.sureAddr, Sem.run_bind, Sem.run_pure, Result.andThen_ok, hsv]
  exact (by rw [hd]; exact h _ _ F (M.grown (b := ⟨g, cs, t⟩) hi cs' (setRow_grown w g cs') (setRow_heap w g cs cs' t (0, 0) hb)) (setRow_grown w g cs') : K (a.put op.dst undef) _)
theorem ow_call {d : Nat} (hd : op.dst = some d) (hlt : Nat.blt d n = true) (F : Fr n a L) (f : Nat) (args : Array Value) (he : (execOp a.eval op).run P w = .ok (.enter f args) w) {R : Ending → World → Prop} (hc : Calls P f args w R)
    (h : ∀ e w', R e w' → ∃ v, e = .returned v ∧ ∀ a', Fr n a' ((d, v) :: L) → K a' w') : op.wp P a w K Q := by
  unfold Oper.wp
  rw [he]
  refine hc.mono fun e w' hR => ?_
  obtain ⟨v, rfl, hK⟩ := h e w' hR
  rw [hd]
  exact hK _ (F.put v hlt)
theorem ow_val (F : Fr n a L) {d : Nat} (hd : op.dst = some d) (hlt : Nat.blt d n = true) (v : Value) (he : (execOp a.eval op).run P w = .ok (.value v) w) (h : ∀ a', Fr n a' ((d, v) :: L) → K a' w) : op.wp P a w K Q := by
  unfold Oper.wp
  rw [he]
  exact (by rw [hd]; exact h _ (F.put v hlt) : K (a.put op.dst v) w)
end

/-! ### Regions, and what stands about them -/
section
variable {P : Program} {Q : Exit → Act → World → Prop} {a : Act} {w : World}
theorem calls_start {fn : Func} {c : Code} {f n : Nat} {l : List Value} {R : Ending → World → Prop} (hf : P.funcs[f]? = some fn) (hb : fn.body = some c) (hn : fn.ntmps = n) (hl : Nat.ble l.length n = true)
    (h : ∀ a, Fr n a (argL 0 l) → c.wp P (bodyPost P fn R) a w) : Calls P f l.toArray w R := by
  subst hn
  exact calls_of_wp hf hb (h _ (Fr.enter hl))
theorem then_n {next : Act → World → Prop} (h : next a w) : Exit.then next Q .normal a w := h
theorem then_x {next : Act → World → Prop} {id : Nat} (h : Q (.exit id) a w) : Exit.then next Q (.exit id) a w := h
theorem then_r {next : Act → World → Prop} (h : Q .ret a w) : Exit.then next Q .ret a w := h
theorem in_n {id : Nat} (h : Q .normal a w) : Exit.inBlock id Q .normal a w := h
theorem in_r {id : Nat} (h : Q .ret a w) : Exit.inBlock id Q .ret a w := h
theorem in_hit {id : Nat} (h : Q .normal a w) : Exit.inBlock id Q (.exit id) a w := by simp only [Exit.inBlock, if_true]; exact h
/-- A loop, by a relation with a number that gets less. -/
theorem wp_loopN {c : Code} (I : Nat → Act → World → Prop) (n : Nat) (h0 : I n a w) (round : ∀ n a w, I n a w → c.wp P (Exit.then (fun a' w' => ∃ m, m < n ∧ I m a' w') Q) a w) : (Code.loop c).wp P Q a w := by
  have find : ∀ (p : Nat → Prop), (∃ n, p n) → ∃ n, p n ∧ ∀ m, p m → n ≤ m := fun p ⟨n, hn⟩ => by
    induction n using Nat.strongRecOn with
    | _ n ih =>
      by_cases h : ∃ m, m < n ∧ p m
      · obtain ⟨m, hm, hp⟩ := h; exact ih m hm hp
      · exact ⟨n, hn, fun m hm => Nat.le_of_not_lt fun hlt => h ⟨m, hlt, hm⟩⟩
  let μ : Act → World → Nat := fun a w => open Classical in if h : ∃ n, I n a w then Classical.choose (find (fun n => I n a w) h) else 0
  have key : ∀ a w, (∃ n, I n a w) → I (μ a w) a w ∧ ∀ m, I m a w → μ a w ≤ m := fun a w h => by
    have := Classical.choose_spec (find (fun n => I n a w) h)
    have e : μ a w = Classical.choose (find (fun n => I n a w) h) := dif_pos h
    rw [e]
    exact this
  refine wp_loop (fun a w => ∃ n, I n a w) μ ⟨n, h0⟩ fun a w hI => ?_
  refine Code.wp_mono (fun e a' w' q => ?_) (round _ a w (key a w hI).1)
  cases e with
  | normal => obtain ⟨m, hm, hI'⟩ := q
              exact ⟨⟨m, hI'⟩, Nat.lt_of_le_of_lt ((key a' w' ⟨m, hI'⟩).2 m hI') hm⟩
  | _ => exact q
theorem ret_tmp {n : Nat} {L : List (Nat × Value)} {fn : Func} {R : Ending → World → Prop} (F : Fr n a L) {t : Nat} {v : Value} (hr : fn.results = #[.tmp t]) (hv : lk L t = some v) (h : R (.returned v) w) : bodyPost P fn R .ret a w :=
  bodyPost_ret (by rw [results_tmp hr]; congr 1; exact F.ev t v hv) F.defers h
theorem ret_tmp2 {n : Nat} {L : List (Nat × Value)} {fn : Func} {R : Ending → World → Prop} (F : Fr n a L) {t s : Nat} {v u : Value} (hr : fn.results = #[.tmp t, .tmp s]) (hv : lk L t = some v) (hu : lk L s = some u) (h : R (.returned (.tuple #[v, u])) w) : bodyPost P fn R .ret a w :=
  bodyPost_ret (by
    rw [results_tmp2 hr]
    have e1 : a.tmps.getD t undef = v := F.ev t v hv
    have e2 : a.tmps.getD s undef = u := F.ev s u hu
    rw [e1, e2]) F.defers h
end

/-! ### What single operations tell, in whatever world -/
section
variable {P : Program} {op : Oper} {ρ : Operand → Value} {w : World}
theorem ex_move (x : Operand) (ho : op.op = .move x) (v : Value) (hx : ρ x = v) : (execOp ρ op).run P w = .ok (.value v) w := by
  unfold execOp
  simp only [ho, hx, Sem.run_pure]
theorem ex_assign (x : Operand) (ho : op.op = .assign x) (v : Value) (hx : ρ x = v) : (execOp ρ op).run P w = .ok (.value v) w := by
  unfold execOp
  simp only [ho, hx, Sem.run_pure]
theorem ex_pick_t (c x y : Operand) (ho : op.op = .pick c x y) (hc : ρ c = .bool true) (v : Value) (hv : ρ x = v) : (execOp ρ op).run P w = .ok (.value v) w := by
  unfold execOp
  simp only [ho, hc]
  subst hv
  rfl
theorem ex_pick_f (c x y : Operand) (ho : op.op = .pick c x y) (hc : ρ c = .bool false) (v : Value) (hv : ρ y = v) : (execOp ρ op).run P w = .ok (.value v) w := by
  unfold execOp
  simp only [ho, hc]
  subst hv
  rfl
theorem ex_load (ty : TypeId) (x : Operand) (ho : op.op = .load ty x) (p : Addr) (hx : ρ x = .pointer (some p)) (v : Value) (hl : (loadVar ty p).run P w = .ok v w) : (execOp ρ op).run P w = .ok (.value v) w := by
  unfold execOp
  simp only [ho, hx, Instr.loadAt, Instr.sureAddr, Sem.run_bind, Sem.run_pure, Result.andThen_ok, hl]
/-- Is it a type of one cell? -/
def one? (P : Program) (t : TypeId) : Bool := match P.underlying t with
  | some (.struct _) | some (.array _ _) | none => false
  | some _ => true
/-- Is it a struct or an array of so many cells? -/
def row? (P : Program) (t : TypeId) (n : Nat) : Bool := (match P.underlying t with
  | some (.struct _) | some (.array _ _) => true
  | _ => false) && (match P.info? t with | some i => Nat.beq i.size n | none => false)
theorem lv1 {t : TypeId} (ht : one? P t = true) {p : Addr} {v : Value} (h : w.cell? p = some v) : (loadVar t p).run P w = .ok v w := by
  unfold one? at ht
  cases hu : P.underlying t with
  | none => simp [hu] at ht
  | some d =>
    have hagg : (isAgg t).run P w = .ok false w := by
      unfold isAgg
      rw [Sem.run_bind, run_underlying hu w]
      cases d <;> simp_all
    have hl : (load p).run P w = .ok v w := by unfold load; simp only [Sem.run, h]
    unfold loadVar
    simp only [Sem.run_bind, hagg, Result.andThen_ok, Bool.false_eq_true, if_false, hl]
theorem lvr {t : TypeId} {cs : List Value} (ht : row? P t cs.length = true) {p : Addr} (h : At w p cs) : (loadVar t p).run P w = .ok (.agg cs.toArray) w := by
  unfold row? at ht
  simp only [Bool.and_eq_true] at ht
  obtain ⟨h1, h2⟩ := ht
  have hi : (P.info? t).map (·.size) = some cs.length := by
    cases hq : P.info? t with
    | none => simp [hq] at h2
    | some i => simp only [hq] at h2; simp [Nat.eq_of_beq_eq_true h2]
  cases hu : P.underlying t with
  | none => simp [hu] at h1
  | some d =>
    have hd : d.isRow = true := by rw [hu] at h1; cases d <;> first | rfl | (simp at h1)
    exact run_loadVar_at w p t cs d h hu hd hi
theorem sz_row {t : TypeId} {m : Nat} (ht : row? P t m = true) : (P.info? t).map (·.size) = some m := by
  unfold row? at ht
  simp only [Bool.and_eq_true] at ht
  obtain ⟨h1, h2⟩ := ht
  cases hq : P.info? t with
  | none => simp [hq] at h2
  | some i => simp only [hq] at h2; simp [Nat.eq_of_beq_eq_true h2]
/-- Field f of struct type t begins at cell o. -/
def fa? (P : Program) (t : TypeId) (f o : Nat) : Bool := match P.underlying t with
  | some (.struct fs) => (match fs[f]? with
    | some fd => Nat.beq fd.offset o && (match P.info? fd.type with | some i => !Nat.beq i.size 0 | none => false)
    | none => false)
  | _ => false
theorem ex_fa (t : TypeId) (x : Operand) (f : Nat) (ho : op.op = .fieldAddr t x f) (p : Addr) (hx : ρ x = .pointer (some p)) (o : Nat) (hf : fa? P t f o = true) (q : Addr) (hq : p.add o = q) : (execOp ρ op).run P w = .ok (.value (.pointer (some q))) w := by
  subst hq
  unfold fa? at hf
  cases hu : P.underlying t with
  | none => simp [hu] at hf
  | some d =>
    cases d with
    | struct fs =>
      simp only [hu] at hf
      cases hg : fs[f]? with
      | none => simp [hg] at hf
      | some fd =>
        simp only [hg] at hf
        cases hi : P.info? fd.type with
        | none => simp [hi] at hf
        | some inf =>
          simp only [hi, Bool.and_eq_true, Nat.beq_eq_true_eq, Bool.not_eq_true', Nat.beq_eq] at hf
          obtain ⟨h1, h2⟩ := hf
          have h2' : ¬ inf.size = 0 := by intro e; rw [e] at h2; simp at h2
          unfold execOp
          simp only [ho, hx, Instr.fieldAt, Sem.run_bind, run_underlying hu w, Result.andThen_ok, hg, Instr.sureAddr, Sem.run_pure]
          simp [fieldPlace, sizeOf, typeInfo, hi, h2', h1]
    | _ => simp [hu] at hf
/-- A slice of elements of so many cells. -/
def sl? (P : Program) (t : TypeId) (m : Nat) : Bool := match P.underlying t with
  | some (.slice e) => (match P.info? e with | some i => Nat.beq i.size m | none => false)
  | _ => false
theorem sl_split {t : TypeId} {m : Nat} (h : sl? P t m = true) : ∃ e, P.underlying t = some (.slice e) ∧ ∀ w, (sizeOf e).run P w = .ok m w := by
  unfold sl? at h
  cases hu : P.underlying t with
  | none => simp [hu] at h
  | some d =>
    cases d with
    | slice e =>
      simp only [hu] at h
      cases hi : P.info? e with
      | none => simp [hi] at h
      | some inf =>
        simp only [hi] at h
        exact ⟨e, rfl, fun w => by simp [sizeOf, typeInfo, hi, Nat.eq_of_beq_eq_true h]⟩
    | _ => simp [hu] at h
theorem ex_ix (t : TypeId) (x y : Operand) (ho : op.op = .indexAddr t x y) (m : Nat) (ht : sl? P t m = true) (ad : Addr) (n c : Nat) (hx : ρ x = .slice (some ad) n c) (k : IntKind) (i : Int) (hy : ρ y = .int k i) (j : Nat) (hj : i = (j : Int)) (hlt : j < n) (q : Addr) (hq : ad.add (j * m) = q) : (execOp ρ op).run P w = .ok (.value (.pointer (some q))) w := by
  obtain ⟨e, hu, hs⟩ := sl_split ht
  subst hq hj
  have h2 : (j : Int) < (n : Int) := by omega
  unfold execOp
  simp only [ho, hx, hy, Instr.indexAt, asIntOf, Sem.run_bind, Sem.run_pure, Result.andThen_ok, run_underlying hu w]
  simp [hs, h2]
theorem ex_extract (x : Operand) (i : Nat) (ho : op.op = .extract x i) (vs : Array Value) (hx : ρ x = .tuple vs) (v : Value) (hv : vs[i]? = some v) : (execOp ρ op).run P w = .ok (.value v) w := by
  unfold execOp
  simp only [ho, hx, Instr.extract, hv]
  rfl
theorem ex_not (T : TypeId) (x : Operand) (ho : op.op = .unOp .not T x) (b : Bool) (hx : ρ x = .bool b) (r : Bool) (hr : (!b) = r) : (execOp ρ op).run P w = .ok (.value (.bool r)) w := by
  subst hr
  unfold execOp
  simp only [ho, hx]
  rfl
def binI (o : BinOp) (k : IntKind) (x y : Int) : Option Value := match o with
  | .add => some (.int k (k.wrap (x + y)))
  | .sub => some (.int k (k.wrap (x - y)))
  | .mul => some (.int k (k.wrap (x * y)))
  | .quo => if y = 0 then none else some (.int k (k.wrap (x.tdiv y)))
  | .rem => if y = 0 then none else some (.int k (x.tmod y))
  | .eql => some (.bool (x == y))
  | .neq => some (.bool (x != y))
  | .lss => some (.bool (x < y))
  | .leq => some (.bool (x ≤ y))
  | .gtr => some (.bool (x > y))
  | .geq => some (.bool (x ≥ y))
  | _ => none
theorem ex_bin (o : BinOp) (T T' : TypeId) (x y : Operand) (ho : op.op = .binOp o T x y T') (k : IntKind) (m n : Int) (hx : ρ x = .int k m) (hy : ρ y = .int k n) (v : Value) (hv : binI o k m n = some v) : (execOp ρ op).run P w = .ok (.value v) w := by
  have hb : (binOp o T (.int k m) (.int k n)).run P w = .ok v w := by
    unfold binI at hv
    cases o <;> simp only [reduceCtorEq, Option.some.injEq] at hv <;> first
      | (subst hv; simp [binOp, Op.intArith, Op.intCmp]; done)
      | (split at hv <;> simp only [reduceCtorEq, Option.some.injEq] at hv; subst hv; rename_i h0; simp [binOp, Op.intDiv, h0])
  have hg : (eqGuard o T x y (.int k m) (.int k n)).run P w = .ok () w := by
    unfold eqGuard
    cases o <;> rfl
  unfold execOp
  simp only [ho, hx, hy, Sem.run_bind, hg, hb, Result.andThen_ok, Sem.run_pure]
theorem b_add {k : IntKind} {x y r : Int} (h : k.wrap (x + y) = r) : binI .add k x y = some (.int k r) := by rw [← h]; rfl
theorem b_sub {k : IntKind} {x y r : Int} (h : k.wrap (x - y) = r) : binI .sub k x y = some (.int k r) := by rw [← h]; rfl
theorem b_mul {k : IntKind} {x y r : Int} (h : k.wrap (x * y) = r) : binI .mul k x y = some (.int k r) := by rw [← h]; rfl
theorem b_rem {k : IntKind} {x y r : Int} (hy : ¬ y = 0) (h : x.tmod y = r) : binI .rem k x y = some (.int k r) := by rw [← h]; simp [binI, hy]
theorem b_quo {k : IntKind} {x y r : Int} (hy : ¬ y = 0) (h : k.wrap (x.tdiv y) = r) : binI .quo k x y = some (.int k r) := by rw [← h]; simp [binI, hy]
theorem b_eql {k : IntKind} {x y : Int} {r : Bool} (h : (x == y) = r) : binI .eql k x y = some (.bool r) := by rw [← h]; rfl
theorem b_neq {k : IntKind} {x y : Int} {r : Bool} (h : (x != y) = r) : binI .neq k x y = some (.bool r) := by rw [← h]; rfl
theorem b_lss {k : IntKind} {x y : Int} {r : Bool} (h : decide (x < y) = r) : binI .lss k x y = some (.bool r) := by rw [← h]; rfl
theorem b_leq {k : IntKind} {x y : Int} {r : Bool} (h : decide (x ≤ y) = r) : binI .leq k x y = some (.bool r) := by rw [← h]; rfl
theorem b_gtr {k : IntKind} {x y : Int} {r : Bool} (h : decide (y < x) = r) : binI .gtr k x y = some (.bool r) := by rw [← h]; rfl
theorem b_geq {k : IntKind} {x y : Int} {r : Bool} (h : decide (y ≤ x) = r) : binI .geq k x y = some (.bool r) := by rw [← h]; rfl
theorem w_i64 {n : Int} (h : -9223372036854775808 ≤ n) (h' : n ≤ 9223372036854775807) : IntKind.i64.wrap n = n := by simp [IntKind.wrap, IntKind.bits, IntKind.signed]; omega
theorem w_u64 {n : Int} (h : 0 ≤ n) (h' : n ≤ 18446744073709551615) : IntKind.u64.wrap n = n := by simp [IntKind.wrap, IntKind.bits, IntKind.signed]; omega
/-- '==', '!=' of values that are no numbers. -/
theorem ex_eql (T T' : TypeId) (x y : Operand) (ho : op.op = .binOp .eql T x y T') (u v : Value) (hx : ρ x = u) (hy : ρ y = v) (r : Bool) (hg : (eqGuard .eql T x y u v).run P w = .ok () w) (hr : (binOp .eql T u v).run P w = .ok (.bool r) w) : (execOp ρ op).run P w = .ok (.value (.bool r)) w := by
  unfold execOp
  simp only [ho, hx, hy, Sem.run_bind, hg, hr, Result.andThen_ok, Sem.run_pure]
theorem ex_neq (T T' : TypeId) (x y : Operand) (ho : op.op = .binOp .neq T x y T') (u v : Value) (hx : ρ x = u) (hy : ρ y = v) (r : Bool) (hg : (eqGuard .neq T x y u v).run P w = .ok () w) (hr : (binOp .neq T u v).run P w = .ok (.bool r) w) : (execOp ρ op).run P w = .ok (.value (.bool r)) w := by
  unfold execOp
  simp only [ho, hx, hy, Sem.run_bind, hg, hr, Result.andThen_ok, Sem.run_pure]
/-- Conversions between whole numbers. -/
def cv? (P : Program) (s t : TypeId) (k : IntKind) : Bool := match P.underlying s, P.underlying t with
  | some (.int _), some (.int k') => decide (k = k')
  | _, _ => false
theorem ex_conv (s t : TypeId) (x : Operand) (ho : op.op = .convert s t x) (k k' : IntKind) (h : cv? P s t k' = true) (m : Int) (hx : ρ x = .int k m) (r : Int) (hr : k'.wrap m = r) : (execOp ρ op).run P w = .ok (.value (.int k' r)) w := by
  subst hr
  unfold cv? at h
  cases hs : P.underlying s with
  | none => simp [hs] at h
  | some d =>
    cases ht : P.underlying t with
    | none => cases d <;> simp [hs, ht] at h
    | some e =>
      cases d with
      | int k1 =>
        cases e with
        | int k2 =>
          obtain rfl : k' = k2 := by simpa [hs, ht] using h
          unfold execOp
          simp only [ho, hx, convert, Sem.run_bind, run_underlying hs w, run_underlying ht w, Result.andThen_ok]
          simp [Conv.intToInt]
        | _ => simp [hs, ht] at h
      | _ => cases e <;> simp [hs, ht] at h
theorem ex_len (x : Operand) (t : TypeId) (ho : op.op = .call { callee := .builtin .len, args := #[x], argTypes := #[t] }) (m : Nat) (ht : sl? P t m = true) (A : Option Addr) (n c : Nat) (hx : ρ x = .slice A n c) : (execOp ρ op).run P w = .ok (.value (.int .i64 n)) w := by
  obtain ⟨e, hu, _⟩ := sl_split ht
  unfold execOp
  simp only [ho, resolve, List.map_toArray, List.map_cons, List.map_nil, hx, Sem.run_bind, Sem.run_pure, Result.andThen_ok, invoke, builtin, Builtin.len_]
  simp [run_underlying hu w, goInt]
/-- A literal. -/
theorem ex_build (t : TypeId) (ps : Array (Nat × Operand)) (ho : op.op = .build t ps) (qs : Array (Nat × Value)) (hq : (ps.map fun (i, x) => (i, ρ x)) = qs) (v : Value) (hv : (Instr.build t qs).run P w = .ok v w) : (execOp ρ op).run P w = .ok (.value v) w := by
  unfold execOp
  simp only [ho]
  subst hq
  simp only [Sem.run_bind, hv, Result.andThen_ok, Sem.run_pure]
/-- A call of a function by its name; of a function value. -/
def ent? (P : Program) (f : Nat) : Bool := match P.funcs[f]? with
  | some fn => !(fn.name == "runtime.NumGoroutine") && fn.body.isSome
  | none => false
theorem enters {f : Nat} (hf : ent? P f = true) (args : Array Value) (w : World) : (callFunc f args).run P w = .ok (.enter f args) w := by
  unfold ent? at hf
  cases hq : P.funcs[f]? with
  | none => simp [hq] at hf
  | some fn =>
    simp only [hq, Bool.and_eq_true, Bool.not_eq_true'] at hf
    obtain ⟨h1, h2⟩ := hf
    have h3 : fn.body.isNone = false := by cases hb : fn.body <;> simp_all
    unfold callFunc
    simp only [Sem.run_bind, run_program, Result.andThen_ok, hq, h1, h3]
    simp
theorem ex_call (f : Nat) (xs : Array Operand) (ts : Array TypeId) (ho : op.op = .call { callee := .value (.func f), args := xs, argTypes := ts }) (hf : ρ (.func f) = .func (.func f) #[] #[]) (he : ent? P f = true) (vs : Array Value) (hx : xs.map ρ = vs) : (execOp ρ op).run P w = .ok (.enter f vs) w := by
  unfold execOp
  simp only [ho, resolve, hf, hx, Deferred.ofValue, Sem.run_bind, Sem.run_pure, Result.andThen_ok, invoke]
  simp [enters he]
theorem ex_makeFunc (fn : Fn) (f c : Array Operand) (ho : op.op = .makeFunc fn f c) (v : Value) (hv : Value.func fn (f.map ρ) (c.map ρ) = v) : (execOp ρ op).run P w = .ok (.value v) w := by
  subst hv
  unfold execOp
  simp only [ho]
  rfl
end

/-! ### Regions that draw their order -/
section
variable {P : Program} {ops : Array Oper} {R : Act → World → Prop} {md : Region.Mode} {S : World → Prop} {a : Act} {w w0 : World} {n fuel : Nat} {L : List (Nat × Value)} {H : List Blk} {listed : Array Bool}
/-- One way out alone. -/
def Only (R : Act → World → Prop) : Exit → Act → World → Prop := fun e a w => e = .normal ∧ R a w
theorem only_panic {c : List PanicEntry} : ¬ Only R (.panic c) a w := fun h => by cases h.1
theorem wp_only {Q : Exit → Act → World → Prop} {c : Code} (R : Act → World → Prop) (h : c.wp P (Only R) a w) (hR : ∀ a w, R a w → Q .normal a w) : c.wp P Q a w :=
  Code.wp_mono (fun e a w q => by obtain ⟨rfl, q⟩ := q; exact hR a w q) h
theorem only_n (h : R a w) : Only R .normal a w := ⟨rfl, h⟩
theorem region_any {id : Nat} (hm : P.follows .mixedOrders = true) (M : Mm w0 w H)
    (h : ∀ wD, Mm w0 wD H → Below w.heap.size w wD → wpAnyH P .any ops (Only R) (fun w' => Below wD.heap.size wD w') ops.size (Array.replicate ops.size false) a wD) : (Code.region id ops true).wp P (Only R) a w :=
  wp_region_held_drew (S := fun w' => Below w.drew.heap.size w.drew w') hm (Below.refl _ _) (fun _ => h _ M.drew (below_drew1 (Below.refl _ w)))
theorem and3 {x y z : Bool} (h : (x && y && z) = true) : x = true ∧ y = true ∧ z = true := by simpa [and_assoc] using h
theorem any_take (F : Fr n a L) (i : Nat) {oi : Oper} (hi : ops[i]? = some oi) (hs : Region.noSelect ops = true) (hf : Region.free md ops listed i = true) (hr : (Region.ready md ops listed).contains i = true)
    (hw : Region.wanted oi (yielded ops a.tmps) = true) {d : Nat} (hd : oi.dst = some d) (hlt : Nat.blt d n = true) (v : Value) (he : ∀ w, S w → (execOp a.eval oi).run P w = .ok (.value v) w) (hS : S w)
    (h : ∀ a', Fr n a' ((d, v) :: L) → wpAnyH P md ops (Only R) S fuel (listed.setIfInBounds i true) a' w) : wpAnyH P md ops (Only R) S (fuel + 1) listed a w :=
  wpAnyH_take hi hs hf hr (fun _ _ _ h => absurd h only_panic) (.inl ⟨hw, he⟩) hS (by rw [hd]; exact h _ (F.put v hlt))
theorem any_skip (F : Fr n a L) (i : Nat) {oi : Oper} (hi : ops[i]? = some oi) (hs : Region.noSelect ops = true) (hf : Region.free md ops listed i = true) (hr : (Region.ready md ops listed).contains i = true)
    (hw : Region.wanted oi (yielded ops a.tmps) = false) {d : Nat} (hd : oi.dst = some d) (hlt : Nat.blt d n = true) (hS : S w)
    (h : ∀ a', Fr n a' ((d, undef) :: L) → wpAnyH P md ops (Only R) S fuel (listed.setIfInBounds i true) a' w) : wpAnyH P md ops (Only R) S (fuel + 1) listed a w :=
  wpAnyH_take hi hs hf hr (fun _ _ _ h => absurd h only_panic) (.inr ⟨hw, rfl⟩) hS (by rw [hd]; exact h _ (F.put undef hlt))
theorem any_val (F : Fr n a L) (i : Nat) {oi : Oper} (hi : ops[i]? = some oi) (hs : (Region.noSelect ops && Region.free md ops listed i && (Region.ready md ops listed).contains i) = true)
    (hw : Region.wanted oi (yielded ops a.tmps) = true) {d : Nat} (hd : oi.dst = some d) (hlt : Nat.blt d n = true) (v : Value) (he : ∀ w, S w → (execOp a.eval oi).run P w = .ok (.value v) w) (hS : S w)
    (h : ∀ a', Fr n a' ((d, v) :: L) → wpAnyH P md ops (Only R) S fuel (listed.setIfInBounds i true) a' w) : wpAnyH P md ops (Only R) S (fuel + 1) listed a w :=
  have hs := and3 hs
  any_take F i hi hs.1 hs.2.1 hs.2.2 hw hd hlt v he hS h
theorem any_pass (F : Fr n a L) (i : Nat) {oi : Oper} (hi : ops[i]? = some oi) (hs : (Region.noSelect ops && Region.free md ops listed i && (Region.ready md ops listed).contains i) = true)
    (hw : Region.wanted oi (yielded ops a.tmps) = false) {d : Nat} (hd : oi.dst = some d) (hlt : Nat.blt d n = true) (hS : S w)
    (h : ∀ a', Fr n a' ((d, undef) :: L) → wpAnyH P md ops (Only R) S fuel (listed.setIfInBounds i true) a' w) : wpAnyH P md ops (Only R) S (fuel + 1) listed a w :=
  have hs := and3 hs
  any_skip F i hi hs.1 hs.2.1 hs.2.2 hw hd hlt hS h
theorem any_ready (rs : List Nat) (hr : Region.ready md ops listed = rs) (hne : rs ≠ []) (h : AllReadyH P md ops (Only R) S fuel listed a w rs) : wpAnyH P md ops (Only R) S (fuel + 1) listed a w := wpAnyH_ready hr hne h
/-- One of those that may come up, carried out. -/
theorem ready_do {i : Nat} {rs : List Nat} {o : Oper} (ho : ops[i]? = some o) (hw : Region.wanted o (yielded ops a.tmps) = true)
    (h : ∀ K : Act → World → Prop, (∀ a w, S w → wpAnyH P md ops (Only R) S fuel (listed.setIfInBounds i true) a w → K a w) → Oper.wp P o a w K (Only R)) (hs : AllReadyH P md ops (Only R) S fuel listed a w rs) : AllReadyH P md ops (Only R) S fuel listed a w (i :: rs) :=
  AllReadyH.cons ho (fun K hK => by rw [if_pos hw]; exact h K (fun a w hS hW => hK.out a w hS (fun _ => hW))) hs
theorem any_done (hr : Region.ready md ops listed = []) (h : R a w) : wpAnyH P md ops (Only R) S fuel listed a w := wpAnyH_done hr (only_n h) fuel
end

/-! ### Small words of the walk -/
section
variable {P : Program} {op : Oper} {ρ : Operand → Value} {w : World}
theorem wn {y : Nat → Option Bool} (h : op.guard = none) : Region.wanted op y = true := by unfold Region.wanted; rw [h]
theorem map0 : (#[] : Array Operand).map ρ = #[] := by simp
theorem map1 {x : Operand} {u : Value} (hx : ρ x = u) : #[x].map ρ = #[u] := by subst hx; simp
theorem map2 {x y : Operand} {u v : Value} (hx : ρ x = u) (hy : ρ y = v) : #[x, y].map ρ = #[u, v] := by subst hx hy; simp
theorem map3 {x y z : Operand} {u v t : Value} (hx : ρ x = u) (hy : ρ y = v) (hz : ρ z = t) : #[x, y, z].map ρ = #[u, v, t] := by subst hx hy hz; simp
theorem map4 {x y z q : Operand} {u v t r : Value} (hx : ρ x = u) (hy : ρ y = v) (hz : ρ z = t) (hq : ρ q = r) : #[x, y, z, q].map ρ = #[u, v, t, r] := by subst hx hy hz hq; simp
theorem parts0 : ((#[] : Array (Nat × Operand)).map fun (i, x) => (i, ρ x)) = #[] := by simp
theorem parts1 {i : Nat} {x : Operand} {u : Value} (hx : ρ x = u) : (#[(i, x)].map fun (i, x) => (i, ρ x)) = #[(i, u)] := by subst hx; simp
theorem parts2 {i j : Nat} {x y : Operand} {u v : Value} (hx : ρ x = u) (hy : ρ y = v) : (#[(i, x), (j, y)].map fun (i, x) => (i, ρ x)) = #[(i, u), (j, v)] := by subst hx hy; simp
theorem parts3 {i j k : Nat} {x y z : Operand} {u v t : Value} (hx : ρ x = u) (hy : ρ y = v) (hz : ρ z = t) : (#[(i, x), (j, y), (k, z)].map fun (i, x) => (i, ρ x)) = #[(i, u), (j, v), (k, t)] := by subst hx hy hz; simp
theorem S_below {w0 w w' : World} (h : Below w0.heap.size w0 w) (hb : Below w.heap.size w w') : Below w0.heap.size w0 w' := h.trans (hb.mono h.size)
end

/-! ### Rows of elements of several cells, in a block of the call's own -/
theorem nth_mid {pre post : List Value} {v : Value} {j : Nat} (h : pre.length = j) : (pre ++ v :: post)[j]? = some v := by
  rw [List.getElem?_append_right (by omega), h, Nat.sub_self]
  rfl
theorem set_mid {pre post mid mid' : List Value} {j m : Nat} (h : pre.length = j) (hm : mid.length = m) : (pre ++ (mid ++ post)).take j ++ mid' ++ (pre ++ (mid ++ post)).drop (j + m) = pre ++ (mid' ++ post) := by
  subst h hm
  rw [List.take_left, List.drop_append, List.drop_eq_nil_of_le (by omega), List.nil_append, show pre.length + mid.length - pre.length = mid.length by omega, List.drop_left, List.append_assoc]
theorem at_mid {w : World} {p : Addr} {cs pre mid post : List Value} {o : Nat} (h : At w p cs) (hcs : cs = pre ++ (mid ++ post)) (hl : pre.length = o) : At w (p.add o) mid := fun j u hu => by
  rw [Addr.add_add]
  refine h (o + j) u ?_
  subst hcs hl
  rw [List.getElem?_append_right (by omega), show pre.length + j - pre.length = j by omega, List.getElem?_append_left (List.getElem?_eq_some_iff.1 hu).1]
  exact hu
theorem addr_add (g o j : Nat) : (⟨g, o, none⟩ : Addr).add j = ⟨g, o + j, none⟩ := by
  unfold Addr.add
  split <;> simp_all
section
variable {α : Type} {enc : α → List Value} {m : Nat}
theorem rows_len (hl : ∀ x, (enc x).length = m) : ∀ (xs : List α), (xs.flatMap enc).length = xs.length * m
  | [] => by simp
  | x :: xs => by rw [List.flatMap_cons, List.length_append, hl, rows_len hl xs, List.length_cons, Nat.add_mul]; omega
theorem rows_split (xs : List α) (k : Nat) (x : α) (hx : xs[k]? = some x) : xs.flatMap enc = (xs.take k).flatMap enc ++ (enc x ++ (xs.drop (k + 1)).flatMap enc) := by
  have hk : k < xs.length := (List.getElem?_eq_some_iff.1 hx).1
  have hv : xs[k] = x := (List.getElem?_eq_some_iff.1 hx).2
  conv => lhs; rw [← List.take_append_drop k xs]
  rw [List.flatMap_append, List.drop_eq_getElem_cons hk, List.flatMap_cons, hv]
theorem rows_get (hl : ∀ x, (enc x).length = m) {xs : List α} {sp : List Value} {k j : Nat} {x : α} {v : Value} (hx : xs[k]? = some x) (hv : (enc x)[j]? = some v) : (xs.flatMap enc ++ sp)[k * m + j]? = some v := by
  have hk : k < xs.length := (List.getElem?_eq_some_iff.1 hx).1
  have hj : j < (enc x).length := (List.getElem?_eq_some_iff.1 hv).1
  have h1 : ((xs.take k).flatMap enc).length = k * m := by rw [rows_len hl, List.length_take]; congr 1; omega
  rw [rows_split xs k x hx, List.append_assoc, List.getElem?_append_right (by omega), h1, show k * m + j - k * m = j by omega, List.append_assoc, List.getElem?_append_left hj]
  exact hv
theorem rows_arr (hl : ∀ x, (enc x).length = m) {xs : List α} {sp : List Value} {k j : Nat} {x : α} {v : Value} (hx : xs[k]? = some x) (hv : (enc x)[j]? = some v) : ((xs.flatMap enc ++ sp).toArray)[k * m + j]? = some v := by
  rw [List.getElem?_toArray]
  exact rows_get hl hx hv
theorem rows_at (hl : ∀ x, (enc x).length = m) {w : World} {g : Nat} {xs : List α} {sp : List Value} (h : At w ⟨g, 0, none⟩ (xs.flatMap enc ++ sp)) {k : Nat} {x : α} (hx : xs[k]? = some x) : At w ⟨g, k * m, none⟩ (enc x) := fun j v hv => by
  have := h (k * m + j) v (rows_get hl hx hv)
  rw [addr_add] at this ⊢
  rw [show 0 + (k * m + j) = k * m + j by omega] at this
  exact this
theorem rows_set (hl : ∀ x, (enc x).length = m) {xs : List α} {sp vs : List Value} {k o : Nat} {x x' : α} (hx : xs[k]? = some x) (hvs : o + vs.length ≤ m) (he : (enc x).take o ++ vs ++ (enc x).drop (o + vs.length) = enc x') :
    (xs.flatMap enc ++ sp).take (k * m + o) ++ vs ++ (xs.flatMap enc ++ sp).drop (k * m + o + vs.length) = (xs.set k x').flatMap enc ++ sp := by
  have hk : k < xs.length := (List.getElem?_eq_some_iff.1 hx).1
  have h1 : ((xs.take k).flatMap enc).length = k * m := by rw [rows_len hl, List.length_take]; congr 1; omega
  have hx' : (xs.set k x')[k]? = some x' := by simp [hk]
  have hm := hl x
  rw [rows_split xs k x hx, rows_split (xs.set k x') k x' hx', List.take_set_of_le (Nat.le_refl k), List.drop_set_of_lt (by omega)]
  generalize (xs.take k).flatMap enc = A at *
  generalize (xs.drop (k + 1)).flatMap enc = B at *
  rw [← he]
  generalize enc x = C at *
  have e1 : (A ++ (C ++ B) ++ sp).take (k * m + o) = A ++ C.take o := by
    rw [List.append_assoc, List.take_append, List.take_of_length_le (by omega), List.append_assoc, h1, show k * m + o - k * m = o by omega, List.take_append_of_le_length (by omega)]
  have e2 : (A ++ (C ++ B) ++ sp).drop (k * m + o + vs.length) = C.drop (o + vs.length) ++ B ++ sp := by
    rw [List.append_assoc, List.drop_append, List.drop_eq_nil_of_le (by omega), List.nil_append, h1, show k * m + o + vs.length - k * m = o + vs.length by omega, List.append_assoc, List.drop_append_of_le_length (by omega), List.append_assoc]
  rw [e1, e2]
  simp only [List.append_assoc]
end
section
variable {P : Program} {ops : Array Oper} {Q : Exit → Act → World → Prop} {rest : List Oper} {op : Oper} {a : Act} {w w0 : World} {n : Nat} {L : List (Nat × Value)} {H : List Blk} {K : Act → World → Prop}
/-- What an append asks of the types. -/
def ap? (P : Program) (t e m b : Nat) : Bool := (match P.underlying t with | some (.slice e') => Nat.beq e' e | _ => false) && (match P.info? e with
  | some i => Nat.beq i.size m && Nat.beq i.bytes b && (match i.zero with | some z => Nat.beq z.cells.size m | none => false)
  | none => false)
theorem ap_split {t e m b : Nat} (h : ap? P t e m b = true) : P.underlying t = some (.slice e) ∧ ∃ i z, P.info? e = some i ∧ i.zero = some z ∧ i.size = m ∧ i.bytes = b ∧ z.cells.size = m := by
  unfold ap? at h
  simp only [Bool.and_eq_true] at h
  obtain ⟨h1, h2⟩ := h
  constructor
  · cases hu : P.underlying t with
    | none => simp [hu] at h1
    | some d => cases d <;> simp only [hu, Bool.false_eq_true] at h1
                rw [Nat.eq_of_beq_eq_true h1]
  · cases hi : P.info? e with
    | none => simp [hi] at h2
    | some i =>
      simp only [hi, Bool.and_eq_true] at h2
      obtain ⟨⟨h3, h4⟩, h5⟩ := h2
      cases hz : i.zero with
      | none => simp [hz] at h5
      | some z =>
        simp only [hz] at h5
        exact ⟨i, z, rfl, hz, Nat.eq_of_beq_eq_true h3, Nat.eq_of_beq_eq_true h4, Nat.eq_of_beq_eq_true h5⟩
/-- A slice of so many elements, written out. -/
theorem ow_bslice (F : Fr n a L) (M : Mm w0 w H) {d : Nat} (hd : op.dst = some d) (hlt : Nat.blt d n = true) (T l : Nat) (ps : Array (Nat × Operand)) (ho : op.op = .buildSlice T l ps) (qs : Array (Nat × Value)) (hq : (ps.map fun (i, x) => (i, a.eval x)) = qs) (cs : Array Value) (E : TypeId)
    (hr : (Instr.buildSlice T l qs).run P w = .ok (.slice (some ⟨w.heap.size, 0, none⟩) l l) (w.alloc (.cells cs E)))
    (h : ∀ a' g w', Fr n a' ((d, .slice (some ⟨g, 0, none⟩) l l) :: L) → Mm w0 w' (⟨g, cs, E⟩ :: H) → Below w.heap.size w w' → w.heap.size ≤ g → K a' w') : op.wp P a w K Q := by
  unfold Oper.wp execOp
  simp only [ho]
  subst hq
  simp only [Sem.run_bind, hr, Result.andThen_ok, Sem.run_pure]
  have hb : Below w.heap.size w (w.alloc (.cells cs E)) := (Below.refl _ _).alloc (Nat.le_refl _) _
  refine h _ w.heap.size _ ?_ (M.new ⟨_, _, _⟩ hb (Nat.le_refl _) (blk_of_alloc _ _ _)) hb (Nat.le_refl _)
  rw [hd]
  exact F.put _ hlt
end

section
variable {P : Program} {op : Oper} {ρ : Operand → Value} {w : World}
def bool? (P : Program) (t : TypeId) : Bool := match P.underlying t with | some .bool => true | _ => false
theorem bool_split {t : TypeId} (h : bool? P t = true) : P.underlying t = some .bool := by
  unfold bool? at h
  cases hu : P.underlying t with
  | none => simp [hu] at h
  | some d => cases d <;> simp [hu] at h ⊢
theorem run_eqb {T : TypeId} (hu : P.underlying T = some .bool) (d : Nat) (a b : Bool) (w : World) : (Op.equalIn (d + 1) T (.bool a) (.bool b)).run P w = .ok (a == b) w := by
  unfold Op.equalIn
  simp only [Sem.run_bind, run_underlying hu w, Result.andThen_ok]
  rfl
theorem run_binb {T : TypeId} (hu : P.underlying T = some .bool) (a b : Bool) (w : World) : (binOp .eql T (.bool a) (.bool b)).run P w = .ok (.bool (a == b)) w := by
  have h : (Op.equal T (.bool a) (.bool b)).run P w = .ok (a == b) w := run_eqb hu 9999 a b w
  unfold binOp
  simp only [Sem.run_bind, h, Result.andThen_ok]
  rfl
theorem ex_eqb (T T' : TypeId) (x y : Operand) (ho : op.op = .binOp .eql T x y T') (hT : bool? P T = true) (a b : Bool) (hx : ρ x = .bool a) (hy : ρ y = .bool b) (r : Bool) (hr : (a == b) = r) : (execOp ρ op).run P w = .ok (.value (.bool r)) w := by
  subst hr
  exact ex_eql T T' x y ho _ _ hx hy _ (by unfold eqGuard; rfl) (run_binb (bool_split hT) a b w)
end

/-! ### Regions that draw, whose first operations but read, and whose others come in one order alone -/
section
variable {P : Program} {ops : Array Oper} {a : Act} {w w0 : World} {n : Nat} {L : List (Nat × Value)} {H : List Blk} {o : Oper} {rest : List Oper} {q : Act → Prop}
theorem region_tail {id : Nat} {Q : Exit → Act → World → Prop} {l : List Oper} (k : Nat) (hm : P.follows .mixedOrders = true) (hB : Region.lexTailB .any l.toArray k = true) (M : Mm w0 w H)
    (h : ∀ wD, Mm w0 wD H → Below w.heap.size w wD → wpStill P l.toArray wD (fun a' => wpList P l.toArray Q (l.drop k) a' wD) (l.take k) a) : (Code.region id l.toArray true).wp P Q a w :=
  wp_region_still_tail k hm hB (h w.drew M.drew (below_drew1 (Below.refl _ w)))
theorem still_val (F : Fr n a L) (hw : Region.wanted o (yielded ops a.tmps) = true) {d : Nat} (hd : o.dst = some d) (hlt : Nat.blt d n = true) (v : Value) (he : (execOp a.eval o).run P w = .ok (.value v) w)
    (h : ∀ a', Fr n a' ((d, v) :: L) → wpStill P ops w q rest a') : wpStill P ops w q (o :: rest) a :=
  wpStill_step fun K hK => by
    rw [if_pos hw]
    unfold Oper.still
    rw [he, Oper.stillUpon_value, hd]
    exact hK _ (h _ (F.put v hlt))
theorem still_skip (F : Fr n a L) (hw : Region.wanted o (yielded ops a.tmps) = false) {d : Nat} (hd : o.dst = some d) (hlt : Nat.blt d n = true)
    (h : ∀ a', Fr n a' ((d, undef) :: L) → wpStill P ops w q rest a') : wpStill P ops w q (o :: rest) a :=
  wpStill_step fun K hK => by
    rw [if_neg (by rw [hw]; simp), hd]
    exact hK _ (h _ (F.put undef hlt))
theorem still_end (h : q a) : wpStill P ops w q [] a := wpStill_nil h
end
end Go.Proofs.YtnjbjjmoglogeaaGreat.WG
