/- Rows of many cells whose cells are told by one function of a Lean value: the kind, whole loads, rows of them. No conditions but those of each lemma. -/
import Derived.Test.YtnjbjjmoglogeaaGreatWWords
import Derived.Test.YtnjbjjmoglogeaaGreatRD
import Derived.WalkKit
import Derived.WalkSpells
import Derived.WalkLawsBesides
import Derived.Laws.Rows
import Derived.Laws.Tables
import Derived.Laws.Cells
import Derived.Deep.MidRow
import Derived.Deep.WholeRow
import Derived.ChangeKeysEq
import Derived.StillTailTactics
import Derived.Deep.RegionHeld
namespace Go.Proofs.YtnjbjjmoglogeaaGreat.KB
open Go.RowKit Go.Proofs.YtnjbjjmoglogeaaGreatW.PrintWords

/-- A row of n numbers. -/
def Bs (n : Nat) : Type := {l : List Int // l.length = n}
instance (n : Nat) : DecidableEq (Bs n) := inferInstanceAs (DecidableEq {l : List Int // l.length = n})
def Bs.cs {n : Nat} (b : Bs n) : List Value := b.1.map (.int .u8)
theorem Bs.cs_len {n : Nat} (b : Bs n) : b.cs.length = n := by unfold Bs.cs; rw [List.length_map]; exact b.2
theorem Bs.cs_one {n : Nat} (b : Bs n) : ∀ u ∈ b.cs, u.oneCell' = true := by
  intro u hu
  obtain ⟨x, _, rfl⟩ := List.mem_map.1 hu
  rfl

/-- The kind of a value whose cells are what enc tells. -/
def kBlk {α : Type} (enc : α → List Value) (n : Nat) (hl : ∀ x, (enc x).length = n) (h1 : ∀ x, ∀ u ∈ enc x, u.oneCell' = true) : Kd α where
  sz := n
  E := []
  K := fun _ x cs => cs = enc x
  M := fun _ _ _ x cs => cs = enc x
  K_len := fun h => by rw [h]; exact hl _
  K_one := fun h u hu => by rw [h] at hu; exact h1 _ u hu
  K_below := fun _ h => h
  K_of_M := fun h => h
  M_mono := fun _ h => h
  M_bound := fun h => h
  M_move := fun _ h => h
  M_lower := fun _ h => h

def kBs (n : Nat) : Kd (Bs n) := kBlk Bs.cs n Bs.cs_len Bs.cs_one

variable {P : Program}
/-- All cells from an address on are read. -/
def At (w : World) (p : Addr) (cs : List Value) : Prop := ∀ j v, cs[j]? = some v → w.cell? (p.add j) = some v
theorem At.below {w w1 : World} {p : Addr} {cs : List Value} (h : At w p cs) (hb : Below w.heap.size w w1) : At w1 p cs := fun j v hv => pw_cell_below hb (h j v hv)
theorem At.cell {w : World} {p : Addr} {cs : List Value} (h : At w p cs) (j : Nat) (v : Value) (hv : cs[j]? = some v) : w.cell? (p.add j) = some v := h j v hv
theorem run_loadVar_at (w : World) (p : Addr) (ty : TypeId) (cs : List Value) (d : TypeDesc) (hc : At w p cs)
    (hu : P.underlying ty = some d) (hd : d.isRow = true) (hi : (P.info? ty).map (·.size) = some cs.length) :
    (loadVar ty p).run P w = .ok (.agg cs.toArray) w := by
  have hl : (loadCells p cs.length).run P w = .ok cs.toArray w := run_loadCells_list (P := P) w p cs hc
  cases hq : P.info? ty with
  | none => simp [hq] at hi
  | some i =>
    have hs : i.size = cs.length := by simpa [hq] using hi
    have hagg : (isAgg ty).run P w = .ok true w := by
      unfold isAgg
      rw [Sem.run_bind, run_underlying hu w]
      cases d <;> simp_all
    simp [loadVar, Sem.run_bind, hagg, sizeOf, typeInfo, hq, hs, hl]

/-- The block that was made last, of these cells, is read whole. -/
theorem at_block {w : World} {b : Nat} {cs : List Value} {t : TypeId} {fr : Nat × Nat} (hb : w.heap[b]? = some (.cells cs.toArray t fr)) : At w ⟨b, 0, none⟩ cs := fun j v hv => by
  rw [add_plain, cell_of_row w b j _ t fr hb]
  simpa using hv

theorem kBlk_at {α : Type} {enc : α → List Value} {m : Nat} {hl : ∀ x, (enc x).length = m} {h1 : ∀ x, ∀ u ∈ enc x, u.oneCell' = true} {w : World} {A : Option Addr} {n : Nat} {xs : List α} (z : α)
    (h : (kBlk enc m hl h1).C w A n xs) (i : Int) (h0 : 0 ≤ i) (hn : i < n) : ∃ ad, A = some ad ∧ At w (ad.add (i.toNat * m)) (enc (xs.getD i.toNat z)) := by
  obtain ⟨ad, c, e, _, hK, hc⟩ := Kd.C_get h z i h0 hn
  obtain rfl : c = enc (xs.getD i.toNat z) := hK
  refine ⟨ad, e, fun j v hv => ?_⟩
  rw [Addr.add_add]
  exact hc j v hv

/-- [n]byte, read. -/
theorem reads_bytes {w : World} {t e : TypeId} {m : Nat} (hu : P.underlying t = some (.array m e)) (he : P.underlying e = some (.int .u8)) (hce : P.cellsOf e = 1) (hct : P.cellsOf t = m) :
    RD.Reads P w t (kBs m) (fun x => ∀ b ∈ x.1, (Lit.int .u8 b).wf = true) := by
  intro H enc fuel cs d ps h hz
  obtain ⟨xs, n, rfl, hx, hl, hxl, hi⟩ := DataW.trod_array hu h
  rw [hct] at hl
  have key : ∀ i, i < m → ∃ x, cs[i]? = some (.int .u8 x) ∧ (Lit.int .u8 x).wf = true := by
    intro i hi'
    have h0 := hi i hi'
    rw [hce, Nat.mul_one] at h0
    obtain ⟨y, hy⟩ : ∃ y, xs[i]? = some y := ⟨_, List.getElem?_eq_getElem (by omega)⟩
    rw [hy] at h0
    obtain ⟨x, hx1, _, hx2⟩ := DataW.trod_int he h0
    refine ⟨x, ?_, hx2⟩
    have : ((cs.drop i).take 1)[0]? = some (.int .u8 x) := by rw [hx1]; rfl
    simpa using this
  have hlen : cs.length = m := by omega
  obtain ⟨l, hl1, hl2⟩ : ∃ l : List Int, cs = l.map (.int .u8) ∧ ∀ b ∈ l, (Lit.int .u8 b).wf = true := by
    clear h hz hx hl hxl hi hu hct
    subst hlen
    induction cs with
    | nil => exact ⟨[], rfl, fun b hb => by cases hb⟩
    | cons c r ih =>
      obtain ⟨x, h1, h2⟩ := key 0 (by simp)
      obtain ⟨l, h3, h4⟩ := ih (fun i hi => by
        have := key (i + 1) (by simpa using hi)
        simpa using this)
      refine ⟨x :: l, ?_, ?_⟩
      · rw [h3]
        have : c = .int .u8 x := by simpa using h1
        rw [this]; rfl
      · intro b hb
        rcases List.mem_cons.1 hb with rfl | hb
        · exact h2
        · exact h4 b hb
  refine ⟨⟨l, by rw [← hlen, hl1, List.length_map]⟩, hl1, hl2⟩

/-- '==' of two rows of bytes. -/
theorem run_eqItems_bytes (d : Nat) {e : TypeId} (he : P.underlying e = some (.int .u8)) (hp : P.plainKey e = true) {n : Nat} (a b : Bs n) (w : World) : ∀ (is : List Nat), (∀ i ∈ is, i < n) →
    (Op.eqItems (d + 1) e 1 a.cs.toArray b.cs.toArray is).run P w = .ok (is.all fun i => a.1.getD i 0 == b.1.getD i 0) w
  | [], _ => by simp [Op.eqItems]
  | i :: is, h => by
    have hi : i < n := h i (List.mem_cons_self ..)
    have ha : a.cs.toArray[i * 1]? = some (.int .u8 (a.1.getD i 0)) := by
      have := a.2
      simp [Bs.cs, List.getD_eq_getElem?_getD, List.getElem?_eq_getElem (show i < a.1.length by omega)]
    have hb : b.cs.toArray[i * 1]? = some (.int .u8 (b.1.getD i 0)) := by
      have := b.2
      simp [Bs.cs, List.getD_eq_getElem?_getD, List.getElem?_eq_getElem (show i < b.1.length by omega)]
    have ih := run_eqItems_bytes d he hp a b w is (fun j hj => h j (List.mem_cons_of_mem _ hj))
    simp only [Op.eqItems, Sem.run_bind, run_part_plain w hp ha, run_part_plain w hp hb, Result.andThen_ok, run_equalIn_int w d e _ _ _ _ he, List.all_cons]
    cases (a.1.getD i 0 == b.1.getD i 0)
    · simp
    · simpa using ih
theorem bytes_eq_iff {n : Nat} (a b : Bs n) : ((List.range n).all fun i => a.1.getD i 0 == b.1.getD i 0) = decide (a = b) := by
  rw [Bool.eq_iff_iff, decide_eq_true_iff, List.all_eq_true]
  constructor
  · intro h
    apply Subtype.ext
    apply List.ext_getElem
    · rw [a.2, b.2]
    · intro i h1 h2
      have := h i (List.mem_range.2 (by rw [← a.2]; exact h1))
      simpa [List.getD_eq_getElem?_getD, List.getElem?_eq_getElem h1, List.getElem?_eq_getElem h2] using this
  · rintro rfl i _
    simp
theorem run_equalIn_bytes (d : Nat) {t e : TypeId} {n : Nat} (a b : Bs n) (hu : P.underlying t = some (.array n e)) (he : P.underlying e = some (.int .u8)) (hp : P.plainKey e = true) (hc : P.cellsOf e = 1) (w : World) :
    (Op.equalIn (d + 2) t (.agg a.cs.toArray) (.agg b.cs.toArray)).run P w = .ok (decide (a = b)) w := by
  obtain ⟨i, hi⟩ := info_of_underlying he
  rw [run_equalIn_array w (d + 1) _ _ hu hi, hc, run_eqItems_bytes d he hp a b w _ (fun i h => List.mem_range.1 h), bytes_eq_iff]

/-! ### Whole rows inside regions that draw, and into rows that stand -/
theorem grownBy_setRow (w : World) (g : Nat) (cs : Array Value) : w.grownBy (w.setRow g cs) (some g) :=
  ⟨rfl, rfl, rfl, by simp [World.setRow], fun k hk hne => by
    have : g ≠ k := fun e => hne (by rw [e])
    simp [World.setRow, Array.getElem?_modify, this]⟩
theorem wp_put_row {op : Oper} {a : Act} {w : World} {K : Act → World → Prop} {Q : Exit → Act → World → Prop} (ty : TypeId) (x y : Operand) (ho : op.op = .store ty x y)
    (g : Nat) (t : TypeId) (c c' : Array Value) (hb : w.heap[g]? = some (.cells c t (0, 0))) (hx : a.eval x = .pointer (some ⟨g, 0, none⟩)) (hy : a.eval y = .agg c')
    (hi : (P.info? ty).map (·.size) = some c'.size) (hs : c.size = c'.size) (h1 : c'.all (·.oneCell') = true)
    (h : ∀ w1, w1.heap[g]? = some (.cells c' t (0, 0)) → w.grownBy w1 (some g) → w.heap.size = w1.heap.size → K (a.put op.dst undef) w1) : op.wp P a w K Q := by
  unfold Oper.wp execOp
  simp only [ho, hx, hy, Instr.storeAt, Instr.sureAddr, Sem.run_bind, Sem.run_pure, Result.andThen_ok, run_storeVar_row w g t ty c c' hb hi hs h1]
  exact h _ (setRow_heap w g c c' t (0, 0) hb) (grownBy_setRow w g c') (by simp [World.setRow])

end Go.Proofs.YtnjbjjmoglogeaaGreat.KB
