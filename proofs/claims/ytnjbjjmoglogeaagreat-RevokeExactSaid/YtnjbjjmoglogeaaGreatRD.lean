/- What a value of a type reads as, in the words of the print's kinds: from the reading of an argument as data to the facts that a printed function asks. No conditions but those of each lemma. -/
import Derived.Test.YtnjbjjmoglogeaaGreatWWords
import Derived.ChangeArms
import Derived.SizedLaws
import Derived.DataElems
import Derived.OpenShut
namespace Go.Proofs.YtnjbjjmoglogeaaGreat.RD
open Go.RowKit Go.Proofs.YtnjbjjmoglogeaaGreatW.PrintWords

/-- A value of type t reads, in this world, as a value of the kind, of which wf holds. -/
def Reads (P : Program) (w : World) (t : TypeId) {α : Type} (kd : Kd α) (wf : α → Prop) : Prop :=
  ∀ (H : Type) (enc : TypeId × Value → H) (fuel : Nat) (cs : List Value) (d : DataW H) (ps : List MemPlace),
    DataW.trod enc P w 0 (fun _ => true) true fuel t cs = some (d, ps) → (∀ n ∈ d.weights P t, n ≤ reachBytes) → ∃ x, kd.K w x cs ∧ wf x

variable {P : Program} {w : World} {t : TypeId}

theorem Reads.imp {α : Type} {kd : Kd α} {wf wf' : α → Prop} (h : Reads P w t kd wf) (hw : ∀ x, wf x → wf' x) : Reads P w t kd wf' :=
  fun H enc fuel cs d ps hd hz => let ⟨x, h1, h2⟩ := h H enc fuel cs d ps hd hz; ⟨x, h1, hw x h2⟩

theorem reads_int {k : IntKind} (hu : P.underlying t = some (.int k)) : Reads P w t (Kd.int k) (fun x => (Lit.int k x).wf = true) := by
  intro H enc fuel cs d ps h _
  obtain ⟨n, rfl, _, hw⟩ := DataW.trod_int hu h
  exact ⟨n, rfl, hw⟩

theorem reads_bool (hu : P.underlying t = some .bool) : Reads P w t Kd.bool (fun _ => True) := by
  intro H enc fuel cs d ps h _
  obtain ⟨n, rfl, _⟩ := DataW.trod_bool hu h
  exact ⟨n, rfl, trivial⟩


theorem weightsAll_mem {H : Type} {e : TypeId} {l : List (DataW H)} {d : DataW H} (h : d ∈ l) {n : Nat} (hn : n ∈ d.weights P e) : n ∈ DataW.weightsAll P e l := by
  induction l with
  | nil => cases h
  | cons a r ih =>
    simp only [DataW.weightsAll, List.mem_append]
    rcases List.mem_cons.mp h with rfl | h
    · exact .inl hn
    · exact .inr (ih h)

theorem reads_slice {α : Type} {kd : Kd α} {wf : α → Prop} {e : TypeId} {B : Nat} (hu : P.underlying t = some (.slice e)) (he : Reads P w e kd wf) (hc : P.cellsOf e = kd.sz) (hB : P.bytesOf e = B) :
    Reads P w t (Kd.slice e kd) (fun l => l.length * B ≤ 140737488351232 ∧ ∀ x ∈ l, wf x) := by
  intro H enc fuel cs d ps h hz
  rcases DataW.trod_slice hu h with ⟨rfl, _⟩ | ⟨a, len, cap, elems, rest, n, rfl, rfl, hx, hb, hl, hm, hlen, hel, _⟩
  · exact ⟨[], ⟨none, 0, rfl, Nat.le_refl _, Kd.C_nil kd w⟩, by simp, fun x hx => by cases hx⟩
  · have hd := (Prod.mk.inj hx).1
    subst hd
    have hbytes := hz (((elems.map (·.1)).length + (rest.map (·.1)).length) * B) (by simp [DataW.weights, hu, hB])
    have key : ∀ i, i < len → ∃ x, (∃ c, c.length = kd.sz ∧ kd.K w x c ∧ ∀ j u, c[j]? = some u → w.cell? (a.add (i * kd.sz + j)) = some u) ∧ wf x := by
      intro i hi
      have h1 := hel i hi
      obtain ⟨y, hy⟩ : ∃ y, elems[i]? = some y := ⟨_, List.getElem?_eq_getElem (by omega)⟩
      rw [hy] at h1
      obtain ⟨c, hc1, hc2⟩ := Option.bind_eq_some_iff.mp h1
      obtain ⟨x, hx1, hx2⟩ := he H enc n c y.1 y.2 (by simpa using hc2) (by
        intro m hm'
        refine hz m ?_
        simp only [DataW.weights, hu]
        refine List.mem_cons_of_mem _ (List.mem_append.mpr (.inl ?_))
        exact weightsAll_mem (List.mem_map.mpr ⟨y, List.mem_of_getElem? hy, rfl⟩) hm')
      have hs := World.cells?_some hc1
      refine ⟨x, ⟨c, kd.K_len hx1, hx1, ?_⟩, hx2⟩
      intro j u hu'
      have hj : j < P.cellsOf e := by
        rw [hc, ← kd.K_len hx1]
        exact (List.getElem?_eq_some_iff.mp hu').1
      have := hs.2.2 j hj
      rw [hu', hc] at this
      rw [← Addr.add_add]
      exact this
    refine ⟨List.ofFn (fun i : Fin len => Classical.choose (key i.1 i.2)), ⟨some a, cap, ?_, ?_, ?_, ?_, ?_⟩, ?_, ?_⟩
    · simp
    · simpa using hl
    · simp
    · simp only [List.length_ofFn]; exact Nat.le_trans hl hm
    · intro _
      refine ⟨a, rfl, ?_⟩
      intro j p hp
      obtain ⟨hj, hp'⟩ := List.getElem?_eq_some_iff.mp hp
      have hj' : j < len := by simpa using hj
      have := (Classical.choose_spec (key j hj')).1
      simp only [List.getElem_ofFn] at hp'
      rw [← hp']
      exact this
    · simp only [List.length_ofFn]
      have h2 : len * B ≤ ((elems.map (·.1)).length + (rest.map (·.1)).length) * B := Nat.mul_le_mul_right _ (by simp; omega)
      exact Nat.le_trans h2 (by simpa [reachBytes] using hbytes)
    · intro x hx
      obtain ⟨i, rfl⟩ := List.mem_ofFn.mp hx
      exact (Classical.choose_spec (key i.1 i.2)).2

/-- The fields from one on: their cells are what is left behind its offset. -/
def ReadsF (P : Program) (w : World) (fs : List Field) (o : Nat) {α : Type} (kd : Kd α) (wf : α → Prop) : Prop :=
  ∀ (H : Type) (enc : TypeId × Value → H) (fuel : Nat) (cs : List Value) (xs : List (DataW H × List MemPlace)),
    (∀ (i : Nat) (f : Field), fs[i]? = some f → DataW.trod enc P w 0 (fun _ => true) true fuel f.type ((cs.drop f.offset).take (P.cellsOf f.type)) = xs[i]?) →
    xs.length = fs.length → cs.length = o + kd.sz → (∀ n ∈ DataW.weightsEach P (fs.map (·.type)) (xs.map (·.1)), n ≤ reachBytes) → ∃ x, kd.K w x (cs.drop o) ∧ wf x

theorem readsF_one {α : Type} {kd : Kd α} {wf : α → Prop} {f : Field} {o : Nat} (h : Reads P w f.type kd wf) (ho : f.offset = o) (hc : P.cellsOf f.type = kd.sz) : ReadsF P w [f] o kd wf := by
  intro H enc fuel cs xs hx hl hcs hz
  have h0 := hx 0 f rfl
  obtain ⟨y, rfl⟩ : ∃ y, xs = [y] := by
    cases xs with
    | nil => simp at hl
    | cons y r => cases r with
      | nil => exact ⟨y, rfl⟩
      | cons z r => simp at hl
  rw [ho, hc, List.take_of_length_le (by rw [List.length_drop]; omega)] at h0
  exact h H enc fuel _ y.1 y.2 (by simpa using h0) (fun n hn => hz n (by simp [DataW.weightsEach, hn]))

theorem readsF_cons {α β : Type} {ka : Kd α} {kb : Kd β} {wa : α → Prop} {wb : β → Prop} {f : Field} {fs : List Field} {o : Nat} (h : Reads P w f.type ka wa) (ho : f.offset = o) (hc : P.cellsOf f.type = ka.sz)
    (hr : ReadsF P w fs (o + ka.sz) kb wb) : ReadsF P w (f :: fs) o (Kd.pair ka kb) (fun x => wa x.1 ∧ wb x.2) := by
  intro H enc fuel cs xs hx hl hcs hz
  cases xs with
  | nil => simp at hl
  | cons y r =>
    have h0 := hx 0 f rfl
    rw [ho, hc] at h0
    have hsz : (Kd.pair ka kb).sz = ka.sz + kb.sz := rfl
    obtain ⟨x, hx1, hx2⟩ := h H enc fuel _ y.1 y.2 (by simpa using h0) (fun n hn => hz n (by simp [DataW.weightsEach, hn]))
    obtain ⟨z, hz1, hz2⟩ := hr H enc fuel cs r (fun i g hg => by have := hx (i + 1) g (by simpa using hg); simpa using this) (by simpa using hl) (by rw [hcs, hsz]; omega) (fun n hn => hz n (by simp only [List.map_cons, DataW.weightsEach]; exact List.mem_append.mpr (.inr hn)))
    refine ⟨(x, z), ⟨(cs.drop o).take ka.sz, cs.drop (o + ka.sz), ?_, hx1, hz1⟩, hx2, hz2⟩
    rw [← List.drop_drop, List.take_append_drop]

/-- A struct, by its fields. -/
theorem reads_struct {α β : Type} {kd : Kd α} {wf : α → Prop} {fs : Array Field} (hu : P.underlying t = some (.struct fs)) (hf : ReadsF P w fs.toList 0 kd wf) (hc : P.cellsOf t = kd.sz) (f : β → α) (g : α → β) (hg : ∀ x, f (g x) = x) :
    Reads P w t (Kd.iso kd f) (fun x => wf (f x)) := by
  intro H enc fuel cs d ps h hz
  obtain ⟨xs, n, rfl, hx, hl, hxl, hi⟩ := DataW.trod_struct hu h
  have hd := (Prod.mk.inj hx).1
  subst hd
  obtain ⟨x, h1, h2⟩ := hf H enc n cs xs (fun i f' hf' => hi i f' (by simpa using hf')) (by simpa using hxl) (by omega) (fun m hm => hz m (by simp only [DataW.weights, hu]; exact hm))
  refine ⟨g x, ?_, by show wf (f (g x)); rw [hg]; exact h2⟩
  show kd.K w (f (g x)) cs
  rw [hg]
  simpa using h1

/-- An array of one-celled or other elements, as so many fields: the first, and the others. -/
def ReadsA (P : Program) (w : World) (e : TypeId) (m : Nat) {α : Type} (kd : Kd α) (wf : α → Prop) : Prop :=
  ∀ (H : Type) (enc : TypeId × Value → H) (fuel : Nat) (cs : List Value) (xs : List (DataW H × List MemPlace)),
    (∀ i, i < m → DataW.trod enc P w 0 (fun _ => true) true fuel e ((cs.drop (i * P.cellsOf e)).take (P.cellsOf e)) = xs[i]?) →
    xs.length = m → cs.length = kd.sz → (∀ n ∈ DataW.weightsAll P e (xs.map (·.1)), n ≤ reachBytes) → ∃ x, kd.K w x cs ∧ wf x




/-- An argument of a row, read. -/
theorem reads_arg {H : Type} {enc : TypeId × Value → H} {α : Type} {kd : Kd α} {wf : α → Prop} {ts : List TypeId} {ds : List (DataW H)} {j : Nat} {v : Value} {d : DataW H} {ps : List MemPlace}
    (hr : Reads P w t kd wf) (hsz : (DataW.weightsEach P ts ds).all (· ≤ reachBytes) = true) (ht : ts[j]? = some t) (hd : ds[j]? = some d) (h : DataW.Trod enc P w 0 (fun _ => true) true t v d ps) :
    ∃ x, kd.K w x v.cells.toList ∧ wf x := by
  obtain ⟨fuel, hf⟩ := h
  exact hr H enc fuel _ d ps hf (fun n hn => by
    have := List.all_eq_true.1 hsz n (DataW.weights_mem_each ht hd n hn)
    simpa using this)
theorem wf_u8 {x : Int} (h : (Lit.int .u8 x).wf = true) : 0 ≤ x ∧ x < 256 := by simp [Lit.wf, IntKind.min, IntKind.max, IntKind.bits, IntKind.signed] at h; omega
end Go.Proofs.YtnjbjjmoglogeaaGreat.RD
