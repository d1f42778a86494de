/- Rings, in plain Lean: what a ring is, and that what is told of a ring is one. No conditions but those of each lemma. -/
import Derived.Test.YtnechcibpmjblaaG2
namespace Go.Proofs.Ytnechcibpmjblaa
open KB
set_option linter.unusedVariables false

/-- A ring: its last key is the current one, the others have an end; kids rise; few keys. -/
structure IsRing (init : List Key) (last : Key) (next : Int) : Prop where
  cur : last.til = 0
  ends : ∀ k ∈ init, 0 < k.til
  rise : ((init ++ [last]).map (·.kid)).Pairwise (· < ·)
  pos : ∀ k ∈ init ++ [last], 1 ≤ k.kid
  below : last.kid < next
  few : init.length + 1 ≤ 8
  max : next ≤ 9223372036854775807

theorem bad_false {ks : List Key} {i : Nat} (h : badK ks i = false) : 1 ≤ (rdK ks (i : Int)).kid ∧ (0 < i → (rdK ks ((i : Int) - 1)).kid < (rdK ks (i : Int)).kid) ∧ (i + 1 = ks.length → (rdK ks (i : Int)).til = 0) ∧ (i + 1 ≠ ks.length → 0 < (rdK ks (i : Int)).til) := by
  unfold badK at h
  simp only [Bool.or_eq_false_iff, Bool.and_eq_false_iff, decide_eq_false_iff_not] at h
  omega
theorem bad_of {ks : List Key} {i : Nat} (h : 1 ≤ (rdK ks (i : Int)).kid ∧ (0 < i → (rdK ks ((i : Int) - 1)).kid < (rdK ks (i : Int)).kid) ∧ (i + 1 = ks.length → (rdK ks (i : Int)).til = 0) ∧ (i + 1 ≠ ks.length → 0 < (rdK ks (i : Int)).til)) : badK ks i = false := by
  unfold badK
  simp only [Bool.or_eq_false_iff, Bool.and_eq_false_iff, decide_eq_false_iff_not]
  omega
theorem check_iff {ks : List Key} {next : Int} : checkK ks next = true ↔ (1 ≤ ks.length ∧ ks.length ≤ 8 ∧ next ≤ 9223372036854775807 ∧ (rdK ks ((ks.length : Int) - 1)).kid < next ∧ ∀ i, i < ks.length → badK ks i = false) := by
  unfold checkK
  simp only [Bool.and_eq_true, decide_eq_true_iff, List.all_eq_true, List.mem_range, Bool.not_eq_true']
  constructor
  · rintro ⟨⟨⟨⟨a, b⟩, c⟩, d⟩, e⟩; exact ⟨a, b, c, d, e⟩
  · rintro ⟨a, b, c, d, e⟩; exact ⟨⟨⟨⟨a, b⟩, c⟩, d⟩, e⟩
theorem isRing_of_check {ks : List Key} {next : Int} (h : checkK ks next = true) : ∃ init last, ks = init ++ [last] ∧ IsRing init last next := by
  obtain ⟨h1, h8, hm, hl, hb⟩ := check_iff.1 h
  have hne : ks ≠ [] := by intro e; rw [e] at h1; simp at h1
  refine ⟨ks.dropLast, ks.getLast hne, (List.dropLast_concat_getLast hne).symm, ?_⟩
  have hlast : rdK ks ((ks.length : Int) - 1) = ks.getLast hne := by
    rw [show (ks.length : Int) - 1 = ((ks.length - 1 : Nat) : Int) by omega, rdK_eq (by omega), List.getLast_eq_getElem]
  have mono : ∀ i j, (hij : i < j) → (hj : j < ks.length) → (ks[i]'(Nat.lt_trans hij hj)).kid < (ks[j]).kid := by
    intro i j hij
    induction j with
    | zero => omega
    | succ j ih =>
      intro hj
      have := (bad_false (hb (j + 1) hj)).2.1 (by omega)
      rw [show ((j + 1 : Nat) : Int) - 1 = (j : Int) by omega, rdK_eq (by omega), rdK_eq hj] at this
      rcases Nat.lt_or_ge i j with h' | h'
      · have := ih h' (by omega); omega
      · obtain rfl : i = j := by omega
        exact this
  constructor
  · have := (bad_false (hb (ks.length - 1) (by omega))).2.2.1 (by omega)
    rw [rdK_eq (by omega), ← List.getLast_eq_getElem hne] at this
    exact this
  · intro k hk
    obtain ⟨i, hi, rfl⟩ := List.getElem_of_mem hk
    rw [List.length_dropLast] at hi
    have := (bad_false (hb i (by omega))).2.2.2 (by omega)
    rw [rdK_eq (by omega)] at this
    rw [List.getElem_dropLast]
    exact this
  · rw [List.dropLast_concat_getLast hne, List.pairwise_iff_getElem]
    intro i j hi hj hij
    simp only [List.length_map] at hi hj
    rw [List.getElem_map, List.getElem_map]
    exact mono i j hij hj
  · rw [List.dropLast_concat_getLast hne]
    intro k hk
    obtain ⟨i, hi, rfl⟩ := List.getElem_of_mem hk
    have := (bad_false (hb i hi)).1
    rwa [rdK_eq hi] at this
  · rw [← hlast]; exact hl
  · rw [List.length_dropLast]; omega
  · exact hm
theorem check_of_isRing {init : List Key} {last : Key} {next : Int} (h : IsRing init last next) : checkK (init ++ [last]) next = true := by
  have hlen : (init ++ [last]).length = init.length + 1 := by simp
  refine check_iff.2 ⟨by omega, by rw [hlen]; exact h.few, h.max, ?_, ?_⟩
  · rw [show ((init ++ [last]).length : Int) - 1 = (init.length : Int) by omega, rdK_eq (by omega)]
    simpa using h.below
  · intro i hi
    refine bad_of ⟨?_, ?_, ?_, ?_⟩
    · rw [rdK_eq hi]; exact h.pos _ (List.getElem_mem _)
    · intro h0
      rw [show (i : Int) - 1 = ((i - 1 : Nat) : Int) by omega, rdK_eq (by omega), rdK_eq hi]
      have := List.pairwise_iff_getElem.1 h.rise (i - 1) i (by simp at hi ⊢; omega) (by simp at hi ⊢; omega) (by omega)
      rwa [List.getElem_map, List.getElem_map] at this
    · intro he
      have : i = init.length := by omega
      subst this
      rw [rdK_eq hi]
      simpa using h.cur
    · intro he
      rw [rdK_eq hi, List.getElem_append_left (by omega)]
      exact h.ends _ (List.getElem_mem _)

/-- Kids are one key's. -/
theorem kid_inj {l : List Key} (h : (l.map (·.kid)).Pairwise (· < ·)) {a b : Key} (ha : a ∈ l) (hb : b ∈ l) (e : a.kid = b.kid) : a = b := by
  obtain ⟨i, hi, rfl⟩ := List.getElem_of_mem ha
  obtain ⟨j, hj, rfl⟩ := List.getElem_of_mem hb
  have hp := List.pairwise_iff_getElem.1 h
  rcases Nat.lt_trichotomy i j with h' | h' | h'
  · have := hp i j (by simpa) (by simpa) h'
    rw [List.getElem_map, List.getElem_map] at this
    omega
  · subst h'; rfl
  · have := hp j i (by simpa) (by simpa) h'
    rw [List.getElem_map, List.getElem_map] at this
    omega
/-- Finding a key by what holds of it alone. -/
theorem one_of {p : Key → Bool} {ks : List Key} {next : Int} (h : checkK ks next = true) {k : Key} (hk : k ∈ ks) (hp : p k = true) (hu : ∀ x ∈ ks, p x = true → x = k) : oneF p ks next = k := by
  unfold oneF
  rcases idx_range p ks with hi | ⟨i, hi, hl⟩
  · exfalso
    unfold idxF at hi
    cases hf : ks.findIdx? p with
    | none =>
      have := List.findIdx?_eq_none_iff.1 hf k hk
      rw [hp] at this; cases this
    | some j => rw [hf] at hi; simp only at hi; omega
  · rw [h, hi]
    have hpi : p ks[i] = true := by
      unfold idxF at hi
      cases hf : ks.findIdx? p with
      | none => rw [hf] at hi; simp only at hi; omega
      | some j =>
        rw [hf] at hi
        obtain rfl : j = i := by simp only at hi; omega
        exact (List.findIdx?_eq_some_iff_getElem.1 hf).2.1
    simp only [Bool.true_and]
    rw [if_pos (by simp), rdK_eq hl]
    exact hu _ (List.getElem_mem _) hpi
theorem one_none {p : Key → Bool} {ks : List Key} {next : Int} (hn : ∀ x ∈ ks, p x = false) : oneF p ks next = zKey := by
  unfold oneF
  have hi : idxF p ks = -1 := by
    unfold idxF
    rw [List.findIdx?_eq_none_iff.2 hn]
  rw [hi]
  simp
section
variable {init : List Key} {last : Key} {next : Int}
theorem IsRing.find (h : IsRing init last next) {k : Key} (hk : k ∈ init ++ [last]) : findF k.kid (init ++ [last]) next = k :=
  one_of (check_of_isRing h) hk (by simp) (fun x hx hp => kid_inj h.rise hx hk (by simpa using hp))
theorem IsRing.find_none (h : IsRing init last next) {kid : Int} (hn : ∀ k ∈ init ++ [last], k.kid ≠ kid) : findF kid (init ++ [last]) next = zKey :=
  one_none (fun x hx => by simpa using hn x hx)
theorem IsRing.curr (h : IsRing init last next) : curF (init ++ [last]) next = last :=
  one_of (check_of_isRing h) (by simp) (by simpa using h.cur) (fun x hx hp => by
    rcases List.mem_append.1 hx with hx | hx
    · have := h.ends x hx
      have : x.til = 0 := by simpa using hp
      omega
    · exact List.mem_singleton.1 hx)
theorem IsRing.ne_zero (h : IsRing init last next) {k : Key} (hk : k ∈ init ++ [last]) : k ≠ zKey := fun e => by
  have := h.pos k hk
  rw [e] at this
  exact absurd this (by decide)
theorem rise_sub {l m : List Key} (h : (l.map (·.kid)).Pairwise (· < ·)) (hs : m.Sublist l) : (m.map (·.kid)).Pairwise (· < ·) := h.sublist (hs.map _)
theorem IsRing.sub (h : IsRing init last next) {init' : List Key} (hs : init'.Sublist init) : IsRing init' last next where
  cur := h.cur
  ends := fun k hk => h.ends k (hs.subset hk)
  rise := rise_sub h.rise (hs.append (List.Sublist.refl _))
  pos := fun k hk => h.pos k ((hs.append (List.Sublist.refl _)).subset hk)
  below := h.below
  few := by have := hs.length_le; have := h.few; omega
  max := h.max
theorem IsRing.prK (h : IsRing init last next) (now : Int) : prK (init ++ [last]) now = (init.filter fun k => !(decide (0 < k.til) && decide (k.til ≤ now))) ++ [last] := by
  unfold Ytnechcibpmjblaa.prK
  rw [List.filter_append]
  congr 1
  simp [h.cur]
end
end Go.Proofs.Ytnechcibpmjblaa
