/- What a ring is without one of its keys. No conditions but those of each lemma. -/
import Derived.Test.YtnechcibpmjblaaN
namespace Go.Proofs.Ytnechcibpmjblaa
open Go.RowKit Go.Proofs.YtnechcibpmjblaaW.PrintWords KB
set_option linter.unusedVariables false

/-- A ring x without the key k of the ring init ++ [last]. -/
structure Gone (init : List Key) (last : Key) (next : Int) (k : Key) (s : Bs 32) (init' : List Key) (last' : Key) (next' : Int) : Prop where
  ring : IsRing init' last' next'
  gone : ∀ x ∈ init' ++ [last'], x.kid ≠ k.kid
  others : ∀ x ∈ init ++ [last], x ≠ k → x ∈ init' ++ [last']
  other : k.kid ≠ last.kid → last' = last ∧ next' = next ∧ init'.length + 1 = init.length
  same : k.kid = last.kid → last' = ⟨next, s, 0⟩ ∧ next' = next + 1 ∧ init'.length = init.length
  nonneg : 0 ≤ next'
theorem filter_ne_len {l : List Key} (h : (l.map (·.kid)).Pairwise (· < ·)) {k : Key} (hk : k ∈ l) : (l.filter fun x => !decide (x = k)).length + 1 = l.length := by
  induction l with
  | nil => cases hk
  | cons a r ih =>
    rw [List.map_cons, List.pairwise_cons] at h
    by_cases e : a = k
    · subst e
      have hn : r.filter (fun x => !decide (x = a)) = r := List.filter_eq_self.2 (fun x hx => by
        have := h.1 x.kid (List.mem_map.2 ⟨x, hx, rfl⟩)
        have : x ≠ a := fun e => by rw [e] at this; omega
        simp [this])
      rw [List.filter_cons_of_neg (by simp), hn]
      rfl
    · rw [List.filter_cons_of_pos (by simp [e]), List.length_cons, List.length_cons, ih h.2 (by
        rcases List.mem_cons.1 hk with h' | h'
        · exact absurd h'.symm e
        · exact h')]
theorem gone_of {init : List Key} {last : Key} {next : Int} (h : IsRing init last next) (hm : next < 9223372036854775807) {k : Key} (hk : k ∈ init ++ [last]) (s : Bs 32) :
    ∃ init' last' next', distrustF ⟨init ++ [last], next⟩ k.kid s = (⟨init' ++ [last'], next'⟩, 0) ∧ Gone init last next k s init' last' next' := by
  have hpos : 0 ≤ next := by have := h.pos last (by simp); have := h.below; omega
  rcases List.mem_append.1 hk with hi | hl
  · refine ⟨_, last, next, h.distrust_init hi s, ?_⟩
    have hne : k.kid ≠ last.kid := fun e => h.last_notin (by rw [← kid_inj h.rise hk (by simp) e]; exact hi)
    refine ⟨h.sub List.filter_sublist, ?_, ?_, ?_, fun e => absurd e hne, hpos⟩
    · intro x hx e
      rcases List.mem_append.1 hx with hx | hx
      · have h2 := List.mem_filter.1 hx
        have : x = k := kid_inj h.rise (List.mem_append_left _ h2.1) hk e
        rw [this] at h2
        simp at h2
      · rw [List.mem_singleton.1 hx] at e
        exact hne e.symm
    · intro x hx hxk
      rcases List.mem_append.1 hx with hx | hx
      · exact List.mem_append_left _ (List.mem_filter.2 ⟨hx, by simp [hxk]⟩)
      · exact List.mem_append_right _ hx
    · intro _
      refine ⟨rfl, rfl, filter_ne_len ?_ hi⟩
      exact rise_sub h.rise (List.sublist_append_left _ _)
  · obtain rfl := List.mem_singleton.1 hl
    refine ⟨init, ⟨next, s, 0⟩, next + 1, h.distrust_last s hm, ?_⟩
    refine ⟨h.replaced s hm, ?_, ?_, fun e => absurd rfl e, fun _ => ⟨rfl, rfl, rfl⟩, by omega⟩
    · intro x hx e
      have hb := h.below
      rcases List.mem_append.1 hx with hx | hx
      · have : x = k := kid_inj h.rise (List.mem_append_left _ hx) (by simp) e
        exact h.last_notin (this ▸ hx)
      · rw [List.mem_singleton.1 hx] at e
        simp only at e
        omega
    · intro x hx hxk
      rcases List.mem_append.1 hx with hx | hx
      · exact List.mem_append_left _ hx
      · exact absurd (List.mem_singleton.1 hx) hxk
theorem Gone.find_none {init : List Key} {last : Key} {next : Int} {k : Key} {s : Bs 32} {init' : List Key} {last' : Key} {next' : Int} (g : Gone init last next k s init' last' next') : findF k.kid (init' ++ [last']) next' = zKey := g.ring.find_none g.gone
theorem Gone.again {init : List Key} {last : Key} {next : Int} {k : Key} {s : Bs 32} {init' : List Key} {last' : Key} {next' : Int} (g : Gone init last next k s init' last' next') (s' : Bs 32) : distrustF ⟨init' ++ [last'], next'⟩ k.kid s' = (zRg, 53) := g.ring.distrust_none s' g.gone
theorem Gone.find {init : List Key} {last : Key} {next : Int} {k : Key} {s : Bs 32} {init' : List Key} {last' : Key} {next' : Int} (g : Gone init last next k s init' last' next') {x : Key} (hx : x ∈ init ++ [last]) (hn : x ≠ k) : findF x.kid (init' ++ [last']) next' = x := g.ring.find (g.others x hx hn)
end Go.Proofs.Ytnechcibpmjblaa
