/- Lists of what is revoked: they stay lists; what stands of each grant tells the list; steps grant by grant. No program in sight. -/
import Derived.Test.YtnjbjjmoglogeaaGreatP0
namespace Go.Proofs.YtnjbjjmoglogeaaGreat
set_option linter.unusedVariables false
set_option linter.unusedSimpArgs false
set_option linter.unnecessarySimpa false
theorem IsL.lt {l : List Rv} (h : IsL l) {x y : Rv} (hx : x ∈ l) (hy : y ∈ l) (hk : key x < key y) : Lt2 x y := by
  obtain ⟨i, hi⟩ := List.getElem?_of_mem hx
  obtain ⟨j, hj⟩ := List.getElem?_of_mem hy
  obtain ⟨h1, e1⟩ := List.getElem?_eq_some_iff.1 hi
  obtain ⟨h2, e2⟩ := List.getElem?_eq_some_iff.1 hj
  subst e1 e2
  rcases Nat.lt_trichotomy i j with c | c | c
  · exact List.pairwise_iff_getElem.1 h.rise i j h1 h2 c
  · subst c; omega
  · have := (List.pairwise_iff_getElem.1 h.rise j i h2 h1 c).1; omega
theorem key_grant_lt {a b : Rv} (h : a.grant < b.grant) : key a < key b := by
  have h1 := num_id a.id
  have h2 := num_id b.id
  unfold key
  omega
theorem IsL.kill {l : List Rv} (h : IsL l) (g e : Int) : IsL (killF l g e) := by
  unfold killF
  generalize (if wholeF l g then maxE (mid l g) e else e) = e'
  have hA : ∀ x ∈ l.filter (pF g), x ∈ l ∧ x.grant < g := fun x hx => by
    obtain ⟨h1, h2⟩ := List.mem_filter.1 hx
    exact ⟨h1, by simpa [pF] using h2⟩
  have hC : ∀ x ∈ l.filter (fun x => !pT g x), x ∈ l ∧ g < x.grant := fun x hx => by
    obtain ⟨h1, h2⟩ := List.mem_filter.1 hx
    refine ⟨h1, ?_⟩
    simp only [pT, Bool.not_eq_true', decide_eq_false_iff_not] at h2
    omega
  refine ⟨fun x hx hw => ?_, ?_⟩
  · rcases List.mem_append.1 hx with hx | hx
    · rcases List.mem_append.1 hx with hx | hx
      · exact h.zero x (hA x hx).1 hw
      · rw [List.mem_singleton.1 hx]
    · exact h.zero x (hC x hx).1 hw
  · refine List.pairwise_append.2 ⟨List.pairwise_append.2 ⟨h.rise.filter _, by simp, fun x hx y hy => ?_⟩, h.rise.filter _, fun x hx y hy => ?_⟩
    · rw [List.mem_singleton.1 hy]
      have := (hA x hx).2
      exact ⟨key_grant_lt this, fun e => by have e : x.grant = g := e; omega⟩
    · have hy2 := (hC y hy).2
      rcases List.mem_append.1 hx with hx | hx
      · have := (hA x hx).2
        exact ⟨key_grant_lt (by omega), fun e => by omega⟩
      · rw [List.mem_singleton.1 hx]
        exact ⟨key_grant_lt hy2, fun e => by have e : g = y.grant := e; omega⟩
theorem IsL.add {l : List Rv} (h : IsL l) (g : Int) (id : Bs 16) (e : Int) : IsL (addF l g id e) := by
  unfold addF
  cases hw : wholeF l g with
  | true => exact h
  | false =>
    rw [if_neg (by decide)]
    generalize maxE (l.filter (fun x => key x == kx g id)) e = e'
    have hnw : ∀ x ∈ l, x.grant = g → x.whole = false := fun x hx hg => by
      unfold wholeF mid at hw
      rw [List.any_eq_false] at hw
      exact Bool.eq_false_iff.2 (hw x (List.mem_filter.2 ⟨hx, by simpa using hg⟩))
    have hA : ∀ x ∈ l.filter (pQ (kx g id)), x ∈ l ∧ key x < kx g id := fun x hx => by
      obtain ⟨h1, h2⟩ := List.mem_filter.1 hx
      exact ⟨h1, by simpa [pQ] using h2⟩
    have hC : ∀ x ∈ l.filter (fun x => decide (kx g id < key x)), x ∈ l ∧ kx g id < key x := fun x hx => by
      obtain ⟨h1, h2⟩ := List.mem_filter.1 hx
      exact ⟨h1, by simpa using h2⟩
    have hkn : key (⟨false, g, id, e'⟩ : Rv) = kx g id := rfl
    refine ⟨fun x hx hw => ?_, ?_⟩
    · rcases List.mem_append.1 hx with hx | hx
      · rcases List.mem_append.1 hx with hx | hx
        · exact h.zero x (hA x hx).1 hw
        · rw [List.mem_singleton.1 hx] at hw; cases hw
      · exact h.zero x (hC x hx).1 hw
    · refine List.pairwise_append.2 ⟨List.pairwise_append.2 ⟨h.rise.filter _, by simp, fun x hx y hy => ?_⟩, h.rise.filter _, fun x hx y hy => ?_⟩
      · rw [List.mem_singleton.1 hy]
        exact ⟨by rw [hkn]; exact (hA x hx).2, fun e => ⟨hnw x (hA x hx).1 e, rfl⟩⟩
      · rcases List.mem_append.1 hx with hx | hx
        · exact h.lt (hA x hx).1 (hC y hy).1 (by have := (hA x hx).2; have := (hC y hy).2; omega)
        · rw [List.mem_singleton.1 hx]
          exact ⟨by rw [hkn]; exact (hC y hy).2, fun e => ⟨rfl, hnw y (hC y hy).1 e.symm⟩⟩
theorem IsL.parts {l : List Rv} (h : IsL l) (g : Int) : l = l.filter (pF g) ++ (mid l g ++ l.filter (fun x => !pT g x)) := by
  have h1 := (h.cF g).1
  have h2 := (h.cT g).2.1
  have h3 := h.mid_eq g
  have h4 := nF_le l g
  rw [← h1, ← h2, ← h3]
  have e : l.drop (nT l g) = (l.drop (nF l g)).drop (nT l g - nF l g) := by rw [List.drop_drop]; congr 1; omega
  rw [e, List.take_append_drop, List.take_append_drop]
/-! ### What stands of a grant -/
def addG (G : List Rv) (g : Int) (id : Bs 16) (e : Int) : List Rv :=
  if G.any (fun x => x.whole) then G else G.filter (pQ (kx g id)) ++ [⟨false, g, id, maxE (G.filter (fun x => key x == kx g id)) e⟩] ++ G.filter (fun x => decide (kx g id < key x))
def killG (G : List Rv) (g : Int) (e : Int) : List Rv := [⟨true, g, zBs 16, if G.any (fun x => x.whole) then maxE G e else e⟩]
theorem sorted_ext : ∀ {l m : List Rv}, l.Pairwise (fun a b => key a < key b) → m.Pairwise (fun a b => key a < key b) → (∀ x, x ∈ l ↔ x ∈ m) → l = m
  | [], [], _, _, _ => rfl
  | [], b :: m, _, _, h => by have := (h b).2 (by simp); simp at this
  | a :: l, [], _, _, h => by have := (h a).1 (by simp); simp at this
  | a :: l, b :: m, hl, hm, h => by
    obtain ⟨ha, hl2⟩ := List.pairwise_cons.1 hl
    obtain ⟨hb, hm2⟩ := List.pairwise_cons.1 hm
    have e : a = b := by
      rcases List.mem_cons.1 ((h a).1 (by simp)) with e | hx
      · exact e
      · rcases List.mem_cons.1 ((h b).2 (by simp)) with e | hy
        · exact e.symm
        · have h1 := hb a hx
          have h2 := ha b hy
          omega
    subst e
    rw [sorted_ext hl2 hm2 (fun x => ⟨fun hx => by
      rcases List.mem_cons.1 ((h x).1 (List.mem_cons_of_mem _ hx)) with e | h2
      · subst e; have := ha x hx; omega
      · exact h2, fun hx => by
      rcases List.mem_cons.1 ((h x).2 (List.mem_cons_of_mem _ hx)) with e | h2
      · subst e; have := hb x hx; omega
      · exact h2⟩)]
theorem IsL.ext {l m : List Rv} (hl : IsL l) (hm : IsL m) (h : ∀ g, mid l g = mid m g) : l = m :=
  sorted_ext hl.keys hm.keys (fun x => by
    have key2 : ∀ l : List Rv, x ∈ l ↔ x ∈ mid l x.grant := fun l => ⟨fun hx => List.mem_filter.2 ⟨hx, by simp⟩, fun hx => (List.mem_filter.1 hx).1⟩
    rw [key2 l, key2 m, h])
end Go.Proofs.YtnjbjjmoglogeaaGreat
