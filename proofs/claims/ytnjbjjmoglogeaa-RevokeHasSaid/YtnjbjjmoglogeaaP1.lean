/- Lists of what is revoked: they stay lists; what stands of each grant tells the list; steps grant by grant. No program in sight. -/
import Derived.Test.YtnjbjjmoglogeaaP0
namespace Go.Proofs.Ytnjbjjmoglogeaa
set_option linter.unusedVariables false
set_option linter.unusedSimpArgs false
set_option linter.unnecessarySimpa false
theorem IsL.lt {l : List Rv} (h : IsL l) {x y : Rv} (hx : x ∈ l) (hy : y ∈ l) (hk : key x < key y) : Lt2 x y := by
  obtain ⟨i, hi⟩ := List.getElem?_of_mem hx
  obtain ⟨j, hj⟩ := List.getElem?_of_mem hy
  obtain ⟨h1, e1⟩ := List.getElem?_eq_some_iff.1 hi
  obtain ⟨h2, e2⟩ := List.getElem?_eq_some_iff.1 hj
  subst e1 e2
  rcases Nat.lt_trichotomy i j with c | c | c
  · exact List.pairwise_iff_getElem.1 h.rise i j h1 h2 c
  · subst c; omega
  · have := (List.pairwise_iff_getElem.1 h.rise j i h2 h1 c).1; omega
theorem IsL.of_keys {l m : List Rv} (h : IsL l) (hm : m.Pairwise (fun a b => key a < key b)) (hs : ∀ x ∈ m, x ∈ l) : IsL m :=
  ⟨fun x hx => h.zero x (hs x hx), List.pairwise_iff_forall_sublist.2 (fun {a b} hab => h.lt (hs a (hab.subset (by simp))) (hs b (hab.subset (by simp))) (List.pairwise_iff_forall_sublist.1 hm hab))⟩
theorem IsL.prune {l : List Rv} (h : IsL l) (now : Int) : IsL (pruneF l now) := h.of_keys (h.keys.filter _) (fun x hx => (List.mem_filter.1 hx).1)
theorem key_grant_lt {a b : Rv} (h : a.grant < b.grant) : key a < key b := by
  have h1 := num_id a.id
  have h2 := num_id b.id
  unfold key
  omega
theorem IsL.kill {l : List Rv} (h : IsL l) (g e : Int) : IsL (killF l g e) := by
  unfold killF
  generalize (if wholeF l g then maxE (mid l g) e else e) = e'
  have hA : ∀ x ∈ l.filter (pF g), x ∈ l ∧ x.grant < g := fun x hx => by
    obtain ⟨h1, h2⟩ := List.mem_filter.1 hx
    exact ⟨h1, by simpa [pF] using h2⟩
  have hC : ∀ x ∈ l.filter (fun x => !pT g x), x ∈ l ∧ g < x.grant := fun x hx => by
    obtain ⟨h1, h2⟩ := List.mem_filter.1 hx
    refine ⟨h1, ?_⟩
    simp only [pT, Bool.not_eq_true', decide_eq_false_iff_not] at h2
    omega
  refine ⟨fun x hx hw => ?_, ?_⟩
  · rcases List.mem_append.1 hx with hx | hx
    · rcases List.mem_append.1 hx with hx | hx
      · exact h.zero x (hA x hx).1 hw
      · rw [List.mem_singleton.1 hx]
    · exact h.zero x (hC x hx).1 hw
  · refine List.pairwise_append.2 ⟨List.pairwise_append.2 ⟨h.rise.filter _, by simp, fun x hx y hy => ?_⟩, h.rise.filter _, fun x hx y hy => ?_⟩
    · rw [List.mem_singleton.1 hy]
      have := (hA x hx).2
      exact ⟨key_grant_lt this, fun e => by have e : x.grant = g := e; omega⟩
    · have hy2 := (hC y hy).2
      rcases List.mem_append.1 hx with hx | hx
      · have := (hA x hx).2
        exact ⟨key_grant_lt (by omega), fun e => by omega⟩
      · rw [List.mem_singleton.1 hx]
        exact ⟨key_grant_lt hy2, fun e => by have e : g = y.grant := e; omega⟩
theorem IsL.add {l : List Rv} (h : IsL l) (g : Int) (id : Bs 16) (e : Int) : IsL (addF l g id e) := by
  unfold addF
  cases hw : wholeF l g with
  | true => exact h
  | false =>
    rw [if_neg (by decide)]
    generalize maxE (l.filter (fun x => key x == kx g id)) e = e'
    have hnw : ∀ x ∈ l, x.grant = g → x.whole = false := fun x hx hg => by
      unfold wholeF mid at hw
      rw [List.any_eq_false] at hw
      exact Bool.eq_false_iff.2 (hw x (List.mem_filter.2 ⟨hx, by simpa using hg⟩))
    have hA : ∀ x ∈ l.filter (pQ (kx g id)), x ∈ l ∧ key x < kx g id := fun x hx => by
      obtain ⟨h1, h2⟩ := List.mem_filter.1 hx
      exact ⟨h1, by simpa [pQ] using h2⟩
    have hC : ∀ x ∈ l.filter (fun x => decide (kx g id < key x)), x ∈ l ∧ kx g id < key x := fun x hx => by
      obtain ⟨h1, h2⟩ := List.mem_filter.1 hx
      exact ⟨h1, by simpa using h2⟩
    have hkn : key (⟨false, g, id, e'⟩ : Rv) = kx g id := rfl
    refine ⟨fun x hx hw => ?_, ?_⟩
    · rcases List.mem_append.1 hx with hx | hx
      · rcases List.mem_append.1 hx with hx | hx
        · exact h.zero x (hA x hx).1 hw
        · rw [List.mem_singleton.1 hx] at hw; cases hw
      · exact h.zero x (hC x hx).1 hw
    · refine List.pairwise_append.2 ⟨List.pairwise_append.2 ⟨h.rise.filter _, by simp, fun x hx y hy => ?_⟩, h.rise.filter _, fun x hx y hy => ?_⟩
      · rw [List.mem_singleton.1 hy]
        exact ⟨by rw [hkn]; exact (hA x hx).2, fun e => ⟨hnw x (hA x hx).1 e, rfl⟩⟩
      · rcases List.mem_append.1 hx with hx | hx
        · exact h.lt (hA x hx).1 (hC y hy).1 (by have := (hA x hx).2; have := (hC y hy).2; omega)
        · rw [List.mem_singleton.1 hx]
          exact ⟨by rw [hkn]; exact (hC y hy).2, fun e => ⟨rfl, hnw y (hC y hy).1 e.symm⟩⟩
theorem add_len (l : List Rv) (g : Int) (id : Bs 16) (e : Int) (h : IsL l) : (addF l g id e).length ≤ l.length + 1 := by
  unfold addF
  split
  · omega
  · have h1 := h.drop_q (kx g id)
    have h2 : l.take (nQ l (kx g id)) = l.filter (pQ (kx g id)) := (h.cQ _).1
    have h3 := congrArg List.length (List.take_append_drop (nQ l (kx g id)) l)
    rw [h2, h1] at h3
    simp only [List.length_append, List.length_cons, List.length_nil] at h3 ⊢
    omega
theorem IsL.parts {l : List Rv} (h : IsL l) (g : Int) : l = l.filter (pF g) ++ (mid l g ++ l.filter (fun x => !pT g x)) := by
  have h1 := (h.cF g).1
  have h2 := (h.cT g).2.1
  have h3 := h.mid_eq g
  have h4 := nF_le l g
  rw [← h1, ← h2, ← h3]
  have e : l.drop (nT l g) = (l.drop (nF l g)).drop (nT l g - nF l g) := by rw [List.drop_drop]; congr 1; omega
  rw [e, List.take_append_drop, List.take_append_drop]
theorem kill_len (l : List Rv) (g e : Int) (h : IsL l) : (killF l g e).length ≤ l.length + 1 := by
  have h1 := congrArg List.length (h.parts g)
  unfold killF
  simp only [List.length_append, List.length_cons, List.length_nil] at h1 ⊢
  omega
theorem prune_len (l : List Rv) (now : Int) : (pruneF l now).length ≤ l.length := List.length_filter_le _ _
/-! ### What stands of a grant -/
def addG (G : List Rv) (g : Int) (id : Bs 16) (e : Int) : List Rv :=
  if G.any (fun x => x.whole) then G else G.filter (pQ (kx g id)) ++ [⟨false, g, id, maxE (G.filter (fun x => key x == kx g id)) e⟩] ++ G.filter (fun x => decide (kx g id < key x))
def killG (G : List Rv) (g : Int) (e : Int) : List Rv := [⟨true, g, zBs 16, if G.any (fun x => x.whole) then maxE G e else e⟩]
theorem filter_swap (p q : Rv → Bool) (l : List Rv) : (l.filter p).filter q = (l.filter q).filter p := by
  rw [List.filter_filter, List.filter_filter]
  exact List.filter_congr fun x _ => Bool.and_comm _ _
theorem key_filter (l : List Rv) (g : Int) (id : Bs 16) : (mid l g).filter (fun x => key x == kx g id) = l.filter (fun x => key x == kx g id) := by
  unfold mid
  rw [List.filter_filter]
  refine List.filter_congr fun x _ => ?_
  cases h : key x == kx g id with
  | false => rfl
  | true => have := (kx_id (by simpa using h)).1
            simp [this]
theorem mid_add (l : List Rv) (g : Int) (id : Bs 16) (e : Int) : mid (addF l g id e) g = addG (mid l g) g id e := by
  unfold addF addG
  rw [key_filter]
  change mid (if wholeF l g then _ else _) g = if wholeF l g then _ else _
  split
  · rfl
  · unfold mid
    rw [List.filter_append, List.filter_append, filter_swap, filter_swap (fun x => decide (kx g id < key x))]
    simp
theorem IsL.mid_add_oth {l : List Rv} (h : IsL l) {g g' : Int} (hne : g' ≠ g) (id : Bs 16) (e : Int) : mid (addF l g id e) g' = mid l g' := by
  unfold addF
  split
  · rfl
  · have h1 := h.drop_q (kx g id)
    have h2 : l.take (nQ l (kx g id)) = l.filter (pQ (kx g id)) := (h.cQ _).1
    have h3 := List.take_append_drop (nQ l (kx g id)) l
    rw [h2, h1] at h3
    have h4 : (l.filter (fun x => key x == kx g id)).filter (fun x => x.grant == g') = [] := by
      rw [List.filter_eq_nil_iff]
      intro x hx
      have := (kx_id (by simpa using (List.mem_filter.1 hx).2)).1
      simp only [beq_iff_eq]
      omega
    have h5 : mid l g' = mid (l.filter (pQ (kx g id)) ++ (l.filter (fun x => key x == kx g id) ++ l.filter (fun x => decide (kx g id < key x)))) g' := by rw [h3]
    rw [h5]
    unfold mid
    rw [List.filter_append, List.filter_append, List.filter_append, List.filter_append, h4]
    have : (g == g') = false := by simp only [beq_eq_false_iff_ne, ne_eq]; omega
    simp [this]
theorem mid_kill (l : List Rv) (g e : Int) : mid (killF l g e) g = killG (mid l g) g e := by
  unfold killF killG
  change mid (_ ++ [⟨true, g, zBs 16, if wholeF l g then _ else _⟩] ++ _) g = _
  unfold mid
  rw [List.filter_append, List.filter_append]
  have h1 : (l.filter (pF g)).filter (fun x => x.grant == g) = [] := by
    rw [List.filter_eq_nil_iff]
    intro x hx
    have := (List.mem_filter.1 hx).2
    simp only [pF, decide_eq_true_iff] at this
    simp only [beq_iff_eq]
    omega
  have h2 : (l.filter (fun x => !pT g x)).filter (fun x => x.grant == g) = [] := by
    rw [List.filter_eq_nil_iff]
    intro x hx
    have := (List.mem_filter.1 hx).2
    simp only [pT, Bool.not_eq_true', decide_eq_false_iff_not] at this
    simp only [beq_iff_eq]
    omega
  rw [h1, h2]
  simp [wholeF, mid]
theorem IsL.mid_kill_oth {l : List Rv} (h : IsL l) {g g' : Int} (hne : g' ≠ g) (e : Int) : mid (killF l g e) g' = mid l g' := by
  have h5 : mid l g' = mid (l.filter (pF g) ++ (mid l g ++ l.filter (fun x => !pT g x))) g' := by rw [← h.parts g]
  rw [h5]
  unfold killF mid
  rw [List.filter_append, List.filter_append, List.filter_append, List.filter_append]
  have h1 : (l.filter (fun x => x.grant == g)).filter (fun x => x.grant == g') = [] := by
    rw [List.filter_eq_nil_iff]
    intro x hx
    have : x.grant = g := by simpa using (List.mem_filter.1 hx).2
    simp only [beq_iff_eq]
    omega
  rw [h1]
  have : (g == g') = false := by simp only [beq_eq_false_iff_ne, ne_eq]; omega
  simp [this]
theorem sorted_ext : ∀ {l m : List Rv}, l.Pairwise (fun a b => key a < key b) → m.Pairwise (fun a b => key a < key b) → (∀ x, x ∈ l ↔ x ∈ m) → l = m
  | [], [], _, _, _ => rfl
  | [], b :: m, _, _, h => by have := (h b).2 (by simp); simp at this
  | a :: l, [], _, _, h => by have := (h a).1 (by simp); simp at this
  | a :: l, b :: m, hl, hm, h => by
    obtain ⟨ha, hl2⟩ := List.pairwise_cons.1 hl
    obtain ⟨hb, hm2⟩ := List.pairwise_cons.1 hm
    have e : a = b := by
      rcases List.mem_cons.1 ((h a).1 (by simp)) with e | hx
      · exact e
      · rcases List.mem_cons.1 ((h b).2 (by simp)) with e | hy
        · exact e.symm
        · have h1 := hb a hx
          have h2 := ha b hy
          omega
    subst e
    rw [sorted_ext hl2 hm2 (fun x => ⟨fun hx => by
      rcases List.mem_cons.1 ((h x).1 (List.mem_cons_of_mem _ hx)) with e | h2
      · subst e; have := ha x hx; omega
      · exact h2, fun hx => by
      rcases List.mem_cons.1 ((h x).2 (List.mem_cons_of_mem _ hx)) with e | h2
      · subst e; have := hb x hx; omega
      · exact h2⟩)]
theorem IsL.ext {l m : List Rv} (hl : IsL l) (hm : IsL m) (h : ∀ g, mid l g = mid m g) : l = m :=
  sorted_ext hl.keys hm.keys (fun x => by
    have key2 : ∀ l : List Rv, x ∈ l ↔ x ∈ mid l x.grant := fun l => ⟨fun hx => List.mem_filter.2 ⟨hx, by simp⟩, fun hx => (List.mem_filter.1 hx).1⟩
    rw [key2 l, key2 m, h])
end Go.Proofs.Ytnjbjjmoglogeaa
