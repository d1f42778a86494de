/- Plain lists: what is known of each token and grant, in any order (RevokeHas). Condition: the lists are lists (IsL). -/
import Derived.Test.YtnjbjjmoglogeaaP2
namespace Go.Proofs.Ytnjbjjmoglogeaa
open Go.RowKit KB WG RO
set_option linter.unusedVariables false
set_option linter.unusedSimpArgs false
set_option linter.unnecessarySimpa false
def cov (g : Int) (id : Bs 16) (x : Rv) : Bool := (x.grant == g) && (x.whole || decide (x.id = id))
theorem has_any_cov (l : List Rv) (g : Int) (id : Bs 16) : hasF l g id = l.any (cov g id) := by
  unfold hasF mid
  rw [List.any_filter]
  rfl
theorem perm_any {l m : List Rv} (h : l.Perm m) (p : Rv → Bool) : l.any p = m.any p := by
  rw [Bool.eq_iff_iff, List.any_eq_true, List.any_eq_true]
  constructor
  · rintro ⟨x, hx, h2⟩; exact ⟨x, h.mem_iff.1 hx, h2⟩
  · rintro ⟨x, hx, h2⟩; exact ⟨x, h.mem_iff.2 hx, h2⟩
theorem perm_has {l m : List Rv} (h : l.Perm m) (g : Int) (id : Bs 16) : hasF l g id = m.any (cov g id) := by rw [has_any_cov]; exact perm_any h _
theorem any_snoc {m : List Rv} {k : Nat} {x : Rv} {p : Rv → Bool} (h : m[k]? = some x) : (m.take (k + 1)).any p = ((m.take k).any p || p x) := by
  rw [List.take_add_one, h, Option.toList_some, List.any_append, List.any_cons, List.any_nil, Bool.or_false]
/-! ### added -/
def addA : List Rv → Int → Bs 16 → Int → List Rv
  | [], g, id, e => [⟨false, g, id, e⟩]
  | x :: xs, g, id, e => if x.grant = g ∧ x.whole = true then x :: xs else if x.grant = g ∧ x.id = id then { x with exp := max x.exp e } :: xs else x :: addA xs g id e
theorem cov_no {g : Int} {id : Bs 16} {x : Rv} (h : cov g id x = false) : ¬ (x.grant = g ∧ x.whole = true) ∧ ¬ (x.grant = g ∧ x.id = id) := by
  unfold cov at h
  constructor
  · rintro ⟨h1, h2⟩; rw [h2, Bool.true_or, Bool.and_true] at h; simp [h1] at h
  · rintro ⟨h1, h2⟩; rw [decide_eq_true h2, Bool.or_true, Bool.and_true] at h; simp [h1] at h
theorem addA_no {x : Rv} {xs : List Rv} {g : Int} {id : Bs 16} {e : Int} (h : cov g id x = false) : addA (x :: xs) g id e = x :: addA xs g id e := by
  obtain ⟨h1, h2⟩ := cov_no h
  rw [addA, if_neg h1, if_neg h2]
theorem addA_end {g : Int} {id : Bs 16} {e : Int} : ∀ {xs : List Rv}, (∀ (j : Nat), j < xs.length → ∀ y, xs[j]? = some y → cov g id y = false) → addA xs g id e = xs ++ [⟨false, g, id, e⟩]
  | [], _ => rfl
  | x :: xs, h => by
    rw [addA_no (h 0 (by simp) x rfl), addA_end (xs := xs) (fun j hj y hy => h (j + 1) (by simpa using hj) y (by simpa using hy))]
    rfl
theorem addA_whole {g : Int} {id : Bs 16} {e : Int} : ∀ {xs : List Rv} {k : Nat} {x : Rv}, (∀ (j : Nat), j < k → ∀ y, xs[j]? = some y → cov g id y = false) → xs[k]? = some x → x.grant = g → x.whole = true → addA xs g id e = xs
  | [], k, x, _, hx, _, _ => by simp at hx
  | y :: xs, 0, x, _, hx, hg, hw => by
    obtain rfl : y = x := by simpa using hx
    rw [addA, if_pos ⟨hg, hw⟩]
  | y :: xs, k + 1, x, h, hx, hg, hw => by
    rw [addA_no (h 0 (by omega) y rfl), addA_whole (xs := xs) (k := k) (x := x) (fun j hj z hz => h (j + 1) (by omega) z (by simpa using hz)) (by simpa using hx) hg hw]
theorem addA_hit {g : Int} {id : Bs 16} {e : Int} : ∀ {xs : List Rv} {k : Nat} {x : Rv}, (∀ (j : Nat), j < k → ∀ y, xs[j]? = some y → cov g id y = false) → xs[k]? = some x → x.grant = g → x.whole = false → x.id = id → addA xs g id e = xs.set k { x with exp := max x.exp e }
  | [], k, x, _, hx, _, _, _ => by simp at hx
  | y :: xs, 0, x, _, hx, hg, hw, hi => by
    obtain rfl : y = x := by simpa using hx
    rw [addA, if_neg (by rw [hw]; simp), if_pos ⟨hg, hi⟩]
    rfl
  | y :: xs, k + 1, x, h, hx, hg, hw, hi => by
    rw [addA_no (h 0 (by omega) y rfl), addA_hit (xs := xs) (k := k) (x := x) (fun j hj z hz => h (j + 1) (by omega) z (by simpa using hz)) (by simpa using hx) hg hw hi]
    rfl
theorem addA_same {xs : List Rv} {k : Nat} {x : Rv} {e : Int} (hx : xs[k]? = some x) (he : ¬ x.exp < e) : xs.set k { x with exp := max x.exp e } = xs := by
  rw [show max x.exp e = x.exp by omega]
  refine List.ext_getElem? fun j => ?_
  rw [List.getElem?_set]
  split
  · rename_i h
    subst h
    have := (List.getElem?_eq_some_iff.1 hx).1
    rw [if_pos this, hx]
  · rfl
theorem uniq : ∀ {l : List Rv}, l.Pairwise (fun a b => key a < key b) → ∀ {x y : Rv}, x ∈ l → y ∈ l → key x = key y → x = y
  | [], _, _, _, hx, _, _ => by simp at hx
  | z :: l, h, x, y, hx, hy, hk => by
    obtain ⟨h1, h2⟩ := List.pairwise_cons.1 h
    rcases List.mem_cons.1 hx with ex | ux
    · rcases List.mem_cons.1 hy with ey | uy
      · rw [ex, ey]
      · have := h1 y uy; rw [ex] at hk; omega
    · rcases List.mem_cons.1 hy with ey | uy
      · have := h1 x ux; rw [ey] at hk; omega
      · exact uniq h2 ux uy hk
theorem addA_all {g : Int} {id : Bs 16} {e : Int} : ∀ {xs : List Rv}, (∃ x ∈ xs, x.grant = g ∧ x.whole = true) → (∀ y ∈ xs, y.grant = g → y.whole = true) → addA xs g id e = xs
  | [], h, _ => by obtain ⟨x, hx, _⟩ := h; simp at hx
  | y :: xs, h, h2 => by
    by_cases hy : y.grant = g
    · rw [addA, if_pos ⟨hy, h2 y (List.mem_cons_self ..) hy⟩]
    · rw [addA, if_neg (fun h => hy h.1), if_neg (fun h => hy h.1), addA_all (xs := xs) (by
        obtain ⟨x, hx, hg, hw⟩ := h
        rcases List.mem_cons.1 hx with rfl | hx
        · exact absurd hg hy
        · exact ⟨x, hx, hg, hw⟩) (fun z hz => h2 z (List.mem_cons_of_mem _ hz))]
theorem addA_perm {g : Int} {id : Bs 16} {e : Int} {x : Rv} (hxg : x.grant = g) (hxi : x.id = id) : ∀ {xs : List Rv}, x ∈ xs → (∀ y ∈ xs, y.grant = g → y.whole = false) → (∀ y ∈ xs, y.grant = g → y.id = id → y = x) → ∃ r, xs.Perm (x :: r) ∧ (addA xs g id e).Perm ({ x with exp := max x.exp e } :: r)
  | [], h, _, _ => by simp at h
  | y :: xs, h, hw, hu => by
    by_cases hy : y.grant = g ∧ y.id = id
    · obtain rfl := hu y (List.mem_cons_self ..) hy.1 hy.2
      refine ⟨xs, List.Perm.refl _, ?_⟩
      rw [addA, if_neg (by rw [hw y (List.mem_cons_self ..) hy.1]; simp), if_pos hy]
    · have hx : x ∈ xs := by
        rcases List.mem_cons.1 h with rfl | h
        · exact absurd ⟨hxg, hxi⟩ hy
        · exact h
      obtain ⟨r, h1, h2⟩ := addA_perm hxg hxi (xs := xs) hx (fun z hz => hw z (List.mem_cons_of_mem _ hz)) (fun z hz => hu z (List.mem_cons_of_mem _ hz))
      refine ⟨y :: r, (h1.cons y).trans (List.Perm.swap ..), ?_⟩
      rw [addA, if_neg (fun h => by rw [hw y (List.mem_cons_self ..) h.1] at h; exact absurd h.2 (by decide)), if_neg hy]
      exact (h2.cons y).trans (List.Perm.swap ..)
theorem set_perm {l : List Rv} {i : Nat} {x y : Rv} (hx : l[i]? = some x) : ∃ r, l.Perm (x :: r) ∧ (l.set i y).Perm (y :: r) := by
  obtain ⟨hi, rfl⟩ := List.getElem?_eq_some_iff.1 hx
  refine ⟨l.take i ++ l.drop (i + 1), ?_, ?_⟩
  · have e : l = l.take i ++ l[i] :: l.drop (i + 1) := by rw [← List.drop_eq_getElem_cons hi, List.take_append_drop]
    exact (List.Perm.of_eq e).trans List.perm_middle
  · rw [List.set_eq_take_append_cons_drop, if_pos hi]
    exact List.perm_middle
theorem IsL.at_q {l : List Rv} (h : IsL l) {g : Int} {id : Bs 16} {x : Rv} (hx : x ∈ l) (hg : x.grant = g) (hi : x.id = id) : l[nQ l (kx g id)]? = some x := by
  have hk : key x = kx g id := by unfold kx key; rw [hg, hi]
  obtain ⟨i, hix⟩ := List.getElem?_of_mem hx
  have h1 := (h.cQ (kx g id)).2.2 i x hix
  unfold pQ at h1
  rw [decide_eq_false (by omega)] at h1
  have h2 : ¬ i < nQ l (kx g id) := by simpa using h1
  have hil := (List.getElem?_eq_some_iff.1 hix).1
  obtain ⟨y, hy⟩ : ∃ y, l[nQ l (kx g id)]? = some y := ⟨_, List.getElem?_eq_getElem (by omega)⟩
  have h3 := (h.cQ (kx g id)).2.2 _ y hy
  unfold pQ at h3
  rw [decide_eq_false (Nat.lt_irrefl _)] at h3
  have h4 : ¬ key y < kx g id := by simpa using h3
  by_cases he : i = nQ l (kx g id)
  · rw [← he]; exact hix
  · have hp := List.pairwise_iff_getElem.1 h.keys (nQ l (kx g id)) i (by omega) hil (by omega)
    obtain ⟨hyl, rfl⟩ := List.getElem?_eq_some_iff.1 hy
    obtain ⟨hil2, rfl⟩ := List.getElem?_eq_some_iff.1 hix
    omega
theorem perm_add {l al : List Rv} (h : IsL l) (hp : l.Perm al) (g : Int) (id : Bs 16) (e : Int) : (addF l g id e).Perm (addA al g id e) := by
  by_cases hw : wholeF l g = true
  · have hx : ∃ x ∈ l, x.grant = g ∧ x.whole = true := by
      unfold wholeF mid at hw
      obtain ⟨x, hx, hw⟩ := List.any_eq_true.1 hw
      obtain ⟨h1, h2⟩ := List.mem_filter.1 hx
      exact ⟨x, h1, by simpa using h2, hw⟩
    have ha : ∀ y ∈ l, y.grant = g → y.whole = true := by
      obtain ⟨x, hx, hxg, hxw⟩ := hx
      intro y hy hyg
      rcases Int.lt_trichotomy (key y) (key x) with hk | hk | hk
      · have := ((h.lt hy hx hk).2 (hyg.trans hxg.symm)).2
        rw [hxw] at this
        cases this
      · rw [uniq h.keys hy hx hk]; exact hxw
      · have := ((h.lt hx hy hk).2 (hxg.trans hyg.symm)).1
        rw [hxw] at this
        cases this
    rw [addA_all (by obtain ⟨x, hx, h2⟩ := hx; exact ⟨x, hp.mem_iff.1 hx, h2⟩) (fun y hy => ha y (hp.mem_iff.2 hy))]
    unfold addF
    rw [if_pos hw]
    exact hp
  · rw [Bool.not_eq_true] at hw
    have hn : ∀ y ∈ al, y.grant = g → y.whole = false := by
      intro y hy hyg
      unfold wholeF mid at hw
      rw [List.any_eq_false] at hw
      have := hw y (List.mem_filter.2 ⟨hp.mem_iff.2 hy, by simpa using hyg⟩)
      simpa using this
    by_cases hx : ∃ x ∈ l, x.grant = g ∧ x.id = id
    · obtain ⟨x, hx, hg, hi⟩ := hx
      have hq := h.at_q hx hg hi
      rw [← h.add_old (e := e) hw hq hg hi]
      obtain ⟨r, h1, h2⟩ := set_perm (y := { x with exp := max x.exp e }) hq
      obtain ⟨r2, h3, h4⟩ := addA_perm (e := e) hg hi (hp.mem_iff.1 hx) hn (fun y hy hyg hyi => uniq h.keys (hp.mem_iff.2 hy) hx (by unfold key; rw [hyg, hyi, hg, hi]))
      have h5 : r.Perm r2 := ((h1.symm.trans hp).trans h3).cons_inv
      exact h2.trans ((h5.cons _).trans h4.symm)
    · have hno : ∀ x ∈ l, x.grant = g → x.id ≠ id := fun x hm hg hi => hx ⟨x, hm, hg, hi⟩
      rw [← h.add_new (e := e) hw (fun x hx hg => hno x (List.mem_of_getElem? hx) hg)]
      rw [addA_end (xs := al) (fun j hj y hy => by
        have hm := List.mem_of_getElem? hy
        unfold cov
        by_cases hyg : y.grant = g
        · rw [hn y hm hyg, decide_eq_false (hno y (hp.mem_iff.2 hm) hyg)]; simp
        · have : (y.grant == g) = false := by simpa using hyg
          rw [this]; rfl)]
      have h1 : (l.take (nQ l (kx g id)) ++ [(⟨false, g, id, e⟩ : Rv)] ++ l.drop (nQ l (kx g id))).Perm ((⟨false, g, id, e⟩ : Rv) :: l) := by
        rw [List.append_assoc, List.singleton_append]
        refine List.perm_middle.trans ?_
        rw [List.take_append_drop]
      exact h1.trans ((hp.cons _).trans (List.perm_append_singleton _ _).symm)
/-! ### killed -/
def maxW (l : List Rv) (g : Int) (e : Int) : Int := (l.filter (fun x => (x.grant == g) && x.whole)).foldl (fun m x => max m x.exp) e
def othF (l : List Rv) (g : Int) : List Rv := l.filter (fun x => !(x.grant == g))
def killA (l : List Rv) (g : Int) (e : Int) : List Rv := othF l g ++ [⟨true, g, zBs 16, maxW l g e⟩]
theorem maxW_perm {l m : List Rv} (h : l.Perm m) (g e : Int) : maxW l g e = maxW m g e := by
  unfold maxW
  exact (h.filter _).foldl_eq' (fun x _ y _ z => by omega) e
theorem IsL.maxW {l : List Rv} (h : IsL l) (g e : Int) : maxW l g e = if wholeF l g then maxE (mid l g) e else e := by
  have hf : l.filter (fun x => (x.grant == g) && x.whole) = (mid l g).filter (fun x => x.whole) := by
    unfold mid
    rw [List.filter_filter]
    refine List.filter_congr fun x _ => ?_
    rw [Bool.and_comm]
  unfold Go.Proofs.Ytnjbjjmoglogeaa.maxW
  rw [hf]
  by_cases hw : wholeF l g = true
  · rw [if_pos hw]
    by_cases hft : nF l g < nT l g
    · obtain ⟨x, hx⟩ : ∃ x, l[nF l g]? = some x := ⟨_, List.getElem?_eq_getElem (by have := nT_le l g; omega)⟩
      obtain ⟨h1, h2, h3⟩ := h.whole_at hft hx
      rw [h2] at hw
      rw [h3 hw, List.filter_cons, if_pos hw]
      rfl
    · have := (h.no_whole hft).1
      rw [this] at hw
      cases hw
  · rw [if_neg hw]
    have : (mid l g).filter (fun x => x.whole) = [] := by
      rw [List.filter_eq_nil_iff]
      intro x hx hxw
      exact hw (List.any_eq_true.2 ⟨x, hx, hxw⟩)
    rw [this]
    rfl
theorem perm_kill {l al : List Rv} (h : IsL l) (hp : l.Perm al) (g : Int) (e : Int) : (killF l g e).Perm (killA al g e) := by
  unfold killF killA
  rw [← h.maxW, maxW_perm hp]
  have h1 : othF l g = l.filter (pF g) ++ l.filter (fun x => !pT g x) := by
    have e1 := h.parts g
    unfold othF
    conv => lhs; rw [e1]
    rw [List.filter_append, List.filter_append]
    have e2 : (mid l g).filter (fun x => !(x.grant == g)) = [] := by
      rw [List.filter_eq_nil_iff]
      intro x hx
      have := (List.mem_filter.1 hx).2
      rw [this]
      decide
    have e3 : (l.filter (pF g)).filter (fun x => !(x.grant == g)) = l.filter (pF g) := by
      rw [List.filter_eq_self]
      intro x hx
      have := (List.mem_filter.1 hx).2
      unfold pF at this
      have h3 : x.grant < g := by simpa using this
      have : (x.grant == g) = false := by simp; omega
      rw [this]; rfl
    have e4 : (l.filter (fun x => !pT g x)).filter (fun x => !(x.grant == g)) = l.filter (fun x => !pT g x) := by
      rw [List.filter_eq_self]
      intro x hx
      have := (List.mem_filter.1 hx).2
      unfold pT at this
      have h3 : ¬ x.grant ≤ g := by simpa using this
      have : (x.grant == g) = false := by simp; omega
      rw [this]; rfl
    rw [e2, e3, e4, List.nil_append]
  have h2 : (othF l g).Perm (othF al g) := hp.filter _
  rw [h1] at h2
  rw [List.append_assoc, List.singleton_append]
  refine List.perm_middle.trans ?_
  exact (h2.cons _).trans (List.perm_append_singleton _ _).symm
theorem maxW_no {l : List Rv} {g e : Int} {k : Nat} {x : Rv} (h : l[k]? = some x) (hx : ¬ (x.grant = g ∧ x.whole = true)) : maxW (l.take (k + 1)) g e = maxW (l.take k) g e := by
  unfold maxW
  rw [List.take_add_one, h, Option.toList_some, List.filter_append, List.filter_cons, if_neg (by simpa using hx), List.filter_nil, List.append_nil]
theorem maxW_yes {l : List Rv} {g e : Int} {k : Nat} {x : Rv} (h : l[k]? = some x) (hx : x.grant = g) (hw : x.whole = true) : maxW (l.take (k + 1)) g e = max (maxW (l.take k) g e) x.exp := by
  unfold maxW
  rw [List.take_add_one, h, Option.toList_some, List.filter_append, List.filter_cons, if_pos (by simp [hx, hw]), List.filter_nil, List.foldl_append]
  rfl
theorem oth_no {l : List Rv} {g : Int} {k : Nat} {x : Rv} (h : l[k]? = some x) (hx : x.grant = g) : othF (l.take (k + 1)) g = othF (l.take k) g := by
  unfold othF
  rw [List.take_add_one, h, Option.toList_some, List.filter_append, List.filter_cons, if_neg (by simp [hx]), List.filter_nil, List.append_nil]
theorem oth_yes {l : List Rv} {g : Int} {k : Nat} {x : Rv} (h : l[k]? = some x) (hx : ¬ x.grant = g) : othF (l.take (k + 1)) g = othF (l.take k) g ++ [x] := by
  unfold othF
  rw [List.take_add_one, h, Option.toList_some, List.filter_append, List.filter_cons, if_pos (by simp [hx]), List.filter_nil]
theorem oth_len (l : List Rv) (g : Int) : (othF l g).length ≤ l.length := List.length_filter_le _ _
theorem perm_prune {l al : List Rv} (hp : l.Perm al) (e : Int) : (pruneF l e).Perm (pruneF al e) := hp.filter _
end Go.Proofs.Ytnjbjjmoglogeaa
