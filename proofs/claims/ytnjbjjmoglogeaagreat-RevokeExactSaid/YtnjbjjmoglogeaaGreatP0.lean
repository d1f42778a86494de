/- Package revoke in plain Lean: a list (IsL), where a grant's entries stand, Add, Kill, Has, Prune. No program in sight. -/
import Derived.Test.YtnjbjjmoglogeaaGreatR1
namespace Go.Proofs.YtnjbjjmoglogeaaGreat
set_option linter.unusedVariables false
set_option linter.unusedSimpArgs false
set_option linter.unnecessarySimpa false
def Lt2 (a b : Rv) : Prop := key a < key b ∧ (a.grant = b.grant → a.whole = false ∧ b.whole = false)
structure IsL (l : List Rv) : Prop where
  zero : ∀ x ∈ l, x.whole = true → x.id = zBs 16
  rise : l.Pairwise Lt2
theorem IsL.nil : IsL [] := ⟨fun _ h => by simp at h, .nil⟩
theorem key_le {a b : Rv} (h : key a < key b) : a.grant ≤ b.grant := by
  have h1 := num_id a.id
  have h2 := num_id b.id
  unfold key at h
  omega
theorem cut_at {p : Rv → Bool} : ∀ {l : List Rv}, l.Pairwise (fun a b => p b = true → p a = true) → l.take (l.countP p) = l.filter p ∧ l.drop (l.countP p) = l.filter (fun x => !p x) ∧ ∀ i x, l[i]? = some x → p x = decide (i < l.countP p)
  | [], _ => by simp
  | a :: l, h => by
    obtain ⟨ha, hl⟩ := List.pairwise_cons.1 h
    obtain ⟨h1, h2, h3⟩ := cut_at hl
    cases hp : p a with
    | true =>
      rw [List.countP_cons_of_pos hp, List.filter_cons_of_pos hp, List.filter_cons_of_neg (by simp [hp])]
      refine ⟨by rw [List.take_succ_cons, h1], by rw [List.drop_succ_cons, h2], fun i x hx => ?_⟩
      cases i with
      | zero => obtain rfl : a = x := by simpa using hx
                rw [hp]; simp
      | succ i => rw [h3 i x (by simpa using hx)]; simp
    | false =>
      have hall : ∀ x ∈ l, p x = false := fun x hx => by
        cases hq : p x with
        | false => rfl
        | true => rw [ha x hx hq] at hp; cases hp
      have h0 : l.countP p = 0 := List.countP_eq_zero.2 (fun x hx => by rw [hall x hx]; simp)
      rw [List.countP_cons_of_neg (by rw [hp]; simp), h0, List.filter_cons_of_neg (by rw [hp]; simp), List.filter_cons_of_pos (by simp [hp])]
      rw [h0] at h1 h2
      refine ⟨by rw [← h1]; simp, by rw [← h2]; simp, fun i x hx => ?_⟩
      have : x ∈ a :: l := List.mem_of_getElem? hx
      rcases List.mem_cons.1 this with rfl | hm
      · rw [hp]; simp
      · rw [hall x hm]; simp
def pF (g : Int) (x : Rv) : Bool := decide (x.grant < g)
def pT (g : Int) (x : Rv) : Bool := decide (x.grant ≤ g)
def pQ (k : Int) (x : Rv) : Bool := decide (key x < k)
def nF (l : List Rv) (g : Int) : Nat := l.countP (pF g)
def nT (l : List Rv) (g : Int) : Nat := l.countP (pT g)
def nQ (l : List Rv) (k : Int) : Nat := l.countP (pQ k)
def kx (g : Int) (id : Bs 16) : Int := key ⟨false, g, id, 0⟩
theorem IsL.keys {l : List Rv} (h : IsL l) : l.Pairwise (fun a b => key a < key b) := h.rise.imp (fun h => h.1)
theorem IsL.cF {l : List Rv} (h : IsL l) (g : Int) : l.take (nF l g) = l.filter (pF g) ∧ l.drop (nF l g) = l.filter (fun x => !pF g x) ∧ ∀ i x, l[i]? = some x → pF g x = decide (i < nF l g) := cut_at (l := l) (p := pF g) (h.keys.imp (fun {a b} hk hp => by
  have := key_le hk; simp only [pF, decide_eq_true_iff] at hp ⊢; omega))
theorem IsL.cT {l : List Rv} (h : IsL l) (g : Int) : l.take (nT l g) = l.filter (pT g) ∧ l.drop (nT l g) = l.filter (fun x => !pT g x) ∧ ∀ i x, l[i]? = some x → pT g x = decide (i < nT l g) := cut_at (l := l) (p := pT g) (h.keys.imp (fun {a b} hk hp => by
  have := key_le hk; simp only [pT, decide_eq_true_iff] at hp ⊢; omega))
theorem IsL.cQ {l : List Rv} (h : IsL l) (k : Int) : l.take (nQ l k) = l.filter (pQ k) ∧ l.drop (nQ l k) = l.filter (fun x => !pQ k x) ∧ ∀ i x, l[i]? = some x → pQ k x = decide (i < nQ l k) := cut_at (l := l) (p := pQ k) (h.keys.imp (fun {a b} hk hp => by
  simp only [pQ, decide_eq_true_iff] at hp ⊢; omega))
theorem nF_le (l : List Rv) (g : Int) : nF l g ≤ nT l g := List.countP_mono_left (fun x _ h => by simp only [pF, pT, decide_eq_true_iff] at h ⊢; omega)
theorem nT_le (l : List Rv) (g : Int) : nT l g ≤ l.length := List.countP_le_length
theorem kx_lt {g : Int} {id : Bs 16} {x : Rv} (h : key x < kx g id) : x.grant ≤ g := key_le h
theorem lt_kx {g : Int} {id : Bs 16} {x : Rv} (h : x.grant < g) : key x < kx g id := by
  have h1 := num_id x.id
  have h2 := num_id id
  unfold kx key
  show x.grant * _ + _ < g * _ + _
  omega
theorem nF_nQ (l : List Rv) (g : Int) (id : Bs 16) : nF l g ≤ nQ l (kx g id) := List.countP_mono_left (fun x _ h => by simp only [pF, pQ, decide_eq_true_iff] at h ⊢; exact lt_kx h)
theorem nQ_nT (l : List Rv) (g : Int) (id : Bs 16) : nQ l (kx g id) ≤ nT l g := List.countP_mono_left (fun x _ h => by simp only [pT, pQ, decide_eq_true_iff] at h ⊢; exact kx_lt h)
/-- A grant's entries behind those of lesser grants. -/
theorem IsL.posT {l : List Rv} (h : IsL l) (g : Int) {i : Nat} {x : Rv} (hx : (l.drop (nF l g))[i]? = some x) : (x.grant == g) = decide (i < nT l g - nF l g) := by
  rw [List.getElem?_drop] at hx
  have h1 := (h.cF g).2.2 _ _ hx
  have h2 := (h.cT g).2.2 _ _ hx
  change pF g x = decide (_ < nF l g) at h1
  change pT g x = decide (_ < nT l g) at h2
  unfold pF at h1
  unfold pT at h2
  rw [decide_eq_decide] at h1 h2
  rw [Bool.eq_iff_iff]
  simp only [beq_iff_eq, decide_eq_true_iff]
  omega
theorem IsL.posQ {l : List Rv} (h : IsL l) (g : Int) (id : Bs 16) (j : Nat) {i : Nat} {x : Rv} (hx : ((l.drop (nF l g)).take j)[i]? = some x) : decide (key x < kx g id) = decide (i < nQ l (kx g id) - nF l g) := by
  have hi : i < j := by
    have := (List.getElem?_eq_some_iff.1 hx).1
    rw [List.length_take] at this
    omega
  rw [List.getElem?_take_of_lt hi, List.getElem?_drop] at hx
  have h1 := (h.cQ (kx g id)).2.2 _ _ hx
  change pQ _ x = decide (_ < nQ l (kx g id)) at h1
  unfold pQ at h1
  rw [h1, decide_eq_decide]
  omega
/-- The grant's entries. -/
def mid (l : List Rv) (g : Int) : List Rv := l.filter (fun x => x.grant == g)
theorem IsL.mid_eq {l : List Rv} (h : IsL l) (g : Int) : (l.drop (nF l g)).take (nT l g - nF l g) = mid l g := by
  have h1 : l.drop (nF l g) = l.filter (fun x => !pF g x) := (h.cF g).2.1
  have h2 : l.take (nT l g) = l.filter (pT g) := (h.cT g).1
  have h3 : l.take (nF l g) = l.filter (pF g) := (h.cF g).1
  have e : l.take (nT l g) = l.take (nF l g) ++ (l.drop (nF l g)).take (nT l g - nF l g) := by
    have := nF_le l g
    rw [show nT l g = nF l g + (nT l g - nF l g) by omega, List.take_add]
    congr 2
    omega
  have h4 : (l.take (nT l g)).filter (fun x => x.grant == g) = mid l g := by
    rw [h2, List.filter_filter]
    refine List.filter_congr fun x _ => ?_
    unfold pT
    rw [Bool.eq_iff_iff]
    simp only [Bool.and_eq_true, beq_iff_eq, decide_eq_true_iff]
    omega
  rw [e, List.filter_append, h3, List.filter_filter] at h4
  rw [← h4]
  have h5 : l.filter (fun x => (x.grant == g) && pF g x) = [] := by
    rw [List.filter_eq_nil_iff]
    intro x _
    unfold pF
    simp only [Bool.and_eq_true, beq_iff_eq, decide_eq_true_iff]
    omega
  rw [h5, List.nil_append]
  symm
  rw [List.filter_eq_self]
  intro x hx
  obtain ⟨i, hi⟩ := List.getElem?_of_mem hx
  have hil : i < nT l g - nF l g := by
    have := (List.getElem?_eq_some_iff.1 hi).1
    rw [List.length_take] at this
    omega
  rw [List.getElem?_take_of_lt hil] at hi
  rw [h.posT g hi, decide_eq_true_iff]
  exact hil
/-! ### The four -/
def hasF (l : List Rv) (g : Int) (id : Bs 16) : Bool := (mid l g).any (fun x => x.whole || decide (x.id = id))
def pruneF (l : List Rv) (now : Int) : List Rv := l.filter (fun x => !decide (x.exp ≤ now))
def wholeF (l : List Rv) (g : Int) : Bool := (mid l g).any (fun x => x.whole)
def maxE (l : List Rv) (e : Int) : Int := match l with | [] => e | x :: _ => max e x.exp
def killF (l : List Rv) (g : Int) (e : Int) : List Rv := l.filter (pF g) ++ [⟨true, g, zBs 16, if wholeF l g then maxE (mid l g) e else e⟩] ++ l.filter (fun x => !pT g x)
def addF (l : List Rv) (g : Int) (id : Bs 16) (e : Int) : List Rv :=
  if wholeF l g then l else l.filter (pQ (kx g id)) ++ [⟨false, g, id, maxE (l.filter (fun x => key x == kx g id)) e⟩] ++ l.filter (fun x => decide (kx g id < key x))
/-- Whole: the first of the grant's, if any, tells. -/
theorem IsL.whole_at {l : List Rv} (h : IsL l) {g : Int} (hft : nF l g < nT l g) {x : Rv} (hx : l[nF l g]? = some x) : x.grant = g ∧ wholeF l g = x.whole ∧ (x.whole = true → mid l g = [x]) := by
  have hd : (l.drop (nF l g))[0]? = some x := by rw [List.getElem?_drop]; exact hx
  have hg : x.grant = g := by
    have := h.posT g hd
    rw [decide_eq_true (by omega)] at this
    simpa using this
  have hm := h.mid_eq g
  obtain ⟨r, hr⟩ : ∃ r, l.drop (nF l g) = x :: r := by
    cases hq : l.drop (nF l g) with
    | nil => rw [hq] at hd; simp at hd
    | cons a r => rw [hq] at hd; obtain rfl : a = x := by simpa using hd
                  exact ⟨r, rfl⟩
  obtain ⟨m, hmm⟩ : ∃ m, nT l g - nF l g = m + 1 := ⟨nT l g - nF l g - 1, by omega⟩
  rw [hr, hmm, List.take_succ_cons] at hm
  have hp : (x :: r).Pairwise Lt2 := by rw [← hr]; exact h.rise.sublist (List.drop_sublist _ _)
  have hpr := (List.pairwise_cons.1 hp).1
  have hmem : ∀ y ∈ r.take m, y.grant = g := fun y hy => by
    have : y ∈ mid l g := by rw [← hm]; exact List.mem_cons_of_mem _ hy
    simpa using (List.mem_filter.1 this).2
  refine ⟨hg, ?_, fun hw => ?_⟩
  · unfold wholeF
    rw [← hm, List.any_cons]
    cases hw : x.whole with
    | true => rfl
    | false =>
      rw [Bool.false_or, List.any_eq_false]
      intro y hy
      have := (hpr y (List.mem_of_mem_take hy)).2 (by rw [hg, hmem y hy])
      simp [this.2]
  · rw [← hm]
    cases hq : r.take m with
    | nil => rfl
    | cons y s =>
      have hy : y ∈ r.take m := by rw [hq]; exact List.mem_cons_self ..
      have := (hpr y (List.mem_of_mem_take hy)).2 (by rw [hg, hmem y hy])
      rw [hw] at this
      exact absurd this.1 (by decide)
theorem IsL.no_whole {l : List Rv} (h : IsL l) {g : Int} (hft : ¬ nF l g < nT l g) : wholeF l g = false ∧ mid l g = [] := by
  have hm := h.mid_eq g
  rw [show nT l g - nF l g = 0 by omega, List.take_zero] at hm
  exact ⟨by unfold wholeF; rw [← hm]; rfl, hm.symm⟩
/-- Insert. -/
theorem IsL.drop_q {l : List Rv} (h : IsL l) (k : Int) : l.drop (nQ l k) = l.filter (fun x => key x == k) ++ l.filter (fun x => decide (k < key x)) := by
  have h1 : l.drop (nQ l k) = l.filter (fun x => !pQ k x) := (h.cQ k).2.1
  have h2 := (h.keys.sublist (List.drop_sublist (nQ l k) l))
  have key2 : ∀ (r : List Rv), r.Pairwise (fun a b => key a < key b) → (∀ x ∈ r, k ≤ key x) → r = r.filter (fun x => key x == k) ++ r.filter (fun x => decide (k < key x)) := by
    intro r
    induction r with
    | nil => intro _ _; rfl
    | cons a r ih =>
      intro hp hk
      obtain ⟨ha, hr⟩ := List.pairwise_cons.1 hp
      have hka := hk a (List.mem_cons_self ..)
      have hgt : ∀ x ∈ r, k < key x := fun x hx => by have := ha x hx; omega
      have e1 : r.filter (fun x => key x == k) = [] := by
        rw [List.filter_eq_nil_iff]
        intro x hx
        have := hgt x hx
        simp only [beq_iff_eq]
        omega
      have e2 : r.filter (fun x => decide (k < key x)) = r := by
        rw [List.filter_eq_self]
        intro x hx
        simpa using hgt x hx
      by_cases c : key a = k
      · rw [List.filter_cons_of_pos (by simpa using c), List.filter_cons_of_neg (by simp; omega), e1, e2]
        rfl
      · rw [List.filter_cons_of_neg (by simpa using c), List.filter_cons_of_pos (by simp; omega), e1, e2]
        rfl
  have h3 := key2 _ h2 (fun x hx => by
    rw [h1] at hx
    have := (List.mem_filter.1 hx).2
    simp only [pQ, Bool.not_eq_true', decide_eq_false_iff_not] at this
    omega)
  rw [h3]
  have h4 : ∀ (p : Rv → Bool), (∀ x, p x = true → k ≤ key x) → (l.drop (nQ l k)).filter p = l.filter p := fun p hp => by
    rw [h1, List.filter_filter]
    refine List.filter_congr fun x _ => ?_
    cases hq : p x with
    | false => rfl
    | true => have := hp x hq
              simp only [Bool.true_and, pQ, Bool.not_eq_true', decide_eq_false_iff_not]
              omega
  rw [h4 _ (fun x hx => by have : key x = k := by simpa using hx
                           omega), h4 _ (fun x hx => by have : k < key x := by simpa using hx
                                                        omega)]
theorem kx_id {g : Int} {id : Bs 16} {x : Rv} (h : key x = kx g id) : x.grant = g ∧ x.id = id := key_inj h
theorem IsL.add_new {l : List Rv} (h : IsL l) {g : Int} {id : Bs 16} {e : Int} (hw : wholeF l g = false) (hn : ∀ x, l[nQ l (kx g id)]? = some x → x.grant = g → x.id ≠ id) : l.take (nQ l (kx g id)) ++ [⟨false, g, id, e⟩] ++ l.drop (nQ l (kx g id)) = addF l g id e := by
  have h0 : l.filter (fun x => key x == kx g id) = [] := by
    cases hq : l.filter (fun x => key x == kx g id) with
    | nil => rfl
    | cons y r =>
      have hd := h.drop_q (kx g id)
      rw [hq] at hd
      have h1 : l[nQ l (kx g id)]? = some y := by
        have : (l.drop (nQ l (kx g id)))[0]? = some y := by rw [hd]; rfl
        rwa [List.getElem?_drop] at this
      have hy : y ∈ l.filter (fun x => key x == kx g id) := by rw [hq]; exact List.mem_cons_self ..
      have hk := kx_id (by simpa using (List.mem_filter.1 hy).2)
      exact absurd hk.2 (hn y h1 hk.1)
  unfold addF
  rw [hw, h.drop_q, h0]
  have h1 : l.take (nQ l (kx g id)) = l.filter (pQ (kx g id)) := (h.cQ _).1
  rw [h1]
  rfl
theorem IsL.add_old {l : List Rv} (h : IsL l) {g : Int} {id : Bs 16} {e : Int} (hw : wholeF l g = false) {x : Rv} (hx : l[nQ l (kx g id)]? = some x) (hg : x.grant = g) (hi : x.id = id) : l.set (nQ l (kx g id)) { x with exp := max x.exp e } = addF l g id e := by
  have hk : key x = kx g id := by unfold kx key; rw [hg, hi]
  have hlt := (List.getElem?_eq_some_iff.1 hx).1
  have hd := h.drop_q (kx g id)
  have hdx : l.drop (nQ l (kx g id)) = x :: l.drop (nQ l (kx g id) + 1) := by
    rw [List.drop_eq_getElem_cons hlt]
    congr 1
    exact (List.getElem?_eq_some_iff.1 hx).2
  have hwx : x.whole = false := by
    cases hq : x.whole with
    | false => rfl
    | true =>
      unfold wholeF mid at hw
      rw [List.any_eq_false] at hw
      exact absurd hq (hw x (List.mem_filter.2 ⟨List.mem_of_getElem? hx, by simpa using hg⟩))
  have h1 : l.take (nQ l (kx g id)) = l.filter (pQ (kx g id)) := (h.cQ _).1
  obtain ⟨r, hr, hr2⟩ : ∃ r, l.filter (fun x => key x == kx g id) = x :: r ∧ r = [] := by
    rw [hdx] at hd
    cases hq : l.filter (fun x => key x == kx g id) with
    | nil =>
      rw [hq, List.nil_append] at hd
      have : x ∈ l.filter (fun x => decide (kx g id < key x)) := by rw [← hd]; exact List.mem_cons_self ..
      have := (List.mem_filter.1 this).2
      rw [decide_eq_true_iff] at this
      omega
    | cons y r =>
      rw [hq] at hd
      have e1 : x = y := by
        have := congrArg List.head? hd
        simpa using this
      subst e1
      refine ⟨r, rfl, ?_⟩
      cases r with
      | nil => rfl
      | cons z s =>
        have hp : (x :: z :: s).Pairwise (fun a b => key a < key b) := by rw [← hq]; exact h.keys.filter _
        have h5 := (List.pairwise_cons.1 hp).1 z (List.mem_cons_self ..)
        have hz : z ∈ l.filter (fun x => key x == kx g id) := by rw [hq]; exact List.mem_cons_of_mem _ (List.mem_cons_self ..)
        have hz2 : key z = kx g id := by simpa using (List.mem_filter.1 hz).2
        omega
  subst hr2
  rw [hdx, hr] at hd
  have hrest : l.drop (nQ l (kx g id) + 1) = l.filter (fun x => decide (kx g id < key x)) := by simpa using hd
  rw [List.set_eq_take_append_cons_drop, if_pos hlt, h1, hrest]
  unfold addF
  rw [hw, hr]
  show _ ++ _ :: _ = _ ++ [_] ++ _
  have ex : ({ x with exp := max x.exp e } : Rv) = ⟨false, g, id, maxE [x] e⟩ := by
    obtain ⟨w, g', i', e'⟩ := x
    simp only at hwx hg hi
    subst hwx hg hi
    show (⟨_, _, _, max e' e⟩ : Rv) = ⟨_, _, _, max e e'⟩
    rw [Int.max_comm]
  rw [ex, List.append_assoc]
  rfl
end Go.Proofs.YtnjbjjmoglogeaaGreat
