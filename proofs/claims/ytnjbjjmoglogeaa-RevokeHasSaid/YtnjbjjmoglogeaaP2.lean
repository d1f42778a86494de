/- Plain lists: any steps, grant by grant (RevokeTurns), prunings (RevokePrunes). Condition: the lists are lists (IsL). -/
import Derived.Test.YtnjbjjmoglogeaaP1
namespace Go.Proofs.Ytnjbjjmoglogeaa
open Go.RowKit KB WG RO
set_option linter.unusedVariables false
set_option linter.unusedSimpArgs false
set_option linter.unnecessarySimpa false
/-! ### Steps -/
def stepF (l : List Rv) (o : St) : List Rv := if o.do_ = 1 then addF l o.grant o.id o.exp else if o.do_ = 2 then killF l o.grant o.exp else l
def stG (G : List Rv) (o : St) : List Rv := if o.do_ = 1 then addG G o.grant o.id o.exp else if o.do_ = 2 then killG G o.grant o.exp else G
theorem stepF_add {l : List Rv} {o : St} (h : o.do_ = 1) : stepF l o = addF l o.grant o.id o.exp := if_pos h
theorem stepF_kill {l : List Rv} {o : St} (h : o.do_ = 2) : stepF l o = killF l o.grant o.exp := by unfold stepF; rw [if_neg (by omega), if_pos h]
theorem stepF_no {l : List Rv} {o : St} (h1 : ¬ o.do_ = 1) (h2 : ¬ o.do_ = 2) : stepF l o = l := by unfold stepF; rw [if_neg h1, if_neg h2]
theorem IsL.step {l : List Rv} (h : IsL l) (o : St) : IsL (stepF l o) := by
  unfold stepF
  split
  · exact h.add _ _ _
  · split
    · exact h.kill _ _
    · exact h
theorem step_len {l : List Rv} (h : IsL l) (o : St) : (stepF l o).length ≤ l.length + 1 := by
  unfold stepF
  split
  · exact add_len _ _ _ _ h
  · split
    · exact kill_len _ _ _ h
    · omega
theorem IsL.fold : ∀ (ss : List St) {l : List Rv}, IsL l → IsL (ss.foldl stepF l)
  | [], _, h => h
  | o :: ss, _, h => IsL.fold ss (h.step o)
theorem fold_len : ∀ (ss : List St) {l : List Rv}, IsL l → (ss.foldl stepF l).length ≤ l.length + ss.length
  | [], l, _ => Nat.le_refl _
  | o :: ss, l, h => by
    have h1 := fold_len ss (h.step o)
    have h2 := step_len h o
    rw [List.foldl_cons, List.length_cons]
    omega
theorem fold_snoc {ss : List St} {l : List Rv} {i : Nat} {o : St} (h : ss[i]? = some o) : (ss.take (i + 1)).foldl stepF l = stepF ((ss.take i).foldl stepF l) o := by
  rw [List.take_add_one, h, Option.toList_some, List.foldl_append, List.foldl_cons, List.foldl_nil]
theorem mid_step {l : List Rv} (h : IsL l) (o : St) (g : Int) : mid (stepF l o) g = if o.grant = g then stG (mid l g) o else mid l g := by
  unfold stepF stG
  by_cases hg : o.grant = g
  · rw [if_pos hg]
    subst hg
    split
    · exact mid_add _ _ _ _
    · split
      · exact mid_kill _ _ _
      · rfl
  · rw [if_neg hg]
    split
    · exact h.mid_add_oth (fun e => hg e.symm) _ _
    · split
      · exact h.mid_kill_oth (fun e => hg e.symm) _
      · rfl
theorem mid_fold : ∀ (ss : List St) {l : List Rv}, IsL l → ∀ g, mid (ss.foldl stepF l) g = (ss.filter (fun o => o.grant == g)).foldl stG (mid l g)
  | [], _, _, _ => rfl
  | o :: ss, l, h, g => by
    rw [List.foldl_cons, mid_fold ss (h.step o) g, mid_step h, List.filter_cons]
    by_cases hg : o.grant = g
    · rw [if_pos hg, if_pos (by simpa using hg), List.foldl_cons]
    · rw [if_neg hg, if_neg (by simpa using hg)]
/-! ### Grant by grant -/
def LaterIs (ss : List St) (p : Nat) (b : Bool) : Prop := b = true ↔ ∃ j, p < j ∧ ∃ o o', ss[j]? = some o ∧ ss[p]? = some o' ∧ o.grant = o'.grant
theorem LaterIs.yes {ss : List St} {p j : Nat} {o o' : St} (hj : p < j) (ho : ss[j]? = some o) (ho' : ss[p]? = some o') (he : o.grant = o'.grant) : LaterIs ss p true := ⟨fun _ => ⟨j, hj, o, o', ho, ho', he⟩, fun _ => rfl⟩
theorem LaterIs.no {ss : List St} {p : Nat} {o' : St} (ho' : ss[p]? = some o') (h : ∀ (j : Nat) (o : St), p < j → j < ss.length → ss[j]? = some o → o.grant ≠ o'.grant) : LaterIs ss p false :=
  ⟨fun h => (nomatch h), fun ⟨j, hj, o, o2, h1, h2, h3⟩ => by
    obtain rfl := Option.some.inj (ho'.symm.trans h2)
    exact absurd h3 (h j o hj (List.getElem?_eq_some_iff.1 h1).1 h1)⟩
def Done (ss : List St) (j : Nat) (m : List Rv) : Prop := IsL m ∧ ∀ g, mid m g = if (ss.drop j).any (fun o => o.grant == g) = true then (ss.filter (fun o => o.grant == g)).foldl stG [] else []
theorem Done.init (ss : List St) : Done ss ss.length [] := ⟨IsL.nil, fun g => by rw [List.drop_length]; rfl⟩
theorem drop_at {ss : List St} {j : Nat} {o : St} (h : ss[j]? = some o) : ss.drop j = o :: ss.drop (j + 1) := by
  obtain ⟨hl, rfl⟩ := List.getElem?_eq_some_iff.1 h
  exact List.drop_eq_getElem_cons hl
theorem later_any {ss : List St} {j : Nat} {o : St} {b : Bool} (ho : ss[j]? = some o) (h : LaterIs ss j b) : (ss.drop (j + 1)).any (fun x => x.grant == o.grant) = b := by
  unfold LaterIs at h
  rw [Bool.eq_iff_iff, h, List.any_eq_true]
  constructor
  · rintro ⟨x, hx, hg⟩
    obtain ⟨i, hi⟩ := List.getElem?_of_mem hx
    rw [List.getElem?_drop] at hi
    exact ⟨j + 1 + i, by omega, x, o, hi, ho, by simpa using hg⟩
  · rintro ⟨i, hi, x, o', hx, ho', hg⟩
    obtain rfl := Option.some.inj (ho.symm.trans ho')
    refine ⟨x, List.mem_of_getElem? (i := i - (j + 1)) ?_, by simpa using hg⟩
    rw [List.getElem?_drop, show j + 1 + (i - (j + 1)) = i by omega]
    exact hx
theorem Done.skip {ss : List St} {j : Nat} {o : St} {m : List Rv} (h : Done ss (j + 1) m) (ho : ss[j]? = some o) (hL : LaterIs ss j true) : Done ss j m := by
  refine ⟨h.1, fun g => ?_⟩
  rw [h.2 g, drop_at ho, List.any_cons]
  have ha := later_any ho hL
  by_cases hg : o.grant = g
  · subst hg
    rw [ha, Bool.or_true]
  · have : (o.grant == g) = false := by simpa using hg
    rw [this, Bool.false_or]
theorem Done.run {ss : List St} {j : Nat} {o : St} {m : List Rv} (h : Done ss (j + 1) m) (ho : ss[j]? = some o) (hL : LaterIs ss j false) : Done ss j ((ss.filter (fun x => x.grant == o.grant)).foldl stepF m) := by
  refine ⟨IsL.fold _ h.1, fun g => ?_⟩
  rw [mid_fold _ h.1, List.filter_filter, h.2 g, drop_at ho, List.any_cons]
  have ha := later_any ho hL
  by_cases hg : o.grant = g
  · subst hg
    rw [ha, beq_self_eq_true, Bool.true_or, if_pos rfl, if_neg (by decide)]
    congr 1
    refine List.filter_congr fun x _ => ?_
    rw [Bool.and_self]
  · have hb : (o.grant == g) = false := by simpa using hg
    have hn : ss.filter (fun x => (x.grant == g) && (x.grant == o.grant)) = [] := by
      rw [List.filter_eq_nil_iff]
      intro x _
      simp only [Bool.and_eq_true, beq_iff_eq]
      rintro ⟨h1, h2⟩
      exact hg (h2.symm.trans h1)
    rw [hb, Bool.false_or, hn, List.foldl_nil]
theorem Done.end {ss : List St} {m : List Rv} (h : Done ss 0 m) : ss.foldl stepF [] = m := by
  refine (IsL.fold _ IsL.nil).ext h.1 fun g => ?_
  rw [mid_fold _ IsL.nil, h.2 g, List.drop_zero]
  split
  · rfl
  · rename_i hn
    have : ss.filter (fun x => x.grant == g) = [] := by
      rw [List.filter_eq_nil_iff]
      intro x hx hg
      exact hn (List.any_eq_true.2 ⟨x, hx, hg⟩)
    rw [this]
    rfl
theorem inner_snoc {ss : List St} {m : List Rv} {g : Int} {i : Nat} {o : St} (h : ss[i]? = some o) : ((ss.take (i + 1)).filter (fun x => x.grant == g)).foldl stepF m = if o.grant = g then stepF (((ss.take i).filter (fun x => x.grant == g)).foldl stepF m) o else ((ss.take i).filter (fun x => x.grant == g)).foldl stepF m := by
  rw [List.take_add_one, h, Option.toList_some, List.filter_append, List.foldl_append, List.filter_cons, List.filter_nil]
  split
  · rename_i hg
    rw [if_pos (by simpa using hg)]
    rfl
  · rename_i hg
    rw [if_neg (by simpa using hg)]
    rfl
theorem inner_len {ss : List St} {m : List Rv} (hm : IsL m) (g : Int) (i : Nat) : (((ss.take i).filter (fun x => x.grant == g)).foldl stepF m).length ≤ m.length + i := by
  have h1 := fold_len ((ss.take i).filter (fun x => x.grant == g)) hm
  have h2 : ((ss.take i).filter (fun x => x.grant == g)).length ≤ (ss.take i).length := List.length_filter_le _ _
  rw [List.length_take] at h2
  omega
/-! ### Whole -/
theorem whole_yes {l : List Rv} {g : Int} {x : Rv} {i : Nat} (hx : l[i]? = some x) (hg : x.grant = g) (hw : x.whole = true) : wholeF l g = true := by
  unfold wholeF mid
  exact List.any_eq_true.2 ⟨x, List.mem_filter.2 ⟨List.mem_of_getElem? hx, by simpa using hg⟩, hw⟩
theorem whole_no {l : List Rv} {g : Int} (h : ∀ (j : Nat) (y : Rv), j < l.length → l[j]? = some y → y.grant = g → y.whole = false) : wholeF l g = false := by
  unfold wholeF mid
  rw [List.any_eq_false]
  intro x hx
  obtain ⟨h1, h2⟩ := List.mem_filter.1 hx
  obtain ⟨j, hj⟩ := List.getElem?_of_mem h1
  rw [h j x (List.getElem?_eq_some_iff.1 hj).1 hj (by simpa using h2)]
  decide
/-! ### Prunings -/
theorem prune_prune (l : List Rv) (a b : Int) : pruneF (pruneF l a) b = pruneF l (max a b) := by
  unfold pruneF
  rw [List.filter_filter]
  refine List.filter_congr fun x _ => ?_
  rw [Bool.eq_iff_iff]
  simp only [Bool.and_eq_true, Bool.not_eq_true', decide_eq_false_iff_not]
  omega
theorem prune_snoc_yes {l : List Rv} {e : Int} {k : Nat} {x : Rv} (h : l[k]? = some x) (hx : e < x.exp) : pruneF (l.take (k + 1)) e = pruneF (l.take k) e ++ [x] := by
  unfold pruneF
  rw [List.take_add_one, h, Option.toList_some, List.filter_append, List.filter_cons, List.filter_nil, if_pos (by simp; omega)]
theorem prune_snoc_no {l : List Rv} {e : Int} {k : Nat} {x : Rv} (h : l[k]? = some x) (hx : ¬ e < x.exp) : pruneF (l.take (k + 1)) e = pruneF (l.take k) e := by
  unfold pruneF
  rw [List.take_add_one, h, Option.toList_some, List.filter_append, List.filter_cons, List.filter_nil, if_neg (by simp; omega), List.append_nil]
theorem has_kill (l : List Rv) (g e : Int) (id : Bs 16) : hasF (killF l g e) g id = true := by
  unfold hasF
  rw [mid_kill]
  rfl
theorem mid_prune (l : List Rv) (e g : Int) : mid (pruneF l e) g = pruneF (mid l g) e := filter_swap _ _ _
theorem maxE_gt {l : List Rv} {e : Int} {x : Rv} {r : List Rv} (h : l = x :: r) (hx : e < x.exp) : maxE l e = x.exp := by
  subst h
  show max e x.exp = x.exp
  omega
theorem has_prune_kill {l : List Rv} (h : IsL l) (g e : Int) (id : Bs 16) (he : ∀ x ∈ l, e < x.exp) : hasF (pruneF (killF l g e) e) g id = wholeF l g := by
  unfold hasF
  rw [mid_prune, mid_kill]
  unfold killG pruneF
  rw [show (mid l g).any (fun x => x.whole) = wholeF l g from rfl]
  cases hw : wholeF l g with
  | false => rw [if_neg (by decide)]; simp
  | true =>
    rw [if_pos rfl]
    cases hm : mid l g with
    | nil => unfold wholeF at hw; rw [hm] at hw; cases hw
    | cons x r =>
      have hx : x ∈ l := (List.mem_filter.1 (show x ∈ mid l g by rw [hm]; exact List.mem_cons_self ..)).1
      rw [maxE_gt rfl (he x hx), List.filter_cons, if_pos (by simpa using he x hx)]
      rfl
theorem prune_gt (l : List Rv) (e : Int) : ∀ x ∈ pruneF l e, e < x.exp := fun x hx => by
  have := (List.mem_filter.1 hx).2
  simp only [Bool.not_eq_true', decide_eq_false_iff_not] at this
  omega
end Go.Proofs.Ytnjbjjmoglogeaa
