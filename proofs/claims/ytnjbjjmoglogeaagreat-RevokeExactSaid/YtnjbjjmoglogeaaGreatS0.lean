/- The document's own ways with lists of what is revoked, in plain Lean: which rows are lists, an entry laid at its place, what a walk over all entries tells. No program in sight. -/
import Derived.Test.YtnjbjjmoglogeaaGreatR6
namespace Go.Proofs.YtnjbjjmoglogeaaGreat
set_option linter.unusedVariables false
set_option linter.unusedSimpArgs false
set_option linter.unnecessarySimpa false
/-! ### Which rows are lists -/
def OkAt (xs : List Rv) (i : Nat) : Prop := ∀ x, xs[i]? = some x → (x.whole = true → x.id = zBs 16) ∧ ∀ y, 0 < i → xs[i - 1]? = some y → Lt2 y x
theorem Lt2.trans {a b c : Rv} (h1 : Lt2 a b) (h2 : Lt2 b c) : Lt2 a c := by
  refine ⟨by have := h1.1; have := h2.1; omega, fun e => ?_⟩
  have g1 := key_le h1.1
  have g2 := key_le h2.1
  exact ⟨(h1.2 (by omega)).1, (h2.2 (by omega)).2⟩
theorem isL_of {xs : List Rv} (h : ∀ i, i < xs.length → OkAt xs i) : IsL xs := by
  refine ⟨fun x hx => ?_, List.pairwise_iff_getElem.2 ?_⟩
  · obtain ⟨i, hi⟩ := List.getElem?_of_mem hx
    exact (h i (List.getElem?_eq_some_iff.1 hi).1 x hi).1
  · have key : ∀ d i (hi : i < xs.length) (hj : i + d + 1 < xs.length), Lt2 xs[i] xs[i + d + 1] := by
      intro d
      induction d with
      | zero => intro i hi hj; exact (h (i + 1) hj _ (List.getElem?_eq_getElem hj)).2 _ (by omega) (by rw [Nat.add_sub_cancel]; exact List.getElem?_eq_getElem hi)
      | succ d ih =>
        intro i hi hj
        exact (ih i hi (by omega)).trans ((h (i + (d + 1) + 1) hj _ (List.getElem?_eq_getElem hj)).2 _ (by omega) (by rw [Nat.add_sub_cancel]; exact List.getElem?_eq_getElem (by omega)))
    intro i j hi hj hij
    obtain ⟨d, rfl⟩ : ∃ d, j = i + d + 1 := ⟨j - i - 1, by omega⟩
    exact key d i hi hj
theorem IsL.ok {xs : List Rv} (h : IsL xs) (i : Nat) : OkAt xs i := fun x hx => ⟨h.zero x (List.mem_of_getElem? hx), fun y h0 hy => h.adj (by omega) hy hx⟩
open Classical in
noncomputable def chN (xs : List Rv) : Int := if IsL xs then 0 else 140
theorem chN_yes {xs : List Rv} (h : IsL xs) : chN xs = 0 := by unfold chN; rw [if_pos h]
theorem chN_no {xs : List Rv} (h : ¬ IsL xs) : chN xs = 140 := by unfold chN; rw [if_neg h]
theorem chN_all {xs : List Rv} (h : ∀ i, i < xs.length → OkAt xs i) : chN xs = 0 := chN_yes (isL_of h)
theorem chN_zero {xs : List Rv} {i : Nat} {x : Rv} (hx : xs[i]? = some x) (hw : x.whole = true) (hz : x.id ≠ zBs 16) : chN xs = 140 := chN_no fun h => hz ((h.ok i x hx).1 hw)
theorem chN_rise {xs : List Rv} {i : Nat} {x y : Rv} (hx : xs[i]? = some x) (h0 : 0 < i) (hy : xs[i - 1]? = some y) (hn : ¬ Lt2 y x) : chN xs = 140 := chN_no fun h => hn ((h.ok i x hx).2 y h0 hy)
/-! ### Bytes, one after the other -/
theorem num_first : ∀ {a b : List (BitVec 8)} {i : Nat} {x y : BitVec 8}, a.length = b.length → (∀ j, j < i → a[j]? = b[j]?) → a[i]? = some x → b[i]? = some y → x ≠ y → decide (x.toNat < y.toNat) = decide (num a < num b)
  | [], _, i, x, y, _, _, hx, _, _ => by simp at hx
  | _ :: _, [], i, x, y, h, _, _, _, _ => by simp at h
  | p :: a, q :: b, i, x, y, hl, hs, hx, hy, hne => by
    have hl2 : a.length = b.length := by simpa using hl
    have h1 := num_lt a
    have h2 := num_lt b
    simp only [num, hl2]
    rw [hl2] at h1
    cases i with
    | zero =>
      obtain rfl : p = x := by simpa using hx
      obtain rfl : q = y := by simpa using hy
      have hn : p.toNat ≠ q.toNat := fun e => hne (BitVec.eq_of_toNat_eq e)
      generalize 256 ^ b.length = m at *
      refine decide_eq_decide.2 ?_
      rcases Nat.lt_trichotomy p.toNat q.toNat with c | c | c
      · have : (p.toNat + 1) * m ≤ q.toNat * m := Nat.mul_le_mul_right _ c
        rw [Nat.add_mul, Nat.one_mul] at this
        omega
      · exact absurd c hn
      · have : (q.toNat + 1) * m ≤ p.toNat * m := Nat.mul_le_mul_right _ c
        rw [Nat.add_mul, Nat.one_mul] at this
        omega
    | succ i =>
      have e0 : p = q := by have := hs 0 (by omega); simpa using this
      rw [num_first (i := i) (x := x) (y := y) hl2 (fun j hj => by have := hs (j + 1) (by omega); simpa using this) (by simpa using hx) (by simpa using hy) hne, e0]
      refine decide_eq_decide.2 ?_
      omega
theorem bytes_ext {a b : Bs 16} (h : ∀ j, j < 16 → a.1[j]? = b.1[j]?) : a = b := Subtype.ext (List.ext_getElem? fun j => by
  rcases Nat.lt_or_ge j 16 with c | c
  · exact h j c
  · rw [List.getElem?_eq_none (by rw [a.2]; exact c), List.getElem?_eq_none (by rw [b.2]; exact c)])
theorem key_less {a b : Rv} (h : a.grant = b.grant) : decide (num a.id.1 < num b.id.1) = decide (key a < key b) := by
  unfold key
  refine decide_eq_decide.2 ?_
  rw [h]
  omega
/-! ### An entry laid at its place -/
def layF (x : Rv) : Bool → List Rv → List Rv
  | true, l => l
  | false, [] => [x]
  | false, y :: l => if key x < key y then x :: y :: l else y :: layF x false l
theorem drop_cons {xs : List Rv} {i : Nat} {y : Rv} (h : xs[i]? = some y) : xs.drop i = y :: xs.drop (i + 1) := by
  obtain ⟨hl, rfl⟩ := List.getElem?_eq_some_iff.1 h
  exact List.drop_eq_getElem_cons hl
theorem lay_here {x y : Rv} {l out xs : List Rv} (h : out ++ layF x false (y :: l) = layF x false xs) (hk : key x < key y) : (out ++ [x]) ++ [y] ++ layF x true l = layF x false xs := by
  rw [← h]; simp [layF, hk]
theorem lay_next {x y : Rv} {l out xs : List Rv} (h : out ++ layF x false (y :: l) = layF x false xs) (hk : ¬ key x < key y) : out ++ [y] ++ layF x false l = layF x false xs := by
  rw [← h]; simp [layF, hk]
theorem lay_rest {x y : Rv} {l out xs : List Rv} (h : out ++ layF x true (y :: l) = layF x false xs) : out ++ [y] ++ layF x true l = layF x false xs := by
  rw [← h]; simp [layF]
theorem layF_len (x : Rv) (xs : List Rv) : (layF x false xs).length = xs.length + 1 := by
  induction xs with
  | nil => rfl
  | cons y l ih => unfold layF; split <;> simp [ih]
theorem layF_eq {x : Rv} : ∀ {l : List Rv}, l.Pairwise (fun a b => key a < key b) → layF x false l = l.filter (fun y => !decide (key x < key y)) ++ [x] ++ l.filter (fun y => decide (key x < key y))
  | [], _ => rfl
  | y :: l, h => by
    obtain ⟨h1, h2⟩ := List.pairwise_cons.1 h
    unfold layF
    by_cases hk : key x < key y
    · rw [if_pos hk]
      have e1 : (y :: l).filter (fun y => !decide (key x < key y)) = [] := by
        rw [List.filter_eq_nil_iff]
        intro z hz
        rcases List.mem_cons.1 hz with rfl | hz
        · simp [hk]
        · have := h1 z hz
          simp; omega
      have e2 : (y :: l).filter (fun y => decide (key x < key y)) = y :: l := by
        rw [List.filter_eq_self]
        intro z hz
        rcases List.mem_cons.1 hz with rfl | hz
        · simp [hk]
        · have := h1 z hz
          simp; omega
      rw [e1, e2]; rfl
    · rw [if_neg hk, layF_eq h2, List.filter_cons_of_pos (by simp [hk]), List.filter_cons_of_neg (by simp [hk])]
      rfl
/-! ### What a walk over all entries tells -/
theorem wh_yes {l : List Rv} {g : Int} {x : Rv} {i : Nat} (hx : l[i]? = some x) (hg : x.grant = g) (hw : x.whole = true) : wholeF l g = true := by
  unfold wholeF mid
  exact List.any_eq_true.2 ⟨x, List.mem_filter.2 ⟨List.mem_of_getElem? hx, by simpa using hg⟩, hw⟩
theorem wh_no {l : List Rv} {g : Int} (h : ∀ y ∈ l, y.grant = g → y.whole = false) : wholeF l g = false := by
  unfold wholeF mid
  rw [List.any_eq_false]
  intro x hx
  obtain ⟨h1, h2⟩ := List.mem_filter.1 hx
  rw [h x h1 (by simpa using h2)]
  decide
theorem IsL.wh_no {l : List Rv} (h : IsL l) {g : Int} {x : Rv} (hx : x ∈ l) (hg : x.grant = g) (hw : x.whole = false) : wholeF l g = false := Go.Proofs.YtnjbjjmoglogeaaGreat.wh_no fun y hy hyg => by
  rcases Int.lt_trichotomy (key y) (key x) with c | c | c
  · exact ((h.lt hy hx c).2 (hyg.trans hg.symm)).1
  · obtain ⟨i, hi⟩ := List.getElem?_of_mem hx
    obtain ⟨j, hj⟩ := List.getElem?_of_mem hy
    rcases Nat.lt_trichotomy i j with d | d | d
    · have := (h.adj d hi hj).1; omega
    · subst d
      obtain rfl := Option.some.inj (hi.symm.trans hj)
      exact hw
    · have := (h.adj d hj hi).1; omega
  · exact ((h.lt hx hy c).2 (hg.trans hyg.symm)).2
theorem IsL.at_q {l : List Rv} (h : IsL l) {g : Int} {id : Bs 16} {x : Rv} {i : Nat} (hx : l[i]? = some x) (hg : x.grant = g) (hi : x.id = id) : nQ l (kx g id) = i := by
  have hk : key x = kx g id := by unfold kx key; rw [hg, hi]
  have hc := (h.cQ (kx g id)).2.2
  have h1 := hc i x hx
  unfold pQ at h1
  rw [decide_eq_decide] at h1
  have hl := (List.getElem?_eq_some_iff.1 hx).1
  rcases Nat.lt_trichotomy (nQ l (kx g id)) i with d | d | d
  · have hy : l[nQ l (kx g id)]? = some l[nQ l (kx g id)] := List.getElem?_eq_getElem (by omega)
    have h2 := hc _ _ hy
    unfold pQ at h2
    rw [decide_eq_decide] at h2
    have h3 := (h.adj d hy hx).1
    omega
  · exact d
  · omega
theorem add_same {xs : List Rv} (h : IsL xs) {g e : Int} {id : Bs 16} {x : Rv} {i : Nat} (hx : xs[i]? = some x) (hg : x.grant = g) (hi : x.id = id) (hw : ¬ x.whole = true) : xs.set i { x with exp := max x.exp e } = addF xs g id e := by
  have hq := h.at_q hx hg hi
  have h2 := h.add_old (g := g) (id := id) (e := e) (h.wh_no (List.mem_of_getElem? hx) hg (Bool.eq_false_iff.2 hw)) (by rw [hq]; exact hx) hg hi
  rwa [hq] at h2
theorem add_kept {xs : List Rv} {g e : Int} {id : Bs 16} {x : Rv} {i : Nat} (hx : xs[i]? = some x) (hg : x.grant = g) (hw : x.whole = true) : addF xs g id e = xs := add_whole (wh_yes hx hg hw)
theorem add_lay {xs : List Rv} (h : IsL xs) {g e : Int} {id : Bs 16} (hn : ∀ (j : Nat) (y : Rv), xs[j]? = some y → y.grant = g → y.whole = false ∧ y.id ≠ id) : layF ⟨false, g, id, e⟩ false xs = addF xs g id e := by
  have hw : wholeF xs g = false := wh_no fun y hy hg => by
    obtain ⟨j, hj⟩ := List.getElem?_of_mem hy
    exact (hn j y hj hg).1
  have hne : ∀ y ∈ xs, key y ≠ kx g id := fun y hy e => by
    obtain ⟨hg, hi⟩ := kx_id e
    obtain ⟨j, hj⟩ := List.getElem?_of_mem hy
    exact (hn j y hj hg).2 hi
  have e0 : xs.filter (fun x => key x == kx g id) = [] := by
    rw [List.filter_eq_nil_iff]
    intro y hy
    simpa using hne y hy
  rw [layF_eq h.keys]
  unfold addF
  rw [hw, e0]
  show xs.filter (fun y => !decide (kx g id < key y)) ++ _ ++ xs.filter (fun y => decide (kx g id < key y)) = _
  rw [show xs.filter (fun y => !decide (kx g id < key y)) = xs.filter (pQ (kx g id)) from List.filter_congr fun y hy => by
    have := hne y hy
    unfold pQ
    rw [Bool.eq_iff_iff]
    simp
    omega]
  rfl
/-- How late a grant's whole entries run out. -/
def accE (g : Int) : List Rv → Int → Int
  | [], e => e
  | y :: l, e => accE g l (if y.grant = g ∧ y.whole = true then max e y.exp else e)
theorem accE_mid (g : Int) : ∀ (l : List Rv) (e : Int), accE g l e = accE g (mid l g) e
  | [], e => rfl
  | y :: l, e => by
    unfold mid
    by_cases hg : y.grant = g
    · rw [List.filter_cons_of_pos (by simpa using hg)]
      rw [accE, accE]
      exact accE_mid g l _
    · rw [List.filter_cons_of_neg (by simpa using hg)]
      rw [show accE g (y :: l) e = accE g l e by rw [accE, if_neg (fun h => hg h.1)]]
      exact accE_mid g l _
theorem accE_no (g : Int) : ∀ (l : List Rv) (e : Int), (∀ y ∈ l, y.whole = false) → accE g l e = e
  | [], e, _ => rfl
  | y :: l, e, h => by
    unfold accE
    rw [if_neg (fun h2 => by have := h y (List.mem_cons_self ..); rw [this] at h2; exact absurd h2.2 (by decide))]
    exact accE_no g l e fun z hz => h z (List.mem_cons_of_mem _ hz)
theorem IsL.accE {l : List Rv} (h : IsL l) (g e : Int) : Go.Proofs.YtnjbjjmoglogeaaGreat.accE g l e = if wholeF l g then maxE (mid l g) e else e := by
  rw [accE_mid]
  have hm : ∀ y ∈ mid l g, y ∈ l ∧ y.grant = g := fun y hy => ⟨(List.mem_filter.1 hy).1, by simpa using (List.mem_filter.1 hy).2⟩
  by_cases hw : wholeF l g = true
  · rw [if_pos hw]
    obtain ⟨y, hy, hyw⟩ := List.any_eq_true.1 hw
    obtain ⟨i, hi⟩ := List.getElem?_of_mem (hm y hy).1
    have hd : mid l g = [y] := by
      have hlt := h.cF g
      have hwa : nF l g < nT l g := by
        have h1 := (h.cT g).2.2 i y hi
        have h2 := (h.cF g).2.2 i y hi
        unfold pT at h1
        unfold pF at h2
        rw [decide_eq_decide] at h1 h2
        have := (hm y hy).2
        omega
      have hlt3 : nF l g < l.length := by have := nT_le l g; omega
      have hx : l[nF l g]? = some l[nF l g] := List.getElem?_eq_getElem hlt3
      obtain ⟨q1, q2, q3⟩ := h.whole_at hwa hx
      have q4 := q3 (by rw [← q2]; exact hw)
      rw [q4] at hy ⊢
      rw [List.mem_singleton.1 hy]
    rw [hd]
    show (if y.grant = g ∧ y.whole = true then max e y.exp else e) = max e y.exp
    rw [if_pos ⟨(hm y hy).2, hyw⟩]
  · rw [if_neg hw]
    refine accE_no g _ e fun y hy => ?_
    rw [Bool.not_eq_true] at hw
    unfold wholeF at hw
    have := List.any_eq_false.1 hw y hy
    simpa using this
theorem IsL.kill_lay {xs : List Rv} (h : IsL xs) (g e : Int) : layF ⟨true, g, zBs 16, Go.Proofs.YtnjbjjmoglogeaaGreat.accE g xs e⟩ false (xs.filter (fun y => !(y.grant == g))) = killF xs g e := by
  rw [layF_eq (h.keys.filter _), List.filter_filter, List.filter_filter, h.accE]
  unfold killF
  have hk : ∀ y : Rv, y.grant < g → key y < kx g (zBs 16) := fun y hy => lt_kx hy
  have hk2 : ∀ y : Rv, g < y.grant → kx g (zBs 16) < key y := fun y hy => by
    rcases Int.lt_trichotomy (key y) (kx g (zBs 16)) with c | c | c
    · have := kx_lt c; omega
    · have := (kx_id c).1; omega
    · exact c
  rw [show xs.filter (fun y => (!decide (key (⟨true, g, zBs 16, if wholeF xs g then maxE (mid xs g) e else e⟩ : Rv) < key y)) && !(y.grant == g)) = xs.filter (pF g) from List.filter_congr fun y hy => by
    show ((!decide (kx g (zBs 16) < key y)) && !(y.grant == g)) = pF g y
    unfold pF
    rcases Int.lt_trichotomy y.grant g with c | c | c
    · have := hk y c
      rw [decide_eq_true c, decide_eq_false (by omega)]
      simp; omega
    · simp [c]
    · have := hk2 y c
      rw [decide_eq_true this, decide_eq_false (by omega)]
      simp]
  rw [show xs.filter (fun y => decide (key (⟨true, g, zBs 16, if wholeF xs g then maxE (mid xs g) e else e⟩ : Rv) < key y) && !(y.grant == g)) = xs.filter (fun x => !pT g x) from List.filter_congr fun y hy => by
    show (decide (kx g (zBs 16) < key y) && !(y.grant == g)) = !pT g y
    unfold pT
    rcases Int.lt_trichotomy y.grant g with c | c | c
    · have := hk y c
      rw [decide_eq_true (by omega : y.grant ≤ g), decide_eq_false (by omega)]
      rfl
    · simp [c]
    · have := hk2 y c
      rw [decide_eq_true this, decide_eq_false (by omega : ¬ y.grant ≤ g)]
      simp; omega]
/-! ### What is told of any row -/
open Classical in
noncomputable def addN (xs : List Rv) (g : Int) (id : Bs 16) (e : Int) : List Rv := if IsL xs then addF xs g id e else []
open Classical in
noncomputable def killN (xs : List Rv) (g e : Int) : List Rv := if IsL xs then killF xs g e else []
open Classical in
noncomputable def pruneN (xs : List Rv) (now : Int) : List Rv := if IsL xs then pruneF xs now else []
open Classical in
noncomputable def hasN (xs : List Rv) (g : Int) (id : Bs 16) : Bool := if IsL xs then hasF xs g id else false
theorem addN_yes {xs : List Rv} {g e : Int} {id : Bs 16} (h : IsL xs) : addN xs g id e = addF xs g id e := by unfold addN; rw [if_pos h]
theorem addN_no {xs : List Rv} {g e : Int} {id : Bs 16} (h : ¬ IsL xs) : addN xs g id e = [] := by unfold addN; rw [if_neg h]
theorem killN_yes {xs : List Rv} {g e : Int} (h : IsL xs) : killN xs g e = killF xs g e := by unfold killN; rw [if_pos h]
theorem killN_no {xs : List Rv} {g e : Int} (h : ¬ IsL xs) : killN xs g e = [] := by unfold killN; rw [if_neg h]
theorem pruneN_yes {xs : List Rv} {e : Int} (h : IsL xs) : pruneN xs e = pruneF xs e := by unfold pruneN; rw [if_pos h]
theorem pruneN_no {xs : List Rv} {e : Int} (h : ¬ IsL xs) : pruneN xs e = [] := by unfold pruneN; rw [if_neg h]
theorem hasN_yes {xs : List Rv} {g : Int} {id : Bs 16} (h : IsL xs) : hasN xs g id = hasF xs g id := by unfold hasN; rw [if_pos h]
theorem hasN_no {xs : List Rv} {g : Int} {id : Bs 16} (h : ¬ IsL xs) : hasN xs g id = false := by unfold hasN; rw [if_neg h]
/-- One step's list. -/
noncomputable def dueF (xs : List Rv) (act g : Int) (id : Bs 16) (e : Int) : List Rv := if act = 1 then addN xs g id e else if act = 2 then killN xs g e else pruneN xs e
theorem has_at {xs : List Rv} {g : Int} {id : Bs 16} {x : Rv} {i : Nat} (hx : xs[i]? = some x) (hg : x.grant = g) (hh : x.whole = true ∨ x.id = id) : hasF xs g id = true := by
  unfold hasF mid
  exact List.any_eq_true.2 ⟨x, List.mem_filter.2 ⟨List.mem_of_getElem? hx, by simpa using hg⟩, by simpa using hh⟩
theorem has_none {xs : List Rv} {g : Int} {id : Bs 16} (h : ∀ (j : Nat), j < xs.length → ∀ y, xs[j]? = some y → y.grant = g → y.whole = false ∧ y.id ≠ id) : hasF xs g id = false := by
  unfold hasF mid
  rw [List.any_eq_false]
  intro y hy
  obtain ⟨h1, h2⟩ := List.mem_filter.1 hy
  obtain ⟨j, hj⟩ := List.getElem?_of_mem h1
  obtain ⟨h3, h4⟩ := h j (List.getElem?_eq_some_iff.1 hj).1 y hj (by simpa using h2)
  simp [h3, h4]
theorem addF_len (xs : List Rv) (g e : Int) (id : Bs 16) : (addF xs g id e).length ≤ xs.length + 1 ∨ ¬ IsL xs := by
  by_cases h : IsL xs
  · left
    by_cases hw : wholeF xs g = true
    · rw [add_whole hw]; omega
    · rw [Bool.not_eq_true] at hw
      by_cases hn : ∀ (j : Nat) (y : Rv), xs[j]? = some y → y.grant = g → y.whole = false ∧ y.id ≠ id
      · rw [← add_lay h hn, layF_len]; omega
      · obtain ⟨j, hj⟩ := Classical.not_forall.1 hn
        obtain ⟨y, hy⟩ := Classical.not_forall.1 hj
        obtain ⟨h1, h2⟩ := Classical.not_imp.1 hy
        obtain ⟨h3, h4⟩ := Classical.not_imp.1 h2
        have hyw : ¬ y.whole = true := fun e => by rw [wh_yes h1 h3 e] at hw; exact absurd hw (by decide)
        have hid : y.id = id := Classical.byContradiction fun e => h4 ⟨Bool.eq_false_iff.2 hyw, e⟩
        rw [← add_same h h1 h3 hid hyw, List.length_set]; omega
  · exact .inr h
theorem dueF_len (xs : List Rv) (act g e : Int) (id : Bs 16) : (dueF xs act g id e).length ≤ xs.length + 1 := by
  unfold dueF
  split
  · by_cases h : IsL xs
    · rw [addN_yes h]
      exact (addF_len xs g e id).resolve_right (fun h2 => h2 h)
    · rw [addN_no h]; exact Nat.zero_le _
  · split
    · by_cases h : IsL xs
      · rw [killN_yes h, ← h.kill_lay, layF_len]
        have := List.length_filter_le (fun y : Rv => !(y.grant == g)) xs
        omega
      · rw [killN_no h]; exact Nat.zero_le _
    · by_cases h : IsL xs
      · rw [pruneN_yes h]
        have := List.length_filter_le (fun x : Rv => !decide (x.exp ≤ e)) xs
        unfold pruneF
        omega
      · rw [pruneN_no h]; exact Nat.zero_le _
end Go.Proofs.YtnjbjjmoglogeaaGreat
