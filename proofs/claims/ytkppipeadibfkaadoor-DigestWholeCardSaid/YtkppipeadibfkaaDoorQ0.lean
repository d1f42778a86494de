/- A family of hashes of one's own, each with the row of what it has taken: boxes, rows. No conditions but those of each lemma. -/
import Derived.Test.YtkppipeadibfkaaDoorP0
namespace Go.Proofs.YtkppipeadibfkaaDoor
open Go.RowKit Go.Proofs.YtkppipeadibfkaaDoorW.PrintWords KB WG
set_option linter.unusedVariables false
set_option linter.unusedSimpArgs false
set_option linter.unnecessarySimpa false
/-- One of them: its block; its row, and what it has taken; the row of the same bytes, and these. -/
structure Hz where
  g : Nat
  A : Option Addr
  k : Nat
  wr : List By
  B : Option Addr
  c : Nat
  ap : List By
def Hz.sl (h : Hz) : Value := .slice h.A (feed hIni h.wr).2.length h.k
def Hz.al (h : Hz) : Value := .slice h.B h.ap.length h.c
def Hz.box (h : Hz) : Array Value := (hcs (feed hIni h.wr).1 h.sl ((BitVec.ofNat 64 h.wr.length).toNat : Int)).toArray
/-- The rows: those of the hashes, then those of the same bytes. -/
def famR (hs : List Hz) : List Rw := hs.map (fun h => (h.sl, (feed hIni h.wr).2)) ++ hs.map (fun h => (h.al, h.ap))
structure Fam (w0 w : World) (hs : List Hz) : Prop where
  box : ∀ (i : Nat) (h : Hz), hs[i]? = some h → w0.heap.size ≤ h.g ∧ w.heap[h.g]? = some (.cells h.box 82 (0, 0))
  nd : ∀ (i j : Nat) (a b : Hz), hs[i]? = some a → hs[j]? = some b → a.g = b.g → i = j
theorem Fam.nil (w0 w : World) : Fam w0 w [] := ⟨fun _ _ h => by simp at h, fun _ _ _ _ h => by simp at h⟩
theorem Fam.below {w0 w w' : World} {hs : List Hz} (Z : Fam w0 w hs) (hb : Below w.heap.size w w') : Fam w0 w' hs :=
  ⟨fun i h hi => ⟨(Z.box i h hi).1, by rw [hb.block _ (Array.getElem?_eq_some_iff.1 (Z.box i h hi).2).1]; exact (Z.box i h hi).2⟩, Z.nd⟩
/-- Another block has been written. -/
theorem Fam.other {w0 w w' : World} {hs : List Hz} (Z : Fam w0 w hs) {g t : Nat} {cells : Array Value} (hb : w.heap[g]? = some (.cells cells t (0, 0))) (ht : 82 ≠ t) (hg : w.grownBy w' (some g)) : Fam w0 w' hs :=
  ⟨fun i h hi => ⟨(Z.box i h hi).1, by
    have h2 := (Z.box i h hi).2
    rw [hg.block _ (Array.getElem?_eq_some_iff.1 h2).1 (fun e => by
      rw [Option.some.inj e, hb] at h2
      injection h2 with h2
      injection h2 with _ h2
      exact ht h2.symm)]
    exact h2⟩, Z.nd⟩
theorem Fam.row {w0 w w' : World} {hs : List Hz} {base : Nat} {v : Value} {bs : List By} (Z : Fam w0 w hs) (hO : OwB w base v bs) (hg : w.grownBy w' v.ownBlock) : Fam w0 w' hs := by
  cases e : v.ownBlock with
  | none => rw [e] at hg; exact ⟨fun i h hi => ⟨(Z.box i h hi).1, by
      have h2 := (Z.box i h hi).2
      rw [hg.block _ (Array.getElem?_eq_some_iff.1 h2).1 (fun e => by cases e)]; exact h2⟩, Z.nd⟩
  | some k => obtain ⟨_, _, c, hc⟩ := hO.bound e
              rw [e] at hg
              exact Z.other hc (by decide) hg
/-- The bytes apart (wr, ap) may be told anew where the block stays. -/
theorem Fam.put {w0 w w' : World} {hs : List Hz} (Z : Fam w0 w hs) {i : Nat} {h h' : Hz} (hi : hs[i]? = some h) (hg0 : w0.heap.size ≤ h'.g) (hn : w'.heap[h'.g]? = some (.cells h'.box 82 (0, 0))) (hoth : ∀ (j : Nat) (b : Hz), j ≠ i → hs[j]? = some b → w'.heap[b.g]? = w.heap[b.g]? ∧ b.g ≠ h'.g) : Fam w0 w' (hs.set i h') where
  box := fun j b hj => by
    rw [List.getElem?_set] at hj
    split at hj
    · split at hj
      · obtain rfl := Option.some.inj hj; exact ⟨hg0, hn⟩
      · cases hj
    · rename_i hne
      exact ⟨(Z.box j b hj).1, by rw [(hoth j b (fun e => hne e.symm) hj).1]; exact (Z.box j b hj).2⟩
  nd := fun j q a b hj hq e => by
    rw [List.getElem?_set] at hj hq
    split at hj <;> split at hq
    · rename_i e1 e2; omega
    · rename_i e1 e2
      split at hj
      · obtain rfl := Option.some.inj hj
        exact absurd e.symm (hoth q b (fun e3 => e2 e3.symm) hq).2
      · cases hj
    · rename_i e1 e2
      split at hq
      · obtain rfl := Option.some.inj hq
        exact absurd e (hoth j a (fun e3 => e1 e3.symm) hj).2
      · cases hq
    · exact Z.nd j q a b hj hq e
/-- One of them has taken bytes. -/
theorem Fam.take {w0 w w' : World} {hs : List Hz} (Z : Fam w0 w hs) {i : Nat} {h : Hz} (hi : hs[i]? = some h) {base : Nat} {rs : List By} (hO : OwB w base h.sl rs) {A' : Option Addr} {k' : Nat} {wr' : List By}
    (hC : Cg w w' h.g h.sl.ownBlock (.slice A' (feed hIni wr').2.length k')) (hn : w'.heap[h.g]? = some (.cells (hcs (feed hIni wr').1 (.slice A' (feed hIni wr').2.length k') ((BitVec.ofNat 64 wr'.length).toNat : Int)).toArray 82 (0, 0))) :
    Fam w0 w' (hs.set i { h with A := A', k := k', wr := wr' }) :=
  Z.put hi (Z.box i h hi).1 hn (fun j b hne hj => by
    have h2 := (Z.box j b hj).2
    have hgne : b.g ≠ h.g := fun e => hne (Z.nd j i b h hj hi e)
    refine ⟨hC.1.block _ (Array.getElem?_eq_some_iff.1 h2).1 hgne (fun e => ?_), hgne⟩
    obtain ⟨_, _, c, hc⟩ := hO.bound e.symm
    rw [hc] at h2
    injection h2 with h2
    injection h2 with _ h2
    exact absurd h2 (by decide))
/-- A new one comes up in the place of one. -/
def freshH (g : Nat) : Hz := ⟨g, none, 0, [], none, 0, []⟩
theorem freshH_box (g : Nat) : (freshH g).box = (hcs (feed hIni []).1 (.slice none (feed hIni []).2.length 0) ((BitVec.ofNat 64 0).toNat : Int)).toArray := rfl
theorem Fam.fresh {w0 w w' : World} {hs : List Hz} (Z : Fam w0 w hs) {i g : Nat} {h : Hz} (hi : hs[i]? = some h) (hw : w0.heap.size ≤ w.heap.size) (hb : Below w.heap.size w w') (hg : w.heap.size ≤ g) (hn : w'.heap[g]? = some (.cells (freshH g).box 82 (0, 0))) : Fam w0 w' (hs.set i (freshH g)) :=
  Z.put hi (Nat.le_trans hw hg) hn (fun j b hne hj => by
    have h2 := (Array.getElem?_eq_some_iff.1 (Z.box j b hj).2).1
    exact ⟨hb.block _ h2, fun e => by have e : b.g = g := e; omega⟩)
theorem Fam.more {w0 w w' : World} {hs : List Hz} (Z : Fam w0 w hs) {g : Nat} (hw : w0.heap.size ≤ w.heap.size) (hb : Below w.heap.size w w') (hg : w.heap.size ≤ g) (hn : w'.heap[g]? = some (.cells (freshH g).box 82 (0, 0))) : Fam w0 w' (hs ++ [freshH g]) where
  box := fun j b hj => by
    rcases Nat.lt_or_ge j hs.length with h | h
    · rw [List.getElem?_append_left h] at hj; exact (Z.below hb).box j b hj
    · rw [List.getElem?_append_right h] at hj
      cases hq : j - hs.length with
      | zero => rw [hq] at hj; obtain rfl := Option.some.inj hj; exact ⟨Nat.le_trans hw hg, hn⟩
      | succ q => rw [hq] at hj; simp at hj
  nd := fun i j a b hi hj e => by
    have key : ∀ (j : Nat) (b : Hz), (hs ++ [freshH g])[j]? = some b → (hs[j]? = some b ∧ b.g < w.heap.size) ∨ (j = hs.length ∧ b.g = g) := fun j b hj => by
      rcases Nat.lt_or_ge j hs.length with h | h
      · rw [List.getElem?_append_left h] at hj; exact .inl ⟨hj, (Array.getElem?_eq_some_iff.1 (Z.box j b hj).2).1⟩
      · rw [List.getElem?_append_right h] at hj
        cases hq : j - hs.length with
        | zero => rw [hq] at hj; obtain rfl := Option.some.inj hj; exact .inr ⟨by omega, rfl⟩
        | succ q => rw [hq] at hj; simp at hj
    rcases key i a hi with ⟨h1, h2⟩ | ⟨h1, h2⟩ <;> rcases key j b hj with ⟨h3, h4⟩ | ⟨h3, h4⟩
    · exact Z.nd i j a b h1 h3 e
    · omega
    · omega
    · omega
/-! ### The rows -/
theorem famR_len (hs : List Hz) : (famR hs).length = hs.length + hs.length := by simp [famR]
theorem famR_sl {hs : List Hz} {i : Nat} {h : Hz} (hi : hs[i]? = some h) : (famR hs)[i]? = some (h.sl, (feed hIni h.wr).2) := by
  have hl := (List.getElem?_eq_some_iff.1 hi).1
  unfold famR
  rw [List.getElem?_append_left (by rw [List.length_map]; exact hl), List.getElem?_map, hi]; rfl
theorem famR_al {hs : List Hz} {i : Nat} {h : Hz} (hi : hs[i]? = some h) : (famR hs)[hs.length + i]? = some (h.al, h.ap) := by
  unfold famR
  rw [List.getElem?_append_right (by rw [List.length_map]; omega), List.length_map, show hs.length + i - hs.length = i by omega, List.getElem?_map, hi]; rfl
theorem set_same {α β : Type} (f : α → β) {hs : List α} {i : Nat} {h h' : α} (hi : hs[i]? = some h) (e : f h' = f h) : (hs.set i h').map f = hs.map f := by
  obtain ⟨hl, hv⟩ := List.getElem?_eq_some_iff.1 hi
  apply List.ext_getElem?
  intro j
  rw [List.getElem?_map, List.getElem?_map, List.getElem?_set]
  split
  · rename_i e2
    subst e2
    simp only [hl, if_true, hi, Option.map_some, e]
  · rfl
theorem famR_take {hs : List Hz} {i : Nat} {h : Hz} (hi : hs[i]? = some h) (A' : Option Addr) (k' : Nat) (wr' : List By) : (famR hs).set i (.slice A' (feed hIni wr').2.length k', (feed hIni wr').2) = famR (hs.set i { h with A := A', k := k', wr := wr' }) := by
  have hl := (List.getElem?_eq_some_iff.1 hi).1
  unfold famR
  rw [List.set_append_left _ _ (by rw [List.length_map]; exact hl), set_same (h' := { h with A := A', k := k', wr := wr' }) (fun h : Hz => (h.al, h.ap)) hi rfl, List.map_set]
  rfl
theorem famR_app {hs : List Hz} {i : Nat} {h : Hz} (hi : hs[i]? = some h) (B' : Option Addr) (c' : Nat) (ap' : List By) : (famR hs).set (hs.length + i) (.slice B' ap'.length c', ap') = famR (hs.set i { h with B := B', c := c', ap := ap' }) := by
  unfold famR
  rw [List.set_append_right _ _ (by rw [List.length_map]; omega), List.length_map, show hs.length + i - hs.length = i by omega, set_same (h' := { h with B := B', c := c', ap := ap' }) (fun h : Hz => (h.sl, (feed hIni h.wr).2)) hi rfl, List.map_set]
  rfl
theorem app_at {α : Type} {t l : List α} {j : Nat} {x : α} (h : l[j]? = some x) : (t ++ l)[t.length + j]? = some x := by
  rw [List.getElem?_append_right (by omega), show t.length + j - t.length = j by omega]; exact h
theorem app_set {α : Type} (t l : List α) (j : Nat) (x : α) : (t ++ l).set (t.length + j) x = t ++ l.set j x := by
  rw [List.set_append_right _ _ (by omega), show t.length + j - t.length = j by omega]
/-- A nil row comes up in the place of one, or behind all. -/
theorem Rs.sub {w0 w : World} {l l' : List Rw} (R : Rs w0 w l) (f : Nat → Nat) (hf : ∀ (j : Nat) (v : Value) (bs : List By), l'[j]? = some (v, bs) → (v = .slice none 0 0 ∧ bs = []) ∨ l[f j]? = some (v, bs)) (hinj : ∀ i j, f i = f j → i < l'.length → j < l'.length → i = j) : Rs w0 w l' where
  own := fun j v bs h => by
    rcases hf j v bs h with ⟨rfl, rfl⟩ | h2
    · exact owB_nil _ _
    · exact R.own _ _ _ h2
  nd := fun i j v u bs cs k hi hj e1 e2 => by
    rcases hf i v bs hi with ⟨rfl, _⟩ | h2
    · simp [Value.ownBlock] at e1
    · rcases hf j u cs hj with ⟨rfl, _⟩ | h3
      · simp [Value.ownBlock] at e2
      · exact hinj i j (R.nd _ _ _ _ _ _ k h2 h3 e1 e2) (List.getElem?_eq_some_iff.1 hi).1 (List.getElem?_eq_some_iff.1 hj).1
theorem fresh_sl (g : Nat) : (freshH g).sl = .slice none 0 0 := by show Value.slice none (feed hIni []).2.length 0 = _; rw [feed_nil]; rfl
theorem fresh_rest (g : Nat) : (feed hIni (freshH g).wr).2 = [] := by show (feed hIni []).2 = []; rw [feed_nil]
theorem Rs.famfresh {w0 w : World} {hs : List Hz} (R : Rs w0 w (famR hs)) (i g : Nat) : Rs w0 w (famR (hs.set i (freshH g))) := by
  refine R.sub id (fun j v bs hj => ?_) (fun i j h _ _ => h)
  have hlen : (hs.set i (freshH g)).length = hs.length := List.length_set
  unfold famR at hj ⊢
  rcases Nat.lt_or_ge j hs.length with h | h
  · rw [List.getElem?_append_left (by rw [List.length_map, hlen]; exact h), List.getElem?_map, List.getElem?_set] at hj
    show _ ∨ (_ ++ _)[j]? = _
    rw [List.getElem?_append_left (by rw [List.length_map]; exact h), List.getElem?_map]
    split at hj
    · rename_i e
      split at hj
      · left
        have hj := Option.some.inj hj
        injection hj with e1 e2
        exact ⟨e1.symm.trans (fresh_sl g), e2.symm.trans (fresh_rest g)⟩
      · simp at hj
    · exact .inr hj
  · rw [List.getElem?_append_right (by rw [List.length_map, hlen]; exact h), List.length_map, hlen, List.getElem?_map, List.getElem?_set] at hj
    show _ ∨ (_ ++ _)[j]? = _
    rw [List.getElem?_append_right (by rw [List.length_map]; exact h), List.length_map, List.getElem?_map]
    split at hj
    · rename_i e
      split at hj
      · left
        have hj := Option.some.inj hj
        injection hj with e1 e2
        exact ⟨e1.symm, e2.symm⟩
      · simp at hj
    · exact .inr hj
theorem Rs.fammore {w0 w : World} {hs : List Hz} (R : Rs w0 w (famR hs)) (g : Nat) : Rs w0 w (famR (hs ++ [freshH g])) := by
  refine R.sub (fun j => if j < hs.length then j else if j = hs.length then 2 * hs.length + 5 else j - 1) (fun j v bs hj => ?_) (fun i j e hi hj => ?_)
  · unfold famR at hj ⊢
    rw [List.map_append, List.map_append] at hj
    rcases Nat.lt_or_ge j hs.length with h | h
    · rw [List.append_assoc, List.getElem?_append_left (by rw [List.length_map]; exact h)] at hj
      right
      rw [if_pos h, List.getElem?_append_left (by rw [List.length_map]; exact h)]
      exact hj
    · rw [List.append_assoc, List.getElem?_append_right (by rw [List.length_map]; exact h), List.length_map] at hj
      cases hq : j - hs.length with
      | zero =>
        rw [hq] at hj
        left
        have hj := Option.some.inj hj
        injection hj with e1 e2
        exact ⟨e1.symm.trans (fresh_sl g), e2.symm.trans (fresh_rest g)⟩
      | succ q =>
        rw [hq] at hj
        have hj : (hs.map (fun h : Hz => (h.al, h.ap)) ++ [(freshH g)].map (fun h : Hz => (h.al, h.ap)))[q]? = some (v, bs) := hj
        rcases Nat.lt_or_ge q hs.length with h3 | h3
        · right
          rw [if_neg (by omega), if_neg (by omega), List.getElem?_append_right (by rw [List.length_map]; omega), List.length_map, show j - 1 - hs.length = q by omega]
          rwa [List.getElem?_append_left (by rw [List.length_map]; exact h3)] at hj
        · rw [List.getElem?_append_right (by rw [List.length_map]; exact h3), List.length_map] at hj
          cases hz : q - hs.length with
          | zero =>
            rw [hz] at hj
            left
            have hj := Option.some.inj hj
            injection hj with e1 e2
            exact ⟨e1.symm, e2.symm⟩
          | succ z => rw [hz] at hj; simp at hj
  · rw [famR_len, List.length_append] at hi hj
    simp only [List.length_cons, List.length_nil] at hi hj
    split at e <;> split at e <;> (try split at e) <;> (try split at e) <;> omega
theorem WG.Mm.far2 {w0 w w' : World} {H : List Blk} (M : Mm w0 w H) {g : Nat} {R : Option Nat} {cells : Array Value} (hC : Ch w w' g R) (hg0 : w0.heap.size ≤ g) (hg : w.heap[g]? = some (.cells cells 82 (0, 0))) (hR : ∀ k, R = some k → w0.heap.size ≤ k ∧ ∃ c, w.heap[k]? = some (.cells c 5 (0, 0))) (hT : H.all (fun b => b.t != 5 && b.t != 82) = true) : Mm w0 w' H := by
  refine ⟨⟨hC.os.trans M.bel.os, hC.tape.trans M.bel.tape, hC.output.trans M.bel.output, Nat.le_trans M.bel.size hC.size, fun k hk => ?_⟩, fun j b hb => ?_, M.lo, M.nd⟩
  · rw [hC.block k (Nat.lt_of_lt_of_le hk M.bel.size) (by omega) (fun e => by have := (hR k e.symm).1; omega)]
    exact M.bel.block k hk
  · have h1 := M.blk j b hb
    have ht := List.all_eq_true.1 hT b (List.mem_of_getElem? hb)
    rw [hC.block _ (M.lt hb) (fun e => ?_) (fun e => ?_)]
    · exact h1
    · rw [e, hg] at h1
      injection h1 with h1
      injection h1 with _ h1
      rw [← h1] at ht
      simp at ht
    · obtain ⟨_, c, hc⟩ := hR _ e.symm
      rw [hc] at h1
      injection h1 with h1
      injection h1 with _ h1
      rw [← h1] at ht
      simp at ht
def pcs (hs : List Hz) : List Value := hs.map fun h => .pointer (some ⟨h.g, 0, none⟩)
def acs (hs : List Hz) : List Value := hs.map Hz.al
theorem pcs_get {hs : List Hz} {i : Nat} {h : Hz} (hi : hs[i]? = some h) : (pcs hs)[i]? = some (.pointer (some ⟨h.g, 0, none⟩)) := by rw [pcs, List.getElem?_map, hi]; rfl
theorem acs_get {hs : List Hz} {i : Nat} {h : Hz} (hi : hs[i]? = some h) : (acs hs)[i]? = some (.slice h.B h.ap.length h.c) := by rw [acs, List.getElem?_map, hi]; rfl
theorem pcs_len (hs : List Hz) : (pcs hs).length = hs.length := by simp [pcs]
theorem acs_len (hs : List Hz) : (acs hs).length = hs.length := by simp [acs]
theorem arr_get {l : List Value} {i : Nat} {x : Value} (h : l[i]? = some x) : l.toArray[i]? = some x := by rw [List.getElem?_toArray]; exact h
theorem val_set {l : List Value} {i : Nat} (x : Value) (h : i < l.length) : l.take i ++ [x] ++ l.drop (i + [x].length) = l.set i x := by
  rw [List.set_eq_take_append_cons_drop, if_pos h]; simp
theorem Rs.dropt {w0 w : World} {t l : List Rw} (R : Rs w0 w (t ++ l)) : Rs w0 w l := R.sub (fun j => t.length + j) (fun j v bs h => .inr (app_at h)) (fun i j e _ _ => by omega)
theorem fam_rb {w0 w : World} {t : List Rw} {hs : List Hz} (R : Rs w0 w (t ++ famR hs)) {i : Nat} {h : Hz} (hi : hs[i]? = some h) : Rb w h.B h.ap.length h.ap := R.rb (app_at (famR_al hi))
theorem Fam.same {w0 w : World} {hs : List Hz} (Z : Fam w0 w hs) {i : Nat} {h h' : Hz} (hi : hs[i]? = some h) (hg : h'.g = h.g) (hb : h'.box = h.box) : Fam w0 w (hs.set i h') :=
  Z.put hi (by rw [hg]; exact (Z.box i h hi).1) (by rw [hg, hb]; exact (Z.box i h hi).2) (fun j b hne hj => ⟨rfl, fun e => hne (Z.nd j i b h hj hi (e.trans hg))⟩)
theorem get_set {hs : List Hz} {i : Nat} {h h' : Hz} (hi : hs[i]? = some h) : (hs.set i h')[i]? = some h' := by
  have hl := (List.getElem?_eq_some_iff.1 hi).1
  rw [List.getElem?_set, if_pos rfl, if_pos hl]
theorem get_other {hs : List Hz} {i j : Nat} {h' : Hz} (hne : j ≠ i) : (hs.set i h')[j]? = hs[j]? := by rw [List.getElem?_set, if_neg (fun e => hne e.symm)]
/-- What a change of one of them tells. -/
structure Chg (hs hs1 : List Hz) (i : Nat) (h1 : Hz) : Prop where
  len : hs1.length = hs.length
  at_ : hs1[i]? = some h1
  oth : ∀ j, j ≠ i → hs1[j]? = hs[j]?
theorem Chg.mk' {hs : List Hz} {i : Nat} {h h' : Hz} (hi : hs[i]? = some h) : Chg hs (hs.set i h') i h' := ⟨List.length_set, get_set hi, fun j hj => get_other hj⟩
/-- Write to one of them. -/
theorem write_fam {w0 w : World} {H : List Blk} {t : List Rw} {hs : List Hz} (M : Mm w0 w H) (hT : H.all (fun b => b.t != 5 && b.t != 82) = true) (R : Rs w0 w (t ++ famR hs)) (Z : Fam w0 w hs) {i : Nat} {h : Hz} (hi : hs[i]? = some h) (hKt : At w ⟨0, 0, none⟩ (wcs kTab)) (h0 : 0 < w0.heap.size)
    (j m : Nat) (B : Option Addr) (n c : Nat) (b bs : List By) (hj : t[j]? = some (.slice B m c, bs)) (hb : Rb w B n b) (hc : n ≤ c) :
    Calls Tryd.prog 33 #[.pointer (some ⟨h.g, 0, none⟩), .slice B n c] w fun e w' => e = .returned (.tuple #[]) ∧ ∃ hs1 h1, Mm w0 w' H ∧ Rs w0 w' (t ++ famR hs1) ∧ Fam w0 w' hs1 ∧ Chg hs hs1 i h1 ∧ h1.wr = h.wr ++ b ∧ h1.ap = h.ap ∧ h1.al = h.al ∧ pcs hs1 = pcs hs ∧ acs hs1 = acs hs := by
  have hR := app_at (t := t) (famR_sl hi)
  have hbox := Z.box i h hi
  have hjl := (List.getElem?_eq_some_iff.1 hj).1
  have hj' : (t ++ famR hs)[j]? = some (.slice B m c, bs) := by rw [List.getElem?_append_left hjl]; exact hj
  have hL : RbA w B n c b h.g h.sl := R.rba (i := t.length + i) (j := j) hj' hb hc hR (by omega) hbox.2
  refine (write_to h.wr (h.wr ++ b) h.A h.k _ _ b B n c h.g w0.heap.size w hKt h0 M.bel.size hbox.1 hbox.2 (R.own _ _ _ hR) hL rfl (num_app hb.1 rfl)).mono fun e w' ⟨he, A', k', hn, hO, hC⟩ => ⟨he, hs.set i { h with A := A', k := k', wr := h.wr ++ b }, { h with A := A', k := k', wr := h.wr ++ b }, ?_, ?_, ?_, Chg.mk' hi, rfl, rfl, rfl, ?_, ?_⟩
  · exact M.far2 hC.1 hbox.1 hbox.2 (fun k hk => by obtain ⟨h1, _, c, h3⟩ := (R.own _ _ _ hR).bound hk; exact ⟨h1, c, h3⟩) hT
  · have := R.take hR hbox.2 hC hO
    rw [app_set, famR_take hi] at this
    exact this
  · exact Z.take hi (R.own _ _ _ hR) hC hn
  · exact set_same _ hi rfl
  · exact set_same _ hi rfl
theorem sum_fam {w0 w : World} {t : List Rw} {hs : List Hz} (R : Rs w0 w (t ++ famR hs)) (Z : Fam w0 w hs) {i : Nat} {h : Hz} (hi : hs[i]? = some h) (hKt : At w ⟨0, 0, none⟩ (wcs kTab)) :
    Calls Tryd.prog 35 #[.pointer (some ⟨h.g, 0, none⟩)] w fun e w' => e = .returned (.agg (bcs (sha h.wr)).toArray) ∧ Below w.heap.size w w' :=
  sum_any h.wr h.A _ h.k ⟨h.g, 0, none⟩ w hKt (at_block (Z.box i h hi).2) (R.own _ _ _ (app_at (famR_sl hi))).rb.1
theorem len_fam {w0 w : World} {hs : List Hz} (Z : Fam w0 w hs) {i : Nat} {h : Hz} (hi : hs[i]? = some h) :
    Calls Tryd.prog 36 #[.pointer (some ⟨h.g, 0, none⟩)] w fun e w' => e = .returned (.int .u64 ((BitVec.ofNat 64 h.wr.length).toNat : Int)) ∧ Below w.heap.size w w' :=
  len_any h.wr h.sl _ ⟨h.g, 0, none⟩ w (at_block (Z.box i h hi).2)
section
variable {a : Act} {w w0 : World} {n : Nat} {L : List (Nat × Value)} {H : List Blk} {op : Oper} {K : Act → World → Prop} {Q : Exit → Act → World → Prop}
theorem ow_appF {t : List Rw} {hs : List Hz} (F : Fr n a L) (M : Mm w0 w H) (R : Rs w0 w (t ++ famR hs)) (Z : Fam w0 w hs) (hT : H.all (fun b => b.t != 5) = true) {d : Nat} (hd : op.dst = some d) (hlt : Nat.blt d n = true) (hgd : op.guard = none) (s x : Operand) (ho : op.op = .call { callee := .builtin .append, args := #[s, x], argTypes := #[23, 23] })
    (i : Nat) (h : Hz) (hi : hs[i]? = some h) (hs' : a.eval s = .slice h.B h.ap.length h.c) (A : Option Addr) (m c : Nat) (ys : List By) (hx : a.eval x = .slice A m c) (HR : Rb w A m ys) (hl : h.ap.length + m ≤ 140737488355328)
    (hk : ∀ a' hs1 h1 w', Fr n a' ((d, h1.al) :: L) → Mm w0 w' H → Rs w0 w' (t ++ famR hs1) → Fam w0 w' hs1 → Chg hs hs1 i h1 → h1.wr = h.wr → h1.ap = h.ap ++ ys → pcs hs1 = pcs hs → acs hs1 = (acs hs).set i h1.al → K a' w') : op.wp Tryd.prog a w K Q := by
  have hR := app_at (t := t) (famR_al hi)
  refine ow_appZ F M hT hd hlt hgd s x ho h.B h.ap.length h.c h.ap ys (h.ap ++ ys) rfl A m c hs' hx (R.own _ _ _ hR) HR hl (fun a' A1 c1 w' F' M' O' hg hat => ?_)
  refine hk a' (hs.set i { h with B := A1, c := c1, ap := h.ap ++ ys }) { h with B := A1, c := c1, ap := h.ap ++ ys } w' F' M' ?_ ?_ (Chg.mk' hi) rfl rfl (set_same _ hi rfl) (by rw [acs, List.map_set]; rfl)
  · have := R.app hR hg O' hat
    rw [app_set, famR_app hi] at this
    exact this
  · exact (Z.row (R.own _ _ _ hR) hg).same hi rfl rfl
end
end Go.Proofs.YtkppipeadibfkaaDoor
