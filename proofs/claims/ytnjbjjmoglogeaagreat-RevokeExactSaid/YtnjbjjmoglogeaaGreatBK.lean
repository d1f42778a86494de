/- Rows that are kept, each element with a mark (posternlaw1.Book): a block belongs to one mark, and whoever appends in place writes that mark. No conditions but those of each lemma. -/
import Derived.Test.YtnjbjjmoglogeaaGreatRO
namespace Go.Proofs.YtnjbjjmoglogeaaGreat.BK
open Go.RowKit Go.Proofs.YtnjbjjmoglogeaaGreatW.PrintWords KB WG RO
set_option linter.unusedVariables false
set_option linter.unusedSimpArgs false
structure Sl where
  A : Option Addr
  n : Nat
  c : Nat
abbrev Sl.v (s : Sl) : Value := .slice s.A s.n s.c
def Sl.cs (s : Sl) : List Value := [s.v]
theorem Sl.cs_len (s : Sl) : s.cs.length = 1 := rfl
theorem Sl.cs_one (s : Sl) : ∀ u ∈ s.cs, u.oneCell' = true := fun u hu => by rw [List.mem_singleton.1 hu]; rfl
def kS : Kd Sl := kBlk Sl.cs 1 Sl.cs_len Sl.cs_one
def nc (n : Nat) : List Value := [.int .i64 (n : Int)]
theorem nc_len (n : Nat) : (nc n).length = 1 := rfl
theorem nc_one (n : Nat) : ∀ u ∈ nc n, u.oneCell' = true := fun u hu => by rw [List.mem_singleton.1 hu]; rfl
def kN : Kd Nat := kBlk nc 1 nc_len nc_one
/-- What was written: a block of that type from base on, if any. -/
def Grows (e : TypeId) (base : Nat) (w w' : World) : Prop := ∃ r, w.grownBy w' r ∧ ∀ g, r = some g → base ≤ g ∧ ∃ cells, w.heap[g]? = some (.cells cells e (0, 0))
theorem grows_below {e base : Nat} {w w' : World} (h : Below w.heap.size w w') : Grows e base w w' := ⟨none, ⟨h.os, h.tape, h.output, h.size, fun k hk _ => h.block k hk⟩, fun g hg => by cases hg⟩
section
variable {α : Type} {enc : α → List Value} {m : Nat} {hl : ∀ x, (enc x).length = m} {h1 : ∀ x, ∀ u ∈ enc x, u.oneCell' = true}
theorem Ow_grows {e e1 base base1 : Nat} {w w1 : World} {v : Value} {xs : List α} (h : Ow (kBlk enc m hl h1) e1 w base1 v xs) (hg : Grows e base w w1) (he : e1 ≠ e) : Ow (kBlk enc m hl h1) e1 w1 base1 v xs := by
  obtain ⟨r, hg, hr⟩ := hg
  refine h.far hg fun k hk e2 => ?_
  obtain ⟨_, _, cells, hc⟩ := h.bound hk
  obtain ⟨_, cells2, hc2⟩ := hr k e2.symm
  rw [hc] at hc2
  injection hc2 with h2
  injection h2 with _ h2
  exact he h2
end
section
variable {α : Type} (enc : α → List Value) (sz : Nat) (e : TypeId) (mark : Nat → Nat → α)
def Kept (own : Nat → Nat) (base : Nat) (w : World) (s : Sl) (k : Nat) : Prop :=
  s = ⟨none, 0, 0⟩ ∨ ∃ g arr, s.A = some ⟨g, 0, none⟩ ∧ base ≤ g ∧ w.heap[g]? = some (.cells arr e (0, 0)) ∧ arr.size = s.c * sz ∧ s.n ≤ s.c ∧ s.c ≤ maxLen ∧ own g = k ∧ ∀ (j : Nat), j < s.n → ∀ (i : Nat) v, (enc (mark k j))[i]? = some v → arr[j * sz + i]? = some v
def AllK (own : Nat → Nat) (base : Nat) (w : World) (rows : List Sl) (ms : List Nat) : Prop := rows.length = ms.length ∧ ∀ (i : Nat) s k, rows[i]? = some s → ms[i]? = some k → 0 < k ∧ Kept enc sz e mark own base w s k
end
section
variable {α : Type} {enc : α → List Value} {sz : Nat} {e : TypeId} {mark : Nat → Nat → α} {own own' : Nat → Nat} {base : Nat} {w w' : World} {s : Sl} {k : Nat} {rows : List Sl} {ms : List Nat}
theorem Kept.keep (h : Kept enc sz e mark own base w s k) (hb : ∀ g cells, base ≤ g → own g = k → w.heap[g]? = some (.cells cells e (0, 0)) → w'.heap[g]? = w.heap[g]? ∧ own' g = own g) : Kept enc sz e mark own' base w' s k := by
  rcases h with h | ⟨g, arr, h1, h2, h3, h4, h5, h6, h7, h8⟩
  · exact .inl h
  · obtain ⟨h9, h10⟩ := hb g arr h2 h7 h3
    exact .inr ⟨g, arr, h1, h2, h9.trans h3, h4, h5, h6, h10.trans h7, h8⟩
theorem AllK.keep (h : AllK enc sz e mark own base w rows ms) (hb : ∀ g cells, base ≤ g → own g ≠ 0 → w.heap[g]? = some (.cells cells e (0, 0)) → w'.heap[g]? = w.heap[g]? ∧ own' g = own g) : AllK enc sz e mark own' base w' rows ms :=
  ⟨h.1, fun i s k hs hk => ⟨(h.2 i s k hs hk).1, (h.2 i s k hs hk).2.keep fun g cells hg ho hh => hb g cells hg (by have := (h.2 i s k hs hk).1; omega) hh⟩⟩
theorem AllK.below (h : AllK enc sz e mark own base w rows ms) (hb : Below w.heap.size w w') : AllK enc sz e mark own base w' rows ms :=
  h.keep fun g cells _ _ hh => ⟨hb.block g (Array.getElem?_eq_some_iff.1 hh).1, rfl⟩
theorem AllK.far (h : AllK enc sz e mark own base w rows ms) {r : Option Nat} (hg : w.grownBy w' r) (hr : ∀ g, r = some g → own g = 0 ∨ ∀ cells, w.heap[g]? ≠ some (.cells cells e (0, 0))) : AllK enc sz e mark own base w' rows ms :=
  h.keep fun g cells _ ho hh => ⟨hg.block g (Array.getElem?_eq_some_iff.1 hh).1 (fun e2 => (hr g e2.symm).elim ho (fun h => h cells hh)), rfl⟩
theorem AllK.grown (h : AllK enc sz e mark own base w rows ms) {g t : Nat} {cells : Array Value} (hb : w.heap[g]? = some (.cells cells t (0, 0))) (ht : t ≠ e ∨ own g = 0) (hg : w.grownBy w' (some g)) : AllK enc sz e mark own base w' rows ms :=
  h.far hg fun g' e2 => by
    injection e2 with e2
    subst e2
    rcases ht with ht | ht
    · refine .inr fun c2 h2 => ?_
      rw [hb] at h2
      injection h2 with h2
      injection h2 with _ h2
      exact ht h2
    · exact .inl ht
theorem AllK.ow {β : Type} {enc2 : β → List Value} {m : Nat} {hl : ∀ x, (enc2 x).length = m} {h1 : ∀ x, ∀ u ∈ enc2 x, u.oneCell' = true} {e1 base1 : Nat} {v : Value} {xs : List β} (h : AllK enc sz e mark own base w rows ms) (hO : Ow (kBlk enc2 m hl h1) e1 w base1 v xs) (he : e1 ≠ e) (hg : w.grownBy w' v.ownBlock) : AllK enc sz e mark own base w' rows ms :=
  h.far hg fun g e2 => .inr fun c2 h2 => by
    obtain ⟨_, _, cells, hc⟩ := hO.bound e2
    rw [hc] at h2
    injection h2 with h2
    injection h2 with _ h2
    exact he h2
theorem AllK.tail {r : Sl} {m : Nat} (h : AllK enc sz e mark own base w (r :: rows) (m :: ms)) : AllK enc sz e mark own base w rows ms :=
  ⟨by simpa using h.1, fun i s k hs hk => h.2 (i + 1) s k (by simpa using hs) (by simpa using hk)⟩
theorem AllK.cons {r : Sl} {m : Nat} (hr : Kept enc sz e mark own base w r m) (hm : 0 < m) (h : AllK enc sz e mark own base w rows ms) : AllK enc sz e mark own base w (r :: rows) (m :: ms) :=
  ⟨by simpa using h.1, fun i s k hs hk => by
    cases i with
    | zero => obtain rfl : r = s := by simpa using hs
              obtain rfl : m = k := by simpa using hk
              exact ⟨hm, hr⟩
    | succ i => exact h.2 i s k (by simpa using hs) (by simpa using hk)⟩
theorem AllK.snoc {r : Sl} {m : Nat} (h : AllK enc sz e mark own base w rows ms) (hr : Kept enc sz e mark own base w r m) (hm : 0 < m) : AllK enc sz e mark own base w (rows ++ [r]) (ms ++ [m]) :=
  ⟨by rw [List.length_append, List.length_append, h.1]; rfl, fun i s k hs hk => by
    rcases Nat.lt_or_ge i rows.length with hi | hi
    · rw [List.getElem?_append_left hi] at hs
      rw [List.getElem?_append_left (by rw [← h.1]; exact hi)] at hk
      exact h.2 i s k hs hk
    · rw [List.getElem?_append_right hi] at hs
      rw [List.getElem?_append_right (by rw [← h.1]; exact hi), ← h.1] at hk
      cases hj : i - rows.length with
      | zero => rw [hj] at hs hk
                obtain rfl : r = s := by simpa using hs
                obtain rfl : m = k := by simpa using hk
                exact ⟨hm, hr⟩
      | succ j => rw [hj] at hs; simp at hs⟩
theorem AllK.get (h : AllK enc sz e mark own base w rows ms) {i : Nat} {s : Sl} (hs : rows[i]? = some s) : ∃ k, ms[i]? = some k ∧ 0 < k ∧ Kept enc sz e mark own base w s k := by
  have hi := (List.getElem?_eq_some_iff.1 hs).1
  obtain ⟨k, hk⟩ : ∃ k, ms[i]? = some k := ⟨_, List.getElem?_eq_getElem (by rw [← h.1]; exact hi)⟩
  exact ⟨k, hk, h.2 i s k hs hk⟩
theorem AllK.head {r : Sl} {m : Nat} (h : AllK enc sz e mark own base w (r :: rows) (m :: ms)) : 0 < m ∧ Kept enc sz e mark own base w r m := h.2 0 r m rfl rfl
/-- A kept row's elements are read. -/
theorem Kept.at (h : Kept enc sz e mark own base w s k) {j : Nat} (hj : j < s.n) : ∃ ad, s.A = some ad ∧ At w (ad.add (j * sz)) (enc (mark k j)) := by
  rcases h with rfl | ⟨g, arr, h1, h2, h3, h4, h5, h6, h7, h8⟩
  · exact absurd hj (Nat.not_lt_zero _)
  · refine ⟨_, h1, fun i v hv => ?_⟩
    have := h8 j hj i v hv
    rw [Addr.add_add, Addr.add_lit, Nat.zero_add]
    simp only [World.cell?, h3]
    simpa using this
/-- A row of one's own that nobody keeps. -/
theorem own_form {hl : ∀ x, (enc x).length = sz} {h1 : ∀ x, ∀ u ∈ enc x, u.oneCell' = true} {A : Option Addr} {n c : Nat} {xs : List α} (hO : Ow (kBlk enc sz hl h1) e w base (.slice A n c) xs) : (A = none ∧ n = 0 ∧ c = 0) ∨ ∃ g arr, A = some ⟨g, 0, none⟩ ∧ base ≤ g ∧ w.heap[g]? = some (.cells arr e (0, 0)) ∧ arr.size = c * sz ∧ n ≤ c ∧ c ≤ maxLen := by
  obtain ⟨_, inner, ho, hr⟩ := hO
  rcases ho.2 with ⟨h0, h2⟩ | ⟨g, cap, cur, hv, hg, hh, hnc, hcm, hsz, htk⟩
  · simp only [Value.slice.injEq] at h0
    exact .inl h0
  · simp only [Value.slice.injEq] at hv
    obtain ⟨rfl, rfl, rfl⟩ := hv
    exact .inr ⟨g, cur, rfl, hg, hh, hsz, hnc, hcm⟩
theorem put_get {arr : Array Value} {news : List Value} {q p : Nat} (hq : q + news.length ≤ arr.size) : ((arr.toList.take q ++ news ++ arr.toList.drop (q + news.length)).toArray)[p]? = if p < q then arr[p]? else if p < q + news.length then news[p - q]? else arr[p]? := by
  have hl : (arr.toList.take q).length = q := by rw [List.length_take, Array.length_toList]; omega
  rw [List.getElem?_toArray, List.append_assoc]
  split
  · rename_i h
    rw [List.getElem?_append_left (by omega), List.getElem?_take_of_lt h, Array.getElem?_toList]
  · rename_i h
    rw [List.getElem?_append_right (by omega), hl]
    split
    · rw [List.getElem?_append_left (by omega)]
    · rw [List.getElem?_append_right (by omega), List.getElem?_drop, Array.getElem?_toList]
      congr 1
      omega
end
section
variable {α : Type} {enc : α → List Value} {sz : Nat} {e : TypeId} {mark : Nat → Nat → α} {own : Nat → Nat} {base : Nat}
variable {P : Program} {op : Oper} {a : Act} {w w0 : World} {n : Nat} {L : List (Nat × Value)} {H : List Blk} {K : Act → World → Prop} {Q : Exit → Act → World → Prop}
theorem mm_grows {w' : World} (M : Mm w0 w H) (hb0 : w0.heap.size ≤ base) (hT : farB e base H) (hg : Grows e base w w') : Mm w0 w' H := by
  obtain ⟨r, hg, hr⟩ := hg
  refine ⟨M.bel.grown hg M.bel.size (fun k hk => by have := (hr k hk).1; omega), fun i b hb => ?_, M.lo, M.nd⟩
  rw [hg.block _ (M.lt hb) (fun e2 => ?_)]
  · exact M.blk i b hb
  · obtain ⟨h1, cells, h2⟩ := hr _ e2.symm
    rcases farB_get hT i b hb with h3 | h3
    · rw [M.blk i b hb] at h2
      injection h2 with h2
      injection h2 with _ h2
      exact h3 h2
    · omega
/-- append(row, mark): in place where there is room, or a new block. -/
theorem ow_mark {t b : Nat} {rows : List Sl} {ms : List Nat} (hsz : ∀ x, (enc x).length = sz) (h1 : ∀ x, ∀ u ∈ enc x, u.oneCell' = true) (F : Fr n a L) (M : Mm w0 w H) {d : Nat} (hd : op.dst = some d) (hlt : Nat.blt d n = true) (s x : Operand) (ho : op.op = .call { callee := .builtin .append, args := #[s, x], argTypes := #[t, t] }) (hcl : ap? P t e sz b = true)
    (row : Sl) (k : Nat) (hs : a.eval s = row.v) (hK : AllK enc sz e mark own base w (row :: rows) (k :: ms)) (ad : Addr) (c : Nat) (hx : a.eval x = .slice (some ad) 1 c) (hnews : At w ad (enc (mark k row.n))) (h63 : row.n + 1 ≤ maxLen) (hby : (row.n + 1) * b ≤ 140737488355328) (hb0 : w0.heap.size ≤ base) (hbs : base ≤ w.heap.size) (hT : farB e base H)
    (h : ∀ a' (row' : Sl) own' w', Fr n a' ((d, row'.v) :: L) → Mm w0 w' H → row'.n = row.n + 1 → AllK enc sz e mark own' base w' (row' :: row :: rows) (k :: k :: ms) → (∀ g, g < w.heap.size → own' g = own g) → Grows e base w w' → K a' w') : op.wp P a w K Q := by
  obtain ⟨ht, inf, z, hinf, hz, rfl, rfl, hzs⟩ := ap_split hcl
  have hsmall : row.n + 1 ≤ 9223372036854775807 := by simp only [maxLen] at h63; omega
  obtain ⟨hk0, hrow⟩ := hK.head
  have hnl := hsz (mark k row.n)
  -- a new block, with what was, the mark, and room
  have fresh : ∀ (olds : List Value) (cap : Nat) (zs : Array Value) (w' : World), olds.length = row.n * inf.size → (∀ j, j < row.n → ∀ (i : Nat) v, (enc (mark k j))[i]? = some v → olds[j * inf.size + i]? = some v) → Below w.heap.size w w' → w'.heap[w.heap.size]? = some (.cells (olds.toArray ++ (enc (mark k row.n)).toArray ++ zs) e (0, 0)) → (olds.toArray ++ (enc (mark k row.n)).toArray ++ zs).size = cap * inf.size → row.n + 1 ≤ cap → cap ≤ maxLen →
      AllK enc inf.size e mark (fun g => if g = w.heap.size then k else own g) base w' (⟨some ⟨w.heap.size, 0, none⟩, row.n + 1, cap⟩ :: row :: rows) (k :: k :: ms) := by
    intro olds cap zs w' hol hold hbl hblk hsize hcap hcm
    have hold' : AllK enc inf.size e mark (fun g => if g = w.heap.size then k else own g) base w' (row :: rows) (k :: ms) := hK.keep fun g cells _ _ hh => by
      have hlt := (Array.getElem?_eq_some_iff.1 hh).1
      exact ⟨hbl.block g hlt, if_neg (by omega)⟩
    refine AllK.cons (.inr ⟨w.heap.size, _, rfl, hbs, hblk, hsize, hcap, hcm, if_pos rfl, fun j hj i v hv => ?_⟩) hk0 hold'
    have hi := (List.getElem?_eq_some_iff.1 hv).1
    rw [hsz] at hi
    have hj : j < row.n + 1 := hj
    have hjm : j * inf.size + i < (row.n + 1) * inf.size := by
      have := Nat.mul_le_mul_right inf.size (show j + 1 ≤ row.n + 1 by omega)
      rw [Nat.add_mul, Nat.one_mul] at this
      omega
    rw [Nat.add_mul, Nat.one_mul] at hjm
    rw [Array.getElem?_append_left (by rw [Array.size_append, List.size_toArray, List.size_toArray, hol, hnl]; exact hjm)]
    by_cases hjn : j = row.n
    · subst hjn
      rw [Array.getElem?_append_right (by rw [List.size_toArray, hol]; omega), List.size_toArray, hol, List.getElem?_toArray, Nat.add_sub_cancel_left]
      exact hv
    · have h4 : j * inf.size + i < row.n * inf.size := by
        have := Nat.mul_le_mul_right inf.size (show j + 1 ≤ row.n by omega)
        rw [Nat.add_mul, Nat.one_mul] at this
        omega
      rw [Array.getElem?_append_left (by rw [List.size_toArray, hol]; exact h4), List.getElem?_toArray]
      exact hold j (by omega) i v hv
  rcases hrow with rfl | ⟨g, arr, e1, hbg, hh, has, hnc, hcm, hog, hmk⟩
  · have hr := run_append_nil (P := P) w t op.type e inf z ht hinf hz ad 1 c (enc (mark k 0)) (by rw [hsz, Nat.one_mul]) hnews (by decide) (by decide) (by have h2 := hby; simp only [Nat.zero_add] at h2; omega)
    unfold Oper.wp execOp
    simp only [ho, resolve, invoke, builtin, Sem.run_bind, Sem.run_pure, Result.andThen_ok, List.map_toArray, List.map_cons, List.map_nil, hs, hx, hr]
    have hge := grownCap_ge w 1 0 e
    have hcm' := grownCap_le_maxLen w 1 0 e h63
    have hbl : Below w.heap.size w (w.drew.alloc (.cells ((enc (mark k 0)).toArray ++ Builtin.zeroCells z.cells (grownCap w 1 0 e - 1)) e)) := (below_drew1 (Below.refl _ w)).alloc (Nat.le_refl _) _
    have hnew := blk_of_alloc w.drew ((enc (mark k 0)).toArray ++ Builtin.zeroCells z.cells (grownCap w 1 0 e - 1)) e
    have hf := fresh [] (grownCap w 1 0 e) (Builtin.zeroCells z.cells (grownCap w 1 0 e - 1)) _ (by simp) (fun j hj => absurd hj (Nat.not_lt_zero j)) hbl (by simpa using hnew) (by
      simp only [Array.size_append, List.size_toArray, List.length_nil, hsz, size_zeroCells, hzs, Nat.zero_add]
      have h2 : (1 + (grownCap w 1 0 e - 1)) * inf.size = grownCap w 1 0 e * inf.size := by congr 1; omega
      rw [Nat.add_mul, Nat.one_mul] at h2
      omega) (by simpa using hge) hcm'
    exact (by rw [hd]; exact h _ ⟨some ⟨w.heap.size, 0, none⟩, 0 + 1, grownCap w 1 0 e⟩ _ _ (F.put _ hlt) (M.below hbl) rfl hf (fun g hg => if_neg (by omega)) (grows_below hbl) : K (a.put op.dst _) _)
  · obtain ⟨A, q, cap⟩ := row
    have e1 : A = some ⟨g, 0, none⟩ := e1
    subst e1
    have has : arr.size = cap * inf.size := has
    have hnc : q ≤ cap := hnc
    have hcm : cap ≤ maxLen := hcm
    have hlt0 := (Array.getElem?_eq_some_iff.1 hh).1
    by_cases hroom : q + 1 ≤ cap
    · have hfit : q * inf.size + (enc (mark k q)).length ≤ arr.size := by
        rw [has, hsz]
        have := Nat.mul_le_mul_right inf.size hroom
        rw [Nat.add_mul, Nat.one_mul] at this
        exact this
      have hr := run_append_room (P := P) w t op.type e inf ht hinf g q cap arr hh ad 1 c (enc (mark k q)) (by rw [hsz, Nat.one_mul]) hnews (h1 _) hroom hfit
      unfold Oper.wp execOp
      simp only [ho, resolve, invoke, builtin, Sem.run_bind, Sem.run_pure, Result.andThen_ok, List.map_toArray, List.map_cons, List.map_nil, hs, hx, hr]
      have hgr := setRow_grown w g (arr.toList.take (q * inf.size) ++ enc (mark k q) ++ arr.toList.drop (q * inf.size + (enc (mark k q)).length)).toArray
      have hgs : Grows e base w (w.setRow g (arr.toList.take (q * inf.size) ++ enc (mark k q) ++ arr.toList.drop (q * inf.size + (enc (mark k q)).length)).toArray) := ⟨some g, hgr, fun g2 e2 => by injection e2 with e2; subst e2; exact ⟨hbg, arr, hh⟩⟩
      have hnew := setRow_heap w g arr (arr.toList.take (q * inf.size) ++ enc (mark k q) ++ arr.toList.drop (q * inf.size + (enc (mark k q)).length)).toArray e (0, 0) hh
      have hsize : ((arr.toList.take (q * inf.size) ++ enc (mark k q) ++ arr.toList.drop (q * inf.size + (enc (mark k q)).length)).toArray).size = cap * inf.size := by
        rw [← has]
        simp only [List.size_toArray, List.length_append, List.length_take, List.length_drop, Array.length_toList]
        omega
      have hget := fun p => put_get (arr := arr) (news := enc (mark k q)) (q := q * inf.size) (p := p) hfit
      generalize (arr.toList.take (q * inf.size) ++ enc (mark k q) ++ arr.toList.drop (q * inf.size + (enc (mark k q)).length)).toArray = arr2 at hgr hgs hnew hsize hget ⊢
      -- what stands at element j of that block
      have hel : ∀ j, (∀ (i : Nat) v, (enc (mark k j))[i]? = some v → arr[j * inf.size + i]? = some v) ∨ j = q → ∀ (i : Nat) v, (enc (mark k j))[i]? = some v → arr2[j * inf.size + i]? = some v := by
        intro j hj i v hv
        have hi := (List.getElem?_eq_some_iff.1 hv).1
        rw [hsz] at hi
        rw [hget, hsz]
        by_cases hjq : j = q
        · subst hjq
          rw [if_neg (by omega), if_pos (by omega), Nat.add_sub_cancel_left]
          exact hv
        · have h3 := (hj.resolve_right hjq) i v hv
          rcases Nat.lt_or_ge j q with hlt2 | hge2
          · have := Nat.mul_le_mul_right inf.size (show j + 1 ≤ q by omega)
            rw [Nat.add_mul, Nat.one_mul] at this
            rw [if_pos (by omega)]
            exact h3
          · have := Nat.mul_le_mul_right inf.size (show q + 1 ≤ j by omega)
            rw [Nat.add_mul, Nat.one_mul] at this
            rw [if_neg (by omega), if_neg (by omega)]
            exact h3
      have hall : AllK enc inf.size e mark own base (w.setRow g arr2) (⟨some ⟨g, 0, none⟩, q, cap⟩ :: rows) (k :: ms) := ⟨hK.1, fun i s k2 hs2 hk2 => by
        obtain ⟨hp, hkp⟩ := hK.2 i s k2 hs2 hk2
        refine ⟨hp, ?_⟩
        rcases hkp with h2 | ⟨g2, ar, f1, f2, f3, f4, f5, f6, f7, f8⟩
        · exact .inl h2
        · by_cases hgg : g2 = g
          · subst hgg
            rw [hh] at f3
            obtain rfl : arr = ar := by injection f3 with f3; injection f3
            obtain rfl : k2 = k := f7.symm.trans hog
            exact .inr ⟨g2, arr2, f1, f2, hnew, by rw [hsize, ← has, f4], f5, f6, f7, fun j hj => hel j (.inl (f8 j hj))⟩
          · exact .inr ⟨g2, ar, f1, f2, by rw [hgr.block g2 (Array.getElem?_eq_some_iff.1 f3).1 (fun e2 => hgg (Option.some.inj e2))]; exact f3, f4, f5, f6, f7, f8⟩⟩
      have hnewrow : Kept enc inf.size e mark own base (w.setRow g arr2) ⟨some ⟨g, 0, none⟩, q + 1, cap⟩ k := .inr ⟨g, arr2, rfl, hbg, hnew, hsize, hroom, hcm, hog, fun j hj => hel j (by
        have hj : j < q + 1 := hj
        rcases Nat.lt_or_ge j q with h2 | h2
        · exact .inl (hmk j h2)
        · exact .inr (by omega))⟩
      exact (by rw [hd]; exact h _ ⟨some ⟨g, 0, none⟩, q + 1, cap⟩ own _ (F.put _ hlt) (mm_grows M hb0 hT hgs) rfl (hall.cons hnewrow hk0) (fun _ _ => rfl) hgs : K (a.put op.dst _) _)
    · obtain rfl : q = cap := by omega
      have holds : ∀ j u, (arr.toList.take (q * inf.size))[j]? = some u → w.cell? ((⟨g, 0, none⟩ : Addr).add j) = some u := fun j u hu => by
        have hj := (List.getElem?_eq_some_iff.1 hu).1
        rw [List.length_take] at hj
        rw [List.getElem?_take_of_lt (by omega), Array.getElem?_toList] at hu
        rw [Addr.add_lit, Nat.zero_add]
        simp only [World.cell?, hh]
        simpa using hu
      have hol : (arr.toList.take (q * inf.size)).length = q * inf.size := by rw [List.length_take, Array.length_toList, has, Nat.min_self]
      have hr := run_append_grow (P := P) w t op.type e inf z ht hinf hz ⟨g, 0, none⟩ q q (arr.toList.take (q * inf.size)) hol holds ad 1 c (enc (mark k q)) (by rw [hsz, Nat.one_mul]) hnews (by omega) (by have : q + 1 ≤ 9223372036854775807 := hsmall; omega) (growslice_fits (by omega) hby)
      unfold Oper.wp execOp
      simp only [ho, resolve, invoke, builtin, Sem.run_bind, Sem.run_pure, Result.andThen_ok, List.map_toArray, List.map_cons, List.map_nil, hs, hx, hr]
      have hge := grownCap_ge w (q + 1) q e
      have hcm' := grownCap_le_maxLen w (q + 1) q e h63
      have hbl : Below w.heap.size w (w.drew.alloc (.cells ((arr.toList.take (q * inf.size)).toArray ++ (enc (mark k q)).toArray ++ Builtin.zeroCells z.cells (grownCap w (q + 1) q e - (q + 1))) e)) := (below_drew1 (Below.refl _ w)).alloc (Nat.le_refl _) _
      have hnew := blk_of_alloc w.drew ((arr.toList.take (q * inf.size)).toArray ++ (enc (mark k q)).toArray ++ Builtin.zeroCells z.cells (grownCap w (q + 1) q e - (q + 1))) e
      have hf := fresh (arr.toList.take (q * inf.size)) (grownCap w (q + 1) q e) (Builtin.zeroCells z.cells (grownCap w (q + 1) q e - (q + 1))) _ hol (fun j hj i v hv => by
        have hi := (List.getElem?_eq_some_iff.1 hv).1
        rw [hsz] at hi
        have := Nat.mul_le_mul_right inf.size (show j + 1 ≤ q from hj)
        rw [Nat.add_mul, Nat.one_mul] at this
        rw [List.getElem?_take_of_lt (by omega), Array.getElem?_toList]
        exact hmk j hj i v hv) hbl hnew (by
        simp only [Array.size_append, List.size_toArray, hol, hsz, size_zeroCells, hzs]
        have h2 : ((q + 1) + (grownCap w (q + 1) q e - (q + 1))) * inf.size = grownCap w (q + 1) q e * inf.size := by congr 1; omega
        rw [Nat.add_mul, Nat.add_mul, Nat.one_mul] at h2
        omega) hge hcm'
      exact (by rw [hd]; exact h _ ⟨some ⟨w.heap.size, 0, none⟩, q + 1, grownCap w (q + 1) q e⟩ _ _ (F.put _ hlt) (M.below hbl) rfl hf (fun g hg => if_neg (by omega)) (grows_below hbl) : K (a.put op.dst _) _)
end
/-! ### What a call leaves as it was -/
theorem gg_grown {w u v : World} {g : Nat} (h : w.grownBy u (some g)) (hg : u.grownBy v (some g)) : w.grownBy v (some g) := ⟨hg.os.trans h.os, hg.tape.trans h.tape, hg.output.trans h.output, Nat.le_trans h.size hg.size, fun k hk hne => (hg.block k (Nat.lt_of_lt_of_le hk h.size) hne).trans (h.block k hk hne)⟩
theorem gg_refl (w : World) (g : Nat) : w.grownBy w (some g) := ⟨rfl, rfl, rfl, Nat.le_refl _, fun _ _ _ => rfl⟩
theorem gg_same {w v : World} {g : Nat} {o : Obj} (h : w.grownBy v (some g)) (h1 : w.heap[g]? = some o) (h2 : v.heap[g]? = some o) : Below w.heap.size w v := ⟨h.os, h.tape, h.output, h.size, fun k hk => by
  by_cases e : k = g
  · subst e
    rw [h1, h2]
  · exact h.block k hk (fun e2 => e (Option.some.inj e2))⟩
def Only (base : Nat) (ts : List TypeId) (x : Option Nat) (w w' : World) : Prop :=
  w'.os = w.os ∧ w'.tape = w.tape ∧ w'.output = w.output ∧ w.heap.size ≤ w'.heap.size ∧ ∀ (g : Nat) (o : Obj), w.heap[g]? = some o → (g < base ∨ (x ≠ some g ∧ ∀ cells t, o = .cells cells t (0, 0) → t ∉ ts)) → w'.heap[g]? = some o
section
variable {base : Nat} {ts : List TypeId} {x : Option Nat} {w u v : World}
theorem Only.refl (w : World) : Only base ts x w w := ⟨rfl, rfl, rfl, Nat.le_refl _, fun _ _ h _ => h⟩
theorem Only.below (h : Only base ts x w u) (hb : Below u.heap.size u v) : Only base ts x w v := ⟨hb.os.trans h.1, hb.tape.trans h.2.1, hb.output.trans h.2.2.1, Nat.le_trans h.2.2.2.1 hb.size, fun g o hg hc => by
  have h1 := h.2.2.2.2 g o hg hc
  rw [hb.block g (Array.getElem?_eq_some_iff.1 h1).1]
  exact h1⟩
theorem Only.far (h : Only base ts x w u) {r : Option Nat} (hg : u.grownBy v r) (hr : ∀ g, r = some g → base ≤ g ∧ (x = some g ∨ ∃ cells t, u.heap[g]? = some (.cells cells t (0, 0)) ∧ t ∈ ts)) : Only base ts x w v := ⟨hg.os.trans h.1, hg.tape.trans h.2.1, hg.output.trans h.2.2.1, Nat.le_trans h.2.2.2.1 hg.size, fun g o ho hc => by
  have h1 := h.2.2.2.2 g o ho hc
  rw [hg.block g (Array.getElem?_eq_some_iff.1 h1).1 (fun e => ?_)]
  · exact h1
  · obtain ⟨h2, h3⟩ := hr g e.symm
    rcases hc with hc | ⟨hc, hc2⟩
    · omega
    · rcases h3 with h3 | ⟨cells, t, h3, h4⟩
      · exact hc h3
      · rw [h1] at h3
        exact hc2 cells t (Option.some.inj h3) h4⟩
theorem Only.grown (h : Only base ts x w u) {g t : Nat} {cells : Array Value} (hb : u.heap[g]? = some (.cells cells t (0, 0))) (hg0 : base ≤ g) (ht : t ∈ ts ∨ x = some g) (hg : u.grownBy v (some g)) : Only base ts x w v :=
  h.far hg fun g' e => by
    injection e with e
    subst e
    exact ⟨hg0, ht.elim (fun h => .inr ⟨cells, t, hb, h⟩) .inl⟩
theorem Only.ow {α : Type} {enc : α → List Value} {m : Nat} {hl : ∀ x, (enc x).length = m} {h1 : ∀ x, ∀ u ∈ enc x, u.oneCell' = true} {e1 b1 : Nat} {y : Value} {xs : List α} (h : Only base ts x w u) (hO : Ow (kBlk enc m hl h1) e1 u b1 y xs) (hb : base ≤ b1) (he : e1 ∈ ts) (hg : u.grownBy v y.ownBlock) : Only base ts x w v :=
  h.far hg fun g e => by
    obtain ⟨h2, _, cells, hc⟩ := hO.bound e
    exact ⟨by omega, .inr ⟨cells, e1, hc, he⟩⟩
theorem Only.bel (h : Only base ts x w u) (hs : base ≤ w.heap.size) : Below base w u := ⟨h.1, h.2.1, h.2.2.1, h.2.2.2.1, fun k hk => by
  obtain ⟨o, hq⟩ : ∃ o, w.heap[k]? = some o := ⟨_, Array.getElem?_eq_getElem (by omega)⟩
  rw [hq]
  exact h.2.2.2.2 k o hq (.inl hk)⟩
theorem Only.size (h : Only base ts x w u) : w.heap.size ≤ u.heap.size := h.2.2.2.1
theorem Only.blk (h : Only base ts x w u) {g t : Nat} {cells : Array Value} (hb : w.heap[g]? = some (.cells cells t (0, 0))) (ht : t ∉ ts) (hx : x ≠ some g) : u.heap[g]? = some (.cells cells t (0, 0)) := h.2.2.2.2 g _ hb (.inr ⟨hx, fun c2 t2 e => by
  injection e with _ e
  rw [← e]
  exact ht⟩)
theorem Ow_same {α : Type} {enc : α → List Value} {m : Nat} {hl : ∀ x, (enc x).length = m} {h1 : ∀ x, ∀ u ∈ enc x, u.oneCell' = true} {e b : Nat} {y : Value} {xs : List α} (h : Ow (kBlk enc m hl h1) e w b y xs) (hs : ∀ k cells, y.ownBlock = some k → w.heap[k]? = some (.cells cells e (0, 0)) → u.heap[k]? = w.heap[k]?) : Ow (kBlk enc m hl h1) e u b y xs := by
  obtain ⟨h0, inner, ⟨h1, h2⟩, hr⟩ := h
  refine ⟨h0, inner, ⟨h1, ?_⟩, hr⟩
  rcases h2 with h2 | ⟨g, cap, cur, hv, hg, hh, hrest⟩
  · exact .inl h2
  · exact .inr ⟨g, cap, cur, hv, hg, (hs g cur (by rw [hv]; rfl) hh).trans hh, hrest⟩
theorem Ow_only {α : Type} {enc : α → List Value} {m : Nat} {hl : ∀ x, (enc x).length = m} {h1 : ∀ x, ∀ u ∈ enc x, u.oneCell' = true} {e b : Nat} {y : Value} {xs : List α} (h : Ow (kBlk enc m hl h1) e w b y xs) (ho : Only base ts x w u) (he : e ∉ ts) (hx : ∀ k, y.ownBlock = some k → x ≠ some k) : Ow (kBlk enc m hl h1) e u b y xs :=
  Ow_same h fun k cells hk hh => (ho.blk hh he (hx k hk)).trans hh.symm
theorem AllK_only {α : Type} {enc : α → List Value} {sz e : Nat} {mark : Nat → Nat → α} {own : Nat → Nat} {b : Nat} {rows : List Sl} {ms : List Nat} (h : AllK enc sz e mark own b w rows ms) (ho : Only base ts x w u) (he : e ∉ ts) (hx : ∀ k, x = some k → own k = 0) : AllK enc sz e mark own b u rows ms :=
  h.keep fun g cells _ h0 hh => ⟨(ho.blk hh he (fun e2 => h0 (hx g e2))).trans hh.symm, rfl⟩
theorem mm_only {w0 : World} {H : List Blk} (M : Mm w0 w H) (ho : Only base ts x w u) (hb0 : w0.heap.size ≤ base) (hbs : base ≤ w.heap.size) (hT : ∀ (i : Nat) (b : Blk), H[i]? = some b → b.t ∉ ts ∧ x ≠ some b.g) : Mm w0 u H :=
  ⟨M.bel.trans ((ho.bel hbs).mono hb0), fun i b hb => ho.blk (M.blk i b hb) (hT i b hb).1 (hT i b hb).2, M.lo, M.nd⟩
theorem mm_end {w0 : World} {H : List Blk} (M : Mm w0 w H) (hb : Below w0.heap.size w u) : Mm w0 u [] := ⟨M.bel.trans hb, fun _ _ h => by simp at h, fun _ _ h => by simp at h, fun _ _ _ _ h => by simp at h⟩
end
/-! ### Blocks that were there -/
theorem cut_one {w : World} {base g t : Nat} {cs : Array Value} (hb : base ≤ g) (hh : w.heap[g]? = some (.cells cs t (0, 0))) : Mm (cutW w base) w [⟨g, cs, t⟩] := by
  have hg := (Array.getElem?_eq_some_iff.1 hh).1
  refine ⟨cut_below (by omega), fun i b hi => ?_, fun i b hi => ?_, fun i j b c hi hj _ => ?_⟩
  · match i, hi with
    | 0, hi => obtain rfl := Option.some.inj hi; exact hh
    | i + 1, hi => simp at hi
  · match i, hi with
    | 0, hi => obtain rfl := Option.some.inj hi; rw [cut_size (by omega)]; exact hb
    | i + 1, hi => simp at hi
  · have h1 := (List.getElem?_eq_some_iff.1 hi).1
    have h2 := (List.getElem?_eq_some_iff.1 hj).1
    simp at h1 h2
    omega
theorem mm_add {w0 w : World} {H : List Blk} {g t : Nat} {cs : Array Value} (M : Mm w0 w H) (hb : w0.heap.size ≤ g) (hh : w.heap[g]? = some (.cells cs t (0, 0))) (hne : ∀ (i : Nat) (b : Blk), H[i]? = some b → b.g ≠ g) : Mm w0 w (⟨g, cs, t⟩ :: H) := by
  refine ⟨M.bel, fun i b hi => ?_, fun i b hi => ?_, fun i j b c hi hj e => ?_⟩
  · cases i with
    | zero => obtain rfl := Option.some.inj hi; exact hh
    | succ i => exact M.blk i b (by simpa using hi)
  · cases i with
    | zero => obtain rfl := Option.some.inj hi; exact hb
    | succ i => exact M.lo i b (by simpa using hi)
  · cases i with
    | zero =>
      obtain rfl := Option.some.inj hi
      cases j with
      | zero => rfl
      | succ j => exact absurd e.symm (hne j c (by simpa using hj))
    | succ i =>
      cases j with
      | zero => obtain rfl := Option.some.inj hj
                exact absurd e (hne i b (by simpa using hi))
      | succ j => rw [M.nd i j b c (by simpa using hi) (by simpa using hj) e]
theorem cut_two {w : World} {base g t g2 t2 : Nat} {cs cs2 : Array Value} (hb : base ≤ g) (hh : w.heap[g]? = some (.cells cs t (0, 0))) (hb2 : base ≤ g2) (hh2 : w.heap[g2]? = some (.cells cs2 t2 (0, 0))) (hne : g2 ≠ g) : Mm (cutW w base) w [⟨g, cs, t⟩, ⟨g2, cs2, t2⟩] :=
  mm_add (cut_one hb2 hh2) (by rw [cut_size (by have := (Array.getElem?_eq_some_iff.1 hh).1; omega)]; exact hb) hh (fun i b hi => by
    match i, hi with
    | 0, hi => obtain rfl := Option.some.inj hi; exact hne
    | i + 1, hi => simp at hi)
section
variable {α : Type} {enc : α → List Value} {sz e : Nat} {mark : Nat → Nat → α} {own : Nat → Nat} {base : Nat} {w : World} {rows : List Sl} {ms : List Nat}
theorem AllK.drop2 {r r2 : Sl} {m m2 : Nat} (h : AllK enc sz e mark own base w (r :: r2 :: rows) (m :: m2 :: ms)) : AllK enc sz e mark own base w (r :: rows) (m :: ms) := AllK.cons h.head.2 h.head.1 h.tail.tail
theorem grows_ow {hl : ∀ x, (enc x).length = sz} {h1 : ∀ x, ∀ u ∈ enc x, u.oneCell' = true} {b : Nat} {v : Value} {xs : List α} {u : World} (hO : Ow (kBlk enc sz hl h1) e w b v xs) (hg : w.grownBy u v.ownBlock) : Grows e b w u := ⟨v.ownBlock, hg, fun g hg2 => by
  obtain ⟨h2, _, cells, hc⟩ := hO.bound hg2
  exact ⟨h2, cells, hc⟩⟩
theorem marks_put (hsz : ∀ x, (enc x).length = sz) {ar : Array Value} {c i k : Nat} (har : ar.size = c * sz) (hi : i < c) (hmk : ∀ (j : Nat), j < i → ∀ (q : Nat) v, (enc (mark k j))[q]? = some v → ar[j * sz + q]? = some v) :
    ((ar.toList.take (i * sz) ++ enc (mark k i) ++ ar.toList.drop (i * sz + (enc (mark k i)).length)).toArray).size = c * sz ∧ ∀ (j : Nat), j < i + 1 → ∀ (q : Nat) v, (enc (mark k j))[q]? = some v → ((ar.toList.take (i * sz) ++ enc (mark k i) ++ ar.toList.drop (i * sz + (enc (mark k i)).length)).toArray)[j * sz + q]? = some v := by
  have h2 := Nat.mul_le_mul_right sz (show i + 1 ≤ c from hi)
  rw [Nat.add_mul, Nat.one_mul] at h2
  have hfit : i * sz + (enc (mark k i)).length ≤ ar.size := by rw [har, hsz]; exact h2
  refine ⟨?_, fun j hj q v hv => ?_⟩
  · rw [← har]
    simp only [List.size_toArray, List.length_append, List.length_take, List.length_drop, Array.length_toList]
    omega
  · have hq := (List.getElem?_eq_some_iff.1 hv).1
    rw [hsz] at hq
    rw [put_get hfit, hsz]
    by_cases hji : j = i
    · subst hji
      rw [if_neg (by omega), if_pos (by omega), Nat.add_sub_cancel_left]
      exact hv
    · have h3 := Nat.mul_le_mul_right sz (show j + 1 ≤ i by omega)
      rw [Nat.add_mul, Nat.one_mul] at h3
      rw [if_pos (by omega)]
      exact hmk j (by omega) q v hv
end
theorem Only.fresh {base : Nat} {ts : List TypeId} {x : Option Nat} {w u v : World} {g : Nat} (h : Only base ts x w u) (hlo : w.heap.size ≤ g) (hg : u.grownBy v (some g)) : Only base ts x w v := ⟨hg.os.trans h.1, hg.tape.trans h.2.1, hg.output.trans h.2.2.1, Nat.le_trans h.2.2.2.1 hg.size, fun k o ho hc => by
  have hk := (Array.getElem?_eq_some_iff.1 ho).1
  have h1 := h.2.2.2.2 k o ho hc
  rw [hg.block k (Array.getElem?_eq_some_iff.1 h1).1 (fun e => by have := Option.some.inj e; omega)]
  exact h1⟩
end Go.Proofs.YtnjbjjmoglogeaaGreat.BK
