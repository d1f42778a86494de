/- What RevokeExact carries along: the book, the seat, the list that there is; loans of lists; Over, Seat.Revokeds, step, due, asks: their walks. Conditions: those of each lemma. -/
import Derived.Test.YtnjbjjmoglogeaaGreatRH
import Derived.Test.YtnjbjjmoglogeaaGreatS2
namespace Go.Proofs.YtnjbjjmoglogeaaGreat
open Go.RowKit Go.Proofs.YtnjbjjmoglogeaaGreatW.PrintWords KB WG RO BK
set_option linter.unusedVariables false
set_option linter.unusedSimpArgs false
set_option linter.unnecessarySimpa false
def seC (kv : Value) : List Value := [.slice none 0 0, .slice none 0 0, .slice none 0 0, .slice none 0 0, .slice none 0 0, .slice none 0 0, kv, .slice none 0 0, .slice none 0 0, .slice none 0 0, .slice none 0 0, .slice none 0 0, .slice none 0 0, .slice none 0 0]
theorem Ow_cut0 {w : World} {b n c : Nat} {A : Option Addr} {xs : List Rv} (h : Ow kRv 85 w b (.slice A n c) xs) : Ow kRv 85 w b (.slice A 0 c) [] := by
  rcases own_form (enc := Rv.cs) (sz := 19) (hl := Rv.cs_len) (h1 := Rv.cs_one) h with ⟨rfl, rfl, rfl⟩ | ⟨g, arr, rfl, hg, hh, hs, hnc, hcm⟩
  · exact Ow.nil kRv 85 w b
  · have e : arr = (([] : List Rv).flatMap Rv.cs ++ arr.toList).toArray := by simp
    rw [e] at hh
    exact Ow.of_block (enc := Rv.cs) (m := 19) (hl := Rv.cs_len) (h1 := Rv.cs_one) hh hg rfl (Nat.zero_le _) hcm (by simpa using hs)
theorem Ow_cutn {w : World} {b n c k : Nat} {A : Option Addr} {xs : List Rv} (h : Ow kRv 85 w b (.slice A n c) xs) (hk : k ≤ xs.length) : Ow kRv 85 w b (.slice A (xs.take k).length c) (xs.take k) := by
  by_cases h0 : xs.length = 0
  · have : xs = [] := List.length_eq_zero_iff.1 h0
    subst this
    rw [List.take_nil]
    have h2 := (Ow.rd (k := kRv) h).2.1
    subst h2
    exact h
  · obtain ⟨g, sp, rfl, rfl, hg, hh, hl, hnc, hcm⟩ := Ow.open (enc := Rv.cs) (m := 19) (hl := Rv.cs_len) (h1 := Rv.cs_one) h (by decide) (by omega)
    have e : xs.flatMap Rv.cs ++ sp = (xs.take k).flatMap Rv.cs ++ ((xs.drop k).flatMap Rv.cs ++ sp) := by rw [← List.append_assoc, ← List.flatMap_append, List.take_append_drop]
    rw [e] at hh hl
    exact Ow.of_block (enc := Rv.cs) (m := 19) (hl := Rv.cs_len) (h1 := Rv.cs_one) hh hg rfl (by rw [List.length_take]; omega) hcm hl
theorem Bk.far {own : Nat → Nat} {base gb : Nat} {KA : Option Addr} {Kc : Nat} {rows : List Sl} {IA : Option Addr} {Ic : Nat} {ms : List Nat} {kA tn dn us : Nat} {w u : World} (B : Bk own base gb KA Kc rows IA Ic ms kA tn dn us w) {r : Option Nat} (hg : w.grownBy u r) (hr : ∀ g, r = some g → ∃ cells t, w.heap[g]? = some (.cells cells t (0, 0)) ∧ t ≠ 50 ∧ t ≠ 57 ∧ t ≠ 3 ∧ (t ≠ 85 ∨ own g = 0)) : Bk own base gb KA Kc rows IA Ic ms kA tn dn us u := by
  have hne : ∀ (k t2 : Nat) (c2 : Array Value), w.heap[k]? = some (.cells c2 t2 (0, 0)) → (t2 = 50 ∨ t2 = 57 ∨ t2 = 3) → some k ≠ r := fun k t2 c2 h2 h3 e => by
    obtain ⟨cells, t, h4, h5, h6, h7, _⟩ := hr k e.symm
    rw [h2] at h4
    injection h4 with h4
    injection h4 with _ h4
    subst h4
    rcases h3 with h3 | h3 | h3
    · exact h5 h3
    · exact h6 h3
    · exact h7 h3
  refine ⟨(hg.block gb (Array.getElem?_eq_some_iff.1 B.blk).1 (hne _ _ _ B.blk (.inl rfl))).trans B.blk, B.lo, B.ks.far hg (fun k hk => ?_), B.is.far hg (fun k hk => ?_), B.all.far hg (fun g e => ?_), B.bd⟩
  · obtain ⟨_, _, cells, hc⟩ := Ow.bound (enc := Sl.cs) (m := 1) (hl := Sl.cs_len) (h1 := Sl.cs_one) B.ks hk
    exact hne _ _ _ hc (.inr (.inl rfl))
  · obtain ⟨_, _, cells, hc⟩ := Ow.bound (enc := nc) (m := 1) (hl := nc_len) (h1 := nc_one) B.is hk
    exact hne _ _ _ hc (.inr (.inr rfl))
  · obtain ⟨cells, t, h4, _, _, _, h5⟩ := hr g e
    rcases h5 with h5 | h5
    · refine .inr fun c2 h6 => ?_
      rw [h4] at h6
      injection h6 with h6
      injection h6 with _ h6
      exact h5 h6
    · exact .inl h5
/-- The book, the seat, the ring that there is. -/
structure Sb (own : Nat → Nat) (base lim gb gs tn : Nat) (A : Option Addr) (c : Nat) (ks : List Rv) (w : World) : Prop where
  bk : ∃ KA Kc rows IA Ic ms us, Bk own base gb KA Kc rows IA Ic ms 0 tn 0 us w
  seat : ∃ (SA : Option Addr) (Sc : Nat) (sks : List Rv), w.heap[gs]? = some (.cells (seC (.slice SA sks.length Sc)).toArray 66 (0, 0)) ∧ Ow kRv 85 w base (.slice SA sks.length Sc) sks ∧ ∀ k, (Value.slice SA sks.length Sc).ownBlock = some k → own k = 0 ∧ k < lim ∧ (Value.slice A ks.length c).ownBlock ≠ some k
  ring : Ow kRv 85 w base (.slice A ks.length c) ks ∧ ∀ k, (Value.slice A ks.length c).ownBlock = some k → own k = 0 ∧ k < lim
  fresh : ∀ k, lim ≤ k → own k = 0
  lo : base ≤ gs
  lim : base ≤ lim ∧ lim ≤ w.heap.size
section
variable {own : Nat → Nat} {base lim gb gs tn : Nat} {A : Option Addr} {c : Nat} {ks : List Rv} {w u : World}
theorem Sb.rd (S : Sb own base lim gb gs tn A c ks w) : kRv.C w A ks.length ks := (Ow.rd (k := kRv) S.ring.1).1
theorem Sb.rc (S : Sb own base lim gb gs tn A c ks w) : ks.length ≤ c := (Ow.rd (k := kRv) S.ring.1).2.2
theorem Sb.below (S : Sb own base lim gb gs tn A c ks w) (hb : Below w.heap.size w u) : Sb own base lim gb gs tn A c ks u where
  bk := by obtain ⟨KA, Kc, rows, IA, Ic, ms, us, B⟩ := S.bk; exact ⟨KA, Kc, rows, IA, Ic, ms, us, B.below hb⟩
  seat := by
    obtain ⟨SA, Sc, sks, h1, h2, h3⟩ := S.seat
    exact ⟨SA, Sc, sks, (hb.block gs (Array.getElem?_eq_some_iff.1 h1).1).trans h1, h2.below hb, h3⟩
  ring := ⟨S.ring.1.below hb, S.ring.2⟩
  fresh := S.fresh
  lo := S.lo
  lim := ⟨S.lim.1, Nat.le_trans S.lim.2 hb.size⟩
theorem Sb.far (S : Sb own base lim gb gs tn A c ks w) {r : Option Nat} (hg : w.grownBy u r) (hr : ∀ g, r = some g → ∃ cells t, w.heap[g]? = some (.cells cells t (0, 0)) ∧ t ≠ 50 ∧ t ≠ 57 ∧ t ≠ 3 ∧ t ≠ 66 ∧ (t ≠ 85 ∨ lim ≤ g)) : Sb own base lim gb gs tn A c ks u where
  bk := by
    obtain ⟨KA, Kc, rows, IA, Ic, ms, us, B⟩ := S.bk
    exact ⟨KA, Kc, rows, IA, Ic, ms, us, B.far hg (fun g e => by
      obtain ⟨cells, t, h1, h2, h3, h4, _, h5⟩ := hr g e
      exact ⟨cells, t, h1, h2, h3, h4, h5.imp id (S.fresh g)⟩)⟩
  seat := by
    obtain ⟨SA, Sc, sks, h1, h2, h3⟩ := S.seat
    refine ⟨SA, Sc, sks, (hg.block gs (Array.getElem?_eq_some_iff.1 h1).1 (fun e => ?_)).trans h1, h2.far hg (fun k hk e => ?_), h3⟩
    · obtain ⟨cells, t, h4, _, _, _, h5, _⟩ := hr gs e.symm
      rw [h1] at h4
      injection h4 with h4
      injection h4 with _ h4
      exact h5 h4.symm
    · obtain ⟨cells, t, h4, _, _, _, _, h5⟩ := hr k e.symm
      obtain ⟨_, _, c2, hc2⟩ := Ow.bound (enc := Rv.cs) (m := 19) (hl := Rv.cs_len) (h1 := Rv.cs_one) h2 hk
      rw [hc2] at h4
      injection h4 with h4
      injection h4 with _ h4
      have h6 := (h3 k hk).2.1
      rcases h5 with h5 | h5
      · exact h5 h4.symm
      · omega
  ring := by
    refine ⟨S.ring.1.far hg (fun k hk e => ?_), S.ring.2⟩
    obtain ⟨cells, t, h4, _, _, _, _, h5⟩ := hr k e.symm
    obtain ⟨_, _, c2, hc2⟩ := Ow.bound (enc := Rv.cs) (m := 19) (hl := Rv.cs_len) (h1 := Rv.cs_one) S.ring.1 hk
    rw [hc2] at h4
    injection h4 with h4
    injection h4 with _ h4
    have h6 := (S.ring.2 k hk).2
    rcases h5 with h5 | h5
    · exact h5 h4.symm
    · omega
  fresh := S.fresh
  lo := S.lo
  lim := ⟨S.lim.1, Nat.le_trans S.lim.2 hg.size⟩
theorem Sb.grown (S : Sb own base lim gb gs tn A c ks w) {g t : Nat} {cells : Array Value} (hb : w.heap[g]? = some (.cells cells t (0, 0))) (ht : t ≠ 50 ∧ t ≠ 57 ∧ t ≠ 3 ∧ t ≠ 66 ∧ t ≠ 85) (hg : w.grownBy u (some g)) : Sb own base lim gb gs tn A c ks u :=
  S.far hg fun g2 e => by
    injection e with e
    subst e
    exact ⟨cells, t, hb, ht.1, ht.2.1, ht.2.2.1, ht.2.2.2.1, .inl ht.2.2.2.2⟩
theorem Sb.over (S : Sb own base lim gb gs tn A c ks w) {g b : Nat} {cells : Array Value} (hb : w.heap[g]? = some (.cells cells 85 (0, 0))) (hlb : lim ≤ b) (hbg : b ≤ g) (hg : w.grownBy u (some g)) : Sb own base lim gb gs tn A c ks u :=
  S.far hg fun g2 e => by
    injection e with e
    subst e
    exact ⟨cells, 85, hb, by decide, by decide, by decide, by decide, .inr (by omega)⟩
theorem Sb.up (S : Sb own base lim gb gs tn A c ks w) {lim' : Nat} (h : lim ≤ lim') (h2 : lim' ≤ w.heap.size) : Sb own base lim' gb gs tn A c ks w where
  bk := S.bk
  seat := by
    obtain ⟨SA, Sc, sks, h1, h2, h3⟩ := S.seat
    exact ⟨SA, Sc, sks, h1, h2, fun k hk => ⟨(h3 k hk).1, by have := (h3 k hk).2.1; omega, (h3 k hk).2.2⟩⟩
  ring := ⟨S.ring.1, fun k hk => ⟨(S.ring.2 k hk).1, by have := (S.ring.2 k hk).2; omega⟩⟩
  fresh := fun k hk => S.fresh k (by omega)
  lo := S.lo
  lim := ⟨by have := S.lim.1; omega, h2⟩
/-- Another ring: a row that was made later. -/
theorem Sb.setr (S : Sb own base lim gb gs tn A c ks w) {lim0 lim' : Nat} {B : Option Addr} {b : Nat} {ls : List Rv} (hO : Ow kRv 85 w lim0 (.slice B ls.length b) ls) (h0 : base ≤ lim0) (hf : ∀ k, (Value.slice B ls.length b).ownBlock = some k → own k = 0 ∧ k < lim') (hlow : lim ≤ lim0) (h1 : lim ≤ lim') (h2 : lim' ≤ w.heap.size) : Sb own base lim' gb gs tn B b ls w where
  bk := S.bk
  seat := by
    obtain ⟨SA, Sc, sks, g1, g2, g3⟩ := S.seat
    exact ⟨SA, Sc, sks, g1, g2, fun k hk => ⟨(g3 k hk).1, by have := (g3 k hk).2.1; omega, fun e => by
      have h3 := (g3 k hk).2.1
      have h4 := (Ow.bound (enc := Rv.cs) (m := 19) (hl := Rv.cs_len) (h1 := Rv.cs_one) hO e).1
      omega⟩⟩
  ring := ⟨Ow.low (enc := Rv.cs) (m := 19) (hl := Rv.cs_len) (h1 := Rv.cs_one) hO h0, hf⟩
  fresh := fun k hk => S.fresh k (by omega)
  lo := S.lo
  lim := ⟨by have := S.lim.1; omega, h2⟩
/-- A row of one's own goes into the book. -/
theorem take_st (S : Sb own base lim gb gs tn A c ks w) (bg : Nat) (hbg : lim ≤ bg) (GA : Option Addr) (gc : Nat) (gks : List Rv) (hO : Ow kRv 85 w bg (.slice GA gks.length gc) gks) (lim' : Nat) (hlt : ∀ k, (Value.slice GA gks.length gc).ownBlock = some k → k < lim') (hl1 : lim ≤ lim') (hl2 : lim' ≤ w.heap.size) (hn : gks.length ≤ 1000000) (htn : tn ≤ 10000000) :
    Calls Tryz.prog 12 #[.pointer (some ⟨gb, 0, none⟩), .slice GA gks.length gc] w fun e w' => e = .returned (.tuple #[]) ∧ ∃ own', Sb own' base lim' gb gs (tn + 1) A c ks w' ∧ (∀ k, (Value.slice GA gks.length gc).ownBlock ≠ some k → own' k = own k) ∧ Only base [50, 57, 3] (Value.slice GA gks.length gc).ownBlock w w' := by
  obtain ⟨KA, Kc, rows, IA, Ic, ms, us, B⟩ := S.bk
  have hform := own_form (enc := Rv.cs) (sz := 19) (hl := Rv.cs_len) (h1 := Rv.cs_one) hO
  -- what stands behind the call
  have fin : ∀ {own' : Nat → Nat} {w' : World}, (∃ KA' Kc' rows' IA' Ic' ms' us', Bk own' base gb KA' Kc' rows' IA' Ic' ms' 0 (tn + 1) 0 us' w') → (∀ k, (Value.slice GA gks.length gc).ownBlock ≠ some k → own' k = own k) → Only base [50, 57, 3] (Value.slice GA gks.length gc).ownBlock w w' → Sb own' base lim' gb gs (tn + 1) A c ks w' := by
    intro own' w' hB hown ho
    have hne : ∀ k, k < lim → (Value.slice GA gks.length gc).ownBlock ≠ some k := fun k hk e => by
      have := (Ow.bound (enc := Rv.cs) (m := 19) (hl := Rv.cs_len) (h1 := Rv.cs_one) hO e).1
      omega
    refine ⟨hB, ?_, ?_, fun k hk => ?_, S.lo, ⟨by have := S.lim.1; omega, Nat.le_trans hl2 ho.size⟩⟩
    · obtain ⟨SA, Sc, sks, g1, g2, g3⟩ := S.seat
      refine ⟨SA, Sc, sks, ho.blk g1 (by decide) (fun e => ?_), Ow_only g2 ho (by decide) (fun k hk => hne k (g3 k hk).2.1), fun k hk => ⟨?_, by have := (g3 k hk).2.1; omega, (g3 k hk).2.2⟩⟩
      · obtain ⟨_, _, c2, h2⟩ := Ow.bound (enc := Rv.cs) (m := 19) (hl := Rv.cs_len) (h1 := Rv.cs_one) hO e
        rw [g1] at h2
        injection h2 with h2
        injection h2 with _ h2
        exact absurd h2 (by decide)
      · rw [hown k (hne k (g3 k hk).2.1)]
        exact (g3 k hk).1
    · refine ⟨Ow_only S.ring.1 ho (by decide) (fun k hk => hne k (S.ring.2 k hk).2), fun k hk => ⟨?_, by have := (S.ring.2 k hk).2; omega⟩⟩
      rw [hown k (hne k (S.ring.2 k hk).2)]
      exact (S.ring.2 k hk).1
    · rw [hown k (fun e => by have := hlt k e; omega)]
      exact S.fresh k (by omega)
  rcases hform with ⟨rfl, h0, rfl⟩ | ⟨gl, arr, rfl, hgl, hh, has, hnc, hcm⟩
  · rw [h0] at fin ⊢
    exact (take_nil own base gb KA Kc rows IA Ic ms 0 tn 0 us w B htn).mono fun e w' ⟨he, ⟨KA', Kc', rows', IA', Ic', ms', us', own', B', hown, ho⟩⟩ => ⟨he, own', fin ⟨KA', Kc', rows', IA', Ic', ms', us', B'⟩ hown ho, hown, ho⟩
  · exact (take_row own base gb KA Kc rows IA Ic ms 0 tn 0 us w B gl gks.length gc arr (by have := S.lim.1; omega) hh has hnc hcm hn (S.fresh gl (by omega)) (fun e => by
      have h3 := B.blk
      rw [← e, hh] at h3
      injection h3 with h3
      injection h3 with _ h3
      exact absurd h3 (by decide)) htn).mono fun e w' ⟨he, ⟨KA', Kc', rows', IA', Ic', ms', us', own', B', hown, ho⟩⟩ => ⟨he, own', fin ⟨KA', Kc', rows', IA', Ic', ms', us', B'⟩ hown ho, hown, ho⟩
end
section
variable {P : Program} {op : Oper} {a : Act} {w w0 : World} {n : Nat} {L : List (Nat × Value)} {H : List Blk} {K : Act → World → Prop} {Q : Exit → Act → World → Prop}
/-- append to a row of one's own: in its block, or in a new one. -/
theorem og_appB {α : Type} {enc : α → List Value} {m : Nat} {hl : ∀ x, (enc x).length = m} {h1 : ∀ x, ∀ u ∈ enc x, u.oneCell' = true} (F : Fr n a L) (M : Mm w0 w H) {base e t b : Nat} {z : Value} (hu : P.underlying t = some (.slice e)) (hz : (P.info? e).map (fun i => (i.zero, i.size, i.bytes)) = some (some z, m, b)) (hzs : z.cells.size = m) (hm : 0 < m) (hb : 0 < b)
    (hb0 : w0.heap.size ≤ base) (hbs : base ≤ w.heap.size) (hT : farB e base H) {d : Nat} (hd : op.dst = some d) (hlt : Nat.blt d n = true) (hgd : op.guard = none) (s x : Operand) (ho : op.op = .call { callee := .builtin .append, args := #[s, x], argTypes := #[t, t] })
    (v : Value) (xs ys zs : List α) (hzz : xs ++ ys = zs) (A : Option Addr) (q c : Nat) (hs : a.eval s = v) (hx : a.eval x = .slice A q c) (HO : Ow (kBlk enc m hl h1) e w base v xs) (HR : (kBlk enc m hl h1).C w A q ys) (hl2 : (xs.length + q) * b ≤ 140737488355328)
    (h : ∀ a' A1 c1 w', Fr n a' ((d, .slice A1 zs.length c1) :: L) → Mm w0 w' H → Ow (kBlk enc m hl h1) e w' base (.slice A1 zs.length c1) zs → w.grownBy w' v.ownBlock → ((Value.slice A1 zs.length c1).ownBlock = v.ownBlock ∨ ∃ b, (Value.slice A1 zs.length c1).ownBlock = some b ∧ w.heap.size ≤ b) → K a' w') : op.wp P a w K Q := by
  subst hzz
  have hw : Region.wanted op (yielded (#[] : Array Oper) a.tmps) = true := wn hgd
  have key := Kd.R_append_rows_step (P := P) (o := op) (a := a) (ops := #[]) (Q := Q) (Kc := K) (kBlk enc m hl h1) (w0 := w) (W := w) base hw s x t e z b ho hu hz hzs hm hb _ xs ys A q c (fun _ => True) (fun _ => False) hs hx HO HR (fun _ _ h => h) (fun _ h => h.elim) (fun _ _ => trivial) ((Below.refl _ w).mono hbs) hbs hl2 ?_
  · rwa [if_pos hw] at key
  · intro v1 w1 hO1 _ hg hnb
    obtain ⟨A1, c1, rfl⟩ := Kd.R_slice hO1
    rw [hd]
    exact h _ A1 c1 w1 (F.put _ hlt) (mm_grownO M HO hb0 hT hg) hO1 hg hnb
end
/-- The seat behind an append: its row, and whose it is. -/
theorem seat_new {own : Nat → Nat} {lim : Nat} {rv : Value} {SA A1 : Option Addr} {Sn Sc n c1 : Nat} {w w' : World} (h3 : ∀ k, (Value.slice SA Sn Sc).ownBlock = some k → own k = 0 ∧ k < lim ∧ rv.ownBlock ≠ some k) (hnb : (Value.slice A1 n c1).ownBlock = (Value.slice SA 0 Sc).ownBlock ∨ ∃ b, (Value.slice A1 n c1).ownBlock = some b ∧ w.heap.size ≤ b) (hsz : lim ≤ w.heap.size) (hfr : ∀ k, lim ≤ k → own k = 0) (hrv : ∀ k, rv.ownBlock = some k → k < lim) (hlt : ∀ k, (Value.slice A1 n c1).ownBlock = some k → k < w'.heap.size) :
    ∀ k, (Value.slice A1 n c1).ownBlock = some k → own k = 0 ∧ k < w'.heap.size ∧ rv.ownBlock ≠ some k := fun k hk => by
  have he : (Value.slice SA Sn Sc).ownBlock = (Value.slice SA 0 Sc).ownBlock := by cases SA <;> rfl
  rcases hnb with h | ⟨b, hb, hge⟩
  · obtain ⟨g1, _, g2⟩ := h3 k (by rw [he, ← h]; exact hk)
    exact ⟨g1, hlt k hk, g2⟩
  · rw [hb] at hk
    obtain rfl := Option.some.inj hk
    exact ⟨hfr _ (by omega), hlt _ (by rw [hb]), fun e => by have := hrv _ e; omega⟩
def NewSeat (own : Nat → Nat) (rv sv : Value) (w : World) : Prop := ∀ k, sv.ownBlock = some k → own k = 0 ∧ k < w.heap.size ∧ rv.ownBlock ≠ some k
theorem NewSeat.size {own : Nat → Nat} {rv sv : Value} {w u : World} (h : NewSeat own rv sv w) (hs : w.heap.size ≤ u.heap.size) : NewSeat own rv sv u := fun k hk => ⟨(h k hk).1, Nat.lt_of_lt_of_le (h k hk).2.1 hs, (h k hk).2.2⟩
def mkK : Rv := ⟨false, 777, zBs 16, -777⟩
def mkO : Rv := ⟨false, 778, zBs 16, -778⟩
def marks : List Rv := List.replicate 9 mkK
theorem marks_len (ks : List Rv) : (ks ++ marks).length = ks.length + 9 := by simp [marks]
theorem C_take {w : World} {A : Option Addr} {n m : Nat} {ks ms : List Rv} (h : kRv.C w A m (ks ++ ms)) (hn : ks.length = n) : kRv.C w A n ks := by
  subst hn
  obtain ⟨h1, h2, h3⟩ := h
  rw [List.length_append] at h1
  refine ⟨rfl, by omega, fun h0 => ?_⟩
  obtain ⟨ad, e, hc⟩ := h3 (by omega)
  exact ⟨ad, e, fun k x hx => hc k x (by rw [List.getElem?_append_left (List.getElem?_eq_some_iff.1 hx).1]; exact hx)⟩
theorem ow_make {P : Program} {a : Act} {w w0 : World} {n : Nat} {L : List (Nat × Value)} {H : List Blk} {op : Oper} {K : Act → World → Prop} {Q : Exit → Act → World → Prop} (F : Fr n a L) (M : Mm w0 w H) (hP : P = Tryz.prog) {d : Nat} (hd : op.dst = some d) (hlt : Nat.blt d n = true) (x y : Operand) (ho : op.op = .makeSlice 57 x y) (hx : a.eval x = .int .i64 0) (m : Int) (hy : a.eval y = .int .i64 m) (c : Nat) (hm : m = (c : Int)) (hc : c ≤ 2000000) (bs : Nat) (hbs : bs ≤ w.heap.size)
    (h : ∀ a' g w', Fr n a' ((d, .slice (some ⟨g, 0, none⟩) 0 c) :: L) → Mm w0 w' H → Ow kRv 85 w' bs (.slice (some ⟨g, 0, none⟩) 0 c) [] → Below w.heap.size w w' → K a' w') : op.wp P a w K Q := by
  subst hm hP
  obtain ⟨i0, hi, hzz⟩ := Option.map_eq_some_iff.1 i85
  simp only [Prod.mk.injEq] at hzz
  obtain ⟨hz0, hz1, hz2⟩ := hzz
  obtain ⟨w', hr, hown, hg⟩ := run_make_own (P := Tryz.prog) w bs 57 85 i0 (.agg zRv.arr) 19 Tryz.underlying57 hi hz0 hz1 .i64 .i64 c (by rw [hz2]; omega) (by simp only [maxLen]; omega) hbs
  have hb : Below w.heap.size w w' := (Below.refl _ w).grown hg (Nat.le_refl _) (fun k hk => by cases hk)
  unfold Oper.wp execOp
  simp only [ho, hx, hy, Sem.run_bind, hr, Result.andThen_ok, Sem.run_pure]
  exact (by rw [hd]; exact h _ _ w' (F.put _ hlt) (M.below hb) ⟨fun _ _ => trivial, [], hown, Reps.none _ _⟩ hb : K (a.put op.dst _) w')
theorem mark_at {ks : List Rv} {k : Nat} (h : ks.length ≤ k) (h2 : k < ks.length + 9) : (ks ++ marks)[k]? = some mkK := by
  rw [List.getElem?_append_right h]
  unfold marks
  rw [List.getElem?_replicate, if_pos (by omega)]
theorem put_size {ax : Array Value} {k : Rv} {c i : Nat} (h : ax.size = c * 19) (hi : i < c) : ((ax.toList.take (i * 19) ++ Rv.cs k ++ ax.toList.drop (i * 19 + (Rv.cs k).length)).toArray).size = c * 19 := by
  rw [← h]
  have h2 := Rv.cs_len k
  simp only [List.size_toArray, List.length_append, List.length_take, List.length_drop, Array.length_toList]
  omega
theorem due_1 {xs : List Rv} {act g e : Int} {id : Bs 16} (h : act = 1) : dueF xs act g id e = addN xs g id e := by unfold dueF; rw [if_pos h]
theorem due_2 {xs : List Rv} {act g e : Int} {id : Bs 16} (h1 : ¬ act = 1) (h : act = 2) : dueF xs act g id e = killN xs g e := by unfold dueF; rw [if_neg h1, if_pos h]
theorem due_3 {xs : List Rv} {act g e : Int} {id : Bs 16} (h1 : ¬ act = 1) (h2 : ¬ act = 2) : dueF xs act g id e = pruneN xs e := by unfold dueF; rw [if_neg h1, if_neg h2]
theorem lent_le {w : World} {bx n xc : Nat} {XA : Option Addr} {ks : List Rv} (h : Ow kRv 85 w bx (.slice XA n xc) (ks ++ marks)) : ks.length ≤ xc := by
  have h2 := (Ow.rd (k := kRv) h).2.2
  rw [marks_len] at h2
  omega
theorem lent_rd {w : World} {bx n xc : Nat} {XA : Option Addr} {ks : List Rv} (h : Ow kRv 85 w bx (.slice XA n xc) (ks ++ marks)) : kRv.C w XA ks.length ks := C_take (Ow.rd (k := kRv) h).1 rfl
theorem Ow_ap {w u : World} {b g : Nat} {v : Value} {xs : List Rv} (h : Ow kRv 85 w b v xs) (hb : g < b) (hg : w.grownBy u (some g)) : Ow kRv 85 u b v xs := h.far hg fun k hk e => by
  have := (Ow.bound (enc := Rv.cs) (m := 19) (hl := Rv.cs_len) (h1 := Rv.cs_one) h hk).1
  injection e with e
  omega
theorem Ow_lt {w : World} {b k : Nat} {v : Value} {xs : List Rv} (h : Ow kRv 85 w b v xs) (hk : v.ownBlock = some k) : b ≤ k ∧ k < w.heap.size := by
  have := Ow.bound (enc := Rv.cs) (m := 19) (hl := Rv.cs_len) (h1 := Rv.cs_one) h hk
  exact ⟨this.1, this.2.1⟩
theorem Ow_cells {w : World} {b k : Nat} {v : Value} {xs : List Rv} (h : Ow kRv 85 w b v xs) (hk : v.ownBlock = some k) : ∃ cells, w.heap[k]? = some (.cells cells 85 (0, 0)) := (Ow.bound (enc := Rv.cs) (m := 19) (hl := Rv.cs_len) (h1 := Rv.cs_one) h hk).2.2
theorem s3_sl_57_19 : sl? Tryz.prog 57 19 = true := by kernel_rfl
set_option maxHeartbeats 1000000 in
set_option maxRecDepth 100000 in
theorem lend_any (ks : List Rv) (A : Option Addr) (c : Nat) (w : World) (hr : kRv.C w A ks.length ks) (hc : ks.length ≤ c) (hl : ks.length ≤ 900000) :
    Calls Tryz.prog 7 #[.slice A ks.length c] w fun e w' => ∃ A' c', e = .returned (.slice A' ks.length c') ∧ Ow kRv 85 w' w.heap.size (.slice A' (ks ++ marks).length c') (ks ++ marks) ∧ Below w.heap.size w w' := by
 refine calls_start Tryz.func7 rfl rfl rfl (fun a F => ?_)
 have M : Mm w w [] := Mm.nil w
 refine wp_seq ?_
 refine wp_region_lit ?_
 refine list_val F (wn rfl) rfl rfl (.slice none 0 0) (ex_assign _ rfl _ rfl) ?_; clear F a; intro a F
 refine wpList_nil ?_
 refine then_n ?_
 refine wp_seq ?_
 obtain ⟨bs, hbs⟩ : ∃ bs, bs = w.heap.size := ⟨_, rfl⟩
 have hw0 : w.heap.size ≤ bs := by omega
 have SB : bs ≤ w.heap.size := by rw [hbs]; exact M.bel.size
 refine wp_region_lit ?_
 refine list_val F (wn rfl) rfl rfl (.slice A ks.length c) (ex_move _ rfl _ (F.e rfl)) ?_; clear F a; intro a F
 refine list_val F (wn rfl) rfl rfl (.int .i64 ((ks.length : Nat) : Int)) (ex_len _ _ rfl 19 s3_sl_57_19 _ _ _ (F.e rfl)) ?_; clear F a; intro a F
 refine list_val F (wn rfl) rfl rfl (.int .i64 ((ks.length + 9 : Nat) : Int)) (ex_bin .add _ _ _ _ rfl .i64 _ _ (F.e rfl) rfl _ (b_add ((w_i64 (by omega) (by omega)).trans (by omega)))) ?_; clear F a; intro a F
 refine list_do (wn rfl) (fun K hK => ?_)
 refine ow_make F M rfl rfl rfl _ _ rfl rfl _ (F.e rfl) (ks.length + 9) (by omega) (by omega) bs SB ?_
 clear F M a; intro a g8 v F M O_x hb
 refine hK _ _ ?_
 clear hK K
 replace SB := Nat.le_trans SB hb.size; clear hb; try clear w
 refine list_val F (wn rfl) rfl rfl (.slice (some ⟨g8, 0, none⟩) 0 (ks.length + 9)) (ex_assign _ rfl _ (F.e rfl)) ?_; clear F a; intro a F
 refine wpList_nil ?_
 refine then_n ?_
 refine wp_seq ?_
 refine wp_region_lit ?_
 refine list_val F (wn rfl) rfl rfl (.slice (some ⟨g8, 0, none⟩) 0 (ks.length + 9)) (ex_move _ rfl _ (F.e rfl)) ?_; clear F a; intro a F
 refine list_val F (wn rfl) rfl rfl (.slice A ks.length c) (ex_move _ rfl _ (F.e rfl)) ?_; clear F a; intro a F
 refine list_do (wn rfl) (fun K hK => ?_)
 replace M : Mm w v [] := (by refine M.pick' [] _ ?_ (by decide); exact trivial)
 refine og_app F M Tryz.underlying57 i85 z85s (by decide) (by decide) hw0 SB trivial rfl rfl rfl _ _ rfl (.slice (some ⟨g8, 0, none⟩) 0 (ks.length + 9)) ([]) ks ([] ++ ks) rfl A ks.length c (F.e rfl) (F.e rfl) O_x ((Kd.C_below hr M.bel)) (by simp; omega) ?_
 clear F a; have Mo := M; clear M; intro a A_11 c_11 u F M Oz hgr
 refine hK _ _ ?_
 clear hK K
 replace SB := Nat.le_trans SB hgr.size
 clear O_x Mo hgr; have O_x := Oz; clear Oz; try clear v
 refine list_val F (wn rfl) rfl rfl (.slice A_11 (([] ++ ks).length) c_11) (ex_assign _ rfl _ (F.e rfl)) ?_; clear F a; intro a F
 refine wpList_nil ?_
 refine then_n ?_
 refine wp_seq ?_
 refine wp_seq ?_
 refine wp_region_lit ?_
 refine list_val F (wn rfl) rfl rfl (.int .i64 0) (ex_assign _ rfl _ rfl) ?_; clear F a; intro a F
 refine wpList_nil ?_
 refine then_n ?_
 refine wp_block ?_
 rw [show [] ++ ks = ks ++ List.replicate 0 mkK by simp] at F O_x
 refine wp_loopN (fun mq ar wr => ∃ (i : Nat), ∃ (B : Option Addr), ∃ (b : Nat), Fr 24 ar [(0, .slice A ks.length c), (2, .slice none 0 0), (3, .slice B ((ks ++ List.replicate i mkK).length) b), (4, .int .i64 ((i : Nat) : Int))] ∧ Mm w wr [] ∧ bs ≤ wr.heap.size ∧ Ow kRv 85 wr bs (.slice B (ks ++ List.replicate i mkK).length b) (ks ++ List.replicate i mkK) ∧ i ≤ 9 ∧ mq + i = 9) 9 ?_ ?_
 ·
  exact ⟨0, A_11, c_11, F.keep ⟨rfl, rfl, rfl, rfl, trivial⟩, M, SB, O_x, (Nat.zero_le _), (by omega)⟩
 clear F M a SB O_x
 rintro mq a v ⟨i, B, b, F, M, SB, O_x, hi, hq⟩; try clear u
 by_cases hin : i < 9
 ·
  have hst : ks ++ List.replicate (i + 1) mkK = ks ++ List.replicate i mkK ++ [mkK] := by rw [List.replicate_succ', List.append_assoc]
  refine wp_seq ?_
  refine wp_seq ?_
  refine wp_region_lit ?_
  refine list_val F (wn rfl) rfl rfl (.int .i64 ((i : Nat) : Int)) (ex_move _ rfl _ (F.e rfl)) ?_; clear F a; intro a F
  refine list_val F (wn rfl) rfl rfl (.bool true) (ex_bin .lss _ _ _ _ rfl .i64 _ _ (F.e rfl) rfl _ (b_lss (decide_eq_true (by omega)))) ?_; clear F a; intro a F
  refine wpList_nil ?_
  refine then_n ?_
  refine wp_cond_true (F.e rfl) ?_
  refine wp_skip ?_
  refine then_n ?_
  refine wp_seq ?_
  refine wp_block ?_
  refine wp_region_lit ?_
  refine list_val F (wn rfl) rfl rfl (.slice B ((ks ++ List.replicate i mkK).length) b) (ex_move _ rfl _ (F.e rfl)) ?_; clear F a; intro a F
  refine list_val F (wn rfl) rfl rfl (.agg ((⟨false, 777, (zBs 16), -777⟩ : Rv).arr)) (ex_build 85 _ rfl #[(1, .int .u64 777), (3, .int .i64 (-777))] (parts2 rfl rfl) (.agg ((⟨false, 777, (zBs 16), -777⟩ : Rv).arr)) (build85_13 777 (-777) _)) ?_; clear F a; intro a F
  refine list_do (wn rfl) (fun K hK => ?_)
  refine ow_bslice F M rfl rfl 57 1 _ rfl #[(0, .agg ((⟨false, 777, (zBs 16), -777⟩ : Rv).arr))] (parts1 (F.e rfl)) ((⟨false, 777, (zBs 16), -777⟩ : Rv).arr) 85 (newrow85 (⟨false, 777, (zBs 16), -777⟩ : Rv) _) ?_
  clear F M a; intro a g18 u F M hb hg
  refine hK _ _ ?_
  clear hK K
  replace SB := Nat.le_trans SB hb.size
  replace O_x := O_x.below hb
  clear hb hg; try clear v
  refine list_do (wn rfl) (fun K hK => ?_)
  have hxx := C_one (enc := Rv.cs) (hl := Rv.cs_len) (h1 := Rv.cs_one) (M.at (i := 0) rfl)
  replace M : Mm w u [] := (by refine M.pick' [] _ ?_ (by decide); exact trivial)
  refine og_app F M Tryz.underlying57 i85 z85s (by decide) (by decide) hw0 SB trivial rfl rfl rfl _ _ rfl (.slice B ((ks ++ List.replicate i mkK).length) b) (ks ++ List.replicate i mkK) ([mkK]) ((ks ++ List.replicate i mkK) ++ [mkK]) rfl (some ⟨g18, 0, none⟩) 1 1 (F.e rfl) (F.e rfl) O_x (hxx) (by simp; omega) ?_
  clear F a; have Mo := M; clear M; intro a A_19 c_19 v F M Oz hgr
  refine hK _ _ ?_
  clear hK K
  replace SB := Nat.le_trans SB hgr.size
  clear O_x Mo hgr; have O_x := Oz; clear Oz; try clear u
  clear hxx
  refine list_val F (wn rfl) rfl rfl (.slice A_19 (((ks ++ List.replicate i mkK) ++ [mkK]).length) c_19) (ex_assign _ rfl _ (F.e rfl)) ?_; clear F a; intro a F
  refine wpList_nil ?_
  refine in_n ?_
  refine then_n ?_
  refine wp_region_lit ?_
  refine list_val F (wn rfl) rfl rfl (.int .i64 ((i : Nat) : Int)) (ex_move _ rfl _ (F.e rfl)) ?_; clear F a; intro a F
  refine list_val F (wn rfl) rfl rfl (.int .i64 ((i + 1 : Nat) : Int)) (ex_bin .add _ _ _ _ rfl .i64 _ _ (F.e rfl) rfl _ (b_add ((w_i64 (by omega) (by omega)).trans (by omega)))) ?_; clear F a; intro a F
  refine list_val F (wn rfl) rfl rfl (.int .i64 ((i + 1 : Nat) : Int)) (ex_assign _ rfl _ (F.e rfl)) ?_; clear F a; intro a F
  refine wpList_nil ?_
  refine then_n ?_
  rw [← hst] at F O_x
  exact ⟨9 - (i + 1), by omega, (i + 1), A_19, c_19, F.keep ⟨rfl, rfl, rfl, rfl, trivial⟩, (by refine M.pick' [] _ ?_ (by decide); exact trivial), SB, O_x, (by omega), (by omega)⟩
 obtain rfl : i = 9 := by omega
 rw [show List.replicate 9 mkK = marks from rfl] at F O_x
 refine wp_seq ?_
 refine wp_seq ?_
 refine wp_region_lit ?_
 refine list_val F (wn rfl) rfl rfl (.int .i64 ((9 : Nat) : Int)) (ex_move _ rfl _ (F.e rfl)) ?_; clear F a; intro a F
 refine list_val F (wn rfl) rfl rfl (.bool false) (ex_bin .lss _ _ _ _ rfl .i64 _ _ (F.e rfl) rfl _ (b_lss (decide_eq_false (by omega)))) ?_; clear F a; intro a F
 refine wpList_nil ?_
 refine then_n ?_
 refine wp_cond_false (F.e rfl) ?_
 refine wp_exit ?_
 refine then_x ?_
 refine then_x ?_
 refine in_hit ?_
 refine then_n ?_
 refine wp_seq ?_
 refine wp_region_lit ?_
 refine list_val F (wn rfl) rfl rfl (.slice B ((ks ++ marks).length) b) (ex_move _ rfl _ (F.e rfl)) ?_; clear F a; intro a F
 refine list_val F (wn rfl) rfl rfl (.slice A ks.length c) (ex_move _ rfl _ (F.e rfl)) ?_; clear F a; intro a F
 refine list_val F (wn rfl) rfl rfl (.int .i64 ((ks.length : Nat) : Int)) (ex_len _ _ rfl 19 s3_sl_57_19 _ _ _ (F.e rfl)) ?_; clear F a; intro a F
 refine list_val F (wn rfl) rfl rfl (.slice B ks.length b) (ex_cutto 57 85 19 Tryz.underlying57 s85 _ _ rfl B ((ks ++ marks).length) b (F.e rfl) _ (F.e rfl) ks.length (by omega) (by have := (Ow.rd O_x).2.2; rw [marks_len] at this; omega)) ?_; clear F a; intro a F
 refine list_val F (wn rfl) rfl rfl (.slice B ks.length b) (ex_assign _ rfl _ (F.e rfl)) ?_; clear F a; intro a F
 refine wpList_nil ?_
 refine then_n ?_
 refine wp_ret ?_
 exact ret_tmp F rfl rfl ⟨B, b, rfl, O_x.low hw0, M.bel⟩
theorem s3_follows_mixedOrders : Tryz.prog.follows .mixedOrders = true := by kernel_rfl
set_option maxHeartbeats 1000000 in
set_option maxRecDepth 100000 in
theorem back_any (ks : List Rv) (B : Option Addr) (b : Nat) (A : Option Addr) (c : Nat) (w : World) (hx0 : kRv.C w B (ks ++ marks).length (ks ++ marks)) (hxc : (ks ++ marks).length ≤ b) (hr : kRv.C w A ks.length ks) (hc : ks.length ≤ c) (hl : ks.length ≤ 900000) :
    Calls Tryz.prog 10 #[.slice B ks.length b, .slice A ks.length c] w fun e w' => e = .returned (.bool true) ∧ Below w.heap.size w w' := by
 refine calls_start Tryz.func10 rfl rfl rfl (fun a F => ?_)
 have M : Mm w w [] := Mm.nil w
 refine wp_seq ?_
 refine wp_region_lit ?_
 refine list_val F (wn rfl) rfl rfl (.bool false) (ex_assign _ rfl _ rfl) ?_; clear F a; intro a F
 refine wpList_nil ?_
 refine then_n ?_
 refine wp_seq ?_
 refine wp_seq ?_
 refine wp_region_lit ?_
 refine list_val F (wn rfl) rfl rfl (.slice B ks.length b) (ex_move _ rfl _ (F.e rfl)) ?_; clear F a; intro a F
 refine list_val F (wn rfl) rfl rfl (.int .i64 ((ks.length : Nat) : Int)) (ex_len _ _ rfl 19 s3_sl_57_19 _ _ _ (F.e rfl)) ?_; clear F a; intro a F
 refine list_val F (wn rfl) rfl rfl (.slice A ks.length c) (ex_move _ rfl _ (F.e rfl)) ?_; clear F a; intro a F
 refine list_val F (wn rfl) rfl rfl (.int .i64 ((ks.length : Nat) : Int)) (ex_len _ _ rfl 19 s3_sl_57_19 _ _ _ (F.e rfl)) ?_; clear F a; intro a F
 refine list_val F (wn rfl) rfl rfl (.bool false) (ex_bin .neq _ _ _ _ rfl .i64 _ _ (F.e rfl) (F.e rfl) _ (b_neq (by simp))) ?_; clear F a; intro a F
 refine wpList_nil ?_
 refine then_n ?_
 refine wp_cond_false (F.e rfl) ?_
 refine wp_skip ?_
 refine then_n ?_
 refine wp_seq ?_
 refine wp_seq ?_
 refine wp_region_lit ?_
 refine list_val F (wn rfl) rfl rfl (.int .i64 0) (ex_assign _ rfl _ rfl) ?_; clear F a; intro a F
 refine wpList_nil ?_
 refine then_n ?_
 refine wp_block ?_
 refine wp_loopN (fun mq ar wr => ∃ (i : Nat), Fr 47 ar [(0, .slice B ks.length b), (1, .slice A ks.length c), (4, .bool false), (5, .int .i64 ((i : Nat) : Int)), (12, .bool false)] ∧ Mm w wr [] ∧ i ≤ ks.length ∧ mq + i = ks.length) ks.length ?_ ?_
 ·
  exact ⟨0, F.keep ⟨rfl, rfl, rfl, rfl, rfl, trivial⟩, M, (Nat.zero_le _), (by omega)⟩
 clear F M a
 rintro mq a v ⟨i, F, M, hi, hq⟩; try clear w
 by_cases hin : i < ks.length
 ·
  obtain ⟨x, hx⟩ : ∃ x, ks[i]? = some x := ⟨_, List.getElem?_eq_getElem (by omega)⟩
  obtain ⟨ad, hA, z⟩ := C_ix hr hx
  obtain ⟨adb, hB2, zb⟩ := C_ix hx0 (i := i) (x := x) (by rw [List.getElem?_append_left hin]; exact hx)
  subst hA hB2
  refine wp_seq ?_
  refine wp_seq ?_
  refine wp_region_lit ?_
  refine list_val F (wn rfl) rfl rfl (.int .i64 ((i : Nat) : Int)) (ex_move _ rfl _ (F.e rfl)) ?_; clear F a; intro a F
  refine list_val F (wn rfl) rfl rfl (.slice (some ad) ks.length c) (ex_move _ rfl _ (F.e rfl)) ?_; clear F a; intro a F
  refine list_val F (wn rfl) rfl rfl (.int .i64 ((ks.length : Nat) : Int)) (ex_len _ _ rfl 19 s3_sl_57_19 _ _ _ (F.e rfl)) ?_; clear F a; intro a F
  refine list_val F (wn rfl) rfl rfl (.bool true) (ex_bin .lss _ _ _ _ rfl .i64 _ _ (F.e rfl) (F.e rfl) _ (b_lss (decide_eq_true (by omega)))) ?_; clear F a; intro a F
  refine wpList_nil ?_
  refine then_n ?_
  refine wp_cond_true (F.e rfl) ?_
  refine wp_skip ?_
  refine then_n ?_
  refine wp_seq ?_
  refine wp_block ?_
  refine wp_seq ?_
  refine region_tail 8 s3_follows_mixedOrders (by kernel_rfl) M ?_; clear M; intro u M hb
  clear hb; try clear v
  refine still_val F (wn rfl) rfl rfl (.slice (some adb) ks.length b) (ex_move _ rfl _ (F.e rfl)) ?_; clear F a; intro a F
  refine still_val F (wn rfl) rfl rfl (.int .i64 ((i : Nat) : Int)) (ex_move _ rfl _ (F.e rfl)) ?_; clear F a; intro a F
  refine still_val F (wn rfl) rfl rfl (.pointer (some (adb.add (i * 19)))) (ex_ix _ _ _ rfl 19 s3_sl_57_19 adb _ _ (F.e rfl) .i64 _ (F.e rfl) i rfl (by omega) (adb.add (i * 19)) rfl) ?_; clear F a; intro a F
  refine still_val F (wn rfl) rfl rfl (.agg x.arr) (ex_load _ _ rfl _ (F.e rfl) _ (lrow85 x ((zb.below M.bel)))) ?_; clear F a; intro a F
  refine still_val F (wn rfl) rfl rfl (.slice (some ad) ks.length c) (ex_move _ rfl _ (F.e rfl)) ?_; clear F a; intro a F
  refine still_val F (wn rfl) rfl rfl (.int .i64 ((i : Nat) : Int)) (ex_move _ rfl _ (F.e rfl)) ?_; clear F a; intro a F
  refine still_val F (wn rfl) rfl rfl (.pointer (some (ad.add (i * 19)))) (ex_ix _ _ _ rfl 19 s3_sl_57_19 ad _ _ (F.e rfl) .i64 _ (F.e rfl) i rfl (by omega) (ad.add (i * 19)) rfl) ?_; clear F a; intro a F
  refine still_val F (wn rfl) rfl rfl (.agg x.arr) (ex_load _ _ rfl _ (F.e rfl) _ (lrow85 x ((z.below M.bel)))) ?_; clear F a; intro a F
  refine still_end ?_
  refine list_val F (wn rfl) rfl rfl (.bool false) (ex_ne85 _ _ _ rfl x x (F.e rfl) (F.e rfl) false (by simp)) ?_; clear F a; intro a F
  refine wpList_nil ?_
  refine then_n ?_
  refine wp_cond_false (F.e rfl) ?_
  refine wp_skip ?_
  refine in_n ?_
  refine then_n ?_
  refine wp_region_lit ?_
  refine list_val F (wn rfl) rfl rfl (.int .i64 ((i : Nat) : Int)) (ex_move _ rfl _ (F.e rfl)) ?_; clear F a; intro a F
  refine list_val F (wn rfl) rfl rfl (.int .i64 ((i + 1 : Nat) : Int)) (ex_bin .add _ _ _ _ rfl .i64 _ _ (F.e rfl) rfl _ (b_add ((w_i64 (by omega) (by omega)).trans (by omega)))) ?_; clear F a; intro a F
  refine list_val F (wn rfl) rfl rfl (.int .i64 ((i + 1 : Nat) : Int)) (ex_assign _ rfl _ (F.e rfl)) ?_; clear F a; intro a F
  refine wpList_nil ?_
  refine then_n ?_
  exact ⟨ks.length - (i + 1), by omega, (i + 1), F.keep ⟨rfl, rfl, rfl, rfl, rfl, trivial⟩, (by refine M.pick' [] _ ?_ (by decide); exact trivial), (by omega), (by omega)⟩
 obtain rfl : i = ks.length := by omega
 refine wp_seq ?_
 refine wp_seq ?_
 refine wp_region_lit ?_
 refine list_val F (wn rfl) rfl rfl (.int .i64 ((ks.length : Nat) : Int)) (ex_move _ rfl _ (F.e rfl)) ?_; clear F a; intro a F
 refine list_val F (wn rfl) rfl rfl (.slice A ks.length c) (ex_move _ rfl _ (F.e rfl)) ?_; clear F a; intro a F
 refine list_val F (wn rfl) rfl rfl (.int .i64 ((ks.length : Nat) : Int)) (ex_len _ _ rfl 19 s3_sl_57_19 _ _ _ (F.e rfl)) ?_; clear F a; intro a F
 refine list_val F (wn rfl) rfl rfl (.bool false) (ex_bin .lss _ _ _ _ rfl .i64 _ _ (F.e rfl) (F.e rfl) _ (b_lss (decide_eq_false (by omega)))) ?_; clear F a; intro a F
 refine wpList_nil ?_
 refine then_n ?_
 refine wp_cond_false (F.e rfl) ?_
 refine wp_exit ?_
 refine then_x ?_
 refine then_x ?_
 refine in_hit ?_
 refine then_n ?_
 refine wp_seq ?_
 refine wp_region_lit ?_
 refine list_val F (wn rfl) rfl rfl (.slice B ks.length b) (ex_move _ rfl _ (F.e rfl)) ?_; clear F a; intro a F
 refine list_val F (wn rfl) rfl rfl (.slice A ks.length c) (ex_move _ rfl _ (F.e rfl)) ?_; clear F a; intro a F
 refine list_val F (wn rfl) rfl rfl (.int .i64 ((ks.length : Nat) : Int)) (ex_len _ _ rfl 19 s3_sl_57_19 _ _ _ (F.e rfl)) ?_; clear F a; intro a F
 refine list_val F (wn rfl) rfl rfl (.int .i64 ((ks.length + 9 : Nat) : Int)) (ex_bin .add _ _ _ _ rfl .i64 _ _ (F.e rfl) rfl _ (b_add ((w_i64 (by omega) (by omega)).trans (by omega)))) ?_; clear F a; intro a F
 refine list_val F (wn rfl) rfl rfl (.slice B (ks.length + 9) b) (ex_cutto 57 85 19 Tryz.underlying57 s85 _ _ rfl B ks.length b (F.e rfl) _ (F.e rfl) (ks.length + 9) (by omega) (by rw [marks_len] at hxc; exact hxc)) ?_; clear F a; intro a F
 refine list_val F (wn rfl) rfl rfl (.slice B (ks.length + 9) b) (ex_assign _ rfl _ (F.e rfl)) ?_; clear F a; intro a F
 refine wpList_nil ?_
 refine then_n ?_
 refine wp_seq ?_
 refine wp_seq ?_
 refine wp_region_lit ?_
 refine list_val F (wn rfl) rfl rfl (.slice A ks.length c) (ex_move _ rfl _ (F.e rfl)) ?_; clear F a; intro a F
 refine list_val F (wn rfl) rfl rfl (.int .i64 ((ks.length : Nat) : Int)) (ex_len _ _ rfl 19 s3_sl_57_19 _ _ _ (F.e rfl)) ?_; clear F a; intro a F
 refine list_val F (wn rfl) rfl rfl (.int .i64 ((ks.length : Nat) : Int)) (ex_assign _ rfl _ (F.e rfl)) ?_; clear F a; intro a F
 refine wpList_nil ?_
 refine then_n ?_
 refine wp_block ?_
 refine wp_loopN (fun mq ar wr => ∃ (k : Nat), Fr 47 ar [(0, .slice B ks.length b), (1, .slice A ks.length c), (4, .bool false), (5, .int .i64 ((ks.length : Nat) : Int)), (6, .slice B (ks.length + 9) b), (7, .int .i64 ((k : Nat) : Int)), (12, .bool false), (16, .bool false)] ∧ Mm w wr [] ∧ ks.length ≤ k ∧ k ≤ ks.length + 9 ∧ mq + (k - ks.length) = 9) 9 ?_ ?_
 ·
  exact ⟨ks.length, F.keep ⟨rfl, rfl, rfl, rfl, rfl, rfl, rfl, rfl, trivial⟩, M, (Nat.le_refl _), (by omega), (by omega)⟩
 clear F M a
 rintro mq a u ⟨k, F, M, hk0, hk1, hq⟩; try clear v
 by_cases hkn : k < ks.length + 9
 ·
  obtain ⟨adb, hB2, zb⟩ := C_ix hx0 (i := k) (x := mkK) (mark_at hk0 hkn)
  subst hB2
  refine wp_seq ?_
  refine wp_seq ?_
  refine wp_region_lit ?_
  refine list_val F (wn rfl) rfl rfl (.int .i64 ((k : Nat) : Int)) (ex_move _ rfl _ (F.e rfl)) ?_; clear F a; intro a F
  refine list_val F (wn rfl) rfl rfl (.slice (some adb) (ks.length + 9) b) (ex_move _ rfl _ (F.e rfl)) ?_; clear F a; intro a F
  refine list_val F (wn rfl) rfl rfl (.int .i64 (((ks.length + 9) : Nat) : Int)) (ex_len _ _ rfl 19 s3_sl_57_19 _ _ _ (F.e rfl)) ?_; clear F a; intro a F
  refine list_val F (wn rfl) rfl rfl (.bool true) (ex_bin .lss _ _ _ _ rfl .i64 _ _ (F.e rfl) (F.e rfl) _ (b_lss (decide_eq_true (by omega)))) ?_; clear F a; intro a F
  refine wpList_nil ?_
  refine then_n ?_
  refine wp_cond_true (F.e rfl) ?_
  refine wp_skip ?_
  refine then_n ?_
  refine wp_seq ?_
  refine wp_block ?_
  refine wp_seq ?_
  refine wp_region_lit ?_
  refine list_val F (wn rfl) rfl rfl (.slice (some adb) (ks.length + 9) b) (ex_move _ rfl _ (F.e rfl)) ?_; clear F a; intro a F
  refine list_val F (wn rfl) rfl rfl (.int .i64 ((k : Nat) : Int)) (ex_move _ rfl _ (F.e rfl)) ?_; clear F a; intro a F
  refine list_val F (wn rfl) rfl rfl (.pointer (some (adb.add (k * 19)))) (ex_ix _ _ _ rfl 19 s3_sl_57_19 adb _ _ (F.e rfl) .i64 _ (F.e rfl) k rfl (by omega) (adb.add (k * 19)) rfl) ?_; clear F a; intro a F
  refine list_val F (wn rfl) rfl rfl (.agg mkK.arr) (ex_load _ _ rfl _ (F.e rfl) _ (lrow85 mkK ((zb.below M.bel)))) ?_; clear F a; intro a F
  refine list_val F (wn rfl) rfl rfl (.agg mkK.arr) (ex_build 85 _ rfl #[(1, .int .u64 777), (3, .int .i64 (-777))] (parts2 rfl rfl) (.agg mkK.arr) (build85_13 777 (-777) _)) ?_; clear F a; intro a F
  refine list_val F (wn rfl) rfl rfl (.bool false) (ex_ne85 _ _ _ rfl mkK mkK (F.e rfl) (F.e rfl) false (by simp)) ?_; clear F a; intro a F
  refine wpList_nil ?_
  refine then_n ?_
  refine wp_cond_false (F.e rfl) ?_
  refine wp_skip ?_
  refine in_n ?_
  refine then_n ?_
  refine wp_region_lit ?_
  refine list_val F (wn rfl) rfl rfl (.int .i64 ((k : Nat) : Int)) (ex_move _ rfl _ (F.e rfl)) ?_; clear F a; intro a F
  refine list_val F (wn rfl) rfl rfl (.int .i64 ((k + 1 : Nat) : Int)) (ex_bin .add _ _ _ _ rfl .i64 _ _ (F.e rfl) rfl _ (b_add ((w_i64 (by omega) (by omega)).trans (by omega)))) ?_; clear F a; intro a F
  refine list_val F (wn rfl) rfl rfl (.int .i64 ((k + 1 : Nat) : Int)) (ex_assign _ rfl _ (F.e rfl)) ?_; clear F a; intro a F
  refine wpList_nil ?_
  refine then_n ?_
  exact ⟨9 - ((k - ks.length) + 1), by omega, (k + 1), F.keep ⟨rfl, rfl, rfl, rfl, rfl, rfl, rfl, rfl, trivial⟩, (by refine M.pick' [] _ ?_ (by decide); exact trivial), (by omega), (by omega), (by omega)⟩
 refine wp_seq ?_
 refine wp_seq ?_
 refine wp_region_lit ?_
 refine list_val F (wn rfl) rfl rfl (.int .i64 ((k : Nat) : Int)) (ex_move _ rfl _ (F.e rfl)) ?_; clear F a; intro a F
 refine list_val F (wn rfl) rfl rfl (.slice B (ks.length + 9) b) (ex_move _ rfl _ (F.e rfl)) ?_; clear F a; intro a F
 refine list_val F (wn rfl) rfl rfl (.int .i64 (((ks.length + 9) : Nat) : Int)) (ex_len _ _ rfl 19 s3_sl_57_19 _ _ _ (F.e rfl)) ?_; clear F a; intro a F
 refine list_val F (wn rfl) rfl rfl (.bool false) (ex_bin .lss _ _ _ _ rfl .i64 _ _ (F.e rfl) (F.e rfl) _ (b_lss (decide_eq_false (by omega)))) ?_; clear F a; intro a F
 refine wpList_nil ?_
 refine then_n ?_
 refine wp_cond_false (F.e rfl) ?_
 refine wp_exit ?_
 refine then_x ?_
 refine then_x ?_
 refine in_hit ?_
 refine then_n ?_
 refine wp_seq ?_
 refine wp_region_lit ?_
 refine list_val F (wn rfl) rfl rfl (.bool true) (ex_assign _ rfl _ rfl) ?_; clear F a; intro a F
 refine wpList_nil ?_
 refine then_n ?_
 refine wp_ret ?_
 exact ret_tmp F rfl rfl ⟨rfl, M.bel⟩
set_option maxHeartbeats 1000000 in
set_option maxRecDepth 100000 in
theorem over_any (gl n c : Nat) (arr : Array Value) (w : World) (hh : w.heap[gl]? = some (.cells arr 85 (0, 0))) (has : arr.size = c * 19) (hnc : n ≤ c) (hcm : c ≤ maxLen) (hn : n ≤ 1000000) :
    Calls Tryz.prog 11 #[.slice (some ⟨gl, 0, none⟩) n c] w fun e w' => e = .returned (.tuple #[]) ∧ w.grownBy w' (some gl) := by
 have G_ := gg_refl w gl
 refine calls_start Tryz.func11 rfl rfl rfl (fun a F => ?_)
 have M : Mm (cutW w gl) w [⟨gl, arr, 85⟩] := cut_one (Nat.le_refl _) hh
 refine wp_seq ?_
 refine wp_region_lit ?_
 refine list_val F (wn rfl) rfl rfl (.int .i64 0) (ex_assign _ rfl _ rfl) ?_; clear F a; intro a F
 refine wpList_nil ?_
 replace F : Fr 13 a [(0, .slice (some ⟨gl, 0, none⟩) n c), (2, .int .i64 0)] := F.keep ⟨rfl, rfl, trivial⟩
 refine then_n ?_
 refine wp_block ?_
 refine wp_loopN (fun mq ar wr => ∃ (i : Nat), ∃ (ax : Array Value), Fr 13 ar [(0, .slice (some ⟨gl, 0, none⟩) n c), (2, .int .i64 ((i : Nat) : Int))] ∧ Mm (cutW w gl) wr [⟨gl, ax, 85⟩] ∧ w.grownBy wr (some gl) ∧ i ≤ n ∧ ax.size = c * 19 ∧ mq + i = n) n ?_ ?_
 ·
  exact ⟨0, arr, F.keep ⟨rfl, rfl, trivial⟩, M, G_, (Nat.zero_le _), has, (by omega)⟩
 clear F M a G_
 rintro mq a v ⟨i, ax, F, M, G_, hi, hax, hq⟩; try clear w
 by_cases hin : i < n
 ·
  refine wp_seq ?_
  refine wp_seq ?_
  refine wp_region_lit ?_
  refine list_val F (wn rfl) rfl rfl (.int .i64 ((i : Nat) : Int)) (ex_move _ rfl _ (F.e rfl)) ?_; clear F a; intro a F
  refine list_val F (wn rfl) rfl rfl (.slice (some ⟨gl, 0, none⟩) n c) (ex_move _ rfl _ (F.e rfl)) ?_; clear F a; intro a F
  refine list_val F (wn rfl) rfl rfl (.int .i64 ((n : Nat) : Int)) (ex_len _ _ rfl 19 s3_sl_57_19 _ _ _ (F.e rfl)) ?_; clear F a; intro a F
  refine list_val F (wn rfl) rfl rfl (.bool true) (ex_bin .lss _ _ _ _ rfl .i64 _ _ (F.e rfl) (F.e rfl) _ (b_lss (decide_eq_true (by omega)))) ?_; clear F a; intro a F
  refine wpList_nil ?_
  replace F : Fr 13 a [(0, .slice (some ⟨gl, 0, none⟩) n c), (2, .int .i64 ((i : Nat) : Int)), (6, .bool true)] := F.keep ⟨rfl, rfl, rfl, trivial⟩
  refine then_n ?_
  refine wp_cond_true (F.e rfl) ?_
  refine wp_skip ?_
  refine then_n ?_
  refine wp_seq ?_
  refine wp_block ?_
  refine wp_region_lit ?_
  refine list_val F (wn rfl) rfl rfl (.slice (some ⟨gl, 0, none⟩) n c) (ex_move _ rfl _ (F.e rfl)) ?_; clear F a; intro a F
  refine list_val F (wn rfl) rfl rfl (.int .i64 ((i : Nat) : Int)) (ex_move _ rfl _ (F.e rfl)) ?_; clear F a; intro a F
  refine list_val F (wn rfl) rfl rfl (.agg mkO.arr) (ex_build 85 _ rfl #[(1, .int .u64 778), (3, .int .i64 (-778))] (parts2 rfl rfl) (.agg mkO.arr) (build85_13 778 (-778) _)) ?_; clear F a; intro a F
  refine list_val F (wn rfl) rfl rfl (.pointer (some ⟨gl, i * 19, none⟩)) (ex_ix _ _ _ rfl 19 s3_sl_57_19 ⟨gl, 0, none⟩ _ _ (F.e rfl) .i64 _ (F.e rfl) i rfl (by omega) ⟨gl, i * 19, none⟩ ((addr_add _ _ _).trans (by rw [Nat.zero_add]))) ?_; clear F a; intro a F
  refine list_do (wn rfl) (fun K hK => ?_)
  refine ow_store F M rfl 85 _ _ rfl 0 gl ax _ rfl (i * 19) (F.e rfl) _ (F.e rfl) (Rv.cs mkO) rfl (by rw [Rv.cs_len]; exact s85) (by rw [hax, Rv.cs_len]; have h_ := Nat.mul_le_mul_right 19 (show i + 1 ≤ c by omega); rw [Nat.add_mul, Nat.one_mul] at h_; exact h_) (Rv.cs_one _) ((ax.toList.take (i * 19) ++ (Rv.cs mkO) ++ ax.toList.drop (i * 19 + (Rv.cs mkO).length)).toArray) rfl ?_
  clear F a; have Mo := M; clear M; intro a u F M hgr
  refine hK _ _ ?_
  clear hK K
  replace G_ := gg_grown G_ hgr
  clear Mo hgr; try clear v
  replace M : Mm (cutW w gl) u [⟨gl, ((ax.toList.take (i * 19) ++ (Rv.cs mkO) ++ ax.toList.drop (i * 19 + (Rv.cs mkO).length)).toArray), 85⟩] := M
  refine wpList_nil ?_
  replace F : Fr 13 a [(0, .slice (some ⟨gl, 0, none⟩) n c), (2, .int .i64 ((i : Nat) : Int)), (6, .bool true)] := F.keep ⟨rfl, rfl, rfl, trivial⟩
  refine in_n ?_
  refine then_n ?_
  refine wp_region_lit ?_
  refine list_val F (wn rfl) rfl rfl (.int .i64 ((i : Nat) : Int)) (ex_move _ rfl _ (F.e rfl)) ?_; clear F a; intro a F
  refine list_val F (wn rfl) rfl rfl (.int .i64 ((i + 1 : Nat) : Int)) (ex_bin .add _ _ _ _ rfl .i64 _ _ (F.e rfl) rfl _ (b_add ((w_i64 (by omega) (by omega)).trans (by omega)))) ?_; clear F a; intro a F
  refine list_val F (wn rfl) rfl rfl (.int .i64 ((i + 1 : Nat) : Int)) (ex_assign _ rfl _ (F.e rfl)) ?_; clear F a; intro a F
  refine wpList_nil ?_
  replace F : Fr 13 a [(0, .slice (some ⟨gl, 0, none⟩) n c), (2, .int .i64 ((i + 1 : Nat) : Int)), (6, .bool true)] := F.keep ⟨rfl, rfl, rfl, trivial⟩
  refine then_n ?_
  exact ⟨n - (i + 1), by omega, (i + 1), ((ax.toList.take (i * 19) ++ (Rv.cs mkO) ++ ax.toList.drop (i * 19 + (Rv.cs mkO).length)).toArray), F.keep ⟨rfl, rfl, trivial⟩, (by refine M.pick' [0] _ ?_ (by decide); exact ⟨rfl, trivial⟩), G_, (by omega), (put_size hax (by omega)), (by omega)⟩
 refine wp_seq ?_
 refine wp_seq ?_
 refine wp_region_lit ?_
 refine list_val F (wn rfl) rfl rfl (.int .i64 ((i : Nat) : Int)) (ex_move _ rfl _ (F.e rfl)) ?_; clear F a; intro a F
 refine list_val F (wn rfl) rfl rfl (.slice (some ⟨gl, 0, none⟩) n c) (ex_move _ rfl _ (F.e rfl)) ?_; clear F a; intro a F
 refine list_val F (wn rfl) rfl rfl (.int .i64 ((n : Nat) : Int)) (ex_len _ _ rfl 19 s3_sl_57_19 _ _ _ (F.e rfl)) ?_; clear F a; intro a F
 refine list_val F (wn rfl) rfl rfl (.bool false) (ex_bin .lss _ _ _ _ rfl .i64 _ _ (F.e rfl) (F.e rfl) _ (b_lss (decide_eq_false (by omega)))) ?_; clear F a; intro a F
 refine wpList_nil ?_
 replace F : Fr 13 a [(0, .slice (some ⟨gl, 0, none⟩) n c), (2, .int .i64 ((i : Nat) : Int)), (6, .bool false)] := F.keep ⟨rfl, rfl, rfl, trivial⟩
 refine then_n ?_
 refine wp_cond_false (F.e rfl) ?_
 refine wp_exit ?_
 refine then_x ?_
 refine then_x ?_
 refine in_hit ?_
 exact ret_none F rfl ⟨rfl, G_⟩
theorem s3_fa_66_6_6 : fa? Tryz.prog 66 6 6 = true := by kernel_rfl
theorem s3_one_57 : one? Tryz.prog 57 = true := by kernel_rfl
theorem s3_info_57_map_size_some_1 : (Tryz.prog.info? 57).map (·.size) = some 1 := by kernel_rfl
set_option maxHeartbeats 1000000 in
set_option maxRecDepth 100000 in
theorem seat_any (own : Nat → Nat) (base lim gb gs tn : Nat) (A : Option Addr) (c : Nat) (ks : List Rv) (w : World) (S : Sb own base lim gb gs tn A c ks w) (A0 : Option Addr) (c0 : Nat) (ls : List Rv) (hR : kRv.C w A0 ls.length ls) (hl : ls.length ≤ 900000) :
    Calls Tryz.prog 13 #[.pointer (some ⟨gs, 0, none⟩), .slice A0 ls.length c0] w fun e w' => ∃ A' c', e = .returned (.slice A' ls.length c') ∧ Sb own base w'.heap.size gb gs tn A c ks w' ∧ Ow kRv 85 w' base (.slice A' ls.length c') ls ∧ ∃ x, Only base [66] x w w' ∧ ∀ k, x = some k → k < lim ∧ ∃ cells, w.heap[k]? = some (.cells cells 85 (0, 0)) := by
 obtain ⟨SA, Sc, sks, h1, h2, h3⟩ := S.seat
 obtain ⟨KA, Kc, rows, IA, Ic, ms, us, B0⟩ := S.bk
 have hbw : base ≤ w.heap.size := Nat.le_trans S.lim.1 S.lim.2
 have hgs := S.lo
 have B_ := B0
 have RD_ := hR
 have O_s := h2
 have R_ := S.ring.1
 have G_ : Only base [66] (Value.slice SA sks.length Sc).ownBlock w w := Only.refl w
 refine calls_start Tryz.func13 rfl rfl rfl (fun a F => ?_)
 have M : Mm (cutW w base) w [⟨gs, (seC (.slice SA sks.length Sc)).toArray, 66⟩] := cut_one S.lo h1
 refine wp_seq ?_
 refine wp_region_lit ?_
 refine list_val F (wn rfl) rfl rfl (.slice none 0 0) (ex_assign _ rfl _ rfl) ?_; clear F a; intro a F
 refine wpList_nil ?_
 refine then_n ?_
 refine wp_seq ?_
 refine wp_region_lit ?_
 refine list_val F (wn rfl) rfl rfl (.pointer (some ⟨gs, 0, none⟩)) (ex_move _ rfl _ (F.e rfl)) ?_; clear F a; intro a F
 refine list_val F (wn rfl) rfl rfl (.pointer (some ⟨gs, 0, none⟩)) (ex_move _ rfl _ (F.e rfl)) ?_; clear F a; intro a F
 refine list_val F (wn rfl) rfl rfl (.pointer (some ⟨gs, 0, none⟩)) (ex_nilck _ rfl _ (F.e rfl)) ?_; clear F a; intro a F
 refine list_val F (wn rfl) rfl rfl (.pointer (some ⟨gs, 6, none⟩)) (ex_fa _ _ _ rfl _ (F.e rfl) 6 s3_fa_66_6_6 ⟨gs, 6, none⟩ rfl) ?_; clear F a; intro a F
 refine list_val F (wn rfl) rfl rfl (.slice SA sks.length Sc) (ex_load _ _ rfl _ (F.e rfl) _ (lv1 s3_one_57 (M.cell (i := 0) rfl (j := 6) rfl))) ?_; clear F a; intro a F
 refine list_val F (wn rfl) rfl rfl (.slice SA 0 Sc) (ex_cutto 57 85 19 Tryz.underlying57 s85 _ _ rfl SA sks.length Sc (F.e rfl) _ rfl 0 (by rfl) (by exact Nat.zero_le _)) ?_; clear F a; intro a F
 refine list_val F (wn rfl) rfl rfl (.slice A0 ls.length c0) (ex_move _ rfl _ (F.e rfl)) ?_; clear F a; intro a F
 refine list_do (wn rfl) (fun K hK => ?_)
 refine og_appB (enc := Rv.cs) (m := 19) (hl := Rv.cs_len) (h1 := Rv.cs_one) F M Tryz.underlying57 i85 z85s (by decide) (by decide) (Nat.le_of_eq (cut_size hbw)) (by have h_ := M.bel.size; rwa [cut_size hbw] at h_) ⟨.inl (by show (66 : Nat) ≠ 85; decide), trivial⟩ rfl rfl rfl _ _ rfl (.slice SA 0 Sc) [] ls ls rfl A0 ls.length c0 (F.e rfl) (F.e rfl) (Ow_cut0 O_s) RD_ (by show (0 + ls.length) * 40 ≤ _; omega) ?_
 clear F a; have Mo := M; clear M; intro a A2 c2 v F M Oz hgr hnb
 refine hK _ _ ?_
 clear hK K
 have hlim2 : lim ≤ w.heap.size := Nat.le_trans S.lim.2 G_.size
 have hsn := seat_new (w := w) (w' := v) h3 hnb hlim2 S.fresh (fun k hk => (S.ring.2 k hk).2) (fun k hk => (Ow.bound (enc := Rv.cs) (m := 19) (hl := Rv.cs_len) (h1 := Rv.cs_one) Oz hk).2.1)
 have hbo : ∀ g, (Value.slice SA 0 Sc).ownBlock = some g → base ≤ g ∧ ∃ cells, w.heap[g]? = some (.cells cells 85 (0, 0)) := fun g e => by obtain ⟨q1, _, q2⟩ := Ow.bound (enc := Rv.cs) (m := 19) (hl := Rv.cs_len) (h1 := Rv.cs_one) (Ow_cut0 O_s) e; exact ⟨q1, q2⟩
 have he0 : (Value.slice SA sks.length Sc).ownBlock = (Value.slice SA 0 Sc).ownBlock := by cases SA <;> rfl
 replace B_ := B_.far hgr (fun g e => by obtain ⟨_, cells, hc⟩ := hbo g e; exact ⟨cells, 85, hc, by decide, by decide, by decide, .inr (h3 g (he0.trans e)).1⟩)
 replace R_ := R_.far hgr (fun k hk e => (h3 k (he0.trans e.symm)).2.2 hk)
 replace G_ := G_.far hgr (fun g e => ⟨(hbo g e).1, .inl (he0.trans e)⟩)
 clear O_s Mo hgr hnb hbo RD_; have O_s := Oz; clear Oz; try clear w
 have N_ : NewSeat own (.slice A ks.length c) (.slice A2 ls.length c2) v := hsn; clear hsn
 refine list_val F (wn rfl) rfl rfl (.pointer (some ⟨gs, 0, none⟩)) (ex_nilck _ rfl _ (F.e rfl)) ?_; clear F a; intro a F
 refine list_val F (wn rfl) rfl rfl (.pointer (some ⟨gs, 6, none⟩)) (ex_fa _ _ _ rfl _ (F.e rfl) 6 s3_fa_66_6_6 ⟨gs, 6, none⟩ rfl) ?_; clear F a; intro a F
 refine list_do (wn rfl) (fun K hK => ?_)
 refine ow_store F M rfl 57 _ _ rfl 0 gs ((seC (.slice SA sks.length Sc)).toArray) _ rfl 6 (F.e rfl) _ (F.e rfl) [.slice A2 ls.length c2] rfl s3_info_57_map_size_some_1 (by show 7 ≤ 14; decide) (by simp [Value.oneCell']) ((seC (.slice A2 ls.length c2)).toArray) rfl ?_
 clear F a; have Mo := M; clear M; intro a u F M hgr
 refine hK _ _ ?_
 clear hK K
 replace B_ := B_.far hgr (fun g2 e => by injection e with e; subst e; exact ⟨_, 66, Mo.blk 0 _ rfl, by decide, by decide, by decide, .inl (by decide)⟩)
 replace O_s := Ow.grown (enc := Rv.cs) (m := 19) (hl := Rv.cs_len) (h1 := Rv.cs_one) O_s (Mo.blk 0 _ rfl) (.inl (by show (85 : Nat) ≠ 66; decide)) hgr
 replace R_ := Ow.grown (enc := Rv.cs) (m := 19) (hl := Rv.cs_len) (h1 := Rv.cs_one) R_ (Mo.blk 0 _ rfl) (.inl (by show (85 : Nat) ≠ 66; decide)) hgr
 replace G_ := G_.grown (Mo.blk 0 _ rfl) hgs (.inl (by show (66 : Nat) ∈ [66]; decide)) hgr
 replace N_ := N_.size hgr.size
 clear Mo hgr; try clear v
 replace M : Mm (cutW w base) u [⟨gs, (seC (.slice A2 ls.length c2)).toArray, 66⟩] := M
 refine wpList_nil ?_
 refine then_n ?_
 refine wp_seq ?_
 refine wp_region_lit ?_
 refine list_val F (wn rfl) rfl rfl (.pointer (some ⟨gs, 0, none⟩)) (ex_move _ rfl _ (F.e rfl)) ?_; clear F a; intro a F
 refine list_val F (wn rfl) rfl rfl (.pointer (some ⟨gs, 0, none⟩)) (ex_nilck _ rfl _ (F.e rfl)) ?_; clear F a; intro a F
 refine list_val F (wn rfl) rfl rfl (.pointer (some ⟨gs, 6, none⟩)) (ex_fa _ _ _ rfl _ (F.e rfl) 6 s3_fa_66_6_6 ⟨gs, 6, none⟩ rfl) ?_; clear F a; intro a F
 refine list_val F (wn rfl) rfl rfl (.slice A2 ls.length c2) (ex_load _ _ rfl _ (F.e rfl) _ (lv1 s3_one_57 (M.cell (i := 0) rfl (j := 6) rfl))) ?_; clear F a; intro a F
 refine list_val F (wn rfl) rfl rfl (.slice A2 ls.length c2) (ex_assign _ rfl _ (F.e rfl)) ?_; clear F a; intro a F
 refine wpList_nil ?_
 refine then_n ?_
 refine wp_ret ?_
 exact ret_tmp F rfl rfl ⟨A2, c2, rfl, ⟨⟨KA, Kc, rows, IA, Ic, ms, us, B_⟩, ⟨A2, c2, ls, M.blk 0 _ rfl, O_s, N_⟩, ⟨R_, fun k hk => ⟨(S.ring.2 k hk).1, Nat.lt_of_lt_of_le (S.ring.2 k hk).2 (Nat.le_trans S.lim.2 G_.size)⟩⟩, fun k hk => S.fresh k (Nat.le_trans (Nat.le_trans S.lim.2 G_.size) hk), S.lo, ⟨Nat.le_trans hbw G_.size, Nat.le_refl _⟩⟩, O_s, _, G_, fun k hk => ⟨(h3 k hk).2.1, (Ow.bound (enc := Rv.cs) (m := 19) (hl := Rv.cs_len) (h1 := Rv.cs_one) h2 hk).2.2⟩⟩
theorem s3_fa_71_0_0 : fa? Tryz.prog 71 0 0 = true := by kernel_rfl
theorem s3_one_3 : one? Tryz.prog 3 = true := by kernel_rfl
theorem s3_fa_71_1_1 : fa? Tryz.prog 71 1 1 = true := by kernel_rfl
theorem s3_one_67 : one? Tryz.prog 67 = true := by kernel_rfl
theorem s3_fa_71_2_2 : fa? Tryz.prog 71 2 2 = true := by kernel_rfl
theorem s3_fa_71_3_18 : fa? Tryz.prog 71 3 18 = true := by kernel_rfl
theorem s3_one_2 : one? Tryz.prog 2 = true := by kernel_rfl
theorem s3_ent_24 : ent? Tryz.prog 24 = true := by kernel_rfl
theorem s3_ent_25 : ent? Tryz.prog 25 = true := by kernel_rfl
theorem s3_ent_26 : ent? Tryz.prog 26 = true := by kernel_rfl
set_option maxHeartbeats 1000000 in
set_option maxRecDepth 100000 in
theorem step_w (ks : List Rv) (A : Option Addr) (c : Nat) (o : St) (w : World) (hr : kRv.C w A ks.length ks) (hc : ks.length ≤ c) (hmx : ks.length ≤ 1000000) :
    Calls Tryz.prog 8 #[.slice A ks.length c, .agg o.arr] w fun r w' => ∃ A' c', r = .returned (.slice A' (dueF ks o.do_ o.grant o.id o.exp).length c') ∧ Ow kRv 85 w' w.heap.size (.slice A' (dueF ks o.do_ o.grant o.id o.exp).length c') (dueF ks o.do_ o.grant o.id o.exp) ∧ Below w.heap.size w w' := by
 refine calls_start Tryz.func8 rfl rfl rfl (fun a F => ?_)
 have M : Mm w w [] := Mm.nil w
 refine wp_seq ?_
 refine wp_region_lit ?_
 refine list_do (wn rfl) (fun K hK => ?_)
 refine ow_box F M rfl rfl 71 _ rfl _ (F.e rfl) o.arr rfl ?_
 clear F M a; intro a g3 v F M hb hg
 refine hK _ _ ?_
 clear hK K
 clear hb hg; try clear w
 refine list_val F (wn rfl) rfl rfl (.slice none 0 0) (ex_assign _ rfl _ rfl) ?_; clear F a; intro a F
 refine wpList_nil ?_
 replace F : Fr 29 a [(0, .slice A ks.length c), (1, .agg o.arr), (3, .pointer (some ⟨g3, 0, none⟩)), (4, .slice none 0 0)] := F.keep ⟨rfl, rfl, rfl, rfl, trivial⟩
 refine then_n ?_
 refine wp_seq ?_
 refine wp_seq ?_
 refine wp_region_lit ?_
 refine list_val F (wn rfl) rfl rfl (.pointer (some ⟨g3, 0, none⟩)) (ex_fa _ _ _ rfl _ (F.e rfl) 0 s3_fa_71_0_0 ⟨g3, 0, none⟩ rfl) ?_; clear F a; intro a F
 refine list_val F (wn rfl) rfl rfl (.int .i64 o.do_) (ex_load _ _ rfl _ (F.e rfl) _ (lv1 s3_one_3 (M.cell (i := 0) rfl (j := 0) (St.arr_0 _)))) ?_; clear F a; intro a F
 refine wpList_nil ?_
 replace F : Fr 29 a [(0, .slice A ks.length c), (1, .agg o.arr), (3, .pointer (some ⟨g3, 0, none⟩)), (4, .slice none 0 0), (6, .int .i64 o.do_)] := F.keep ⟨rfl, rfl, rfl, rfl, rfl, trivial⟩
 refine then_n ?_
 refine wp_block ?_
 refine wp_seq ?_
 by_cases hd1 : o.do_ = 1
 ·
  refine wp_region_lit ?_
  refine list_val F (wn rfl) rfl rfl (.bool true) (ex_bin .eql _ _ _ _ rfl .i64 _ _ (F.e rfl) rfl _ (b_eql (by simp [hd1]))) ?_; clear F a; intro a F
  refine list_val F (wn rfl) rfl rfl (.bool true) (ex_assign _ rfl _ (F.e rfl)) ?_; clear F a; intro a F
  refine wpList_nil ?_
  replace F : Fr 29 a [(0, .slice A ks.length c), (1, .agg o.arr), (3, .pointer (some ⟨g3, 0, none⟩)), (4, .slice none 0 0), (6, .int .i64 o.do_), (7, .bool true)] := F.keep ⟨rfl, rfl, rfl, rfl, rfl, rfl, trivial⟩
  refine then_n ?_
  refine wp_cond_true (F.e rfl) ?_
  refine wp_seq ?_
  refine wp_region_lit ?_
  refine list_val F (wn rfl) rfl rfl (.slice A ks.length c) (ex_move _ rfl _ (F.e rfl)) ?_; clear F a; intro a F
  refine list_val F (wn rfl) rfl rfl (.pointer (some ⟨g3, 1, none⟩)) (ex_fa _ _ _ rfl _ (F.e rfl) 1 s3_fa_71_1_1 ⟨g3, 1, none⟩ rfl) ?_; clear F a; intro a F
  refine list_val F (wn rfl) rfl rfl (.int .u64 o.grant) (ex_load _ _ rfl _ (F.e rfl) _ (lv1 s3_one_67 (M.cell (i := 0) rfl (j := 1) (St.arr_1 _)))) ?_; clear F a; intro a F
  refine list_val F (wn rfl) rfl rfl (.pointer (some ⟨g3, 2, none⟩)) (ex_fa _ _ _ rfl _ (F.e rfl) 2 s3_fa_71_2_2 ⟨g3, 2, none⟩ rfl) ?_; clear F a; intro a F
  refine list_val F (wn rfl) rfl rfl (.agg o.id.cs.toArray) (ex_load _ _ rfl _ (F.e rfl) _ (lrow69 o.id (St.id_at (M.at (i := 0) rfl)))) ?_; clear F a; intro a F
  refine list_val F (wn rfl) rfl rfl (.pointer (some ⟨g3, 18, none⟩)) (ex_fa _ _ _ rfl _ (F.e rfl) 18 s3_fa_71_3_18 ⟨g3, 18, none⟩ rfl) ?_; clear F a; intro a F
  refine list_val F (wn rfl) rfl rfl (.int .i64 o.exp) (ex_load _ _ rfl _ (F.e rfl) _ (lv1 s3_one_2 (M.cell (i := 0) rfl (j := 18) (St.arr_18 _)))) ?_; clear F a; intro a F
  refine list_do (wn rfl) (fun K hK => ?_)
  refine ow_call rfl rfl F 24 #[.slice A ks.length c, .int .u64 o.grant, .agg o.id.cs.toArray, .int .i64 o.exp] (ex_call 24 _ _ rfl rfl s3_ent_24 _ (map4 (F.e rfl) (F.e rfl) (F.e rfl) (F.e rfl))) (add_w ks A c o.grant o.id o.exp _ (Kd.C_below hr M.bel) hmx hc) (fun e u hR => ?_)
  obtain ⟨A_16, c_16, he, O_x, hb⟩ := hR
  replace O_x := O_x.low M.bel.size
  refine ⟨.slice A_16 ((addN ks o.grant o.id o.exp).length) c_16, he, ?_⟩; clear he F a; intro a F
  refine hK _ _ ?_
  clear hK K
  replace M := M.below hb; clear hb; try clear v
  refine list_val F (wn rfl) rfl rfl (.slice A_16 ((addN ks o.grant o.id o.exp).length) c_16) (ex_assign _ rfl _ (F.e rfl)) ?_; clear F a; intro a F
  refine wpList_nil ?_
  replace F : Fr 29 a [(0, .slice A ks.length c), (1, .agg o.arr), (3, .pointer (some ⟨g3, 0, none⟩)), (4, .slice A_16 ((addN ks o.grant o.id o.exp).length) c_16), (6, .int .i64 o.do_), (7, .bool true)] := F.keep ⟨rfl, rfl, rfl, rfl, rfl, rfl, trivial⟩
  refine then_n ?_
  refine wp_ret ?_
  refine in_r ?_
  refine then_r ?_
  rw [due_1 hd1]
  exact ret_tmp F rfl rfl ⟨_, _, rfl, O_x, M.bel⟩
 by_cases hd2 : o.do_ = 2
 ·
  refine wp_region_lit ?_
  refine list_val F (wn rfl) rfl rfl (.bool false) (ex_bin .eql _ _ _ _ rfl .i64 _ _ (F.e rfl) rfl _ (b_eql (by simp [hd1]))) ?_; clear F a; intro a F
  refine list_val F (wn rfl) rfl rfl (.bool false) (ex_assign _ rfl _ (F.e rfl)) ?_; clear F a; intro a F
  refine wpList_nil ?_
  replace F : Fr 29 a [(0, .slice A ks.length c), (1, .agg o.arr), (3, .pointer (some ⟨g3, 0, none⟩)), (4, .slice none 0 0), (6, .int .i64 o.do_), (7, .bool false)] := F.keep ⟨rfl, rfl, rfl, rfl, rfl, rfl, trivial⟩
  refine then_n ?_
  refine wp_cond_false (F.e rfl) ?_
  refine wp_seq ?_
  refine wp_region_lit ?_
  refine list_val F (wn rfl) rfl rfl (.bool true) (ex_bin .eql _ _ _ _ rfl .i64 _ _ (F.e rfl) rfl _ (b_eql (by simp [hd2]))) ?_; clear F a; intro a F
  refine list_val F (wn rfl) rfl rfl (.bool true) (ex_assign _ rfl _ (F.e rfl)) ?_; clear F a; intro a F
  refine wpList_nil ?_
  replace F : Fr 29 a [(0, .slice A ks.length c), (1, .agg o.arr), (3, .pointer (some ⟨g3, 0, none⟩)), (4, .slice none 0 0), (6, .int .i64 o.do_), (7, .bool false), (17, .bool true)] := F.keep ⟨rfl, rfl, rfl, rfl, rfl, rfl, rfl, trivial⟩
  refine then_n ?_
  refine wp_cond_true (F.e rfl) ?_
  refine wp_seq ?_
  refine wp_region_lit ?_
  refine list_val F (wn rfl) rfl rfl (.slice A ks.length c) (ex_move _ rfl _ (F.e rfl)) ?_; clear F a; intro a F
  refine list_val F (wn rfl) rfl rfl (.pointer (some ⟨g3, 1, none⟩)) (ex_fa _ _ _ rfl _ (F.e rfl) 1 s3_fa_71_1_1 ⟨g3, 1, none⟩ rfl) ?_; clear F a; intro a F
  refine list_val F (wn rfl) rfl rfl (.int .u64 o.grant) (ex_load _ _ rfl _ (F.e rfl) _ (lv1 s3_one_67 (M.cell (i := 0) rfl (j := 1) (St.arr_1 _)))) ?_; clear F a; intro a F
  refine list_val F (wn rfl) rfl rfl (.pointer (some ⟨g3, 18, none⟩)) (ex_fa _ _ _ rfl _ (F.e rfl) 18 s3_fa_71_3_18 ⟨g3, 18, none⟩ rfl) ?_; clear F a; intro a F
  refine list_val F (wn rfl) rfl rfl (.int .i64 o.exp) (ex_load _ _ rfl _ (F.e rfl) _ (lv1 s3_one_2 (M.cell (i := 0) rfl (j := 18) (St.arr_18 _)))) ?_; clear F a; intro a F
  refine list_do (wn rfl) (fun K hK => ?_)
  refine ow_call rfl rfl F 25 #[.slice A ks.length c, .int .u64 o.grant, .int .i64 o.exp] (ex_call 25 _ _ rfl rfl s3_ent_25 _ (map3 (F.e rfl) (F.e rfl) (F.e rfl))) (kill_w ks A c o.grant o.exp _ (Kd.C_below hr M.bel) hmx hc) (fun e u hR => ?_)
  obtain ⟨A_24, c_24, he, O_x, hb⟩ := hR
  replace O_x := O_x.low M.bel.size
  refine ⟨.slice A_24 ((killN ks o.grant o.exp).length) c_24, he, ?_⟩; clear he F a; intro a F
  refine hK _ _ ?_
  clear hK K
  replace M := M.below hb; clear hb; try clear v
  refine list_val F (wn rfl) rfl rfl (.slice A_24 ((killN ks o.grant o.exp).length) c_24) (ex_assign _ rfl _ (F.e rfl)) ?_; clear F a; intro a F
  refine wpList_nil ?_
  replace F : Fr 29 a [(0, .slice A ks.length c), (1, .agg o.arr), (3, .pointer (some ⟨g3, 0, none⟩)), (4, .slice A_24 ((killN ks o.grant o.exp).length) c_24), (6, .int .i64 o.do_), (7, .bool false), (17, .bool true)] := F.keep ⟨rfl, rfl, rfl, rfl, rfl, rfl, rfl, trivial⟩
  refine then_n ?_
  refine wp_ret ?_
  refine in_r ?_
  refine then_r ?_
  rw [due_2 hd1 hd2]
  exact ret_tmp F rfl rfl ⟨_, _, rfl, O_x, M.bel⟩
 refine wp_region_lit ?_
 refine list_val F (wn rfl) rfl rfl (.bool false) (ex_bin .eql _ _ _ _ rfl .i64 _ _ (F.e rfl) rfl _ (b_eql (by simp [hd1]))) ?_; clear F a; intro a F
 refine list_val F (wn rfl) rfl rfl (.bool false) (ex_assign _ rfl _ (F.e rfl)) ?_; clear F a; intro a F
 refine wpList_nil ?_
 replace F : Fr 29 a [(0, .slice A ks.length c), (1, .agg o.arr), (3, .pointer (some ⟨g3, 0, none⟩)), (4, .slice none 0 0), (6, .int .i64 o.do_), (7, .bool false)] := F.keep ⟨rfl, rfl, rfl, rfl, rfl, rfl, trivial⟩
 refine then_n ?_
 refine wp_cond_false (F.e rfl) ?_
 refine wp_seq ?_
 refine wp_region_lit ?_
 refine list_val F (wn rfl) rfl rfl (.bool false) (ex_bin .eql _ _ _ _ rfl .i64 _ _ (F.e rfl) rfl _ (b_eql (by simp [hd2]))) ?_; clear F a; intro a F
 refine list_val F (wn rfl) rfl rfl (.bool false) (ex_assign _ rfl _ (F.e rfl)) ?_; clear F a; intro a F
 refine wpList_nil ?_
 replace F : Fr 29 a [(0, .slice A ks.length c), (1, .agg o.arr), (3, .pointer (some ⟨g3, 0, none⟩)), (4, .slice none 0 0), (6, .int .i64 o.do_), (7, .bool false), (17, .bool false)] := F.keep ⟨rfl, rfl, rfl, rfl, rfl, rfl, rfl, trivial⟩
 refine then_n ?_
 refine wp_cond_false (F.e rfl) ?_
 refine wp_skip ?_
 refine in_n ?_
 refine then_n ?_
 refine wp_seq ?_
 refine wp_region_lit ?_
 refine list_val F (wn rfl) rfl rfl (.slice A ks.length c) (ex_move _ rfl _ (F.e rfl)) ?_; clear F a; intro a F
 refine list_val F (wn rfl) rfl rfl (.pointer (some ⟨g3, 18, none⟩)) (ex_fa _ _ _ rfl _ (F.e rfl) 18 s3_fa_71_3_18 ⟨g3, 18, none⟩ rfl) ?_; clear F a; intro a F
 refine list_val F (wn rfl) rfl rfl (.int .i64 o.exp) (ex_load _ _ rfl _ (F.e rfl) _ (lv1 s3_one_2 (M.cell (i := 0) rfl (j := 18) (St.arr_18 _)))) ?_; clear F a; intro a F
 refine list_do (wn rfl) (fun K hK => ?_)
 refine ow_call rfl rfl F 26 #[.slice A ks.length c, .int .i64 o.exp] (ex_call 26 _ _ rfl rfl s3_ent_26 _ (map2 (F.e rfl) (F.e rfl))) (prune_w ks A c o.exp _ (Kd.C_below hr M.bel) hmx hc) (fun e u hR => ?_)
 obtain ⟨A_28, c_28, he, O_x, hb⟩ := hR
 replace O_x := O_x.low M.bel.size
 refine ⟨.slice A_28 ((pruneN ks o.exp).length) c_28, he, ?_⟩; clear he F a; intro a F
 refine hK _ _ ?_
 clear hK K
 replace M := M.below hb; clear hb; try clear v
 refine list_val F (wn rfl) rfl rfl (.slice A_28 ((pruneN ks o.exp).length) c_28) (ex_assign _ rfl _ (F.e rfl)) ?_; clear F a; intro a F
 refine wpList_nil ?_
 replace F : Fr 29 a [(0, .slice A ks.length c), (1, .agg o.arr), (3, .pointer (some ⟨g3, 0, none⟩)), (4, .slice A_28 ((pruneN ks o.exp).length) c_28), (6, .int .i64 o.do_), (7, .bool false), (17, .bool false)] := F.keep ⟨rfl, rfl, rfl, rfl, rfl, rfl, rfl, trivial⟩
 refine then_n ?_
 refine wp_ret ?_
 rw [due_3 hd1 hd2]
 exact ret_tmp F rfl rfl ⟨_, _, rfl, O_x, M.bel⟩
theorem s3_ent_21 : ent? Tryz.prog 21 = true := by kernel_rfl
theorem s3_ent_22 : ent? Tryz.prog 22 = true := by kernel_rfl
theorem s3_ent_23 : ent? Tryz.prog 23 = true := by kernel_rfl
set_option maxHeartbeats 1000000 in
set_option maxRecDepth 100000 in
theorem due_w (ks : List Rv) (A : Option Addr) (c : Nat) (o : St) (w : World) (hr : kRv.C w A ks.length ks) (hc : ks.length ≤ c) (hmx : ks.length ≤ 1000000) :
    Calls Tryz.prog 6 #[.slice A ks.length c, .agg o.arr] w fun r w' => ∃ A' c', r = .returned (.slice A' (dueF ks o.do_ o.grant o.id o.exp).length c') ∧ Ow kRv 85 w' w.heap.size (.slice A' (dueF ks o.do_ o.grant o.id o.exp).length c') (dueF ks o.do_ o.grant o.id o.exp) ∧ Below w.heap.size w w' := by
 refine calls_start Tryz.func6 rfl rfl rfl (fun a F => ?_)
 have M : Mm w w [] := Mm.nil w
 refine wp_seq ?_
 refine wp_region_lit ?_
 refine list_do (wn rfl) (fun K hK => ?_)
 refine ow_box F M rfl rfl 71 _ rfl _ (F.e rfl) o.arr rfl ?_
 clear F M a; intro a g3 v F M hb hg
 refine hK _ _ ?_
 clear hK K
 clear hb hg; try clear w
 refine list_val F (wn rfl) rfl rfl (.slice none 0 0) (ex_assign _ rfl _ rfl) ?_; clear F a; intro a F
 refine wpList_nil ?_
 replace F : Fr 29 a [(0, .slice A ks.length c), (1, .agg o.arr), (3, .pointer (some ⟨g3, 0, none⟩)), (4, .slice none 0 0)] := F.keep ⟨rfl, rfl, rfl, rfl, trivial⟩
 refine then_n ?_
 refine wp_seq ?_
 refine wp_seq ?_
 refine wp_region_lit ?_
 refine list_val F (wn rfl) rfl rfl (.pointer (some ⟨g3, 0, none⟩)) (ex_fa _ _ _ rfl _ (F.e rfl) 0 s3_fa_71_0_0 ⟨g3, 0, none⟩ rfl) ?_; clear F a; intro a F
 refine list_val F (wn rfl) rfl rfl (.int .i64 o.do_) (ex_load _ _ rfl _ (F.e rfl) _ (lv1 s3_one_3 (M.cell (i := 0) rfl (j := 0) (St.arr_0 _)))) ?_; clear F a; intro a F
 refine wpList_nil ?_
 replace F : Fr 29 a [(0, .slice A ks.length c), (1, .agg o.arr), (3, .pointer (some ⟨g3, 0, none⟩)), (4, .slice none 0 0), (6, .int .i64 o.do_)] := F.keep ⟨rfl, rfl, rfl, rfl, rfl, trivial⟩
 refine then_n ?_
 refine wp_block ?_
 refine wp_seq ?_
 by_cases hd1 : o.do_ = 1
 ·
  refine wp_region_lit ?_
  refine list_val F (wn rfl) rfl rfl (.bool true) (ex_bin .eql _ _ _ _ rfl .i64 _ _ (F.e rfl) rfl _ (b_eql (by simp [hd1]))) ?_; clear F a; intro a F
  refine list_val F (wn rfl) rfl rfl (.bool true) (ex_assign _ rfl _ (F.e rfl)) ?_; clear F a; intro a F
  refine wpList_nil ?_
  replace F : Fr 29 a [(0, .slice A ks.length c), (1, .agg o.arr), (3, .pointer (some ⟨g3, 0, none⟩)), (4, .slice none 0 0), (6, .int .i64 o.do_), (7, .bool true)] := F.keep ⟨rfl, rfl, rfl, rfl, rfl, rfl, trivial⟩
  refine then_n ?_
  refine wp_cond_true (F.e rfl) ?_
  refine wp_seq ?_
  refine wp_region_lit ?_
  refine list_val F (wn rfl) rfl rfl (.slice A ks.length c) (ex_move _ rfl _ (F.e rfl)) ?_; clear F a; intro a F
  refine list_val F (wn rfl) rfl rfl (.pointer (some ⟨g3, 1, none⟩)) (ex_fa _ _ _ rfl _ (F.e rfl) 1 s3_fa_71_1_1 ⟨g3, 1, none⟩ rfl) ?_; clear F a; intro a F
  refine list_val F (wn rfl) rfl rfl (.int .u64 o.grant) (ex_load _ _ rfl _ (F.e rfl) _ (lv1 s3_one_67 (M.cell (i := 0) rfl (j := 1) (St.arr_1 _)))) ?_; clear F a; intro a F
  refine list_val F (wn rfl) rfl rfl (.pointer (some ⟨g3, 2, none⟩)) (ex_fa _ _ _ rfl _ (F.e rfl) 2 s3_fa_71_2_2 ⟨g3, 2, none⟩ rfl) ?_; clear F a; intro a F
  refine list_val F (wn rfl) rfl rfl (.agg o.id.cs.toArray) (ex_load _ _ rfl _ (F.e rfl) _ (lrow69 o.id (St.id_at (M.at (i := 0) rfl)))) ?_; clear F a; intro a F
  refine list_val F (wn rfl) rfl rfl (.pointer (some ⟨g3, 18, none⟩)) (ex_fa _ _ _ rfl _ (F.e rfl) 18 s3_fa_71_3_18 ⟨g3, 18, none⟩ rfl) ?_; clear F a; intro a F
  refine list_val F (wn rfl) rfl rfl (.int .i64 o.exp) (ex_load _ _ rfl _ (F.e rfl) _ (lv1 s3_one_2 (M.cell (i := 0) rfl (j := 18) (St.arr_18 _)))) ?_; clear F a; intro a F
  refine list_do (wn rfl) (fun K hK => ?_)
  refine ow_call rfl rfl F 21 #[.slice A ks.length c, .int .u64 o.grant, .agg o.id.cs.toArray, .int .i64 o.exp] (ex_call 21 _ _ rfl rfl s3_ent_21 _ (map4 (F.e rfl) (F.e rfl) (F.e rfl) (F.e rfl))) (refAdd_w ks A c o.grant o.id o.exp _ (Kd.C_below hr M.bel) hmx) (fun e u hR => ?_)
  obtain ⟨A_16, c_16, he, O_x, hb⟩ := hR
  replace O_x := O_x.low M.bel.size
  refine ⟨.slice A_16 ((addN ks o.grant o.id o.exp).length) c_16, he, ?_⟩; clear he F a; intro a F
  refine hK _ _ ?_
  clear hK K
  replace M := M.below hb; clear hb; try clear v
  refine list_val F (wn rfl) rfl rfl (.slice A_16 ((addN ks o.grant o.id o.exp).length) c_16) (ex_assign _ rfl _ (F.e rfl)) ?_; clear F a; intro a F
  refine wpList_nil ?_
  replace F : Fr 29 a [(0, .slice A ks.length c), (1, .agg o.arr), (3, .pointer (some ⟨g3, 0, none⟩)), (4, .slice A_16 ((addN ks o.grant o.id o.exp).length) c_16), (6, .int .i64 o.do_), (7, .bool true)] := F.keep ⟨rfl, rfl, rfl, rfl, rfl, rfl, trivial⟩
  refine then_n ?_
  refine wp_ret ?_
  refine in_r ?_
  refine then_r ?_
  rw [due_1 hd1]
  exact ret_tmp F rfl rfl ⟨_, _, rfl, O_x, M.bel⟩
 by_cases hd2 : o.do_ = 2
 ·
  refine wp_region_lit ?_
  refine list_val F (wn rfl) rfl rfl (.bool false) (ex_bin .eql _ _ _ _ rfl .i64 _ _ (F.e rfl) rfl _ (b_eql (by simp [hd1]))) ?_; clear F a; intro a F
  refine list_val F (wn rfl) rfl rfl (.bool false) (ex_assign _ rfl _ (F.e rfl)) ?_; clear F a; intro a F
  refine wpList_nil ?_
  replace F : Fr 29 a [(0, .slice A ks.length c), (1, .agg o.arr), (3, .pointer (some ⟨g3, 0, none⟩)), (4, .slice none 0 0), (6, .int .i64 o.do_), (7, .bool false)] := F.keep ⟨rfl, rfl, rfl, rfl, rfl, rfl, trivial⟩
  refine then_n ?_
  refine wp_cond_false (F.e rfl) ?_
  refine wp_seq ?_
  refine wp_region_lit ?_
  refine list_val F (wn rfl) rfl rfl (.bool true) (ex_bin .eql _ _ _ _ rfl .i64 _ _ (F.e rfl) rfl _ (b_eql (by simp [hd2]))) ?_; clear F a; intro a F
  refine list_val F (wn rfl) rfl rfl (.bool true) (ex_assign _ rfl _ (F.e rfl)) ?_; clear F a; intro a F
  refine wpList_nil ?_
  replace F : Fr 29 a [(0, .slice A ks.length c), (1, .agg o.arr), (3, .pointer (some ⟨g3, 0, none⟩)), (4, .slice none 0 0), (6, .int .i64 o.do_), (7, .bool false), (17, .bool true)] := F.keep ⟨rfl, rfl, rfl, rfl, rfl, rfl, rfl, trivial⟩
  refine then_n ?_
  refine wp_cond_true (F.e rfl) ?_
  refine wp_seq ?_
  refine wp_region_lit ?_
  refine list_val F (wn rfl) rfl rfl (.slice A ks.length c) (ex_move _ rfl _ (F.e rfl)) ?_; clear F a; intro a F
  refine list_val F (wn rfl) rfl rfl (.pointer (some ⟨g3, 1, none⟩)) (ex_fa _ _ _ rfl _ (F.e rfl) 1 s3_fa_71_1_1 ⟨g3, 1, none⟩ rfl) ?_; clear F a; intro a F
  refine list_val F (wn rfl) rfl rfl (.int .u64 o.grant) (ex_load _ _ rfl _ (F.e rfl) _ (lv1 s3_one_67 (M.cell (i := 0) rfl (j := 1) (St.arr_1 _)))) ?_; clear F a; intro a F
  refine list_val F (wn rfl) rfl rfl (.pointer (some ⟨g3, 18, none⟩)) (ex_fa _ _ _ rfl _ (F.e rfl) 18 s3_fa_71_3_18 ⟨g3, 18, none⟩ rfl) ?_; clear F a; intro a F
  refine list_val F (wn rfl) rfl rfl (.int .i64 o.exp) (ex_load _ _ rfl _ (F.e rfl) _ (lv1 s3_one_2 (M.cell (i := 0) rfl (j := 18) (St.arr_18 _)))) ?_; clear F a; intro a F
  refine list_do (wn rfl) (fun K hK => ?_)
  refine ow_call rfl rfl F 22 #[.slice A ks.length c, .int .u64 o.grant, .int .i64 o.exp] (ex_call 22 _ _ rfl rfl s3_ent_22 _ (map3 (F.e rfl) (F.e rfl) (F.e rfl))) (refKill_w ks A c o.grant o.exp _ (Kd.C_below hr M.bel) hmx) (fun e u hR => ?_)
  obtain ⟨A_24, c_24, he, O_x, hb⟩ := hR
  replace O_x := O_x.low M.bel.size
  refine ⟨.slice A_24 ((killN ks o.grant o.exp).length) c_24, he, ?_⟩; clear he F a; intro a F
  refine hK _ _ ?_
  clear hK K
  replace M := M.below hb; clear hb; try clear v
  refine list_val F (wn rfl) rfl rfl (.slice A_24 ((killN ks o.grant o.exp).length) c_24) (ex_assign _ rfl _ (F.e rfl)) ?_; clear F a; intro a F
  refine wpList_nil ?_
  replace F : Fr 29 a [(0, .slice A ks.length c), (1, .agg o.arr), (3, .pointer (some ⟨g3, 0, none⟩)), (4, .slice A_24 ((killN ks o.grant o.exp).length) c_24), (6, .int .i64 o.do_), (7, .bool false), (17, .bool true)] := F.keep ⟨rfl, rfl, rfl, rfl, rfl, rfl, rfl, trivial⟩
  refine then_n ?_
  refine wp_ret ?_
  refine in_r ?_
  refine then_r ?_
  rw [due_2 hd1 hd2]
  exact ret_tmp F rfl rfl ⟨_, _, rfl, O_x, M.bel⟩
 refine wp_region_lit ?_
 refine list_val F (wn rfl) rfl rfl (.bool false) (ex_bin .eql _ _ _ _ rfl .i64 _ _ (F.e rfl) rfl _ (b_eql (by simp [hd1]))) ?_; clear F a; intro a F
 refine list_val F (wn rfl) rfl rfl (.bool false) (ex_assign _ rfl _ (F.e rfl)) ?_; clear F a; intro a F
 refine wpList_nil ?_
 replace F : Fr 29 a [(0, .slice A ks.length c), (1, .agg o.arr), (3, .pointer (some ⟨g3, 0, none⟩)), (4, .slice none 0 0), (6, .int .i64 o.do_), (7, .bool false)] := F.keep ⟨rfl, rfl, rfl, rfl, rfl, rfl, trivial⟩
 refine then_n ?_
 refine wp_cond_false (F.e rfl) ?_
 refine wp_seq ?_
 refine wp_region_lit ?_
 refine list_val F (wn rfl) rfl rfl (.bool false) (ex_bin .eql _ _ _ _ rfl .i64 _ _ (F.e rfl) rfl _ (b_eql (by simp [hd2]))) ?_; clear F a; intro a F
 refine list_val F (wn rfl) rfl rfl (.bool false) (ex_assign _ rfl _ (F.e rfl)) ?_; clear F a; intro a F
 refine wpList_nil ?_
 replace F : Fr 29 a [(0, .slice A ks.length c), (1, .agg o.arr), (3, .pointer (some ⟨g3, 0, none⟩)), (4, .slice none 0 0), (6, .int .i64 o.do_), (7, .bool false), (17, .bool false)] := F.keep ⟨rfl, rfl, rfl, rfl, rfl, rfl, rfl, trivial⟩
 refine then_n ?_
 refine wp_cond_false (F.e rfl) ?_
 refine wp_skip ?_
 refine in_n ?_
 refine then_n ?_
 refine wp_seq ?_
 refine wp_region_lit ?_
 refine list_val F (wn rfl) rfl rfl (.slice A ks.length c) (ex_move _ rfl _ (F.e rfl)) ?_; clear F a; intro a F
 refine list_val F (wn rfl) rfl rfl (.pointer (some ⟨g3, 18, none⟩)) (ex_fa _ _ _ rfl _ (F.e rfl) 18 s3_fa_71_3_18 ⟨g3, 18, none⟩ rfl) ?_; clear F a; intro a F
 refine list_val F (wn rfl) rfl rfl (.int .i64 o.exp) (ex_load _ _ rfl _ (F.e rfl) _ (lv1 s3_one_2 (M.cell (i := 0) rfl (j := 18) (St.arr_18 _)))) ?_; clear F a; intro a F
 refine list_do (wn rfl) (fun K hK => ?_)
 refine ow_call rfl rfl F 23 #[.slice A ks.length c, .int .i64 o.exp] (ex_call 23 _ _ rfl rfl s3_ent_23 _ (map2 (F.e rfl) (F.e rfl))) (refPrune_w ks A c o.exp _ (Kd.C_below hr M.bel) hmx) (fun e u hR => ?_)
 obtain ⟨A_28, c_28, he, O_x, hb⟩ := hR
 replace O_x := O_x.low M.bel.size
 refine ⟨.slice A_28 ((pruneN ks o.exp).length) c_28, he, ?_⟩; clear he F a; intro a F
 refine hK _ _ ?_
 clear hK K
 replace M := M.below hb; clear hb; try clear v
 refine list_val F (wn rfl) rfl rfl (.slice A_28 ((pruneN ks o.exp).length) c_28) (ex_assign _ rfl _ (F.e rfl)) ?_; clear F a; intro a F
 refine wpList_nil ?_
 replace F : Fr 29 a [(0, .slice A ks.length c), (1, .agg o.arr), (3, .pointer (some ⟨g3, 0, none⟩)), (4, .slice A_28 ((pruneN ks o.exp).length) c_28), (6, .int .i64 o.do_), (7, .bool false), (17, .bool false)] := F.keep ⟨rfl, rfl, rfl, rfl, rfl, rfl, rfl, trivial⟩
 refine then_n ?_
 refine wp_ret ?_
 rw [due_3 hd1 hd2]
 exact ret_tmp F rfl rfl ⟨_, _, rfl, O_x, M.bel⟩
theorem s3_ent_7 : ent? Tryz.prog 7 = true := by kernel_rfl
theorem s3_ent_17 : ent? Tryz.prog 17 = true := by kernel_rfl
theorem s3_ent_16 : ent? Tryz.prog 16 = true := by kernel_rfl
theorem s3_ent_18 : ent? Tryz.prog 18 = true := by kernel_rfl
theorem s3_ent_19 : ent? Tryz.prog 19 = true := by kernel_rfl
theorem s3_ent_20 : ent? Tryz.prog 20 = true := by kernel_rfl
theorem s3_bool_4 : bool? Tryz.prog 4 = true := by kernel_rfl
theorem s3_fa_85_1_1 : fa? Tryz.prog 85 1 1 = true := by kernel_rfl
theorem s3_fa_85_2_2 : fa? Tryz.prog 85 2 2 = true := by kernel_rfl
theorem s3_ent_10 : ent? Tryz.prog 10 = true := by kernel_rfl
set_option maxHeartbeats 1000000 in
set_option maxRecDepth 100000 in
theorem asks_any (ks : List Rv) (A : Option Addr) (c : Nat) (o : St) (w : World) (hr : kRv.C w A ks.length ks) (hc : ks.length ≤ c) (hl : ks.length ≤ 900000) :
    Calls Tryz.prog 5 #[.slice A ks.length c, .agg o.arr] w fun e w' => e = .returned (.bool true) ∧ Below w.heap.size w w' := by
 refine calls_start Tryz.func5 rfl rfl rfl (fun a F => ?_)
 have M : Mm w w [] := Mm.nil w
 refine wp_seq ?_
 refine wp_region_lit ?_
 refine list_do (wn rfl) (fun K hK => ?_)
 refine ow_box F M rfl rfl 71 _ rfl _ (F.e rfl) o.arr rfl ?_
 clear F M a; intro a g3 v F M hb hg
 refine hK _ _ ?_
 clear hK K
 clear hb hg; try clear w
 refine list_val F (wn rfl) rfl rfl (.bool false) (ex_assign _ rfl _ rfl) ?_; clear F a; intro a F
 refine wpList_nil ?_
 refine then_n ?_
 refine wp_seq ?_
 refine wp_region_lit ?_
 refine list_val F (wn rfl) rfl rfl (.slice A ks.length c) (ex_move _ rfl _ (F.e rfl)) ?_; clear F a; intro a F
 refine list_do (wn rfl) (fun K hK => ?_)
 refine ow_call rfl rfl F 7 #[.slice A ks.length c] (ex_call 7 _ _ rfl rfl s3_ent_7 _ (map1 (F.e rfl))) (lend_any ks _ c _ (Kd.C_below hr M.bel) hc hl) (fun e u hR => ?_)
 obtain ⟨XA, xc, he, O_x, hb⟩ := hR
 replace O_x := O_x.low M.bel.size
 refine ⟨.slice XA ks.length xc, he, ?_⟩; clear he F a; intro a F
 refine hK _ _ ?_
 clear hK K
 replace M := M.below hb; clear hb; try clear v
 refine list_val F (wn rfl) rfl rfl (.slice XA ks.length xc) (ex_assign _ rfl _ (F.e rfl)) ?_; clear F a; intro a F
 refine wpList_nil ?_
 refine then_n ?_
 refine wp_seq ?_
 refine wp_only (fun ar wr => Fr 97 ar [(0, .slice A ks.length c), (1, .agg o.arr), (3, .pointer (some ⟨g3, 0, none⟩)), (4, .bool false), (5, .slice XA ks.length xc), (6, .bool true)] ∧ Mm w wr [⟨g3, o.arr, 71⟩] ∧ Ow kRv 85 wr w.heap.size (.slice XA (ks ++ marks).length xc) (ks ++ marks)) ?_ ?_
 ·
  refine region_anyM s3_follows_mixedOrders M [⟨g3, o.arr, 71⟩] (fun w' M => (by refine M.pick' [0] _ ?_ (by decide); exact ⟨rfl, trivial⟩)) ?_; clear M; intro wD M hb
  replace O_x := O_x.below hb
  clear hb; try clear u
  have hS : Mm w wD [⟨g3, o.arr, 71⟩] := (by refine M.pick' [0] _ ?_ (by decide); exact ⟨rfl, trivial⟩)
  refine any_val F 0 rfl (by kernel_rfl) (wn rfl) rfl rfl (.slice XA ks.length xc) (fun w' hS' => ex_move _ rfl _ (F.e rfl)) hS ?_; clear F a; intro a F
  refine any_val F 3 rfl (by kernel_rfl) (wn rfl) rfl rfl (.slice A ks.length c) (fun w' hS' => ex_move _ rfl _ (F.e rfl)) hS ?_; clear F a; intro a F
  refine any_ready [1] (by kernel_rfl) (by simp) ?_
  refine ready_do rfl (wn rfl) (fun K hK => ?_) AllReadyH.nil
  refine ow_call rfl rfl F 17 #[.slice XA ks.length xc] (ex_call 17 _ _ rfl rfl s3_ent_17 _ (map1 (F.e rfl))) (check_n ks _ xc _ (lent_rd O_x) (by omega)) (fun e v hR => ?_)
  obtain ⟨he, hb⟩ := hR
  refine ⟨.int .i64 (chN ks), he, ?_⟩; clear he F a; intro a F
  replace hS : Mm w v [⟨g3, o.arr, 71⟩] := (by refine (M.below hb).pick' [0] _ ?_ (by decide); exact ⟨rfl, trivial⟩)
  refine hK _ _ hS ?_
  clear hK K
  replace O_x := O_x.below hb
  replace M := M.below hb; clear hb; try clear wD
  refine any_ready [2] (by kernel_rfl) (by simp) ?_
  refine ready_do rfl (wn rfl) (fun K hK => ?_) AllReadyH.nil
  refine ow_call rfl rfl F 16 #[.int .i64 (chN ks)] (ex_call 16 _ _ rfl rfl s3_ent_16 _ (map1 (F.e rfl))) (num_any _ _) (fun e u hR => ?_)
  obtain ⟨he, hb⟩ := hR
  refine ⟨.int .i64 (chN ks), he, ?_⟩; clear he F a; intro a F
  replace hS : Mm w u [⟨g3, o.arr, 71⟩] := (by refine (M.below hb).pick' [0] _ ?_ (by decide); exact ⟨rfl, trivial⟩)
  refine hK _ _ hS ?_
  clear hK K
  replace O_x := O_x.below hb
  replace M := M.below hb; clear hb; try clear v
  refine any_ready [4] (by kernel_rfl) (by simp) ?_
  refine ready_do rfl (wn rfl) (fun K hK => ?_) AllReadyH.nil
  refine ow_call rfl rfl F 18 #[.slice A ks.length c] (ex_call 18 _ _ rfl rfl s3_ent_18 _ (map1 (F.e rfl))) (refCheck_n ks _ c _ (Kd.C_below hr M.bel) (by omega)) (fun e v hR => ?_)
  obtain ⟨he, hb⟩ := hR
  refine ⟨.int .i64 (chN ks), he, ?_⟩; clear he F a; intro a F
  replace hS : Mm w v [⟨g3, o.arr, 71⟩] := (by refine (M.below hb).pick' [0] _ ?_ (by decide); exact ⟨rfl, trivial⟩)
  refine hK _ _ hS ?_
  clear hK K
  replace O_x := O_x.below hb
  replace M := M.below hb; clear hb; try clear u
  refine any_val F 5 rfl (by kernel_rfl) (wn rfl) rfl rfl (.bool true) (fun w' hS' => ex_bin .eql _ _ _ _ rfl .i64 _ _ (F.e rfl) (F.e rfl) _ (b_eql (by simp))) hS ?_; clear F a; intro a F
  refine any_val F 6 rfl (by kernel_rfl) (wn rfl) rfl rfl (.bool true) (fun w' hS' => ex_move _ rfl _ (F.e rfl)) hS ?_; clear F a; intro a F
  refine any_val F 7 rfl (by kernel_rfl) (F.wants 16 true rfl (by kernel_rfl) rfl true rfl) rfl rfl (.slice XA ks.length xc) (fun w' hS' => ex_move _ rfl _ (F.e rfl)) hS ?_; clear F a; intro a F
  refine any_val F 8 rfl (by kernel_rfl) (F.wants 16 true rfl (by kernel_rfl) rfl true rfl) rfl rfl (.pointer (some ⟨g3, 1, none⟩)) (fun w' hS' => ex_fa _ _ _ rfl _ (F.e rfl) 1 s3_fa_71_1_1 ⟨g3, 1, none⟩ rfl) hS ?_; clear F a; intro a F
  refine any_val F 9 rfl (by kernel_rfl) (F.wants 16 true rfl (by kernel_rfl) rfl true rfl) rfl rfl (.int .u64 o.grant) (fun w' hS' => ex_load _ _ rfl _ (F.e rfl) _ (lv1 s3_one_67 (hS'.cell (i := 0) rfl (j := 1) (St.arr_1 _)))) hS ?_; clear F a; intro a F
  refine any_val F 10 rfl (by kernel_rfl) (F.wants 16 true rfl (by kernel_rfl) rfl true rfl) rfl rfl (.pointer (some ⟨g3, 2, none⟩)) (fun w' hS' => ex_fa _ _ _ rfl _ (F.e rfl) 2 s3_fa_71_2_2 ⟨g3, 2, none⟩ rfl) hS ?_; clear F a; intro a F
  refine any_val F 11 rfl (by kernel_rfl) (F.wants 16 true rfl (by kernel_rfl) rfl true rfl) rfl rfl (.agg o.id.cs.toArray) (fun w' hS' => ex_load _ _ rfl _ (F.e rfl) _ (lrow69 o.id (St.id_at (hS'.at (i := 0) rfl)))) hS ?_; clear F a; intro a F
  refine any_val F 13 rfl (by kernel_rfl) (F.wants 16 true rfl (by kernel_rfl) rfl true rfl) rfl rfl (.slice A ks.length c) (fun w' hS' => ex_move _ rfl _ (F.e rfl)) hS ?_; clear F a; intro a F
  refine any_val F 14 rfl (by kernel_rfl) (F.wants 16 true rfl (by kernel_rfl) rfl true rfl) rfl rfl (.pointer (some ⟨g3, 1, none⟩)) (fun w' hS' => ex_fa _ _ _ rfl _ (F.e rfl) 1 s3_fa_71_1_1 ⟨g3, 1, none⟩ rfl) hS ?_; clear F a; intro a F
  refine any_val F 15 rfl (by kernel_rfl) (F.wants 16 true rfl (by kernel_rfl) rfl true rfl) rfl rfl (.int .u64 o.grant) (fun w' hS' => ex_load _ _ rfl _ (F.e rfl) _ (lv1 s3_one_67 (hS'.cell (i := 0) rfl (j := 1) (St.arr_1 _)))) hS ?_; clear F a; intro a F
  refine any_val F 16 rfl (by kernel_rfl) (F.wants 16 true rfl (by kernel_rfl) rfl true rfl) rfl rfl (.pointer (some ⟨g3, 2, none⟩)) (fun w' hS' => ex_fa _ _ _ rfl _ (F.e rfl) 2 s3_fa_71_2_2 ⟨g3, 2, none⟩ rfl) hS ?_; clear F a; intro a F
  refine any_val F 17 rfl (by kernel_rfl) (F.wants 16 true rfl (by kernel_rfl) rfl true rfl) rfl rfl (.agg o.id.cs.toArray) (fun w' hS' => ex_load _ _ rfl _ (F.e rfl) _ (lrow69 o.id (St.id_at (hS'.at (i := 0) rfl)))) hS ?_; clear F a; intro a F
  refine any_ready [12] (by kernel_rfl) (by simp) ?_
  refine ready_do rfl (F.wants 16 true rfl (by kernel_rfl) rfl true rfl) (fun K hK => ?_) AllReadyH.nil
  refine ow_call rfl rfl F 19 #[.slice XA ks.length xc, .int .u64 o.grant, .agg o.id.cs.toArray] (ex_call 19 _ _ rfl rfl s3_ent_19 _ (map3 (F.e rfl) (F.e rfl) (F.e rfl))) (has_w ks _ xc o.grant o.id _ (lent_rd O_x) (by omega) (lent_le O_x)) (fun e u hR => ?_)
  obtain ⟨he, hb⟩ := hR
  refine ⟨.bool (hasN ks o.grant o.id), he, ?_⟩; clear he F a; intro a F
  replace hS : Mm w u [⟨g3, o.arr, 71⟩] := (by refine (M.below hb).pick' [0] _ ?_ (by decide); exact ⟨rfl, trivial⟩)
  refine hK _ _ hS ?_
  clear hK K
  replace O_x := O_x.below hb
  replace M := M.below hb; clear hb; try clear v
  refine any_ready [18] (by kernel_rfl) (by simp) ?_
  refine ready_do rfl (F.wants 16 true rfl (by kernel_rfl) rfl true rfl) (fun K hK => ?_) AllReadyH.nil
  refine ow_call rfl rfl F 20 #[.slice A ks.length c, .int .u64 o.grant, .agg o.id.cs.toArray] (ex_call 20 _ _ rfl rfl s3_ent_20 _ (map3 (F.e rfl) (F.e rfl) (F.e rfl))) (refHas_w ks _ c o.grant o.id _ (Kd.C_below hr M.bel) (by omega)) (fun e v hR => ?_)
  obtain ⟨he, hb⟩ := hR
  refine ⟨.bool (hasN ks o.grant o.id), he, ?_⟩; clear he F a; intro a F
  replace hS : Mm w v [⟨g3, o.arr, 71⟩] := (by refine (M.below hb).pick' [0] _ ?_ (by decide); exact ⟨rfl, trivial⟩)
  refine hK _ _ hS ?_
  clear hK K
  replace O_x := O_x.below hb
  replace M := M.below hb; clear hb; try clear u
  refine any_val F 19 rfl (by kernel_rfl) (F.wants 16 true rfl (by kernel_rfl) rfl true rfl) rfl rfl (.bool true) (fun w' hS' => WG.ex_eqb _ _ _ _ rfl s3_bool_4 (hasN ks o.grant o.id) (hasN ks o.grant o.id) (F.e rfl) (F.e rfl) true (by simp)) hS ?_; clear F a; intro a F
  refine any_val F 20 rfl (by kernel_rfl) (wn rfl) rfl rfl (.bool true) (fun w' hS' => ex_pick_t _ _ _ rfl (F.e rfl) _ (F.e rfl)) hS ?_; clear F a; intro a F
  refine any_val F 21 rfl (by kernel_rfl) (wn rfl) rfl rfl (.bool true) (fun w' hS' => ex_assign _ rfl _ (F.e rfl)) hS ?_; clear F a; intro a F
  refine any_done (by kernel_rfl) ?_
  exact ⟨F.keep ⟨rfl, rfl, rfl, rfl, rfl, rfl, trivial⟩, (by refine M.pick' [0] _ ?_ (by decide); exact ⟨rfl, trivial⟩), O_x⟩
 clear F M a O_x
 intro a v hR; obtain ⟨F, M, O_x⟩ := hR; try clear u
 refine then_n ?_
 refine wp_seq ?_
 refine wp_seq ?_
 refine wp_region_lit ?_
 refine list_val F (wn rfl) rfl rfl (.int .i64 0) (ex_assign _ rfl _ rfl) ?_; clear F a; intro a F
 refine wpList_nil ?_
 refine then_n ?_
 refine wp_block ?_
 refine wp_loopN (fun mq ar wr => ∃ (i : Nat), Fr 97 ar [(0, .slice A ks.length c), (1, .agg o.arr), (3, .pointer (some ⟨g3, 0, none⟩)), (4, .bool false), (5, .slice XA ks.length xc), (6, .bool true), (7, .int .i64 ((i : Nat) : Int))] ∧ Mm w wr [⟨g3, o.arr, 71⟩] ∧ Ow kRv 85 wr w.heap.size (.slice XA (ks ++ marks).length xc) (ks ++ marks) ∧ i ≤ ks.length ∧ mq + i = ks.length) ks.length ?_ ?_
 ·
  exact ⟨0, F.keep ⟨rfl, rfl, rfl, rfl, rfl, rfl, rfl, trivial⟩, (by refine M.pick' [0] _ ?_ (by decide); exact ⟨rfl, trivial⟩), O_x, (Nat.zero_le _), (by omega)⟩
 clear F M a O_x
 rintro mq a u ⟨i, F, M, O_x, hi, hq⟩; try clear v
 by_cases hin : i < ks.length
 ·
  by_cases h20 : i < 20
  ·
   obtain ⟨x, hx⟩ : ∃ x, ks[i]? = some x := ⟨_, List.getElem?_eq_getElem (by omega)⟩
   obtain ⟨ad, hA, z⟩ := C_ix hr hx
   subst hA
   refine wp_seq ?_
   refine wp_seq ?_
   refine wp_region_lit ?_
   refine list_val F (wn rfl) rfl rfl (.int .i64 ((i : Nat) : Int)) (ex_move _ rfl _ (F.e rfl)) ?_; clear F a; intro a F
   refine list_val F (wn rfl) rfl rfl (.slice (some ad) ks.length c) (ex_move _ rfl _ (F.e rfl)) ?_; clear F a; intro a F
   refine list_val F (wn rfl) rfl rfl (.int .i64 ((ks.length : Nat) : Int)) (ex_len _ _ rfl 19 s3_sl_57_19 _ _ _ (F.e rfl)) ?_; clear F a; intro a F
   refine list_val F (wn rfl) rfl rfl (.bool true) (ex_bin .lss _ _ _ _ rfl .i64 _ _ (F.e rfl) (F.e rfl) _ (b_lss (decide_eq_true (by omega)))) ?_; clear F a; intro a F
   refine list_val F (wn rfl) rfl rfl (.bool true) (ex_move _ rfl _ (F.e rfl)) ?_; clear F a; intro a F
   refine list_val F (F.wants 35 true rfl (by kernel_rfl) rfl true rfl) rfl rfl (.int .i64 ((i : Nat) : Int)) (ex_move _ rfl _ (F.e rfl)) ?_; clear F a; intro a F
   refine list_val F (F.wants 35 true rfl (by kernel_rfl) rfl true rfl) rfl rfl (.bool true) (ex_bin .lss _ _ _ _ rfl .i64 _ _ (F.e rfl) rfl _ (b_lss (decide_eq_true (by omega)))) ?_; clear F a; intro a F
   refine list_val F (wn rfl) rfl rfl (.bool true) (ex_pick_t _ _ _ rfl (F.e rfl) _ (F.e rfl)) ?_; clear F a; intro a F
   refine wpList_nil ?_
   refine then_n ?_
   refine wp_cond_true (F.e rfl) ?_
   refine wp_skip ?_
   refine then_n ?_
   refine wp_seq ?_
   refine wp_block ?_
   refine wp_seq ?_
   refine wp_only (fun ar wr => Fr 97 ar [(0, .slice (some ad) ks.length c), (1, .agg o.arr), (3, .pointer (some ⟨g3, 0, none⟩)), (4, .bool false), (5, .slice XA ks.length xc), (6, .bool true), (7, .int .i64 ((i : Nat) : Int)), (38, .bool true)] ∧ Mm w wr [⟨g3, o.arr, 71⟩] ∧ Ow kRv 85 wr w.heap.size (.slice XA (ks ++ marks).length xc) (ks ++ marks)) ?_ ?_
   ·
    refine region_anyM s3_follows_mixedOrders M [⟨g3, o.arr, 71⟩] (fun w' M => (by refine M.pick' [0] _ ?_ (by decide); exact ⟨rfl, trivial⟩)) ?_; clear M; intro wD M hb
    replace O_x := O_x.below hb
    clear hb; try clear u
    have hS : Mm w wD [⟨g3, o.arr, 71⟩] := (by refine M.pick' [0] _ ?_ (by decide); exact ⟨rfl, trivial⟩)
    refine any_val F 0 rfl (by kernel_rfl) (wn rfl) rfl rfl (.bool true) (fun w' hS' => ex_move _ rfl _ (F.e rfl)) hS ?_; clear F a; intro a F
    refine any_val F 1 rfl (by kernel_rfl) (wn rfl) rfl rfl (.bool true) (fun w' hS' => ex_move _ rfl _ (F.e rfl)) hS ?_; clear F a; intro a F
    refine any_val F 2 rfl (by kernel_rfl) (F.wants 42 true rfl (by kernel_rfl) rfl true rfl) rfl rfl (.slice XA ks.length xc) (fun w' hS' => ex_move _ rfl _ (F.e rfl)) hS ?_; clear F a; intro a F
    refine any_val F 3 rfl (by kernel_rfl) (F.wants 42 true rfl (by kernel_rfl) rfl true rfl) rfl rfl (.slice (some ad) ks.length c) (fun w' hS' => ex_move _ rfl _ (F.e rfl)) hS ?_; clear F a; intro a F
    refine any_val F 4 rfl (by kernel_rfl) (F.wants 42 true rfl (by kernel_rfl) rfl true rfl) rfl rfl (.int .i64 ((i : Nat) : Int)) (fun w' hS' => ex_move _ rfl _ (F.e rfl)) hS ?_; clear F a; intro a F
    refine any_val F 5 rfl (by kernel_rfl) (F.wants 42 true rfl (by kernel_rfl) rfl true rfl) rfl rfl (.pointer (some (ad.add (i * 19)))) (fun w' hS' => ex_ix _ _ _ rfl 19 s3_sl_57_19 ad _ _ (F.e rfl) .i64 _ (F.e rfl) i rfl (by omega) (ad.add (i * 19)) rfl) hS ?_; clear F a; intro a F
    refine any_val F 6 rfl (by kernel_rfl) (F.wants 42 true rfl (by kernel_rfl) rfl true rfl) rfl rfl (.pointer (some ((ad.add (i * 19)).add 1))) (fun w' hS' => ex_fa _ _ _ rfl _ (F.e rfl) 1 s3_fa_85_1_1 ((ad.add (i * 19)).add 1) rfl) hS ?_; clear F a; intro a F
    refine any_val F 7 rfl (by kernel_rfl) (F.wants 42 true rfl (by kernel_rfl) rfl true rfl) rfl rfl (.int .u64 x.grant) (fun w' hS' => ex_load _ _ rfl _ (F.e rfl) _ (lv1 s3_one_67 ((z.below hS'.bel).cell 1 _ (Rv.cs_1 _)))) hS ?_; clear F a; intro a F
    refine any_val F 8 rfl (by kernel_rfl) (F.wants 42 true rfl (by kernel_rfl) rfl true rfl) rfl rfl (.slice (some ad) ks.length c) (fun w' hS' => ex_move _ rfl _ (F.e rfl)) hS ?_; clear F a; intro a F
    refine any_val F 9 rfl (by kernel_rfl) (F.wants 42 true rfl (by kernel_rfl) rfl true rfl) rfl rfl (.int .i64 ((i : Nat) : Int)) (fun w' hS' => ex_move _ rfl _ (F.e rfl)) hS ?_; clear F a; intro a F
    refine any_val F 10 rfl (by kernel_rfl) (F.wants 42 true rfl (by kernel_rfl) rfl true rfl) rfl rfl (.pointer (some (ad.add (i * 19)))) (fun w' hS' => ex_ix _ _ _ rfl 19 s3_sl_57_19 ad _ _ (F.e rfl) .i64 _ (F.e rfl) i rfl (by omega) (ad.add (i * 19)) rfl) hS ?_; clear F a; intro a F
    refine any_val F 11 rfl (by kernel_rfl) (F.wants 42 true rfl (by kernel_rfl) rfl true rfl) rfl rfl (.pointer (some ((ad.add (i * 19)).add 2))) (fun w' hS' => ex_fa _ _ _ rfl _ (F.e rfl) 2 s3_fa_85_2_2 ((ad.add (i * 19)).add 2) rfl) hS ?_; clear F a; intro a F
    refine any_val F 12 rfl (by kernel_rfl) (F.wants 42 true rfl (by kernel_rfl) rfl true rfl) rfl rfl (.agg x.id.cs.toArray) (fun w' hS' => ex_load _ _ rfl _ (F.e rfl) _ (lrow69 x.id (Rv.id_at ((z.below hS'.bel))))) hS ?_; clear F a; intro a F
    refine any_val F 14 rfl (by kernel_rfl) (F.wants 42 true rfl (by kernel_rfl) rfl true rfl) rfl rfl (.slice (some ad) ks.length c) (fun w' hS' => ex_move _ rfl _ (F.e rfl)) hS ?_; clear F a; intro a F
    refine any_val F 15 rfl (by kernel_rfl) (F.wants 42 true rfl (by kernel_rfl) rfl true rfl) rfl rfl (.slice (some ad) ks.length c) (fun w' hS' => ex_move _ rfl _ (F.e rfl)) hS ?_; clear F a; intro a F
    refine any_val F 16 rfl (by kernel_rfl) (F.wants 42 true rfl (by kernel_rfl) rfl true rfl) rfl rfl (.int .i64 ((i : Nat) : Int)) (fun w' hS' => ex_move _ rfl _ (F.e rfl)) hS ?_; clear F a; intro a F
    refine any_val F 17 rfl (by kernel_rfl) (F.wants 42 true rfl (by kernel_rfl) rfl true rfl) rfl rfl (.pointer (some (ad.add (i * 19)))) (fun w' hS' => ex_ix _ _ _ rfl 19 s3_sl_57_19 ad _ _ (F.e rfl) .i64 _ (F.e rfl) i rfl (by omega) (ad.add (i * 19)) rfl) hS ?_; clear F a; intro a F
    refine any_val F 18 rfl (by kernel_rfl) (F.wants 42 true rfl (by kernel_rfl) rfl true rfl) rfl rfl (.pointer (some ((ad.add (i * 19)).add 1))) (fun w' hS' => ex_fa _ _ _ rfl _ (F.e rfl) 1 s3_fa_85_1_1 ((ad.add (i * 19)).add 1) rfl) hS ?_; clear F a; intro a F
    refine any_val F 19 rfl (by kernel_rfl) (F.wants 42 true rfl (by kernel_rfl) rfl true rfl) rfl rfl (.int .u64 x.grant) (fun w' hS' => ex_load _ _ rfl _ (F.e rfl) _ (lv1 s3_one_67 ((z.below hS'.bel).cell 1 _ (Rv.cs_1 _)))) hS ?_; clear F a; intro a F
    refine any_val F 20 rfl (by kernel_rfl) (F.wants 42 true rfl (by kernel_rfl) rfl true rfl) rfl rfl (.slice (some ad) ks.length c) (fun w' hS' => ex_move _ rfl _ (F.e rfl)) hS ?_; clear F a; intro a F
    refine any_val F 21 rfl (by kernel_rfl) (F.wants 42 true rfl (by kernel_rfl) rfl true rfl) rfl rfl (.int .i64 ((i : Nat) : Int)) (fun w' hS' => ex_move _ rfl _ (F.e rfl)) hS ?_; clear F a; intro a F
    refine any_val F 22 rfl (by kernel_rfl) (F.wants 42 true rfl (by kernel_rfl) rfl true rfl) rfl rfl (.pointer (some (ad.add (i * 19)))) (fun w' hS' => ex_ix _ _ _ rfl 19 s3_sl_57_19 ad _ _ (F.e rfl) .i64 _ (F.e rfl) i rfl (by omega) (ad.add (i * 19)) rfl) hS ?_; clear F a; intro a F
    refine any_val F 23 rfl (by kernel_rfl) (F.wants 42 true rfl (by kernel_rfl) rfl true rfl) rfl rfl (.pointer (some ((ad.add (i * 19)).add 2))) (fun w' hS' => ex_fa _ _ _ rfl _ (F.e rfl) 2 s3_fa_85_2_2 ((ad.add (i * 19)).add 2) rfl) hS ?_; clear F a; intro a F
    refine any_val F 24 rfl (by kernel_rfl) (F.wants 42 true rfl (by kernel_rfl) rfl true rfl) rfl rfl (.agg x.id.cs.toArray) (fun w' hS' => ex_load _ _ rfl _ (F.e rfl) _ (lrow69 x.id (Rv.id_at ((z.below hS'.bel))))) hS ?_; clear F a; intro a F
    refine any_ready [13] (by kernel_rfl) (by simp) ?_
    refine ready_do rfl (F.wants 42 true rfl (by kernel_rfl) rfl true rfl) (fun K hK => ?_) AllReadyH.nil
    refine ow_call rfl rfl F 19 #[.slice XA ks.length xc, .int .u64 x.grant, .agg x.id.cs.toArray] (ex_call 19 _ _ rfl rfl s3_ent_19 _ (map3 (F.e rfl) (F.e rfl) (F.e rfl))) (has_w ks _ xc x.grant x.id _ (lent_rd O_x) (by omega) (lent_le O_x)) (fun e v hR => ?_)
    obtain ⟨he, hb⟩ := hR
    refine ⟨.bool (hasN ks x.grant x.id), he, ?_⟩; clear he F a; intro a F
    replace hS : Mm w v [⟨g3, o.arr, 71⟩] := (by refine (M.below hb).pick' [0] _ ?_ (by decide); exact ⟨rfl, trivial⟩)
    refine hK _ _ hS ?_
    clear hK K
    replace O_x := O_x.below hb
    replace M := M.below hb; clear hb; try clear wD
    refine any_ready [25] (by kernel_rfl) (by simp) ?_
    refine ready_do rfl (F.wants 42 true rfl (by kernel_rfl) rfl true rfl) (fun K hK => ?_) AllReadyH.nil
    refine ow_call rfl rfl F 20 #[.slice (some ad) ks.length c, .int .u64 x.grant, .agg x.id.cs.toArray] (ex_call 20 _ _ rfl rfl s3_ent_20 _ (map3 (F.e rfl) (F.e rfl) (F.e rfl))) (refHas_w ks _ c x.grant x.id _ (Kd.C_below hr M.bel) (by omega)) (fun e u hR => ?_)
    obtain ⟨he, hb⟩ := hR
    refine ⟨.bool (hasN ks x.grant x.id), he, ?_⟩; clear he F a; intro a F
    replace hS : Mm w u [⟨g3, o.arr, 71⟩] := (by refine (M.below hb).pick' [0] _ ?_ (by decide); exact ⟨rfl, trivial⟩)
    refine hK _ _ hS ?_
    clear hK K
    replace O_x := O_x.below hb
    replace M := M.below hb; clear hb; try clear v
    refine any_val F 26 rfl (by kernel_rfl) (F.wants 42 true rfl (by kernel_rfl) rfl true rfl) rfl rfl (.bool true) (fun w' hS' => WG.ex_eqb _ _ _ _ rfl s3_bool_4 (hasN ks x.grant x.id) (hasN ks x.grant x.id) (F.e rfl) (F.e rfl) true (by simp)) hS ?_; clear F a; intro a F
    refine any_val F 27 rfl (by kernel_rfl) (wn rfl) rfl rfl (.bool true) (fun w' hS' => ex_pick_t _ _ _ rfl (F.e rfl) _ (F.e rfl)) hS ?_; clear F a; intro a F
    refine any_val F 28 rfl (by kernel_rfl) (wn rfl) rfl rfl (.bool true) (fun w' hS' => ex_assign _ rfl _ (F.e rfl)) hS ?_; clear F a; intro a F
    refine any_done (by kernel_rfl) ?_
    exact ⟨F.keep ⟨rfl, rfl, rfl, rfl, rfl, rfl, rfl, rfl, trivial⟩, (by refine M.pick' [0] _ ?_ (by decide); exact ⟨rfl, trivial⟩), O_x⟩
   clear F M a O_x
   intro a v hR; obtain ⟨F, M, O_x⟩ := hR; try clear u
   refine then_n ?_
   refine wp_only (fun ar wr => Fr 97 ar [(0, .slice (some ad) ks.length c), (1, .agg o.arr), (3, .pointer (some ⟨g3, 0, none⟩)), (4, .bool false), (5, .slice XA ks.length xc), (6, .bool true), (7, .int .i64 ((i : Nat) : Int)), (38, .bool true)] ∧ Mm w wr [⟨g3, o.arr, 71⟩] ∧ Ow kRv 85 wr w.heap.size (.slice XA (ks ++ marks).length xc) (ks ++ marks)) ?_ ?_
   ·
    refine region_anyM s3_follows_mixedOrders M [⟨g3, o.arr, 71⟩] (fun w' M => (by refine M.pick' [0] _ ?_ (by decide); exact ⟨rfl, trivial⟩)) ?_; clear M; intro wD M hb
    replace O_x := O_x.below hb
    clear hb; try clear v
    have hS : Mm w wD [⟨g3, o.arr, 71⟩] := (by refine M.pick' [0] _ ?_ (by decide); exact ⟨rfl, trivial⟩)
    refine any_val F 0 rfl (by kernel_rfl) (wn rfl) rfl rfl (.bool true) (fun w' hS' => ex_move _ rfl _ (F.e rfl)) hS ?_; clear F a; intro a F
    refine any_val F 1 rfl (by kernel_rfl) (wn rfl) rfl rfl (.bool true) (fun w' hS' => ex_move _ rfl _ (F.e rfl)) hS ?_; clear F a; intro a F
    refine any_val F 2 rfl (by kernel_rfl) (F.wants 70 true rfl (by kernel_rfl) rfl true rfl) rfl rfl (.slice XA ks.length xc) (fun w' hS' => ex_move _ rfl _ (F.e rfl)) hS ?_; clear F a; intro a F
    refine any_val F 3 rfl (by kernel_rfl) (F.wants 70 true rfl (by kernel_rfl) rfl true rfl) rfl rfl (.slice (some ad) ks.length c) (fun w' hS' => ex_move _ rfl _ (F.e rfl)) hS ?_; clear F a; intro a F
    refine any_val F 4 rfl (by kernel_rfl) (F.wants 70 true rfl (by kernel_rfl) rfl true rfl) rfl rfl (.int .i64 ((i : Nat) : Int)) (fun w' hS' => ex_move _ rfl _ (F.e rfl)) hS ?_; clear F a; intro a F
    refine any_val F 5 rfl (by kernel_rfl) (F.wants 70 true rfl (by kernel_rfl) rfl true rfl) rfl rfl (.pointer (some (ad.add (i * 19)))) (fun w' hS' => ex_ix _ _ _ rfl 19 s3_sl_57_19 ad _ _ (F.e rfl) .i64 _ (F.e rfl) i rfl (by omega) (ad.add (i * 19)) rfl) hS ?_; clear F a; intro a F
    refine any_val F 6 rfl (by kernel_rfl) (F.wants 70 true rfl (by kernel_rfl) rfl true rfl) rfl rfl (.pointer (some ((ad.add (i * 19)).add 1))) (fun w' hS' => ex_fa _ _ _ rfl _ (F.e rfl) 1 s3_fa_85_1_1 ((ad.add (i * 19)).add 1) rfl) hS ?_; clear F a; intro a F
    refine any_val F 7 rfl (by kernel_rfl) (F.wants 70 true rfl (by kernel_rfl) rfl true rfl) rfl rfl (.int .u64 x.grant) (fun w' hS' => ex_load _ _ rfl _ (F.e rfl) _ (lv1 s3_one_67 ((z.below hS'.bel).cell 1 _ (Rv.cs_1 _)))) hS ?_; clear F a; intro a F
    refine any_val F 8 rfl (by kernel_rfl) (F.wants 70 true rfl (by kernel_rfl) rfl true rfl) rfl rfl (.pointer (some ⟨g3, 2, none⟩)) (fun w' hS' => ex_fa _ _ _ rfl _ (F.e rfl) 2 s3_fa_71_2_2 ⟨g3, 2, none⟩ rfl) hS ?_; clear F a; intro a F
    refine any_val F 9 rfl (by kernel_rfl) (F.wants 70 true rfl (by kernel_rfl) rfl true rfl) rfl rfl (.agg o.id.cs.toArray) (fun w' hS' => ex_load _ _ rfl _ (F.e rfl) _ (lrow69 o.id (St.id_at (hS'.at (i := 0) rfl)))) hS ?_; clear F a; intro a F
    refine any_val F 11 rfl (by kernel_rfl) (F.wants 70 true rfl (by kernel_rfl) rfl true rfl) rfl rfl (.slice (some ad) ks.length c) (fun w' hS' => ex_move _ rfl _ (F.e rfl)) hS ?_; clear F a; intro a F
    refine any_val F 12 rfl (by kernel_rfl) (F.wants 70 true rfl (by kernel_rfl) rfl true rfl) rfl rfl (.slice (some ad) ks.length c) (fun w' hS' => ex_move _ rfl _ (F.e rfl)) hS ?_; clear F a; intro a F
    refine any_val F 13 rfl (by kernel_rfl) (F.wants 70 true rfl (by kernel_rfl) rfl true rfl) rfl rfl (.int .i64 ((i : Nat) : Int)) (fun w' hS' => ex_move _ rfl _ (F.e rfl)) hS ?_; clear F a; intro a F
    refine any_val F 14 rfl (by kernel_rfl) (F.wants 70 true rfl (by kernel_rfl) rfl true rfl) rfl rfl (.pointer (some (ad.add (i * 19)))) (fun w' hS' => ex_ix _ _ _ rfl 19 s3_sl_57_19 ad _ _ (F.e rfl) .i64 _ (F.e rfl) i rfl (by omega) (ad.add (i * 19)) rfl) hS ?_; clear F a; intro a F
    refine any_val F 15 rfl (by kernel_rfl) (F.wants 70 true rfl (by kernel_rfl) rfl true rfl) rfl rfl (.pointer (some ((ad.add (i * 19)).add 1))) (fun w' hS' => ex_fa _ _ _ rfl _ (F.e rfl) 1 s3_fa_85_1_1 ((ad.add (i * 19)).add 1) rfl) hS ?_; clear F a; intro a F
    refine any_val F 16 rfl (by kernel_rfl) (F.wants 70 true rfl (by kernel_rfl) rfl true rfl) rfl rfl (.int .u64 x.grant) (fun w' hS' => ex_load _ _ rfl _ (F.e rfl) _ (lv1 s3_one_67 ((z.below hS'.bel).cell 1 _ (Rv.cs_1 _)))) hS ?_; clear F a; intro a F
    refine any_val F 17 rfl (by kernel_rfl) (F.wants 70 true rfl (by kernel_rfl) rfl true rfl) rfl rfl (.pointer (some ⟨g3, 2, none⟩)) (fun w' hS' => ex_fa _ _ _ rfl _ (F.e rfl) 2 s3_fa_71_2_2 ⟨g3, 2, none⟩ rfl) hS ?_; clear F a; intro a F
    refine any_val F 18 rfl (by kernel_rfl) (F.wants 70 true rfl (by kernel_rfl) rfl true rfl) rfl rfl (.agg o.id.cs.toArray) (fun w' hS' => ex_load _ _ rfl _ (F.e rfl) _ (lrow69 o.id (St.id_at (hS'.at (i := 0) rfl)))) hS ?_; clear F a; intro a F
    refine any_ready [10] (by kernel_rfl) (by simp) ?_
    refine ready_do rfl (F.wants 70 true rfl (by kernel_rfl) rfl true rfl) (fun K hK => ?_) AllReadyH.nil
    refine ow_call rfl rfl F 19 #[.slice XA ks.length xc, .int .u64 x.grant, .agg o.id.cs.toArray] (ex_call 19 _ _ rfl rfl s3_ent_19 _ (map3 (F.e rfl) (F.e rfl) (F.e rfl))) (has_w ks _ xc x.grant o.id _ (lent_rd O_x) (by omega) (lent_le O_x)) (fun e v hR => ?_)
    obtain ⟨he, hb⟩ := hR
    refine ⟨.bool (hasN ks x.grant o.id), he, ?_⟩; clear he F a; intro a F
    replace hS : Mm w v [⟨g3, o.arr, 71⟩] := (by refine (M.below hb).pick' [0] _ ?_ (by decide); exact ⟨rfl, trivial⟩)
    refine hK _ _ hS ?_
    clear hK K
    replace O_x := O_x.below hb
    replace M := M.below hb; clear hb; try clear wD
    refine any_ready [19] (by kernel_rfl) (by simp) ?_
    refine ready_do rfl (F.wants 70 true rfl (by kernel_rfl) rfl true rfl) (fun K hK => ?_) AllReadyH.nil
    refine ow_call rfl rfl F 20 #[.slice (some ad) ks.length c, .int .u64 x.grant, .agg o.id.cs.toArray] (ex_call 20 _ _ rfl rfl s3_ent_20 _ (map3 (F.e rfl) (F.e rfl) (F.e rfl))) (refHas_w ks _ c x.grant o.id _ (Kd.C_below hr M.bel) (by omega)) (fun e u hR => ?_)
    obtain ⟨he, hb⟩ := hR
    refine ⟨.bool (hasN ks x.grant o.id), he, ?_⟩; clear he F a; intro a F
    replace hS : Mm w u [⟨g3, o.arr, 71⟩] := (by refine (M.below hb).pick' [0] _ ?_ (by decide); exact ⟨rfl, trivial⟩)
    refine hK _ _ hS ?_
    clear hK K
    replace O_x := O_x.below hb
    replace M := M.below hb; clear hb; try clear v
    refine any_val F 20 rfl (by kernel_rfl) (F.wants 70 true rfl (by kernel_rfl) rfl true rfl) rfl rfl (.bool true) (fun w' hS' => WG.ex_eqb _ _ _ _ rfl s3_bool_4 (hasN ks x.grant o.id) (hasN ks x.grant o.id) (F.e rfl) (F.e rfl) true (by simp)) hS ?_; clear F a; intro a F
    refine any_val F 21 rfl (by kernel_rfl) (wn rfl) rfl rfl (.bool true) (fun w' hS' => ex_pick_t _ _ _ rfl (F.e rfl) _ (F.e rfl)) hS ?_; clear F a; intro a F
    refine any_val F 22 rfl (by kernel_rfl) (wn rfl) rfl rfl (.bool true) (fun w' hS' => ex_assign _ rfl _ (F.e rfl)) hS ?_; clear F a; intro a F
    refine any_done (by kernel_rfl) ?_
    exact ⟨F.keep ⟨rfl, rfl, rfl, rfl, rfl, rfl, rfl, rfl, trivial⟩, (by refine M.pick' [0] _ ?_ (by decide); exact ⟨rfl, trivial⟩), O_x⟩
   clear F M a O_x
   intro a u hR; obtain ⟨F, M, O_x⟩ := hR; try clear v
   refine in_n ?_
   refine then_n ?_
   refine wp_region_lit ?_
   refine list_val F (wn rfl) rfl rfl (.int .i64 ((i : Nat) : Int)) (ex_move _ rfl _ (F.e rfl)) ?_; clear F a; intro a F
   refine list_val F (wn rfl) rfl rfl (.int .i64 ((i + 1 : Nat) : Int)) (ex_bin .add _ _ _ _ rfl .i64 _ _ (F.e rfl) rfl _ (b_add ((w_i64 (by omega) (by omega)).trans (by omega)))) ?_; clear F a; intro a F
   refine list_val F (wn rfl) rfl rfl (.int .i64 ((i + 1 : Nat) : Int)) (ex_assign _ rfl _ (F.e rfl)) ?_; clear F a; intro a F
   refine wpList_nil ?_
   replace F : Fr 97 a [(0, .slice (some ad) ks.length c), (1, .agg o.arr), (3, .pointer (some ⟨g3, 0, none⟩)), (4, .bool false), (5, .slice XA ks.length xc), (6, .bool true), (7, .int .i64 ((i + 1 : Nat) : Int)), (38, .bool true)] := F.keep ⟨rfl, rfl, rfl, rfl, rfl, rfl, rfl, rfl, trivial⟩
   refine then_n ?_
   exact ⟨ks.length - (i + 1), by omega, (i + 1), F.keep ⟨rfl, rfl, rfl, rfl, rfl, rfl, rfl, trivial⟩, (by refine M.pick' [0] _ ?_ (by decide); exact ⟨rfl, trivial⟩), O_x, (by omega), (by omega)⟩
  refine wp_seq ?_
  refine wp_seq ?_
  refine wp_region_lit ?_
  refine list_val F (wn rfl) rfl rfl (.int .i64 ((i : Nat) : Int)) (ex_move _ rfl _ (F.e rfl)) ?_; clear F a; intro a F
  refine list_val F (wn rfl) rfl rfl (.slice A ks.length c) (ex_move _ rfl _ (F.e rfl)) ?_; clear F a; intro a F
  refine list_val F (wn rfl) rfl rfl (.int .i64 ((ks.length : Nat) : Int)) (ex_len _ _ rfl 19 s3_sl_57_19 _ _ _ (F.e rfl)) ?_; clear F a; intro a F
  refine list_val F (wn rfl) rfl rfl (.bool true) (ex_bin .lss _ _ _ _ rfl .i64 _ _ (F.e rfl) (F.e rfl) _ (b_lss (decide_eq_true (by omega)))) ?_; clear F a; intro a F
  refine list_val F (wn rfl) rfl rfl (.bool true) (ex_move _ rfl _ (F.e rfl)) ?_; clear F a; intro a F
  refine list_val F (F.wants 35 true rfl (by kernel_rfl) rfl true rfl) rfl rfl (.int .i64 ((i : Nat) : Int)) (ex_move _ rfl _ (F.e rfl)) ?_; clear F a; intro a F
  refine list_val F (F.wants 35 true rfl (by kernel_rfl) rfl true rfl) rfl rfl (.bool false) (ex_bin .lss _ _ _ _ rfl .i64 _ _ (F.e rfl) rfl _ (b_lss (decide_eq_false (by omega)))) ?_; clear F a; intro a F
  refine list_val F (wn rfl) rfl rfl (.bool false) (ex_pick_t _ _ _ rfl (F.e rfl) _ (F.e rfl)) ?_; clear F a; intro a F
  refine wpList_nil ?_
  refine then_n ?_
  refine wp_cond_false (F.e rfl) ?_
  refine wp_exit ?_
  refine then_x ?_
  refine then_x ?_
  refine in_hit ?_
  refine then_n ?_
  refine wp_seq ?_
  refine wp_region_lit ?_
  refine list_val F (wn rfl) rfl rfl (.slice XA ks.length xc) (ex_move _ rfl _ (F.e rfl)) ?_; clear F a; intro a F
  refine list_val F (wn rfl) rfl rfl (.slice A ks.length c) (ex_move _ rfl _ (F.e rfl)) ?_; clear F a; intro a F
  refine list_do (wn rfl) (fun K hK => ?_)
  refine ow_call rfl rfl F 10 #[.slice XA ks.length xc, .slice A ks.length c] (ex_call 10 _ _ rfl rfl s3_ent_10 _ (map2 (F.e rfl) (F.e rfl))) (back_any ks _ xc _ c _ (Ow.rd O_x).1 (Ow.rd O_x).2.2 (Kd.C_below hr M.bel) hc hl) (fun e v hR => ?_)
  obtain ⟨he, hb⟩ := hR
  refine ⟨.bool true, he, ?_⟩; clear he F a; intro a F
  refine hK _ _ ?_
  clear hK K
  replace O_x := O_x.below hb
  replace M := M.below hb; clear hb; try clear u
  refine list_val F (wn rfl) rfl rfl (.bool true) (ex_move _ rfl _ (F.e rfl)) ?_; clear F a; intro a F
  refine list_val F (F.wants 94 true rfl (by kernel_rfl) rfl true rfl) rfl rfl (.bool true) (ex_move _ rfl _ (F.e rfl)) ?_; clear F a; intro a F
  refine list_val F (wn rfl) rfl rfl (.bool true) (ex_pick_t _ _ _ rfl (F.e rfl) _ (F.e rfl)) ?_; clear F a; intro a F
  refine list_val F (wn rfl) rfl rfl (.bool true) (ex_assign _ rfl _ (F.e rfl)) ?_; clear F a; intro a F
  refine wpList_nil ?_
  refine then_n ?_
  refine wp_ret ?_
  exact ret_tmp F rfl rfl ⟨rfl, M.bel⟩
 refine wp_seq ?_
 refine wp_seq ?_
 refine wp_region_lit ?_
 refine list_val F (wn rfl) rfl rfl (.int .i64 ((i : Nat) : Int)) (ex_move _ rfl _ (F.e rfl)) ?_; clear F a; intro a F
 refine list_val F (wn rfl) rfl rfl (.slice A ks.length c) (ex_move _ rfl _ (F.e rfl)) ?_; clear F a; intro a F
 refine list_val F (wn rfl) rfl rfl (.int .i64 ((ks.length : Nat) : Int)) (ex_len _ _ rfl 19 s3_sl_57_19 _ _ _ (F.e rfl)) ?_; clear F a; intro a F
 refine list_val F (wn rfl) rfl rfl (.bool false) (ex_bin .lss _ _ _ _ rfl .i64 _ _ (F.e rfl) (F.e rfl) _ (b_lss (decide_eq_false (by omega)))) ?_; clear F a; intro a F
 refine list_val F (wn rfl) rfl rfl (.bool false) (ex_move _ rfl _ (F.e rfl)) ?_; clear F a; intro a F
 refine list_skip F (F.wants 35 false rfl (by kernel_rfl) rfl false rfl) rfl rfl ?_; clear F a; intro a F
 refine list_skip F (F.wants 35 false rfl (by kernel_rfl) rfl false rfl) rfl rfl ?_; clear F a; intro a F
 refine list_val F (wn rfl) rfl rfl (.bool false) (ex_pick_f _ _ _ rfl (F.e rfl) _ rfl) ?_; clear F a; intro a F
 refine wpList_nil ?_
 refine then_n ?_
 refine wp_cond_false (F.e rfl) ?_
 refine wp_exit ?_
 refine then_x ?_
 refine then_x ?_
 refine in_hit ?_
 refine then_n ?_
 refine wp_seq ?_
 refine wp_region_lit ?_
 refine list_val F (wn rfl) rfl rfl (.slice XA ks.length xc) (ex_move _ rfl _ (F.e rfl)) ?_; clear F a; intro a F
 refine list_val F (wn rfl) rfl rfl (.slice A ks.length c) (ex_move _ rfl _ (F.e rfl)) ?_; clear F a; intro a F
 refine list_do (wn rfl) (fun K hK => ?_)
 refine ow_call rfl rfl F 10 #[.slice XA ks.length xc, .slice A ks.length c] (ex_call 10 _ _ rfl rfl s3_ent_10 _ (map2 (F.e rfl) (F.e rfl))) (back_any ks _ xc _ c _ (Ow.rd O_x).1 (Ow.rd O_x).2.2 (Kd.C_below hr M.bel) hc hl) (fun e v hR => ?_)
 obtain ⟨he, hb⟩ := hR
 refine ⟨.bool true, he, ?_⟩; clear he F a; intro a F
 refine hK _ _ ?_
 clear hK K
 replace O_x := O_x.below hb
 replace M := M.below hb; clear hb; try clear u
 refine list_val F (wn rfl) rfl rfl (.bool true) (ex_move _ rfl _ (F.e rfl)) ?_; clear F a; intro a F
 refine list_val F (F.wants 94 true rfl (by kernel_rfl) rfl true rfl) rfl rfl (.bool true) (ex_move _ rfl _ (F.e rfl)) ?_; clear F a; intro a F
 refine list_val F (wn rfl) rfl rfl (.bool true) (ex_pick_t _ _ _ rfl (F.e rfl) _ (F.e rfl)) ?_; clear F a; intro a F
 refine list_val F (wn rfl) rfl rfl (.bool true) (ex_assign _ rfl _ (F.e rfl)) ?_; clear F a; intro a F
 refine wpList_nil ?_
 refine then_n ?_
 refine wp_ret ?_
 exact ret_tmp F rfl rfl ⟨rfl, M.bel⟩
end Go.Proofs.YtnjbjjmoglogeaaGreat
