/- What RingExact carries along: the book, the seat, the ring that there is; posternlaw1.OverKeys, Book.Ring, Seat.Ring, posternref5.First, posternlaw5.placed: their walks. Conditions: those of each lemma. -/
import Derived.Test.YtnechcibpmjblaaRH
namespace Go.Proofs.Ytnechcibpmjblaa
open Go.RowKit Go.Proofs.YtnechcibpmjblaaW.PrintWords KB WG RO BK
set_option linter.unusedVariables false
set_option linter.unusedSimpArgs false
set_option linter.unnecessarySimpa false
def seC (kv : Value) : List Value := [.slice none 0 0, .slice none 0 0, .slice none 0 0, .slice none 0 0, kv, .slice none 0 0, .slice none 0 0, .slice none 0 0, .slice none 0 0, .slice none 0 0, .slice none 0 0, .slice none 0 0, .slice none 0 0, .slice none 0 0]
theorem Only_pre {base : Nat} {ts : List TypeId} {x : Option Nat} {w u v : World} (hb : Below w.heap.size w u) (h : Only base ts x u v) : Only base ts x w v := ⟨h.1.trans hb.os, h.2.1.trans hb.tape, h.2.2.1.trans hb.output, Nat.le_trans hb.size h.2.2.2.1, fun g o hg hc => h.2.2.2.2 g o (by rw [hb.block g (Array.getElem?_eq_some_iff.1 hg).1]; exact hg) hc⟩
theorem Ow_cut0 {w : World} {b n c : Nat} {A : Option Addr} {xs : List Key} (h : Ow kKey 107 w b (.slice A n c) xs) : Ow kKey 107 w b (.slice A 0 c) [] := by
  rcases own_form (enc := Key.cs) (sz := 34) (hl := Key.cs_len) (h1 := Key.cs_one) h with ⟨rfl, rfl, rfl⟩ | ⟨g, arr, rfl, hg, hh, hs, hnc, hcm⟩
  · exact Ow.nil kKey 107 w b
  · have e : arr = (([] : List Key).flatMap Key.cs ++ arr.toList).toArray := by simp
    rw [e] at hh
    exact Ow.of_block (enc := Key.cs) (m := 34) (hl := Key.cs_len) (h1 := Key.cs_one) hh hg rfl (Nat.zero_le _) hcm (by simpa using hs)
theorem Ow_cutn {w : World} {b n c k : Nat} {A : Option Addr} {xs : List Key} (h : Ow kKey 107 w b (.slice A n c) xs) (hk : k ≤ xs.length) : Ow kKey 107 w b (.slice A (xs.take k).length c) (xs.take k) := by
  by_cases h0 : xs.length = 0
  · have : xs = [] := List.length_eq_zero_iff.1 h0
    subst this
    rw [List.take_nil]
    have h2 := (Ow.rd (k := kKey) h).2.1
    subst h2
    exact h
  · obtain ⟨g, sp, rfl, rfl, hg, hh, hl, hnc, hcm⟩ := Ow.open (enc := Key.cs) (m := 34) (hl := Key.cs_len) (h1 := Key.cs_one) h (by decide) (by omega)
    have e : xs.flatMap Key.cs ++ sp = (xs.take k).flatMap Key.cs ++ ((xs.drop k).flatMap Key.cs ++ sp) := by rw [← List.append_assoc, ← List.flatMap_append, List.take_append_drop]
    rw [e] at hh hl
    exact Ow.of_block (enc := Key.cs) (m := 34) (hl := Key.cs_len) (h1 := Key.cs_one) hh hg rfl (by rw [List.length_take]; omega) hcm hl
theorem own_blk1 {w : World} {b g : Nat} {k : Key} (hh : w.heap[g]? = some (.cells k.arr 107 (0, 0))) (hg : b ≤ g) : OwnKeys w b (.slice (some ⟨g, 0, none⟩) 1 1) [k] :=
  own_of_block (ks := [k]) (sp := []) (by simpa [Key.arr] using hh) hg rfl (Nat.le_refl _) (by decide) (by simp [Key.cs_len])
theorem Bk.far {own : Nat → Nat} {base gb : Nat} {KA : Option Addr} {Kc : Nat} {rows : List Sl} {IA : Option Addr} {Ic : Nat} {ms : List Nat} {kA tn dn us : Nat} {w u : World} (B : Bk own base gb KA Kc rows IA Ic ms kA tn dn us w) {r : Option Nat} (hg : w.grownBy u r) (hr : ∀ g, r = some g → ∃ cells t, w.heap[g]? = some (.cells cells t (0, 0)) ∧ t ≠ 50 ∧ t ≠ 55 ∧ t ≠ 3 ∧ (t ≠ 107 ∨ own g = 0)) : Bk own base gb KA Kc rows IA Ic ms kA tn dn us u := by
  have hne : ∀ (k t2 : Nat) (c2 : Array Value), w.heap[k]? = some (.cells c2 t2 (0, 0)) → (t2 = 50 ∨ t2 = 55 ∨ t2 = 3) → some k ≠ r := fun k t2 c2 h2 h3 e => by
    obtain ⟨cells, t, h4, h5, h6, h7, _⟩ := hr k e.symm
    rw [h2] at h4
    injection h4 with h4
    injection h4 with _ h4
    subst h4
    rcases h3 with h3 | h3 | h3
    · exact h5 h3
    · exact h6 h3
    · exact h7 h3
  refine ⟨(hg.block gb (Array.getElem?_eq_some_iff.1 B.blk).1 (hne _ _ _ B.blk (.inl rfl))).trans B.blk, B.lo, B.ks.far hg (fun k hk => ?_), B.is.far hg (fun k hk => ?_), B.all.far hg (fun g e => ?_), B.bd⟩
  · obtain ⟨_, _, cells, hc⟩ := Ow.bound (enc := Sl.cs) (m := 1) (hl := Sl.cs_len) (h1 := Sl.cs_one) B.ks hk
    exact hne _ _ _ hc (.inr (.inl rfl))
  · obtain ⟨_, _, cells, hc⟩ := Ow.bound (enc := nc) (m := 1) (hl := nc_len) (h1 := nc_one) B.is hk
    exact hne _ _ _ hc (.inr (.inr rfl))
  · obtain ⟨cells, t, h4, _, _, _, h5⟩ := hr g e
    rcases h5 with h5 | h5
    · refine .inr fun c2 h6 => ?_
      rw [h4] at h6
      injection h6 with h6
      injection h6 with _ h6
      exact h5 h6
    · exact .inl h5
/-- The book, the seat, the ring that there is. -/
structure St (own : Nat → Nat) (base lim gb gs tn : Nat) (A : Option Addr) (c : Nat) (ks : List Key) (w : World) : Prop where
  bk : ∃ KA Kc rows IA Ic ms us, Bk own base gb KA Kc rows IA Ic ms 0 tn 0 us w
  seat : ∃ (SA : Option Addr) (Sc : Nat) (sks : List Key), w.heap[gs]? = some (.cells (seC (.slice SA sks.length Sc)).toArray 66 (0, 0)) ∧ Ow kKey 107 w base (.slice SA sks.length Sc) sks ∧ ∀ k, (Value.slice SA sks.length Sc).ownBlock = some k → own k = 0 ∧ k < lim ∧ (Value.slice A ks.length c).ownBlock ≠ some k
  ring : Ow kKey 107 w base (.slice A ks.length c) ks ∧ ∀ k, (Value.slice A ks.length c).ownBlock = some k → own k = 0 ∧ k < lim
  fresh : ∀ k, lim ≤ k → own k = 0
  lo : base ≤ gs
  lim : base ≤ lim ∧ lim ≤ w.heap.size
section
variable {own : Nat → Nat} {base lim gb gs tn : Nat} {A : Option Addr} {c : Nat} {ks : List Key} {w u : World}
theorem St.rd (S : St own base lim gb gs tn A c ks w) : kKey.C w A ks.length ks := (Ow.rd (k := kKey) S.ring.1).1
theorem St.rc (S : St own base lim gb gs tn A c ks w) : ks.length ≤ c := (Ow.rd (k := kKey) S.ring.1).2.2
theorem St.below (S : St own base lim gb gs tn A c ks w) (hb : Below w.heap.size w u) : St own base lim gb gs tn A c ks u where
  bk := by obtain ⟨KA, Kc, rows, IA, Ic, ms, us, B⟩ := S.bk; exact ⟨KA, Kc, rows, IA, Ic, ms, us, B.below hb⟩
  seat := by
    obtain ⟨SA, Sc, sks, h1, h2, h3⟩ := S.seat
    exact ⟨SA, Sc, sks, (hb.block gs (Array.getElem?_eq_some_iff.1 h1).1).trans h1, h2.below hb, h3⟩
  ring := ⟨S.ring.1.below hb, S.ring.2⟩
  fresh := S.fresh
  lo := S.lo
  lim := ⟨S.lim.1, Nat.le_trans S.lim.2 hb.size⟩
theorem St.far (S : St own base lim gb gs tn A c ks w) {r : Option Nat} (hg : w.grownBy u r) (hr : ∀ g, r = some g → ∃ cells t, w.heap[g]? = some (.cells cells t (0, 0)) ∧ t ≠ 50 ∧ t ≠ 55 ∧ t ≠ 3 ∧ t ≠ 66 ∧ (t ≠ 107 ∨ lim ≤ g)) : St own base lim gb gs tn A c ks u where
  bk := by
    obtain ⟨KA, Kc, rows, IA, Ic, ms, us, B⟩ := S.bk
    exact ⟨KA, Kc, rows, IA, Ic, ms, us, B.far hg (fun g e => by
      obtain ⟨cells, t, h1, h2, h3, h4, _, h5⟩ := hr g e
      exact ⟨cells, t, h1, h2, h3, h4, h5.imp id (S.fresh g)⟩)⟩
  seat := by
    obtain ⟨SA, Sc, sks, h1, h2, h3⟩ := S.seat
    refine ⟨SA, Sc, sks, (hg.block gs (Array.getElem?_eq_some_iff.1 h1).1 (fun e => ?_)).trans h1, h2.far hg (fun k hk e => ?_), h3⟩
    · obtain ⟨cells, t, h4, _, _, _, h5, _⟩ := hr gs e.symm
      rw [h1] at h4
      injection h4 with h4
      injection h4 with _ h4
      exact h5 h4.symm
    · obtain ⟨cells, t, h4, _, _, _, _, h5⟩ := hr k e.symm
      obtain ⟨_, _, c2, hc2⟩ := Ow.bound (enc := Key.cs) (m := 34) (hl := Key.cs_len) (h1 := Key.cs_one) h2 hk
      rw [hc2] at h4
      injection h4 with h4
      injection h4 with _ h4
      have h6 := (h3 k hk).2.1
      rcases h5 with h5 | h5
      · exact h5 h4.symm
      · omega
  ring := by
    refine ⟨S.ring.1.far hg (fun k hk e => ?_), S.ring.2⟩
    obtain ⟨cells, t, h4, _, _, _, _, h5⟩ := hr k e.symm
    obtain ⟨_, _, c2, hc2⟩ := Ow.bound (enc := Key.cs) (m := 34) (hl := Key.cs_len) (h1 := Key.cs_one) S.ring.1 hk
    rw [hc2] at h4
    injection h4 with h4
    injection h4 with _ h4
    have h6 := (S.ring.2 k hk).2
    rcases h5 with h5 | h5
    · exact h5 h4.symm
    · omega
  fresh := S.fresh
  lo := S.lo
  lim := ⟨S.lim.1, Nat.le_trans S.lim.2 hg.size⟩
theorem St.grown (S : St own base lim gb gs tn A c ks w) {g t : Nat} {cells : Array Value} (hb : w.heap[g]? = some (.cells cells t (0, 0))) (ht : t ≠ 50 ∧ t ≠ 55 ∧ t ≠ 3 ∧ t ≠ 66 ∧ t ≠ 107) (hg : w.grownBy u (some g)) : St own base lim gb gs tn A c ks u :=
  S.far hg fun g2 e => by
    injection e with e
    subst e
    exact ⟨cells, t, hb, ht.1, ht.2.1, ht.2.2.1, ht.2.2.2.1, .inl ht.2.2.2.2⟩
theorem St.over (S : St own base lim gb gs tn A c ks w) {g b : Nat} {cells : Array Value} (hb : w.heap[g]? = some (.cells cells 107 (0, 0))) (hlb : lim ≤ b) (hbg : b ≤ g) (hg : w.grownBy u (some g)) : St own base lim gb gs tn A c ks u :=
  S.far hg fun g2 e => by
    injection e with e
    subst e
    exact ⟨cells, 107, hb, by decide, by decide, by decide, by decide, .inr (by omega)⟩
theorem St.up (S : St own base lim gb gs tn A c ks w) {lim' : Nat} (h : lim ≤ lim') (h2 : lim' ≤ w.heap.size) : St own base lim' gb gs tn A c ks w where
  bk := S.bk
  seat := by
    obtain ⟨SA, Sc, sks, h1, h2, h3⟩ := S.seat
    exact ⟨SA, Sc, sks, h1, h2, fun k hk => ⟨(h3 k hk).1, by have := (h3 k hk).2.1; omega, (h3 k hk).2.2⟩⟩
  ring := ⟨S.ring.1, fun k hk => ⟨(S.ring.2 k hk).1, by have := (S.ring.2 k hk).2; omega⟩⟩
  fresh := fun k hk => S.fresh k (by omega)
  lo := S.lo
  lim := ⟨by have := S.lim.1; omega, h2⟩
/-- Another ring: a row that was made later. -/
theorem St.setr (S : St own base lim gb gs tn A c ks w) {lim0 lim' : Nat} {B : Option Addr} {b : Nat} {ls : List Key} (hO : Ow kKey 107 w lim0 (.slice B ls.length b) ls) (h0 : base ≤ lim0) (hf : ∀ k, (Value.slice B ls.length b).ownBlock = some k → own k = 0 ∧ k < lim') (hlow : lim ≤ lim0) (h1 : lim ≤ lim') (h2 : lim' ≤ w.heap.size) : St own base lim' gb gs tn B b ls w where
  bk := S.bk
  seat := by
    obtain ⟨SA, Sc, sks, g1, g2, g3⟩ := S.seat
    exact ⟨SA, Sc, sks, g1, g2, fun k hk => ⟨(g3 k hk).1, by have := (g3 k hk).2.1; omega, fun e => by
      have h3 := (g3 k hk).2.1
      have h4 := (Ow.bound (enc := Key.cs) (m := 34) (hl := Key.cs_len) (h1 := Key.cs_one) hO e).1
      omega⟩⟩
  ring := ⟨Ow.low (enc := Key.cs) (m := 34) (hl := Key.cs_len) (h1 := Key.cs_one) hO h0, hf⟩
  fresh := fun k hk => S.fresh k (by omega)
  lo := S.lo
  lim := ⟨by have := S.lim.1; omega, h2⟩
/-- A row of one's own goes into the book. -/
theorem take_st (S : St own base lim gb gs tn A c ks w) (bg : Nat) (hbg : lim ≤ bg) (GA : Option Addr) (gc : Nat) (gks : List Key) (hO : Ow kKey 107 w bg (.slice GA gks.length gc) gks) (lim' : Nat) (hlt : ∀ k, (Value.slice GA gks.length gc).ownBlock = some k → k < lim') (hl1 : lim ≤ lim') (hl2 : lim' ≤ w.heap.size) (hn : gks.length ≤ 1000000) (htn : tn ≤ 10000000) :
    Calls Try.prog 42 #[.pointer (some ⟨gb, 0, none⟩), .slice GA gks.length gc] w fun e w' => e = .returned (.tuple #[]) ∧ ∃ own', St own' base lim' gb gs (tn + 1) A c ks w' ∧ (∀ k, (Value.slice GA gks.length gc).ownBlock ≠ some k → own' k = own k) ∧ Only base [50, 55, 3] (Value.slice GA gks.length gc).ownBlock w w' := by
  obtain ⟨KA, Kc, rows, IA, Ic, ms, us, B⟩ := S.bk
  have hform := own_form (enc := Key.cs) (sz := 34) (hl := Key.cs_len) (h1 := Key.cs_one) hO
  -- what stands behind the call
  have fin : ∀ {own' : Nat → Nat} {w' : World}, (∃ KA' Kc' rows' IA' Ic' ms' us', Bk own' base gb KA' Kc' rows' IA' Ic' ms' 0 (tn + 1) 0 us' w') → (∀ k, (Value.slice GA gks.length gc).ownBlock ≠ some k → own' k = own k) → Only base [50, 55, 3] (Value.slice GA gks.length gc).ownBlock w w' → St own' base lim' gb gs (tn + 1) A c ks w' := by
    intro own' w' hB hown ho
    have hne : ∀ k, k < lim → (Value.slice GA gks.length gc).ownBlock ≠ some k := fun k hk e => by
      have := (Ow.bound (enc := Key.cs) (m := 34) (hl := Key.cs_len) (h1 := Key.cs_one) hO e).1
      omega
    refine ⟨hB, ?_, ?_, fun k hk => ?_, S.lo, ⟨by have := S.lim.1; omega, Nat.le_trans hl2 ho.size⟩⟩
    · obtain ⟨SA, Sc, sks, g1, g2, g3⟩ := S.seat
      refine ⟨SA, Sc, sks, ho.blk g1 (by decide) (fun e => ?_), Ow_only g2 ho (by decide) (fun k hk => hne k (g3 k hk).2.1), fun k hk => ⟨?_, by have := (g3 k hk).2.1; omega, (g3 k hk).2.2⟩⟩
      · obtain ⟨_, _, c2, h2⟩ := Ow.bound (enc := Key.cs) (m := 34) (hl := Key.cs_len) (h1 := Key.cs_one) hO e
        rw [g1] at h2
        injection h2 with h2
        injection h2 with _ h2
        exact absurd h2 (by decide)
      · rw [hown k (hne k (g3 k hk).2.1)]
        exact (g3 k hk).1
    · refine ⟨Ow_only S.ring.1 ho (by decide) (fun k hk => hne k (S.ring.2 k hk).2), fun k hk => ⟨?_, by have := (S.ring.2 k hk).2; omega⟩⟩
      rw [hown k (hne k (S.ring.2 k hk).2)]
      exact (S.ring.2 k hk).1
    · rw [hown k (fun e => by have := hlt k e; omega)]
      exact S.fresh k (by omega)
  rcases hform with ⟨rfl, h0, rfl⟩ | ⟨gl, arr, rfl, hgl, hh, has, hnc, hcm⟩
  · rw [h0] at fin ⊢
    exact (take_nil own base gb KA Kc rows IA Ic ms 0 tn 0 us w B htn).mono fun e w' ⟨he, ⟨KA', Kc', rows', IA', Ic', ms', us', own', B', hown, ho⟩⟩ => ⟨he, own', fin ⟨KA', Kc', rows', IA', Ic', ms', us', B'⟩ hown ho, hown, ho⟩
  · exact (take_row own base gb KA Kc rows IA Ic ms 0 tn 0 us w B gl gks.length gc arr (by have := S.lim.1; omega) hh has hnc hcm hn (S.fresh gl (by omega)) (fun e => by
      have h3 := B.blk
      rw [← e, hh] at h3
      injection h3 with h3
      injection h3 with _ h3
      exact absurd h3 (by decide)) htn).mono fun e w' ⟨he, ⟨KA', Kc', rows', IA', Ic', ms', us', own', B', hown, ho⟩⟩ => ⟨he, own', fin ⟨KA', Kc', rows', IA', Ic', ms', us', B'⟩ hown ho, hown, ho⟩
end
section
variable {P : Program} {op : Oper} {a : Act} {w w0 : World} {n : Nat} {L : List (Nat × Value)} {H : List Blk} {K : Act → World → Prop} {Q : Exit → Act → World → Prop}
/-- append to a row of one's own: in its block, or in a new one. -/
theorem og_appB {α : Type} {enc : α → List Value} {m : Nat} {hl : ∀ x, (enc x).length = m} {h1 : ∀ x, ∀ u ∈ enc x, u.oneCell' = true} (F : Fr n a L) (M : Mm w0 w H) {base e t b : Nat} {z : Value} (hu : P.underlying t = some (.slice e)) (hz : (P.info? e).map (fun i => (i.zero, i.size, i.bytes)) = some (some z, m, b)) (hzs : z.cells.size = m) (hm : 0 < m) (hb : 0 < b)
    (hb0 : w0.heap.size ≤ base) (hbs : base ≤ w.heap.size) (hT : farB e base H) {d : Nat} (hd : op.dst = some d) (hlt : Nat.blt d n = true) (hgd : op.guard = none) (s x : Operand) (ho : op.op = .call { callee := .builtin .append, args := #[s, x], argTypes := #[t, t] })
    (v : Value) (xs ys zs : List α) (hzz : xs ++ ys = zs) (A : Option Addr) (q c : Nat) (hs : a.eval s = v) (hx : a.eval x = .slice A q c) (HO : Ow (kBlk enc m hl h1) e w base v xs) (HR : (kBlk enc m hl h1).C w A q ys) (hl2 : (xs.length + q) * b ≤ 140737488355328)
    (h : ∀ a' A1 c1 w', Fr n a' ((d, .slice A1 zs.length c1) :: L) → Mm w0 w' H → Ow (kBlk enc m hl h1) e w' base (.slice A1 zs.length c1) zs → w.grownBy w' v.ownBlock → ((Value.slice A1 zs.length c1).ownBlock = v.ownBlock ∨ ∃ b, (Value.slice A1 zs.length c1).ownBlock = some b ∧ w.heap.size ≤ b) → K a' w') : op.wp P a w K Q := by
  subst hzz
  have hw : Region.wanted op (yielded (#[] : Array Oper) a.tmps) = true := wn hgd
  have key := Kd.R_append_rows_step (P := P) (o := op) (a := a) (ops := #[]) (Q := Q) (Kc := K) (kBlk enc m hl h1) (w0 := w) (W := w) base hw s x t e z b ho hu hz hzs hm hb _ xs ys A q c (fun _ => True) (fun _ => False) hs hx HO HR (fun _ _ h => h) (fun _ h => h.elim) (fun _ _ => trivial) ((Below.refl _ w).mono hbs) hbs hl2 ?_
  · rwa [if_pos hw] at key
  · intro v1 w1 hO1 _ hg hnb
    obtain ⟨A1, c1, rfl⟩ := Kd.R_slice hO1
    rw [hd]
    exact h _ A1 c1 w1 (F.put _ hlt) (mm_grownO M HO hb0 hT hg) hO1 hg hnb
end
theorem zK : (Try.prog.info? 107).map (fun i => (i.zero, i.size, i.bytes)) = some (some (.agg zKey.arr), 34, 48) := info107z
theorem zKs : (Value.agg zKey.arr).cells.size = 34 := by show zKey.arr.size = 34; exact Key.arr_size _
/-- The seat behind an append: its row, and whose it is. -/
theorem seat_new {own : Nat → Nat} {lim : Nat} {rv : Value} {SA A1 : Option Addr} {Sn Sc n c1 : Nat} {w w' : World} (h3 : ∀ k, (Value.slice SA Sn Sc).ownBlock = some k → own k = 0 ∧ k < lim ∧ rv.ownBlock ≠ some k) (hnb : (Value.slice A1 n c1).ownBlock = (Value.slice SA 0 Sc).ownBlock ∨ ∃ b, (Value.slice A1 n c1).ownBlock = some b ∧ w.heap.size ≤ b) (hsz : lim ≤ w.heap.size) (hfr : ∀ k, lim ≤ k → own k = 0) (hrv : ∀ k, rv.ownBlock = some k → k < lim) (hlt : ∀ k, (Value.slice A1 n c1).ownBlock = some k → k < w'.heap.size) :
    ∀ k, (Value.slice A1 n c1).ownBlock = some k → own k = 0 ∧ k < w'.heap.size ∧ rv.ownBlock ≠ some k := fun k hk => by
  have he : (Value.slice SA Sn Sc).ownBlock = (Value.slice SA 0 Sc).ownBlock := by cases SA <;> rfl
  rcases hnb with h | ⟨b, hb, hge⟩
  · obtain ⟨g1, _, g2⟩ := h3 k (by rw [he, ← h]; exact hk)
    exact ⟨g1, hlt k hk, g2⟩
  · rw [hb] at hk
    obtain rfl := Option.some.inj hk
    exact ⟨hfr _ (by omega), hlt _ (by rw [hb]), fun e => by have := hrv _ e; omega⟩
def NewSeat (own : Nat → Nat) (rv sv : Value) (w : World) : Prop := ∀ k, sv.ownBlock = some k → own k = 0 ∧ k < w.heap.size ∧ rv.ownBlock ≠ some k
theorem NewSeat.size {own : Nat → Nat} {rv sv : Value} {w u : World} (h : NewSeat own rv sv w) (hs : w.heap.size ≤ u.heap.size) : NewSeat own rv sv u := fun k hk => ⟨(h k hk).1, Nat.lt_of_lt_of_le (h k hk).2.1 hs, (h k hk).2.2⟩
def mkO : Key := ⟨778, zBs 32, -778⟩
theorem put_size {ax : Array Value} {k : Key} {c i : Nat} (h : ax.size = c * 34) (hi : i < c) : ((ax.toList.take (i * 34) ++ Key.cs k ++ ax.toList.drop (i * 34 + (Key.cs k).length)).toArray).size = c * 34 := by
  rw [← h]
  have h2 := Key.cs_len k
  simp only [List.size_toArray, List.length_append, List.length_take, List.length_drop, Array.length_toList]
  omega
theorem ri_sl_55_34 : sl? Try.prog 55 34 = true := by kernel_rfl
set_option maxHeartbeats 1000000 in
set_option maxRecDepth 100000 in
theorem over_any (gl n c : Nat) (arr : Array Value) (w : World) (hh : w.heap[gl]? = some (.cells arr 107 (0, 0))) (has : arr.size = c * 34) (hnc : n ≤ c) (hcm : c ≤ maxLen) (hn : n ≤ 1000000) :
    Calls Try.prog 20 #[.slice (some ⟨gl, 0, none⟩) n c] w fun e w' => e = .returned (.tuple #[]) ∧ w.grownBy w' (some gl) := by
 have G_ := gg_refl w gl
 refine calls_start Try.func20 rfl rfl rfl (fun a F => ?_)
 have M : Mm (cutW w gl) w [⟨gl, arr, 107⟩] := cut_one (Nat.le_refl _) hh
 refine wp_seq ?_
 refine wp_region_lit ?_
 refine list_val F (wn rfl) rfl rfl (.int .i64 0) (ex_assign _ rfl _ rfl) ?_; clear F a; intro a F
 refine wpList_nil ?_
 replace F : Fr 13 a [(0, .slice (some ⟨gl, 0, none⟩) n c), (2, .int .i64 0)] := F.keep ⟨rfl, rfl, trivial⟩
 refine then_n ?_
 refine wp_block ?_
 refine wp_loopN (fun mq ar wr => ∃ (i : Nat), ∃ (ax : Array Value), Fr 13 ar [(0, .slice (some ⟨gl, 0, none⟩) n c), (2, .int .i64 ((i : Nat) : Int))] ∧ Mm (cutW w gl) wr [⟨gl, ax, 107⟩] ∧ w.grownBy wr (some gl) ∧ i ≤ n ∧ ax.size = c * 34 ∧ mq + i = n) n ?_ ?_
 ·
  exact ⟨0, arr, F.keep ⟨rfl, rfl, trivial⟩, M, G_, (Nat.zero_le _), has, (by omega)⟩
 clear F M a G_
 rintro mq a v ⟨i, ax, F, M, G_, hi, hax, hq⟩; try clear w
 by_cases hin : i < n
 ·
  refine wp_seq ?_
  refine wp_seq ?_
  refine wp_region_lit ?_
  refine list_val F (wn rfl) rfl rfl (.int .i64 ((i : Nat) : Int)) (ex_move _ rfl _ (F.e rfl)) ?_; clear F a; intro a F
  refine list_val F (wn rfl) rfl rfl (.slice (some ⟨gl, 0, none⟩) n c) (ex_move _ rfl _ (F.e rfl)) ?_; clear F a; intro a F
  refine list_val F (wn rfl) rfl rfl (.int .i64 ((n : Nat) : Int)) (ex_len _ _ rfl 34 ri_sl_55_34 _ _ _ (F.e rfl)) ?_; clear F a; intro a F
  refine list_val F (wn rfl) rfl rfl (.bool true) (ex_bin .lss _ _ _ _ rfl .i64 _ _ (F.e rfl) (F.e rfl) _ (b_lss (decide_eq_true (by omega)))) ?_; clear F a; intro a F
  refine wpList_nil ?_
  replace F : Fr 13 a [(0, .slice (some ⟨gl, 0, none⟩) n c), (2, .int .i64 ((i : Nat) : Int)), (6, .bool true)] := F.keep ⟨rfl, rfl, rfl, trivial⟩
  refine then_n ?_
  refine wp_cond_true (F.e rfl) ?_
  refine wp_skip ?_
  refine then_n ?_
  refine wp_seq ?_
  refine wp_block ?_
  refine wp_region_lit ?_
  refine list_val F (wn rfl) rfl rfl (.slice (some ⟨gl, 0, none⟩) n c) (ex_move _ rfl _ (F.e rfl)) ?_; clear F a; intro a F
  refine list_val F (wn rfl) rfl rfl (.int .i64 ((i : Nat) : Int)) (ex_move _ rfl _ (F.e rfl)) ?_; clear F a; intro a F
  refine list_val F (wn rfl) rfl rfl (.agg mkO.arr) (ex_build 107 _ rfl #[(0, .int .u64 778), (2, .int .i64 (-778))] (parts2 rfl rfl) (.agg mkO.arr) (build107_u 778 (-778) _)) ?_; clear F a; intro a F
  refine list_val F (wn rfl) rfl rfl (.pointer (some ⟨gl, i * 34, none⟩)) (ex_ix _ _ _ rfl 34 ri_sl_55_34 ⟨gl, 0, none⟩ _ _ (F.e rfl) .i64 _ (F.e rfl) i rfl (by omega) ⟨gl, i * 34, none⟩ ((addr_add _ _ _).trans (by rw [Nat.zero_add]))) ?_; clear F a; intro a F
  refine list_do (wn rfl) (fun K hK => ?_)
  refine ow_store F M rfl 107 _ _ rfl 0 gl ax _ rfl (i * 34) (F.e rfl) _ (F.e rfl) (Key.cs mkO) rfl (by rw [Key.cs_len]; exact info107) (by rw [hax, Key.cs_len]; have h_ := Nat.mul_le_mul_right 34 (show i + 1 ≤ c by omega); rw [Nat.add_mul, Nat.one_mul] at h_; exact h_) (Key.cs_one _) ((ax.toList.take (i * 34) ++ (Key.cs mkO) ++ ax.toList.drop (i * 34 + (Key.cs mkO).length)).toArray) rfl ?_
  clear F a; have Mo := M; clear M; intro a u F M hgr
  refine hK _ _ ?_
  clear hK K
  replace G_ := gg_grown G_ hgr
  clear Mo hgr; try clear v
  replace M : Mm (cutW w gl) u [⟨gl, ((ax.toList.take (i * 34) ++ (Key.cs mkO) ++ ax.toList.drop (i * 34 + (Key.cs mkO).length)).toArray), 107⟩] := M
  refine wpList_nil ?_
  replace F : Fr 13 a [(0, .slice (some ⟨gl, 0, none⟩) n c), (2, .int .i64 ((i : Nat) : Int)), (6, .bool true)] := F.keep ⟨rfl, rfl, rfl, trivial⟩
  refine in_n ?_
  refine then_n ?_
  refine wp_region_lit ?_
  refine list_val F (wn rfl) rfl rfl (.int .i64 ((i : Nat) : Int)) (ex_move _ rfl _ (F.e rfl)) ?_; clear F a; intro a F
  refine list_val F (wn rfl) rfl rfl (.int .i64 ((i + 1 : Nat) : Int)) (ex_bin .add _ _ _ _ rfl .i64 _ _ (F.e rfl) rfl _ (b_add ((w_i64 (by omega) (by omega)).trans (by omega)))) ?_; clear F a; intro a F
  refine list_val F (wn rfl) rfl rfl (.int .i64 ((i + 1 : Nat) : Int)) (ex_assign _ rfl _ (F.e rfl)) ?_; clear F a; intro a F
  refine wpList_nil ?_
  replace F : Fr 13 a [(0, .slice (some ⟨gl, 0, none⟩) n c), (2, .int .i64 ((i + 1 : Nat) : Int)), (6, .bool true)] := F.keep ⟨rfl, rfl, rfl, trivial⟩
  refine then_n ?_
  exact ⟨n - (i + 1), by omega, (i + 1), ((ax.toList.take (i * 34) ++ (Key.cs mkO) ++ ax.toList.drop (i * 34 + (Key.cs mkO).length)).toArray), F.keep ⟨rfl, rfl, trivial⟩, (by refine M.pick' [0] _ ?_ (by decide); exact ⟨rfl, trivial⟩), G_, (by omega), (put_size hax (by omega)), (by omega)⟩
 refine wp_seq ?_
 refine wp_seq ?_
 refine wp_region_lit ?_
 refine list_val F (wn rfl) rfl rfl (.int .i64 ((i : Nat) : Int)) (ex_move _ rfl _ (F.e rfl)) ?_; clear F a; intro a F
 refine list_val F (wn rfl) rfl rfl (.slice (some ⟨gl, 0, none⟩) n c) (ex_move _ rfl _ (F.e rfl)) ?_; clear F a; intro a F
 refine list_val F (wn rfl) rfl rfl (.int .i64 ((n : Nat) : Int)) (ex_len _ _ rfl 34 ri_sl_55_34 _ _ _ (F.e rfl)) ?_; clear F a; intro a F
 refine list_val F (wn rfl) rfl rfl (.bool false) (ex_bin .lss _ _ _ _ rfl .i64 _ _ (F.e rfl) (F.e rfl) _ (b_lss (decide_eq_false (by omega)))) ?_; clear F a; intro a F
 refine wpList_nil ?_
 replace F : Fr 13 a [(0, .slice (some ⟨gl, 0, none⟩) n c), (2, .int .i64 ((i : Nat) : Int)), (6, .bool false)] := F.keep ⟨rfl, rfl, rfl, trivial⟩
 refine then_n ?_
 refine wp_cond_false (F.e rfl) ?_
 refine wp_exit ?_
 refine then_x ?_
 refine then_x ?_
 refine in_hit ?_
 exact ret_none F rfl ⟨rfl, G_⟩
theorem ri_row_70_32 : row? Try.prog 70 32 = true := by kernel_rfl
theorem ri_row_69_2 : row? Try.prog 69 2 = true := by kernel_rfl
set_option maxHeartbeats 1000000 in
set_option maxRecDepth 100000 in
theorem refFirst_own (s : Bs 32) (w : World) : Calls Try.prog 9 #[.agg s.cs.toArray] w fun e w' => TellsF e w w' (firstF s) := by
 refine calls_start Try.func9 rfl rfl rfl (fun a F => ?_)
 have M : Mm w w [] := Mm.nil w
 refine wp_seq ?_
 refine wp_region_lit ?_
 refine list_do (wn rfl) (fun K hK => ?_)
 refine ow_box F M rfl rfl 70 _ rfl _ (F.e rfl) s.cs.toArray rfl ?_
 clear F M a; intro a g1 v F M hb hg
 refine hK _ _ ?_
 clear hK K
 clear hb hg; try clear w
 refine list_do (wn rfl) (fun K hK => ?_)
 refine ow_alloc F M rfl rfl 69 rfl (.agg #[.slice none 0 0, .int .u64 0]) z69 #[.slice none 0 0, .int .u64 0] rfl ?_
 clear F M a; intro a g2 u F M hb hg
 refine hK _ _ ?_
 clear hK K
 clear hb hg; try clear v
 refine wpList_nil ?_
 replace F : Fr 7 a [(0, .agg s.cs.toArray), (1, .pointer (some ⟨g1, 0, none⟩)), (2, .pointer (some ⟨g2, 0, none⟩))] := F.keep ⟨rfl, rfl, rfl, trivial⟩
 refine then_n ?_
 refine wp_seq ?_
 refine wp_region_lit ?_
 refine list_val F (wn rfl) rfl rfl (.agg s.cs.toArray) (ex_load _ _ rfl _ (F.e rfl) _ (lvr (cs := s.cs) (by rw [Bs.cs_len]; exact ri_row_70_32) (M.at (i := 1) rfl))) ?_; clear F a; intro a F
 refine list_val F (wn rfl) rfl rfl (.agg ((⟨1, s, 0⟩ : Key).arr)) (ex_build 107 _ rfl #[(0, .int .u64 1), (1, .agg s.cs.toArray)] (parts2 rfl (F.e rfl)) (.agg ((⟨1, s, 0⟩ : Key).arr)) (build107 1 s _)) ?_; clear F a; intro a F
 refine list_do (wn rfl) (fun K hK => ?_)
 refine ow_bslice F M rfl rfl 55 1 _ rfl #[(0, .agg ((⟨1, s, 0⟩ : Key).arr))] (parts1 (F.e rfl)) ((⟨1, s, 0⟩ : Key).arr) 107 (newKeys (⟨1, s, 0⟩ : Key) _) ?_
 clear F M a; intro a g5 v F M hb hg
 refine hK _ _ ?_
 clear hK K
 clear hb hg; try clear u
 refine list_val F (wn rfl) rfl rfl (.agg #[.slice (some ⟨g5, 0, none⟩) 1 1, .int .u64 2]) (ex_build 69 _ rfl #[(0, .slice (some ⟨g5, 0, none⟩) 1 1), (1, .int .u64 2)] (parts2 (F.e rfl) rfl) (.agg #[.slice (some ⟨g5, 0, none⟩) 1 1, .int .u64 2]) (build69_01 (some ⟨g5, 0, none⟩) 1 1 2 _)) ?_; clear F a; intro a F
 refine list_do (wn rfl) (fun K hK => ?_)
 refine ow_put F M rfl 69 _ _ rfl 1 _ #[.slice none 0 0, .int .u64 0] _ rfl (F.e rfl) #[.slice (some ⟨g5, 0, none⟩) 1 1, .int .u64 2] (F.e rfl) (sz_row (m := 2) ri_row_69_2) rfl (by simp [Value.oneCell']) ?_
 clear F a; have Mo := M; clear M; intro a u F M hgr
 refine hK _ _ ?_
 clear hK K
 clear Mo hgr; try clear v
 replace M : Mm w u [⟨g5, ((⟨1, s, 0⟩ : Key).arr), 107⟩, ⟨g2, #[.slice (some ⟨g5, 0, none⟩) 1 1, .int .u64 2], 69⟩, ⟨g1, s.cs.toArray, 70⟩] := M
 refine wpList_nil ?_
 replace F : Fr 7 a [(0, .agg s.cs.toArray), (1, .pointer (some ⟨g1, 0, none⟩)), (2, .pointer (some ⟨g2, 0, none⟩))] := F.keep ⟨rfl, rfl, rfl, trivial⟩
 refine then_n ?_
 refine wp_ret ?_
 exact ret_c1 (v := .agg #[.slice (some ⟨g5, 0, none⟩) 1 1, .int .u64 2]) F rfl rfl (lvr (cs := [.slice (some ⟨g5, 0, none⟩) 1 1, .int .u64 2]) ri_row_69_2 (M.at (i := 1) rfl)) ⟨_, _, rfl, own_blk1 (M.blk 0 _ rfl) (M.lo 0 _ rfl), M.bel⟩
theorem ri_fa_69_0_0 : fa? Try.prog 69 0 0 = true := by kernel_rfl
theorem ri_one_55 : one? Try.prog 55 = true := by kernel_rfl
theorem ri_ent_42 : ent? Try.prog 42 = true := by kernel_rfl
set_option maxHeartbeats 1000000 in
set_option maxRecDepth 100000 in
theorem bookRing_any (own : Nat → Nat) (base lim gb gs tn : Nat) (A : Option Addr) (c : Nat) (ks : List Key) (w : World) (S : St own base lim gb gs tn A c ks w) (bg : Nat) (hbg : lim ≤ bg) (GA : Option Addr) (gc : Nat) (gks : List Key) (next : Int) (hO : Ow kKey 107 w bg (.slice GA gks.length gc) gks) (lim' : Nat) (hlt : ∀ k, (Value.slice GA gks.length gc).ownBlock = some k → k < lim') (hl1 : lim ≤ lim') (hl2 : lim' ≤ w.heap.size) (hn : gks.length ≤ 1000000) (htn : tn ≤ 10000000) :
    Calls Try.prog 23 #[.pointer (some ⟨gb, 0, none⟩), .agg #[.slice GA gks.length gc, .int .u64 next]] w fun e w' => e = .returned (.tuple #[]) ∧ ∃ own', St own' base lim' gb gs (tn + 1) A c ks w' ∧ (∀ k, (Value.slice GA gks.length gc).ownBlock ≠ some k → own' k = own k) ∧ Only base [50, 55, 3] (Value.slice GA gks.length gc).ownBlock w w' := by
 have S_ := S
 have O_g := hO
 refine calls_start Try.func23 rfl rfl rfl (fun a F => ?_)
 have M : Mm w w [] := Mm.nil w
 refine wp_seq ?_
 refine wp_region_lit ?_
 refine list_do (wn rfl) (fun K hK => ?_)
 refine ow_box F M rfl rfl 69 _ rfl _ (F.e rfl) #[.slice GA gks.length gc, .int .u64 next] rfl ?_
 clear F M a; intro a g3 v F M hb hg
 refine hK _ _ ?_
 clear hK K
 replace S_ := S_.below hb
 replace O_g := O_g.below hb
 clear hb hg; try clear w
 refine wpList_nil ?_
 replace F : Fr 8 a [(0, .pointer (some ⟨gb, 0, none⟩)), (1, .agg #[.slice GA gks.length gc, .int .u64 next]), (3, .pointer (some ⟨g3, 0, none⟩))] := F.keep ⟨rfl, rfl, rfl, trivial⟩
 refine then_n ?_
 refine wp_region_lit ?_
 refine list_val F (wn rfl) rfl rfl (.pointer (some ⟨gb, 0, none⟩)) (ex_move _ rfl _ (F.e rfl)) ?_; clear F a; intro a F
 refine list_val F (wn rfl) rfl rfl (.pointer (some ⟨g3, 0, none⟩)) (ex_fa _ _ _ rfl _ (F.e rfl) 0 ri_fa_69_0_0 ⟨g3, 0, none⟩ rfl) ?_; clear F a; intro a F
 refine list_val F (wn rfl) rfl rfl (.slice GA gks.length gc) (ex_load _ _ rfl _ (F.e rfl) _ (lv1 ri_one_55 (M.cell (i := 0) rfl (j := 0) rfl))) ?_; clear F a; intro a F
 refine list_do (wn rfl) (fun K hK => ?_)
 refine ow_call rfl rfl F 42 #[.pointer (some ⟨gb, 0, none⟩), .slice GA gks.length gc] (ex_call 42 _ _ rfl rfl ri_ent_42 _ (map2 (F.e rfl) (F.e rfl))) (take_st S_ bg hbg GA gc gks O_g lim' hlt hl1 (Nat.le_trans hl2 M.bel.size) hn htn) (fun e u hR => ?_)
 obtain ⟨he, own2, S2, ho2, ho⟩ := hR
 refine ⟨.tuple #[], he, ?_⟩; clear he F a; intro a F
 refine hK _ _ ?_
 clear hK K
 refine wpList_nil ?_
 replace F : Fr 8 a [(0, .pointer (some ⟨gb, 0, none⟩)), (1, .agg #[.slice GA gks.length gc, .int .u64 next]), (3, .pointer (some ⟨g3, 0, none⟩))] := F.keep ⟨rfl, rfl, rfl, trivial⟩
 exact ret_none F rfl ⟨rfl, own2, S2, ho2, Only_pre M.bel ho⟩
theorem ri_follows_mixedOrders : Try.prog.follows .mixedOrders = true := by kernel_rfl
theorem ri_fa_66_4_4 : fa? Try.prog 66 4 4 = true := by kernel_rfl
theorem ri_info_55_map_size_some_1 : (Try.prog.info? 55).map (·.size) = some 1 := by kernel_rfl
theorem ri_fa_69_1_1 : fa? Try.prog 69 1 1 = true := by kernel_rfl
theorem ri_one_67 : one? Try.prog 67 = true := by kernel_rfl
set_option maxHeartbeats 1000000 in
set_option maxRecDepth 100000 in
theorem seatRing_any (own : Nat → Nat) (base lim gb gs tn : Nat) (A : Option Addr) (c : Nat) (ks : List Key) (w : World) (S : St own base lim gb gs tn A c ks w) (next : Int) (hl : ks.length ≤ 900000) :
    Calls Try.prog 43 #[.pointer (some ⟨gs, 0, none⟩), .agg #[.slice A ks.length c, .int .u64 next]] w fun e w' => ∃ A' c', e = .returned (.agg #[.slice A' ks.length c', .int .u64 next]) ∧ St own base w'.heap.size gb gs tn A c ks w' ∧ Ow kKey 107 w' base (.slice A' ks.length c') ks ∧ ∃ x, Only base [66] x w w' ∧ ∀ k, x = some k → k < lim ∧ ∃ cells, w.heap[k]? = some (.cells cells 107 (0, 0)) := by
 obtain ⟨SA, Sc, sks, h1, h2, h3⟩ := S.seat
 obtain ⟨KA, Kc, rows, IA, Ic, ms, us, B0⟩ := S.bk
 have hbw : base ≤ w.heap.size := Nat.le_trans S.lim.1 S.lim.2
 have hgs := S.lo
 have B_ := B0
 have O_s := h2
 have R_ := S.ring.1
 have G_ : Only base [66] (Value.slice SA sks.length Sc).ownBlock w w := Only.refl w
 refine calls_start Try.func43 rfl rfl rfl (fun a F => ?_)
 have M : Mm (cutW w base) w [⟨gs, (seC (.slice SA sks.length Sc)).toArray, 66⟩] := cut_one S.lo h1
 refine wp_seq ?_
 refine wp_region_lit ?_
 refine list_do (wn rfl) (fun K hK => ?_)
 refine ow_box F M rfl rfl 69 _ rfl _ (F.e rfl) #[.slice A ks.length c, .int .u64 next] rfl ?_
 clear F M a; intro a g3 v F M hb hg
 refine hK _ _ ?_
 clear hK K
 have lw_g3 : w.heap.size ≤ g3 := Nat.le_trans G_.size hg
 replace B_ := B_.below hb
 replace O_s := O_s.below hb
 replace R_ := R_.below hb
 replace G_ := G_.below hb
 clear hb hg; try clear w
 refine list_do (wn rfl) (fun K hK => ?_)
 refine ow_alloc F M rfl rfl 69 rfl (.agg #[.slice none 0 0, .int .u64 0]) z69 #[.slice none 0 0, .int .u64 0] rfl ?_
 clear F M a; intro a g4 u F M hb hg
 refine hK _ _ ?_
 clear hK K
 have lw_g4 : w.heap.size ≤ g4 := Nat.le_trans G_.size hg
 replace B_ := B_.below hb
 replace O_s := O_s.below hb
 replace R_ := R_.below hb
 replace G_ := G_.below hb
 clear hb hg; try clear v
 refine wpList_nil ?_
 replace F : Fr 23 a [(0, .pointer (some ⟨gs, 0, none⟩)), (1, .agg #[.slice A ks.length c, .int .u64 next]), (3, .pointer (some ⟨g3, 0, none⟩)), (4, .pointer (some ⟨g4, 0, none⟩))] := F.keep ⟨rfl, rfl, rfl, rfl, trivial⟩
 refine then_n ?_
 refine wp_seq ?_
 refine wp_only (fun ar wr => ∃ (A2 : Option Addr), ∃ (c2 : Nat), Fr 23 ar [(0, .pointer (some ⟨gs, 0, none⟩)), (1, .agg #[.slice A ks.length c, .int .u64 next]), (3, .pointer (some ⟨g3, 0, none⟩)), (4, .pointer (some ⟨g4, 0, none⟩))] ∧ Mm (cutW w base) wr [⟨g4, #[.slice none 0 0, .int .u64 0], 69⟩, ⟨g3, #[.slice A ks.length c, .int .u64 next], 69⟩, ⟨gs, (seC (.slice A2 ks.length c2)).toArray, 66⟩] ∧ Bk own base gb KA Kc rows IA Ic ms 0 tn 0 us wr ∧ Ow kKey 107 wr base (.slice A2 ks.length c2) ks ∧ Ow kKey 107 wr base (.slice A ks.length c) ks ∧ Only base [66] (Value.slice SA sks.length Sc).ownBlock w wr ∧ NewSeat own (.slice A ks.length c) (.slice A2 ks.length c2) wr) ?_ ?_
 ·
  refine region_anyM ri_follows_mixedOrders M [⟨g3, #[.slice A ks.length c, .int .u64 next], 69⟩] (fun w' M => (by refine M.pick' [1] _ ?_ (by decide); exact ⟨rfl, trivial⟩)) ?_; clear M; intro wD M hb
  replace B_ := B_.below hb
  replace O_s := O_s.below hb
  replace R_ := R_.below hb
  replace G_ := G_.below hb
  clear hb; try clear u
  have hS : Mm (cutW w base) wD [⟨g3, #[.slice A ks.length c, .int .u64 next], 69⟩] := (by refine M.pick' [1] _ ?_ (by decide); exact ⟨rfl, trivial⟩)
  refine any_val F 0 rfl (by kernel_rfl) (wn rfl) rfl rfl (.pointer (some ⟨gs, 0, none⟩)) (fun w' hS' => ex_move _ rfl _ (F.e rfl)) hS ?_; clear F a; intro a F
  refine any_val F 1 rfl (by kernel_rfl) (wn rfl) rfl rfl (.pointer (some ⟨gs, 0, none⟩)) (fun w' hS' => ex_move _ rfl _ (F.e rfl)) hS ?_; clear F a; intro a F
  refine any_val F 2 rfl (by kernel_rfl) (wn rfl) rfl rfl (.pointer (some ⟨gs, 0, none⟩)) (fun w' hS' => ex_nilck _ rfl _ (F.e rfl)) hS ?_; clear F a; intro a F
  refine any_val F 3 rfl (by kernel_rfl) (wn rfl) rfl rfl (.pointer (some ⟨gs, 4, none⟩)) (fun w' hS' => ex_fa _ _ _ rfl _ (F.e rfl) 4 ri_fa_66_4_4 ⟨gs, 4, none⟩ rfl) hS ?_; clear F a; intro a F
  refine any_val F 6 rfl (by kernel_rfl) (wn rfl) rfl rfl (.pointer (some ⟨g3, 0, none⟩)) (fun w' hS' => ex_fa _ _ _ rfl _ (F.e rfl) 0 ri_fa_69_0_0 ⟨g3, 0, none⟩ rfl) hS ?_; clear F a; intro a F
  refine any_val F 7 rfl (by kernel_rfl) (wn rfl) rfl rfl (.slice A ks.length c) (fun w' hS' => ex_load _ _ rfl _ (F.e rfl) _ (lv1 ri_one_55 (hS'.cell (i := 0) rfl (j := 0) rfl))) hS ?_; clear F a; intro a F
  refine any_ready [4] (by kernel_rfl) (by simp) ?_
  refine ready_do rfl (wn rfl) (fun K hK => ?_) AllReadyH.nil
  refine ow_val F rfl rfl (.slice SA sks.length Sc) (ex_load _ _ rfl _ (F.e rfl) _ (lv1 ri_one_55 (M.cell (i := 2) rfl (j := 4) rfl))) ?_; clear F a; intro a F
  replace hS : Mm (cutW w base) wD [⟨g3, #[.slice A ks.length c, .int .u64 next], 69⟩] := (by refine M.pick' [1] _ ?_ (by decide); exact ⟨rfl, trivial⟩)
  refine hK _ _ hS ?_
  clear hK K
  refine any_val F 5 rfl (by kernel_rfl) (wn rfl) rfl rfl (.slice SA 0 Sc) (fun w' hS' => ex_cutto _ _ rfl SA sks.length Sc (F.e rfl) _ rfl 0 (by rfl) (by exact Nat.zero_le _)) hS ?_; clear F a; intro a F
  refine any_ready [8] (by kernel_rfl) (by simp) ?_
  refine ready_do rfl (wn rfl) (fun K hK => ?_) AllReadyH.nil
  have hRd := (Ow.rd (k := kKey) R_).1
  refine og_appB (enc := Key.cs) (m := 34) (hl := Key.cs_len) (h1 := Key.cs_one) F M Try.underlying55 zK zKs (by decide) (by decide) (Nat.le_of_eq (cut_size hbw)) (by have h_ := M.bel.size; rwa [cut_size hbw] at h_) ⟨.inl (by show (69 : Nat) ≠ 107; decide), .inl (by show (69 : Nat) ≠ 107; decide), .inl (by show (66 : Nat) ≠ 107; decide), trivial⟩ rfl rfl rfl _ _ rfl (.slice SA 0 Sc) [] ks ks rfl A ks.length c (F.e rfl) (F.e rfl) (Ow_cut0 O_s) hRd (by show (0 + ks.length) * 48 ≤ _; omega) ?_
  clear F a; have Mo := M; clear M; intro a A2 c2 v F M Oz hgr hnb
  replace hS : Mm (cutW w base) v [⟨g3, #[.slice A ks.length c, .int .u64 next], 69⟩] := (by refine M.pick' [1] _ ?_ (by decide); exact ⟨rfl, trivial⟩)
  refine hK _ _ hS ?_
  clear hK K
  have hlim2 : lim ≤ wD.heap.size := Nat.le_trans S.lim.2 G_.size
  have hsn := seat_new (w := wD) (w' := v) h3 hnb hlim2 S.fresh (fun k hk => (S.ring.2 k hk).2) (fun k hk => (Ow.bound (enc := Key.cs) (m := 34) (hl := Key.cs_len) (h1 := Key.cs_one) Oz hk).2.1)
  have hbo : ∀ g, (Value.slice SA 0 Sc).ownBlock = some g → base ≤ g ∧ ∃ cells, wD.heap[g]? = some (.cells cells 107 (0, 0)) := fun g e => by obtain ⟨q1, _, q2⟩ := Ow.bound (enc := Key.cs) (m := 34) (hl := Key.cs_len) (h1 := Key.cs_one) (Ow_cut0 O_s) e; exact ⟨q1, q2⟩
  have he0 : (Value.slice SA sks.length Sc).ownBlock = (Value.slice SA 0 Sc).ownBlock := by cases SA <;> rfl
  replace B_ := B_.far hgr (fun g e => by obtain ⟨_, cells, hc⟩ := hbo g e; exact ⟨cells, 107, hc, by decide, by decide, by decide, .inr (h3 g (he0.trans e)).1⟩)
  replace R_ := R_.far hgr (fun k hk e => (h3 k (he0.trans e.symm)).2.2 hk)
  replace G_ := G_.far hgr (fun g e => ⟨(hbo g e).1, .inl (he0.trans e)⟩)
  clear O_s Mo hgr hnb hbo hRd; have O_s := Oz; clear Oz; try clear wD
  have N_ : NewSeat own (.slice A ks.length c) (.slice A2 ks.length c2) v := hsn; clear hsn
  refine any_val F 9 rfl (by kernel_rfl) (wn rfl) rfl rfl (.pointer (some ⟨gs, 0, none⟩)) (fun w' hS' => ex_nilck _ rfl _ (F.e rfl)) hS ?_; clear F a; intro a F
  refine any_val F 10 rfl (by kernel_rfl) (wn rfl) rfl rfl (.pointer (some ⟨gs, 4, none⟩)) (fun w' hS' => ex_fa _ _ _ rfl _ (F.e rfl) 4 ri_fa_66_4_4 ⟨gs, 4, none⟩ rfl) hS ?_; clear F a; intro a F
  refine any_ready [11] (by kernel_rfl) (by simp) ?_
  refine ready_do rfl (wn rfl) (fun K hK => ?_) AllReadyH.nil
  refine ow_store F M rfl 55 _ _ rfl 2 gs ((seC (.slice SA sks.length Sc)).toArray) _ rfl 4 (F.e rfl) _ (F.e rfl) [.slice A2 ks.length c2] rfl ri_info_55_map_size_some_1 (by show 5 ≤ 14; decide) (by simp [Value.oneCell']) ((seC (.slice A2 ks.length c2)).toArray) rfl ?_
  clear F a; have Mo := M; clear M; intro a u F M hgr
  replace hS : Mm (cutW w base) u [⟨g3, #[.slice A ks.length c, .int .u64 next], 69⟩] := (by refine M.pick' [1] _ ?_ (by decide); exact ⟨rfl, trivial⟩)
  refine hK _ _ hS ?_
  clear hK K
  replace B_ := B_.far hgr (fun g2 e => by injection e with e; subst e; exact ⟨_, 66, Mo.blk 2 _ rfl, by decide, by decide, by decide, .inl (by decide)⟩)
  replace O_s := Ow.grown (enc := Key.cs) (m := 34) (hl := Key.cs_len) (h1 := Key.cs_one) O_s (Mo.blk 2 _ rfl) (.inl (by show (107 : Nat) ≠ 66; decide)) hgr
  replace R_ := Ow.grown (enc := Key.cs) (m := 34) (hl := Key.cs_len) (h1 := Key.cs_one) R_ (Mo.blk 2 _ rfl) (.inl (by show (107 : Nat) ≠ 66; decide)) hgr
  replace G_ := G_.grown (Mo.blk 2 _ rfl) hgs (.inl (by show (66 : Nat) ∈ [66]; decide)) hgr
  replace N_ := N_.size hgr.size
  clear Mo hgr; try clear v
  replace M : Mm (cutW w base) u [⟨g4, #[.slice none 0 0, .int .u64 0], 69⟩, ⟨g3, #[.slice A ks.length c, .int .u64 next], 69⟩, ⟨gs, (seC (.slice A2 ks.length c2)).toArray, 66⟩] := M
  refine any_done (by kernel_rfl) ?_
  exact ⟨A2, c2, F.keep ⟨rfl, rfl, rfl, rfl, trivial⟩, (by refine M.pick' [0, 1, 2] _ ?_ (by decide); exact ⟨rfl, rfl, rfl, trivial⟩), B_, O_s, R_, G_, N_⟩
 clear F M a B_ O_s R_ G_
 intro a v hR; obtain ⟨A2, c2, F, M, B_, O_s, R_, G_, N_⟩ := hR; try clear u
 refine then_n ?_
 refine wp_seq ?_
 refine region_tail 7 ri_follows_mixedOrders (by kernel_rfl) M ?_; clear M; intro u M hb
 replace B_ := B_.below hb
 replace O_s := O_s.below hb
 replace R_ := R_.below hb
 replace G_ := G_.below hb
 replace N_ := N_.size hb.size
 clear hb; try clear v
 refine still_val F (wn rfl) rfl rfl (.pointer (some ⟨gs, 0, none⟩)) (ex_move _ rfl _ (F.e rfl)) ?_; clear F a; intro a F
 refine still_val F (wn rfl) rfl rfl (.pointer (some ⟨gs, 0, none⟩)) (ex_nilck _ rfl _ (F.e rfl)) ?_; clear F a; intro a F
 refine still_val F (wn rfl) rfl rfl (.pointer (some ⟨gs, 4, none⟩)) (ex_fa _ _ _ rfl _ (F.e rfl) 4 ri_fa_66_4_4 ⟨gs, 4, none⟩ rfl) ?_; clear F a; intro a F
 refine still_val F (wn rfl) rfl rfl (.slice A2 ks.length c2) (ex_load _ _ rfl _ (F.e rfl) _ (lv1 ri_one_55 (M.cell (i := 2) rfl (j := 4) rfl))) ?_; clear F a; intro a F
 refine still_val F (wn rfl) rfl rfl (.pointer (some ⟨g3, 1, none⟩)) (ex_fa _ _ _ rfl _ (F.e rfl) 1 ri_fa_69_1_1 ⟨g3, 1, none⟩ rfl) ?_; clear F a; intro a F
 refine still_val F (wn rfl) rfl rfl (.int .u64 next) (ex_load _ _ rfl _ (F.e rfl) _ (lv1 ri_one_67 (M.cell (i := 1) rfl (j := 1) rfl))) ?_; clear F a; intro a F
 refine still_val F (wn rfl) rfl rfl (.agg #[.slice A2 ks.length c2, .int .u64 next]) (ex_build 69 _ rfl #[(0, .slice A2 ks.length c2), (1, .int .u64 next)] (parts2 (F.e rfl) (F.e rfl)) (.agg #[.slice A2 ks.length c2, .int .u64 next]) (build69_01 A2 ks.length c2 next _)) ?_; clear F a; intro a F
 refine still_end ?_
 refine list_do (wn rfl) (fun K hK => ?_)
 refine ow_put F M rfl 69 _ _ rfl 0 _ #[.slice none 0 0, .int .u64 0] _ rfl (F.e rfl) #[.slice A2 ks.length c2, .int .u64 next] (F.e rfl) (sz_row (m := 2) ri_row_69_2) rfl (by simp [Value.oneCell']) ?_
 clear F a; have Mo := M; clear M; intro a v F M hgr
 refine hK _ _ ?_
 clear hK K
 replace B_ := B_.far hgr (fun g2 e => by injection e with e; subst e; exact ⟨_, 69, Mo.blk 0 _ rfl, by decide, by decide, by decide, .inl (by decide)⟩)
 replace O_s := Ow.grown (enc := Key.cs) (m := 34) (hl := Key.cs_len) (h1 := Key.cs_one) O_s (Mo.blk 0 _ rfl) (.inl (by show (107 : Nat) ≠ 69; decide)) hgr
 replace R_ := Ow.grown (enc := Key.cs) (m := 34) (hl := Key.cs_len) (h1 := Key.cs_one) R_ (Mo.blk 0 _ rfl) (.inl (by show (107 : Nat) ≠ 69; decide)) hgr
 replace G_ := G_.fresh lw_g4 hgr
 replace N_ := N_.size hgr.size
 clear Mo hgr; try clear u
 replace M : Mm (cutW w base) v [⟨g4, #[.slice A2 ks.length c2, .int .u64 next], 69⟩, ⟨g3, #[.slice A ks.length c, .int .u64 next], 69⟩, ⟨gs, (seC (.slice A2 ks.length c2)).toArray, 66⟩] := M
 refine wpList_nil ?_
 replace F : Fr 23 a [(0, .pointer (some ⟨gs, 0, none⟩)), (1, .agg #[.slice A ks.length c, .int .u64 next]), (3, .pointer (some ⟨g3, 0, none⟩)), (4, .pointer (some ⟨g4, 0, none⟩))] := F.keep ⟨rfl, rfl, rfl, rfl, trivial⟩
 refine then_n ?_
 refine wp_ret ?_
 exact ret_c1 (v := .agg #[.slice A2 ks.length c2, .int .u64 next]) F rfl rfl (lvr (cs := [.slice A2 ks.length c2, .int .u64 next]) ri_row_69_2 (M.at (i := 0) rfl)) ⟨A2, c2, rfl, ⟨⟨KA, Kc, rows, IA, Ic, ms, us, B_⟩, ⟨A2, c2, ks, M.blk 2 _ rfl, O_s, N_⟩, ⟨R_, fun k hk => ⟨(S.ring.2 k hk).1, Nat.lt_of_lt_of_le (S.ring.2 k hk).2 (Nat.le_trans S.lim.2 G_.size)⟩⟩, fun k hk => S.fresh k (Nat.le_trans (Nat.le_trans S.lim.2 G_.size) hk), S.lo, ⟨Nat.le_trans hbw G_.size, Nat.le_refl _⟩⟩, O_s, _, G_, fun k hk => ⟨(h3 k hk).2.1, (Ow.bound (enc := Key.cs) (m := 34) (hl := Key.cs_len) (h1 := Key.cs_one) h2 hk).2.2⟩⟩
theorem ri_ent_43 : ent? Try.prog 43 = true := by kernel_rfl
theorem ri_ent_29 : ent? Try.prog 29 = true := by kernel_rfl
theorem ri_ent_39 : ent? Try.prog 39 = true := by kernel_rfl
theorem ri_ent_31 : ent? Try.prog 31 = true := by kernel_rfl
theorem ri_ent_22 : ent? Try.prog 22 = true := by kernel_rfl
theorem ri_ent_33 : ent? Try.prog 33 = true := by kernel_rfl
theorem ri_row_107_34 : row? Try.prog 107 34 = true := by kernel_rfl
theorem ri_bool_4 : bool? Try.prog 4 = true := by kernel_rfl
set_option maxHeartbeats 1000000 in
set_option maxRecDepth 100000 in
theorem placed_any (own : Nat → Nat) (base lim gb gs tn : Nat) (A : Option Addr) (c : Nat) (ks : List Key) (w : World) (S : St own base lim gb gs tn A c ks w) (next : Int) (hl : ks.length ≤ 900000) :
    Calls Try.prog 24 #[.pointer (some ⟨gs, 0, none⟩), .agg #[.slice A ks.length c, .int .u64 next]] w fun e w' => e = .returned (.bool true) ∧ St own base w'.heap.size gb gs tn A c ks w' ∧ ∃ x, Only base [66] x w w' ∧ ∀ k, x = some k → k < lim ∧ ∃ cells, w.heap[k]? = some (.cells cells 107 (0, 0)) := by
 have hbw : base ≤ w.heap.size := Nat.le_trans S.lim.1 S.lim.2
 have S_ := S
 have W_ := Below.refl w.heap.size w
 refine calls_start Try.func24 rfl rfl rfl (fun a F => ?_)
 have M : Mm (cutW w base) w [] := cut_nil hbw
 refine wp_seq ?_
 refine wp_region_lit ?_
 refine list_do (wn rfl) (fun K hK => ?_)
 refine ow_box F M rfl rfl 69 _ rfl _ (F.e rfl) #[.slice A ks.length c, .int .u64 next] rfl ?_
 clear F M a; intro a g3 v F M hb hg
 refine hK _ _ ?_
 clear hK K
 replace S_ := S_.below hb
 replace W_ := W_.trans (hb.mono W_.size)
 clear hb hg; try clear w
 refine list_val F (wn rfl) rfl rfl (.bool false) (ex_assign _ rfl _ rfl) ?_; clear F a; intro a F
 refine wpList_nil ?_
 replace F : Fr 39 a [(0, .pointer (some ⟨gs, 0, none⟩)), (1, .agg #[.slice A ks.length c, .int .u64 next]), (3, .pointer (some ⟨g3, 0, none⟩)), (4, .bool false)] := F.keep ⟨rfl, rfl, rfl, rfl, trivial⟩
 refine then_n ?_
 refine wp_seq ?_
 refine wp_region_lit ?_
 refine list_val F (wn rfl) rfl rfl (.pointer (some ⟨gs, 0, none⟩)) (ex_move _ rfl _ (F.e rfl)) ?_; clear F a; intro a F
 refine list_val F (wn rfl) rfl rfl (.agg #[.slice A ks.length c, .int .u64 next]) (ex_load _ _ rfl _ (F.e rfl) _ (lvr (cs := [.slice A ks.length c, .int .u64 next]) ri_row_69_2 (M.at (i := 0) rfl))) ?_; clear F a; intro a F
 refine list_do (wn rfl) (fun K hK => ?_)
 refine ow_call rfl rfl F 43 #[.pointer (some ⟨gs, 0, none⟩), .agg #[.slice A ks.length c, .int .u64 next]] (ex_call 43 _ _ rfl rfl ri_ent_43 _ (map2 (F.e rfl) (F.e rfl))) (seatRing_any own base lim gb gs tn A c ks _ S_ next hl) (fun e u hR => ?_)
 obtain ⟨A1, c1, he, S2, P_, x_, ho_, hx_⟩ := hR
 refine ⟨.agg #[.slice A1 ks.length c1, .int .u64 next], he, ?_⟩; clear he F a; intro a F
 refine hK _ _ ?_
 clear hK K
 have G_ := Only_pre W_ ho_
 replace M := mm_only M ho_ (by rw [cut_size hbw]; exact Nat.le_refl _) (Nat.le_trans hbw W_.size) (fun i b hb => by
   match i, hb with
   | 0, hb =>
     obtain rfl := Option.some.inj hb
     exact ⟨by show (69 : Nat) ∉ [66]; decide, fun e => by
       obtain ⟨_, cells, hc⟩ := hx_ _ e
       have hc2 := M.blk 0 _ rfl
       rw [hc] at hc2
       injection hc2 with hc2
       injection hc2 with _ hc2
       exact absurd (show (107 : Nat) = 69 from hc2) (by decide)⟩
   | i + 1, hb => simp at hb)
 have hxw : ∀ k, x_ = some k → k < lim ∧ ∃ cells, w.heap[k]? = some (.cells cells 107 (0, 0)) := fun k hk => by
   obtain ⟨q1, cells, q2⟩ := hx_ k hk
   exact ⟨q1, cells, by rw [← W_.block k (Nat.lt_of_lt_of_le q1 S.lim.2)]; exact q2⟩
 clear S_ W_ hx_ ho_; have S_ := S2; clear S2
 obtain ⟨l2, hl2e⟩ : ∃ l, l = u.heap.size := ⟨_, rfl⟩
 rw [← hl2e] at S_; clear hl2e; try clear v
 refine list_do (wn rfl) (fun K hK => ?_)
 refine ow_alloc F M rfl rfl 69 rfl (.agg #[.slice none 0 0, .int .u64 0]) z69 #[.slice none 0 0, .int .u64 0] rfl ?_
 clear F M a; intro a g5 v F M hb hg
 refine hK _ _ ?_
 clear hK K
 have lw_g5 : w.heap.size ≤ g5 := Nat.le_trans G_.size hg
 have K_S_ := S_
 have K_G_ := G_
 have K_P_ := P_
 replace S_ := S_.below hb
 replace G_ := G_.below hb
 replace P_ := P_.below hb
 have hz_g5 := hb; have lo_g5 := hg
 clear hb hg; try clear u
 refine list_do (wn rfl) (fun K hK => ?_)
 refine ow_put F M rfl 69 _ _ rfl 0 _ #[.slice none 0 0, .int .u64 0] _ rfl (F.e rfl) #[.slice A1 ks.length c1, .int .u64 next] (F.e rfl) (sz_row (m := 2) ri_row_69_2) rfl (by simp [Value.oneCell']) ?_
 clear F a; have Mo := M; clear M; intro a u F M hgr
 refine hK _ _ ?_
 clear hK K
 have hzz := S_grown hz_g5 hgr lo_g5
 replace S_ := K_S_.below hzz
 replace G_ := K_G_.below hzz
 replace P_ := K_P_.below hzz
 clear hzz hz_g5 lo_g5 K_S_ K_G_ K_P_
 clear Mo hgr; try clear v
 replace M : Mm (cutW w base) u [⟨g5, #[.slice A1 ks.length c1, .int .u64 next], 69⟩, ⟨g3, #[.slice A ks.length c, .int .u64 next], 69⟩] := M
 refine wpList_nil ?_
 replace F : Fr 39 a [(0, .pointer (some ⟨gs, 0, none⟩)), (1, .agg #[.slice A ks.length c, .int .u64 next]), (3, .pointer (some ⟨g3, 0, none⟩)), (4, .bool false), (5, .pointer (some ⟨g5, 0, none⟩))] := F.keep ⟨rfl, rfl, rfl, rfl, rfl, trivial⟩
 refine then_n ?_
 refine wp_seq ?_
 refine wp_region_lit ?_
 refine list_val F (wn rfl) rfl rfl (.agg #[.slice A1 ks.length c1, .int .u64 next]) (ex_load _ _ rfl _ (F.e rfl) _ (lvr (cs := [.slice A1 ks.length c1, .int .u64 next]) ri_row_69_2 (M.at (i := 0) rfl))) ?_; clear F a; intro a F
 refine list_do (wn rfl) (fun K hK => ?_)
 refine ow_call rfl rfl F 29 #[.agg #[.slice A1 ks.length c1, .int .u64 next]] (ex_call 29 _ _ rfl rfl ri_ent_29 _ (map1 (F.e rfl))) (cur_any ks A1 c1 next _ (Ow.rd (k := kKey) P_).1 (Ow.rd (k := kKey) P_).2.2) (fun e v hR => ?_)
 obtain ⟨he, hb⟩ := hR
 refine ⟨.tuple #[.agg ((curF ks next).arr), .bool (!decide (curF ks next = zKey))], he, ?_⟩; clear he F a; intro a F
 refine hK _ _ ?_
 clear hK K
 replace S_ := S_.below hb
 replace G_ := G_.below hb
 replace P_ := P_.below hb
 replace M := M.below hb; clear hb; try clear u
 refine list_val F (wn rfl) rfl rfl (.tuple #[.agg ((curF ks next).arr), .bool (!decide (curF ks next = zKey))]) (ex_move _ rfl _ (F.e rfl)) ?_; clear F a; intro a F
 refine list_val F (wn rfl) rfl rfl (.agg ((curF ks next).arr)) (ex_extract _ _ rfl _ (F.e rfl) _ rfl) ?_; clear F a; intro a F
 refine list_val F (wn rfl) rfl rfl (.bool (!decide (curF ks next = zKey))) (ex_extract _ _ rfl _ (F.e rfl) _ rfl) ?_; clear F a; intro a F
 refine list_do (wn rfl) (fun K hK => ?_)
 refine ow_alloc F M rfl rfl 107 rfl (.agg zKey.arr) zero107 zKey.arr rfl ?_
 clear F M a; intro a g6 u F M hb hg
 refine hK _ _ ?_
 clear hK K
 have lw_g6 : w.heap.size ≤ g6 := Nat.le_trans G_.size hg
 have K_S_ := S_
 have K_G_ := G_
 have K_P_ := P_
 replace S_ := S_.below hb
 replace G_ := G_.below hb
 replace P_ := P_.below hb
 have hz_g6 := hb; have lo_g6 := hg
 clear hb hg; try clear v
 refine list_do (wn rfl) (fun K hK => ?_)
 refine ow_put F M rfl 107 _ _ rfl 0 _ zKey.arr _ rfl (F.e rfl) ((curF ks next).arr) (F.e rfl) (by rw [Key.arr_size]; exact info107) (by simp only [Key.arr_size]) (Key.arr_one _) ?_
 clear F a; have Mo := M; clear M; intro a v F M hgr
 refine hK _ _ ?_
 clear hK K
 have hzz := S_grown hz_g6 hgr lo_g6
 replace S_ := K_S_.below hzz
 replace G_ := K_G_.below hzz
 replace P_ := K_P_.below hzz
 clear hzz hz_g6 lo_g6 K_S_ K_G_ K_P_
 clear Mo hgr; try clear u
 replace M : Mm (cutW w base) v [⟨g6, (curF ks next).arr, 107⟩, ⟨g5, #[.slice A1 ks.length c1, .int .u64 next], 69⟩, ⟨g3, #[.slice A ks.length c, .int .u64 next], 69⟩] := M
 refine list_val F (wn rfl) rfl rfl (.bool (!decide (curF ks next = zKey))) (ex_assign _ rfl _ (F.e rfl)) ?_; clear F a; intro a F
 refine wpList_nil ?_
 replace F : Fr 39 a [(0, .pointer (some ⟨gs, 0, none⟩)), (1, .agg #[.slice A ks.length c, .int .u64 next]), (3, .pointer (some ⟨g3, 0, none⟩)), (4, .bool false), (5, .pointer (some ⟨g5, 0, none⟩)), (6, .pointer (some ⟨g6, 0, none⟩)), (7, .bool (!decide (curF ks next = zKey)))] := F.keep ⟨rfl, rfl, rfl, rfl, rfl, rfl, rfl, trivial⟩
 refine then_n ?_
 refine wp_seq ?_
 refine wp_region_lit ?_
 refine list_val F (wn rfl) rfl rfl (.agg #[.slice A ks.length c, .int .u64 next]) (ex_load _ _ rfl _ (F.e rfl) _ (lvr (cs := [.slice A ks.length c, .int .u64 next]) ri_row_69_2 (M.at (i := 2) rfl))) ?_; clear F a; intro a F
 refine list_do (wn rfl) (fun K hK => ?_)
 refine ow_call rfl rfl F 39 #[.agg #[.slice A ks.length c, .int .u64 next]] (ex_call 39 _ _ rfl rfl ri_ent_39 _ (map1 (F.e rfl))) (refCur_any ks A c next _ S_.rd S_.rc) (fun e u hR => ?_)
 obtain ⟨he, hb⟩ := hR
 refine ⟨.tuple #[.agg ((curF ks next).arr), .bool (!decide (curF ks next = zKey))], he, ?_⟩; clear he F a; intro a F
 refine hK _ _ ?_
 clear hK K
 replace S_ := S_.below hb
 replace G_ := G_.below hb
 replace P_ := P_.below hb
 replace M := M.below hb; clear hb; try clear v
 refine list_val F (wn rfl) rfl rfl (.tuple #[.agg ((curF ks next).arr), .bool (!decide (curF ks next = zKey))]) (ex_move _ rfl _ (F.e rfl)) ?_; clear F a; intro a F
 refine list_val F (wn rfl) rfl rfl (.agg ((curF ks next).arr)) (ex_extract _ _ rfl _ (F.e rfl) _ rfl) ?_; clear F a; intro a F
 refine list_val F (wn rfl) rfl rfl (.bool (!decide (curF ks next = zKey))) (ex_extract _ _ rfl _ (F.e rfl) _ rfl) ?_; clear F a; intro a F
 refine list_do (wn rfl) (fun K hK => ?_)
 refine ow_alloc F M rfl rfl 107 rfl (.agg zKey.arr) zero107 zKey.arr rfl ?_
 clear F M a; intro a g8 v F M hb hg
 refine hK _ _ ?_
 clear hK K
 have lw_g8 : w.heap.size ≤ g8 := Nat.le_trans G_.size hg
 have K_S_ := S_
 have K_G_ := G_
 have K_P_ := P_
 replace S_ := S_.below hb
 replace G_ := G_.below hb
 replace P_ := P_.below hb
 have hz_g8 := hb; have lo_g8 := hg
 clear hb hg; try clear u
 refine list_do (wn rfl) (fun K hK => ?_)
 refine ow_put F M rfl 107 _ _ rfl 0 _ zKey.arr _ rfl (F.e rfl) ((curF ks next).arr) (F.e rfl) (by rw [Key.arr_size]; exact info107) (by simp only [Key.arr_size]) (Key.arr_one _) ?_
 clear F a; have Mo := M; clear M; intro a u F M hgr
 refine hK _ _ ?_
 clear hK K
 have hzz := S_grown hz_g8 hgr lo_g8
 replace S_ := K_S_.below hzz
 replace G_ := K_G_.below hzz
 replace P_ := K_P_.below hzz
 clear hzz hz_g8 lo_g8 K_S_ K_G_ K_P_
 clear Mo hgr; try clear v
 replace M : Mm (cutW w base) u [⟨g8, (curF ks next).arr, 107⟩, ⟨g6, (curF ks next).arr, 107⟩, ⟨g5, #[.slice A1 ks.length c1, .int .u64 next], 69⟩, ⟨g3, #[.slice A ks.length c, .int .u64 next], 69⟩] := M
 refine list_val F (wn rfl) rfl rfl (.bool (!decide (curF ks next = zKey))) (ex_assign _ rfl _ (F.e rfl)) ?_; clear F a; intro a F
 refine wpList_nil ?_
 replace F : Fr 39 a [(0, .pointer (some ⟨gs, 0, none⟩)), (1, .agg #[.slice A ks.length c, .int .u64 next]), (3, .pointer (some ⟨g3, 0, none⟩)), (4, .bool false), (5, .pointer (some ⟨g5, 0, none⟩)), (6, .pointer (some ⟨g6, 0, none⟩)), (7, .bool (!decide (curF ks next = zKey))), (8, .pointer (some ⟨g8, 0, none⟩)), (9, .bool (!decide (curF ks next = zKey)))] := F.keep ⟨rfl, rfl, rfl, rfl, rfl, rfl, rfl, rfl, rfl, trivial⟩
 refine then_n ?_
 refine wp_seq ?_
 refine wp_only (fun ar wr => Fr 39 ar [(0, .pointer (some ⟨gs, 0, none⟩)), (1, .agg #[.slice A ks.length c, .int .u64 next]), (3, .pointer (some ⟨g3, 0, none⟩)), (4, .bool true), (5, .pointer (some ⟨g5, 0, none⟩)), (6, .pointer (some ⟨g6, 0, none⟩)), (7, .bool (!decide (curF ks next = zKey))), (8, .pointer (some ⟨g8, 0, none⟩)), (9, .bool (!decide (curF ks next = zKey)))] ∧ Mm (cutW w base) wr [⟨g8, (curF ks next).arr, 107⟩, ⟨g6, (curF ks next).arr, 107⟩, ⟨g5, #[.slice A1 ks.length c1, .int .u64 next], 69⟩, ⟨g3, #[.slice A ks.length c, .int .u64 next], 69⟩] ∧ St own base l2 gb gs tn A c ks wr ∧ Only base [66] x_ w wr ∧ Ow kKey 107 wr base (.slice A1 ks.length c1) ks) ?_ ?_
 ·
  refine region_anyM ri_follows_mixedOrders M [⟨g5, #[.slice A1 ks.length c1, .int .u64 next], 69⟩, ⟨g3, #[.slice A ks.length c, .int .u64 next], 69⟩, ⟨g6, (curF ks next).arr, 107⟩, ⟨g8, (curF ks next).arr, 107⟩] (fun w' M => (by refine M.pick' [2, 3, 1, 0] _ ?_ (by decide); exact ⟨rfl, rfl, rfl, rfl, trivial⟩)) ?_; clear M; intro wD M hb
  replace S_ := S_.below hb
  replace G_ := G_.below hb
  replace P_ := P_.below hb
  clear hb; try clear u
  have hS : Mm (cutW w base) wD [⟨g5, #[.slice A1 ks.length c1, .int .u64 next], 69⟩, ⟨g3, #[.slice A ks.length c, .int .u64 next], 69⟩, ⟨g6, (curF ks next).arr, 107⟩, ⟨g8, (curF ks next).arr, 107⟩] := (by refine M.pick' [2, 3, 1, 0] _ ?_ (by decide); exact ⟨rfl, rfl, rfl, rfl, trivial⟩)
  refine any_val F 0 rfl (by kernel_rfl) (wn rfl) rfl rfl (.agg #[.slice A1 ks.length c1, .int .u64 next]) (fun w' hS' => ex_load _ _ rfl _ (F.e rfl) _ (lvr (cs := [.slice A1 ks.length c1, .int .u64 next]) ri_row_69_2 (hS'.at (i := 0) rfl))) hS ?_; clear F a; intro a F
  refine any_val F 3 rfl (by kernel_rfl) (wn rfl) rfl rfl (.agg #[.slice A ks.length c, .int .u64 next]) (fun w' hS' => ex_load _ _ rfl _ (F.e rfl) _ (lvr (cs := [.slice A ks.length c, .int .u64 next]) ri_row_69_2 (hS'.at (i := 1) rfl))) hS ?_; clear F a; intro a F
  refine any_ready [1] (by kernel_rfl) (by simp) ?_
  refine ready_do rfl (wn rfl) (fun K hK => ?_) AllReadyH.nil
  refine ow_call rfl rfl F 31 #[.agg #[.slice A1 ks.length c1, .int .u64 next]] (ex_call 31 _ _ rfl rfl ri_ent_31 _ (map1 (F.e rfl))) (check_any ks A1 c1 next _ (Ow.rd (k := kKey) P_).1 (Ow.rd (k := kKey) P_).2.2) (fun e v hR => ?_)
  obtain ⟨he, hb⟩ := hR
  refine ⟨.int .i64 (errK ks next), he, ?_⟩; clear he F a; intro a F
  replace hS : Mm (cutW w base) v [⟨g5, #[.slice A1 ks.length c1, .int .u64 next], 69⟩, ⟨g3, #[.slice A ks.length c, .int .u64 next], 69⟩, ⟨g6, (curF ks next).arr, 107⟩, ⟨g8, (curF ks next).arr, 107⟩] := (by refine (M.below hb).pick' [2, 3, 1, 0] _ ?_ (by decide); exact ⟨rfl, rfl, rfl, rfl, trivial⟩)
  refine hK _ _ hS ?_
  clear hK K
  replace S_ := S_.below hb
  replace G_ := G_.below hb
  replace P_ := P_.below hb
  replace M := M.below hb; clear hb; try clear wD
  refine any_ready [2] (by kernel_rfl) (by simp) ?_
  refine ready_do rfl (wn rfl) (fun K hK => ?_) AllReadyH.nil
  refine ow_call rfl rfl F 22 #[.int .i64 (errK ks next)] (ex_call 22 _ _ rfl rfl ri_ent_22 _ (map1 (F.e rfl))) (num_any _ _) (fun e u hR => ?_)
  obtain ⟨he, hw⟩ := hR
  replace hw := hw.symm
  refine ⟨.int .i64 (errK ks next), he, ?_⟩; clear he F a; intro a F
  replace hw := hw.symm; subst hw
  replace hS : Mm (cutW w base) v [⟨g5, #[.slice A1 ks.length c1, .int .u64 next], 69⟩, ⟨g3, #[.slice A ks.length c, .int .u64 next], 69⟩, ⟨g6, (curF ks next).arr, 107⟩, ⟨g8, (curF ks next).arr, 107⟩] := (by refine M.pick' [2, 3, 1, 0] _ ?_ (by decide); exact ⟨rfl, rfl, rfl, rfl, trivial⟩)
  refine hK _ _ hS ?_
  clear hK K
  refine any_ready [4] (by kernel_rfl) (by simp) ?_
  refine ready_do rfl (wn rfl) (fun K hK => ?_) AllReadyH.nil
  refine ow_call rfl rfl F 33 #[.agg #[.slice A ks.length c, .int .u64 next]] (ex_call 33 _ _ rfl rfl ri_ent_33 _ (map1 (F.e rfl))) (refCheck_any ks A c next _ S_.rd S_.rc) (fun e u hR => ?_)
  obtain ⟨he, hb⟩ := hR
  refine ⟨.int .i64 (errK ks next), he, ?_⟩; clear he F a; intro a F
  replace hS : Mm (cutW w base) u [⟨g5, #[.slice A1 ks.length c1, .int .u64 next], 69⟩, ⟨g3, #[.slice A ks.length c, .int .u64 next], 69⟩, ⟨g6, (curF ks next).arr, 107⟩, ⟨g8, (curF ks next).arr, 107⟩] := (by refine (M.below hb).pick' [2, 3, 1, 0] _ ?_ (by decide); exact ⟨rfl, rfl, rfl, rfl, trivial⟩)
  refine hK _ _ hS ?_
  clear hK K
  replace S_ := S_.below hb
  replace G_ := G_.below hb
  replace P_ := P_.below hb
  replace M := M.below hb; clear hb; try clear v
  refine any_val F 5 rfl (by kernel_rfl) (wn rfl) rfl rfl (.bool true) (fun w' hS' => ex_bin .eql _ _ _ _ rfl .i64 _ _ (F.e rfl) (F.e rfl) _ (b_eql (by simp))) hS ?_; clear F a; intro a F
  refine any_val F 6 rfl (by kernel_rfl) (wn rfl) rfl rfl (.bool true) (fun w' hS' => ex_move _ rfl _ (F.e rfl)) hS ?_; clear F a; intro a F
  refine any_val F 7 rfl (by kernel_rfl) (F.wants 29 true rfl (by kernel_rfl) rfl true rfl) rfl rfl (.agg ((curF ks next).arr)) (fun w' hS' => ex_load _ _ rfl _ (F.e rfl) _ (lvr (cs := (curF ks next).cs) (by rw [Key.cs_len]; exact ri_row_107_34) (hS'.at (i := 2) rfl))) hS ?_; clear F a; intro a F
  refine any_val F 8 rfl (by kernel_rfl) (F.wants 29 true rfl (by kernel_rfl) rfl true rfl) rfl rfl (.agg ((curF ks next).arr)) (fun w' hS' => ex_load _ _ rfl _ (F.e rfl) _ (lvr (cs := (curF ks next).cs) (by rw [Key.cs_len]; exact ri_row_107_34) (hS'.at (i := 3) rfl))) hS ?_; clear F a; intro a F
  refine any_val F 9 rfl (by kernel_rfl) (F.wants 29 true rfl (by kernel_rfl) rfl true rfl) rfl rfl (.bool true) (fun w' hS' => ex_eqlk _ _ _ rfl (curF ks next) (curF ks next) (F.e rfl) (F.e rfl) true (by simp)) hS ?_; clear F a; intro a F
  refine any_val F 10 rfl (by kernel_rfl) (wn rfl) rfl rfl (.bool true) (fun w' hS' => ex_pick_t _ _ _ rfl (F.e rfl) _ (F.e rfl)) hS ?_; clear F a; intro a F
  refine any_val F 11 rfl (by kernel_rfl) (wn rfl) rfl rfl (.bool true) (fun w' hS' => ex_move _ rfl _ (F.e rfl)) hS ?_; clear F a; intro a F
  refine any_val F 12 rfl (by kernel_rfl) (F.wants 34 true rfl (by kernel_rfl) rfl true rfl) rfl rfl (.bool (!decide (curF ks next = zKey))) (fun w' hS' => ex_move _ rfl _ (F.e rfl)) hS ?_; clear F a; intro a F
  refine any_val F 13 rfl (by kernel_rfl) (F.wants 34 true rfl (by kernel_rfl) rfl true rfl) rfl rfl (.bool (!decide (curF ks next = zKey))) (fun w' hS' => ex_move _ rfl _ (F.e rfl)) hS ?_; clear F a; intro a F
  refine any_val F 14 rfl (by kernel_rfl) (F.wants 34 true rfl (by kernel_rfl) rfl true rfl) rfl rfl (.bool true) (fun w' hS' => WG.ex_eqb _ _ _ _ rfl ri_bool_4 (!decide (curF ks next = zKey)) (!decide (curF ks next = zKey)) (F.e rfl) (F.e rfl) true (by simp)) hS ?_; clear F a; intro a F
  refine any_val F 15 rfl (by kernel_rfl) (wn rfl) rfl rfl (.bool true) (fun w' hS' => ex_pick_t _ _ _ rfl (F.e rfl) _ (F.e rfl)) hS ?_; clear F a; intro a F
  refine any_val F 16 rfl (by kernel_rfl) (wn rfl) rfl rfl (.bool true) (fun w' hS' => ex_assign _ rfl _ (F.e rfl)) hS ?_; clear F a; intro a F
  refine any_done (by kernel_rfl) ?_
  exact ⟨F.keep ⟨rfl, rfl, rfl, rfl, rfl, rfl, rfl, rfl, rfl, trivial⟩, (by refine M.pick' [0, 1, 2, 3] _ ?_ (by decide); exact ⟨rfl, rfl, rfl, rfl, trivial⟩), S_, G_, P_⟩
 clear F M a S_ G_ P_
 intro a v hR; obtain ⟨F, M, S_, G_, P_⟩ := hR; try clear u
 refine then_n ?_
 refine wp_ret ?_
 exact ret_tmp F rfl rfl ⟨rfl, S_.up S_.lim.2 (Nat.le_refl _), x_, G_, hxw⟩
end Go.Proofs.Ytnechcibpmjblaa
