/- The document's own answers on a ring (posternref5): Prune, Rotate, Distrust: their walks; rows of one's own beside blocks of one's own. Conditions: the ring's keys are read. -/
import Derived.Test.YtnechcibpmjblaaRA
namespace Go.Proofs.Ytnechcibpmjblaa
open Go.RowKit Go.Proofs.YtnechcibpmjblaaW.PrintWords KB WG
set_option linter.unusedVariables false
set_option linter.unusedSimpArgs false

theorem own_grown {w w1 : World} {base : Nat} {v : Value} {ks : List Key} {g t : Nat} {cells : Array Value} (h : OwnKeys w base v ks) (hb : w.heap[g]? = some (.cells cells t (0, 0))) (ht : 107 ≠ t) (hg : w.grownBy w1 (some g)) : OwnKeys w1 base v ks :=
  Kd.R_mono (Kd.R_grown (ok := fun k => True ∧ k ≠ g) (Kd.R_types h hb (fun q hq => by
    obtain rfl : q = 107 := by simpa [kKey, kBlk] using hq
    exact ht)) hg (fun k hk he => hk.2 (by injection he))) (fun _ _ => trivial)
theorem own_ro {w : World} {base : Nat} {A : Option Addr} {c n : Nat} {ks : List Key} (h : OwnKeys w base (.slice A n c) ks) (hn : n = ks.length) (next : Int) : RO w A c ⟨ks, next⟩ := by
  subst hn
  obtain ⟨h0, inner, ho, hr⟩ := h
  exact ⟨fun _ _ => trivial, inner, own_weaken ho (Nat.zero_le _), hr⟩
/-- What is told of a ring: a row of one's own, made by the call. -/
def TellsF (e : Ending) (w : World) (w' : World) (r : Rg) : Prop := ∃ A c, e = .returned (.agg #[.slice A r.keys.length c, .int .u64 r.next]) ∧ OwnKeys w' w.heap.size (.slice A r.keys.length c) r.keys ∧ Below w.heap.size w w'
def TellsF2 (e : Ending) (w : World) (w' : World) (r : Rg) (n : Int) : Prop := ∃ A c, e = .returned (.tuple #[.agg #[.slice A r.keys.length c, .int .u64 r.next], .int .i64 n]) ∧ OwnKeys w' w.heap.size (.slice A r.keys.length c) r.keys ∧ Below w.heap.size w w'
theorem TellsF.t {e : Ending} {w w' : World} {r : Rg} (h : TellsF e w w' r) : Tells e w w' r := by
  obtain ⟨A, c, h1, h2, h3⟩ := h
  exact ⟨A, c, h1, own_ro h2 rfl _, h3⟩
theorem TellsF2.t {e : Ending} {w w' : World} {r : Rg} {n : Int} (h : TellsF2 e w w' r n) : Tells2 e w w' r n := by
  obtain ⟨A, c, h1, h2, h3⟩ := h
  exact ⟨A, c, h1, own_ro h2 rfl _, h3⟩
theorem reps_flat {ks : List Key} {inner : List Value} (h : Reps (fun (x : Key) (cs : List Value) => cs = x.cs) 34 ks inner) : inner = ks.flatMap Key.cs := by
  obtain ⟨hl, hr⟩ := h
  have hl2 := rows_len Key.cs_len ks
  apply List.ext_getElem?
  intro t
  rcases Nat.lt_or_ge t (ks.length * 34) with ht | ht
  · obtain ⟨k, hk⟩ : ∃ k, ks[t / 34]? = some k := ⟨_, List.getElem?_eq_getElem (by omega)⟩
    have h1 := hr _ _ hk
    have hj : t % 34 < 34 := Nat.mod_lt _ (by decide)
    have h2 : inner[t]? = k.cs[t % 34]? := by
      rw [← h1, List.getElem?_take_of_lt hj, List.getElem?_drop, show t / 34 * 34 + t % 34 = t by omega]
    obtain ⟨v, hv⟩ : ∃ v, k.cs[t % 34]? = some v := ⟨_, List.getElem?_eq_getElem (by rw [Key.cs_len]; exact hj)⟩
    have h3 := rows_get Key.cs_len (sp := []) hk hv
    rw [List.append_nil, show t / 34 * 34 + t % 34 = t by omega] at h3
    rw [h2, hv, h3]
  · rw [List.getElem?_eq_none (by omega), List.getElem?_eq_none (by omega)]
/-- A row that a callee has made is a block of one's own. -/
theorem WG.Mm.adopt {w0 w w' : World} {H : List Blk} (M : Mm w0 w H) (hb : Below w.heap.size w w') {A : Option Addr} {n c : Nat} {ks : List Key} (hO : OwnKeys w' w.heap.size (.slice A n c) ks) (hn : 0 < ks.length) :
    ∃ g sp, A = some ⟨g, 0, none⟩ ∧ n = ks.length ∧ Mm w0 w' (⟨g, (ks.flatMap Key.cs ++ sp).toArray, 107⟩ :: H) ∧ (ks.flatMap Key.cs ++ sp).length = c * 34 ∧ ks.length ≤ c ∧ c ≤ maxLen ∧ w.heap.size ≤ g := by
  obtain ⟨_, inner, ho, hr⟩ := hO
  rcases ho.2 with ⟨_, h0⟩ | ⟨g, cap, cur, hv, hg, hh, hnc, hcm, hsz, htk⟩
  · omega
  · simp only [Value.slice.injEq] at hv
    obtain ⟨rfl, rfl, rfl⟩ := hv
    have hf := reps_flat hr
    rw [hf] at htk
    change cur.toList.take (ks.length * 34) = _ at htk
    have e : cur = (ks.flatMap Key.cs ++ cur.toList.drop (ks.length * 34)).toArray := by
      rw [← htk, List.take_append_drop, Array.toArray_toList]
    refine ⟨g, cur.toList.drop (ks.length * 34), rfl, rfl, ?_, ?_, hnc, hcm, hg⟩
    · rw [← e]; exact M.new ⟨g, cur, 107⟩ hb hg hh
    · rw [← htk, List.take_append_drop, Array.length_toList]; exact hsz
theorem own_of_block {w : World} {base g n c : Nat} {ks : List Key} {sp : List Value} (hh : w.heap[g]? = some (.cells (ks.flatMap Key.cs ++ sp).toArray 107 (0, 0))) (hg : base ≤ g) (hn : n = ks.length) (hnc : n ≤ c) (hcm : c ≤ maxLen) (hl : (ks.flatMap Key.cs ++ sp).length = c * 34) : OwnKeys w base (.slice (some ⟨g, 0, none⟩) n c) ks := by
  subst hn
  have h34 := rows_len Key.cs_len ks
  refine ⟨fun _ _ => trivial, ks.flatMap Key.cs, ⟨h34, .inr ⟨g, c, _, rfl, hg, hh, hnc, hcm, by rw [List.size_toArray]; exact hl, ?_⟩⟩, h34, fun j k hk => ?_⟩
  · show (ks.flatMap Key.cs ++ sp).take (ks.length * 34) = _
    exact List.take_left' h34
  · show ((ks.flatMap Key.cs).drop (j * 34)).take 34 = k.cs
    have hj := (List.getElem?_eq_some_iff.1 hk).1
    rw [rows_split ks j k hk, List.drop_append_of_le_length (by rw [rows_len Key.cs_len, List.length_take, Nat.min_eq_left (by omega)]; exact Nat.le_refl _), List.drop_eq_nil_of_le (by rw [rows_len Key.cs_len, List.length_take, Nat.min_eq_left (by omega)]; exact Nat.le_refl _), List.nil_append]
    exact List.take_left' (Key.cs_len _)
theorem WG.Mm.grownO {w0 w w' : World} {H : List Blk} (M : Mm w0 w H) {v : Value} {ks : List Key} (hO : OwnKeys w w0.heap.size v ks) (hT : H.all (fun b => b.t != 107) = true) (hg : w.grownBy w' v.ownBlock) : Mm w0 w' H := by
  have hrow : ∀ k, v.ownBlock = some k → w0.heap.size ≤ k ∧ ∀ (i : Nat) (b : Blk), H[i]? = some b → some b.g ≠ v.ownBlock := fun k hk => by
    obtain ⟨_, h2, _, q, hq, cells, hc⟩ := (Kd.R_bound hO).1 k hk
    obtain rfl : q = 107 := by simpa [kKey, kBlk] using hq
    refine ⟨h2, fun i b hb e => ?_⟩
    rw [hk] at e
    obtain rfl := Option.some.inj e
    have h1 := M.blk i b hb
    rw [hc] at h1
    injection h1 with h1
    injection h1 with _ h1
    have := List.all_eq_true.1 hT b (List.mem_of_getElem? hb)
    rw [← h1] at this
    simp at this
  refine ⟨M.bel.grown hg M.bel.size (fun k hk => (hrow k hk).1), fun i b hb => ?_, M.lo, M.nd⟩
  rw [hg.block _ (M.lt hb) (fun e => (hrow _ e.symm).2 i b hb e)]
  exact M.blk i b hb
section
variable {a : Act} {w w0 : World} {n : Nat} {L : List (Nat × Value)} {H : List Blk} {op : Oper} {K : Act → World → Prop} {Q : Exit → Act → World → Prop}
theorem ow_ownapp (F : Fr n a L) (M : Mm w0 w H) (hT : H.all (fun b => b.t != 107) = true) {d : Nat} (hd : op.dst = some d) (hlt : Nat.blt d n = true) (hgd : op.guard = none) (s x : Operand) (ho : op.op = .call { callee := .builtin .append, args := #[s, x], argTypes := #[55, 55] })
    (B : Option Addr) (q b : Nat) (xs ys : List Key) (A : Option Addr) (m c : Nat) (hs : a.eval s = .slice B q b) (hx : a.eval x = .slice A m c) (HO : OwnKeys w w0.heap.size (.slice B q b) xs) (HR : kKey.C w A m ys) (hl : xs.length + m ≤ 1000000)
    (h : ∀ a' A1 c1 w', Fr n a' ((d, .slice A1 (xs ++ ys).length c1) :: L) → Mm w0 w' H → OwnKeys w' w0.heap.size (.slice A1 (xs ++ ys).length c1) (xs ++ ys) → K a' w') : op.wp Try.prog a w K Q := by
  have hw : Region.wanted op (yielded (#[] : Array Oper) a.tmps) = true := wn hgd
  have key := Kd.R_append_rows_step (P := Try.prog) (o := op) (a := a) (ops := #[]) (Q := Q) (Kc := K) kKey (w0 := w) (W := w) w0.heap.size hw s x 55 107 (.agg zKey.arr) 48 ho Try.underlying55 info107z (by rw [show (Value.agg zKey.arr).cells = zKey.arr from rfl, Key.arr_size]; rfl) (by decide) (by decide) _ xs ys A m c (fun _ => True) (fun _ => False) hs hx HO HR (fun _ _ h => h) (fun _ h => h.elim) (fun _ _ => trivial) ((Below.refl _ w).mono M.bel.size) M.bel.size (by omega) ?_
  · rwa [if_pos hw] at key
  · intro v1 w1 hO1 _ hg _
    obtain ⟨A1, c1, rfl⟩ := Kd.R_slice hO1
    rw [hd]
    exact h _ A1 c1 w1 (F.put _ hlt) (Mm.grownO M HO hT hg) hO1
end
theorem region_anyM {P : Program} {w0 w : World} {H : List Blk} {ops : Array Oper} {R : Act → World → Prop} {a : Act} {id : Nat} (hm : P.follows .mixedOrders = true) (M : Mm w0 w H) (HS : List Blk) (hp : ∀ w', Mm w0 w' H → Mm w0 w' HS)
    (h : ∀ wD, Mm w0 wD H → Below w.heap.size w wD → wpAnyH P .any ops (Only R) (fun w' => Mm w0 w' HS) ops.size (Array.replicate ops.size false) a wD) : (Code.region id ops true).wp P (Only R) a w :=
  wp_region_held_drew (S := fun w' => Mm w0 w' HS) hm (hp _ M.drew) (fun _ => h _ M.drew (below_drew1 (Below.refl _ w)))
/-! ### What the document tells -/
theorem prune_no {ks : List Key} {next now : Int} (h : checkK ks next = false) : pruneF ⟨ks, next⟩ now = zRg := by unfold pruneF; rw [show checkK (⟨ks, next⟩ : Rg).keys (⟨ks, next⟩ : Rg).next = false from h]; rfl
theorem prune_yes {ks : List Key} {next now : Int} (h : checkK ks next = true) : pruneF ⟨ks, next⟩ now = ⟨prK ks now, next⟩ := by unfold pruneF; rw [show checkK (⟨ks, next⟩ : Rg).keys (⟨ks, next⟩ : Rg).next = true from h]; rfl
theorem prK_step {ks : List Key} {now : Int} {i : Nat} (hi : i < ks.length) : prK (ks.take (i + 1)) now = prK (ks.take i) now ++ (if !(decide (0 < (rdK ks (i : Int)).til) && decide ((rdK ks (i : Int)).til ≤ now)) then [rdK ks (i : Int)] else []) := by
  rw [rdK_eq hi, List.take_succ_eq_append_getElem hi]
  unfold prK
  rw [List.filter_append]
  congr 1
  rw [List.filter_cons]
  rfl
theorem check_kid {ks : List Key} {next : Int} (h : checkK ks next = true) {i : Nat} (hi : i < ks.length) : 0 ≤ (rdK ks (i : Int)).til := by
  have := bad_false ((check_iff.1 h).2.2.2.2 i hi)
  omega
theorem prK_len {ks : List Key} {now : Int} {i : Nat} : (prK (ks.take i) now).length ≤ ks.length := Nat.le_trans (List.length_filter_le _ _) (by rw [List.length_take]; omega)
theorem kKey_one {w : World} {g : Nat} (k : Key) (h : At w ⟨g, 0, none⟩ k.cs) : kKey.C w (some ⟨g, 0, none⟩) 1 [k] := rows_C' (xs := [k]) (sp := []) Key.cs_len (by simpa using h) rfl (by decide)
theorem build69_0 (w : World) : (Instr.build 69 #[]).run Try.prog w = .ok (.agg #[.slice none 0 0, .int .u64 0]) w := by kernel_rfl
theorem build69_1 (n : Int) (w : World) : (Instr.build 69 #[(1, .int .u64 n)]).run Try.prog w = .ok (.agg #[.slice none 0 0, .int .u64 n]) w := by kernel_rfl
theorem own_low {w : World} {b b' : Nat} {v : Value} {ks : List Key} (h : OwnKeys w b v ks) (hb : b' ≤ b) : OwnKeys w b' v ks := by
  obtain ⟨h0, inner, ho, hr⟩ := h
  exact ⟨h0, inner, own_weaken ho hb, hr⟩
theorem Key.set_33 (k : Key) (u : Int) : k.cs.take 33 ++ [.int .i64 u] ++ k.cs.drop (33 + [Value.int .i64 u].length) = ({ k with til := u } : Key).cs := by
  have h : (Value.int .u64 k.kid :: k.sec.cs).length = 33 := by rw [List.length_cons, Bs.cs_len]
  have e : k.cs = (Value.int .u64 k.kid :: k.sec.cs) ++ [.int .i64 k.til] := rfl
  rw [e, List.take_left' h, List.drop_eq_nil_of_le (by rw [List.length_append, h]; simp), List.append_nil]
  rfl
theorem keys_push (l : List Key) (k : Key) (sp : List Value) : l.flatMap Key.cs ++ k.cs ++ sp = (l ++ [k]).flatMap Key.cs ++ sp := by simp
theorem rot_eq {ks : List Key} {m : Nat} (h : ks.length = m + 1) (u : Int) : rotK ks u = ks.set m { rdK ks (m : Int) with til := u } := by unfold rotK; rw [h]; rfl
theorem rotK_len (ks : List Key) (u : Int) : (rotK ks u).length = ks.length := by unfold rotK; rw [List.length_set]
theorem rotate_bad {ks : List Key} {next u : Int} {s : Bs 32} (h : checkK ks next = false) : rotateF ⟨ks, next⟩ s u = (zRg, 50) := by unfold rotateF; rw [if_pos h]
theorem rotate_clock {ks : List Key} {next u : Int} {s : Bs 32} (h : checkK ks next = true) (hu : u ≤ 0) : rotateF ⟨ks, next⟩ s u = (zRg, 52) := by unfold rotateF; rw [if_neg (by rw [h]; simp), if_pos (by omega)]
theorem rotate_full {ks : List Key} {next u : Int} {s : Bs 32} (h : checkK ks next = true) (hu : ¬ u ≤ 0) (hf : 8 ≤ ks.length ∨ 9223372036854775807 ≤ next) : rotateF ⟨ks, next⟩ s u = (zRg, 51) := by
  have := check_len h
  unfold rotateF; rw [if_neg (by rw [h]; simp), if_neg (by omega), if_pos (by show ks.length = 8 ∨ next = _; omega)]
theorem rotate_yes {ks : List Key} {next u : Int} {s : Bs 32} (h : checkK ks next = true) (hu : ¬ u ≤ 0) (h8 : ¬ 8 ≤ ks.length) (hm : ¬ 9223372036854775807 ≤ next) : rotateF ⟨ks, next⟩ s u = (⟨rotK ks u ++ [⟨next, s, 0⟩], next + 1⟩, 0) := by
  unfold rotateF; rw [if_neg (by rw [h]; simp), if_neg (by omega), if_neg (by show ¬ (ks.length = 8 ∨ next = _); omega)]
/-- The keys but that of a kid. -/
def offK (kid : Int) (ks : List Key) : List Key := ks.filter fun k => k.kid != kid
theorem offK_step {ks : List Key} {kid : Int} {i : Nat} (hi : i < ks.length) : offK kid (ks.take (i + 1)) = offK kid (ks.take i) ++ (if (rdK ks (i : Int)).kid != kid then [rdK ks (i : Int)] else []) := by
  rw [rdK_eq hi, List.take_succ_eq_append_getElem hi]
  unfold offK
  rw [List.filter_append]
  congr 1
  rw [List.filter_cons]
  rfl
theorem offK_len {ks : List Key} {kid : Int} {i : Nat} : (offK kid (ks.take i)).length ≤ ks.length := Nat.le_trans (List.length_filter_le _ _) (by rw [List.length_take]; omega)
theorem dis_bad {ks : List Key} {next kid : Int} {s : Bs 32} (h : checkK ks next = false) : distrustF ⟨ks, next⟩ kid s = (zRg, 50) := by unfold distrustF; rw [if_pos h]
theorem dis_kid {ks : List Key} {next kid : Int} {s : Bs 32} (h : checkK ks next = true) (hf : findF kid ks next = zKey) : distrustF ⟨ks, next⟩ kid s = (zRg, 53) := by unfold distrustF; rw [if_neg (by rw [h]; simp), if_pos hf]
theorem find_facts {ks : List Key} {next kid : Int} (h : checkK ks next = true) (hf : findF kid ks next ≠ zKey) {m : Nat} (hm : ks.length = m + 1) :
    disK ks (findF kid ks next) = offK kid ks ∧ ((rdK ks (m : Int)).kid = kid → (findF kid ks next).til = 0) ∧ ((rdK ks (m : Int)).kid ≠ kid → 0 < (findF kid ks next).til) := by
  obtain ⟨init, last, rfl, hR⟩ := isRing_of_check h
  have hl : rdK (init ++ [last]) (m : Int) = last := by
    obtain rfl : m = init.length := by simpa using hm.symm
    rw [rdK_eq (by simp)]; simp
  by_cases hx : ∃ k ∈ init ++ [last], k.kid = kid
  · obtain ⟨k, hk, rfl⟩ := hx
    rw [hR.find hk, hl]
    refine ⟨?_, fun e => ?_, fun e => ?_⟩
    · unfold disK offK
      refine List.filter_congr fun x hx => ?_
      by_cases e : x = k
      · subst e; simp
      · have : x.kid ≠ k.kid := fun e2 => e (kid_inj hR.rise hx hk e2)
        simp [e, this]
    · rw [← kid_inj hR.rise (by simp) hk e]; exact hR.cur
    · rcases List.mem_append.1 hk with hk | hk
      · exact hR.ends k hk
      · exact absurd (by rw [List.mem_singleton.1 hk]) e
  · exact absurd (hR.find_none fun k hk e => hx ⟨k, hk, e⟩) hf
theorem dis_full {ks : List Key} {next kid : Int} {s : Bs 32} (h : checkK ks next = true) (hf : findF kid ks next ≠ zKey) {m : Nat} (hm : ks.length = m + 1) (hc : (rdK ks (m : Int)).kid = kid) (hn : 9223372036854775807 ≤ next) : distrustF ⟨ks, next⟩ kid s = (zRg, 51) := by
  have := check_len h
  have hff := find_facts h hf hm
  unfold distrustF; rw [if_neg (by rw [h]; simp), if_neg hf, if_pos ⟨hff.2.1 hc, by show next = _; omega⟩]
theorem dis_cur {ks : List Key} {next kid : Int} {s : Bs 32} (h : checkK ks next = true) (hf : findF kid ks next ≠ zKey) {m : Nat} (hm : ks.length = m + 1) (hc : (rdK ks (m : Int)).kid = kid) (hn : ¬ 9223372036854775807 ≤ next) : distrustF ⟨ks, next⟩ kid s = (⟨offK kid ks ++ [⟨next, s, 0⟩], next + 1⟩, 0) := by
  have hff := find_facts h hf hm
  unfold distrustF; rw [if_neg (by rw [h]; simp), if_neg hf, if_neg (by rintro ⟨_, e⟩; exact hn (by rw [show next = _ from e]; exact Int.le_refl _)), if_neg (by rw [show (findF kid (⟨ks, next⟩ : Rg).keys (⟨ks, next⟩ : Rg).next).til = 0 from hff.2.1 hc]; omega)]
  show ((⟨disK ks (findF kid ks next) ++ [⟨next, s, 0⟩], next + 1⟩ : Rg), (0 : Int)) = _
  rw [hff.1]
theorem dis_old {ks : List Key} {next kid : Int} {s : Bs 32} (h : checkK ks next = true) (hf : findF kid ks next ≠ zKey) {m : Nat} (hm : ks.length = m + 1) (hc : (rdK ks (m : Int)).kid ≠ kid) : distrustF ⟨ks, next⟩ kid s = (⟨offK kid ks, next⟩, 0) := by
  have hff := find_facts h hf hm
  unfold distrustF; rw [if_neg (by rw [h]; simp), if_neg hf, if_neg (by rintro ⟨e, _⟩; have := hff.2.2 hc; rw [show (findF kid ks next).til = 0 from e] at this; omega), if_pos (hff.2.2 hc)]
  show ((⟨disK ks (findF kid ks next), next⟩ : Rg), (0 : Int)) = _
  rw [hff.1]
theorem rb_row_69_2 : row? Try.prog 69 2 = true := by kernel_rfl
theorem rb_ent_33 : ent? Try.prog 33 = true := by kernel_rfl
theorem rb_fa_69_1_1 : fa? Try.prog 69 1 1 = true := by kernel_rfl
theorem rb_one_67 : one? Try.prog 67 = true := by kernel_rfl
theorem rb_fa_69_0_0 : fa? Try.prog 69 0 0 = true := by kernel_rfl
theorem rb_one_55 : one? Try.prog 55 = true := by kernel_rfl
theorem rb_sl_55_34 : sl? Try.prog 55 34 = true := by kernel_rfl
theorem rb_fa_107_2_33 : fa? Try.prog 107 2 33 = true := by kernel_rfl
theorem rb_one_2 : one? Try.prog 2 = true := by kernel_rfl
theorem rb_follows_mixedOrders : Try.prog.follows .mixedOrders = true := by kernel_rfl
theorem rb_row_107_34 : row? Try.prog 107 34 = true := by kernel_rfl
theorem rb_info_55_map_size_some_1 : (Try.prog.info? 55).map (·.size) = some 1 := by kernel_rfl
set_option maxHeartbeats 1000000 in
set_option maxRecDepth 100000 in
theorem refPrune_own (ks : List Key) (A : Option Addr) (c : Nat) (next now : Int) (w : World) (hr : kKey.C w A ks.length ks) (hc : ks.length ≤ c) :
    Calls Try.prog 13 #[.agg #[.slice A ks.length c, .int .u64 next], .int .i64 now] w fun e w' => TellsF e w w' (pruneF ⟨ks, next⟩ now) := by
 refine calls_start Try.func13 rfl rfl rfl (fun a F => ?_)
 have M : Mm w w [] := Mm.nil w
 refine wp_seq ?_
 refine wp_region_lit ?_
 refine list_do (wn rfl) (fun K hK => ?_)
 refine ow_box F M rfl rfl 69 _ rfl _ (F.e rfl) #[.slice A ks.length c, .int .u64 next] rfl ?_
 clear F M a; intro a g2 v F M hb hg
 refine hK _ _ ?_
 clear hK K
 clear hb hg; try clear w
 refine list_do (wn rfl) (fun K hK => ?_)
 refine ow_alloc F M rfl rfl 69 rfl (.agg #[.slice none 0 0, .int .u64 0]) z69 #[.slice none 0 0, .int .u64 0] rfl ?_
 clear F M a; intro a g4 u F M hb hg
 refine hK _ _ ?_
 clear hK K
 clear hb hg; try clear v
 refine wpList_nil ?_
 replace F : Fr 49 a [(0, .agg #[.slice A ks.length c, .int .u64 next]), (1, .int .i64 now), (2, .pointer (some ⟨g2, 0, none⟩)), (4, .pointer (some ⟨g4, 0, none⟩))] := F.keep ⟨rfl, rfl, rfl, rfl, trivial⟩
 refine then_n ?_
 refine wp_seq ?_
 refine wp_seq ?_
 by_cases hk : checkK ks next = true
 ·
  obtain ⟨h1, h8, hmx⟩ := check_len hk
  obtain ⟨adr, rfl, _⟩ := at_Key hr 0 (by omega) (by omega)
  refine wp_region_lit ?_
  refine list_val F (wn rfl) rfl rfl (.agg #[.slice (some adr) ks.length c, .int .u64 next]) (ex_load _ _ rfl _ (F.e rfl) _ (lvr (cs := [.slice (some adr) ks.length c, .int .u64 next]) rb_row_69_2 (M.at (i := 1) rfl))) ?_; clear F a; intro a F
  refine list_do (wn rfl) (fun K hK => ?_)
  have hcl := Kd.C_below hr M.bel
  refine ow_call rfl rfl F 33 #[.agg #[.slice (some adr) ks.length c, .int .u64 next]] (ex_call 33 _ _ rfl rfl rb_ent_33 _ (map1 (F.e rfl))) (refCheck_any ks _ c next _ hcl hc) (fun e v hR => ?_)
  obtain ⟨he, hb⟩ := hR
  refine ⟨.int .i64 (errK ks next), he, ?_⟩; clear he F a; intro a F
  refine hK _ _ ?_
  clear hK K
  replace M := M.below hb; clear hb; try clear u
  clear hcl
  refine list_val F (wn rfl) rfl rfl (.bool false) (ex_bin .neq _ _ _ _ rfl .i64 _ _ (F.e rfl) rfl _ (b_neq (by rw [errK_yes hk]; decide))) ?_; clear F a; intro a F
  refine wpList_nil ?_
  replace F : Fr 49 a [(0, .agg #[.slice (some adr) ks.length c, .int .u64 next]), (1, .int .i64 now), (2, .pointer (some ⟨g2, 0, none⟩)), (4, .pointer (some ⟨g4, 0, none⟩)), (9, .bool false)] := F.keep ⟨rfl, rfl, rfl, rfl, rfl, trivial⟩
  refine then_n ?_
  refine wp_cond_false (F.e rfl) ?_
  refine wp_skip ?_
  refine then_n ?_
  refine wp_seq ?_
  refine wp_region_lit ?_
  refine list_val F (wn rfl) rfl rfl (.pointer (some ⟨g2, 1, none⟩)) (ex_fa _ _ _ rfl _ (F.e rfl) 1 rb_fa_69_1_1 ⟨g2, 1, none⟩ rfl) ?_; clear F a; intro a F
  refine list_val F (wn rfl) rfl rfl (.int .u64 next) (ex_load _ _ rfl _ (F.e rfl) _ (lv1 rb_one_67 (M.cell (i := 1) rfl (j := 1) rfl))) ?_; clear F a; intro a F
  refine list_val F (wn rfl) rfl rfl (.agg #[.slice none 0 0, .int .u64 next]) (ex_build 69 _ rfl #[(1, .int .u64 next)] (parts1 (F.e rfl)) (.agg #[.slice none 0 0, .int .u64 next]) (build69_1 next _)) ?_; clear F a; intro a F
  refine list_do (wn rfl) (fun K hK => ?_)
  refine ow_alloc F M rfl rfl 69 rfl (.agg #[.slice none 0 0, .int .u64 0]) z69 #[.slice none 0 0, .int .u64 0] rfl ?_
  clear F M a; intro a g5 u F M hb hg
  refine hK _ _ ?_
  clear hK K
  clear hb hg; try clear v
  refine list_do (wn rfl) (fun K hK => ?_)
  refine ow_put F M rfl 69 _ _ rfl 0 _ #[.slice none 0 0, .int .u64 0] _ rfl (F.e rfl) #[.slice none 0 0, .int .u64 next] (F.e rfl) (sz_row (m := 2) rb_row_69_2) rfl (by simp [Value.oneCell']) ?_
  clear F a; have Mo := M; clear M; intro a v F M hgr
  refine hK _ _ ?_
  clear hK K
  clear Mo hgr; try clear u
  replace M : Mm w v [⟨g5, #[.slice none 0 0, .int .u64 next], 69⟩, ⟨g4, #[.slice none 0 0, .int .u64 0], 69⟩, ⟨g2, #[.slice (some adr) ks.length c, .int .u64 next], 69⟩] := M
  refine wpList_nil ?_
  replace F : Fr 49 a [(0, .agg #[.slice (some adr) ks.length c, .int .u64 next]), (1, .int .i64 now), (2, .pointer (some ⟨g2, 0, none⟩)), (4, .pointer (some ⟨g4, 0, none⟩)), (5, .pointer (some ⟨g5, 0, none⟩)), (9, .bool false)] := F.keep ⟨rfl, rfl, rfl, rfl, rfl, rfl, trivial⟩
  refine then_n ?_
  refine wp_seq ?_
  refine wp_seq ?_
  refine wp_region_lit ?_
  refine list_val F (wn rfl) rfl rfl (.int .i64 0) (ex_assign _ rfl _ rfl) ?_; clear F a; intro a F
  refine wpList_nil ?_
  replace F : Fr 49 a [(0, .agg #[.slice (some adr) ks.length c, .int .u64 next]), (1, .int .i64 now), (2, .pointer (some ⟨g2, 0, none⟩)), (4, .pointer (some ⟨g4, 0, none⟩)), (5, .pointer (some ⟨g5, 0, none⟩)), (6, .int .i64 0), (9, .bool false)] := F.keep ⟨rfl, rfl, rfl, rfl, rfl, rfl, rfl, trivial⟩
  refine then_n ?_
  refine wp_block ?_
  refine wp_loopN (fun mq ar wr => ∃ (i : Nat), ∃ (B : Option Addr), ∃ (b : Nat), Fr 49 ar [(0, .agg #[.slice (some adr) ks.length c, .int .u64 next]), (1, .int .i64 now), (2, .pointer (some ⟨g2, 0, none⟩)), (4, .pointer (some ⟨g4, 0, none⟩)), (5, .pointer (some ⟨g5, 0, none⟩)), (6, .int .i64 i), (9, .bool false)] ∧ Mm w wr [⟨g5, #[.slice B ((prK (ks.take i) now).length) b, .int .u64 next], 69⟩, ⟨g4, #[.slice none 0 0, .int .u64 0], 69⟩, ⟨g2, #[.slice (some adr) ks.length c, .int .u64 next], 69⟩] ∧ OwnKeys wr w.heap.size (.slice B (prK (ks.take i) now).length b) (prK (ks.take i) now) ∧ i ≤ ks.length ∧ mq + i = ks.length) ks.length ?_ ?_
  ·
   exact ⟨0, none, 0, F.keep ⟨rfl, rfl, rfl, rfl, rfl, rfl, rfl, trivial⟩, (by refine M.pick' [0, 1, 2] _ ?_ (by decide); exact ⟨rfl, rfl, rfl, trivial⟩), (nil_own _ _), (Nat.zero_le _), (by omega)⟩
  clear F M a
  rintro mq a u ⟨i, B, b, F, M, O_x, hi, hq⟩; try clear v
  by_cases hin : i < ks.length
  ·
   obtain ⟨_, had, zi, _, _⟩ := at_Key hr (i : Int) (by omega) (by omega)
   obtain rfl := Option.some.inj had
   clear had
   rw [show (i : Int).toNat = i from rfl] at zi
   have hst := prK_step (now := now) hin
   have h0 := check_kid hk hin
   have hpl := @prK_len ks now i
   by_cases c1 : (rdK ks (i : Int)).til = 0
   ·
    rw [if_pos (by simp [c1])] at hst
    refine wp_seq ?_
    refine wp_seq ?_
    refine wp_region_lit ?_
    refine list_val F (wn rfl) rfl rfl (.int .i64 i) (ex_move _ rfl _ (F.e rfl)) ?_; clear F a; intro a F
    refine list_val F (wn rfl) rfl rfl (.pointer (some ⟨g2, 0, none⟩)) (ex_fa _ _ _ rfl _ (F.e rfl) 0 rb_fa_69_0_0 ⟨g2, 0, none⟩ rfl) ?_; clear F a; intro a F
    refine list_val F (wn rfl) rfl rfl (.slice (some adr) ks.length c) (ex_load _ _ rfl _ (F.e rfl) _ (lv1 rb_one_55 (M.cell (i := 2) rfl (j := 0) rfl))) ?_; clear F a; intro a F
    refine list_val F (wn rfl) rfl rfl (.int .i64 ((ks.length : Nat) : Int)) (ex_len _ _ rfl 34 rb_sl_55_34 _ _ _ (F.e rfl)) ?_; clear F a; intro a F
    refine list_val F (wn rfl) rfl rfl (.bool true) (ex_bin .lss _ _ _ _ rfl .i64 _ _ (F.e rfl) (F.e rfl) _ (b_lss (decide_eq_true (by omega)))) ?_; clear F a; intro a F
    refine wpList_nil ?_
    replace F : Fr 49 a [(0, .agg #[.slice (some adr) ks.length c, .int .u64 next]), (1, .int .i64 now), (2, .pointer (some ⟨g2, 0, none⟩)), (4, .pointer (some ⟨g4, 0, none⟩)), (5, .pointer (some ⟨g5, 0, none⟩)), (6, .int .i64 i), (9, .bool false), (18, .bool true)] := F.keep ⟨rfl, rfl, rfl, rfl, rfl, rfl, rfl, rfl, trivial⟩
    refine then_n ?_
    refine wp_cond_true (F.e rfl) ?_
    refine wp_skip ?_
    refine then_n ?_
    refine wp_seq ?_
    refine wp_block ?_
    refine wp_seq ?_
    refine wp_region_lit ?_
    refine list_val F (wn rfl) rfl rfl (.pointer (some ⟨g2, 0, none⟩)) (ex_fa _ _ _ rfl _ (F.e rfl) 0 rb_fa_69_0_0 ⟨g2, 0, none⟩ rfl) ?_; clear F a; intro a F
    refine list_val F (wn rfl) rfl rfl (.slice (some adr) ks.length c) (ex_load _ _ rfl _ (F.e rfl) _ (lv1 rb_one_55 (M.cell (i := 2) rfl (j := 0) rfl))) ?_; clear F a; intro a F
    refine list_val F (wn rfl) rfl rfl (.int .i64 i) (ex_move _ rfl _ (F.e rfl)) ?_; clear F a; intro a F
    refine list_val F (wn rfl) rfl rfl (.pointer (some (adr.add (i * 34)))) (ex_ix _ _ _ rfl 34 rb_sl_55_34 adr _ _ (F.e rfl) .i64 _ (F.e rfl) i rfl (by omega) (adr.add (i * 34)) rfl) ?_; clear F a; intro a F
    refine list_val F (wn rfl) rfl rfl (.pointer (some ((adr.add (i * 34)).add 33))) (ex_fa _ _ _ rfl _ (F.e rfl) 33 rb_fa_107_2_33 ((adr.add (i * 34)).add 33) rfl) ?_; clear F a; intro a F
    refine list_val F (wn rfl) rfl rfl (.int .i64 ((rdK ks (i : Int)).til)) (ex_load _ _ rfl _ (F.e rfl) _ (lv1 rb_one_2 ((zi.below M.bel).cell 33 _ (Key.cs_33 _)))) ?_; clear F a; intro a F
    refine list_val F (wn rfl) rfl rfl (.bool true) (ex_bin .eql _ _ _ _ rfl .i64 _ _ (F.e rfl) rfl _ (b_eql (by simp [c1]))) ?_; clear F a; intro a F
    refine list_val F (wn rfl) rfl rfl (.bool true) (ex_move _ rfl _ (F.e rfl)) ?_; clear F a; intro a F
    refine list_skip F (F.wants 28 true rfl (by kernel_rfl) rfl false rfl) rfl rfl ?_; clear F a; intro a F
    refine list_skip F (F.wants 28 true rfl (by kernel_rfl) rfl false rfl) rfl rfl ?_; clear F a; intro a F
    refine list_skip F (F.wants 28 true rfl (by kernel_rfl) rfl false rfl) rfl rfl ?_; clear F a; intro a F
    refine list_skip F (F.wants 28 true rfl (by kernel_rfl) rfl false rfl) rfl rfl ?_; clear F a; intro a F
    refine list_skip F (F.wants 28 true rfl (by kernel_rfl) rfl false rfl) rfl rfl ?_; clear F a; intro a F
    refine list_skip F (F.wants 28 true rfl (by kernel_rfl) rfl false rfl) rfl rfl ?_; clear F a; intro a F
    refine list_skip F (F.wants 28 true rfl (by kernel_rfl) rfl false rfl) rfl rfl ?_; clear F a; intro a F
    refine list_skip F (F.wants 28 true rfl (by kernel_rfl) rfl false rfl) rfl rfl ?_; clear F a; intro a F
    refine list_val F (wn rfl) rfl rfl (.bool true) (ex_pick_t _ _ _ rfl (F.e rfl) _ rfl) ?_; clear F a; intro a F
    refine wpList_nil ?_
    replace F : Fr 49 a [(0, .agg #[.slice (some adr) ks.length c, .int .u64 next]), (1, .int .i64 now), (2, .pointer (some ⟨g2, 0, none⟩)), (4, .pointer (some ⟨g4, 0, none⟩)), (5, .pointer (some ⟨g5, 0, none⟩)), (6, .int .i64 i), (9, .bool false), (18, .bool true), (37, .bool true)] := F.keep ⟨rfl, rfl, rfl, rfl, rfl, rfl, rfl, rfl, rfl, trivial⟩
    refine then_n ?_
    refine wp_cond_true (F.e rfl) ?_
    refine wp_only (fun ar wr => ∃ (g45 : Nat), ∃ (A_46 : Option Addr), ∃ (c_46 : Nat), Fr 49 ar [(0, .agg #[.slice (some adr) ks.length c, .int .u64 next]), (1, .int .i64 now), (2, .pointer (some ⟨g2, 0, none⟩)), (4, .pointer (some ⟨g4, 0, none⟩)), (5, .pointer (some ⟨g5, 0, none⟩)), (6, .int .i64 i), (9, .bool false), (18, .bool true), (37, .bool true)] ∧ Mm w wr [⟨g5, #[.slice A_46 (((prK (ks.take i) now) ++ [(rdK ks (i : Int))]).length) c_46, .int .u64 next], 69⟩, ⟨g4, #[.slice none 0 0, .int .u64 0], 69⟩, ⟨g2, #[.slice (some adr) ks.length c, .int .u64 next], 69⟩] ∧ OwnKeys wr w.heap.size (.slice A_46 ((prK (ks.take i) now) ++ [(rdK ks (i : Int))]).length c_46) ((prK (ks.take i) now) ++ [(rdK ks (i : Int))])) ?_ ?_
    ·
     refine region_anyM rb_follows_mixedOrders M [⟨g2, #[.slice (some adr) ks.length c, .int .u64 next], 69⟩] (fun w' M => (by refine M.pick' [2] _ ?_ (by decide); exact ⟨rfl, trivial⟩)) ?_; clear M; intro wD M hb
     replace O_x := Kd.R_below O_x hb
     clear hb; try clear u
     have hS : Mm w wD [⟨g2, #[.slice (some adr) ks.length c, .int .u64 next], 69⟩] := (by refine M.pick' [2] _ ?_ (by decide); exact ⟨rfl, trivial⟩)
     refine any_val F 0 rfl (by kernel_rfl) (wn rfl) rfl rfl (.pointer (some ⟨g5, 0, none⟩)) (fun w' hS' => ex_fa _ _ _ rfl _ (F.e rfl) 0 rb_fa_69_0_0 ⟨g5, 0, none⟩ rfl) hS ?_; clear F a; intro a F
     refine any_val F 2 rfl (by kernel_rfl) (wn rfl) rfl rfl (.pointer (some ⟨g2, 0, none⟩)) (fun w' hS' => ex_fa _ _ _ rfl _ (F.e rfl) 0 rb_fa_69_0_0 ⟨g2, 0, none⟩ rfl) hS ?_; clear F a; intro a F
     refine any_val F 3 rfl (by kernel_rfl) (wn rfl) rfl rfl (.slice (some adr) ks.length c) (fun w' hS' => ex_load _ _ rfl _ (F.e rfl) _ (lv1 rb_one_55 (hS'.cell (i := 0) rfl (j := 0) rfl))) hS ?_; clear F a; intro a F
     refine any_val F 4 rfl (by kernel_rfl) (wn rfl) rfl rfl (.int .i64 i) (fun w' hS' => ex_move _ rfl _ (F.e rfl)) hS ?_; clear F a; intro a F
     refine any_val F 5 rfl (by kernel_rfl) (wn rfl) rfl rfl (.pointer (some (adr.add (i * 34)))) (fun w' hS' => ex_ix _ _ _ rfl 34 rb_sl_55_34 adr _ _ (F.e rfl) .i64 _ (F.e rfl) i rfl (by omega) (adr.add (i * 34)) rfl) hS ?_; clear F a; intro a F
     refine any_val F 6 rfl (by kernel_rfl) (wn rfl) rfl rfl (.agg ((rdK ks (i : Int)).arr)) (fun w' hS' => ex_load _ _ rfl _ (F.e rfl) _ (lvr (cs := (rdK ks (i : Int)).cs) (by rw [Key.cs_len]; exact rb_row_107_34) ((zi.below hS'.bel)))) hS ?_; clear F a; intro a F
     refine any_ready [1, 7] (by kernel_rfl) (by simp) ?_
     refine ready_do rfl (wn rfl) (fun K hK => ?_) ?_
     ·
      refine ow_val F rfl rfl (.slice B ((prK (ks.take i) now).length) b) (ex_load _ _ rfl _ (F.e rfl) _ (lv1 rb_one_55 (M.cell (i := 0) rfl (j := 0) rfl))) ?_; clear F a; intro a F
      replace hS : Mm w wD [⟨g2, #[.slice (some adr) ks.length c, .int .u64 next], 69⟩] := (by refine M.pick' [2] _ ?_ (by decide); exact ⟨rfl, trivial⟩)
      refine hK _ _ hS ?_
      clear hK K
      refine any_ready [7] (by kernel_rfl) (by simp) ?_
      refine ready_do rfl (wn rfl) (fun K hK => ?_) AllReadyH.nil
      refine ow_bslice F M rfl rfl 55 1 _ rfl #[(0, .agg ((rdK ks (i : Int)).arr))] (parts1 (F.e rfl)) ((rdK ks (i : Int)).arr) 107 (newKeys (rdK ks (i : Int)) _) ?_
      clear F M a; intro a g45 v F M hb hg
      replace hS : Mm w v [⟨g2, #[.slice (some adr) ks.length c, .int .u64 next], 69⟩] := (by refine M.pick' [3] _ ?_ (by decide); exact ⟨rfl, trivial⟩)
      refine hK _ _ hS ?_
      clear hK K
      replace O_x := Kd.R_below O_x hb
      clear hb hg; try clear wD
      refine any_ready [8] (by kernel_rfl) (by simp) ?_
      refine ready_do rfl (wn rfl) (fun K hK => ?_) AllReadyH.nil
      have hks := kKey_one (rdK ks (i : Int)) (M.at (i := 0) rfl)
      replace M : Mm w v [⟨g5, #[.slice B ((prK (ks.take i) now).length) b, .int .u64 next], 69⟩, ⟨g4, #[.slice none 0 0, .int .u64 0], 69⟩, ⟨g2, #[.slice (some adr) ks.length c, .int .u64 next], 69⟩] := (by refine M.pick' [1, 2, 3] _ ?_ (by decide); exact ⟨rfl, rfl, rfl, trivial⟩)
      refine ow_ownapp F M rfl rfl rfl rfl _ _ rfl _ _ _ (prK (ks.take i) now) [(rdK ks (i : Int))] _ 1 1 (F.e rfl) (F.e rfl) O_x hks (by omega) ?_
      clear F a M O_x hks; intro a A_46 c_46 u F M O_x
      replace hS : Mm w u [⟨g2, #[.slice (some adr) ks.length c, .int .u64 next], 69⟩] := (by refine M.pick' [2] _ ?_ (by decide); exact ⟨rfl, trivial⟩)
      refine hK _ _ hS ?_
      clear hK K
      try clear v
      refine any_val F 9 rfl (by kernel_rfl) (wn rfl) rfl rfl (.pointer (some ⟨g5, 0, none⟩)) (fun w' hS' => ex_fa _ _ _ rfl _ (F.e rfl) 0 rb_fa_69_0_0 ⟨g5, 0, none⟩ rfl) hS ?_; clear F a; intro a F
      refine any_ready [10] (by kernel_rfl) (by simp) ?_
      refine ready_do rfl (wn rfl) (fun K hK => ?_) AllReadyH.nil
      refine ow_store F M rfl 55 _ _ rfl 0 g5 _ _ rfl 0 (F.e rfl) _ (F.e rfl) [.slice A_46 (((prK (ks.take i) now) ++ [(rdK ks (i : Int))]).length) c_46] rfl rb_info_55_map_size_some_1 (by simp) (by simp [Value.oneCell']) #[.slice A_46 (((prK (ks.take i) now) ++ [(rdK ks (i : Int))]).length) c_46, .int .u64 next] rfl ?_
      clear F a; have Mo := M; clear M; intro a v F M hgr
      replace hS : Mm w v [⟨g2, #[.slice (some adr) ks.length c, .int .u64 next], 69⟩] := (by refine M.pick' [2] _ ?_ (by decide); exact ⟨rfl, trivial⟩)
      refine hK _ _ hS ?_
      clear hK K
      replace O_x := own_grown O_x (Mo.blk 0 _ rfl) (by show 107 ≠ 69; decide) hgr
      clear Mo hgr; try clear u
      replace M : Mm w v [⟨g5, #[.slice A_46 (((prK (ks.take i) now) ++ [(rdK ks (i : Int))]).length) c_46, .int .u64 next], 69⟩, ⟨g4, #[.slice none 0 0, .int .u64 0], 69⟩, ⟨g2, #[.slice (some adr) ks.length c, .int .u64 next], 69⟩] := M
      refine any_done (by kernel_rfl) ?_
      exact ⟨g45, A_46, c_46, F.keep ⟨rfl, rfl, rfl, rfl, rfl, rfl, rfl, rfl, rfl, trivial⟩, (by refine M.pick' [0, 1, 2] _ ?_ (by decide); exact ⟨rfl, rfl, rfl, trivial⟩), O_x⟩
     refine ready_do rfl (wn rfl) (fun K hK => ?_) AllReadyH.nil
     refine ow_bslice F M rfl rfl 55 1 _ rfl #[(0, .agg ((rdK ks (i : Int)).arr))] (parts1 (F.e rfl)) ((rdK ks (i : Int)).arr) 107 (newKeys (rdK ks (i : Int)) _) ?_
     clear F M a; intro a g45 v F M hb hg
     replace hS : Mm w v [⟨g2, #[.slice (some adr) ks.length c, .int .u64 next], 69⟩] := (by refine M.pick' [3] _ ?_ (by decide); exact ⟨rfl, trivial⟩)
     refine hK _ _ hS ?_
     clear hK K
     replace O_x := Kd.R_below O_x hb
     clear hb hg; try clear wD
     refine any_ready [1] (by kernel_rfl) (by simp) ?_
     refine ready_do rfl (wn rfl) (fun K hK => ?_) AllReadyH.nil
     refine ow_val F rfl rfl (.slice B ((prK (ks.take i) now).length) b) (ex_load _ _ rfl _ (F.e rfl) _ (lv1 rb_one_55 (M.cell (i := 1) rfl (j := 0) rfl))) ?_; clear F a; intro a F
     replace hS : Mm w v [⟨g2, #[.slice (some adr) ks.length c, .int .u64 next], 69⟩] := (by refine M.pick' [3] _ ?_ (by decide); exact ⟨rfl, trivial⟩)
     refine hK _ _ hS ?_
     clear hK K
     refine any_ready [8] (by kernel_rfl) (by simp) ?_
     refine ready_do rfl (wn rfl) (fun K hK => ?_) AllReadyH.nil
     have hks := kKey_one (rdK ks (i : Int)) (M.at (i := 0) rfl)
     replace M : Mm w v [⟨g5, #[.slice B ((prK (ks.take i) now).length) b, .int .u64 next], 69⟩, ⟨g4, #[.slice none 0 0, .int .u64 0], 69⟩, ⟨g2, #[.slice (some adr) ks.length c, .int .u64 next], 69⟩] := (by refine M.pick' [1, 2, 3] _ ?_ (by decide); exact ⟨rfl, rfl, rfl, trivial⟩)
     refine ow_ownapp F M rfl rfl rfl rfl _ _ rfl _ _ _ (prK (ks.take i) now) [(rdK ks (i : Int))] _ 1 1 (F.e rfl) (F.e rfl) O_x hks (by omega) ?_
     clear F a M O_x hks; intro a A_46 c_46 u F M O_x
     replace hS : Mm w u [⟨g2, #[.slice (some adr) ks.length c, .int .u64 next], 69⟩] := (by refine M.pick' [2] _ ?_ (by decide); exact ⟨rfl, trivial⟩)
     refine hK _ _ hS ?_
     clear hK K
     try clear v
     refine any_val F 9 rfl (by kernel_rfl) (wn rfl) rfl rfl (.pointer (some ⟨g5, 0, none⟩)) (fun w' hS' => ex_fa _ _ _ rfl _ (F.e rfl) 0 rb_fa_69_0_0 ⟨g5, 0, none⟩ rfl) hS ?_; clear F a; intro a F
     refine any_ready [10] (by kernel_rfl) (by simp) ?_
     refine ready_do rfl (wn rfl) (fun K hK => ?_) AllReadyH.nil
     refine ow_store F M rfl 55 _ _ rfl 0 g5 _ _ rfl 0 (F.e rfl) _ (F.e rfl) [.slice A_46 (((prK (ks.take i) now) ++ [(rdK ks (i : Int))]).length) c_46] rfl rb_info_55_map_size_some_1 (by simp) (by simp [Value.oneCell']) #[.slice A_46 (((prK (ks.take i) now) ++ [(rdK ks (i : Int))]).length) c_46, .int .u64 next] rfl ?_
     clear F a; have Mo := M; clear M; intro a v F M hgr
     replace hS : Mm w v [⟨g2, #[.slice (some adr) ks.length c, .int .u64 next], 69⟩] := (by refine M.pick' [2] _ ?_ (by decide); exact ⟨rfl, trivial⟩)
     refine hK _ _ hS ?_
     clear hK K
     replace O_x := own_grown O_x (Mo.blk 0 _ rfl) (by show 107 ≠ 69; decide) hgr
     clear Mo hgr; try clear u
     replace M : Mm w v [⟨g5, #[.slice A_46 (((prK (ks.take i) now) ++ [(rdK ks (i : Int))]).length) c_46, .int .u64 next], 69⟩, ⟨g4, #[.slice none 0 0, .int .u64 0], 69⟩, ⟨g2, #[.slice (some adr) ks.length c, .int .u64 next], 69⟩] := M
     refine any_done (by kernel_rfl) ?_
     exact ⟨g45, A_46, c_46, F.keep ⟨rfl, rfl, rfl, rfl, rfl, rfl, rfl, rfl, rfl, trivial⟩, (by refine M.pick' [0, 1, 2] _ ?_ (by decide); exact ⟨rfl, rfl, rfl, trivial⟩), O_x⟩
    clear F M a O_x
    intro a v hR; obtain ⟨g45, A_46, c_46, F, M, O_x⟩ := hR; try clear u
    refine in_n ?_
    refine then_n ?_
    refine wp_region_lit ?_
    refine list_val F (wn rfl) rfl rfl (.int .i64 i) (ex_move _ rfl _ (F.e rfl)) ?_; clear F a; intro a F
    refine list_val F (wn rfl) rfl rfl (.int .i64 (i + 1)) (ex_bin .add _ _ _ _ rfl .i64 _ _ (F.e rfl) rfl _ (b_add (w_i64 (by omega) (by omega)))) ?_; clear F a; intro a F
    refine list_val F (wn rfl) rfl rfl (.int .i64 (i + 1)) (ex_assign _ rfl _ (F.e rfl)) ?_; clear F a; intro a F
    refine wpList_nil ?_
    replace F : Fr 49 a [(0, .agg #[.slice (some adr) ks.length c, .int .u64 next]), (1, .int .i64 now), (2, .pointer (some ⟨g2, 0, none⟩)), (4, .pointer (some ⟨g4, 0, none⟩)), (5, .pointer (some ⟨g5, 0, none⟩)), (6, .int .i64 (i + 1)), (9, .bool false), (18, .bool true), (37, .bool true)] := F.keep ⟨rfl, rfl, rfl, rfl, rfl, rfl, rfl, rfl, rfl, trivial⟩
    refine then_n ?_
    rw [← hst] at M O_x
    exact ⟨ks.length - (i + 1), by omega, (i + 1), A_46, c_46, F.keep ⟨rfl, rfl, rfl, rfl, rfl, rfl, rfl, trivial⟩, (by refine M.pick' [0, 1, 2] _ ?_ (by decide); exact ⟨rfl, rfl, rfl, trivial⟩), O_x, (by omega), (by omega)⟩
   by_cases c2 : now < (rdK ks (i : Int)).til
   ·
    rw [if_pos (by simp; omega)] at hst
    refine wp_seq ?_
    refine wp_seq ?_
    refine wp_region_lit ?_
    refine list_val F (wn rfl) rfl rfl (.int .i64 i) (ex_move _ rfl _ (F.e rfl)) ?_; clear F a; intro a F
    refine list_val F (wn rfl) rfl rfl (.pointer (some ⟨g2, 0, none⟩)) (ex_fa _ _ _ rfl _ (F.e rfl) 0 rb_fa_69_0_0 ⟨g2, 0, none⟩ rfl) ?_; clear F a; intro a F
    refine list_val F (wn rfl) rfl rfl (.slice (some adr) ks.length c) (ex_load _ _ rfl _ (F.e rfl) _ (lv1 rb_one_55 (M.cell (i := 2) rfl (j := 0) rfl))) ?_; clear F a; intro a F
    refine list_val F (wn rfl) rfl rfl (.int .i64 ((ks.length : Nat) : Int)) (ex_len _ _ rfl 34 rb_sl_55_34 _ _ _ (F.e rfl)) ?_; clear F a; intro a F
    refine list_val F (wn rfl) rfl rfl (.bool true) (ex_bin .lss _ _ _ _ rfl .i64 _ _ (F.e rfl) (F.e rfl) _ (b_lss (decide_eq_true (by omega)))) ?_; clear F a; intro a F
    refine wpList_nil ?_
    replace F : Fr 49 a [(0, .agg #[.slice (some adr) ks.length c, .int .u64 next]), (1, .int .i64 now), (2, .pointer (some ⟨g2, 0, none⟩)), (4, .pointer (some ⟨g4, 0, none⟩)), (5, .pointer (some ⟨g5, 0, none⟩)), (6, .int .i64 i), (9, .bool false), (18, .bool true)] := F.keep ⟨rfl, rfl, rfl, rfl, rfl, rfl, rfl, rfl, trivial⟩
    refine then_n ?_
    refine wp_cond_true (F.e rfl) ?_
    refine wp_skip ?_
    refine then_n ?_
    refine wp_seq ?_
    refine wp_block ?_
    refine wp_seq ?_
    refine wp_region_lit ?_
    refine list_val F (wn rfl) rfl rfl (.pointer (some ⟨g2, 0, none⟩)) (ex_fa _ _ _ rfl _ (F.e rfl) 0 rb_fa_69_0_0 ⟨g2, 0, none⟩ rfl) ?_; clear F a; intro a F
    refine list_val F (wn rfl) rfl rfl (.slice (some adr) ks.length c) (ex_load _ _ rfl _ (F.e rfl) _ (lv1 rb_one_55 (M.cell (i := 2) rfl (j := 0) rfl))) ?_; clear F a; intro a F
    refine list_val F (wn rfl) rfl rfl (.int .i64 i) (ex_move _ rfl _ (F.e rfl)) ?_; clear F a; intro a F
    refine list_val F (wn rfl) rfl rfl (.pointer (some (adr.add (i * 34)))) (ex_ix _ _ _ rfl 34 rb_sl_55_34 adr _ _ (F.e rfl) .i64 _ (F.e rfl) i rfl (by omega) (adr.add (i * 34)) rfl) ?_; clear F a; intro a F
    refine list_val F (wn rfl) rfl rfl (.pointer (some ((adr.add (i * 34)).add 33))) (ex_fa _ _ _ rfl _ (F.e rfl) 33 rb_fa_107_2_33 ((adr.add (i * 34)).add 33) rfl) ?_; clear F a; intro a F
    refine list_val F (wn rfl) rfl rfl (.int .i64 ((rdK ks (i : Int)).til)) (ex_load _ _ rfl _ (F.e rfl) _ (lv1 rb_one_2 ((zi.below M.bel).cell 33 _ (Key.cs_33 _)))) ?_; clear F a; intro a F
    refine list_val F (wn rfl) rfl rfl (.bool false) (ex_bin .eql _ _ _ _ rfl .i64 _ _ (F.e rfl) rfl _ (b_eql (by simp [c1]))) ?_; clear F a; intro a F
    refine list_val F (wn rfl) rfl rfl (.bool false) (ex_move _ rfl _ (F.e rfl)) ?_; clear F a; intro a F
    refine list_val F (F.wants 28 false rfl (by kernel_rfl) rfl true rfl) rfl rfl (.pointer (some ⟨g2, 0, none⟩)) (ex_fa _ _ _ rfl _ (F.e rfl) 0 rb_fa_69_0_0 ⟨g2, 0, none⟩ rfl) ?_; clear F a; intro a F
    refine list_val F (F.wants 28 false rfl (by kernel_rfl) rfl true rfl) rfl rfl (.slice (some adr) ks.length c) (ex_load _ _ rfl _ (F.e rfl) _ (lv1 rb_one_55 (M.cell (i := 2) rfl (j := 0) rfl))) ?_; clear F a; intro a F
    refine list_val F (F.wants 28 false rfl (by kernel_rfl) rfl true rfl) rfl rfl (.int .i64 i) (ex_move _ rfl _ (F.e rfl)) ?_; clear F a; intro a F
    refine list_val F (F.wants 28 false rfl (by kernel_rfl) rfl true rfl) rfl rfl (.pointer (some (adr.add (i * 34)))) (ex_ix _ _ _ rfl 34 rb_sl_55_34 adr _ _ (F.e rfl) .i64 _ (F.e rfl) i rfl (by omega) (adr.add (i * 34)) rfl) ?_; clear F a; intro a F
    refine list_val F (F.wants 28 false rfl (by kernel_rfl) rfl true rfl) rfl rfl (.pointer (some ((adr.add (i * 34)).add 33))) (ex_fa _ _ _ rfl _ (F.e rfl) 33 rb_fa_107_2_33 ((adr.add (i * 34)).add 33) rfl) ?_; clear F a; intro a F
    refine list_val F (F.wants 28 false rfl (by kernel_rfl) rfl true rfl) rfl rfl (.int .i64 ((rdK ks (i : Int)).til)) (ex_load _ _ rfl _ (F.e rfl) _ (lv1 rb_one_2 ((zi.below M.bel).cell 33 _ (Key.cs_33 _)))) ?_; clear F a; intro a F
    refine list_val F (F.wants 28 false rfl (by kernel_rfl) rfl true rfl) rfl rfl (.int .i64 now) (ex_move _ rfl _ (F.e rfl)) ?_; clear F a; intro a F
    refine list_val F (F.wants 28 false rfl (by kernel_rfl) rfl true rfl) rfl rfl (.bool true) (ex_bin .gtr _ _ _ _ rfl .i64 _ _ (F.e rfl) (F.e rfl) _ (b_gtr (decide_eq_true c2))) ?_; clear F a; intro a F
    refine list_val F (wn rfl) rfl rfl (.bool true) (ex_pick_f _ _ _ rfl (F.e rfl) _ (F.e rfl)) ?_; clear F a; intro a F
    refine wpList_nil ?_
    replace F : Fr 49 a [(0, .agg #[.slice (some adr) ks.length c, .int .u64 next]), (1, .int .i64 now), (2, .pointer (some ⟨g2, 0, none⟩)), (4, .pointer (some ⟨g4, 0, none⟩)), (5, .pointer (some ⟨g5, 0, none⟩)), (6, .int .i64 i), (9, .bool false), (18, .bool true), (37, .bool true)] := F.keep ⟨rfl, rfl, rfl, rfl, rfl, rfl, rfl, rfl, rfl, trivial⟩
    refine then_n ?_
    refine wp_cond_true (F.e rfl) ?_
    refine wp_only (fun ar wr => ∃ (g45 : Nat), ∃ (A_46 : Option Addr), ∃ (c_46 : Nat), Fr 49 ar [(0, .agg #[.slice (some adr) ks.length c, .int .u64 next]), (1, .int .i64 now), (2, .pointer (some ⟨g2, 0, none⟩)), (4, .pointer (some ⟨g4, 0, none⟩)), (5, .pointer (some ⟨g5, 0, none⟩)), (6, .int .i64 i), (9, .bool false), (18, .bool true), (37, .bool true)] ∧ Mm w wr [⟨g5, #[.slice A_46 (((prK (ks.take i) now) ++ [(rdK ks (i : Int))]).length) c_46, .int .u64 next], 69⟩, ⟨g4, #[.slice none 0 0, .int .u64 0], 69⟩, ⟨g2, #[.slice (some adr) ks.length c, .int .u64 next], 69⟩] ∧ OwnKeys wr w.heap.size (.slice A_46 ((prK (ks.take i) now) ++ [(rdK ks (i : Int))]).length c_46) ((prK (ks.take i) now) ++ [(rdK ks (i : Int))])) ?_ ?_
    ·
     refine region_anyM rb_follows_mixedOrders M [⟨g2, #[.slice (some adr) ks.length c, .int .u64 next], 69⟩] (fun w' M => (by refine M.pick' [2] _ ?_ (by decide); exact ⟨rfl, trivial⟩)) ?_; clear M; intro wD M hb
     replace O_x := Kd.R_below O_x hb
     clear hb; try clear u
     have hS : Mm w wD [⟨g2, #[.slice (some adr) ks.length c, .int .u64 next], 69⟩] := (by refine M.pick' [2] _ ?_ (by decide); exact ⟨rfl, trivial⟩)
     refine any_val F 0 rfl (by kernel_rfl) (wn rfl) rfl rfl (.pointer (some ⟨g5, 0, none⟩)) (fun w' hS' => ex_fa _ _ _ rfl _ (F.e rfl) 0 rb_fa_69_0_0 ⟨g5, 0, none⟩ rfl) hS ?_; clear F a; intro a F
     refine any_val F 2 rfl (by kernel_rfl) (wn rfl) rfl rfl (.pointer (some ⟨g2, 0, none⟩)) (fun w' hS' => ex_fa _ _ _ rfl _ (F.e rfl) 0 rb_fa_69_0_0 ⟨g2, 0, none⟩ rfl) hS ?_; clear F a; intro a F
     refine any_val F 3 rfl (by kernel_rfl) (wn rfl) rfl rfl (.slice (some adr) ks.length c) (fun w' hS' => ex_load _ _ rfl _ (F.e rfl) _ (lv1 rb_one_55 (hS'.cell (i := 0) rfl (j := 0) rfl))) hS ?_; clear F a; intro a F
     refine any_val F 4 rfl (by kernel_rfl) (wn rfl) rfl rfl (.int .i64 i) (fun w' hS' => ex_move _ rfl _ (F.e rfl)) hS ?_; clear F a; intro a F
     refine any_val F 5 rfl (by kernel_rfl) (wn rfl) rfl rfl (.pointer (some (adr.add (i * 34)))) (fun w' hS' => ex_ix _ _ _ rfl 34 rb_sl_55_34 adr _ _ (F.e rfl) .i64 _ (F.e rfl) i rfl (by omega) (adr.add (i * 34)) rfl) hS ?_; clear F a; intro a F
     refine any_val F 6 rfl (by kernel_rfl) (wn rfl) rfl rfl (.agg ((rdK ks (i : Int)).arr)) (fun w' hS' => ex_load _ _ rfl _ (F.e rfl) _ (lvr (cs := (rdK ks (i : Int)).cs) (by rw [Key.cs_len]; exact rb_row_107_34) ((zi.below hS'.bel)))) hS ?_; clear F a; intro a F
     refine any_ready [1, 7] (by kernel_rfl) (by simp) ?_
     refine ready_do rfl (wn rfl) (fun K hK => ?_) ?_
     ·
      refine ow_val F rfl rfl (.slice B ((prK (ks.take i) now).length) b) (ex_load _ _ rfl _ (F.e rfl) _ (lv1 rb_one_55 (M.cell (i := 0) rfl (j := 0) rfl))) ?_; clear F a; intro a F
      replace hS : Mm w wD [⟨g2, #[.slice (some adr) ks.length c, .int .u64 next], 69⟩] := (by refine M.pick' [2] _ ?_ (by decide); exact ⟨rfl, trivial⟩)
      refine hK _ _ hS ?_
      clear hK K
      refine any_ready [7] (by kernel_rfl) (by simp) ?_
      refine ready_do rfl (wn rfl) (fun K hK => ?_) AllReadyH.nil
      refine ow_bslice F M rfl rfl 55 1 _ rfl #[(0, .agg ((rdK ks (i : Int)).arr))] (parts1 (F.e rfl)) ((rdK ks (i : Int)).arr) 107 (newKeys (rdK ks (i : Int)) _) ?_
      clear F M a; intro a g45 v F M hb hg
      replace hS : Mm w v [⟨g2, #[.slice (some adr) ks.length c, .int .u64 next], 69⟩] := (by refine M.pick' [3] _ ?_ (by decide); exact ⟨rfl, trivial⟩)
      refine hK _ _ hS ?_
      clear hK K
      replace O_x := Kd.R_below O_x hb
      clear hb hg; try clear wD
      refine any_ready [8] (by kernel_rfl) (by simp) ?_
      refine ready_do rfl (wn rfl) (fun K hK => ?_) AllReadyH.nil
      have hks := kKey_one (rdK ks (i : Int)) (M.at (i := 0) rfl)
      replace M : Mm w v [⟨g5, #[.slice B ((prK (ks.take i) now).length) b, .int .u64 next], 69⟩, ⟨g4, #[.slice none 0 0, .int .u64 0], 69⟩, ⟨g2, #[.slice (some adr) ks.length c, .int .u64 next], 69⟩] := (by refine M.pick' [1, 2, 3] _ ?_ (by decide); exact ⟨rfl, rfl, rfl, trivial⟩)
      refine ow_ownapp F M rfl rfl rfl rfl _ _ rfl _ _ _ (prK (ks.take i) now) [(rdK ks (i : Int))] _ 1 1 (F.e rfl) (F.e rfl) O_x hks (by omega) ?_
      clear F a M O_x hks; intro a A_46 c_46 u F M O_x
      replace hS : Mm w u [⟨g2, #[.slice (some adr) ks.length c, .int .u64 next], 69⟩] := (by refine M.pick' [2] _ ?_ (by decide); exact ⟨rfl, trivial⟩)
      refine hK _ _ hS ?_
      clear hK K
      try clear v
      refine any_val F 9 rfl (by kernel_rfl) (wn rfl) rfl rfl (.pointer (some ⟨g5, 0, none⟩)) (fun w' hS' => ex_fa _ _ _ rfl _ (F.e rfl) 0 rb_fa_69_0_0 ⟨g5, 0, none⟩ rfl) hS ?_; clear F a; intro a F
      refine any_ready [10] (by kernel_rfl) (by simp) ?_
      refine ready_do rfl (wn rfl) (fun K hK => ?_) AllReadyH.nil
      refine ow_store F M rfl 55 _ _ rfl 0 g5 _ _ rfl 0 (F.e rfl) _ (F.e rfl) [.slice A_46 (((prK (ks.take i) now) ++ [(rdK ks (i : Int))]).length) c_46] rfl rb_info_55_map_size_some_1 (by simp) (by simp [Value.oneCell']) #[.slice A_46 (((prK (ks.take i) now) ++ [(rdK ks (i : Int))]).length) c_46, .int .u64 next] rfl ?_
      clear F a; have Mo := M; clear M; intro a v F M hgr
      replace hS : Mm w v [⟨g2, #[.slice (some adr) ks.length c, .int .u64 next], 69⟩] := (by refine M.pick' [2] _ ?_ (by decide); exact ⟨rfl, trivial⟩)
      refine hK _ _ hS ?_
      clear hK K
      replace O_x := own_grown O_x (Mo.blk 0 _ rfl) (by show 107 ≠ 69; decide) hgr
      clear Mo hgr; try clear u
      replace M : Mm w v [⟨g5, #[.slice A_46 (((prK (ks.take i) now) ++ [(rdK ks (i : Int))]).length) c_46, .int .u64 next], 69⟩, ⟨g4, #[.slice none 0 0, .int .u64 0], 69⟩, ⟨g2, #[.slice (some adr) ks.length c, .int .u64 next], 69⟩] := M
      refine any_done (by kernel_rfl) ?_
      exact ⟨g45, A_46, c_46, F.keep ⟨rfl, rfl, rfl, rfl, rfl, rfl, rfl, rfl, rfl, trivial⟩, (by refine M.pick' [0, 1, 2] _ ?_ (by decide); exact ⟨rfl, rfl, rfl, trivial⟩), O_x⟩
     refine ready_do rfl (wn rfl) (fun K hK => ?_) AllReadyH.nil
     refine ow_bslice F M rfl rfl 55 1 _ rfl #[(0, .agg ((rdK ks (i : Int)).arr))] (parts1 (F.e rfl)) ((rdK ks (i : Int)).arr) 107 (newKeys (rdK ks (i : Int)) _) ?_
     clear F M a; intro a g45 v F M hb hg
     replace hS : Mm w v [⟨g2, #[.slice (some adr) ks.length c, .int .u64 next], 69⟩] := (by refine M.pick' [3] _ ?_ (by decide); exact ⟨rfl, trivial⟩)
     refine hK _ _ hS ?_
     clear hK K
     replace O_x := Kd.R_below O_x hb
     clear hb hg; try clear wD
     refine any_ready [1] (by kernel_rfl) (by simp) ?_
     refine ready_do rfl (wn rfl) (fun K hK => ?_) AllReadyH.nil
     refine ow_val F rfl rfl (.slice B ((prK (ks.take i) now).length) b) (ex_load _ _ rfl _ (F.e rfl) _ (lv1 rb_one_55 (M.cell (i := 1) rfl (j := 0) rfl))) ?_; clear F a; intro a F
     replace hS : Mm w v [⟨g2, #[.slice (some adr) ks.length c, .int .u64 next], 69⟩] := (by refine M.pick' [3] _ ?_ (by decide); exact ⟨rfl, trivial⟩)
     refine hK _ _ hS ?_
     clear hK K
     refine any_ready [8] (by kernel_rfl) (by simp) ?_
     refine ready_do rfl (wn rfl) (fun K hK => ?_) AllReadyH.nil
     have hks := kKey_one (rdK ks (i : Int)) (M.at (i := 0) rfl)
     replace M : Mm w v [⟨g5, #[.slice B ((prK (ks.take i) now).length) b, .int .u64 next], 69⟩, ⟨g4, #[.slice none 0 0, .int .u64 0], 69⟩, ⟨g2, #[.slice (some adr) ks.length c, .int .u64 next], 69⟩] := (by refine M.pick' [1, 2, 3] _ ?_ (by decide); exact ⟨rfl, rfl, rfl, trivial⟩)
     refine ow_ownapp F M rfl rfl rfl rfl _ _ rfl _ _ _ (prK (ks.take i) now) [(rdK ks (i : Int))] _ 1 1 (F.e rfl) (F.e rfl) O_x hks (by omega) ?_
     clear F a M O_x hks; intro a A_46 c_46 u F M O_x
     replace hS : Mm w u [⟨g2, #[.slice (some adr) ks.length c, .int .u64 next], 69⟩] := (by refine M.pick' [2] _ ?_ (by decide); exact ⟨rfl, trivial⟩)
     refine hK _ _ hS ?_
     clear hK K
     try clear v
     refine any_val F 9 rfl (by kernel_rfl) (wn rfl) rfl rfl (.pointer (some ⟨g5, 0, none⟩)) (fun w' hS' => ex_fa _ _ _ rfl _ (F.e rfl) 0 rb_fa_69_0_0 ⟨g5, 0, none⟩ rfl) hS ?_; clear F a; intro a F
     refine any_ready [10] (by kernel_rfl) (by simp) ?_
     refine ready_do rfl (wn rfl) (fun K hK => ?_) AllReadyH.nil
     refine ow_store F M rfl 55 _ _ rfl 0 g5 _ _ rfl 0 (F.e rfl) _ (F.e rfl) [.slice A_46 (((prK (ks.take i) now) ++ [(rdK ks (i : Int))]).length) c_46] rfl rb_info_55_map_size_some_1 (by simp) (by simp [Value.oneCell']) #[.slice A_46 (((prK (ks.take i) now) ++ [(rdK ks (i : Int))]).length) c_46, .int .u64 next] rfl ?_
     clear F a; have Mo := M; clear M; intro a v F M hgr
     replace hS : Mm w v [⟨g2, #[.slice (some adr) ks.length c, .int .u64 next], 69⟩] := (by refine M.pick' [2] _ ?_ (by decide); exact ⟨rfl, trivial⟩)
     refine hK _ _ hS ?_
     clear hK K
     replace O_x := own_grown O_x (Mo.blk 0 _ rfl) (by show 107 ≠ 69; decide) hgr
     clear Mo hgr; try clear u
     replace M : Mm w v [⟨g5, #[.slice A_46 (((prK (ks.take i) now) ++ [(rdK ks (i : Int))]).length) c_46, .int .u64 next], 69⟩, ⟨g4, #[.slice none 0 0, .int .u64 0], 69⟩, ⟨g2, #[.slice (some adr) ks.length c, .int .u64 next], 69⟩] := M
     refine any_done (by kernel_rfl) ?_
     exact ⟨g45, A_46, c_46, F.keep ⟨rfl, rfl, rfl, rfl, rfl, rfl, rfl, rfl, rfl, trivial⟩, (by refine M.pick' [0, 1, 2] _ ?_ (by decide); exact ⟨rfl, rfl, rfl, trivial⟩), O_x⟩
    clear F M a O_x
    intro a v hR; obtain ⟨g45, A_46, c_46, F, M, O_x⟩ := hR; try clear u
    refine in_n ?_
    refine then_n ?_
    refine wp_region_lit ?_
    refine list_val F (wn rfl) rfl rfl (.int .i64 i) (ex_move _ rfl _ (F.e rfl)) ?_; clear F a; intro a F
    refine list_val F (wn rfl) rfl rfl (.int .i64 (i + 1)) (ex_bin .add _ _ _ _ rfl .i64 _ _ (F.e rfl) rfl _ (b_add (w_i64 (by omega) (by omega)))) ?_; clear F a; intro a F
    refine list_val F (wn rfl) rfl rfl (.int .i64 (i + 1)) (ex_assign _ rfl _ (F.e rfl)) ?_; clear F a; intro a F
    refine wpList_nil ?_
    replace F : Fr 49 a [(0, .agg #[.slice (some adr) ks.length c, .int .u64 next]), (1, .int .i64 now), (2, .pointer (some ⟨g2, 0, none⟩)), (4, .pointer (some ⟨g4, 0, none⟩)), (5, .pointer (some ⟨g5, 0, none⟩)), (6, .int .i64 (i + 1)), (9, .bool false), (18, .bool true), (37, .bool true)] := F.keep ⟨rfl, rfl, rfl, rfl, rfl, rfl, rfl, rfl, rfl, trivial⟩
    refine then_n ?_
    rw [← hst] at M O_x
    exact ⟨ks.length - (i + 1), by omega, (i + 1), A_46, c_46, F.keep ⟨rfl, rfl, rfl, rfl, rfl, rfl, rfl, trivial⟩, (by refine M.pick' [0, 1, 2] _ ?_ (by decide); exact ⟨rfl, rfl, rfl, trivial⟩), O_x, (by omega), (by omega)⟩
   rw [if_neg (by simp; omega), List.append_nil] at hst
   refine wp_seq ?_
   refine wp_seq ?_
   refine wp_region_lit ?_
   refine list_val F (wn rfl) rfl rfl (.int .i64 i) (ex_move _ rfl _ (F.e rfl)) ?_; clear F a; intro a F
   refine list_val F (wn rfl) rfl rfl (.pointer (some ⟨g2, 0, none⟩)) (ex_fa _ _ _ rfl _ (F.e rfl) 0 rb_fa_69_0_0 ⟨g2, 0, none⟩ rfl) ?_; clear F a; intro a F
   refine list_val F (wn rfl) rfl rfl (.slice (some adr) ks.length c) (ex_load _ _ rfl _ (F.e rfl) _ (lv1 rb_one_55 (M.cell (i := 2) rfl (j := 0) rfl))) ?_; clear F a; intro a F
   refine list_val F (wn rfl) rfl rfl (.int .i64 ((ks.length : Nat) : Int)) (ex_len _ _ rfl 34 rb_sl_55_34 _ _ _ (F.e rfl)) ?_; clear F a; intro a F
   refine list_val F (wn rfl) rfl rfl (.bool true) (ex_bin .lss _ _ _ _ rfl .i64 _ _ (F.e rfl) (F.e rfl) _ (b_lss (decide_eq_true (by omega)))) ?_; clear F a; intro a F
   refine wpList_nil ?_
   replace F : Fr 49 a [(0, .agg #[.slice (some adr) ks.length c, .int .u64 next]), (1, .int .i64 now), (2, .pointer (some ⟨g2, 0, none⟩)), (4, .pointer (some ⟨g4, 0, none⟩)), (5, .pointer (some ⟨g5, 0, none⟩)), (6, .int .i64 i), (9, .bool false), (18, .bool true)] := F.keep ⟨rfl, rfl, rfl, rfl, rfl, rfl, rfl, rfl, trivial⟩
   refine then_n ?_
   refine wp_cond_true (F.e rfl) ?_
   refine wp_skip ?_
   refine then_n ?_
   refine wp_seq ?_
   refine wp_block ?_
   refine wp_seq ?_
   refine wp_region_lit ?_
   refine list_val F (wn rfl) rfl rfl (.pointer (some ⟨g2, 0, none⟩)) (ex_fa _ _ _ rfl _ (F.e rfl) 0 rb_fa_69_0_0 ⟨g2, 0, none⟩ rfl) ?_; clear F a; intro a F
   refine list_val F (wn rfl) rfl rfl (.slice (some adr) ks.length c) (ex_load _ _ rfl _ (F.e rfl) _ (lv1 rb_one_55 (M.cell (i := 2) rfl (j := 0) rfl))) ?_; clear F a; intro a F
   refine list_val F (wn rfl) rfl rfl (.int .i64 i) (ex_move _ rfl _ (F.e rfl)) ?_; clear F a; intro a F
   refine list_val F (wn rfl) rfl rfl (.pointer (some (adr.add (i * 34)))) (ex_ix _ _ _ rfl 34 rb_sl_55_34 adr _ _ (F.e rfl) .i64 _ (F.e rfl) i rfl (by omega) (adr.add (i * 34)) rfl) ?_; clear F a; intro a F
   refine list_val F (wn rfl) rfl rfl (.pointer (some ((adr.add (i * 34)).add 33))) (ex_fa _ _ _ rfl _ (F.e rfl) 33 rb_fa_107_2_33 ((adr.add (i * 34)).add 33) rfl) ?_; clear F a; intro a F
   refine list_val F (wn rfl) rfl rfl (.int .i64 ((rdK ks (i : Int)).til)) (ex_load _ _ rfl _ (F.e rfl) _ (lv1 rb_one_2 ((zi.below M.bel).cell 33 _ (Key.cs_33 _)))) ?_; clear F a; intro a F
   refine list_val F (wn rfl) rfl rfl (.bool false) (ex_bin .eql _ _ _ _ rfl .i64 _ _ (F.e rfl) rfl _ (b_eql (by simp [c1]))) ?_; clear F a; intro a F
   refine list_val F (wn rfl) rfl rfl (.bool false) (ex_move _ rfl _ (F.e rfl)) ?_; clear F a; intro a F
   refine list_val F (F.wants 28 false rfl (by kernel_rfl) rfl true rfl) rfl rfl (.pointer (some ⟨g2, 0, none⟩)) (ex_fa _ _ _ rfl _ (F.e rfl) 0 rb_fa_69_0_0 ⟨g2, 0, none⟩ rfl) ?_; clear F a; intro a F
   refine list_val F (F.wants 28 false rfl (by kernel_rfl) rfl true rfl) rfl rfl (.slice (some adr) ks.length c) (ex_load _ _ rfl _ (F.e rfl) _ (lv1 rb_one_55 (M.cell (i := 2) rfl (j := 0) rfl))) ?_; clear F a; intro a F
   refine list_val F (F.wants 28 false rfl (by kernel_rfl) rfl true rfl) rfl rfl (.int .i64 i) (ex_move _ rfl _ (F.e rfl)) ?_; clear F a; intro a F
   refine list_val F (F.wants 28 false rfl (by kernel_rfl) rfl true rfl) rfl rfl (.pointer (some (adr.add (i * 34)))) (ex_ix _ _ _ rfl 34 rb_sl_55_34 adr _ _ (F.e rfl) .i64 _ (F.e rfl) i rfl (by omega) (adr.add (i * 34)) rfl) ?_; clear F a; intro a F
   refine list_val F (F.wants 28 false rfl (by kernel_rfl) rfl true rfl) rfl rfl (.pointer (some ((adr.add (i * 34)).add 33))) (ex_fa _ _ _ rfl _ (F.e rfl) 33 rb_fa_107_2_33 ((adr.add (i * 34)).add 33) rfl) ?_; clear F a; intro a F
   refine list_val F (F.wants 28 false rfl (by kernel_rfl) rfl true rfl) rfl rfl (.int .i64 ((rdK ks (i : Int)).til)) (ex_load _ _ rfl _ (F.e rfl) _ (lv1 rb_one_2 ((zi.below M.bel).cell 33 _ (Key.cs_33 _)))) ?_; clear F a; intro a F
   refine list_val F (F.wants 28 false rfl (by kernel_rfl) rfl true rfl) rfl rfl (.int .i64 now) (ex_move _ rfl _ (F.e rfl)) ?_; clear F a; intro a F
   refine list_val F (F.wants 28 false rfl (by kernel_rfl) rfl true rfl) rfl rfl (.bool false) (ex_bin .gtr _ _ _ _ rfl .i64 _ _ (F.e rfl) (F.e rfl) _ (b_gtr (decide_eq_false c2))) ?_; clear F a; intro a F
   refine list_val F (wn rfl) rfl rfl (.bool false) (ex_pick_f _ _ _ rfl (F.e rfl) _ (F.e rfl)) ?_; clear F a; intro a F
   refine wpList_nil ?_
   replace F : Fr 49 a [(0, .agg #[.slice (some adr) ks.length c, .int .u64 next]), (1, .int .i64 now), (2, .pointer (some ⟨g2, 0, none⟩)), (4, .pointer (some ⟨g4, 0, none⟩)), (5, .pointer (some ⟨g5, 0, none⟩)), (6, .int .i64 i), (9, .bool false), (18, .bool true), (37, .bool false)] := F.keep ⟨rfl, rfl, rfl, rfl, rfl, rfl, rfl, rfl, rfl, trivial⟩
   refine then_n ?_
   refine wp_cond_false (F.e rfl) ?_
   refine wp_skip ?_
   refine in_n ?_
   refine then_n ?_
   refine wp_region_lit ?_
   refine list_val F (wn rfl) rfl rfl (.int .i64 i) (ex_move _ rfl _ (F.e rfl)) ?_; clear F a; intro a F
   refine list_val F (wn rfl) rfl rfl (.int .i64 (i + 1)) (ex_bin .add _ _ _ _ rfl .i64 _ _ (F.e rfl) rfl _ (b_add (w_i64 (by omega) (by omega)))) ?_; clear F a; intro a F
   refine list_val F (wn rfl) rfl rfl (.int .i64 (i + 1)) (ex_assign _ rfl _ (F.e rfl)) ?_; clear F a; intro a F
   refine wpList_nil ?_
   replace F : Fr 49 a [(0, .agg #[.slice (some adr) ks.length c, .int .u64 next]), (1, .int .i64 now), (2, .pointer (some ⟨g2, 0, none⟩)), (4, .pointer (some ⟨g4, 0, none⟩)), (5, .pointer (some ⟨g5, 0, none⟩)), (6, .int .i64 (i + 1)), (9, .bool false), (18, .bool true), (37, .bool false)] := F.keep ⟨rfl, rfl, rfl, rfl, rfl, rfl, rfl, rfl, rfl, trivial⟩
   refine then_n ?_
   rw [← hst] at M O_x
   exact ⟨ks.length - (i + 1), by omega, (i + 1), B, b, F.keep ⟨rfl, rfl, rfl, rfl, rfl, rfl, rfl, trivial⟩, (by refine M.pick' [0, 1, 2] _ ?_ (by decide); exact ⟨rfl, rfl, rfl, trivial⟩), O_x, (by omega), (by omega)⟩
  obtain rfl : i = ks.length := by omega
  rw [List.take_length] at M O_x
  refine wp_seq ?_
  refine wp_seq ?_
  refine wp_region_lit ?_
  refine list_val F (wn rfl) rfl rfl (.int .i64 ks.length) (ex_move _ rfl _ (F.e rfl)) ?_; clear F a; intro a F
  refine list_val F (wn rfl) rfl rfl (.pointer (some ⟨g2, 0, none⟩)) (ex_fa _ _ _ rfl _ (F.e rfl) 0 rb_fa_69_0_0 ⟨g2, 0, none⟩ rfl) ?_; clear F a; intro a F
  refine list_val F (wn rfl) rfl rfl (.slice (some adr) ks.length c) (ex_load _ _ rfl _ (F.e rfl) _ (lv1 rb_one_55 (M.cell (i := 2) rfl (j := 0) rfl))) ?_; clear F a; intro a F
  refine list_val F (wn rfl) rfl rfl (.int .i64 ((ks.length : Nat) : Int)) (ex_len _ _ rfl 34 rb_sl_55_34 _ _ _ (F.e rfl)) ?_; clear F a; intro a F
  refine list_val F (wn rfl) rfl rfl (.bool false) (ex_bin .lss _ _ _ _ rfl .i64 _ _ (F.e rfl) (F.e rfl) _ (b_lss (decide_eq_false (by omega)))) ?_; clear F a; intro a F
  refine wpList_nil ?_
  replace F : Fr 49 a [(0, .agg #[.slice (some adr) ks.length c, .int .u64 next]), (1, .int .i64 now), (2, .pointer (some ⟨g2, 0, none⟩)), (4, .pointer (some ⟨g4, 0, none⟩)), (5, .pointer (some ⟨g5, 0, none⟩)), (6, .int .i64 ks.length), (9, .bool false), (18, .bool false)] := F.keep ⟨rfl, rfl, rfl, rfl, rfl, rfl, rfl, rfl, trivial⟩
  refine then_n ?_
  refine wp_cond_false (F.e rfl) ?_
  refine wp_exit ?_
  refine then_x ?_
  refine then_x ?_
  refine in_hit ?_
  refine then_n ?_
  refine wp_seq ?_
  refine wp_region_lit ?_
  refine list_val F (wn rfl) rfl rfl (.agg #[.slice B ((prK ks now).length) b, .int .u64 next]) (ex_load _ _ rfl _ (F.e rfl) _ (lvr (cs := [.slice B ((prK ks now).length) b, .int .u64 next]) rb_row_69_2 (M.at (i := 0) rfl))) ?_; clear F a; intro a F
  refine list_do (wn rfl) (fun K hK => ?_)
  refine ow_put F M rfl 69 _ _ rfl 1 _ #[.slice none 0 0, .int .u64 0] _ rfl (F.e rfl) #[.slice B ((prK ks now).length) b, .int .u64 next] (F.e rfl) (sz_row (m := 2) rb_row_69_2) rfl (by simp [Value.oneCell']) ?_
  clear F a; have Mo := M; clear M; intro a v F M hgr
  refine hK _ _ ?_
  clear hK K
  replace O_x := own_grown O_x (Mo.blk 1 _ rfl) (by show 107 ≠ 69; decide) hgr
  clear Mo hgr; try clear u
  replace M : Mm w v [⟨g5, #[.slice B ((prK ks now).length) b, .int .u64 next], 69⟩, ⟨g4, #[.slice B ((prK ks now).length) b, .int .u64 next], 69⟩, ⟨g2, #[.slice (some adr) ks.length c, .int .u64 next], 69⟩] := M
  refine wpList_nil ?_
  replace F : Fr 49 a [(0, .agg #[.slice (some adr) ks.length c, .int .u64 next]), (1, .int .i64 now), (2, .pointer (some ⟨g2, 0, none⟩)), (4, .pointer (some ⟨g4, 0, none⟩)), (5, .pointer (some ⟨g5, 0, none⟩)), (6, .int .i64 ks.length), (9, .bool false), (18, .bool false)] := F.keep ⟨rfl, rfl, rfl, rfl, rfl, rfl, rfl, rfl, trivial⟩
  refine then_n ?_
  refine wp_ret ?_
  rw [prune_yes hk]
  exact ret_c1 (v := .agg #[.slice B ((prK ks now).length) b, .int .u64 next]) F rfl rfl (lvr (cs := [.slice B ((prK ks now).length) b, .int .u64 next]) rb_row_69_2 (M.at (i := 1) rfl)) ⟨B, b, rfl, O_x, M.bel⟩
 rw [Bool.not_eq_true] at hk
 refine wp_region_lit ?_
 refine list_val F (wn rfl) rfl rfl (.agg #[.slice A ks.length c, .int .u64 next]) (ex_load _ _ rfl _ (F.e rfl) _ (lvr (cs := [.slice A ks.length c, .int .u64 next]) rb_row_69_2 (M.at (i := 1) rfl))) ?_; clear F a; intro a F
 refine list_do (wn rfl) (fun K hK => ?_)
 have hcl := Kd.C_below hr M.bel
 refine ow_call rfl rfl F 33 #[.agg #[.slice A ks.length c, .int .u64 next]] (ex_call 33 _ _ rfl rfl rb_ent_33 _ (map1 (F.e rfl))) (refCheck_any ks _ c next _ hcl hc) (fun e v hR => ?_)
 obtain ⟨he, hb⟩ := hR
 refine ⟨.int .i64 (errK ks next), he, ?_⟩; clear he F a; intro a F
 refine hK _ _ ?_
 clear hK K
 replace M := M.below hb; clear hb; try clear u
 clear hcl
 refine list_val F (wn rfl) rfl rfl (.bool true) (ex_bin .neq _ _ _ _ rfl .i64 _ _ (F.e rfl) rfl _ (b_neq (by rw [errK_no hk]; decide))) ?_; clear F a; intro a F
 refine wpList_nil ?_
 replace F : Fr 49 a [(0, .agg #[.slice A ks.length c, .int .u64 next]), (1, .int .i64 now), (2, .pointer (some ⟨g2, 0, none⟩)), (4, .pointer (some ⟨g4, 0, none⟩)), (9, .bool true)] := F.keep ⟨rfl, rfl, rfl, rfl, rfl, trivial⟩
 refine then_n ?_
 refine wp_cond_true (F.e rfl) ?_
 refine wp_seq ?_
 refine wp_region_lit ?_
 refine list_val F (wn rfl) rfl rfl (.agg #[.slice none 0 0, .int .u64 0]) (ex_build 69 _ rfl #[] parts0 (.agg #[.slice none 0 0, .int .u64 0]) (build69_0 _)) ?_; clear F a; intro a F
 refine list_do (wn rfl) (fun K hK => ?_)
 refine ow_put F M rfl 69 _ _ rfl 0 _ #[.slice none 0 0, .int .u64 0] _ rfl (F.e rfl) #[.slice none 0 0, .int .u64 0] (F.e rfl) (sz_row (m := 2) rb_row_69_2) rfl (by simp [Value.oneCell']) ?_
 clear F a; have Mo := M; clear M; intro a u F M hgr
 refine hK _ _ ?_
 clear hK K
 clear Mo hgr; try clear v
 replace M : Mm w u [⟨g4, #[.slice none 0 0, .int .u64 0], 69⟩, ⟨g2, #[.slice A ks.length c, .int .u64 next], 69⟩] := M
 refine wpList_nil ?_
 replace F : Fr 49 a [(0, .agg #[.slice A ks.length c, .int .u64 next]), (1, .int .i64 now), (2, .pointer (some ⟨g2, 0, none⟩)), (4, .pointer (some ⟨g4, 0, none⟩)), (9, .bool true)] := F.keep ⟨rfl, rfl, rfl, rfl, rfl, trivial⟩
 refine then_n ?_
 refine wp_ret ?_
 refine then_r ?_
 rw [prune_no hk]
 exact ret_c1 (v := .agg #[.slice none 0 0, .int .u64 0]) F rfl rfl (lvr (cs := [.slice none 0 0, .int .u64 0]) rb_row_69_2 (M.at (i := 0) rfl)) ⟨none, 0, rfl, nil_own _ _, M.bel⟩
theorem rb_ent_40 : ent? Try.prog 40 = true := by kernel_rfl
set_option maxHeartbeats 1000000 in
set_option maxRecDepth 100000 in
theorem copyRing_own (ks : List Key) (A : Option Addr) (c : Nat) (next : Int) (w : World) (hr : kKey.C w A ks.length ks) (hc : ks.length ≤ c) (hl : ks.length ≤ 1000000) :
    Calls Try.prog 18 #[.agg #[.slice A ks.length c, .int .u64 next]] w fun e w' => ∃ A' c', e = .returned (.agg #[.slice A' ks.length c', .int .u64 next]) ∧ OwnKeys w' w.heap.size (.slice A' ks.length c') ks ∧ Below w.heap.size w w' := by
 refine calls_start Try.func18 rfl rfl rfl (fun a F => ?_)
 have M : Mm w w [] := Mm.nil w
 refine wp_seq ?_
 refine wp_region_lit ?_
 refine list_do (wn rfl) (fun K hK => ?_)
 refine ow_box F M rfl rfl 69 _ rfl _ (F.e rfl) #[.slice A ks.length c, .int .u64 next] rfl ?_
 clear F M a; intro a g1 v F M hb hg
 refine hK _ _ ?_
 clear hK K
 clear hb hg; try clear w
 refine list_do (wn rfl) (fun K hK => ?_)
 refine ow_alloc F M rfl rfl 69 rfl (.agg #[.slice none 0 0, .int .u64 0]) z69 #[.slice none 0 0, .int .u64 0] rfl ?_
 clear F M a; intro a g2 u F M hb hg
 refine hK _ _ ?_
 clear hK K
 clear hb hg; try clear v
 refine wpList_nil ?_
 replace F : Fr 10 a [(0, .agg #[.slice A ks.length c, .int .u64 next]), (1, .pointer (some ⟨g1, 0, none⟩)), (2, .pointer (some ⟨g2, 0, none⟩))] := F.keep ⟨rfl, rfl, rfl, trivial⟩
 refine then_n ?_
 refine wp_seq ?_
 refine wp_region_lit ?_
 refine list_val F (wn rfl) rfl rfl (.agg #[.slice A ks.length c, .int .u64 next]) (ex_load _ _ rfl _ (F.e rfl) _ (lvr (cs := [.slice A ks.length c, .int .u64 next]) rb_row_69_2 (M.at (i := 1) rfl))) ?_; clear F a; intro a F
 refine list_do (wn rfl) (fun K hK => ?_)
 refine ow_alloc F M rfl rfl 69 rfl (.agg #[.slice none 0 0, .int .u64 0]) z69 #[.slice none 0 0, .int .u64 0] rfl ?_
 clear F M a; intro a g3 v F M hb hg
 refine hK _ _ ?_
 clear hK K
 clear hb hg; try clear u
 refine list_do (wn rfl) (fun K hK => ?_)
 refine ow_put F M rfl 69 _ _ rfl 0 _ #[.slice none 0 0, .int .u64 0] _ rfl (F.e rfl) #[.slice A ks.length c, .int .u64 next] (F.e rfl) (sz_row (m := 2) rb_row_69_2) rfl (by simp [Value.oneCell']) ?_
 clear F a; have Mo := M; clear M; intro a u F M hgr
 refine hK _ _ ?_
 clear hK K
 clear Mo hgr; try clear v
 replace M : Mm w u [⟨g3, #[.slice A ks.length c, .int .u64 next], 69⟩, ⟨g2, #[.slice none 0 0, .int .u64 0], 69⟩, ⟨g1, #[.slice A ks.length c, .int .u64 next], 69⟩] := M
 refine wpList_nil ?_
 replace F : Fr 10 a [(0, .agg #[.slice A ks.length c, .int .u64 next]), (1, .pointer (some ⟨g1, 0, none⟩)), (2, .pointer (some ⟨g2, 0, none⟩)), (3, .pointer (some ⟨g3, 0, none⟩))] := F.keep ⟨rfl, rfl, rfl, rfl, trivial⟩
 refine then_n ?_
 refine wp_seq ?_
 refine wp_region_lit ?_
 refine list_val F (wn rfl) rfl rfl (.pointer (some ⟨g1, 0, none⟩)) (ex_fa _ _ _ rfl _ (F.e rfl) 0 rb_fa_69_0_0 ⟨g1, 0, none⟩ rfl) ?_; clear F a; intro a F
 refine list_val F (wn rfl) rfl rfl (.slice A ks.length c) (ex_load _ _ rfl _ (F.e rfl) _ (lv1 rb_one_55 (M.cell (i := 2) rfl (j := 0) rfl))) ?_; clear F a; intro a F
 refine list_do (wn rfl) (fun K hK => ?_)
 have hcl := Kd.C_below hr M.bel
 refine ow_call rfl rfl F 40 #[.slice A ks.length c] (ex_call 40 _ _ rfl rfl rb_ent_40 _ (map1 (F.e rfl))) (copyKeys_any ks _ c _ hcl hc hl) (fun e v hR => ?_)
 obtain ⟨v7, he, O_x, hb⟩ := hR
 obtain ⟨A_7, c_7, rfl⟩ := Kd.R_slice O_x
 replace O_x := own_low O_x M.bel.size
 refine ⟨.slice A_7 ks.length c_7, he, ?_⟩; clear he F a; intro a F
 refine hK _ _ ?_
 clear hK K
 replace M := M.below hb; clear hb; try clear u
 clear hcl
 refine list_val F (wn rfl) rfl rfl (.pointer (some ⟨g3, 0, none⟩)) (ex_fa _ _ _ rfl _ (F.e rfl) 0 rb_fa_69_0_0 ⟨g3, 0, none⟩ rfl) ?_; clear F a; intro a F
 refine list_do (wn rfl) (fun K hK => ?_)
 refine ow_store F M rfl 55 _ _ rfl 0 g3 _ _ rfl 0 (F.e rfl) _ (F.e rfl) [.slice A_7 ks.length c_7] rfl rb_info_55_map_size_some_1 (by simp) (by simp [Value.oneCell']) #[.slice A_7 ks.length c_7, .int .u64 next] rfl ?_
 clear F a; have Mo := M; clear M; intro a u F M hgr
 refine hK _ _ ?_
 clear hK K
 replace O_x := own_grown O_x (Mo.blk 0 _ rfl) (by show 107 ≠ 69; decide) hgr
 clear Mo hgr; try clear v
 replace M : Mm w u [⟨g3, #[.slice A_7 ks.length c_7, .int .u64 next], 69⟩, ⟨g2, #[.slice none 0 0, .int .u64 0], 69⟩, ⟨g1, #[.slice A ks.length c, .int .u64 next], 69⟩] := M
 refine wpList_nil ?_
 replace F : Fr 10 a [(0, .agg #[.slice A ks.length c, .int .u64 next]), (1, .pointer (some ⟨g1, 0, none⟩)), (2, .pointer (some ⟨g2, 0, none⟩)), (3, .pointer (some ⟨g3, 0, none⟩))] := F.keep ⟨rfl, rfl, rfl, rfl, trivial⟩
 refine then_n ?_
 refine wp_seq ?_
 refine wp_region_lit ?_
 refine list_val F (wn rfl) rfl rfl (.agg #[.slice A_7 ks.length c_7, .int .u64 next]) (ex_load _ _ rfl _ (F.e rfl) _ (lvr (cs := [.slice A_7 ks.length c_7, .int .u64 next]) rb_row_69_2 (M.at (i := 0) rfl))) ?_; clear F a; intro a F
 refine list_do (wn rfl) (fun K hK => ?_)
 refine ow_put F M rfl 69 _ _ rfl 1 _ #[.slice none 0 0, .int .u64 0] _ rfl (F.e rfl) #[.slice A_7 ks.length c_7, .int .u64 next] (F.e rfl) (sz_row (m := 2) rb_row_69_2) rfl (by simp [Value.oneCell']) ?_
 clear F a; have Mo := M; clear M; intro a v F M hgr
 refine hK _ _ ?_
 clear hK K
 replace O_x := own_grown O_x (Mo.blk 1 _ rfl) (by show 107 ≠ 69; decide) hgr
 clear Mo hgr; try clear u
 replace M : Mm w v [⟨g3, #[.slice A_7 ks.length c_7, .int .u64 next], 69⟩, ⟨g2, #[.slice A_7 ks.length c_7, .int .u64 next], 69⟩, ⟨g1, #[.slice A ks.length c, .int .u64 next], 69⟩] := M
 refine wpList_nil ?_
 replace F : Fr 10 a [(0, .agg #[.slice A ks.length c, .int .u64 next]), (1, .pointer (some ⟨g1, 0, none⟩)), (2, .pointer (some ⟨g2, 0, none⟩)), (3, .pointer (some ⟨g3, 0, none⟩))] := F.keep ⟨rfl, rfl, rfl, rfl, trivial⟩
 refine then_n ?_
 refine wp_ret ?_
 exact ret_c1 (v := .agg #[.slice A_7 ks.length c_7, .int .u64 next]) F rfl rfl (lvr (cs := [.slice A_7 ks.length c_7, .int .u64 next]) rb_row_69_2 (M.at (i := 1) rfl)) ⟨A_7, c_7, rfl, O_x, M.bel⟩
theorem rb_ent_18 : ent? Try.prog 18 = true := by kernel_rfl
theorem rb_info_2_map_size_some_1 : (Try.prog.info? 2).map (·.size) = some 1 := by kernel_rfl
theorem rb_row_70_32 : row? Try.prog 70 32 = true := by kernel_rfl
theorem rb_ap_55_107_34_48 : ap? Try.prog 55 107 34 48 = true := by kernel_rfl
theorem rb_info_67_map_size_some_1 : (Try.prog.info? 67).map (·.size) = some 1 := by kernel_rfl
set_option maxHeartbeats 1000000 in
set_option maxRecDepth 100000 in
theorem refRotate_own (ks : List Key) (A : Option Addr) (c : Nat) (next : Int) (s : Bs 32) (tl : Int) (w : World) (hr : kKey.C w A ks.length ks) (hc : ks.length ≤ c) (hn : 0 ≤ next) :
    Calls Try.prog 11 #[.agg #[.slice A ks.length c, .int .u64 next], .agg s.cs.toArray, .int .i64 tl] w fun e w' => TellsF2 e w w' (rotateF ⟨ks, next⟩ s tl).1 (rotateF ⟨ks, next⟩ s tl).2 := by
 refine calls_start Try.func11 rfl rfl rfl (fun a F => ?_)
 have M : Mm w w [] := Mm.nil w
 refine wp_seq ?_
 refine wp_region_lit ?_
 refine list_do (wn rfl) (fun K hK => ?_)
 refine ow_box F M rfl rfl 69 _ rfl _ (F.e rfl) #[.slice A ks.length c, .int .u64 next] rfl ?_
 clear F M a; intro a g3 v F M hb hg
 refine hK _ _ ?_
 clear hK K
 clear hb hg; try clear w
 refine list_do (wn rfl) (fun K hK => ?_)
 refine ow_box F M rfl rfl 70 _ rfl _ (F.e rfl) s.cs.toArray rfl ?_
 clear F M a; intro a g4 u F M hb hg
 refine hK _ _ ?_
 clear hK K
 clear hb hg; try clear v
 refine list_do (wn rfl) (fun K hK => ?_)
 refine ow_alloc F M rfl rfl 69 rfl (.agg #[.slice none 0 0, .int .u64 0]) z69 #[.slice none 0 0, .int .u64 0] rfl ?_
 clear F M a; intro a g6 v F M hb hg
 refine hK _ _ ?_
 clear hK K
 clear hb hg; try clear u
 refine list_val F (wn rfl) rfl rfl (.int .i64 0) (ex_assign _ rfl _ rfl) ?_; clear F a; intro a F
 refine wpList_nil ?_
 replace F : Fr 51 a [(0, .agg #[.slice A ks.length c, .int .u64 next]), (1, .agg s.cs.toArray), (2, .int .i64 tl), (3, .pointer (some ⟨g3, 0, none⟩)), (4, .pointer (some ⟨g4, 0, none⟩)), (6, .pointer (some ⟨g6, 0, none⟩)), (7, .int .i64 0)] := F.keep ⟨rfl, rfl, rfl, rfl, rfl, rfl, rfl, trivial⟩
 refine then_n ?_
 refine wp_seq ?_
 refine wp_seq ?_
 by_cases hk : checkK ks next = true
 ·
  obtain ⟨h1, h8, hmx⟩ := check_len hk
  obtain ⟨m, hm⟩ : ∃ m, ks.length = m + 1 := ⟨ks.length - 1, by omega⟩
  have hmk : ks[m]? = some (rdK ks (m : Int)) := by rw [rdK_eq (by omega), List.getElem?_eq_getElem (by omega)]
  refine wp_region_lit ?_
  refine list_val F (wn rfl) rfl rfl (.agg #[.slice A ks.length c, .int .u64 next]) (ex_load _ _ rfl _ (F.e rfl) _ (lvr (cs := [.slice A ks.length c, .int .u64 next]) rb_row_69_2 (M.at (i := 2) rfl))) ?_; clear F a; intro a F
  refine list_do (wn rfl) (fun K hK => ?_)
  have hcl := Kd.C_below hr M.bel
  refine ow_call rfl rfl F 33 #[.agg #[.slice A ks.length c, .int .u64 next]] (ex_call 33 _ _ rfl rfl rb_ent_33 _ (map1 (F.e rfl))) (refCheck_any ks _ c next _ hcl hc) (fun e u hR => ?_)
  obtain ⟨he, hb⟩ := hR
  refine ⟨.int .i64 (errK ks next), he, ?_⟩; clear he F a; intro a F
  refine hK _ _ ?_
  clear hK K
  replace M := M.below hb; clear hb; try clear v
  clear hcl
  refine list_val F (wn rfl) rfl rfl (.bool false) (ex_bin .neq _ _ _ _ rfl .i64 _ _ (F.e rfl) rfl _ (b_neq (by rw [errK_yes hk]; decide))) ?_; clear F a; intro a F
  refine wpList_nil ?_
  replace F : Fr 51 a [(0, .agg #[.slice A ks.length c, .int .u64 next]), (1, .agg s.cs.toArray), (2, .int .i64 tl), (3, .pointer (some ⟨g3, 0, none⟩)), (4, .pointer (some ⟨g4, 0, none⟩)), (6, .pointer (some ⟨g6, 0, none⟩)), (7, .int .i64 0), (11, .bool false)] := F.keep ⟨rfl, rfl, rfl, rfl, rfl, rfl, rfl, rfl, trivial⟩
  refine then_n ?_
  refine wp_cond_false (F.e rfl) ?_
  refine wp_skip ?_
  refine then_n ?_
  refine wp_seq ?_
  refine wp_seq ?_
  by_cases hu : tl ≤ 0
  ·
   refine wp_region_lit ?_
   refine list_val F (wn rfl) rfl rfl (.int .i64 tl) (ex_move _ rfl _ (F.e rfl)) ?_; clear F a; intro a F
   refine list_val F (wn rfl) rfl rfl (.bool true) (ex_bin .leq _ _ _ _ rfl .i64 _ _ (F.e rfl) rfl _ (b_leq (decide_eq_true hu))) ?_; clear F a; intro a F
   refine wpList_nil ?_
   replace F : Fr 51 a [(0, .agg #[.slice A ks.length c, .int .u64 next]), (1, .agg s.cs.toArray), (2, .int .i64 tl), (3, .pointer (some ⟨g3, 0, none⟩)), (4, .pointer (some ⟨g4, 0, none⟩)), (6, .pointer (some ⟨g6, 0, none⟩)), (7, .int .i64 0), (11, .bool false), (14, .bool true)] := F.keep ⟨rfl, rfl, rfl, rfl, rfl, rfl, rfl, rfl, rfl, trivial⟩
   refine then_n ?_
   refine wp_cond_true (F.e rfl) ?_
   refine wp_seq ?_
   refine wp_region_lit ?_
   refine list_val F (wn rfl) rfl rfl (.agg #[.slice none 0 0, .int .u64 0]) (ex_build 69 _ rfl #[] parts0 (.agg #[.slice none 0 0, .int .u64 0]) (build69_0 _)) ?_; clear F a; intro a F
   refine list_do (wn rfl) (fun K hK => ?_)
   refine ow_put F M rfl 69 _ _ rfl 0 _ #[.slice none 0 0, .int .u64 0] _ rfl (F.e rfl) #[.slice none 0 0, .int .u64 0] (F.e rfl) (sz_row (m := 2) rb_row_69_2) rfl (by simp [Value.oneCell']) ?_
   clear F a; have Mo := M; clear M; intro a v F M hgr
   refine hK _ _ ?_
   clear hK K
   clear Mo hgr; try clear u
   replace M : Mm w v [⟨g6, #[.slice none 0 0, .int .u64 0], 69⟩, ⟨g4, s.cs.toArray, 70⟩, ⟨g3, #[.slice A ks.length c, .int .u64 next], 69⟩] := M
   refine list_val F (wn rfl) rfl rfl (.int .i64 52) (ex_assign _ rfl _ rfl) ?_; clear F a; intro a F
   refine wpList_nil ?_
   replace F : Fr 51 a [(0, .agg #[.slice A ks.length c, .int .u64 next]), (1, .agg s.cs.toArray), (2, .int .i64 tl), (3, .pointer (some ⟨g3, 0, none⟩)), (4, .pointer (some ⟨g4, 0, none⟩)), (6, .pointer (some ⟨g6, 0, none⟩)), (7, .int .i64 52), (11, .bool false), (14, .bool true)] := F.keep ⟨rfl, rfl, rfl, rfl, rfl, rfl, rfl, rfl, rfl, trivial⟩
   refine then_n ?_
   refine wp_ret ?_
   refine then_r ?_
   rw [rotate_clock hk hu]
   exact ret_c2 (v := .agg #[.slice none 0 0, .int .u64 0]) F rfl rfl rfl (lvr (cs := [.slice none 0 0, .int .u64 0]) rb_row_69_2 (M.at (i := 0) rfl)) ⟨none, 0, rfl, nil_own _ _, M.bel⟩
  refine wp_region_lit ?_
  refine list_val F (wn rfl) rfl rfl (.int .i64 tl) (ex_move _ rfl _ (F.e rfl)) ?_; clear F a; intro a F
  refine list_val F (wn rfl) rfl rfl (.bool false) (ex_bin .leq _ _ _ _ rfl .i64 _ _ (F.e rfl) rfl _ (b_leq (decide_eq_false hu))) ?_; clear F a; intro a F
  refine wpList_nil ?_
  replace F : Fr 51 a [(0, .agg #[.slice A ks.length c, .int .u64 next]), (1, .agg s.cs.toArray), (2, .int .i64 tl), (3, .pointer (some ⟨g3, 0, none⟩)), (4, .pointer (some ⟨g4, 0, none⟩)), (6, .pointer (some ⟨g6, 0, none⟩)), (7, .int .i64 0), (11, .bool false), (14, .bool false)] := F.keep ⟨rfl, rfl, rfl, rfl, rfl, rfl, rfl, rfl, rfl, trivial⟩
  refine then_n ?_
  refine wp_cond_false (F.e rfl) ?_
  refine wp_skip ?_
  refine then_n ?_
  refine wp_seq ?_
  refine wp_seq ?_
  by_cases hf : 8 ≤ ks.length
  ·
   refine wp_region_lit ?_
   refine list_val F (wn rfl) rfl rfl (.pointer (some ⟨g3, 0, none⟩)) (ex_fa _ _ _ rfl _ (F.e rfl) 0 rb_fa_69_0_0 ⟨g3, 0, none⟩ rfl) ?_; clear F a; intro a F
   refine list_val F (wn rfl) rfl rfl (.slice A ks.length c) (ex_load _ _ rfl _ (F.e rfl) _ (lv1 rb_one_55 (M.cell (i := 2) rfl (j := 0) rfl))) ?_; clear F a; intro a F
   refine list_val F (wn rfl) rfl rfl (.int .i64 ((ks.length : Nat) : Int)) (ex_len _ _ rfl 34 rb_sl_55_34 _ _ _ (F.e rfl)) ?_; clear F a; intro a F
   refine list_val F (wn rfl) rfl rfl (.bool true) (ex_bin .geq _ _ _ _ rfl .i64 _ _ (F.e rfl) rfl _ (b_geq (decide_eq_true (by omega)))) ?_; clear F a; intro a F
   refine list_val F (wn rfl) rfl rfl (.bool true) (ex_move _ rfl _ (F.e rfl)) ?_; clear F a; intro a F
   refine list_skip F (F.wants 20 true rfl (by kernel_rfl) rfl false rfl) rfl rfl ?_; clear F a; intro a F
   refine list_skip F (F.wants 20 true rfl (by kernel_rfl) rfl false rfl) rfl rfl ?_; clear F a; intro a F
   refine list_skip F (F.wants 20 true rfl (by kernel_rfl) rfl false rfl) rfl rfl ?_; clear F a; intro a F
   refine list_val F (wn rfl) rfl rfl (.bool true) (ex_pick_t _ _ _ rfl (F.e rfl) _ rfl) ?_; clear F a; intro a F
   refine wpList_nil ?_
   replace F : Fr 51 a [(0, .agg #[.slice A ks.length c, .int .u64 next]), (1, .agg s.cs.toArray), (2, .int .i64 tl), (3, .pointer (some ⟨g3, 0, none⟩)), (4, .pointer (some ⟨g4, 0, none⟩)), (6, .pointer (some ⟨g6, 0, none⟩)), (7, .int .i64 0), (11, .bool false), (14, .bool false), (24, .bool true)] := F.keep ⟨rfl, rfl, rfl, rfl, rfl, rfl, rfl, rfl, rfl, rfl, trivial⟩
   refine then_n ?_
   refine wp_cond_true (F.e rfl) ?_
   refine wp_seq ?_
   refine wp_region_lit ?_
   refine list_val F (wn rfl) rfl rfl (.agg #[.slice none 0 0, .int .u64 0]) (ex_build 69 _ rfl #[] parts0 (.agg #[.slice none 0 0, .int .u64 0]) (build69_0 _)) ?_; clear F a; intro a F
   refine list_do (wn rfl) (fun K hK => ?_)
   refine ow_put F M rfl 69 _ _ rfl 0 _ #[.slice none 0 0, .int .u64 0] _ rfl (F.e rfl) #[.slice none 0 0, .int .u64 0] (F.e rfl) (sz_row (m := 2) rb_row_69_2) rfl (by simp [Value.oneCell']) ?_
   clear F a; have Mo := M; clear M; intro a v F M hgr
   refine hK _ _ ?_
   clear hK K
   clear Mo hgr; try clear u
   replace M : Mm w v [⟨g6, #[.slice none 0 0, .int .u64 0], 69⟩, ⟨g4, s.cs.toArray, 70⟩, ⟨g3, #[.slice A ks.length c, .int .u64 next], 69⟩] := M
   refine list_val F (wn rfl) rfl rfl (.int .i64 51) (ex_assign _ rfl _ rfl) ?_; clear F a; intro a F
   refine wpList_nil ?_
   replace F : Fr 51 a [(0, .agg #[.slice A ks.length c, .int .u64 next]), (1, .agg s.cs.toArray), (2, .int .i64 tl), (3, .pointer (some ⟨g3, 0, none⟩)), (4, .pointer (some ⟨g4, 0, none⟩)), (6, .pointer (some ⟨g6, 0, none⟩)), (7, .int .i64 51), (11, .bool false), (14, .bool false), (24, .bool true)] := F.keep ⟨rfl, rfl, rfl, rfl, rfl, rfl, rfl, rfl, rfl, rfl, trivial⟩
   refine then_n ?_
   refine wp_ret ?_
   refine then_r ?_
   rw [rotate_full hk hu (.inl hf)]
   exact ret_c2 (v := .agg #[.slice none 0 0, .int .u64 0]) F rfl rfl rfl (lvr (cs := [.slice none 0 0, .int .u64 0]) rb_row_69_2 (M.at (i := 0) rfl)) ⟨none, 0, rfl, nil_own _ _, M.bel⟩
  by_cases hx : 9223372036854775807 ≤ next
  ·
   refine wp_region_lit ?_
   refine list_val F (wn rfl) rfl rfl (.pointer (some ⟨g3, 0, none⟩)) (ex_fa _ _ _ rfl _ (F.e rfl) 0 rb_fa_69_0_0 ⟨g3, 0, none⟩ rfl) ?_; clear F a; intro a F
   refine list_val F (wn rfl) rfl rfl (.slice A ks.length c) (ex_load _ _ rfl _ (F.e rfl) _ (lv1 rb_one_55 (M.cell (i := 2) rfl (j := 0) rfl))) ?_; clear F a; intro a F
   refine list_val F (wn rfl) rfl rfl (.int .i64 ((ks.length : Nat) : Int)) (ex_len _ _ rfl 34 rb_sl_55_34 _ _ _ (F.e rfl)) ?_; clear F a; intro a F
   refine list_val F (wn rfl) rfl rfl (.bool false) (ex_bin .geq _ _ _ _ rfl .i64 _ _ (F.e rfl) rfl _ (b_geq (decide_eq_false (by omega)))) ?_; clear F a; intro a F
   refine list_val F (wn rfl) rfl rfl (.bool false) (ex_move _ rfl _ (F.e rfl)) ?_; clear F a; intro a F
   refine list_val F (F.wants 20 false rfl (by kernel_rfl) rfl true rfl) rfl rfl (.pointer (some ⟨g3, 1, none⟩)) (ex_fa _ _ _ rfl _ (F.e rfl) 1 rb_fa_69_1_1 ⟨g3, 1, none⟩ rfl) ?_; clear F a; intro a F
   refine list_val F (F.wants 20 false rfl (by kernel_rfl) rfl true rfl) rfl rfl (.int .u64 next) (ex_load _ _ rfl _ (F.e rfl) _ (lv1 rb_one_67 (M.cell (i := 2) rfl (j := 1) rfl))) ?_; clear F a; intro a F
   refine list_val F (F.wants 20 false rfl (by kernel_rfl) rfl true rfl) rfl rfl (.bool true) (ex_bin .geq _ _ _ _ rfl .u64 _ _ (F.e rfl) rfl _ (b_geq (decide_eq_true hx))) ?_; clear F a; intro a F
   refine list_val F (wn rfl) rfl rfl (.bool true) (ex_pick_f _ _ _ rfl (F.e rfl) _ (F.e rfl)) ?_; clear F a; intro a F
   refine wpList_nil ?_
   replace F : Fr 51 a [(0, .agg #[.slice A ks.length c, .int .u64 next]), (1, .agg s.cs.toArray), (2, .int .i64 tl), (3, .pointer (some ⟨g3, 0, none⟩)), (4, .pointer (some ⟨g4, 0, none⟩)), (6, .pointer (some ⟨g6, 0, none⟩)), (7, .int .i64 0), (11, .bool false), (14, .bool false), (24, .bool true)] := F.keep ⟨rfl, rfl, rfl, rfl, rfl, rfl, rfl, rfl, rfl, rfl, trivial⟩
   refine then_n ?_
   refine wp_cond_true (F.e rfl) ?_
   refine wp_seq ?_
   refine wp_region_lit ?_
   refine list_val F (wn rfl) rfl rfl (.agg #[.slice none 0 0, .int .u64 0]) (ex_build 69 _ rfl #[] parts0 (.agg #[.slice none 0 0, .int .u64 0]) (build69_0 _)) ?_; clear F a; intro a F
   refine list_do (wn rfl) (fun K hK => ?_)
   refine ow_put F M rfl 69 _ _ rfl 0 _ #[.slice none 0 0, .int .u64 0] _ rfl (F.e rfl) #[.slice none 0 0, .int .u64 0] (F.e rfl) (sz_row (m := 2) rb_row_69_2) rfl (by simp [Value.oneCell']) ?_
   clear F a; have Mo := M; clear M; intro a v F M hgr
   refine hK _ _ ?_
   clear hK K
   clear Mo hgr; try clear u
   replace M : Mm w v [⟨g6, #[.slice none 0 0, .int .u64 0], 69⟩, ⟨g4, s.cs.toArray, 70⟩, ⟨g3, #[.slice A ks.length c, .int .u64 next], 69⟩] := M
   refine list_val F (wn rfl) rfl rfl (.int .i64 51) (ex_assign _ rfl _ rfl) ?_; clear F a; intro a F
   refine wpList_nil ?_
   replace F : Fr 51 a [(0, .agg #[.slice A ks.length c, .int .u64 next]), (1, .agg s.cs.toArray), (2, .int .i64 tl), (3, .pointer (some ⟨g3, 0, none⟩)), (4, .pointer (some ⟨g4, 0, none⟩)), (6, .pointer (some ⟨g6, 0, none⟩)), (7, .int .i64 51), (11, .bool false), (14, .bool false), (24, .bool true)] := F.keep ⟨rfl, rfl, rfl, rfl, rfl, rfl, rfl, rfl, rfl, rfl, trivial⟩
   refine then_n ?_
   refine wp_ret ?_
   refine then_r ?_
   rw [rotate_full hk hu (.inr hx)]
   exact ret_c2 (v := .agg #[.slice none 0 0, .int .u64 0]) F rfl rfl rfl (lvr (cs := [.slice none 0 0, .int .u64 0]) rb_row_69_2 (M.at (i := 0) rfl)) ⟨none, 0, rfl, nil_own _ _, M.bel⟩
  refine wp_region_lit ?_
  refine list_val F (wn rfl) rfl rfl (.pointer (some ⟨g3, 0, none⟩)) (ex_fa _ _ _ rfl _ (F.e rfl) 0 rb_fa_69_0_0 ⟨g3, 0, none⟩ rfl) ?_; clear F a; intro a F
  refine list_val F (wn rfl) rfl rfl (.slice A ks.length c) (ex_load _ _ rfl _ (F.e rfl) _ (lv1 rb_one_55 (M.cell (i := 2) rfl (j := 0) rfl))) ?_; clear F a; intro a F
  refine list_val F (wn rfl) rfl rfl (.int .i64 ((ks.length : Nat) : Int)) (ex_len _ _ rfl 34 rb_sl_55_34 _ _ _ (F.e rfl)) ?_; clear F a; intro a F
  refine list_val F (wn rfl) rfl rfl (.bool false) (ex_bin .geq _ _ _ _ rfl .i64 _ _ (F.e rfl) rfl _ (b_geq (decide_eq_false (by omega)))) ?_; clear F a; intro a F
  refine list_val F (wn rfl) rfl rfl (.bool false) (ex_move _ rfl _ (F.e rfl)) ?_; clear F a; intro a F
  refine list_val F (F.wants 20 false rfl (by kernel_rfl) rfl true rfl) rfl rfl (.pointer (some ⟨g3, 1, none⟩)) (ex_fa _ _ _ rfl _ (F.e rfl) 1 rb_fa_69_1_1 ⟨g3, 1, none⟩ rfl) ?_; clear F a; intro a F
  refine list_val F (F.wants 20 false rfl (by kernel_rfl) rfl true rfl) rfl rfl (.int .u64 next) (ex_load _ _ rfl _ (F.e rfl) _ (lv1 rb_one_67 (M.cell (i := 2) rfl (j := 1) rfl))) ?_; clear F a; intro a F
  refine list_val F (F.wants 20 false rfl (by kernel_rfl) rfl true rfl) rfl rfl (.bool false) (ex_bin .geq _ _ _ _ rfl .u64 _ _ (F.e rfl) rfl _ (b_geq (decide_eq_false hx))) ?_; clear F a; intro a F
  refine list_val F (wn rfl) rfl rfl (.bool false) (ex_pick_f _ _ _ rfl (F.e rfl) _ (F.e rfl)) ?_; clear F a; intro a F
  refine wpList_nil ?_
  replace F : Fr 51 a [(0, .agg #[.slice A ks.length c, .int .u64 next]), (1, .agg s.cs.toArray), (2, .int .i64 tl), (3, .pointer (some ⟨g3, 0, none⟩)), (4, .pointer (some ⟨g4, 0, none⟩)), (6, .pointer (some ⟨g6, 0, none⟩)), (7, .int .i64 0), (11, .bool false), (14, .bool false), (24, .bool false)] := F.keep ⟨rfl, rfl, rfl, rfl, rfl, rfl, rfl, rfl, rfl, rfl, trivial⟩
  refine then_n ?_
  refine wp_cond_false (F.e rfl) ?_
  refine wp_skip ?_
  refine then_n ?_
  refine wp_seq ?_
  refine wp_region_lit ?_
  refine list_val F (wn rfl) rfl rfl (.agg #[.slice A ks.length c, .int .u64 next]) (ex_load _ _ rfl _ (F.e rfl) _ (lvr (cs := [.slice A ks.length c, .int .u64 next]) rb_row_69_2 (M.at (i := 2) rfl))) ?_; clear F a; intro a F
  refine list_do (wn rfl) (fun K hK => ?_)
  have hcl := Kd.C_below hr M.bel
  refine ow_call rfl rfl F 18 #[.agg #[.slice A ks.length c, .int .u64 next]] (ex_call 18 _ _ rfl rfl rb_ent_18 _ (map1 (F.e rfl))) (copyRing_own ks _ c next _ hcl hc (by omega)) (fun e v hR => ?_)
  obtain ⟨A_27, c_27, he, O_x, hb⟩ := hR
  obtain ⟨gr, sp, rfl, _, M1, hcap, hqc, hcm, hgr0⟩ := Mm.adopt M hb O_x (by omega)
  refine ⟨.agg #[.slice (some ⟨gr, 0, none⟩) ks.length c_27, .int .u64 next], he, ?_⟩; clear he F a; intro a F
  refine hK _ _ ?_
  clear hK K
  replace M := M.below hb; clear hb; try clear u
  replace M := M1; clear M1 O_x hcl hgr0
  refine list_do (wn rfl) (fun K hK => ?_)
  refine ow_alloc F M rfl rfl 69 rfl (.agg #[.slice none 0 0, .int .u64 0]) z69 #[.slice none 0 0, .int .u64 0] rfl ?_
  clear F M a; intro a g8 u F M hb hg
  refine hK _ _ ?_
  clear hK K
  clear hb hg; try clear v
  refine list_do (wn rfl) (fun K hK => ?_)
  refine ow_put F M rfl 69 _ _ rfl 0 _ #[.slice none 0 0, .int .u64 0] _ rfl (F.e rfl) #[.slice (some ⟨gr, 0, none⟩) ks.length c_27, .int .u64 next] (F.e rfl) (sz_row (m := 2) rb_row_69_2) rfl (by simp [Value.oneCell']) ?_
  clear F a; have Mo := M; clear M; intro a v F M hgr
  refine hK _ _ ?_
  clear hK K
  clear Mo hgr; try clear u
  replace M : Mm w v [⟨g8, #[.slice (some ⟨gr, 0, none⟩) ks.length c_27, .int .u64 next], 69⟩, ⟨gr, ((ks.flatMap Key.cs ++ sp).toArray), 107⟩, ⟨g6, #[.slice none 0 0, .int .u64 0], 69⟩, ⟨g4, s.cs.toArray, 70⟩, ⟨g3, #[.slice A ks.length c, .int .u64 next], 69⟩] := M
  refine wpList_nil ?_
  replace F : Fr 51 a [(0, .agg #[.slice A ks.length c, .int .u64 next]), (1, .agg s.cs.toArray), (2, .int .i64 tl), (3, .pointer (some ⟨g3, 0, none⟩)), (4, .pointer (some ⟨g4, 0, none⟩)), (6, .pointer (some ⟨g6, 0, none⟩)), (7, .int .i64 0), (8, .pointer (some ⟨g8, 0, none⟩)), (11, .bool false), (14, .bool false), (24, .bool false)] := F.keep ⟨rfl, rfl, rfl, rfl, rfl, rfl, rfl, rfl, rfl, rfl, rfl, trivial⟩
  refine then_n ?_
  refine wp_seq ?_
  refine wp_region_lit ?_
  refine list_val F (wn rfl) rfl rfl (.pointer (some ⟨g8, 0, none⟩)) (ex_fa _ _ _ rfl _ (F.e rfl) 0 rb_fa_69_0_0 ⟨g8, 0, none⟩ rfl) ?_; clear F a; intro a F
  refine list_val F (wn rfl) rfl rfl (.slice (some ⟨gr, 0, none⟩) ks.length c_27) (ex_load _ _ rfl _ (F.e rfl) _ (lv1 rb_one_55 (M.cell (i := 0) rfl (j := 0) rfl))) ?_; clear F a; intro a F
  refine list_val F (wn rfl) rfl rfl (.pointer (some ⟨g8, 0, none⟩)) (ex_fa _ _ _ rfl _ (F.e rfl) 0 rb_fa_69_0_0 ⟨g8, 0, none⟩ rfl) ?_; clear F a; intro a F
  refine list_val F (wn rfl) rfl rfl (.slice (some ⟨gr, 0, none⟩) ks.length c_27) (ex_load _ _ rfl _ (F.e rfl) _ (lv1 rb_one_55 (M.cell (i := 0) rfl (j := 0) rfl))) ?_; clear F a; intro a F
  refine list_val F (wn rfl) rfl rfl (.int .i64 ((ks.length : Nat) : Int)) (ex_len _ _ rfl 34 rb_sl_55_34 _ _ _ (F.e rfl)) ?_; clear F a; intro a F
  refine list_val F (wn rfl) rfl rfl (.int .i64 m) (ex_bin .sub _ _ _ _ rfl .i64 _ _ (F.e rfl) rfl _ (b_sub ((w_i64 (by omega) (by omega)).trans (by omega)))) ?_; clear F a; intro a F
  refine list_val F (wn rfl) rfl rfl (.int .i64 tl) (ex_move _ rfl _ (F.e rfl)) ?_; clear F a; intro a F
  refine list_val F (wn rfl) rfl rfl (.pointer (some ⟨gr, m * 34, none⟩)) (ex_ix _ _ _ rfl 34 rb_sl_55_34 ⟨gr, 0, none⟩ _ _ (F.e rfl) .i64 _ (F.e rfl) m rfl (by omega) ⟨gr, m * 34, none⟩ ((addr_add _ _ _).trans (by rw [Nat.zero_add]))) ?_; clear F a; intro a F
  refine list_val F (wn rfl) rfl rfl (.pointer (some ⟨gr, m * 34 + 33, none⟩)) (ex_fa _ _ _ rfl _ (F.e rfl) 33 rb_fa_107_2_33 ⟨gr, m * 34 + 33, none⟩ rfl) ?_; clear F a; intro a F
  refine list_do (wn rfl) (fun K hK => ?_)
  refine ow_store F M rfl 2 _ _ rfl 1 gr _ _ rfl (m * 34 + 33) (F.e rfl) _ (F.e rfl) [.int .i64 tl] rfl rb_info_2_map_size_some_1 (by rw [List.size_toArray, List.length_append, rows_len Key.cs_len]; simp; omega) (by simp [Value.oneCell']) (((rotK ks tl).flatMap Key.cs ++ sp).toArray) (congrArg List.toArray (by rw [rot_eq hm]; exact rows_set (vs := [.int .i64 tl]) Key.cs_len hmk (by simp) (Key.set_33 _ _))) ?_
  clear F a; have Mo := M; clear M; intro a u F M hgr
  refine hK _ _ ?_
  clear hK K
  clear Mo hgr; try clear v
  replace M : Mm w u [⟨g8, #[.slice (some ⟨gr, 0, none⟩) ks.length c_27, .int .u64 next], 69⟩, ⟨gr, (((rotK ks tl).flatMap Key.cs ++ sp).toArray), 107⟩, ⟨g6, #[.slice none 0 0, .int .u64 0], 69⟩, ⟨g4, s.cs.toArray, 70⟩, ⟨g3, #[.slice A ks.length c, .int .u64 next], 69⟩] := M
  refine wpList_nil ?_
  replace F : Fr 51 a [(0, .agg #[.slice A ks.length c, .int .u64 next]), (1, .agg s.cs.toArray), (2, .int .i64 tl), (3, .pointer (some ⟨g3, 0, none⟩)), (4, .pointer (some ⟨g4, 0, none⟩)), (6, .pointer (some ⟨g6, 0, none⟩)), (7, .int .i64 0), (8, .pointer (some ⟨g8, 0, none⟩)), (11, .bool false), (14, .bool false), (24, .bool false)] := F.keep ⟨rfl, rfl, rfl, rfl, rfl, rfl, rfl, rfl, rfl, rfl, rfl, trivial⟩
  refine then_n ?_
  refine wp_seq ?_
  refine wp_region_lit ?_
  refine list_val F (wn rfl) rfl rfl (.pointer (some ⟨g8, 0, none⟩)) (ex_fa _ _ _ rfl _ (F.e rfl) 0 rb_fa_69_0_0 ⟨g8, 0, none⟩ rfl) ?_; clear F a; intro a F
  refine list_val F (wn rfl) rfl rfl (.slice (some ⟨gr, 0, none⟩) ks.length c_27) (ex_load _ _ rfl _ (F.e rfl) _ (lv1 rb_one_55 (M.cell (i := 0) rfl (j := 0) rfl))) ?_; clear F a; intro a F
  refine list_val F (wn rfl) rfl rfl (.pointer (some ⟨g3, 1, none⟩)) (ex_fa _ _ _ rfl _ (F.e rfl) 1 rb_fa_69_1_1 ⟨g3, 1, none⟩ rfl) ?_; clear F a; intro a F
  refine list_val F (wn rfl) rfl rfl (.int .u64 next) (ex_load _ _ rfl _ (F.e rfl) _ (lv1 rb_one_67 (M.cell (i := 4) rfl (j := 1) rfl))) ?_; clear F a; intro a F
  refine list_val F (wn rfl) rfl rfl (.agg s.cs.toArray) (ex_load _ _ rfl _ (F.e rfl) _ (lvr (cs := s.cs) (by rw [Bs.cs_len]; exact rb_row_70_32) (M.at (i := 3) rfl))) ?_; clear F a; intro a F
  refine list_val F (wn rfl) rfl rfl (.agg ((⟨next, s, 0⟩ : Key).arr)) (ex_build 107 _ rfl #[(0, .int .u64 next), (1, .agg s.cs.toArray)] (parts2 (F.e rfl) (F.e rfl)) (.agg ((⟨next, s, 0⟩ : Key).arr)) (build107 next s _)) ?_; clear F a; intro a F
  refine list_do (wn rfl) (fun K hK => ?_)
  refine ow_bslice F M rfl rfl 55 1 _ rfl #[(0, .agg ((⟨next, s, 0⟩ : Key).arr))] (parts1 (F.e rfl)) ((⟨next, s, 0⟩ : Key).arr) 107 (newKeys (⟨next, s, 0⟩ : Key) _) ?_
  clear F M a; intro a g43 v F M hb hg
  refine hK _ _ ?_
  clear hK K
  clear hb hg; try clear u
  refine list_do (wn rfl) (fun K hK => ?_)
  refine ow_append F M rfl rfl _ _ 55 107 34 48 rfl rb_ap_55_107_34_48 2 gr ((rotK ks tl).flatMap Key.cs) sp rfl ks.length c_27 (F.e rfl) (by rw [rows_len Key.cs_len, rotK_len]) (by rw [List.length_append, rows_len Key.cs_len] at hcap ⊢; rw [rotK_len]; exact hcap) hqc hcm ⟨g43, 0, none⟩ 1 1 ((⟨next, s, 0⟩ : Key).cs) (F.e rfl) (Key.cs_len _) (M.at (i := 0) rfl) (Key.cs_one _) (by simp only [maxLen]; omega) (by omega) ?_
  clear F a; have Mo := M; clear M; intro a ga_44 ca_44 sp_44 u F M hcap' hqc' hcm' hgr
  refine hK _ _ ?_
  clear hK K
  clear Mo hgr hcap hqc hcm; try clear v
  rw [keys_push] at M hcap'
  refine list_val F (wn rfl) rfl rfl (.pointer (some ⟨g8, 0, none⟩)) (ex_fa _ _ _ rfl _ (F.e rfl) 0 rb_fa_69_0_0 ⟨g8, 0, none⟩ rfl) ?_; clear F a; intro a F
  refine list_do (wn rfl) (fun K hK => ?_)
  refine ow_store F M rfl 55 _ _ rfl 1 g8 _ _ rfl 0 (F.e rfl) _ (F.e rfl) [.slice (some ⟨ga_44, 0, none⟩) (ks.length + 1) ca_44] rfl rb_info_55_map_size_some_1 (by simp) (by simp [Value.oneCell']) #[.slice (some ⟨ga_44, 0, none⟩) (ks.length + 1) ca_44, .int .u64 next] rfl ?_
  clear F a; have Mo := M; clear M; intro a v F M hgr
  refine hK _ _ ?_
  clear hK K
  clear Mo hgr; try clear u
  replace M : Mm w v [⟨g43, ((⟨next, s, 0⟩ : Key).arr), 107⟩, ⟨g8, #[.slice (some ⟨ga_44, 0, none⟩) (ks.length + 1) ca_44, .int .u64 next], 69⟩, ⟨ga_44, ((((rotK ks tl) ++ [(⟨next, s, 0⟩ : Key)]).flatMap Key.cs ++ sp_44).toArray), 107⟩, ⟨g6, #[.slice none 0 0, .int .u64 0], 69⟩, ⟨g4, s.cs.toArray, 70⟩, ⟨g3, #[.slice A ks.length c, .int .u64 next], 69⟩] := M
  refine wpList_nil ?_
  replace F : Fr 51 a [(0, .agg #[.slice A ks.length c, .int .u64 next]), (1, .agg s.cs.toArray), (2, .int .i64 tl), (3, .pointer (some ⟨g3, 0, none⟩)), (4, .pointer (some ⟨g4, 0, none⟩)), (6, .pointer (some ⟨g6, 0, none⟩)), (7, .int .i64 0), (8, .pointer (some ⟨g8, 0, none⟩)), (11, .bool false), (14, .bool false), (24, .bool false)] := F.keep ⟨rfl, rfl, rfl, rfl, rfl, rfl, rfl, rfl, rfl, rfl, rfl, trivial⟩
  refine then_n ?_
  refine wp_seq ?_
  refine wp_region_lit ?_
  refine list_val F (wn rfl) rfl rfl (.pointer (some ⟨g3, 1, none⟩)) (ex_fa _ _ _ rfl _ (F.e rfl) 1 rb_fa_69_1_1 ⟨g3, 1, none⟩ rfl) ?_; clear F a; intro a F
  refine list_val F (wn rfl) rfl rfl (.int .u64 next) (ex_load _ _ rfl _ (F.e rfl) _ (lv1 rb_one_67 (M.cell (i := 5) rfl (j := 1) rfl))) ?_; clear F a; intro a F
  refine list_val F (wn rfl) rfl rfl (.int .u64 (next + 1)) (ex_bin .add _ _ _ _ rfl .u64 _ _ (F.e rfl) rfl _ (b_add (w_u64 (by omega) (by omega)))) ?_; clear F a; intro a F
  refine list_val F (wn rfl) rfl rfl (.pointer (some ⟨g8, 1, none⟩)) (ex_fa _ _ _ rfl _ (F.e rfl) 1 rb_fa_69_1_1 ⟨g8, 1, none⟩ rfl) ?_; clear F a; intro a F
  refine list_do (wn rfl) (fun K hK => ?_)
  refine ow_store F M rfl 67 _ _ rfl 1 g8 _ _ rfl 1 (F.e rfl) _ (F.e rfl) [.int .u64 (next + 1)] rfl rb_info_67_map_size_some_1 (by simp) (by simp [Value.oneCell']) #[.slice (some ⟨ga_44, 0, none⟩) (ks.length + 1) ca_44, .int .u64 (next + 1)] rfl ?_
  clear F a; have Mo := M; clear M; intro a u F M hgr
  refine hK _ _ ?_
  clear hK K
  clear Mo hgr; try clear v
  replace M : Mm w u [⟨g43, ((⟨next, s, 0⟩ : Key).arr), 107⟩, ⟨g8, #[.slice (some ⟨ga_44, 0, none⟩) (ks.length + 1) ca_44, .int .u64 (next + 1)], 69⟩, ⟨ga_44, ((((rotK ks tl) ++ [(⟨next, s, 0⟩ : Key)]).flatMap Key.cs ++ sp_44).toArray), 107⟩, ⟨g6, #[.slice none 0 0, .int .u64 0], 69⟩, ⟨g4, s.cs.toArray, 70⟩, ⟨g3, #[.slice A ks.length c, .int .u64 next], 69⟩] := M
  refine wpList_nil ?_
  replace F : Fr 51 a [(0, .agg #[.slice A ks.length c, .int .u64 next]), (1, .agg s.cs.toArray), (2, .int .i64 tl), (3, .pointer (some ⟨g3, 0, none⟩)), (4, .pointer (some ⟨g4, 0, none⟩)), (6, .pointer (some ⟨g6, 0, none⟩)), (7, .int .i64 0), (8, .pointer (some ⟨g8, 0, none⟩)), (11, .bool false), (14, .bool false), (24, .bool false)] := F.keep ⟨rfl, rfl, rfl, rfl, rfl, rfl, rfl, rfl, rfl, rfl, rfl, trivial⟩
  refine then_n ?_
  refine wp_seq ?_
  refine wp_region_lit ?_
  refine list_val F (wn rfl) rfl rfl (.agg #[.slice (some ⟨ga_44, 0, none⟩) (ks.length + 1) ca_44, .int .u64 (next + 1)]) (ex_load _ _ rfl _ (F.e rfl) _ (lvr (cs := [.slice (some ⟨ga_44, 0, none⟩) (ks.length + 1) ca_44, .int .u64 (next + 1)]) rb_row_69_2 (M.at (i := 1) rfl))) ?_; clear F a; intro a F
  refine list_do (wn rfl) (fun K hK => ?_)
  refine ow_put F M rfl 69 _ _ rfl 3 _ #[.slice none 0 0, .int .u64 0] _ rfl (F.e rfl) #[.slice (some ⟨ga_44, 0, none⟩) (ks.length + 1) ca_44, .int .u64 (next + 1)] (F.e rfl) (sz_row (m := 2) rb_row_69_2) rfl (by simp [Value.oneCell']) ?_
  clear F a; have Mo := M; clear M; intro a v F M hgr
  refine hK _ _ ?_
  clear hK K
  clear Mo hgr; try clear u
  replace M : Mm w v [⟨g43, ((⟨next, s, 0⟩ : Key).arr), 107⟩, ⟨g8, #[.slice (some ⟨ga_44, 0, none⟩) (ks.length + 1) ca_44, .int .u64 (next + 1)], 69⟩, ⟨ga_44, ((((rotK ks tl) ++ [(⟨next, s, 0⟩ : Key)]).flatMap Key.cs ++ sp_44).toArray), 107⟩, ⟨g6, #[.slice (some ⟨ga_44, 0, none⟩) (ks.length + 1) ca_44, .int .u64 (next + 1)], 69⟩, ⟨g4, s.cs.toArray, 70⟩, ⟨g3, #[.slice A ks.length c, .int .u64 next], 69⟩] := M
  refine list_val F (wn rfl) rfl rfl (.int .i64 0) (ex_assign _ rfl _ rfl) ?_; clear F a; intro a F
  refine wpList_nil ?_
  replace F : Fr 51 a [(0, .agg #[.slice A ks.length c, .int .u64 next]), (1, .agg s.cs.toArray), (2, .int .i64 tl), (3, .pointer (some ⟨g3, 0, none⟩)), (4, .pointer (some ⟨g4, 0, none⟩)), (6, .pointer (some ⟨g6, 0, none⟩)), (7, .int .i64 0), (8, .pointer (some ⟨g8, 0, none⟩)), (11, .bool false), (14, .bool false), (24, .bool false)] := F.keep ⟨rfl, rfl, rfl, rfl, rfl, rfl, rfl, rfl, rfl, rfl, rfl, trivial⟩
  refine then_n ?_
  refine wp_ret ?_
  have hln : (rotK ks tl ++ [(⟨next, s, 0⟩ : Key)]).length = ks.length + 1 := by rw [List.length_append, rotK_len]; rfl
  rw [rotate_yes hk hu hf hx]
  exact ret_c2 (v := .agg #[.slice (some ⟨ga_44, 0, none⟩) (ks.length + 1) ca_44, .int .u64 (next + 1)]) F rfl rfl rfl (lvr (cs := [.slice (some ⟨ga_44, 0, none⟩) (ks.length + 1) ca_44, .int .u64 (next + 1)]) rb_row_69_2 (M.at (i := 3) rfl)) ⟨some ⟨ga_44, 0, none⟩, ca_44, by rw [hln], (show OwnKeys _ _ (.slice _ (rotK ks tl ++ [(⟨next, s, 0⟩ : Key)]).length _) _ from (by rw [hln]; exact own_of_block (M.blk 2 _ rfl) (M.lo 2 _ rfl) hln.symm hqc' hcm' hcap')), M.bel⟩
 rw [Bool.not_eq_true] at hk
 refine wp_region_lit ?_
 refine list_val F (wn rfl) rfl rfl (.agg #[.slice A ks.length c, .int .u64 next]) (ex_load _ _ rfl _ (F.e rfl) _ (lvr (cs := [.slice A ks.length c, .int .u64 next]) rb_row_69_2 (M.at (i := 2) rfl))) ?_; clear F a; intro a F
 refine list_do (wn rfl) (fun K hK => ?_)
 have hcl := Kd.C_below hr M.bel
 refine ow_call rfl rfl F 33 #[.agg #[.slice A ks.length c, .int .u64 next]] (ex_call 33 _ _ rfl rfl rb_ent_33 _ (map1 (F.e rfl))) (refCheck_any ks _ c next _ hcl hc) (fun e u hR => ?_)
 obtain ⟨he, hb⟩ := hR
 refine ⟨.int .i64 (errK ks next), he, ?_⟩; clear he F a; intro a F
 refine hK _ _ ?_
 clear hK K
 replace M := M.below hb; clear hb; try clear v
 clear hcl
 refine list_val F (wn rfl) rfl rfl (.bool true) (ex_bin .neq _ _ _ _ rfl .i64 _ _ (F.e rfl) rfl _ (b_neq (by rw [errK_no hk]; decide))) ?_; clear F a; intro a F
 refine wpList_nil ?_
 replace F : Fr 51 a [(0, .agg #[.slice A ks.length c, .int .u64 next]), (1, .agg s.cs.toArray), (2, .int .i64 tl), (3, .pointer (some ⟨g3, 0, none⟩)), (4, .pointer (some ⟨g4, 0, none⟩)), (6, .pointer (some ⟨g6, 0, none⟩)), (7, .int .i64 0), (11, .bool true)] := F.keep ⟨rfl, rfl, rfl, rfl, rfl, rfl, rfl, rfl, trivial⟩
 refine then_n ?_
 refine wp_cond_true (F.e rfl) ?_
 refine wp_seq ?_
 refine wp_region_lit ?_
 refine list_val F (wn rfl) rfl rfl (.agg #[.slice none 0 0, .int .u64 0]) (ex_build 69 _ rfl #[] parts0 (.agg #[.slice none 0 0, .int .u64 0]) (build69_0 _)) ?_; clear F a; intro a F
 refine list_do (wn rfl) (fun K hK => ?_)
 refine ow_put F M rfl 69 _ _ rfl 0 _ #[.slice none 0 0, .int .u64 0] _ rfl (F.e rfl) #[.slice none 0 0, .int .u64 0] (F.e rfl) (sz_row (m := 2) rb_row_69_2) rfl (by simp [Value.oneCell']) ?_
 clear F a; have Mo := M; clear M; intro a v F M hgr
 refine hK _ _ ?_
 clear hK K
 clear Mo hgr; try clear u
 replace M : Mm w v [⟨g6, #[.slice none 0 0, .int .u64 0], 69⟩, ⟨g4, s.cs.toArray, 70⟩, ⟨g3, #[.slice A ks.length c, .int .u64 next], 69⟩] := M
 refine list_val F (wn rfl) rfl rfl (.int .i64 50) (ex_assign _ rfl _ rfl) ?_; clear F a; intro a F
 refine wpList_nil ?_
 replace F : Fr 51 a [(0, .agg #[.slice A ks.length c, .int .u64 next]), (1, .agg s.cs.toArray), (2, .int .i64 tl), (3, .pointer (some ⟨g3, 0, none⟩)), (4, .pointer (some ⟨g4, 0, none⟩)), (6, .pointer (some ⟨g6, 0, none⟩)), (7, .int .i64 50), (11, .bool true)] := F.keep ⟨rfl, rfl, rfl, rfl, rfl, rfl, rfl, rfl, trivial⟩
 refine then_n ?_
 refine wp_ret ?_
 refine then_r ?_
 rw [rotate_bad hk]
 exact ret_c2 (v := .agg #[.slice none 0 0, .int .u64 0]) F rfl rfl rfl (lvr (cs := [.slice none 0 0, .int .u64 0]) rb_row_69_2 (M.at (i := 0) rfl)) ⟨none, 0, rfl, nil_own _ _, M.bel⟩
theorem rb_ent_37 : ent? Try.prog 37 = true := by kernel_rfl
theorem rb_fa_107_0_0 : fa? Try.prog 107 0 0 = true := by kernel_rfl
set_option maxHeartbeats 1000000 in
set_option maxRecDepth 100000 in
theorem refDistrust_own (ks : List Key) (A : Option Addr) (c : Nat) (next kid : Int) (s : Bs 32) (w : World) (hr : kKey.C w A ks.length ks) (hc : ks.length ≤ c) (hn : 0 ≤ next) :
    Calls Try.prog 15 #[.agg #[.slice A ks.length c, .int .u64 next], .int .u64 kid, .agg s.cs.toArray] w fun e w' => TellsF2 e w w' (distrustF ⟨ks, next⟩ kid s).1 (distrustF ⟨ks, next⟩ kid s).2 := by
 refine calls_start Try.func15 rfl rfl rfl (fun a F => ?_)
 have M : Mm w w [] := Mm.nil w
 refine wp_seq ?_
 refine wp_region_lit ?_
 refine list_do (wn rfl) (fun K hK => ?_)
 refine ow_box F M rfl rfl 69 _ rfl _ (F.e rfl) #[.slice A ks.length c, .int .u64 next] rfl ?_
 clear F M a; intro a g3 v F M hb hg
 refine hK _ _ ?_
 clear hK K
 clear hb hg; try clear w
 refine list_do (wn rfl) (fun K hK => ?_)
 refine ow_box F M rfl rfl 70 _ rfl _ (F.e rfl) s.cs.toArray rfl ?_
 clear F M a; intro a g5 u F M hb hg
 refine hK _ _ ?_
 clear hK K
 clear hb hg; try clear v
 refine list_do (wn rfl) (fun K hK => ?_)
 refine ow_alloc F M rfl rfl 69 rfl (.agg #[.slice none 0 0, .int .u64 0]) z69 #[.slice none 0 0, .int .u64 0] rfl ?_
 clear F M a; intro a g6 v F M hb hg
 refine hK _ _ ?_
 clear hK K
 clear hb hg; try clear u
 refine list_val F (wn rfl) rfl rfl (.int .i64 0) (ex_assign _ rfl _ rfl) ?_; clear F a; intro a F
 refine wpList_nil ?_
 replace F : Fr 87 a [(0, .agg #[.slice A ks.length c, .int .u64 next]), (1, .int .u64 kid), (2, .agg s.cs.toArray), (3, .pointer (some ⟨g3, 0, none⟩)), (5, .pointer (some ⟨g5, 0, none⟩)), (6, .pointer (some ⟨g6, 0, none⟩)), (7, .int .i64 0)] := F.keep ⟨rfl, rfl, rfl, rfl, rfl, rfl, rfl, trivial⟩
 refine then_n ?_
 refine wp_seq ?_
 refine wp_seq ?_
 by_cases hk : checkK ks next = true
 ·
  obtain ⟨h1, h8, hmx⟩ := check_len hk
  obtain ⟨m, hm⟩ : ∃ m, ks.length = m + 1 := ⟨ks.length - 1, by omega⟩
  obtain ⟨adr, rfl, _⟩ := at_Key hr 0 (by omega) (by omega)
  obtain ⟨_, had, zm, _, _⟩ := at_Key hr (m : Int) (by omega) (by omega)
  obtain rfl := Option.some.inj had
  clear had
  rw [show (m : Int).toNat = m from rfl] at zm
  refine wp_region_lit ?_
  refine list_val F (wn rfl) rfl rfl (.agg #[.slice (some adr) ks.length c, .int .u64 next]) (ex_load _ _ rfl _ (F.e rfl) _ (lvr (cs := [.slice (some adr) ks.length c, .int .u64 next]) rb_row_69_2 (M.at (i := 2) rfl))) ?_; clear F a; intro a F
  refine list_do (wn rfl) (fun K hK => ?_)
  have hcl := Kd.C_below hr M.bel
  refine ow_call rfl rfl F 33 #[.agg #[.slice (some adr) ks.length c, .int .u64 next]] (ex_call 33 _ _ rfl rfl rb_ent_33 _ (map1 (F.e rfl))) (refCheck_any ks _ c next _ hcl hc) (fun e u hR => ?_)
  obtain ⟨he, hb⟩ := hR
  refine ⟨.int .i64 (errK ks next), he, ?_⟩; clear he F a; intro a F
  refine hK _ _ ?_
  clear hK K
  replace M := M.below hb; clear hb; try clear v
  clear hcl
  refine list_val F (wn rfl) rfl rfl (.bool false) (ex_bin .neq _ _ _ _ rfl .i64 _ _ (F.e rfl) rfl _ (b_neq (by rw [errK_yes hk]; decide))) ?_; clear F a; intro a F
  refine wpList_nil ?_
  replace F : Fr 87 a [(0, .agg #[.slice (some adr) ks.length c, .int .u64 next]), (1, .int .u64 kid), (2, .agg s.cs.toArray), (3, .pointer (some ⟨g3, 0, none⟩)), (5, .pointer (some ⟨g5, 0, none⟩)), (6, .pointer (some ⟨g6, 0, none⟩)), (7, .int .i64 0), (16, .bool false)] := F.keep ⟨rfl, rfl, rfl, rfl, rfl, rfl, rfl, rfl, trivial⟩
  refine then_n ?_
  refine wp_cond_false (F.e rfl) ?_
  refine wp_skip ?_
  refine then_n ?_
  refine wp_seq ?_
  by_cases hf : findF kid ks next = zKey
  ·
   refine wp_region_lit ?_
   refine list_val F (wn rfl) rfl rfl (.agg #[.slice (some adr) ks.length c, .int .u64 next]) (ex_load _ _ rfl _ (F.e rfl) _ (lvr (cs := [.slice (some adr) ks.length c, .int .u64 next]) rb_row_69_2 (M.at (i := 2) rfl))) ?_; clear F a; intro a F
   refine list_val F (wn rfl) rfl rfl (.int .u64 kid) (ex_move _ rfl _ (F.e rfl)) ?_; clear F a; intro a F
   refine list_do (wn rfl) (fun K hK => ?_)
   have hcl := Kd.C_below hr M.bel
   refine ow_call rfl rfl F 37 #[.agg #[.slice (some adr) ks.length c, .int .u64 next], .int .u64 kid] (ex_call 37 _ _ rfl rfl rb_ent_37 _ (map2 (F.e rfl) (F.e rfl))) (refFind_any kid ks _ c next _ hcl hc) (fun e v hR => ?_)
   obtain ⟨he, hb⟩ := hR
   rw [decide_eq_true hf] at he
   refine ⟨.tuple #[.agg ((findF kid ks next).arr), .bool false], he, ?_⟩; clear he F a; intro a F
   refine hK _ _ ?_
   clear hK K
   replace M := M.below hb; clear hb; try clear u
   clear hcl
   refine list_val F (wn rfl) rfl rfl (.tuple #[.agg ((findF kid ks next).arr), .bool false]) (ex_move _ rfl _ (F.e rfl)) ?_; clear F a; intro a F
   refine list_val F (wn rfl) rfl rfl (.agg ((findF kid ks next).arr)) (ex_extract _ _ rfl _ (F.e rfl) _ rfl) ?_; clear F a; intro a F
   refine list_val F (wn rfl) rfl rfl (.bool false) (ex_extract _ _ rfl _ (F.e rfl) _ rfl) ?_; clear F a; intro a F
   refine list_do (wn rfl) (fun K hK => ?_)
   refine ow_alloc F M rfl rfl 107 rfl (.agg zKey.arr) zero107 zKey.arr rfl ?_
   clear F M a; intro a g8 u F M hb hg
   refine hK _ _ ?_
   clear hK K
   clear hb hg; try clear v
   refine list_do (wn rfl) (fun K hK => ?_)
   refine ow_put F M rfl 107 _ _ rfl 0 _ zKey.arr _ rfl (F.e rfl) ((findF kid ks next).arr) (F.e rfl) (by rw [Key.arr_size]; exact info107) (by simp only [Key.arr_size]) (Key.arr_one _) ?_
   clear F a; have Mo := M; clear M; intro a v F M hgr
   refine hK _ _ ?_
   clear hK K
   clear Mo hgr; try clear u
   replace M : Mm w v [⟨g8, (findF kid ks next).arr, 107⟩, ⟨g6, #[.slice none 0 0, .int .u64 0], 69⟩, ⟨g5, s.cs.toArray, 70⟩, ⟨g3, #[.slice (some adr) ks.length c, .int .u64 next], 69⟩] := M
   refine list_val F (wn rfl) rfl rfl (.bool false) (ex_assign _ rfl _ (F.e rfl)) ?_; clear F a; intro a F
   refine wpList_nil ?_
   replace F : Fr 87 a [(0, .agg #[.slice (some adr) ks.length c, .int .u64 next]), (1, .int .u64 kid), (2, .agg s.cs.toArray), (3, .pointer (some ⟨g3, 0, none⟩)), (5, .pointer (some ⟨g5, 0, none⟩)), (6, .pointer (some ⟨g6, 0, none⟩)), (7, .int .i64 0), (9, .bool false), (16, .bool false)] := F.keep ⟨rfl, rfl, rfl, rfl, rfl, rfl, rfl, rfl, rfl, trivial⟩
   refine then_n ?_
   refine wp_seq ?_
   refine wp_seq ?_
   refine wp_region_lit ?_
   refine list_val F (wn rfl) rfl rfl (.bool false) (ex_move _ rfl _ (F.e rfl)) ?_; clear F a; intro a F
   refine list_val F (wn rfl) rfl rfl (.bool true) (ex_not _ _ rfl _ (F.e rfl) _ rfl) ?_; clear F a; intro a F
   refine wpList_nil ?_
   replace F : Fr 87 a [(0, .agg #[.slice (some adr) ks.length c, .int .u64 next]), (1, .int .u64 kid), (2, .agg s.cs.toArray), (3, .pointer (some ⟨g3, 0, none⟩)), (5, .pointer (some ⟨g5, 0, none⟩)), (6, .pointer (some ⟨g6, 0, none⟩)), (7, .int .i64 0), (9, .bool false), (16, .bool false), (25, .bool true)] := F.keep ⟨rfl, rfl, rfl, rfl, rfl, rfl, rfl, rfl, rfl, rfl, trivial⟩
   refine then_n ?_
   refine wp_cond_true (F.e rfl) ?_
   refine wp_seq ?_
   refine wp_region_lit ?_
   refine list_val F (wn rfl) rfl rfl (.agg #[.slice none 0 0, .int .u64 0]) (ex_build 69 _ rfl #[] parts0 (.agg #[.slice none 0 0, .int .u64 0]) (build69_0 _)) ?_; clear F a; intro a F
   refine list_do (wn rfl) (fun K hK => ?_)
   refine ow_put F M rfl 69 _ _ rfl 1 _ #[.slice none 0 0, .int .u64 0] _ rfl (F.e rfl) #[.slice none 0 0, .int .u64 0] (F.e rfl) (sz_row (m := 2) rb_row_69_2) rfl (by simp [Value.oneCell']) ?_
   clear F a; have Mo := M; clear M; intro a u F M hgr
   refine hK _ _ ?_
   clear hK K
   clear Mo hgr; try clear v
   replace M : Mm w u [⟨g8, (findF kid ks next).arr, 107⟩, ⟨g6, #[.slice none 0 0, .int .u64 0], 69⟩, ⟨g5, s.cs.toArray, 70⟩, ⟨g3, #[.slice (some adr) ks.length c, .int .u64 next], 69⟩] := M
   refine list_val F (wn rfl) rfl rfl (.int .i64 53) (ex_assign _ rfl _ rfl) ?_; clear F a; intro a F
   refine wpList_nil ?_
   replace F : Fr 87 a [(0, .agg #[.slice (some adr) ks.length c, .int .u64 next]), (1, .int .u64 kid), (2, .agg s.cs.toArray), (3, .pointer (some ⟨g3, 0, none⟩)), (5, .pointer (some ⟨g5, 0, none⟩)), (6, .pointer (some ⟨g6, 0, none⟩)), (7, .int .i64 53), (9, .bool false), (16, .bool false), (25, .bool true)] := F.keep ⟨rfl, rfl, rfl, rfl, rfl, rfl, rfl, rfl, rfl, rfl, trivial⟩
   refine then_n ?_
   refine wp_ret ?_
   refine then_r ?_
   rw [dis_kid hk hf]
   exact ret_c2 (v := .agg #[.slice none 0 0, .int .u64 0]) F rfl rfl rfl (lvr (cs := [.slice none 0 0, .int .u64 0]) rb_row_69_2 (M.at (i := 1) rfl)) ⟨none, 0, rfl, nil_own _ _, M.bel⟩
  refine wp_region_lit ?_
  refine list_val F (wn rfl) rfl rfl (.agg #[.slice (some adr) ks.length c, .int .u64 next]) (ex_load _ _ rfl _ (F.e rfl) _ (lvr (cs := [.slice (some adr) ks.length c, .int .u64 next]) rb_row_69_2 (M.at (i := 2) rfl))) ?_; clear F a; intro a F
  refine list_val F (wn rfl) rfl rfl (.int .u64 kid) (ex_move _ rfl _ (F.e rfl)) ?_; clear F a; intro a F
  refine list_do (wn rfl) (fun K hK => ?_)
  have hcl := Kd.C_below hr M.bel
  refine ow_call rfl rfl F 37 #[.agg #[.slice (some adr) ks.length c, .int .u64 next], .int .u64 kid] (ex_call 37 _ _ rfl rfl rb_ent_37 _ (map2 (F.e rfl) (F.e rfl))) (refFind_any kid ks _ c next _ hcl hc) (fun e v hR => ?_)
  obtain ⟨he, hb⟩ := hR
  rw [decide_eq_false hf] at he
  refine ⟨.tuple #[.agg ((findF kid ks next).arr), .bool true], he, ?_⟩; clear he F a; intro a F
  refine hK _ _ ?_
  clear hK K
  replace M := M.below hb; clear hb; try clear u
  clear hcl
  refine list_val F (wn rfl) rfl rfl (.tuple #[.agg ((findF kid ks next).arr), .bool true]) (ex_move _ rfl _ (F.e rfl)) ?_; clear F a; intro a F
  refine list_val F (wn rfl) rfl rfl (.agg ((findF kid ks next).arr)) (ex_extract _ _ rfl _ (F.e rfl) _ rfl) ?_; clear F a; intro a F
  refine list_val F (wn rfl) rfl rfl (.bool true) (ex_extract _ _ rfl _ (F.e rfl) _ rfl) ?_; clear F a; intro a F
  refine list_do (wn rfl) (fun K hK => ?_)
  refine ow_alloc F M rfl rfl 107 rfl (.agg zKey.arr) zero107 zKey.arr rfl ?_
  clear F M a; intro a g8 u F M hb hg
  refine hK _ _ ?_
  clear hK K
  clear hb hg; try clear v
  refine list_do (wn rfl) (fun K hK => ?_)
  refine ow_put F M rfl 107 _ _ rfl 0 _ zKey.arr _ rfl (F.e rfl) ((findF kid ks next).arr) (F.e rfl) (by rw [Key.arr_size]; exact info107) (by simp only [Key.arr_size]) (Key.arr_one _) ?_
  clear F a; have Mo := M; clear M; intro a v F M hgr
  refine hK _ _ ?_
  clear hK K
  clear Mo hgr; try clear u
  replace M : Mm w v [⟨g8, (findF kid ks next).arr, 107⟩, ⟨g6, #[.slice none 0 0, .int .u64 0], 69⟩, ⟨g5, s.cs.toArray, 70⟩, ⟨g3, #[.slice (some adr) ks.length c, .int .u64 next], 69⟩] := M
  refine list_val F (wn rfl) rfl rfl (.bool true) (ex_assign _ rfl _ (F.e rfl)) ?_; clear F a; intro a F
  refine wpList_nil ?_
  replace F : Fr 87 a [(0, .agg #[.slice (some adr) ks.length c, .int .u64 next]), (1, .int .u64 kid), (2, .agg s.cs.toArray), (3, .pointer (some ⟨g3, 0, none⟩)), (5, .pointer (some ⟨g5, 0, none⟩)), (6, .pointer (some ⟨g6, 0, none⟩)), (7, .int .i64 0), (9, .bool true), (16, .bool false)] := F.keep ⟨rfl, rfl, rfl, rfl, rfl, rfl, rfl, rfl, rfl, trivial⟩
  refine then_n ?_
  refine wp_seq ?_
  refine wp_seq ?_
  refine wp_region_lit ?_
  refine list_val F (wn rfl) rfl rfl (.bool true) (ex_move _ rfl _ (F.e rfl)) ?_; clear F a; intro a F
  refine list_val F (wn rfl) rfl rfl (.bool false) (ex_not _ _ rfl _ (F.e rfl) _ rfl) ?_; clear F a; intro a F
  refine wpList_nil ?_
  replace F : Fr 87 a [(0, .agg #[.slice (some adr) ks.length c, .int .u64 next]), (1, .int .u64 kid), (2, .agg s.cs.toArray), (3, .pointer (some ⟨g3, 0, none⟩)), (5, .pointer (some ⟨g5, 0, none⟩)), (6, .pointer (some ⟨g6, 0, none⟩)), (7, .int .i64 0), (9, .bool true), (16, .bool false), (25, .bool false)] := F.keep ⟨rfl, rfl, rfl, rfl, rfl, rfl, rfl, rfl, rfl, rfl, trivial⟩
  refine then_n ?_
  refine wp_cond_false (F.e rfl) ?_
  refine wp_skip ?_
  refine then_n ?_
  refine wp_seq ?_
  refine wp_region_lit ?_
  refine list_val F (wn rfl) rfl rfl (.pointer (some ⟨g3, 0, none⟩)) (ex_fa _ _ _ rfl _ (F.e rfl) 0 rb_fa_69_0_0 ⟨g3, 0, none⟩ rfl) ?_; clear F a; intro a F
  refine list_val F (wn rfl) rfl rfl (.slice (some adr) ks.length c) (ex_load _ _ rfl _ (F.e rfl) _ (lv1 rb_one_55 (M.cell (i := 3) rfl (j := 0) rfl))) ?_; clear F a; intro a F
  refine list_val F (wn rfl) rfl rfl (.int .i64 ((ks.length : Nat) : Int)) (ex_len _ _ rfl 34 rb_sl_55_34 _ _ _ (F.e rfl)) ?_; clear F a; intro a F
  refine list_val F (wn rfl) rfl rfl (.int .i64 ((ks.length : Nat) : Int)) (ex_assign _ rfl _ (F.e rfl)) ?_; clear F a; intro a F
  refine wpList_nil ?_
  replace F : Fr 87 a [(0, .agg #[.slice (some adr) ks.length c, .int .u64 next]), (1, .int .u64 kid), (2, .agg s.cs.toArray), (3, .pointer (some ⟨g3, 0, none⟩)), (5, .pointer (some ⟨g5, 0, none⟩)), (6, .pointer (some ⟨g6, 0, none⟩)), (7, .int .i64 0), (9, .bool true), (10, .int .i64 ((ks.length : Nat) : Int)), (16, .bool false), (25, .bool false)] := F.keep ⟨rfl, rfl, rfl, rfl, rfl, rfl, rfl, rfl, rfl, rfl, rfl, trivial⟩
  refine then_n ?_
  refine wp_seq ?_
  by_cases hcu : (rdK ks (m : Int)).kid = kid
  ·
   by_cases hx : 9223372036854775807 ≤ next
   ·
    refine wp_region_lit ?_
    refine list_val F (wn rfl) rfl rfl (.pointer (some ⟨g3, 0, none⟩)) (ex_fa _ _ _ rfl _ (F.e rfl) 0 rb_fa_69_0_0 ⟨g3, 0, none⟩ rfl) ?_; clear F a; intro a F
    refine list_val F (wn rfl) rfl rfl (.slice (some adr) ks.length c) (ex_load _ _ rfl _ (F.e rfl) _ (lv1 rb_one_55 (M.cell (i := 3) rfl (j := 0) rfl))) ?_; clear F a; intro a F
    refine list_val F (wn rfl) rfl rfl (.int .i64 ((ks.length : Nat) : Int)) (ex_move _ rfl _ (F.e rfl)) ?_; clear F a; intro a F
    refine list_val F (wn rfl) rfl rfl (.int .i64 m) (ex_bin .sub _ _ _ _ rfl .i64 _ _ (F.e rfl) rfl _ (b_sub ((w_i64 (by omega) (by omega)).trans (by omega)))) ?_; clear F a; intro a F
    refine list_val F (wn rfl) rfl rfl (.pointer (some (adr.add (m * 34)))) (ex_ix _ _ _ rfl 34 rb_sl_55_34 adr _ _ (F.e rfl) .i64 _ (F.e rfl) m rfl (by omega) (adr.add (m * 34)) rfl) ?_; clear F a; intro a F
    refine list_val F (wn rfl) rfl rfl (.pointer (some (adr.add (m * 34)))) (ex_fa _ _ _ rfl _ (F.e rfl) 0 rb_fa_107_0_0 (adr.add (m * 34)) rfl) ?_; clear F a; intro a F
    refine list_val F (wn rfl) rfl rfl (.int .u64 ((rdK ks (m : Int)).kid)) (ex_load _ _ rfl _ (F.e rfl) _ (lv1 rb_one_67 ((zm.below M.bel).cell 0 _ (Key.cs_0 _)))) ?_; clear F a; intro a F
    refine list_val F (wn rfl) rfl rfl (.int .u64 kid) (ex_move _ rfl _ (F.e rfl)) ?_; clear F a; intro a F
    refine list_val F (wn rfl) rfl rfl (.bool true) (ex_bin .eql _ _ _ _ rfl .u64 _ _ (F.e rfl) (F.e rfl) _ (b_eql (by simp [hcu]))) ?_; clear F a; intro a F
    refine list_val F (wn rfl) rfl rfl (.bool true) (ex_assign _ rfl _ (F.e rfl)) ?_; clear F a; intro a F
    refine wpList_nil ?_
    replace F : Fr 87 a [(0, .agg #[.slice (some adr) ks.length c, .int .u64 next]), (1, .int .u64 kid), (2, .agg s.cs.toArray), (3, .pointer (some ⟨g3, 0, none⟩)), (5, .pointer (some ⟨g5, 0, none⟩)), (6, .pointer (some ⟨g6, 0, none⟩)), (7, .int .i64 0), (9, .bool true), (10, .int .i64 ((ks.length : Nat) : Int)), (11, .bool true), (16, .bool false), (25, .bool false)] := F.keep ⟨rfl, rfl, rfl, rfl, rfl, rfl, rfl, rfl, rfl, rfl, rfl, rfl, trivial⟩
    refine then_n ?_
    refine wp_seq ?_
    refine wp_seq ?_
    refine wp_region_lit ?_
    refine list_val F (wn rfl) rfl rfl (.bool true) (ex_move _ rfl _ (F.e rfl)) ?_; clear F a; intro a F
    refine list_val F (wn rfl) rfl rfl (.bool true) (ex_move _ rfl _ (F.e rfl)) ?_; clear F a; intro a F
    refine list_val F (F.wants 40 true rfl (by kernel_rfl) rfl true rfl) rfl rfl (.pointer (some ⟨g3, 1, none⟩)) (ex_fa _ _ _ rfl _ (F.e rfl) 1 rb_fa_69_1_1 ⟨g3, 1, none⟩ rfl) ?_; clear F a; intro a F
    refine list_val F (F.wants 40 true rfl (by kernel_rfl) rfl true rfl) rfl rfl (.int .u64 next) (ex_load _ _ rfl _ (F.e rfl) _ (lv1 rb_one_67 (M.cell (i := 3) rfl (j := 1) rfl))) ?_; clear F a; intro a F
    refine list_val F (F.wants 40 true rfl (by kernel_rfl) rfl true rfl) rfl rfl (.bool true) (ex_bin .geq _ _ _ _ rfl .u64 _ _ (F.e rfl) rfl _ (b_geq (decide_eq_true hx))) ?_; clear F a; intro a F
    refine list_val F (wn rfl) rfl rfl (.bool true) (ex_pick_t _ _ _ rfl (F.e rfl) _ (F.e rfl)) ?_; clear F a; intro a F
    refine wpList_nil ?_
    replace F : Fr 87 a [(0, .agg #[.slice (some adr) ks.length c, .int .u64 next]), (1, .int .u64 kid), (2, .agg s.cs.toArray), (3, .pointer (some ⟨g3, 0, none⟩)), (5, .pointer (some ⟨g5, 0, none⟩)), (6, .pointer (some ⟨g6, 0, none⟩)), (7, .int .i64 0), (9, .bool true), (10, .int .i64 ((ks.length : Nat) : Int)), (11, .bool true), (16, .bool false), (25, .bool false), (44, .bool true)] := F.keep ⟨rfl, rfl, rfl, rfl, rfl, rfl, rfl, rfl, rfl, rfl, rfl, rfl, rfl, trivial⟩
    refine then_n ?_
    refine wp_cond_true (F.e rfl) ?_
    refine wp_seq ?_
    refine wp_region_lit ?_
    refine list_val F (wn rfl) rfl rfl (.agg #[.slice none 0 0, .int .u64 0]) (ex_build 69 _ rfl #[] parts0 (.agg #[.slice none 0 0, .int .u64 0]) (build69_0 _)) ?_; clear F a; intro a F
    refine list_do (wn rfl) (fun K hK => ?_)
    refine ow_put F M rfl 69 _ _ rfl 1 _ #[.slice none 0 0, .int .u64 0] _ rfl (F.e rfl) #[.slice none 0 0, .int .u64 0] (F.e rfl) (sz_row (m := 2) rb_row_69_2) rfl (by simp [Value.oneCell']) ?_
    clear F a; have Mo := M; clear M; intro a u F M hgr
    refine hK _ _ ?_
    clear hK K
    clear Mo hgr; try clear v
    replace M : Mm w u [⟨g8, (findF kid ks next).arr, 107⟩, ⟨g6, #[.slice none 0 0, .int .u64 0], 69⟩, ⟨g5, s.cs.toArray, 70⟩, ⟨g3, #[.slice (some adr) ks.length c, .int .u64 next], 69⟩] := M
    refine list_val F (wn rfl) rfl rfl (.int .i64 51) (ex_assign _ rfl _ rfl) ?_; clear F a; intro a F
    refine wpList_nil ?_
    replace F : Fr 87 a [(0, .agg #[.slice (some adr) ks.length c, .int .u64 next]), (1, .int .u64 kid), (2, .agg s.cs.toArray), (3, .pointer (some ⟨g3, 0, none⟩)), (5, .pointer (some ⟨g5, 0, none⟩)), (6, .pointer (some ⟨g6, 0, none⟩)), (7, .int .i64 51), (9, .bool true), (10, .int .i64 ((ks.length : Nat) : Int)), (11, .bool true), (16, .bool false), (25, .bool false), (44, .bool true)] := F.keep ⟨rfl, rfl, rfl, rfl, rfl, rfl, rfl, rfl, rfl, rfl, rfl, rfl, rfl, trivial⟩
    refine then_n ?_
    refine wp_ret ?_
    refine then_r ?_
    rw [dis_full hk hf hm hcu hx]
    exact ret_c2 (v := .agg #[.slice none 0 0, .int .u64 0]) F rfl rfl rfl (lvr (cs := [.slice none 0 0, .int .u64 0]) rb_row_69_2 (M.at (i := 1) rfl)) ⟨none, 0, rfl, nil_own _ _, M.bel⟩
   refine wp_region_lit ?_
   refine list_val F (wn rfl) rfl rfl (.pointer (some ⟨g3, 0, none⟩)) (ex_fa _ _ _ rfl _ (F.e rfl) 0 rb_fa_69_0_0 ⟨g3, 0, none⟩ rfl) ?_; clear F a; intro a F
   refine list_val F (wn rfl) rfl rfl (.slice (some adr) ks.length c) (ex_load _ _ rfl _ (F.e rfl) _ (lv1 rb_one_55 (M.cell (i := 3) rfl (j := 0) rfl))) ?_; clear F a; intro a F
   refine list_val F (wn rfl) rfl rfl (.int .i64 ((ks.length : Nat) : Int)) (ex_move _ rfl _ (F.e rfl)) ?_; clear F a; intro a F
   refine list_val F (wn rfl) rfl rfl (.int .i64 m) (ex_bin .sub _ _ _ _ rfl .i64 _ _ (F.e rfl) rfl _ (b_sub ((w_i64 (by omega) (by omega)).trans (by omega)))) ?_; clear F a; intro a F
   refine list_val F (wn rfl) rfl rfl (.pointer (some (adr.add (m * 34)))) (ex_ix _ _ _ rfl 34 rb_sl_55_34 adr _ _ (F.e rfl) .i64 _ (F.e rfl) m rfl (by omega) (adr.add (m * 34)) rfl) ?_; clear F a; intro a F
   refine list_val F (wn rfl) rfl rfl (.pointer (some (adr.add (m * 34)))) (ex_fa _ _ _ rfl _ (F.e rfl) 0 rb_fa_107_0_0 (adr.add (m * 34)) rfl) ?_; clear F a; intro a F
   refine list_val F (wn rfl) rfl rfl (.int .u64 ((rdK ks (m : Int)).kid)) (ex_load _ _ rfl _ (F.e rfl) _ (lv1 rb_one_67 ((zm.below M.bel).cell 0 _ (Key.cs_0 _)))) ?_; clear F a; intro a F
   refine list_val F (wn rfl) rfl rfl (.int .u64 kid) (ex_move _ rfl _ (F.e rfl)) ?_; clear F a; intro a F
   refine list_val F (wn rfl) rfl rfl (.bool true) (ex_bin .eql _ _ _ _ rfl .u64 _ _ (F.e rfl) (F.e rfl) _ (b_eql (by simp [hcu]))) ?_; clear F a; intro a F
   refine list_val F (wn rfl) rfl rfl (.bool true) (ex_assign _ rfl _ (F.e rfl)) ?_; clear F a; intro a F
   refine wpList_nil ?_
   replace F : Fr 87 a [(0, .agg #[.slice (some adr) ks.length c, .int .u64 next]), (1, .int .u64 kid), (2, .agg s.cs.toArray), (3, .pointer (some ⟨g3, 0, none⟩)), (5, .pointer (some ⟨g5, 0, none⟩)), (6, .pointer (some ⟨g6, 0, none⟩)), (7, .int .i64 0), (9, .bool true), (10, .int .i64 ((ks.length : Nat) : Int)), (11, .bool true), (16, .bool false), (25, .bool false)] := F.keep ⟨rfl, rfl, rfl, rfl, rfl, rfl, rfl, rfl, rfl, rfl, rfl, rfl, trivial⟩
   refine then_n ?_
   refine wp_seq ?_
   refine wp_seq ?_
   refine wp_region_lit ?_
   refine list_val F (wn rfl) rfl rfl (.bool true) (ex_move _ rfl _ (F.e rfl)) ?_; clear F a; intro a F
   refine list_val F (wn rfl) rfl rfl (.bool true) (ex_move _ rfl _ (F.e rfl)) ?_; clear F a; intro a F
   refine list_val F (F.wants 40 true rfl (by kernel_rfl) rfl true rfl) rfl rfl (.pointer (some ⟨g3, 1, none⟩)) (ex_fa _ _ _ rfl _ (F.e rfl) 1 rb_fa_69_1_1 ⟨g3, 1, none⟩ rfl) ?_; clear F a; intro a F
   refine list_val F (F.wants 40 true rfl (by kernel_rfl) rfl true rfl) rfl rfl (.int .u64 next) (ex_load _ _ rfl _ (F.e rfl) _ (lv1 rb_one_67 (M.cell (i := 3) rfl (j := 1) rfl))) ?_; clear F a; intro a F
   refine list_val F (F.wants 40 true rfl (by kernel_rfl) rfl true rfl) rfl rfl (.bool false) (ex_bin .geq _ _ _ _ rfl .u64 _ _ (F.e rfl) rfl _ (b_geq (decide_eq_false hx))) ?_; clear F a; intro a F
   refine list_val F (wn rfl) rfl rfl (.bool false) (ex_pick_t _ _ _ rfl (F.e rfl) _ (F.e rfl)) ?_; clear F a; intro a F
   refine wpList_nil ?_
   replace F : Fr 87 a [(0, .agg #[.slice (some adr) ks.length c, .int .u64 next]), (1, .int .u64 kid), (2, .agg s.cs.toArray), (3, .pointer (some ⟨g3, 0, none⟩)), (5, .pointer (some ⟨g5, 0, none⟩)), (6, .pointer (some ⟨g6, 0, none⟩)), (7, .int .i64 0), (9, .bool true), (10, .int .i64 ((ks.length : Nat) : Int)), (11, .bool true), (16, .bool false), (25, .bool false), (44, .bool false)] := F.keep ⟨rfl, rfl, rfl, rfl, rfl, rfl, rfl, rfl, rfl, rfl, rfl, rfl, rfl, trivial⟩
   refine then_n ?_
   refine wp_cond_false (F.e rfl) ?_
   refine wp_skip ?_
   refine then_n ?_
   refine wp_seq ?_
   refine wp_region_lit ?_
   refine list_val F (wn rfl) rfl rfl (.pointer (some ⟨g3, 1, none⟩)) (ex_fa _ _ _ rfl _ (F.e rfl) 1 rb_fa_69_1_1 ⟨g3, 1, none⟩ rfl) ?_; clear F a; intro a F
   refine list_val F (wn rfl) rfl rfl (.int .u64 next) (ex_load _ _ rfl _ (F.e rfl) _ (lv1 rb_one_67 (M.cell (i := 3) rfl (j := 1) rfl))) ?_; clear F a; intro a F
   refine list_val F (wn rfl) rfl rfl (.agg #[.slice none 0 0, .int .u64 next]) (ex_build 69 _ rfl #[(1, .int .u64 next)] (parts1 (F.e rfl)) (.agg #[.slice none 0 0, .int .u64 next]) (build69_1 next _)) ?_; clear F a; intro a F
   refine list_do (wn rfl) (fun K hK => ?_)
   refine ow_alloc F M rfl rfl 69 rfl (.agg #[.slice none 0 0, .int .u64 0]) z69 #[.slice none 0 0, .int .u64 0] rfl ?_
   clear F M a; intro a g12 u F M hb hg
   refine hK _ _ ?_
   clear hK K
   clear hb hg; try clear v
   refine list_do (wn rfl) (fun K hK => ?_)
   refine ow_put F M rfl 69 _ _ rfl 0 _ #[.slice none 0 0, .int .u64 0] _ rfl (F.e rfl) #[.slice none 0 0, .int .u64 next] (F.e rfl) (sz_row (m := 2) rb_row_69_2) rfl (by simp [Value.oneCell']) ?_
   clear F a; have Mo := M; clear M; intro a v F M hgr
   refine hK _ _ ?_
   clear hK K
   clear Mo hgr; try clear u
   replace M : Mm w v [⟨g12, #[.slice none 0 0, .int .u64 next], 69⟩, ⟨g8, (findF kid ks next).arr, 107⟩, ⟨g6, #[.slice none 0 0, .int .u64 0], 69⟩, ⟨g5, s.cs.toArray, 70⟩, ⟨g3, #[.slice (some adr) ks.length c, .int .u64 next], 69⟩] := M
   refine wpList_nil ?_
   replace F : Fr 87 a [(0, .agg #[.slice (some adr) ks.length c, .int .u64 next]), (1, .int .u64 kid), (2, .agg s.cs.toArray), (3, .pointer (some ⟨g3, 0, none⟩)), (5, .pointer (some ⟨g5, 0, none⟩)), (6, .pointer (some ⟨g6, 0, none⟩)), (7, .int .i64 0), (9, .bool true), (10, .int .i64 ((ks.length : Nat) : Int)), (11, .bool true), (12, .pointer (some ⟨g12, 0, none⟩)), (16, .bool false), (25, .bool false), (44, .bool false)] := F.keep ⟨rfl, rfl, rfl, rfl, rfl, rfl, rfl, rfl, rfl, rfl, rfl, rfl, rfl, rfl, trivial⟩
   refine then_n ?_
   refine wp_seq ?_
   refine wp_seq ?_
   refine wp_region_lit ?_
   refine list_val F (wn rfl) rfl rfl (.int .i64 0) (ex_assign _ rfl _ rfl) ?_; clear F a; intro a F
   refine wpList_nil ?_
   replace F : Fr 87 a [(0, .agg #[.slice (some adr) ks.length c, .int .u64 next]), (1, .int .u64 kid), (2, .agg s.cs.toArray), (3, .pointer (some ⟨g3, 0, none⟩)), (5, .pointer (some ⟨g5, 0, none⟩)), (6, .pointer (some ⟨g6, 0, none⟩)), (7, .int .i64 0), (9, .bool true), (10, .int .i64 ((ks.length : Nat) : Int)), (11, .bool true), (12, .pointer (some ⟨g12, 0, none⟩)), (13, .int .i64 0), (16, .bool false), (25, .bool false), (44, .bool false)] := F.keep ⟨rfl, rfl, rfl, rfl, rfl, rfl, rfl, rfl, rfl, rfl, rfl, rfl, rfl, rfl, rfl, trivial⟩
   refine then_n ?_
   refine wp_block ?_
   refine wp_loopN (fun mq ar wr => ∃ (i : Nat), ∃ (B : Option Addr), ∃ (b : Nat), Fr 87 ar [(0, .agg #[.slice (some adr) ks.length c, .int .u64 next]), (1, .int .u64 kid), (2, .agg s.cs.toArray), (3, .pointer (some ⟨g3, 0, none⟩)), (5, .pointer (some ⟨g5, 0, none⟩)), (6, .pointer (some ⟨g6, 0, none⟩)), (7, .int .i64 0), (9, .bool true), (10, .int .i64 ((ks.length : Nat) : Int)), (11, .bool true), (12, .pointer (some ⟨g12, 0, none⟩)), (13, .int .i64 i), (16, .bool false), (25, .bool false), (44, .bool false)] ∧ Mm w wr [⟨g12, #[.slice B ((offK kid (ks.take i)).length) b, .int .u64 next], 69⟩, ⟨g6, #[.slice none 0 0, .int .u64 0], 69⟩, ⟨g5, s.cs.toArray, 70⟩, ⟨g3, #[.slice (some adr) ks.length c, .int .u64 next], 69⟩] ∧ OwnKeys wr w.heap.size (.slice B (offK kid (ks.take i)).length b) (offK kid (ks.take i)) ∧ i ≤ ks.length ∧ mq + i = ks.length) ks.length ?_ ?_
   ·
    exact ⟨0, none, 0, F.keep ⟨rfl, rfl, rfl, rfl, rfl, rfl, rfl, rfl, rfl, rfl, rfl, rfl, rfl, rfl, rfl, trivial⟩, (by refine M.pick' [0, 2, 3, 4] _ ?_ (by decide); exact ⟨rfl, rfl, rfl, rfl, trivial⟩), (nil_own _ _), (Nat.zero_le _), (by omega)⟩
   clear F M a
   rintro mq a u ⟨i, B, b, F, M, O_x, hi, hq⟩; try clear v
   by_cases hin : i < ks.length
   ·
    obtain ⟨_, had, zi, _, _⟩ := at_Key hr (i : Int) (by omega) (by omega)
    obtain rfl := Option.some.inj had
    clear had
    rw [show (i : Int).toNat = i from rfl] at zi
    have hst := offK_step (kid := kid) hin
    have hpl := @offK_len ks kid i
    by_cases c1 : (rdK ks (i : Int)).kid = kid
    ·
     rw [if_neg (by simp [c1]), List.append_nil] at hst
     refine wp_seq ?_
     refine wp_seq ?_
     refine wp_region_lit ?_
     refine list_val F (wn rfl) rfl rfl (.int .i64 i) (ex_move _ rfl _ (F.e rfl)) ?_; clear F a; intro a F
     refine list_val F (wn rfl) rfl rfl (.int .i64 ((ks.length : Nat) : Int)) (ex_move _ rfl _ (F.e rfl)) ?_; clear F a; intro a F
     refine list_val F (wn rfl) rfl rfl (.bool true) (ex_bin .lss _ _ _ _ rfl .i64 _ _ (F.e rfl) (F.e rfl) _ (b_lss (decide_eq_true (by omega)))) ?_; clear F a; intro a F
     refine wpList_nil ?_
     replace F : Fr 87 a [(0, .agg #[.slice (some adr) ks.length c, .int .u64 next]), (1, .int .u64 kid), (2, .agg s.cs.toArray), (3, .pointer (some ⟨g3, 0, none⟩)), (5, .pointer (some ⟨g5, 0, none⟩)), (6, .pointer (some ⟨g6, 0, none⟩)), (7, .int .i64 0), (9, .bool true), (10, .int .i64 ((ks.length : Nat) : Int)), (11, .bool true), (12, .pointer (some ⟨g12, 0, none⟩)), (13, .int .i64 i), (16, .bool false), (25, .bool false), (44, .bool false), (51, .bool true)] := F.keep ⟨rfl, rfl, rfl, rfl, rfl, rfl, rfl, rfl, rfl, rfl, rfl, rfl, rfl, rfl, rfl, rfl, trivial⟩
     refine then_n ?_
     refine wp_cond_true (F.e rfl) ?_
     refine wp_skip ?_
     refine then_n ?_
     refine wp_seq ?_
     refine wp_block ?_
     refine wp_seq ?_
     refine wp_region_lit ?_
     refine list_val F (wn rfl) rfl rfl (.pointer (some ⟨g3, 0, none⟩)) (ex_fa _ _ _ rfl _ (F.e rfl) 0 rb_fa_69_0_0 ⟨g3, 0, none⟩ rfl) ?_; clear F a; intro a F
     refine list_val F (wn rfl) rfl rfl (.slice (some adr) ks.length c) (ex_load _ _ rfl _ (F.e rfl) _ (lv1 rb_one_55 (M.cell (i := 3) rfl (j := 0) rfl))) ?_; clear F a; intro a F
     refine list_val F (wn rfl) rfl rfl (.int .i64 i) (ex_move _ rfl _ (F.e rfl)) ?_; clear F a; intro a F
     refine list_val F (wn rfl) rfl rfl (.pointer (some (adr.add (i * 34)))) (ex_ix _ _ _ rfl 34 rb_sl_55_34 adr _ _ (F.e rfl) .i64 _ (F.e rfl) i rfl (by omega) (adr.add (i * 34)) rfl) ?_; clear F a; intro a F
     refine list_val F (wn rfl) rfl rfl (.pointer (some (adr.add (i * 34)))) (ex_fa _ _ _ rfl _ (F.e rfl) 0 rb_fa_107_0_0 (adr.add (i * 34)) rfl) ?_; clear F a; intro a F
     refine list_val F (wn rfl) rfl rfl (.int .u64 ((rdK ks (i : Int)).kid)) (ex_load _ _ rfl _ (F.e rfl) _ (lv1 rb_one_67 ((zi.below M.bel).cell 0 _ (Key.cs_0 _)))) ?_; clear F a; intro a F
     refine list_val F (wn rfl) rfl rfl (.int .u64 kid) (ex_move _ rfl _ (F.e rfl)) ?_; clear F a; intro a F
     refine list_val F (wn rfl) rfl rfl (.bool false) (ex_bin .neq _ _ _ _ rfl .u64 _ _ (F.e rfl) (F.e rfl) _ (b_neq (by simp [c1]))) ?_; clear F a; intro a F
     refine wpList_nil ?_
     replace F : Fr 87 a [(0, .agg #[.slice (some adr) ks.length c, .int .u64 next]), (1, .int .u64 kid), (2, .agg s.cs.toArray), (3, .pointer (some ⟨g3, 0, none⟩)), (5, .pointer (some ⟨g5, 0, none⟩)), (6, .pointer (some ⟨g6, 0, none⟩)), (7, .int .i64 0), (9, .bool true), (10, .int .i64 ((ks.length : Nat) : Int)), (11, .bool true), (12, .pointer (some ⟨g12, 0, none⟩)), (13, .int .i64 i), (16, .bool false), (25, .bool false), (44, .bool false), (51, .bool true), (61, .bool false)] := F.keep ⟨rfl, rfl, rfl, rfl, rfl, rfl, rfl, rfl, rfl, rfl, rfl, rfl, rfl, rfl, rfl, rfl, rfl, trivial⟩
     refine then_n ?_
     refine wp_cond_false (F.e rfl) ?_
     refine wp_skip ?_
     refine in_n ?_
     refine then_n ?_
     refine wp_region_lit ?_
     refine list_val F (wn rfl) rfl rfl (.int .i64 i) (ex_move _ rfl _ (F.e rfl)) ?_; clear F a; intro a F
     refine list_val F (wn rfl) rfl rfl (.int .i64 (i + 1)) (ex_bin .add _ _ _ _ rfl .i64 _ _ (F.e rfl) rfl _ (b_add (w_i64 (by omega) (by omega)))) ?_; clear F a; intro a F
     refine list_val F (wn rfl) rfl rfl (.int .i64 (i + 1)) (ex_assign _ rfl _ (F.e rfl)) ?_; clear F a; intro a F
     refine wpList_nil ?_
     replace F : Fr 87 a [(0, .agg #[.slice (some adr) ks.length c, .int .u64 next]), (1, .int .u64 kid), (2, .agg s.cs.toArray), (3, .pointer (some ⟨g3, 0, none⟩)), (5, .pointer (some ⟨g5, 0, none⟩)), (6, .pointer (some ⟨g6, 0, none⟩)), (7, .int .i64 0), (9, .bool true), (10, .int .i64 ((ks.length : Nat) : Int)), (11, .bool true), (12, .pointer (some ⟨g12, 0, none⟩)), (13, .int .i64 (i + 1)), (16, .bool false), (25, .bool false), (44, .bool false), (51, .bool true), (61, .bool false)] := F.keep ⟨rfl, rfl, rfl, rfl, rfl, rfl, rfl, rfl, rfl, rfl, rfl, rfl, rfl, rfl, rfl, rfl, rfl, trivial⟩
     refine then_n ?_
     rw [← hst] at M O_x
     exact ⟨ks.length - (i + 1), by omega, (i + 1), B, b, F.keep ⟨rfl, rfl, rfl, rfl, rfl, rfl, rfl, rfl, rfl, rfl, rfl, rfl, rfl, rfl, rfl, trivial⟩, (by refine M.pick' [0, 1, 2, 3] _ ?_ (by decide); exact ⟨rfl, rfl, rfl, rfl, trivial⟩), O_x, (by omega), (by omega)⟩
    rw [if_pos (by simp [c1])] at hst
    refine wp_seq ?_
    refine wp_seq ?_
    refine wp_region_lit ?_
    refine list_val F (wn rfl) rfl rfl (.int .i64 i) (ex_move _ rfl _ (F.e rfl)) ?_; clear F a; intro a F
    refine list_val F (wn rfl) rfl rfl (.int .i64 ((ks.length : Nat) : Int)) (ex_move _ rfl _ (F.e rfl)) ?_; clear F a; intro a F
    refine list_val F (wn rfl) rfl rfl (.bool true) (ex_bin .lss _ _ _ _ rfl .i64 _ _ (F.e rfl) (F.e rfl) _ (b_lss (decide_eq_true (by omega)))) ?_; clear F a; intro a F
    refine wpList_nil ?_
    replace F : Fr 87 a [(0, .agg #[.slice (some adr) ks.length c, .int .u64 next]), (1, .int .u64 kid), (2, .agg s.cs.toArray), (3, .pointer (some ⟨g3, 0, none⟩)), (5, .pointer (some ⟨g5, 0, none⟩)), (6, .pointer (some ⟨g6, 0, none⟩)), (7, .int .i64 0), (9, .bool true), (10, .int .i64 ((ks.length : Nat) : Int)), (11, .bool true), (12, .pointer (some ⟨g12, 0, none⟩)), (13, .int .i64 i), (16, .bool false), (25, .bool false), (44, .bool false), (51, .bool true)] := F.keep ⟨rfl, rfl, rfl, rfl, rfl, rfl, rfl, rfl, rfl, rfl, rfl, rfl, rfl, rfl, rfl, rfl, trivial⟩
    refine then_n ?_
    refine wp_cond_true (F.e rfl) ?_
    refine wp_skip ?_
    refine then_n ?_
    refine wp_seq ?_
    refine wp_block ?_
    refine wp_seq ?_
    refine wp_region_lit ?_
    refine list_val F (wn rfl) rfl rfl (.pointer (some ⟨g3, 0, none⟩)) (ex_fa _ _ _ rfl _ (F.e rfl) 0 rb_fa_69_0_0 ⟨g3, 0, none⟩ rfl) ?_; clear F a; intro a F
    refine list_val F (wn rfl) rfl rfl (.slice (some adr) ks.length c) (ex_load _ _ rfl _ (F.e rfl) _ (lv1 rb_one_55 (M.cell (i := 3) rfl (j := 0) rfl))) ?_; clear F a; intro a F
    refine list_val F (wn rfl) rfl rfl (.int .i64 i) (ex_move _ rfl _ (F.e rfl)) ?_; clear F a; intro a F
    refine list_val F (wn rfl) rfl rfl (.pointer (some (adr.add (i * 34)))) (ex_ix _ _ _ rfl 34 rb_sl_55_34 adr _ _ (F.e rfl) .i64 _ (F.e rfl) i rfl (by omega) (adr.add (i * 34)) rfl) ?_; clear F a; intro a F
    refine list_val F (wn rfl) rfl rfl (.pointer (some (adr.add (i * 34)))) (ex_fa _ _ _ rfl _ (F.e rfl) 0 rb_fa_107_0_0 (adr.add (i * 34)) rfl) ?_; clear F a; intro a F
    refine list_val F (wn rfl) rfl rfl (.int .u64 ((rdK ks (i : Int)).kid)) (ex_load _ _ rfl _ (F.e rfl) _ (lv1 rb_one_67 ((zi.below M.bel).cell 0 _ (Key.cs_0 _)))) ?_; clear F a; intro a F
    refine list_val F (wn rfl) rfl rfl (.int .u64 kid) (ex_move _ rfl _ (F.e rfl)) ?_; clear F a; intro a F
    refine list_val F (wn rfl) rfl rfl (.bool true) (ex_bin .neq _ _ _ _ rfl .u64 _ _ (F.e rfl) (F.e rfl) _ (b_neq (by simp [c1]))) ?_; clear F a; intro a F
    refine wpList_nil ?_
    replace F : Fr 87 a [(0, .agg #[.slice (some adr) ks.length c, .int .u64 next]), (1, .int .u64 kid), (2, .agg s.cs.toArray), (3, .pointer (some ⟨g3, 0, none⟩)), (5, .pointer (some ⟨g5, 0, none⟩)), (6, .pointer (some ⟨g6, 0, none⟩)), (7, .int .i64 0), (9, .bool true), (10, .int .i64 ((ks.length : Nat) : Int)), (11, .bool true), (12, .pointer (some ⟨g12, 0, none⟩)), (13, .int .i64 i), (16, .bool false), (25, .bool false), (44, .bool false), (51, .bool true), (61, .bool true)] := F.keep ⟨rfl, rfl, rfl, rfl, rfl, rfl, rfl, rfl, rfl, rfl, rfl, rfl, rfl, rfl, rfl, rfl, rfl, trivial⟩
    refine then_n ?_
    refine wp_cond_true (F.e rfl) ?_
    refine wp_only (fun ar wr => ∃ (g69 : Nat), ∃ (A_70 : Option Addr), ∃ (c_70 : Nat), Fr 87 ar [(0, .agg #[.slice (some adr) ks.length c, .int .u64 next]), (1, .int .u64 kid), (2, .agg s.cs.toArray), (3, .pointer (some ⟨g3, 0, none⟩)), (5, .pointer (some ⟨g5, 0, none⟩)), (6, .pointer (some ⟨g6, 0, none⟩)), (7, .int .i64 0), (9, .bool true), (10, .int .i64 ((ks.length : Nat) : Int)), (11, .bool true), (12, .pointer (some ⟨g12, 0, none⟩)), (13, .int .i64 i), (16, .bool false), (25, .bool false), (44, .bool false), (51, .bool true), (61, .bool true)] ∧ Mm w wr [⟨g12, #[.slice A_70 (((offK kid (ks.take i)) ++ [(rdK ks (i : Int))]).length) c_70, .int .u64 next], 69⟩, ⟨g6, #[.slice none 0 0, .int .u64 0], 69⟩, ⟨g5, s.cs.toArray, 70⟩, ⟨g3, #[.slice (some adr) ks.length c, .int .u64 next], 69⟩] ∧ OwnKeys wr w.heap.size (.slice A_70 ((offK kid (ks.take i)) ++ [(rdK ks (i : Int))]).length c_70) ((offK kid (ks.take i)) ++ [(rdK ks (i : Int))])) ?_ ?_
    ·
     refine region_anyM rb_follows_mixedOrders M [⟨g3, #[.slice (some adr) ks.length c, .int .u64 next], 69⟩] (fun w' M => (by refine M.pick' [3] _ ?_ (by decide); exact ⟨rfl, trivial⟩)) ?_; clear M; intro wD M hb
     replace O_x := Kd.R_below O_x hb
     clear hb; try clear u
     have hS : Mm w wD [⟨g3, #[.slice (some adr) ks.length c, .int .u64 next], 69⟩] := (by refine M.pick' [3] _ ?_ (by decide); exact ⟨rfl, trivial⟩)
     refine any_val F 0 rfl (by kernel_rfl) (wn rfl) rfl rfl (.pointer (some ⟨g12, 0, none⟩)) (fun w' hS' => ex_fa _ _ _ rfl _ (F.e rfl) 0 rb_fa_69_0_0 ⟨g12, 0, none⟩ rfl) hS ?_; clear F a; intro a F
     refine any_val F 2 rfl (by kernel_rfl) (wn rfl) rfl rfl (.pointer (some ⟨g3, 0, none⟩)) (fun w' hS' => ex_fa _ _ _ rfl _ (F.e rfl) 0 rb_fa_69_0_0 ⟨g3, 0, none⟩ rfl) hS ?_; clear F a; intro a F
     refine any_val F 3 rfl (by kernel_rfl) (wn rfl) rfl rfl (.slice (some adr) ks.length c) (fun w' hS' => ex_load _ _ rfl _ (F.e rfl) _ (lv1 rb_one_55 (hS'.cell (i := 0) rfl (j := 0) rfl))) hS ?_; clear F a; intro a F
     refine any_val F 4 rfl (by kernel_rfl) (wn rfl) rfl rfl (.int .i64 i) (fun w' hS' => ex_move _ rfl _ (F.e rfl)) hS ?_; clear F a; intro a F
     refine any_val F 5 rfl (by kernel_rfl) (wn rfl) rfl rfl (.pointer (some (adr.add (i * 34)))) (fun w' hS' => ex_ix _ _ _ rfl 34 rb_sl_55_34 adr _ _ (F.e rfl) .i64 _ (F.e rfl) i rfl (by omega) (adr.add (i * 34)) rfl) hS ?_; clear F a; intro a F
     refine any_val F 6 rfl (by kernel_rfl) (wn rfl) rfl rfl (.agg ((rdK ks (i : Int)).arr)) (fun w' hS' => ex_load _ _ rfl _ (F.e rfl) _ (lvr (cs := (rdK ks (i : Int)).cs) (by rw [Key.cs_len]; exact rb_row_107_34) ((zi.below hS'.bel)))) hS ?_; clear F a; intro a F
     refine any_ready [1, 7] (by kernel_rfl) (by simp) ?_
     refine ready_do rfl (wn rfl) (fun K hK => ?_) ?_
     ·
      refine ow_val F rfl rfl (.slice B ((offK kid (ks.take i)).length) b) (ex_load _ _ rfl _ (F.e rfl) _ (lv1 rb_one_55 (M.cell (i := 0) rfl (j := 0) rfl))) ?_; clear F a; intro a F
      replace hS : Mm w wD [⟨g3, #[.slice (some adr) ks.length c, .int .u64 next], 69⟩] := (by refine M.pick' [3] _ ?_ (by decide); exact ⟨rfl, trivial⟩)
      refine hK _ _ hS ?_
      clear hK K
      refine any_ready [7] (by kernel_rfl) (by simp) ?_
      refine ready_do rfl (wn rfl) (fun K hK => ?_) AllReadyH.nil
      refine ow_bslice F M rfl rfl 55 1 _ rfl #[(0, .agg ((rdK ks (i : Int)).arr))] (parts1 (F.e rfl)) ((rdK ks (i : Int)).arr) 107 (newKeys (rdK ks (i : Int)) _) ?_
      clear F M a; intro a g69 v F M hb hg
      replace hS : Mm w v [⟨g3, #[.slice (some adr) ks.length c, .int .u64 next], 69⟩] := (by refine M.pick' [4] _ ?_ (by decide); exact ⟨rfl, trivial⟩)
      refine hK _ _ hS ?_
      clear hK K
      replace O_x := Kd.R_below O_x hb
      clear hb hg; try clear wD
      refine any_ready [8] (by kernel_rfl) (by simp) ?_
      refine ready_do rfl (wn rfl) (fun K hK => ?_) AllReadyH.nil
      have hks := kKey_one (rdK ks (i : Int)) (M.at (i := 0) rfl)
      replace M : Mm w v [⟨g12, #[.slice B ((offK kid (ks.take i)).length) b, .int .u64 next], 69⟩, ⟨g6, #[.slice none 0 0, .int .u64 0], 69⟩, ⟨g5, s.cs.toArray, 70⟩, ⟨g3, #[.slice (some adr) ks.length c, .int .u64 next], 69⟩] := (by refine M.pick' [1, 2, 3, 4] _ ?_ (by decide); exact ⟨rfl, rfl, rfl, rfl, trivial⟩)
      refine ow_ownapp F M rfl rfl rfl rfl _ _ rfl _ _ _ (offK kid (ks.take i)) [(rdK ks (i : Int))] _ 1 1 (F.e rfl) (F.e rfl) O_x hks (by omega) ?_
      clear F a M O_x hks; intro a A_70 c_70 u F M O_x
      replace hS : Mm w u [⟨g3, #[.slice (some adr) ks.length c, .int .u64 next], 69⟩] := (by refine M.pick' [3] _ ?_ (by decide); exact ⟨rfl, trivial⟩)
      refine hK _ _ hS ?_
      clear hK K
      try clear v
      refine any_val F 9 rfl (by kernel_rfl) (wn rfl) rfl rfl (.pointer (some ⟨g12, 0, none⟩)) (fun w' hS' => ex_fa _ _ _ rfl _ (F.e rfl) 0 rb_fa_69_0_0 ⟨g12, 0, none⟩ rfl) hS ?_; clear F a; intro a F
      refine any_ready [10] (by kernel_rfl) (by simp) ?_
      refine ready_do rfl (wn rfl) (fun K hK => ?_) AllReadyH.nil
      refine ow_store F M rfl 55 _ _ rfl 0 g12 _ _ rfl 0 (F.e rfl) _ (F.e rfl) [.slice A_70 (((offK kid (ks.take i)) ++ [(rdK ks (i : Int))]).length) c_70] rfl rb_info_55_map_size_some_1 (by simp) (by simp [Value.oneCell']) #[.slice A_70 (((offK kid (ks.take i)) ++ [(rdK ks (i : Int))]).length) c_70, .int .u64 next] rfl ?_
      clear F a; have Mo := M; clear M; intro a v F M hgr
      replace hS : Mm w v [⟨g3, #[.slice (some adr) ks.length c, .int .u64 next], 69⟩] := (by refine M.pick' [3] _ ?_ (by decide); exact ⟨rfl, trivial⟩)
      refine hK _ _ hS ?_
      clear hK K
      replace O_x := own_grown O_x (Mo.blk 0 _ rfl) (by show 107 ≠ 69; decide) hgr
      clear Mo hgr; try clear u
      replace M : Mm w v [⟨g12, #[.slice A_70 (((offK kid (ks.take i)) ++ [(rdK ks (i : Int))]).length) c_70, .int .u64 next], 69⟩, ⟨g6, #[.slice none 0 0, .int .u64 0], 69⟩, ⟨g5, s.cs.toArray, 70⟩, ⟨g3, #[.slice (some adr) ks.length c, .int .u64 next], 69⟩] := M
      refine any_done (by kernel_rfl) ?_
      exact ⟨g69, A_70, c_70, F.keep ⟨rfl, rfl, rfl, rfl, rfl, rfl, rfl, rfl, rfl, rfl, rfl, rfl, rfl, rfl, rfl, rfl, rfl, trivial⟩, (by refine M.pick' [0, 1, 2, 3] _ ?_ (by decide); exact ⟨rfl, rfl, rfl, rfl, trivial⟩), O_x⟩
     refine ready_do rfl (wn rfl) (fun K hK => ?_) AllReadyH.nil
     refine ow_bslice F M rfl rfl 55 1 _ rfl #[(0, .agg ((rdK ks (i : Int)).arr))] (parts1 (F.e rfl)) ((rdK ks (i : Int)).arr) 107 (newKeys (rdK ks (i : Int)) _) ?_
     clear F M a; intro a g69 v F M hb hg
     replace hS : Mm w v [⟨g3, #[.slice (some adr) ks.length c, .int .u64 next], 69⟩] := (by refine M.pick' [4] _ ?_ (by decide); exact ⟨rfl, trivial⟩)
     refine hK _ _ hS ?_
     clear hK K
     replace O_x := Kd.R_below O_x hb
     clear hb hg; try clear wD
     refine any_ready [1] (by kernel_rfl) (by simp) ?_
     refine ready_do rfl (wn rfl) (fun K hK => ?_) AllReadyH.nil
     refine ow_val F rfl rfl (.slice B ((offK kid (ks.take i)).length) b) (ex_load _ _ rfl _ (F.e rfl) _ (lv1 rb_one_55 (M.cell (i := 1) rfl (j := 0) rfl))) ?_; clear F a; intro a F
     replace hS : Mm w v [⟨g3, #[.slice (some adr) ks.length c, .int .u64 next], 69⟩] := (by refine M.pick' [4] _ ?_ (by decide); exact ⟨rfl, trivial⟩)
     refine hK _ _ hS ?_
     clear hK K
     refine any_ready [8] (by kernel_rfl) (by simp) ?_
     refine ready_do rfl (wn rfl) (fun K hK => ?_) AllReadyH.nil
     have hks := kKey_one (rdK ks (i : Int)) (M.at (i := 0) rfl)
     replace M : Mm w v [⟨g12, #[.slice B ((offK kid (ks.take i)).length) b, .int .u64 next], 69⟩, ⟨g6, #[.slice none 0 0, .int .u64 0], 69⟩, ⟨g5, s.cs.toArray, 70⟩, ⟨g3, #[.slice (some adr) ks.length c, .int .u64 next], 69⟩] := (by refine M.pick' [1, 2, 3, 4] _ ?_ (by decide); exact ⟨rfl, rfl, rfl, rfl, trivial⟩)
     refine ow_ownapp F M rfl rfl rfl rfl _ _ rfl _ _ _ (offK kid (ks.take i)) [(rdK ks (i : Int))] _ 1 1 (F.e rfl) (F.e rfl) O_x hks (by omega) ?_
     clear F a M O_x hks; intro a A_70 c_70 u F M O_x
     replace hS : Mm w u [⟨g3, #[.slice (some adr) ks.length c, .int .u64 next], 69⟩] := (by refine M.pick' [3] _ ?_ (by decide); exact ⟨rfl, trivial⟩)
     refine hK _ _ hS ?_
     clear hK K
     try clear v
     refine any_val F 9 rfl (by kernel_rfl) (wn rfl) rfl rfl (.pointer (some ⟨g12, 0, none⟩)) (fun w' hS' => ex_fa _ _ _ rfl _ (F.e rfl) 0 rb_fa_69_0_0 ⟨g12, 0, none⟩ rfl) hS ?_; clear F a; intro a F
     refine any_ready [10] (by kernel_rfl) (by simp) ?_
     refine ready_do rfl (wn rfl) (fun K hK => ?_) AllReadyH.nil
     refine ow_store F M rfl 55 _ _ rfl 0 g12 _ _ rfl 0 (F.e rfl) _ (F.e rfl) [.slice A_70 (((offK kid (ks.take i)) ++ [(rdK ks (i : Int))]).length) c_70] rfl rb_info_55_map_size_some_1 (by simp) (by simp [Value.oneCell']) #[.slice A_70 (((offK kid (ks.take i)) ++ [(rdK ks (i : Int))]).length) c_70, .int .u64 next] rfl ?_
     clear F a; have Mo := M; clear M; intro a v F M hgr
     replace hS : Mm w v [⟨g3, #[.slice (some adr) ks.length c, .int .u64 next], 69⟩] := (by refine M.pick' [3] _ ?_ (by decide); exact ⟨rfl, trivial⟩)
     refine hK _ _ hS ?_
     clear hK K
     replace O_x := own_grown O_x (Mo.blk 0 _ rfl) (by show 107 ≠ 69; decide) hgr
     clear Mo hgr; try clear u
     replace M : Mm w v [⟨g12, #[.slice A_70 (((offK kid (ks.take i)) ++ [(rdK ks (i : Int))]).length) c_70, .int .u64 next], 69⟩, ⟨g6, #[.slice none 0 0, .int .u64 0], 69⟩, ⟨g5, s.cs.toArray, 70⟩, ⟨g3, #[.slice (some adr) ks.length c, .int .u64 next], 69⟩] := M
     refine any_done (by kernel_rfl) ?_
     exact ⟨g69, A_70, c_70, F.keep ⟨rfl, rfl, rfl, rfl, rfl, rfl, rfl, rfl, rfl, rfl, rfl, rfl, rfl, rfl, rfl, rfl, rfl, trivial⟩, (by refine M.pick' [0, 1, 2, 3] _ ?_ (by decide); exact ⟨rfl, rfl, rfl, rfl, trivial⟩), O_x⟩
    clear F M a O_x
    intro a v hR; obtain ⟨g69, A_70, c_70, F, M, O_x⟩ := hR; try clear u
    refine in_n ?_
    refine then_n ?_
    refine wp_region_lit ?_
    refine list_val F (wn rfl) rfl rfl (.int .i64 i) (ex_move _ rfl _ (F.e rfl)) ?_; clear F a; intro a F
    refine list_val F (wn rfl) rfl rfl (.int .i64 (i + 1)) (ex_bin .add _ _ _ _ rfl .i64 _ _ (F.e rfl) rfl _ (b_add (w_i64 (by omega) (by omega)))) ?_; clear F a; intro a F
    refine list_val F (wn rfl) rfl rfl (.int .i64 (i + 1)) (ex_assign _ rfl _ (F.e rfl)) ?_; clear F a; intro a F
    refine wpList_nil ?_
    replace F : Fr 87 a [(0, .agg #[.slice (some adr) ks.length c, .int .u64 next]), (1, .int .u64 kid), (2, .agg s.cs.toArray), (3, .pointer (some ⟨g3, 0, none⟩)), (5, .pointer (some ⟨g5, 0, none⟩)), (6, .pointer (some ⟨g6, 0, none⟩)), (7, .int .i64 0), (9, .bool true), (10, .int .i64 ((ks.length : Nat) : Int)), (11, .bool true), (12, .pointer (some ⟨g12, 0, none⟩)), (13, .int .i64 (i + 1)), (16, .bool false), (25, .bool false), (44, .bool false), (51, .bool true), (61, .bool true)] := F.keep ⟨rfl, rfl, rfl, rfl, rfl, rfl, rfl, rfl, rfl, rfl, rfl, rfl, rfl, rfl, rfl, rfl, rfl, trivial⟩
    refine then_n ?_
    rw [← hst] at M O_x
    exact ⟨ks.length - (i + 1), by omega, (i + 1), A_70, c_70, F.keep ⟨rfl, rfl, rfl, rfl, rfl, rfl, rfl, rfl, rfl, rfl, rfl, rfl, rfl, rfl, rfl, trivial⟩, (by refine M.pick' [0, 1, 2, 3] _ ?_ (by decide); exact ⟨rfl, rfl, rfl, rfl, trivial⟩), O_x, (by omega), (by omega)⟩
   obtain rfl : i = ks.length := by omega
   have hpl := @offK_len ks kid ks.length
   rw [List.take_length] at M O_x hpl
   refine wp_seq ?_
   refine wp_seq ?_
   refine wp_region_lit ?_
   refine list_val F (wn rfl) rfl rfl (.int .i64 ks.length) (ex_move _ rfl _ (F.e rfl)) ?_; clear F a; intro a F
   refine list_val F (wn rfl) rfl rfl (.int .i64 ((ks.length : Nat) : Int)) (ex_move _ rfl _ (F.e rfl)) ?_; clear F a; intro a F
   refine list_val F (wn rfl) rfl rfl (.bool false) (ex_bin .lss _ _ _ _ rfl .i64 _ _ (F.e rfl) (F.e rfl) _ (b_lss (decide_eq_false (by omega)))) ?_; clear F a; intro a F
   refine wpList_nil ?_
   replace F : Fr 87 a [(0, .agg #[.slice (some adr) ks.length c, .int .u64 next]), (1, .int .u64 kid), (2, .agg s.cs.toArray), (3, .pointer (some ⟨g3, 0, none⟩)), (5, .pointer (some ⟨g5, 0, none⟩)), (6, .pointer (some ⟨g6, 0, none⟩)), (7, .int .i64 0), (9, .bool true), (10, .int .i64 ((ks.length : Nat) : Int)), (11, .bool true), (12, .pointer (some ⟨g12, 0, none⟩)), (13, .int .i64 ks.length), (16, .bool false), (25, .bool false), (44, .bool false), (51, .bool false)] := F.keep ⟨rfl, rfl, rfl, rfl, rfl, rfl, rfl, rfl, rfl, rfl, rfl, rfl, rfl, rfl, rfl, rfl, trivial⟩
   refine then_n ?_
   refine wp_cond_false (F.e rfl) ?_
   refine wp_exit ?_
   refine then_x ?_
   refine then_x ?_
   refine in_hit ?_
   refine then_n ?_
   refine wp_seq ?_
   refine wp_seq ?_
   refine wp_region_lit ?_
   refine list_val F (wn rfl) rfl rfl (.bool true) (ex_move _ rfl _ (F.e rfl)) ?_; clear F a; intro a F
   refine wpList_nil ?_
   replace F : Fr 87 a [(0, .agg #[.slice (some adr) ks.length c, .int .u64 next]), (1, .int .u64 kid), (2, .agg s.cs.toArray), (3, .pointer (some ⟨g3, 0, none⟩)), (5, .pointer (some ⟨g5, 0, none⟩)), (6, .pointer (some ⟨g6, 0, none⟩)), (7, .int .i64 0), (9, .bool true), (10, .int .i64 ((ks.length : Nat) : Int)), (11, .bool true), (12, .pointer (some ⟨g12, 0, none⟩)), (13, .int .i64 ks.length), (16, .bool false), (25, .bool false), (44, .bool false), (51, .bool false), (72, .bool true)] := F.keep ⟨rfl, rfl, rfl, rfl, rfl, rfl, rfl, rfl, rfl, rfl, rfl, rfl, rfl, rfl, rfl, rfl, rfl, trivial⟩
   refine then_n ?_
   refine wp_cond_true (F.e rfl) ?_
   refine wp_seq ?_
   refine wp_region_lit ?_
   refine list_val F (wn rfl) rfl rfl (.pointer (some ⟨g12, 0, none⟩)) (ex_fa _ _ _ rfl _ (F.e rfl) 0 rb_fa_69_0_0 ⟨g12, 0, none⟩ rfl) ?_; clear F a; intro a F
   refine list_val F (wn rfl) rfl rfl (.slice B ((offK kid ks).length) b) (ex_load _ _ rfl _ (F.e rfl) _ (lv1 rb_one_55 (M.cell (i := 0) rfl (j := 0) rfl))) ?_; clear F a; intro a F
   refine list_val F (wn rfl) rfl rfl (.pointer (some ⟨g3, 1, none⟩)) (ex_fa _ _ _ rfl _ (F.e rfl) 1 rb_fa_69_1_1 ⟨g3, 1, none⟩ rfl) ?_; clear F a; intro a F
   refine list_val F (wn rfl) rfl rfl (.int .u64 next) (ex_load _ _ rfl _ (F.e rfl) _ (lv1 rb_one_67 (M.cell (i := 3) rfl (j := 1) rfl))) ?_; clear F a; intro a F
   refine list_val F (wn rfl) rfl rfl (.agg s.cs.toArray) (ex_load _ _ rfl _ (F.e rfl) _ (lvr (cs := s.cs) (by rw [Bs.cs_len]; exact rb_row_70_32) (M.at (i := 2) rfl))) ?_; clear F a; intro a F
   refine list_val F (wn rfl) rfl rfl (.agg ((⟨next, s, 0⟩ : Key).arr)) (ex_build 107 _ rfl #[(0, .int .u64 next), (1, .agg s.cs.toArray)] (parts2 (F.e rfl) (F.e rfl)) (.agg ((⟨next, s, 0⟩ : Key).arr)) (build107 next s _)) ?_; clear F a; intro a F
   refine list_do (wn rfl) (fun K hK => ?_)
   refine ow_bslice F M rfl rfl 55 1 _ rfl #[(0, .agg ((⟨next, s, 0⟩ : Key).arr))] (parts1 (F.e rfl)) ((⟨next, s, 0⟩ : Key).arr) 107 (newKeys (⟨next, s, 0⟩ : Key) _) ?_
   clear F M a; intro a g79 v F M hb hg
   refine hK _ _ ?_
   clear hK K
   replace O_x := Kd.R_below O_x hb
   clear hb hg; try clear u
   refine list_do (wn rfl) (fun K hK => ?_)
   have hks := kKey_one (⟨next, s, 0⟩ : Key) (M.at (i := 0) rfl)
   replace M : Mm w v [⟨g12, #[.slice B ((offK kid ks).length) b, .int .u64 next], 69⟩, ⟨g6, #[.slice none 0 0, .int .u64 0], 69⟩, ⟨g5, s.cs.toArray, 70⟩, ⟨g3, #[.slice (some adr) ks.length c, .int .u64 next], 69⟩] := (by refine M.pick' [1, 2, 3, 4] _ ?_ (by decide); exact ⟨rfl, rfl, rfl, rfl, trivial⟩)
   refine ow_ownapp F M rfl rfl rfl rfl _ _ rfl _ _ _ (offK kid ks) [(⟨next, s, 0⟩ : Key)] _ 1 1 (F.e rfl) (F.e rfl) O_x hks (by omega) ?_
   clear F a M O_x hks; intro a A_80 c_80 u F M O_x
   refine hK _ _ ?_
   clear hK K
   try clear v
   refine list_val F (wn rfl) rfl rfl (.pointer (some ⟨g12, 0, none⟩)) (ex_fa _ _ _ rfl _ (F.e rfl) 0 rb_fa_69_0_0 ⟨g12, 0, none⟩ rfl) ?_; clear F a; intro a F
   refine list_do (wn rfl) (fun K hK => ?_)
   refine ow_store F M rfl 55 _ _ rfl 0 g12 _ _ rfl 0 (F.e rfl) _ (F.e rfl) [.slice A_80 (((offK kid ks) ++ [(⟨next, s, 0⟩ : Key)]).length) c_80] rfl rb_info_55_map_size_some_1 (by simp) (by simp [Value.oneCell']) #[.slice A_80 (((offK kid ks) ++ [(⟨next, s, 0⟩ : Key)]).length) c_80, .int .u64 next] rfl ?_
   clear F a; have Mo := M; clear M; intro a v F M hgr
   refine hK _ _ ?_
   clear hK K
   replace O_x := own_grown O_x (Mo.blk 0 _ rfl) (by show 107 ≠ 69; decide) hgr
   clear Mo hgr; try clear u
   replace M : Mm w v [⟨g12, #[.slice A_80 (((offK kid ks) ++ [(⟨next, s, 0⟩ : Key)]).length) c_80, .int .u64 next], 69⟩, ⟨g6, #[.slice none 0 0, .int .u64 0], 69⟩, ⟨g5, s.cs.toArray, 70⟩, ⟨g3, #[.slice (some adr) ks.length c, .int .u64 next], 69⟩] := M
   refine wpList_nil ?_
   replace F : Fr 87 a [(0, .agg #[.slice (some adr) ks.length c, .int .u64 next]), (1, .int .u64 kid), (2, .agg s.cs.toArray), (3, .pointer (some ⟨g3, 0, none⟩)), (5, .pointer (some ⟨g5, 0, none⟩)), (6, .pointer (some ⟨g6, 0, none⟩)), (7, .int .i64 0), (9, .bool true), (10, .int .i64 ((ks.length : Nat) : Int)), (11, .bool true), (12, .pointer (some ⟨g12, 0, none⟩)), (13, .int .i64 ks.length), (16, .bool false), (25, .bool false), (44, .bool false), (51, .bool false), (72, .bool true)] := F.keep ⟨rfl, rfl, rfl, rfl, rfl, rfl, rfl, rfl, rfl, rfl, rfl, rfl, rfl, rfl, rfl, rfl, rfl, trivial⟩
   refine then_n ?_
   refine wp_region_lit ?_
   refine list_val F (wn rfl) rfl rfl (.pointer (some ⟨g3, 1, none⟩)) (ex_fa _ _ _ rfl _ (F.e rfl) 1 rb_fa_69_1_1 ⟨g3, 1, none⟩ rfl) ?_; clear F a; intro a F
   refine list_val F (wn rfl) rfl rfl (.int .u64 next) (ex_load _ _ rfl _ (F.e rfl) _ (lv1 rb_one_67 (M.cell (i := 3) rfl (j := 1) rfl))) ?_; clear F a; intro a F
   refine list_val F (wn rfl) rfl rfl (.int .u64 (next + 1)) (ex_bin .add _ _ _ _ rfl .u64 _ _ (F.e rfl) rfl _ (b_add (w_u64 (by omega) (by omega)))) ?_; clear F a; intro a F
   refine list_val F (wn rfl) rfl rfl (.pointer (some ⟨g12, 1, none⟩)) (ex_fa _ _ _ rfl _ (F.e rfl) 1 rb_fa_69_1_1 ⟨g12, 1, none⟩ rfl) ?_; clear F a; intro a F
   refine list_do (wn rfl) (fun K hK => ?_)
   refine ow_store F M rfl 67 _ _ rfl 0 g12 _ _ rfl 1 (F.e rfl) _ (F.e rfl) [.int .u64 (next + 1)] rfl rb_info_67_map_size_some_1 (by simp) (by simp [Value.oneCell']) #[.slice A_80 (((offK kid ks) ++ [(⟨next, s, 0⟩ : Key)]).length) c_80, .int .u64 (next + 1)] rfl ?_
   clear F a; have Mo := M; clear M; intro a u F M hgr
   refine hK _ _ ?_
   clear hK K
   replace O_x := own_grown O_x (Mo.blk 0 _ rfl) (by show 107 ≠ 69; decide) hgr
   clear Mo hgr; try clear v
   replace M : Mm w u [⟨g12, #[.slice A_80 (((offK kid ks) ++ [(⟨next, s, 0⟩ : Key)]).length) c_80, .int .u64 (next + 1)], 69⟩, ⟨g6, #[.slice none 0 0, .int .u64 0], 69⟩, ⟨g5, s.cs.toArray, 70⟩, ⟨g3, #[.slice (some adr) ks.length c, .int .u64 next], 69⟩] := M
   refine wpList_nil ?_
   replace F : Fr 87 a [(0, .agg #[.slice (some adr) ks.length c, .int .u64 next]), (1, .int .u64 kid), (2, .agg s.cs.toArray), (3, .pointer (some ⟨g3, 0, none⟩)), (5, .pointer (some ⟨g5, 0, none⟩)), (6, .pointer (some ⟨g6, 0, none⟩)), (7, .int .i64 0), (9, .bool true), (10, .int .i64 ((ks.length : Nat) : Int)), (11, .bool true), (12, .pointer (some ⟨g12, 0, none⟩)), (13, .int .i64 ks.length), (16, .bool false), (25, .bool false), (44, .bool false), (51, .bool false), (72, .bool true)] := F.keep ⟨rfl, rfl, rfl, rfl, rfl, rfl, rfl, rfl, rfl, rfl, rfl, rfl, rfl, rfl, rfl, rfl, rfl, trivial⟩
   refine then_n ?_
   refine wp_seq ?_
   refine wp_region_lit ?_
   refine list_val F (wn rfl) rfl rfl (.agg #[.slice A_80 (((offK kid ks) ++ [(⟨next, s, 0⟩ : Key)]).length) c_80, .int .u64 (next + 1)]) (ex_load _ _ rfl _ (F.e rfl) _ (lvr (cs := [.slice A_80 (((offK kid ks) ++ [(⟨next, s, 0⟩ : Key)]).length) c_80, .int .u64 (next + 1)]) rb_row_69_2 (M.at (i := 0) rfl))) ?_; clear F a; intro a F
   refine list_do (wn rfl) (fun K hK => ?_)
   refine ow_put F M rfl 69 _ _ rfl 1 _ #[.slice none 0 0, .int .u64 0] _ rfl (F.e rfl) #[.slice A_80 (((offK kid ks) ++ [(⟨next, s, 0⟩ : Key)]).length) c_80, .int .u64 (next + 1)] (F.e rfl) (sz_row (m := 2) rb_row_69_2) rfl (by simp [Value.oneCell']) ?_
   clear F a; have Mo := M; clear M; intro a v F M hgr
   refine hK _ _ ?_
   clear hK K
   replace O_x := own_grown O_x (Mo.blk 1 _ rfl) (by show 107 ≠ 69; decide) hgr
   clear Mo hgr; try clear u
   replace M : Mm w v [⟨g12, #[.slice A_80 (((offK kid ks) ++ [(⟨next, s, 0⟩ : Key)]).length) c_80, .int .u64 (next + 1)], 69⟩, ⟨g6, #[.slice A_80 (((offK kid ks) ++ [(⟨next, s, 0⟩ : Key)]).length) c_80, .int .u64 (next + 1)], 69⟩, ⟨g5, s.cs.toArray, 70⟩, ⟨g3, #[.slice (some adr) ks.length c, .int .u64 next], 69⟩] := M
   refine list_val F (wn rfl) rfl rfl (.int .i64 0) (ex_assign _ rfl _ rfl) ?_; clear F a; intro a F
   refine wpList_nil ?_
   replace F : Fr 87 a [(0, .agg #[.slice (some adr) ks.length c, .int .u64 next]), (1, .int .u64 kid), (2, .agg s.cs.toArray), (3, .pointer (some ⟨g3, 0, none⟩)), (5, .pointer (some ⟨g5, 0, none⟩)), (6, .pointer (some ⟨g6, 0, none⟩)), (7, .int .i64 0), (9, .bool true), (10, .int .i64 ((ks.length : Nat) : Int)), (11, .bool true), (12, .pointer (some ⟨g12, 0, none⟩)), (13, .int .i64 ks.length), (16, .bool false), (25, .bool false), (44, .bool false), (51, .bool false), (72, .bool true)] := F.keep ⟨rfl, rfl, rfl, rfl, rfl, rfl, rfl, rfl, rfl, rfl, rfl, rfl, rfl, rfl, rfl, rfl, rfl, trivial⟩
   refine then_n ?_
   refine wp_ret ?_
   rw [dis_cur hk hf hm hcu hx]
   exact ret_c2 (v := .agg #[.slice A_80 (((offK kid ks) ++ [(⟨next, s, 0⟩ : Key)]).length) c_80, .int .u64 (next + 1)]) F rfl rfl rfl (lvr (cs := [.slice A_80 (((offK kid ks) ++ [(⟨next, s, 0⟩ : Key)]).length) c_80, .int .u64 (next + 1)]) rb_row_69_2 (M.at (i := 1) rfl)) ⟨A_80, c_80, rfl, O_x, M.bel⟩
  refine wp_region_lit ?_
  refine list_val F (wn rfl) rfl rfl (.pointer (some ⟨g3, 0, none⟩)) (ex_fa _ _ _ rfl _ (F.e rfl) 0 rb_fa_69_0_0 ⟨g3, 0, none⟩ rfl) ?_; clear F a; intro a F
  refine list_val F (wn rfl) rfl rfl (.slice (some adr) ks.length c) (ex_load _ _ rfl _ (F.e rfl) _ (lv1 rb_one_55 (M.cell (i := 3) rfl (j := 0) rfl))) ?_; clear F a; intro a F
  refine list_val F (wn rfl) rfl rfl (.int .i64 ((ks.length : Nat) : Int)) (ex_move _ rfl _ (F.e rfl)) ?_; clear F a; intro a F
  refine list_val F (wn rfl) rfl rfl (.int .i64 m) (ex_bin .sub _ _ _ _ rfl .i64 _ _ (F.e rfl) rfl _ (b_sub ((w_i64 (by omega) (by omega)).trans (by omega)))) ?_; clear F a; intro a F
  refine list_val F (wn rfl) rfl rfl (.pointer (some (adr.add (m * 34)))) (ex_ix _ _ _ rfl 34 rb_sl_55_34 adr _ _ (F.e rfl) .i64 _ (F.e rfl) m rfl (by omega) (adr.add (m * 34)) rfl) ?_; clear F a; intro a F
  refine list_val F (wn rfl) rfl rfl (.pointer (some (adr.add (m * 34)))) (ex_fa _ _ _ rfl _ (F.e rfl) 0 rb_fa_107_0_0 (adr.add (m * 34)) rfl) ?_; clear F a; intro a F
  refine list_val F (wn rfl) rfl rfl (.int .u64 ((rdK ks (m : Int)).kid)) (ex_load _ _ rfl _ (F.e rfl) _ (lv1 rb_one_67 ((zm.below M.bel).cell 0 _ (Key.cs_0 _)))) ?_; clear F a; intro a F
  refine list_val F (wn rfl) rfl rfl (.int .u64 kid) (ex_move _ rfl _ (F.e rfl)) ?_; clear F a; intro a F
  refine list_val F (wn rfl) rfl rfl (.bool false) (ex_bin .eql _ _ _ _ rfl .u64 _ _ (F.e rfl) (F.e rfl) _ (b_eql (by simp [hcu]))) ?_; clear F a; intro a F
  refine list_val F (wn rfl) rfl rfl (.bool false) (ex_assign _ rfl _ (F.e rfl)) ?_; clear F a; intro a F
  refine wpList_nil ?_
  replace F : Fr 87 a [(0, .agg #[.slice (some adr) ks.length c, .int .u64 next]), (1, .int .u64 kid), (2, .agg s.cs.toArray), (3, .pointer (some ⟨g3, 0, none⟩)), (5, .pointer (some ⟨g5, 0, none⟩)), (6, .pointer (some ⟨g6, 0, none⟩)), (7, .int .i64 0), (9, .bool true), (10, .int .i64 ((ks.length : Nat) : Int)), (11, .bool false), (16, .bool false), (25, .bool false)] := F.keep ⟨rfl, rfl, rfl, rfl, rfl, rfl, rfl, rfl, rfl, rfl, rfl, rfl, trivial⟩
  refine then_n ?_
  refine wp_seq ?_
  refine wp_seq ?_
  refine wp_region_lit ?_
  refine list_val F (wn rfl) rfl rfl (.bool false) (ex_move _ rfl _ (F.e rfl)) ?_; clear F a; intro a F
  refine list_val F (wn rfl) rfl rfl (.bool false) (ex_move _ rfl _ (F.e rfl)) ?_; clear F a; intro a F
  refine list_skip F (F.wants 40 false rfl (by kernel_rfl) rfl false rfl) rfl rfl ?_; clear F a; intro a F
  refine list_skip F (F.wants 40 false rfl (by kernel_rfl) rfl false rfl) rfl rfl ?_; clear F a; intro a F
  refine list_skip F (F.wants 40 false rfl (by kernel_rfl) rfl false rfl) rfl rfl ?_; clear F a; intro a F
  refine list_val F (wn rfl) rfl rfl (.bool false) (ex_pick_f _ _ _ rfl (F.e rfl) _ rfl) ?_; clear F a; intro a F
  refine wpList_nil ?_
  replace F : Fr 87 a [(0, .agg #[.slice (some adr) ks.length c, .int .u64 next]), (1, .int .u64 kid), (2, .agg s.cs.toArray), (3, .pointer (some ⟨g3, 0, none⟩)), (5, .pointer (some ⟨g5, 0, none⟩)), (6, .pointer (some ⟨g6, 0, none⟩)), (7, .int .i64 0), (9, .bool true), (10, .int .i64 ((ks.length : Nat) : Int)), (11, .bool false), (16, .bool false), (25, .bool false), (44, .bool false)] := F.keep ⟨rfl, rfl, rfl, rfl, rfl, rfl, rfl, rfl, rfl, rfl, rfl, rfl, rfl, trivial⟩
  refine then_n ?_
  refine wp_cond_false (F.e rfl) ?_
  refine wp_skip ?_
  refine then_n ?_
  refine wp_seq ?_
  refine wp_region_lit ?_
  refine list_val F (wn rfl) rfl rfl (.pointer (some ⟨g3, 1, none⟩)) (ex_fa _ _ _ rfl _ (F.e rfl) 1 rb_fa_69_1_1 ⟨g3, 1, none⟩ rfl) ?_; clear F a; intro a F
  refine list_val F (wn rfl) rfl rfl (.int .u64 next) (ex_load _ _ rfl _ (F.e rfl) _ (lv1 rb_one_67 (M.cell (i := 3) rfl (j := 1) rfl))) ?_; clear F a; intro a F
  refine list_val F (wn rfl) rfl rfl (.agg #[.slice none 0 0, .int .u64 next]) (ex_build 69 _ rfl #[(1, .int .u64 next)] (parts1 (F.e rfl)) (.agg #[.slice none 0 0, .int .u64 next]) (build69_1 next _)) ?_; clear F a; intro a F
  refine list_do (wn rfl) (fun K hK => ?_)
  refine ow_alloc F M rfl rfl 69 rfl (.agg #[.slice none 0 0, .int .u64 0]) z69 #[.slice none 0 0, .int .u64 0] rfl ?_
  clear F M a; intro a g12 u F M hb hg
  refine hK _ _ ?_
  clear hK K
  clear hb hg; try clear v
  refine list_do (wn rfl) (fun K hK => ?_)
  refine ow_put F M rfl 69 _ _ rfl 0 _ #[.slice none 0 0, .int .u64 0] _ rfl (F.e rfl) #[.slice none 0 0, .int .u64 next] (F.e rfl) (sz_row (m := 2) rb_row_69_2) rfl (by simp [Value.oneCell']) ?_
  clear F a; have Mo := M; clear M; intro a v F M hgr
  refine hK _ _ ?_
  clear hK K
  clear Mo hgr; try clear u
  replace M : Mm w v [⟨g12, #[.slice none 0 0, .int .u64 next], 69⟩, ⟨g8, (findF kid ks next).arr, 107⟩, ⟨g6, #[.slice none 0 0, .int .u64 0], 69⟩, ⟨g5, s.cs.toArray, 70⟩, ⟨g3, #[.slice (some adr) ks.length c, .int .u64 next], 69⟩] := M
  refine wpList_nil ?_
  replace F : Fr 87 a [(0, .agg #[.slice (some adr) ks.length c, .int .u64 next]), (1, .int .u64 kid), (2, .agg s.cs.toArray), (3, .pointer (some ⟨g3, 0, none⟩)), (5, .pointer (some ⟨g5, 0, none⟩)), (6, .pointer (some ⟨g6, 0, none⟩)), (7, .int .i64 0), (9, .bool true), (10, .int .i64 ((ks.length : Nat) : Int)), (11, .bool false), (12, .pointer (some ⟨g12, 0, none⟩)), (16, .bool false), (25, .bool false), (44, .bool false)] := F.keep ⟨rfl, rfl, rfl, rfl, rfl, rfl, rfl, rfl, rfl, rfl, rfl, rfl, rfl, rfl, trivial⟩
  refine then_n ?_
  refine wp_seq ?_
  refine wp_seq ?_
  refine wp_region_lit ?_
  refine list_val F (wn rfl) rfl rfl (.int .i64 0) (ex_assign _ rfl _ rfl) ?_; clear F a; intro a F
  refine wpList_nil ?_
  replace F : Fr 87 a [(0, .agg #[.slice (some adr) ks.length c, .int .u64 next]), (1, .int .u64 kid), (2, .agg s.cs.toArray), (3, .pointer (some ⟨g3, 0, none⟩)), (5, .pointer (some ⟨g5, 0, none⟩)), (6, .pointer (some ⟨g6, 0, none⟩)), (7, .int .i64 0), (9, .bool true), (10, .int .i64 ((ks.length : Nat) : Int)), (11, .bool false), (12, .pointer (some ⟨g12, 0, none⟩)), (13, .int .i64 0), (16, .bool false), (25, .bool false), (44, .bool false)] := F.keep ⟨rfl, rfl, rfl, rfl, rfl, rfl, rfl, rfl, rfl, rfl, rfl, rfl, rfl, rfl, rfl, trivial⟩
  refine then_n ?_
  refine wp_block ?_
  refine wp_loopN (fun mq ar wr => ∃ (i : Nat), ∃ (B : Option Addr), ∃ (b : Nat), Fr 87 ar [(0, .agg #[.slice (some adr) ks.length c, .int .u64 next]), (1, .int .u64 kid), (2, .agg s.cs.toArray), (3, .pointer (some ⟨g3, 0, none⟩)), (5, .pointer (some ⟨g5, 0, none⟩)), (6, .pointer (some ⟨g6, 0, none⟩)), (7, .int .i64 0), (9, .bool true), (10, .int .i64 ((ks.length : Nat) : Int)), (11, .bool false), (12, .pointer (some ⟨g12, 0, none⟩)), (13, .int .i64 i), (16, .bool false), (25, .bool false), (44, .bool false)] ∧ Mm w wr [⟨g12, #[.slice B ((offK kid (ks.take i)).length) b, .int .u64 next], 69⟩, ⟨g6, #[.slice none 0 0, .int .u64 0], 69⟩, ⟨g5, s.cs.toArray, 70⟩, ⟨g3, #[.slice (some adr) ks.length c, .int .u64 next], 69⟩] ∧ OwnKeys wr w.heap.size (.slice B (offK kid (ks.take i)).length b) (offK kid (ks.take i)) ∧ i ≤ ks.length ∧ mq + i = ks.length) ks.length ?_ ?_
  ·
   exact ⟨0, none, 0, F.keep ⟨rfl, rfl, rfl, rfl, rfl, rfl, rfl, rfl, rfl, rfl, rfl, rfl, rfl, rfl, rfl, trivial⟩, (by refine M.pick' [0, 2, 3, 4] _ ?_ (by decide); exact ⟨rfl, rfl, rfl, rfl, trivial⟩), (nil_own _ _), (Nat.zero_le _), (by omega)⟩
  clear F M a
  rintro mq a u ⟨i, B, b, F, M, O_x, hi, hq⟩; try clear v
  by_cases hin : i < ks.length
  ·
   obtain ⟨_, had, zi, _, _⟩ := at_Key hr (i : Int) (by omega) (by omega)
   obtain rfl := Option.some.inj had
   clear had
   rw [show (i : Int).toNat = i from rfl] at zi
   have hst := offK_step (kid := kid) hin
   have hpl := @offK_len ks kid i
   by_cases c1 : (rdK ks (i : Int)).kid = kid
   ·
    rw [if_neg (by simp [c1]), List.append_nil] at hst
    refine wp_seq ?_
    refine wp_seq ?_
    refine wp_region_lit ?_
    refine list_val F (wn rfl) rfl rfl (.int .i64 i) (ex_move _ rfl _ (F.e rfl)) ?_; clear F a; intro a F
    refine list_val F (wn rfl) rfl rfl (.int .i64 ((ks.length : Nat) : Int)) (ex_move _ rfl _ (F.e rfl)) ?_; clear F a; intro a F
    refine list_val F (wn rfl) rfl rfl (.bool true) (ex_bin .lss _ _ _ _ rfl .i64 _ _ (F.e rfl) (F.e rfl) _ (b_lss (decide_eq_true (by omega)))) ?_; clear F a; intro a F
    refine wpList_nil ?_
    replace F : Fr 87 a [(0, .agg #[.slice (some adr) ks.length c, .int .u64 next]), (1, .int .u64 kid), (2, .agg s.cs.toArray), (3, .pointer (some ⟨g3, 0, none⟩)), (5, .pointer (some ⟨g5, 0, none⟩)), (6, .pointer (some ⟨g6, 0, none⟩)), (7, .int .i64 0), (9, .bool true), (10, .int .i64 ((ks.length : Nat) : Int)), (11, .bool false), (12, .pointer (some ⟨g12, 0, none⟩)), (13, .int .i64 i), (16, .bool false), (25, .bool false), (44, .bool false), (51, .bool true)] := F.keep ⟨rfl, rfl, rfl, rfl, rfl, rfl, rfl, rfl, rfl, rfl, rfl, rfl, rfl, rfl, rfl, rfl, trivial⟩
    refine then_n ?_
    refine wp_cond_true (F.e rfl) ?_
    refine wp_skip ?_
    refine then_n ?_
    refine wp_seq ?_
    refine wp_block ?_
    refine wp_seq ?_
    refine wp_region_lit ?_
    refine list_val F (wn rfl) rfl rfl (.pointer (some ⟨g3, 0, none⟩)) (ex_fa _ _ _ rfl _ (F.e rfl) 0 rb_fa_69_0_0 ⟨g3, 0, none⟩ rfl) ?_; clear F a; intro a F
    refine list_val F (wn rfl) rfl rfl (.slice (some adr) ks.length c) (ex_load _ _ rfl _ (F.e rfl) _ (lv1 rb_one_55 (M.cell (i := 3) rfl (j := 0) rfl))) ?_; clear F a; intro a F
    refine list_val F (wn rfl) rfl rfl (.int .i64 i) (ex_move _ rfl _ (F.e rfl)) ?_; clear F a; intro a F
    refine list_val F (wn rfl) rfl rfl (.pointer (some (adr.add (i * 34)))) (ex_ix _ _ _ rfl 34 rb_sl_55_34 adr _ _ (F.e rfl) .i64 _ (F.e rfl) i rfl (by omega) (adr.add (i * 34)) rfl) ?_; clear F a; intro a F
    refine list_val F (wn rfl) rfl rfl (.pointer (some (adr.add (i * 34)))) (ex_fa _ _ _ rfl _ (F.e rfl) 0 rb_fa_107_0_0 (adr.add (i * 34)) rfl) ?_; clear F a; intro a F
    refine list_val F (wn rfl) rfl rfl (.int .u64 ((rdK ks (i : Int)).kid)) (ex_load _ _ rfl _ (F.e rfl) _ (lv1 rb_one_67 ((zi.below M.bel).cell 0 _ (Key.cs_0 _)))) ?_; clear F a; intro a F
    refine list_val F (wn rfl) rfl rfl (.int .u64 kid) (ex_move _ rfl _ (F.e rfl)) ?_; clear F a; intro a F
    refine list_val F (wn rfl) rfl rfl (.bool false) (ex_bin .neq _ _ _ _ rfl .u64 _ _ (F.e rfl) (F.e rfl) _ (b_neq (by simp [c1]))) ?_; clear F a; intro a F
    refine wpList_nil ?_
    replace F : Fr 87 a [(0, .agg #[.slice (some adr) ks.length c, .int .u64 next]), (1, .int .u64 kid), (2, .agg s.cs.toArray), (3, .pointer (some ⟨g3, 0, none⟩)), (5, .pointer (some ⟨g5, 0, none⟩)), (6, .pointer (some ⟨g6, 0, none⟩)), (7, .int .i64 0), (9, .bool true), (10, .int .i64 ((ks.length : Nat) : Int)), (11, .bool false), (12, .pointer (some ⟨g12, 0, none⟩)), (13, .int .i64 i), (16, .bool false), (25, .bool false), (44, .bool false), (51, .bool true), (61, .bool false)] := F.keep ⟨rfl, rfl, rfl, rfl, rfl, rfl, rfl, rfl, rfl, rfl, rfl, rfl, rfl, rfl, rfl, rfl, rfl, trivial⟩
    refine then_n ?_
    refine wp_cond_false (F.e rfl) ?_
    refine wp_skip ?_
    refine in_n ?_
    refine then_n ?_
    refine wp_region_lit ?_
    refine list_val F (wn rfl) rfl rfl (.int .i64 i) (ex_move _ rfl _ (F.e rfl)) ?_; clear F a; intro a F
    refine list_val F (wn rfl) rfl rfl (.int .i64 (i + 1)) (ex_bin .add _ _ _ _ rfl .i64 _ _ (F.e rfl) rfl _ (b_add (w_i64 (by omega) (by omega)))) ?_; clear F a; intro a F
    refine list_val F (wn rfl) rfl rfl (.int .i64 (i + 1)) (ex_assign _ rfl _ (F.e rfl)) ?_; clear F a; intro a F
    refine wpList_nil ?_
    replace F : Fr 87 a [(0, .agg #[.slice (some adr) ks.length c, .int .u64 next]), (1, .int .u64 kid), (2, .agg s.cs.toArray), (3, .pointer (some ⟨g3, 0, none⟩)), (5, .pointer (some ⟨g5, 0, none⟩)), (6, .pointer (some ⟨g6, 0, none⟩)), (7, .int .i64 0), (9, .bool true), (10, .int .i64 ((ks.length : Nat) : Int)), (11, .bool false), (12, .pointer (some ⟨g12, 0, none⟩)), (13, .int .i64 (i + 1)), (16, .bool false), (25, .bool false), (44, .bool false), (51, .bool true), (61, .bool false)] := F.keep ⟨rfl, rfl, rfl, rfl, rfl, rfl, rfl, rfl, rfl, rfl, rfl, rfl, rfl, rfl, rfl, rfl, rfl, trivial⟩
    refine then_n ?_
    rw [← hst] at M O_x
    exact ⟨ks.length - (i + 1), by omega, (i + 1), B, b, F.keep ⟨rfl, rfl, rfl, rfl, rfl, rfl, rfl, rfl, rfl, rfl, rfl, rfl, rfl, rfl, rfl, trivial⟩, (by refine M.pick' [0, 1, 2, 3] _ ?_ (by decide); exact ⟨rfl, rfl, rfl, rfl, trivial⟩), O_x, (by omega), (by omega)⟩
   rw [if_pos (by simp [c1])] at hst
   refine wp_seq ?_
   refine wp_seq ?_
   refine wp_region_lit ?_
   refine list_val F (wn rfl) rfl rfl (.int .i64 i) (ex_move _ rfl _ (F.e rfl)) ?_; clear F a; intro a F
   refine list_val F (wn rfl) rfl rfl (.int .i64 ((ks.length : Nat) : Int)) (ex_move _ rfl _ (F.e rfl)) ?_; clear F a; intro a F
   refine list_val F (wn rfl) rfl rfl (.bool true) (ex_bin .lss _ _ _ _ rfl .i64 _ _ (F.e rfl) (F.e rfl) _ (b_lss (decide_eq_true (by omega)))) ?_; clear F a; intro a F
   refine wpList_nil ?_
   replace F : Fr 87 a [(0, .agg #[.slice (some adr) ks.length c, .int .u64 next]), (1, .int .u64 kid), (2, .agg s.cs.toArray), (3, .pointer (some ⟨g3, 0, none⟩)), (5, .pointer (some ⟨g5, 0, none⟩)), (6, .pointer (some ⟨g6, 0, none⟩)), (7, .int .i64 0), (9, .bool true), (10, .int .i64 ((ks.length : Nat) : Int)), (11, .bool false), (12, .pointer (some ⟨g12, 0, none⟩)), (13, .int .i64 i), (16, .bool false), (25, .bool false), (44, .bool false), (51, .bool true)] := F.keep ⟨rfl, rfl, rfl, rfl, rfl, rfl, rfl, rfl, rfl, rfl, rfl, rfl, rfl, rfl, rfl, rfl, trivial⟩
   refine then_n ?_
   refine wp_cond_true (F.e rfl) ?_
   refine wp_skip ?_
   refine then_n ?_
   refine wp_seq ?_
   refine wp_block ?_
   refine wp_seq ?_
   refine wp_region_lit ?_
   refine list_val F (wn rfl) rfl rfl (.pointer (some ⟨g3, 0, none⟩)) (ex_fa _ _ _ rfl _ (F.e rfl) 0 rb_fa_69_0_0 ⟨g3, 0, none⟩ rfl) ?_; clear F a; intro a F
   refine list_val F (wn rfl) rfl rfl (.slice (some adr) ks.length c) (ex_load _ _ rfl _ (F.e rfl) _ (lv1 rb_one_55 (M.cell (i := 3) rfl (j := 0) rfl))) ?_; clear F a; intro a F
   refine list_val F (wn rfl) rfl rfl (.int .i64 i) (ex_move _ rfl _ (F.e rfl)) ?_; clear F a; intro a F
   refine list_val F (wn rfl) rfl rfl (.pointer (some (adr.add (i * 34)))) (ex_ix _ _ _ rfl 34 rb_sl_55_34 adr _ _ (F.e rfl) .i64 _ (F.e rfl) i rfl (by omega) (adr.add (i * 34)) rfl) ?_; clear F a; intro a F
   refine list_val F (wn rfl) rfl rfl (.pointer (some (adr.add (i * 34)))) (ex_fa _ _ _ rfl _ (F.e rfl) 0 rb_fa_107_0_0 (adr.add (i * 34)) rfl) ?_; clear F a; intro a F
   refine list_val F (wn rfl) rfl rfl (.int .u64 ((rdK ks (i : Int)).kid)) (ex_load _ _ rfl _ (F.e rfl) _ (lv1 rb_one_67 ((zi.below M.bel).cell 0 _ (Key.cs_0 _)))) ?_; clear F a; intro a F
   refine list_val F (wn rfl) rfl rfl (.int .u64 kid) (ex_move _ rfl _ (F.e rfl)) ?_; clear F a; intro a F
   refine list_val F (wn rfl) rfl rfl (.bool true) (ex_bin .neq _ _ _ _ rfl .u64 _ _ (F.e rfl) (F.e rfl) _ (b_neq (by simp [c1]))) ?_; clear F a; intro a F
   refine wpList_nil ?_
   replace F : Fr 87 a [(0, .agg #[.slice (some adr) ks.length c, .int .u64 next]), (1, .int .u64 kid), (2, .agg s.cs.toArray), (3, .pointer (some ⟨g3, 0, none⟩)), (5, .pointer (some ⟨g5, 0, none⟩)), (6, .pointer (some ⟨g6, 0, none⟩)), (7, .int .i64 0), (9, .bool true), (10, .int .i64 ((ks.length : Nat) : Int)), (11, .bool false), (12, .pointer (some ⟨g12, 0, none⟩)), (13, .int .i64 i), (16, .bool false), (25, .bool false), (44, .bool false), (51, .bool true), (61, .bool true)] := F.keep ⟨rfl, rfl, rfl, rfl, rfl, rfl, rfl, rfl, rfl, rfl, rfl, rfl, rfl, rfl, rfl, rfl, rfl, trivial⟩
   refine then_n ?_
   refine wp_cond_true (F.e rfl) ?_
   refine wp_only (fun ar wr => ∃ (g69 : Nat), ∃ (A_70 : Option Addr), ∃ (c_70 : Nat), Fr 87 ar [(0, .agg #[.slice (some adr) ks.length c, .int .u64 next]), (1, .int .u64 kid), (2, .agg s.cs.toArray), (3, .pointer (some ⟨g3, 0, none⟩)), (5, .pointer (some ⟨g5, 0, none⟩)), (6, .pointer (some ⟨g6, 0, none⟩)), (7, .int .i64 0), (9, .bool true), (10, .int .i64 ((ks.length : Nat) : Int)), (11, .bool false), (12, .pointer (some ⟨g12, 0, none⟩)), (13, .int .i64 i), (16, .bool false), (25, .bool false), (44, .bool false), (51, .bool true), (61, .bool true)] ∧ Mm w wr [⟨g12, #[.slice A_70 (((offK kid (ks.take i)) ++ [(rdK ks (i : Int))]).length) c_70, .int .u64 next], 69⟩, ⟨g6, #[.slice none 0 0, .int .u64 0], 69⟩, ⟨g5, s.cs.toArray, 70⟩, ⟨g3, #[.slice (some adr) ks.length c, .int .u64 next], 69⟩] ∧ OwnKeys wr w.heap.size (.slice A_70 ((offK kid (ks.take i)) ++ [(rdK ks (i : Int))]).length c_70) ((offK kid (ks.take i)) ++ [(rdK ks (i : Int))])) ?_ ?_
   ·
    refine region_anyM rb_follows_mixedOrders M [⟨g3, #[.slice (some adr) ks.length c, .int .u64 next], 69⟩] (fun w' M => (by refine M.pick' [3] _ ?_ (by decide); exact ⟨rfl, trivial⟩)) ?_; clear M; intro wD M hb
    replace O_x := Kd.R_below O_x hb
    clear hb; try clear u
    have hS : Mm w wD [⟨g3, #[.slice (some adr) ks.length c, .int .u64 next], 69⟩] := (by refine M.pick' [3] _ ?_ (by decide); exact ⟨rfl, trivial⟩)
    refine any_val F 0 rfl (by kernel_rfl) (wn rfl) rfl rfl (.pointer (some ⟨g12, 0, none⟩)) (fun w' hS' => ex_fa _ _ _ rfl _ (F.e rfl) 0 rb_fa_69_0_0 ⟨g12, 0, none⟩ rfl) hS ?_; clear F a; intro a F
    refine any_val F 2 rfl (by kernel_rfl) (wn rfl) rfl rfl (.pointer (some ⟨g3, 0, none⟩)) (fun w' hS' => ex_fa _ _ _ rfl _ (F.e rfl) 0 rb_fa_69_0_0 ⟨g3, 0, none⟩ rfl) hS ?_; clear F a; intro a F
    refine any_val F 3 rfl (by kernel_rfl) (wn rfl) rfl rfl (.slice (some adr) ks.length c) (fun w' hS' => ex_load _ _ rfl _ (F.e rfl) _ (lv1 rb_one_55 (hS'.cell (i := 0) rfl (j := 0) rfl))) hS ?_; clear F a; intro a F
    refine any_val F 4 rfl (by kernel_rfl) (wn rfl) rfl rfl (.int .i64 i) (fun w' hS' => ex_move _ rfl _ (F.e rfl)) hS ?_; clear F a; intro a F
    refine any_val F 5 rfl (by kernel_rfl) (wn rfl) rfl rfl (.pointer (some (adr.add (i * 34)))) (fun w' hS' => ex_ix _ _ _ rfl 34 rb_sl_55_34 adr _ _ (F.e rfl) .i64 _ (F.e rfl) i rfl (by omega) (adr.add (i * 34)) rfl) hS ?_; clear F a; intro a F
    refine any_val F 6 rfl (by kernel_rfl) (wn rfl) rfl rfl (.agg ((rdK ks (i : Int)).arr)) (fun w' hS' => ex_load _ _ rfl _ (F.e rfl) _ (lvr (cs := (rdK ks (i : Int)).cs) (by rw [Key.cs_len]; exact rb_row_107_34) ((zi.below hS'.bel)))) hS ?_; clear F a; intro a F
    refine any_ready [1, 7] (by kernel_rfl) (by simp) ?_
    refine ready_do rfl (wn rfl) (fun K hK => ?_) ?_
    ·
     refine ow_val F rfl rfl (.slice B ((offK kid (ks.take i)).length) b) (ex_load _ _ rfl _ (F.e rfl) _ (lv1 rb_one_55 (M.cell (i := 0) rfl (j := 0) rfl))) ?_; clear F a; intro a F
     replace hS : Mm w wD [⟨g3, #[.slice (some adr) ks.length c, .int .u64 next], 69⟩] := (by refine M.pick' [3] _ ?_ (by decide); exact ⟨rfl, trivial⟩)
     refine hK _ _ hS ?_
     clear hK K
     refine any_ready [7] (by kernel_rfl) (by simp) ?_
     refine ready_do rfl (wn rfl) (fun K hK => ?_) AllReadyH.nil
     refine ow_bslice F M rfl rfl 55 1 _ rfl #[(0, .agg ((rdK ks (i : Int)).arr))] (parts1 (F.e rfl)) ((rdK ks (i : Int)).arr) 107 (newKeys (rdK ks (i : Int)) _) ?_
     clear F M a; intro a g69 v F M hb hg
     replace hS : Mm w v [⟨g3, #[.slice (some adr) ks.length c, .int .u64 next], 69⟩] := (by refine M.pick' [4] _ ?_ (by decide); exact ⟨rfl, trivial⟩)
     refine hK _ _ hS ?_
     clear hK K
     replace O_x := Kd.R_below O_x hb
     clear hb hg; try clear wD
     refine any_ready [8] (by kernel_rfl) (by simp) ?_
     refine ready_do rfl (wn rfl) (fun K hK => ?_) AllReadyH.nil
     have hks := kKey_one (rdK ks (i : Int)) (M.at (i := 0) rfl)
     replace M : Mm w v [⟨g12, #[.slice B ((offK kid (ks.take i)).length) b, .int .u64 next], 69⟩, ⟨g6, #[.slice none 0 0, .int .u64 0], 69⟩, ⟨g5, s.cs.toArray, 70⟩, ⟨g3, #[.slice (some adr) ks.length c, .int .u64 next], 69⟩] := (by refine M.pick' [1, 2, 3, 4] _ ?_ (by decide); exact ⟨rfl, rfl, rfl, rfl, trivial⟩)
     refine ow_ownapp F M rfl rfl rfl rfl _ _ rfl _ _ _ (offK kid (ks.take i)) [(rdK ks (i : Int))] _ 1 1 (F.e rfl) (F.e rfl) O_x hks (by omega) ?_
     clear F a M O_x hks; intro a A_70 c_70 u F M O_x
     replace hS : Mm w u [⟨g3, #[.slice (some adr) ks.length c, .int .u64 next], 69⟩] := (by refine M.pick' [3] _ ?_ (by decide); exact ⟨rfl, trivial⟩)
     refine hK _ _ hS ?_
     clear hK K
     try clear v
     refine any_val F 9 rfl (by kernel_rfl) (wn rfl) rfl rfl (.pointer (some ⟨g12, 0, none⟩)) (fun w' hS' => ex_fa _ _ _ rfl _ (F.e rfl) 0 rb_fa_69_0_0 ⟨g12, 0, none⟩ rfl) hS ?_; clear F a; intro a F
     refine any_ready [10] (by kernel_rfl) (by simp) ?_
     refine ready_do rfl (wn rfl) (fun K hK => ?_) AllReadyH.nil
     refine ow_store F M rfl 55 _ _ rfl 0 g12 _ _ rfl 0 (F.e rfl) _ (F.e rfl) [.slice A_70 (((offK kid (ks.take i)) ++ [(rdK ks (i : Int))]).length) c_70] rfl rb_info_55_map_size_some_1 (by simp) (by simp [Value.oneCell']) #[.slice A_70 (((offK kid (ks.take i)) ++ [(rdK ks (i : Int))]).length) c_70, .int .u64 next] rfl ?_
     clear F a; have Mo := M; clear M; intro a v F M hgr
     replace hS : Mm w v [⟨g3, #[.slice (some adr) ks.length c, .int .u64 next], 69⟩] := (by refine M.pick' [3] _ ?_ (by decide); exact ⟨rfl, trivial⟩)
     refine hK _ _ hS ?_
     clear hK K
     replace O_x := own_grown O_x (Mo.blk 0 _ rfl) (by show 107 ≠ 69; decide) hgr
     clear Mo hgr; try clear u
     replace M : Mm w v [⟨g12, #[.slice A_70 (((offK kid (ks.take i)) ++ [(rdK ks (i : Int))]).length) c_70, .int .u64 next], 69⟩, ⟨g6, #[.slice none 0 0, .int .u64 0], 69⟩, ⟨g5, s.cs.toArray, 70⟩, ⟨g3, #[.slice (some adr) ks.length c, .int .u64 next], 69⟩] := M
     refine any_done (by kernel_rfl) ?_
     exact ⟨g69, A_70, c_70, F.keep ⟨rfl, rfl, rfl, rfl, rfl, rfl, rfl, rfl, rfl, rfl, rfl, rfl, rfl, rfl, rfl, rfl, rfl, trivial⟩, (by refine M.pick' [0, 1, 2, 3] _ ?_ (by decide); exact ⟨rfl, rfl, rfl, rfl, trivial⟩), O_x⟩
    refine ready_do rfl (wn rfl) (fun K hK => ?_) AllReadyH.nil
    refine ow_bslice F M rfl rfl 55 1 _ rfl #[(0, .agg ((rdK ks (i : Int)).arr))] (parts1 (F.e rfl)) ((rdK ks (i : Int)).arr) 107 (newKeys (rdK ks (i : Int)) _) ?_
    clear F M a; intro a g69 v F M hb hg
    replace hS : Mm w v [⟨g3, #[.slice (some adr) ks.length c, .int .u64 next], 69⟩] := (by refine M.pick' [4] _ ?_ (by decide); exact ⟨rfl, trivial⟩)
    refine hK _ _ hS ?_
    clear hK K
    replace O_x := Kd.R_below O_x hb
    clear hb hg; try clear wD
    refine any_ready [1] (by kernel_rfl) (by simp) ?_
    refine ready_do rfl (wn rfl) (fun K hK => ?_) AllReadyH.nil
    refine ow_val F rfl rfl (.slice B ((offK kid (ks.take i)).length) b) (ex_load _ _ rfl _ (F.e rfl) _ (lv1 rb_one_55 (M.cell (i := 1) rfl (j := 0) rfl))) ?_; clear F a; intro a F
    replace hS : Mm w v [⟨g3, #[.slice (some adr) ks.length c, .int .u64 next], 69⟩] := (by refine M.pick' [4] _ ?_ (by decide); exact ⟨rfl, trivial⟩)
    refine hK _ _ hS ?_
    clear hK K
    refine any_ready [8] (by kernel_rfl) (by simp) ?_
    refine ready_do rfl (wn rfl) (fun K hK => ?_) AllReadyH.nil
    have hks := kKey_one (rdK ks (i : Int)) (M.at (i := 0) rfl)
    replace M : Mm w v [⟨g12, #[.slice B ((offK kid (ks.take i)).length) b, .int .u64 next], 69⟩, ⟨g6, #[.slice none 0 0, .int .u64 0], 69⟩, ⟨g5, s.cs.toArray, 70⟩, ⟨g3, #[.slice (some adr) ks.length c, .int .u64 next], 69⟩] := (by refine M.pick' [1, 2, 3, 4] _ ?_ (by decide); exact ⟨rfl, rfl, rfl, rfl, trivial⟩)
    refine ow_ownapp F M rfl rfl rfl rfl _ _ rfl _ _ _ (offK kid (ks.take i)) [(rdK ks (i : Int))] _ 1 1 (F.e rfl) (F.e rfl) O_x hks (by omega) ?_
    clear F a M O_x hks; intro a A_70 c_70 u F M O_x
    replace hS : Mm w u [⟨g3, #[.slice (some adr) ks.length c, .int .u64 next], 69⟩] := (by refine M.pick' [3] _ ?_ (by decide); exact ⟨rfl, trivial⟩)
    refine hK _ _ hS ?_
    clear hK K
    try clear v
    refine any_val F 9 rfl (by kernel_rfl) (wn rfl) rfl rfl (.pointer (some ⟨g12, 0, none⟩)) (fun w' hS' => ex_fa _ _ _ rfl _ (F.e rfl) 0 rb_fa_69_0_0 ⟨g12, 0, none⟩ rfl) hS ?_; clear F a; intro a F
    refine any_ready [10] (by kernel_rfl) (by simp) ?_
    refine ready_do rfl (wn rfl) (fun K hK => ?_) AllReadyH.nil
    refine ow_store F M rfl 55 _ _ rfl 0 g12 _ _ rfl 0 (F.e rfl) _ (F.e rfl) [.slice A_70 (((offK kid (ks.take i)) ++ [(rdK ks (i : Int))]).length) c_70] rfl rb_info_55_map_size_some_1 (by simp) (by simp [Value.oneCell']) #[.slice A_70 (((offK kid (ks.take i)) ++ [(rdK ks (i : Int))]).length) c_70, .int .u64 next] rfl ?_
    clear F a; have Mo := M; clear M; intro a v F M hgr
    replace hS : Mm w v [⟨g3, #[.slice (some adr) ks.length c, .int .u64 next], 69⟩] := (by refine M.pick' [3] _ ?_ (by decide); exact ⟨rfl, trivial⟩)
    refine hK _ _ hS ?_
    clear hK K
    replace O_x := own_grown O_x (Mo.blk 0 _ rfl) (by show 107 ≠ 69; decide) hgr
    clear Mo hgr; try clear u
    replace M : Mm w v [⟨g12, #[.slice A_70 (((offK kid (ks.take i)) ++ [(rdK ks (i : Int))]).length) c_70, .int .u64 next], 69⟩, ⟨g6, #[.slice none 0 0, .int .u64 0], 69⟩, ⟨g5, s.cs.toArray, 70⟩, ⟨g3, #[.slice (some adr) ks.length c, .int .u64 next], 69⟩] := M
    refine any_done (by kernel_rfl) ?_
    exact ⟨g69, A_70, c_70, F.keep ⟨rfl, rfl, rfl, rfl, rfl, rfl, rfl, rfl, rfl, rfl, rfl, rfl, rfl, rfl, rfl, rfl, rfl, trivial⟩, (by refine M.pick' [0, 1, 2, 3] _ ?_ (by decide); exact ⟨rfl, rfl, rfl, rfl, trivial⟩), O_x⟩
   clear F M a O_x
   intro a v hR; obtain ⟨g69, A_70, c_70, F, M, O_x⟩ := hR; try clear u
   refine in_n ?_
   refine then_n ?_
   refine wp_region_lit ?_
   refine list_val F (wn rfl) rfl rfl (.int .i64 i) (ex_move _ rfl _ (F.e rfl)) ?_; clear F a; intro a F
   refine list_val F (wn rfl) rfl rfl (.int .i64 (i + 1)) (ex_bin .add _ _ _ _ rfl .i64 _ _ (F.e rfl) rfl _ (b_add (w_i64 (by omega) (by omega)))) ?_; clear F a; intro a F
   refine list_val F (wn rfl) rfl rfl (.int .i64 (i + 1)) (ex_assign _ rfl _ (F.e rfl)) ?_; clear F a; intro a F
   refine wpList_nil ?_
   replace F : Fr 87 a [(0, .agg #[.slice (some adr) ks.length c, .int .u64 next]), (1, .int .u64 kid), (2, .agg s.cs.toArray), (3, .pointer (some ⟨g3, 0, none⟩)), (5, .pointer (some ⟨g5, 0, none⟩)), (6, .pointer (some ⟨g6, 0, none⟩)), (7, .int .i64 0), (9, .bool true), (10, .int .i64 ((ks.length : Nat) : Int)), (11, .bool false), (12, .pointer (some ⟨g12, 0, none⟩)), (13, .int .i64 (i + 1)), (16, .bool false), (25, .bool false), (44, .bool false), (51, .bool true), (61, .bool true)] := F.keep ⟨rfl, rfl, rfl, rfl, rfl, rfl, rfl, rfl, rfl, rfl, rfl, rfl, rfl, rfl, rfl, rfl, rfl, trivial⟩
   refine then_n ?_
   rw [← hst] at M O_x
   exact ⟨ks.length - (i + 1), by omega, (i + 1), A_70, c_70, F.keep ⟨rfl, rfl, rfl, rfl, rfl, rfl, rfl, rfl, rfl, rfl, rfl, rfl, rfl, rfl, rfl, trivial⟩, (by refine M.pick' [0, 1, 2, 3] _ ?_ (by decide); exact ⟨rfl, rfl, rfl, rfl, trivial⟩), O_x, (by omega), (by omega)⟩
  obtain rfl : i = ks.length := by omega
  have hpl := @offK_len ks kid ks.length
  rw [List.take_length] at M O_x hpl
  refine wp_seq ?_
  refine wp_seq ?_
  refine wp_region_lit ?_
  refine list_val F (wn rfl) rfl rfl (.int .i64 ks.length) (ex_move _ rfl _ (F.e rfl)) ?_; clear F a; intro a F
  refine list_val F (wn rfl) rfl rfl (.int .i64 ((ks.length : Nat) : Int)) (ex_move _ rfl _ (F.e rfl)) ?_; clear F a; intro a F
  refine list_val F (wn rfl) rfl rfl (.bool false) (ex_bin .lss _ _ _ _ rfl .i64 _ _ (F.e rfl) (F.e rfl) _ (b_lss (decide_eq_false (by omega)))) ?_; clear F a; intro a F
  refine wpList_nil ?_
  replace F : Fr 87 a [(0, .agg #[.slice (some adr) ks.length c, .int .u64 next]), (1, .int .u64 kid), (2, .agg s.cs.toArray), (3, .pointer (some ⟨g3, 0, none⟩)), (5, .pointer (some ⟨g5, 0, none⟩)), (6, .pointer (some ⟨g6, 0, none⟩)), (7, .int .i64 0), (9, .bool true), (10, .int .i64 ((ks.length : Nat) : Int)), (11, .bool false), (12, .pointer (some ⟨g12, 0, none⟩)), (13, .int .i64 ks.length), (16, .bool false), (25, .bool false), (44, .bool false), (51, .bool false)] := F.keep ⟨rfl, rfl, rfl, rfl, rfl, rfl, rfl, rfl, rfl, rfl, rfl, rfl, rfl, rfl, rfl, rfl, trivial⟩
  refine then_n ?_
  refine wp_cond_false (F.e rfl) ?_
  refine wp_exit ?_
  refine then_x ?_
  refine then_x ?_
  refine in_hit ?_
  refine then_n ?_
  refine wp_seq ?_
  refine wp_seq ?_
  refine wp_region_lit ?_
  refine list_val F (wn rfl) rfl rfl (.bool false) (ex_move _ rfl _ (F.e rfl)) ?_; clear F a; intro a F
  refine wpList_nil ?_
  replace F : Fr 87 a [(0, .agg #[.slice (some adr) ks.length c, .int .u64 next]), (1, .int .u64 kid), (2, .agg s.cs.toArray), (3, .pointer (some ⟨g3, 0, none⟩)), (5, .pointer (some ⟨g5, 0, none⟩)), (6, .pointer (some ⟨g6, 0, none⟩)), (7, .int .i64 0), (9, .bool true), (10, .int .i64 ((ks.length : Nat) : Int)), (11, .bool false), (12, .pointer (some ⟨g12, 0, none⟩)), (13, .int .i64 ks.length), (16, .bool false), (25, .bool false), (44, .bool false), (51, .bool false), (72, .bool false)] := F.keep ⟨rfl, rfl, rfl, rfl, rfl, rfl, rfl, rfl, rfl, rfl, rfl, rfl, rfl, rfl, rfl, rfl, rfl, trivial⟩
  refine then_n ?_
  refine wp_cond_false (F.e rfl) ?_
  refine wp_skip ?_
  refine then_n ?_
  refine wp_seq ?_
  refine wp_region_lit ?_
  refine list_val F (wn rfl) rfl rfl (.agg #[.slice B ((offK kid ks).length) b, .int .u64 next]) (ex_load _ _ rfl _ (F.e rfl) _ (lvr (cs := [.slice B ((offK kid ks).length) b, .int .u64 next]) rb_row_69_2 (M.at (i := 0) rfl))) ?_; clear F a; intro a F
  refine list_do (wn rfl) (fun K hK => ?_)
  refine ow_put F M rfl 69 _ _ rfl 1 _ #[.slice none 0 0, .int .u64 0] _ rfl (F.e rfl) #[.slice B ((offK kid ks).length) b, .int .u64 next] (F.e rfl) (sz_row (m := 2) rb_row_69_2) rfl (by simp [Value.oneCell']) ?_
  clear F a; have Mo := M; clear M; intro a v F M hgr
  refine hK _ _ ?_
  clear hK K
  replace O_x := own_grown O_x (Mo.blk 1 _ rfl) (by show 107 ≠ 69; decide) hgr
  clear Mo hgr; try clear u
  replace M : Mm w v [⟨g12, #[.slice B ((offK kid ks).length) b, .int .u64 next], 69⟩, ⟨g6, #[.slice B ((offK kid ks).length) b, .int .u64 next], 69⟩, ⟨g5, s.cs.toArray, 70⟩, ⟨g3, #[.slice (some adr) ks.length c, .int .u64 next], 69⟩] := M
  refine list_val F (wn rfl) rfl rfl (.int .i64 0) (ex_assign _ rfl _ rfl) ?_; clear F a; intro a F
  refine wpList_nil ?_
  replace F : Fr 87 a [(0, .agg #[.slice (some adr) ks.length c, .int .u64 next]), (1, .int .u64 kid), (2, .agg s.cs.toArray), (3, .pointer (some ⟨g3, 0, none⟩)), (5, .pointer (some ⟨g5, 0, none⟩)), (6, .pointer (some ⟨g6, 0, none⟩)), (7, .int .i64 0), (9, .bool true), (10, .int .i64 ((ks.length : Nat) : Int)), (11, .bool false), (12, .pointer (some ⟨g12, 0, none⟩)), (13, .int .i64 ks.length), (16, .bool false), (25, .bool false), (44, .bool false), (51, .bool false), (72, .bool false)] := F.keep ⟨rfl, rfl, rfl, rfl, rfl, rfl, rfl, rfl, rfl, rfl, rfl, rfl, rfl, rfl, rfl, rfl, rfl, trivial⟩
  refine then_n ?_
  refine wp_ret ?_
  rw [dis_old hk hf hm hcu]
  exact ret_c2 (v := .agg #[.slice B ((offK kid ks).length) b, .int .u64 next]) F rfl rfl rfl (lvr (cs := [.slice B ((offK kid ks).length) b, .int .u64 next]) rb_row_69_2 (M.at (i := 1) rfl)) ⟨B, b, rfl, O_x, M.bel⟩
 rw [Bool.not_eq_true] at hk
 refine wp_region_lit ?_
 refine list_val F (wn rfl) rfl rfl (.agg #[.slice A ks.length c, .int .u64 next]) (ex_load _ _ rfl _ (F.e rfl) _ (lvr (cs := [.slice A ks.length c, .int .u64 next]) rb_row_69_2 (M.at (i := 2) rfl))) ?_; clear F a; intro a F
 refine list_do (wn rfl) (fun K hK => ?_)
 have hcl := Kd.C_below hr M.bel
 refine ow_call rfl rfl F 33 #[.agg #[.slice A ks.length c, .int .u64 next]] (ex_call 33 _ _ rfl rfl rb_ent_33 _ (map1 (F.e rfl))) (refCheck_any ks _ c next _ hcl hc) (fun e u hR => ?_)
 obtain ⟨he, hb⟩ := hR
 refine ⟨.int .i64 (errK ks next), he, ?_⟩; clear he F a; intro a F
 refine hK _ _ ?_
 clear hK K
 replace M := M.below hb; clear hb; try clear v
 clear hcl
 refine list_val F (wn rfl) rfl rfl (.bool true) (ex_bin .neq _ _ _ _ rfl .i64 _ _ (F.e rfl) rfl _ (b_neq (by rw [errK_no hk]; decide))) ?_; clear F a; intro a F
 refine wpList_nil ?_
 replace F : Fr 87 a [(0, .agg #[.slice A ks.length c, .int .u64 next]), (1, .int .u64 kid), (2, .agg s.cs.toArray), (3, .pointer (some ⟨g3, 0, none⟩)), (5, .pointer (some ⟨g5, 0, none⟩)), (6, .pointer (some ⟨g6, 0, none⟩)), (7, .int .i64 0), (16, .bool true)] := F.keep ⟨rfl, rfl, rfl, rfl, rfl, rfl, rfl, rfl, trivial⟩
 refine then_n ?_
 refine wp_cond_true (F.e rfl) ?_
 refine wp_seq ?_
 refine wp_region_lit ?_
 refine list_val F (wn rfl) rfl rfl (.agg #[.slice none 0 0, .int .u64 0]) (ex_build 69 _ rfl #[] parts0 (.agg #[.slice none 0 0, .int .u64 0]) (build69_0 _)) ?_; clear F a; intro a F
 refine list_do (wn rfl) (fun K hK => ?_)
 refine ow_put F M rfl 69 _ _ rfl 0 _ #[.slice none 0 0, .int .u64 0] _ rfl (F.e rfl) #[.slice none 0 0, .int .u64 0] (F.e rfl) (sz_row (m := 2) rb_row_69_2) rfl (by simp [Value.oneCell']) ?_
 clear F a; have Mo := M; clear M; intro a v F M hgr
 refine hK _ _ ?_
 clear hK K
 clear Mo hgr; try clear u
 replace M : Mm w v [⟨g6, #[.slice none 0 0, .int .u64 0], 69⟩, ⟨g5, s.cs.toArray, 70⟩, ⟨g3, #[.slice A ks.length c, .int .u64 next], 69⟩] := M
 refine list_val F (wn rfl) rfl rfl (.int .i64 50) (ex_assign _ rfl _ rfl) ?_; clear F a; intro a F
 refine wpList_nil ?_
 replace F : Fr 87 a [(0, .agg #[.slice A ks.length c, .int .u64 next]), (1, .int .u64 kid), (2, .agg s.cs.toArray), (3, .pointer (some ⟨g3, 0, none⟩)), (5, .pointer (some ⟨g5, 0, none⟩)), (6, .pointer (some ⟨g6, 0, none⟩)), (7, .int .i64 50), (16, .bool true)] := F.keep ⟨rfl, rfl, rfl, rfl, rfl, rfl, rfl, rfl, trivial⟩
 refine then_n ?_
 refine wp_ret ?_
 refine then_r ?_
 rw [dis_bad hk]
 exact ret_c2 (v := .agg #[.slice none 0 0, .int .u64 0]) F rfl rfl rfl (lvr (cs := [.slice none 0 0, .int .u64 0]) rb_row_69_2 (M.at (i := 0) rfl)) ⟨none, 0, rfl, nil_own _ _, M.bel⟩
end Go.Proofs.Ytnechcibpmjblaa
