/- Package radix: read (23), Bytes64 (14), BytesPad (15), TextPad (8), Text16 (6), Text10 (18); num, before, Within. Conditions: the bytes are read, the texts have at most 1000000 bytes. -/
import Derived.Test.YtadaacoddfkalaaDoorG1
namespace Go.Proofs.YtadaacoddfkalaaDoor
open Go.RowKit Go.Proofs.YtadaacoddfkalaaDoorW.PrintWords KB WG RO
set_option linter.unusedVariables false
set_option linter.unusedSimpArgs false
set_option linter.unnecessarySimpa false
theorem z5s : (Value.int .u8 0).cells.size = 1 := rfl
theorem i_quo (a b : Nat) (h : a ≤ 4611686018427387904) : IntKind.i64.wrap ((a : Int).tdiv (b : Int)) = ((a / b : Nat) : Int) := by
  rw [show ((a : Int)).tdiv (b : Int) = ((a / b : Nat) : Int) from rfl]
  have := Nat.div_le_self a b
  generalize a / b = q at *
  exact w_i64 (by omega) (by omega)
theorem i_rem (a b : Nat) : (a : Int).tmod (b : Int) = ((a % b : Nat) : Int) := rfl
theorem index_ix : ∀ (l : List UInt8) (c : UInt8), Lib.indexByte l c = match ix l c with | none => -1 | some k => (k : Int)
  | [], c => rfl
  | b :: l, c => by
    have ih := index_ix l c
    unfold ix at ih ⊢
    rw [List.findIdx?_cons, Lib.indexByte]
    by_cases h : (b == c) = true
    · rw [if_pos h, if_pos h]
      rfl
    · rw [if_neg h, if_neg h, ih]
      cases hq : List.findIdx? (fun x => x == c) l with
      | none => rfl
      | some k =>
        simp only [Option.map_some]
        rw [if_neg (by simp)]
        show (k : Int) + 1 = ((k + 1 : Nat) : Int)
        omega
theorem index_none {l : List UInt8} {c : UInt8} (h : ix l c = none) : Lib.indexByte l c = -1 := by rw [index_ix, h]
theorem index_some {l : List UInt8} {c : UInt8} {k : Nat} (h : ix l c = some k) : Lib.indexByte l c = (k : Int) := by rw [index_ix, h]
theorem byte_back (c : UInt8) : (((c.toNat : Nat) : Int)).toNat.toUInt8 = c := by simp
/-- What is read of a text: the bytes, or none and the error's number. -/
def rdR (set s : List UInt8) (right : Bool) : List UInt8 × Int := match dec set (0, 0, []) s with
  | none => ([], 10)
  | some st => if right = false then ([], 11) else if st.1 ≠ 0 then ([], 12) else (st.2.2, 0)
theorem rdR_none {set s : List UInt8} {r : Bool} (h : dec set (0, 0, []) s = none) : rdR set s r = ([], 10) := by unfold rdR; rw [h]
theorem rdR_len {set s : List UInt8} {st : DS} (h : dec set (0, 0, []) s = some st) : rdR set s false = ([], 11) := by unfold rdR; rw [h]; rfl
theorem rdR_bits {set s : List UInt8} {n b : Nat} {o : List UInt8} (h : dec set (0, 0, []) s = some (n, b, o)) (hn : ¬ n = 0) : rdR set s true = ([], 12) := by unfold rdR; rw [h]; show (if true = false then _ else if n ≠ 0 then _ else _) = _; rw [if_neg (by decide), if_pos hn]
theorem rdR_ok {set s : List UInt8} {b : Nat} {o : List UInt8} (h : dec set (0, 0, []) s = some (0, b, o)) : rdR set s true = (o, 0) := by unfold rdR; rw [h]; rfl
theorem dec_snoc {set s : List UInt8} {i n b k : Nat} {o : List UInt8} {x : UInt8} (h : dec set (0, 0, []) (s.take i) = some (n, b, o)) (hx : s[i]? = some x) (hk : ix set x = some k) : dec set (0, 0, []) (s.take (i + 1)) = some (dput (n * 64 + k) (b + 6) o) := by
  rw [List.take_add_one, hx, Option.toList_some, dec_app, h]
  show dec set (n, b, o) [x] = _
  rw [dec_cons (st' := dput (n * 64 + k) (b + 6) o) (by unfold dstep; rw [hk])]
  rfl
theorem out_len {set s : List UInt8} {i n b : Nat} {o : List UInt8} (hs : set.length = 64) (hd : dec set (0, 0, []) s = some (n, b, o)) : DSok (n, b, o) ∧ o.length * 8 + b = s.length * 6 := by
  have key : ∀ (s : List UInt8) (st e : DS), DSok st → dec set st s = some e → DSok e ∧ e.2.2.length * 8 + e.2.1 = st.2.2.length * 8 + st.2.1 + s.length * 6 := by
    intro s
    induction s with
    | nil => intro st e h1 h2; obtain rfl := Option.some.inj h2; exact ⟨h1, by simp⟩
    | cons c r ih =>
      intro st e h1 h2
      have h2 : (match dstep set st c with | none => none | some st' => dec set st' r) = some e := h2
      cases h3 : dstep set st c with
      | none => rw [h3] at h2; cases h2
      | some st' =>
        rw [h3] at h2
        obtain ⟨h4, k, hk, hk2, h5⟩ := h1.step hs h3
        obtain ⟨h6, h7⟩ := ih st' e h4 h2
        refine ⟨h6, ?_⟩
        rw [h7, h5]
        unfold dput
        split
        · simp only [List.length_append, List.length_cons, List.length_nil]; omega
        · simp only [List.length_cons]; omega
  have h := key s (0, 0, []) (n, b, o) ⟨.inl rfl, by decide⟩ hd
  exact ⟨h.1, by have := h.2; simp at this; omega⟩
theorem or6 (a b : Nat) (h : b < 64) : a * 64 ||| b = a * 64 + b := ST.or_add' (n := 6) h
theorem and15 (a : Nat) : a &&& 15 = a % 16 := ST.and_mod a 4
theorem and3 (a : Nat) : a &&& 3 = a % 4 := ST.and_mod a 2
theorem and0 (a : Nat) : a &&& 0 = a % 1 := by rw [Nat.and_zero]; omega
theorem newby1 (b : UInt8) (w : World) : (Instr.buildSlice 28 1 #[(0, .int .u8 ((b.toNat : Nat) : Int))]).run Tryd.prog w = .ok (.slice (some ⟨w.heap.size, 0, none⟩) 1 1) (w.alloc (.cells ([b].flatMap ST.bc).toArray 5)) := by kernel_rfl
theorem newby2 (a b : UInt8) (w : World) : (Instr.buildSlice 28 2 #[(0, .int .u8 ((a.toNat : Nat) : Int)), (1, .int .u8 ((b.toNat : Nat) : Int))]).run Tryd.prog w = .ok (.slice (some ⟨w.heap.size, 0, none⟩) 2 2) (w.alloc (.cells ([a, b].flatMap ST.bc).toArray 5)) := by kernel_rfl
theorem newby0 (w : World) : (Instr.buildSlice 28 0 #[]).run Tryd.prog w = .ok (.slice (some ⟨w.heap.size, 0, none⟩) 0 0) (w.alloc (.cells ([].flatMap ST.bc).toArray 5)) := by kernel_rfl
theorem C_bytes {w : World} {ad : Addr} {l : List UInt8} (hm : l.length ≤ 9223372036854775807) (h : At w ad (l.flatMap ST.bc)) : ST.kB.C w (some ad) l.length l :=
  ⟨rfl, hm, fun _ => ⟨ad, rfl, fun k y hk => ⟨ST.bc y, rfl, rfl, fun j v hv => by
    match j, hv with
    | 0, hv =>
      obtain rfl := Option.some.inj hv
      have h2 := h k (.int .u8 (y.toNat : Int)) (by rw [ST.bc_flat, List.getElem?_map, hk]; rfl)
      exact (show w.cell? (ad.add (k * 1 + 0)) = _ by rw [Nat.mul_one]; exact h2)
    | j + 1, hv => cases hv⟩⟩⟩
section
variable {P : Program} {a : Act} {w w0 : World} {n : Nat} {L : List (Nat × Value)} {H : List Blk} {op : Oper} {K : Act → World → Prop} {Q : Exit → Act → World → Prop}
variable {α : Type} {enc : α → List Value} {m : Nat} {hl : ∀ x, (enc x).length = m} {h1 : ∀ x, ∀ u ∈ enc x, u.oneCell' = true}
/-- make([]T, 0, c). -/
theorem ow_make0 (F : Fr n a L) (M : Mm w0 w H) {t e b : Nat} {z : Value} (hu : P.underlying t = some (.slice e)) (hz : (P.info? e).map (fun i => (i.zero, i.size, i.bytes)) = some (some z, m, b)) {d : Nat} (hd : op.dst = some d) (hlt : Nat.blt d n = true) (x y : Operand) (ho : op.op = .makeSlice t x y) (hx : a.eval x = .int .i64 0) (i : Int) (hy : a.eval y = .int .i64 i) (c : Nat) (hi : i = (c : Int)) (hc : b * c ≤ 281474976710656) (hc2 : c ≤ maxLen)
    (h : ∀ a' g w', Fr n a' ((d, .slice (some ⟨g, 0, none⟩) 0 c) :: L) → Mm w0 w' H → Ow (kBlk enc m hl h1) e w' w0.heap.size (.slice (some ⟨g, 0, none⟩) 0 c) [] → Below w.heap.size w w' → K a' w') : op.wp P a w K Q := by
  subst hi
  obtain ⟨i0, hi, hzz⟩ := Option.map_eq_some_iff.1 hz
  simp only [Prod.mk.injEq] at hzz
  obtain ⟨hz0, hz1, hz2⟩ := hzz
  obtain ⟨w', hr, hown, hg⟩ := run_make_own (P := P) w w0.heap.size t e i0 z m hu hi hz0 hz1 .i64 .i64 c (by rw [hz2]; exact hc) hc2 M.bel.size
  have hb : Below w.heap.size w w' := (Below.refl _ w).grown hg (Nat.le_refl _) (fun k hk => by cases hk)
  unfold Oper.wp execOp
  simp only [ho, hx, hy, Sem.run_bind, hr, Result.andThen_ok, Sem.run_pure]
  exact (by rw [hd]; exact h _ _ w' (F.put _ hlt) (M.below hb) ⟨fun _ _ => trivial, [], hown, Reps.none _ _⟩ hb : K (a.put op.dst _) w')
end
def hxL (k : Nat) : UInt8 := sHex.getD k 0
theorem hx_get {k : Nat} (h : k < 16) : sHex[k]? = some (hxL k) := by
  unfold hxL
  rw [List.getD_eq_getElem?_getD, List.getElem?_eq_getElem (show k < sHex.length from h)]
  rfl
def hex16 (l : List UInt8) : List UInt8 := l.flatMap (fun b => [hxL (b.toNat / 16), hxL (b.toNat % 16)])
theorem hex16_snoc {l : List UInt8} {i : Nat} {x : UInt8} (h : l[i]? = some x) : hex16 (l.take (i + 1)) = hex16 (l.take i) ++ [hxL (x.toNat / 16), hxL (x.toNat % 16)] := by
  unfold hex16
  rw [List.take_add_one, h, Option.toList_some, List.flatMap_append]
  rfl
theorem hex16_len (l : List UInt8) : (hex16 l).length = 2 * l.length := by
  unfold hex16
  induction l with
  | nil => rfl
  | cons b l ih => rw [List.flatMap_cons, List.length_append, ih]; simp; omega
def padN (l : List UInt8) : List UInt8 := Lib.repeatL [61] ((4 - l.length % 4) % 4)
def encPad (l : List UInt8) : List UInt8 := enc sPlain l ++ padN (enc sPlain l)
def trim2 (s : List UInt8) : List UInt8 := Lib.trimSuffix (Lib.trimSuffix s [61]) [61]
theorem trimS_le (s p : List UInt8) : (Lib.trimSuffix s p).length ≤ s.length := by
  unfold Lib.trimSuffix
  split
  · rw [List.length_take]; omega
  · exact Nat.le_refl _
theorem trim2_le (s : List UInt8) : (trim2 s).length ≤ s.length := Nat.le_trans (trimS_le _ _) (trimS_le _ _)
theorem g2_ent_26 : ent? Tryd.prog 26 = true := by kernel_rfl
theorem g2_cv_3_64_u32 : cv? Tryd.prog 3 64 .u32 = true := by kernel_rfl
theorem g2_cv_64_5_u8 : cv? Tryd.prog 64 5 .u8 = true := by kernel_rfl
set_option maxHeartbeats 1000000 in
set_option maxRecDepth 100000 in
theorem read_any (set : List UInt8) (hs : set.length = 64) (s : List UInt8) (right : Bool) (w : World) (hmx : s.length ≤ 1000000) :
    Calls Tryd.prog 23 #[.string (ST.str s), .string (ST.str set), .bool right] w fun r w' => ∃ A' c', r = .returned (.tuple #[.slice A' (rdR set s right).1.length c', .int .i64 (rdR set s right).2]) ∧ Ow ST.kB 5 w' w.heap.size (.slice A' (rdR set s right).1.length c') (rdR set s right).1 ∧ Below w.heap.size w w' := by
 refine calls_start Tryd.func23 rfl rfl rfl (fun a F => ?_)
 have M : Mm w w [] := Mm.nil w
 refine wp_seq ?_
 refine wp_region_lit ?_
 refine list_val F (wn rfl) rfl rfl (.slice none 0 0) (ex_assign _ rfl _ rfl) ?_; clear F a; intro a F
 refine list_val F (wn rfl) rfl rfl (.int .i64 0) (ex_assign _ rfl _ rfl) ?_; clear F a; intro a F
 refine wpList_nil ?_
 replace F : Fr 61 a [(0, .string (ST.str s)), (1, .string (ST.str set)), (2, .bool right), (6, .slice none 0 0), (7, .int .i64 0)] := F.keep ⟨rfl, rfl, rfl, rfl, rfl, trivial⟩
 refine then_n ?_
 refine wp_seq ?_
 refine wp_region_lit ?_
 refine list_val F (wn rfl) rfl rfl (.string (ST.str s)) (ex_move _ rfl _ (F.e rfl)) ?_; clear F a; intro a F
 refine list_val F (wn rfl) rfl rfl (.int .i64 ((s.length : Nat) : Int)) (ST.ex_lens _ 9 rfl un9 s (F.e rfl)) ?_; clear F a; intro a F
 refine list_val F (wn rfl) rfl rfl (.int .i64 ((s.length * 3 : Nat) : Int)) (ex_bin .mul _ _ _ _ rfl .i64 _ _ (F.e rfl) rfl _ (b_mul ((w_i64 (by omega) (by omega)).trans (by omega)))) ?_; clear F a; intro a F
 refine list_val F (wn rfl) rfl rfl (.int .i64 ((s.length * 3 / 4 : Nat) : Int)) (ex_bin .quo _ _ _ _ rfl .i64 _ _ (F.e rfl) rfl _ (b_quo (by decide) (i_quo _ 4 (by omega)))) ?_; clear F a; intro a F
 refine list_do (wn rfl) (fun K hK => ?_)
 refine ow_make0 (enc := ST.bc) (m := 1) (hl := ST.bc_len) (h1 := ST.bc_one) F M Tryd.underlying28 i5 rfl rfl _ _ rfl rfl _ (F.e rfl) (s.length * 3 / 4) rfl (by omega) (by show _ ≤ 9223372036854775807; omega) ?_
 clear F M a; intro a g17 v F M O_x hb
 refine hK _ _ ?_
 clear hK K
 clear hb; try clear w
 refine list_val F (wn rfl) rfl rfl (.slice (some ⟨g17, 0, none⟩) 0 (s.length * 3 / 4)) (ex_assign _ rfl _ (F.e rfl)) ?_; clear F a; intro a F
 refine wpList_nil ?_
 replace F : Fr 61 a [(0, .string (ST.str s)), (1, .string (ST.str set)), (2, .bool right), (6, .slice none 0 0), (7, .int .i64 0), (8, .slice (some ⟨g17, 0, none⟩) 0 (s.length * 3 / 4))] := F.keep ⟨rfl, rfl, rfl, rfl, rfl, rfl, trivial⟩
 refine then_n ?_
 refine wp_seq ?_
 refine wp_region_lit ?_
 refine list_val F (wn rfl) rfl rfl (.int .u32 0) (ex_assign _ rfl _ rfl) ?_; clear F a; intro a F
 refine wpList_nil ?_
 replace F : Fr 61 a [(0, .string (ST.str s)), (1, .string (ST.str set)), (2, .bool right), (6, .slice none 0 0), (7, .int .i64 0), (8, .slice (some ⟨g17, 0, none⟩) 0 (s.length * 3 / 4)), (9, .int .u32 0)] := F.keep ⟨rfl, rfl, rfl, rfl, rfl, rfl, rfl, trivial⟩
 refine then_n ?_
 refine wp_seq ?_
 refine wp_region_lit ?_
 refine list_val F (wn rfl) rfl rfl (.int .i64 0) (ex_assign _ rfl _ rfl) ?_; clear F a; intro a F
 refine wpList_nil ?_
 replace F : Fr 61 a [(0, .string (ST.str s)), (1, .string (ST.str set)), (2, .bool right), (6, .slice none 0 0), (7, .int .i64 0), (8, .slice (some ⟨g17, 0, none⟩) 0 (s.length * 3 / 4)), (9, .int .u32 0), (10, .int .i64 0)] := F.keep ⟨rfl, rfl, rfl, rfl, rfl, rfl, rfl, rfl, trivial⟩
 refine then_n ?_
 refine wp_seq ?_
 refine wp_seq ?_
 refine wp_region_lit ?_
 refine list_val F (wn rfl) rfl rfl (.string (ST.str s)) (ex_move _ rfl _ (F.e rfl)) ?_; clear F a; intro a F
 refine list_val F (wn rfl) rfl rfl (.int .i64 ((s.length : Nat) : Int)) (ST.ex_lens _ 9 rfl un9 s (F.e rfl)) ?_; clear F a; intro a F
 refine list_val F (wn rfl) rfl rfl (.int .i64 0) (ex_move _ rfl _ rfl) ?_; clear F a; intro a F
 refine wpList_nil ?_
 replace F : Fr 61 a [(0, .string (ST.str s)), (1, .string (ST.str set)), (2, .bool right), (6, .slice none 0 0), (7, .int .i64 0), (8, .slice (some ⟨g17, 0, none⟩) 0 (s.length * 3 / 4)), (9, .int .u32 0), (10, .int .i64 0), (19, .int .i64 ((s.length : Nat) : Int)), (20, .int .i64 0)] := F.keep ⟨rfl, rfl, rfl, rfl, rfl, rfl, rfl, rfl, rfl, rfl, trivial⟩
 refine then_n ?_
 refine wp_block ?_
 refine wp_loopN (fun mq ar wr => ∃ (i : Nat), ∃ (n : Nat), ∃ (b : Nat), ∃ (A_o : Option Addr), ∃ (c_o : Nat), ∃ (o : List UInt8), Fr 61 ar [(0, .string (ST.str s)), (1, .string (ST.str set)), (2, .bool right), (6, .slice none 0 0), (7, .int .i64 0), (8, .slice A_o o.length c_o), (9, .int .u32 ((n : Nat) : Int)), (10, .int .i64 ((b : Nat) : Int)), (19, .int .i64 ((s.length : Nat) : Int)), (20, .int .i64 ((i : Nat) : Int))] ∧ Mm w wr [] ∧ Ow ST.kB 5 wr w.heap.size (.slice A_o o.length c_o) o ∧ i ≤ s.length ∧ dec set (0, 0, []) (s.take i) = some (n, b, o) ∧ mq + i = s.length) s.length ?_ ?_
 ·
  exact ⟨0, 0, 0, (some ⟨g17, 0, none⟩), (s.length * 3 / 4), [], F.keep ⟨rfl, rfl, rfl, rfl, rfl, rfl, rfl, rfl, rfl, rfl, trivial⟩, M, O_x, (Nat.zero_le _), rfl, (by omega)⟩
 clear F M a O_x
 rintro mq a u ⟨i, n, b, A_o, c_o, o, F, M, O_x, hi, hd, hq⟩; try clear v
 by_cases hin : i < s.length
 ·
  obtain ⟨x, hx⟩ : ∃ x, s[i]? = some x := ⟨_, List.getElem?_eq_getElem (by omega)⟩
  refine wp_seq ?_
  refine wp_region_lit ?_
  refine list_val F (wn rfl) rfl rfl (.bool true) (ex_bin .lss _ _ _ _ rfl .i64 _ _ (F.e rfl) (F.e rfl) _ (b_lss (decide_eq_true (by omega)))) ?_; clear F a; intro a F
  refine wpList_nil ?_
  replace F : Fr 61 a [(0, .string (ST.str s)), (1, .string (ST.str set)), (2, .bool right), (6, .slice none 0 0), (7, .int .i64 0), (8, .slice A_o o.length c_o), (9, .int .u32 ((n : Nat) : Int)), (10, .int .i64 ((b : Nat) : Int)), (19, .int .i64 ((s.length : Nat) : Int)), (20, .int .i64 ((i : Nat) : Int)), (21, .bool true)] := F.keep ⟨rfl, rfl, rfl, rfl, rfl, rfl, rfl, rfl, rfl, rfl, rfl, trivial⟩
  refine then_n ?_
  refine wp_seq ?_
  refine wp_cond_true (F.e rfl) ?_
  refine wp_skip ?_
  refine then_n ?_
  refine wp_seq ?_
  refine wp_block ?_
  refine wp_seq ?_
  refine wp_region_lit ?_
  refine list_val F (wn rfl) rfl rfl (.int .i64 ((i : Nat) : Int)) (ex_move _ rfl _ (F.e rfl)) ?_; clear F a; intro a F
  refine list_val F (wn rfl) rfl rfl (.int .i64 ((i : Nat) : Int)) (ex_assign _ rfl _ (F.e rfl)) ?_; clear F a; intro a F
  refine wpList_nil ?_
  replace F : Fr 61 a [(0, .string (ST.str s)), (1, .string (ST.str set)), (2, .bool right), (6, .slice none 0 0), (7, .int .i64 0), (8, .slice A_o o.length c_o), (9, .int .u32 ((n : Nat) : Int)), (10, .int .i64 ((b : Nat) : Int)), (11, .int .i64 ((i : Nat) : Int)), (19, .int .i64 ((s.length : Nat) : Int)), (20, .int .i64 ((i : Nat) : Int)), (21, .bool true)] := F.keep ⟨rfl, rfl, rfl, rfl, rfl, rfl, rfl, rfl, rfl, rfl, rfl, rfl, trivial⟩
  refine then_n ?_
  refine wp_seq ?_
  refine wp_region_lit ?_
  refine list_val F (wn rfl) rfl rfl (.string (ST.str set)) (ex_move _ rfl _ (F.e rfl)) ?_; clear F a; intro a F
  refine list_val F (wn rfl) rfl rfl (.string (ST.str s)) (ex_move _ rfl _ (F.e rfl)) ?_; clear F a; intro a F
  refine list_val F (wn rfl) rfl rfl (.int .i64 ((i : Nat) : Int)) (ex_move _ rfl _ (F.e rfl)) ?_; clear F a; intro a F
  refine list_val F (wn rfl) rfl rfl (.int .u8 ((x.toNat : Nat) : Int)) (ST.ex_ixs 9 _ _ rfl un9 s (F.e rfl) .i64 _ (F.e rfl) i rfl x hx) ?_; clear F a; intro a F
  refine list_do (wn rfl) (fun K hK => ?_)
  refine ow_call rfl rfl F 26 #[.string (ST.str set), .int .u8 ((x.toNat : Nat) : Int)] (ex_call 26 _ _ rfl rfl g2_ent_26 _ (map2 (F.e rfl) (F.e rfl))) (Tryd.strings_IndexByte (ST.str set) _ _) (fun e v hR => ?_)
  obtain ⟨he, hw⟩ := hR
  rw [ST.str_data, byte_back] at he
  refine ⟨.int .i64 (Lib.indexByte set x), he, ?_⟩; clear he F a; intro a F
  replace hw := hw.symm; subst hw
  refine hK _ _ ?_
  clear hK K
  refine list_val F (wn rfl) rfl rfl (.int .i64 (Lib.indexByte set x)) (ex_assign _ rfl _ (F.e rfl)) ?_; clear F a; intro a F
  refine wpList_nil ?_
  replace F : Fr 61 a [(0, .string (ST.str s)), (1, .string (ST.str set)), (2, .bool right), (6, .slice none 0 0), (7, .int .i64 0), (8, .slice A_o o.length c_o), (9, .int .u32 ((n : Nat) : Int)), (10, .int .i64 ((b : Nat) : Int)), (11, .int .i64 ((i : Nat) : Int)), (12, .int .i64 (Lib.indexByte set x)), (19, .int .i64 ((s.length : Nat) : Int)), (20, .int .i64 ((i : Nat) : Int)), (21, .bool true)] := F.keep ⟨rfl, rfl, rfl, rfl, rfl, rfl, rfl, rfl, rfl, rfl, rfl, rfl, rfl, trivial⟩
  refine then_n ?_
  refine wp_seq ?_
  refine wp_seq ?_
  by_cases hk : ix set x = none
  ·
   rw [index_none hk] at F
   refine wp_region_lit ?_
   refine list_val F (wn rfl) rfl rfl (.int .i64 (-1)) (ex_move _ rfl _ (F.e rfl)) ?_; clear F a; intro a F
   refine list_val F (wn rfl) rfl rfl (.bool true) (ex_bin .lss _ _ _ _ rfl .i64 _ _ (F.e rfl) rfl _ (b_lss (by decide))) ?_; clear F a; intro a F
   refine wpList_nil ?_
   replace F : Fr 61 a [(0, .string (ST.str s)), (1, .string (ST.str set)), (2, .bool right), (6, .slice none 0 0), (7, .int .i64 0), (8, .slice A_o o.length c_o), (9, .int .u32 ((n : Nat) : Int)), (10, .int .i64 ((b : Nat) : Int)), (11, .int .i64 ((i : Nat) : Int)), (12, .int .i64 (-1)), (19, .int .i64 ((s.length : Nat) : Int)), (20, .int .i64 ((i : Nat) : Int)), (21, .bool true), (29, .bool true)] := F.keep ⟨rfl, rfl, rfl, rfl, rfl, rfl, rfl, rfl, rfl, rfl, rfl, rfl, rfl, rfl, trivial⟩
   refine then_n ?_
   refine wp_cond_true (F.e rfl) ?_
   refine wp_seq ?_
   refine wp_region_lit ?_
   refine list_val F (wn rfl) rfl rfl (.slice none 0 0) (ex_assign _ rfl _ rfl) ?_; clear F a; intro a F
   refine list_val F (wn rfl) rfl rfl (.int .i64 10) (ex_assign _ rfl _ rfl) ?_; clear F a; intro a F
   refine wpList_nil ?_
   replace F : Fr 61 a [(0, .string (ST.str s)), (1, .string (ST.str set)), (2, .bool right), (6, .slice none 0 0), (7, .int .i64 10), (8, .slice A_o o.length c_o), (9, .int .u32 ((n : Nat) : Int)), (10, .int .i64 ((b : Nat) : Int)), (11, .int .i64 ((i : Nat) : Int)), (12, .int .i64 (-1)), (19, .int .i64 ((s.length : Nat) : Int)), (20, .int .i64 ((i : Nat) : Int)), (21, .bool true), (29, .bool true)] := F.keep ⟨rfl, rfl, rfl, rfl, rfl, rfl, rfl, rfl, rfl, rfl, rfl, rfl, rfl, rfl, trivial⟩
   refine then_n ?_
   refine wp_ret ?_
   refine then_r ?_
   refine in_r ?_
   refine then_r ?_
   refine then_r ?_
   refine in_r ?_
   refine then_r ?_
   rw [rdR_none (dec_bad hk (List.mem_of_getElem? hx))]
   exact ret_tmp2 F rfl rfl rfl ⟨none, 0, rfl, Ow.nil _ _ _ _, M.bel⟩
  obtain ⟨k, hk⟩ : ∃ k, ix set x = some k := by cases hq : ix set x with | none => exact absurd hq hk | some k => exact ⟨k, rfl⟩
  rw [index_some hk] at F
  have hkl := (ix_some hk).1
  rw [hs] at hkl
  have hdn := dec_snoc hd hx hk
  refine wp_region_lit ?_
  refine list_val F (wn rfl) rfl rfl (.int .i64 ((k : Nat) : Int)) (ex_move _ rfl _ (F.e rfl)) ?_; clear F a; intro a F
  refine list_val F (wn rfl) rfl rfl (.bool false) (ex_bin .lss _ _ _ _ rfl .i64 _ _ (F.e rfl) rfl _ (b_lss (decide_eq_false (by omega)))) ?_; clear F a; intro a F
  refine wpList_nil ?_
  replace F : Fr 61 a [(0, .string (ST.str s)), (1, .string (ST.str set)), (2, .bool right), (6, .slice none 0 0), (7, .int .i64 0), (8, .slice A_o o.length c_o), (9, .int .u32 ((n : Nat) : Int)), (10, .int .i64 ((b : Nat) : Int)), (11, .int .i64 ((i : Nat) : Int)), (12, .int .i64 ((k : Nat) : Int)), (19, .int .i64 ((s.length : Nat) : Int)), (20, .int .i64 ((i : Nat) : Int)), (21, .bool true), (29, .bool false)] := F.keep ⟨rfl, rfl, rfl, rfl, rfl, rfl, rfl, rfl, rfl, rfl, rfl, rfl, rfl, rfl, trivial⟩
  refine then_n ?_
  refine wp_cond_false (F.e rfl) ?_
  refine wp_skip ?_
  refine then_n ?_
  refine wp_seq ?_
  obtain ⟨hbs, hnb⟩ := (out_len (i := i) hs hd).1
  have hbs : b = 0 ∨ b = 2 ∨ b = 4 ∨ b = 6 := hbs
  have hnb : n < 2 ^ b := hnb
  rcases hbs with rfl | rfl | rfl | rfl
  ·
   have hnb : n < 1 := hnb
   refine wp_region_lit ?_
   refine list_val F (wn rfl) rfl rfl (.int .u32 ((n : Nat) : Int)) (ex_move _ rfl _ (F.e rfl)) ?_; clear F a; intro a F
   refine list_val F (wn rfl) rfl rfl (.int .u32 (((n * 64) : Nat) : Int)) (ST.ex_shlN _ _ _ _ rfl .u32 .u64 n 6 _ (F.e rfl) rfl rfl (by show _ ≤ 32; omega) (n * 64) rfl (w_u32 (by omega) (by omega))) ?_; clear F a; intro a F
   refine list_val F (wn rfl) rfl rfl (.int .i64 ((k : Nat) : Int)) (ex_move _ rfl _ (F.e rfl)) ?_; clear F a; intro a F
   refine list_val F (wn rfl) rfl rfl (.int .u32 ((k : Nat) : Int)) (ex_conv _ _ _ rfl _ .u32 g2_cv_3_64_u32 _ (F.e rfl) _ (w_u32 (by omega) (by omega))) ?_; clear F a; intro a F
   refine list_val F (wn rfl) rfl rfl (.int .u32 (((n * 64 + k) : Nat) : Int)) (ST.ex_orN _ _ _ _ rfl .u32 (n * 64) k (F.e rfl) (F.e rfl) (by show _ < 4294967296; omega) (by show _ < 4294967296; omega) (n * 64 + k) (or6 _ _ hkl) (w_u32 (by omega) (by omega))) ?_; clear F a; intro a F
   refine list_val F (wn rfl) rfl rfl (.int .i64 ((0 : Nat) : Int)) (ex_move _ rfl _ (F.e rfl)) ?_; clear F a; intro a F
   refine list_val F (wn rfl) rfl rfl (.int .i64 ((6 : Nat) : Int)) (ex_bin .add _ _ _ _ rfl .i64 _ _ (F.e rfl) rfl _ (b_add (by decide))) ?_; clear F a; intro a F
   refine list_val F (wn rfl) rfl rfl (.int .u32 (((n * 64 + k) : Nat) : Int)) (ex_assign _ rfl _ (F.e rfl)) ?_; clear F a; intro a F
   refine list_val F (wn rfl) rfl rfl (.int .i64 ((6 : Nat) : Int)) (ex_assign _ rfl _ (F.e rfl)) ?_; clear F a; intro a F
   refine wpList_nil ?_
   replace F : Fr 61 a [(0, .string (ST.str s)), (1, .string (ST.str set)), (2, .bool right), (6, .slice none 0 0), (7, .int .i64 0), (8, .slice A_o o.length c_o), (9, .int .u32 (((n * 64 + k) : Nat) : Int)), (10, .int .i64 ((6 : Nat) : Int)), (11, .int .i64 ((i : Nat) : Int)), (12, .int .i64 ((k : Nat) : Int)), (19, .int .i64 ((s.length : Nat) : Int)), (20, .int .i64 ((i : Nat) : Int)), (21, .bool true), (29, .bool false)] := F.keep ⟨rfl, rfl, rfl, rfl, rfl, rfl, rfl, rfl, rfl, rfl, rfl, rfl, rfl, rfl, trivial⟩
   refine then_n ?_
   refine wp_seq ?_
   refine wp_region_lit ?_
   refine list_val F (wn rfl) rfl rfl (.int .i64 ((6 : Nat) : Int)) (ex_move _ rfl _ (F.e rfl)) ?_; clear F a; intro a F
   refine list_val F (wn rfl) rfl rfl (.bool false) (ex_bin .geq _ _ _ _ rfl .i64 _ _ (F.e rfl) rfl _ (b_geq (by decide))) ?_; clear F a; intro a F
   refine wpList_nil ?_
   replace F : Fr 61 a [(0, .string (ST.str s)), (1, .string (ST.str set)), (2, .bool right), (6, .slice none 0 0), (7, .int .i64 0), (8, .slice A_o o.length c_o), (9, .int .u32 (((n * 64 + k) : Nat) : Int)), (10, .int .i64 ((6 : Nat) : Int)), (11, .int .i64 ((i : Nat) : Int)), (12, .int .i64 ((k : Nat) : Int)), (19, .int .i64 ((s.length : Nat) : Int)), (20, .int .i64 ((i : Nat) : Int)), (21, .bool true), (29, .bool false), (38, .bool false)] := F.keep ⟨rfl, rfl, rfl, rfl, rfl, rfl, rfl, rfl, rfl, rfl, rfl, rfl, rfl, rfl, rfl, trivial⟩
   refine then_n ?_
   refine wp_cond_false (F.e rfl) ?_
   refine wp_skip ?_
   refine in_n ?_
   refine then_n ?_
   refine wp_region_lit ?_
   refine list_val F (wn rfl) rfl rfl (.int .i64 ((i + 1 : Nat) : Int)) (ex_bin .add _ _ _ _ rfl .i64 _ _ (F.e rfl) rfl _ (b_add ((w_i64 (by omega) (by omega)).trans (by omega)))) ?_; clear F a; intro a F
   refine list_val F (wn rfl) rfl rfl (.int .i64 ((i + 1 : Nat) : Int)) (ex_move _ rfl _ (F.e rfl)) ?_; clear F a; intro a F
   refine wpList_nil ?_
   replace F : Fr 61 a [(0, .string (ST.str s)), (1, .string (ST.str set)), (2, .bool right), (6, .slice none 0 0), (7, .int .i64 0), (8, .slice A_o o.length c_o), (9, .int .u32 (((n * 64 + k) : Nat) : Int)), (10, .int .i64 ((6 : Nat) : Int)), (11, .int .i64 ((i : Nat) : Int)), (12, .int .i64 ((k : Nat) : Int)), (19, .int .i64 ((s.length : Nat) : Int)), (20, .int .i64 ((i + 1 : Nat) : Int)), (21, .bool true), (29, .bool false), (38, .bool false)] := F.keep ⟨rfl, rfl, rfl, rfl, rfl, rfl, rfl, rfl, rfl, rfl, rfl, rfl, rfl, rfl, rfl, trivial⟩
   refine then_n ?_
   exact ⟨s.length - (i + 1), by omega, (i + 1), (n * 64 + k), 6, A_o, c_o, o, F.keep ⟨rfl, rfl, rfl, rfl, rfl, rfl, rfl, rfl, rfl, rfl, trivial⟩, (by refine M.pick' [] _ ?_ (by decide); exact trivial), O_x, (by omega), hdn, (by omega)⟩
  ·
   have hnb : n < 4 := hnb
   refine wp_region_lit ?_
   refine list_val F (wn rfl) rfl rfl (.int .u32 ((n : Nat) : Int)) (ex_move _ rfl _ (F.e rfl)) ?_; clear F a; intro a F
   refine list_val F (wn rfl) rfl rfl (.int .u32 (((n * 64) : Nat) : Int)) (ST.ex_shlN _ _ _ _ rfl .u32 .u64 n 6 _ (F.e rfl) rfl rfl (by show _ ≤ 32; omega) (n * 64) rfl (w_u32 (by omega) (by omega))) ?_; clear F a; intro a F
   refine list_val F (wn rfl) rfl rfl (.int .i64 ((k : Nat) : Int)) (ex_move _ rfl _ (F.e rfl)) ?_; clear F a; intro a F
   refine list_val F (wn rfl) rfl rfl (.int .u32 ((k : Nat) : Int)) (ex_conv _ _ _ rfl _ .u32 g2_cv_3_64_u32 _ (F.e rfl) _ (w_u32 (by omega) (by omega))) ?_; clear F a; intro a F
   refine list_val F (wn rfl) rfl rfl (.int .u32 (((n * 64 + k) : Nat) : Int)) (ST.ex_orN _ _ _ _ rfl .u32 (n * 64) k (F.e rfl) (F.e rfl) (by show _ < 4294967296; omega) (by show _ < 4294967296; omega) (n * 64 + k) (or6 _ _ hkl) (w_u32 (by omega) (by omega))) ?_; clear F a; intro a F
   refine list_val F (wn rfl) rfl rfl (.int .i64 ((2 : Nat) : Int)) (ex_move _ rfl _ (F.e rfl)) ?_; clear F a; intro a F
   refine list_val F (wn rfl) rfl rfl (.int .i64 ((8 : Nat) : Int)) (ex_bin .add _ _ _ _ rfl .i64 _ _ (F.e rfl) rfl _ (b_add (by decide))) ?_; clear F a; intro a F
   refine list_val F (wn rfl) rfl rfl (.int .u32 (((n * 64 + k) : Nat) : Int)) (ex_assign _ rfl _ (F.e rfl)) ?_; clear F a; intro a F
   refine list_val F (wn rfl) rfl rfl (.int .i64 ((8 : Nat) : Int)) (ex_assign _ rfl _ (F.e rfl)) ?_; clear F a; intro a F
   refine wpList_nil ?_
   replace F : Fr 61 a [(0, .string (ST.str s)), (1, .string (ST.str set)), (2, .bool right), (6, .slice none 0 0), (7, .int .i64 0), (8, .slice A_o o.length c_o), (9, .int .u32 (((n * 64 + k) : Nat) : Int)), (10, .int .i64 ((8 : Nat) : Int)), (11, .int .i64 ((i : Nat) : Int)), (12, .int .i64 ((k : Nat) : Int)), (19, .int .i64 ((s.length : Nat) : Int)), (20, .int .i64 ((i : Nat) : Int)), (21, .bool true), (29, .bool false)] := F.keep ⟨rfl, rfl, rfl, rfl, rfl, rfl, rfl, rfl, rfl, rfl, rfl, rfl, rfl, rfl, trivial⟩
   refine then_n ?_
   refine wp_seq ?_
   refine wp_region_lit ?_
   refine list_val F (wn rfl) rfl rfl (.int .i64 ((8 : Nat) : Int)) (ex_move _ rfl _ (F.e rfl)) ?_; clear F a; intro a F
   refine list_val F (wn rfl) rfl rfl (.bool true) (ex_bin .geq _ _ _ _ rfl .i64 _ _ (F.e rfl) rfl _ (b_geq (by decide))) ?_; clear F a; intro a F
   refine wpList_nil ?_
   replace F : Fr 61 a [(0, .string (ST.str s)), (1, .string (ST.str set)), (2, .bool right), (6, .slice none 0 0), (7, .int .i64 0), (8, .slice A_o o.length c_o), (9, .int .u32 (((n * 64 + k) : Nat) : Int)), (10, .int .i64 ((8 : Nat) : Int)), (11, .int .i64 ((i : Nat) : Int)), (12, .int .i64 ((k : Nat) : Int)), (19, .int .i64 ((s.length : Nat) : Int)), (20, .int .i64 ((i : Nat) : Int)), (21, .bool true), (29, .bool false), (38, .bool true)] := F.keep ⟨rfl, rfl, rfl, rfl, rfl, rfl, rfl, rfl, rfl, rfl, rfl, rfl, rfl, rfl, rfl, trivial⟩
   refine then_n ?_
   refine wp_cond_true (F.e rfl) ?_
   refine wp_seq ?_
   refine wp_region_lit ?_
   refine list_val F (wn rfl) rfl rfl (.int .i64 ((8 : Nat) : Int)) (ex_move _ rfl _ (F.e rfl)) ?_; clear F a; intro a F
   refine list_val F (wn rfl) rfl rfl (.int .i64 ((0 : Nat) : Int)) (ex_bin .sub _ _ _ _ rfl .i64 _ _ (F.e rfl) rfl _ (b_sub (by decide))) ?_; clear F a; intro a F
   refine list_val F (wn rfl) rfl rfl (.int .i64 ((0 : Nat) : Int)) (ex_assign _ rfl _ (F.e rfl)) ?_; clear F a; intro a F
   refine wpList_nil ?_
   replace F : Fr 61 a [(0, .string (ST.str s)), (1, .string (ST.str set)), (2, .bool right), (6, .slice none 0 0), (7, .int .i64 0), (8, .slice A_o o.length c_o), (9, .int .u32 (((n * 64 + k) : Nat) : Int)), (10, .int .i64 ((0 : Nat) : Int)), (11, .int .i64 ((i : Nat) : Int)), (12, .int .i64 ((k : Nat) : Int)), (19, .int .i64 ((s.length : Nat) : Int)), (20, .int .i64 ((i : Nat) : Int)), (21, .bool true), (29, .bool false), (38, .bool true)] := F.keep ⟨rfl, rfl, rfl, rfl, rfl, rfl, rfl, rfl, rfl, rfl, rfl, rfl, rfl, rfl, rfl, trivial⟩
   refine then_n ?_
   refine wp_seq ?_
   refine wp_region_lit ?_
   refine list_val F (wn rfl) rfl rfl (.slice A_o o.length c_o) (ex_move _ rfl _ (F.e rfl)) ?_; clear F a; intro a F
   refine list_val F (wn rfl) rfl rfl (.int .u32 (((n * 64 + k) : Nat) : Int)) (ex_move _ rfl _ (F.e rfl)) ?_; clear F a; intro a F
   refine list_val F (wn rfl) rfl rfl (.int .i64 ((0 : Nat) : Int)) (ex_move _ rfl _ (F.e rfl)) ?_; clear F a; intro a F
   refine list_val F (wn rfl) rfl rfl (.int .u32 ((((n * 64 + k) / 1) : Nat) : Int)) (ST.ex_shrN _ _ _ _ rfl .u32 .i64 (n * 64 + k) 0 _ (F.e rfl) (F.e rfl) rfl (by show _ ≤ 32; omega) ((n * 64 + k) / 1) rfl) ?_; clear F a; intro a F
   refine list_val F (wn rfl) rfl rfl (.int .u8 (((UInt8.ofNat ((n * 64 + k) / 1)).toNat : Nat) : Int)) (ex_conv _ _ _ rfl _ .u8 g2_cv_64_5_u8 _ (F.e rfl) _ (by rw [o8 _ (by omega)]; exact w_u8 (by omega) (by omega))) ?_; clear F a; intro a F
   refine list_do (wn rfl) (fun K hK => ?_)
   refine ow_bslice F M rfl rfl 28 1 _ rfl #[(0, .int .u8 (((UInt8.ofNat ((n * 64 + k) / 1)).toNat : Nat) : Int))] (parts1 (F.e rfl)) (([(UInt8.ofNat ((n * 64 + k) / 1))].flatMap ST.bc).toArray) 5 (newby1 (UInt8.ofNat ((n * 64 + k) / 1)) _) ?_
   clear F M a; intro a g46 v F M hb hg
   refine hK _ _ ?_
   clear hK K
   replace O_x := O_x.below hb
   clear hb hg; try clear u
   refine list_do (wn rfl) (fun K hK => ?_)
   have hxx := C_bytes (l := [(UInt8.ofNat ((n * 64 + k) / 1))]) (by simp) (M.at (i := 0) rfl)
   replace M : Mm w v [] := (by refine M.pick' [] _ ?_ (by decide); exact trivial)
   refine og_app F M Tryd.underlying28 i5 z5s (by decide) (by decide) (Nat.le_refl _) M.bel.size trivial rfl rfl rfl _ _ rfl (.slice A_o o.length c_o) o ([(UInt8.ofNat ((n * 64 + k) / 1))]) (o ++ [(UInt8.ofNat ((n * 64 + k) / 1))]) rfl (some ⟨g46, 0, none⟩) 1 1 (F.e rfl) (F.e rfl) O_x (hxx) (by have h_ := (out_len (i := i) hs hd).2; rw [List.length_take] at h_; omega) ?_
   clear F a; have Mo := M; clear M; intro a A_47 c_47 u F M Oz hgr
   refine hK _ _ ?_
   clear hK K
   clear O_x Mo hgr; have O_x := Oz; clear Oz; try clear v
   clear hxx
   refine list_val F (wn rfl) rfl rfl (.slice A_47 ((o ++ [(UInt8.ofNat ((n * 64 + k) / 1))]).length) c_47) (ex_assign _ rfl _ (F.e rfl)) ?_; clear F a; intro a F
   refine wpList_nil ?_
   replace F : Fr 61 a [(0, .string (ST.str s)), (1, .string (ST.str set)), (2, .bool right), (6, .slice none 0 0), (7, .int .i64 0), (8, .slice A_47 ((o ++ [(UInt8.ofNat ((n * 64 + k) / 1))]).length) c_47), (9, .int .u32 (((n * 64 + k) : Nat) : Int)), (10, .int .i64 ((0 : Nat) : Int)), (11, .int .i64 ((i : Nat) : Int)), (12, .int .i64 ((k : Nat) : Int)), (19, .int .i64 ((s.length : Nat) : Int)), (20, .int .i64 ((i : Nat) : Int)), (21, .bool true), (29, .bool false), (38, .bool true)] := F.keep ⟨rfl, rfl, rfl, rfl, rfl, rfl, rfl, rfl, rfl, rfl, rfl, rfl, rfl, rfl, rfl, trivial⟩
   refine then_n ?_
   refine wp_region_lit ?_
   refine list_val F (wn rfl) rfl rfl (.int .u32 (((n * 64 + k) : Nat) : Int)) (ex_move _ rfl _ (F.e rfl)) ?_; clear F a; intro a F
   refine list_val F (wn rfl) rfl rfl (.int .i64 ((0 : Nat) : Int)) (ex_move _ rfl _ (F.e rfl)) ?_; clear F a; intro a F
   refine list_val F (wn rfl) rfl rfl (.int .u32 ((1 : Nat) : Int)) (ST.ex_shlN _ _ _ _ rfl .u32 .i64 1 0 _ rfl (F.e rfl) rfl (by show _ ≤ 32; omega) 1 rfl (by decide)) ?_; clear F a; intro a F
   refine list_val F (wn rfl) rfl rfl (.int .u32 ((0 : Nat) : Int)) (ex_bin .sub _ _ _ _ rfl .u32 _ _ (F.e rfl) rfl _ (b_sub (by decide))) ?_; clear F a; intro a F
   refine list_val F (wn rfl) rfl rfl (.int .u32 ((((n * 64 + k) % 1) : Nat) : Int)) (ST.ex_andN _ _ _ _ rfl .u32 (n * 64 + k) 0 (F.e rfl) (F.e rfl) (by show _ < 4294967296; omega) (by show _ < 4294967296; omega) ((n * 64 + k) % 1) (and0 _) (w_u32 (by omega) (by omega))) ?_; clear F a; intro a F
   refine list_val F (wn rfl) rfl rfl (.int .u32 ((((n * 64 + k) % 1) : Nat) : Int)) (ex_assign _ rfl _ (F.e rfl)) ?_; clear F a; intro a F
   refine wpList_nil ?_
   replace F : Fr 61 a [(0, .string (ST.str s)), (1, .string (ST.str set)), (2, .bool right), (6, .slice none 0 0), (7, .int .i64 0), (8, .slice A_47 ((o ++ [(UInt8.ofNat ((n * 64 + k) / 1))]).length) c_47), (9, .int .u32 ((((n * 64 + k) % 1) : Nat) : Int)), (10, .int .i64 ((0 : Nat) : Int)), (11, .int .i64 ((i : Nat) : Int)), (12, .int .i64 ((k : Nat) : Int)), (19, .int .i64 ((s.length : Nat) : Int)), (20, .int .i64 ((i : Nat) : Int)), (21, .bool true), (29, .bool false), (38, .bool true)] := F.keep ⟨rfl, rfl, rfl, rfl, rfl, rfl, rfl, rfl, rfl, rfl, rfl, rfl, rfl, rfl, rfl, trivial⟩
   refine in_n ?_
   refine then_n ?_
   refine wp_region_lit ?_
   refine list_val F (wn rfl) rfl rfl (.int .i64 ((i + 1 : Nat) : Int)) (ex_bin .add _ _ _ _ rfl .i64 _ _ (F.e rfl) rfl _ (b_add ((w_i64 (by omega) (by omega)).trans (by omega)))) ?_; clear F a; intro a F
   refine list_val F (wn rfl) rfl rfl (.int .i64 ((i + 1 : Nat) : Int)) (ex_move _ rfl _ (F.e rfl)) ?_; clear F a; intro a F
   refine wpList_nil ?_
   replace F : Fr 61 a [(0, .string (ST.str s)), (1, .string (ST.str set)), (2, .bool right), (6, .slice none 0 0), (7, .int .i64 0), (8, .slice A_47 ((o ++ [(UInt8.ofNat ((n * 64 + k) / 1))]).length) c_47), (9, .int .u32 ((((n * 64 + k) % 1) : Nat) : Int)), (10, .int .i64 ((0 : Nat) : Int)), (11, .int .i64 ((i : Nat) : Int)), (12, .int .i64 ((k : Nat) : Int)), (19, .int .i64 ((s.length : Nat) : Int)), (20, .int .i64 ((i + 1 : Nat) : Int)), (21, .bool true), (29, .bool false), (38, .bool true)] := F.keep ⟨rfl, rfl, rfl, rfl, rfl, rfl, rfl, rfl, rfl, rfl, rfl, rfl, rfl, rfl, rfl, trivial⟩
   refine then_n ?_
   exact ⟨s.length - (i + 1), by omega, (i + 1), ((n * 64 + k) % 1), 0, A_47, c_47, (o ++ [UInt8.ofNat ((n * 64 + k) / 1)]), F.keep ⟨rfl, rfl, rfl, rfl, rfl, rfl, rfl, rfl, rfl, rfl, trivial⟩, (by refine M.pick' [] _ ?_ (by decide); exact trivial), O_x, (by omega), hdn, (by omega)⟩
  ·
   have hnb : n < 16 := hnb
   refine wp_region_lit ?_
   refine list_val F (wn rfl) rfl rfl (.int .u32 ((n : Nat) : Int)) (ex_move _ rfl _ (F.e rfl)) ?_; clear F a; intro a F
   refine list_val F (wn rfl) rfl rfl (.int .u32 (((n * 64) : Nat) : Int)) (ST.ex_shlN _ _ _ _ rfl .u32 .u64 n 6 _ (F.e rfl) rfl rfl (by show _ ≤ 32; omega) (n * 64) rfl (w_u32 (by omega) (by omega))) ?_; clear F a; intro a F
   refine list_val F (wn rfl) rfl rfl (.int .i64 ((k : Nat) : Int)) (ex_move _ rfl _ (F.e rfl)) ?_; clear F a; intro a F
   refine list_val F (wn rfl) rfl rfl (.int .u32 ((k : Nat) : Int)) (ex_conv _ _ _ rfl _ .u32 g2_cv_3_64_u32 _ (F.e rfl) _ (w_u32 (by omega) (by omega))) ?_; clear F a; intro a F
   refine list_val F (wn rfl) rfl rfl (.int .u32 (((n * 64 + k) : Nat) : Int)) (ST.ex_orN _ _ _ _ rfl .u32 (n * 64) k (F.e rfl) (F.e rfl) (by show _ < 4294967296; omega) (by show _ < 4294967296; omega) (n * 64 + k) (or6 _ _ hkl) (w_u32 (by omega) (by omega))) ?_; clear F a; intro a F
   refine list_val F (wn rfl) rfl rfl (.int .i64 ((4 : Nat) : Int)) (ex_move _ rfl _ (F.e rfl)) ?_; clear F a; intro a F
   refine list_val F (wn rfl) rfl rfl (.int .i64 ((10 : Nat) : Int)) (ex_bin .add _ _ _ _ rfl .i64 _ _ (F.e rfl) rfl _ (b_add (by decide))) ?_; clear F a; intro a F
   refine list_val F (wn rfl) rfl rfl (.int .u32 (((n * 64 + k) : Nat) : Int)) (ex_assign _ rfl _ (F.e rfl)) ?_; clear F a; intro a F
   refine list_val F (wn rfl) rfl rfl (.int .i64 ((10 : Nat) : Int)) (ex_assign _ rfl _ (F.e rfl)) ?_; clear F a; intro a F
   refine wpList_nil ?_
   replace F : Fr 61 a [(0, .string (ST.str s)), (1, .string (ST.str set)), (2, .bool right), (6, .slice none 0 0), (7, .int .i64 0), (8, .slice A_o o.length c_o), (9, .int .u32 (((n * 64 + k) : Nat) : Int)), (10, .int .i64 ((10 : Nat) : Int)), (11, .int .i64 ((i : Nat) : Int)), (12, .int .i64 ((k : Nat) : Int)), (19, .int .i64 ((s.length : Nat) : Int)), (20, .int .i64 ((i : Nat) : Int)), (21, .bool true), (29, .bool false)] := F.keep ⟨rfl, rfl, rfl, rfl, rfl, rfl, rfl, rfl, rfl, rfl, rfl, rfl, rfl, rfl, trivial⟩
   refine then_n ?_
   refine wp_seq ?_
   refine wp_region_lit ?_
   refine list_val F (wn rfl) rfl rfl (.int .i64 ((10 : Nat) : Int)) (ex_move _ rfl _ (F.e rfl)) ?_; clear F a; intro a F
   refine list_val F (wn rfl) rfl rfl (.bool true) (ex_bin .geq _ _ _ _ rfl .i64 _ _ (F.e rfl) rfl _ (b_geq (by decide))) ?_; clear F a; intro a F
   refine wpList_nil ?_
   replace F : Fr 61 a [(0, .string (ST.str s)), (1, .string (ST.str set)), (2, .bool right), (6, .slice none 0 0), (7, .int .i64 0), (8, .slice A_o o.length c_o), (9, .int .u32 (((n * 64 + k) : Nat) : Int)), (10, .int .i64 ((10 : Nat) : Int)), (11, .int .i64 ((i : Nat) : Int)), (12, .int .i64 ((k : Nat) : Int)), (19, .int .i64 ((s.length : Nat) : Int)), (20, .int .i64 ((i : Nat) : Int)), (21, .bool true), (29, .bool false), (38, .bool true)] := F.keep ⟨rfl, rfl, rfl, rfl, rfl, rfl, rfl, rfl, rfl, rfl, rfl, rfl, rfl, rfl, rfl, trivial⟩
   refine then_n ?_
   refine wp_cond_true (F.e rfl) ?_
   refine wp_seq ?_
   refine wp_region_lit ?_
   refine list_val F (wn rfl) rfl rfl (.int .i64 ((10 : Nat) : Int)) (ex_move _ rfl _ (F.e rfl)) ?_; clear F a; intro a F
   refine list_val F (wn rfl) rfl rfl (.int .i64 ((2 : Nat) : Int)) (ex_bin .sub _ _ _ _ rfl .i64 _ _ (F.e rfl) rfl _ (b_sub (by decide))) ?_; clear F a; intro a F
   refine list_val F (wn rfl) rfl rfl (.int .i64 ((2 : Nat) : Int)) (ex_assign _ rfl _ (F.e rfl)) ?_; clear F a; intro a F
   refine wpList_nil ?_
   replace F : Fr 61 a [(0, .string (ST.str s)), (1, .string (ST.str set)), (2, .bool right), (6, .slice none 0 0), (7, .int .i64 0), (8, .slice A_o o.length c_o), (9, .int .u32 (((n * 64 + k) : Nat) : Int)), (10, .int .i64 ((2 : Nat) : Int)), (11, .int .i64 ((i : Nat) : Int)), (12, .int .i64 ((k : Nat) : Int)), (19, .int .i64 ((s.length : Nat) : Int)), (20, .int .i64 ((i : Nat) : Int)), (21, .bool true), (29, .bool false), (38, .bool true)] := F.keep ⟨rfl, rfl, rfl, rfl, rfl, rfl, rfl, rfl, rfl, rfl, rfl, rfl, rfl, rfl, rfl, trivial⟩
   refine then_n ?_
   refine wp_seq ?_
   refine wp_region_lit ?_
   refine list_val F (wn rfl) rfl rfl (.slice A_o o.length c_o) (ex_move _ rfl _ (F.e rfl)) ?_; clear F a; intro a F
   refine list_val F (wn rfl) rfl rfl (.int .u32 (((n * 64 + k) : Nat) : Int)) (ex_move _ rfl _ (F.e rfl)) ?_; clear F a; intro a F
   refine list_val F (wn rfl) rfl rfl (.int .i64 ((2 : Nat) : Int)) (ex_move _ rfl _ (F.e rfl)) ?_; clear F a; intro a F
   refine list_val F (wn rfl) rfl rfl (.int .u32 ((((n * 64 + k) / 4) : Nat) : Int)) (ST.ex_shrN _ _ _ _ rfl .u32 .i64 (n * 64 + k) 2 _ (F.e rfl) (F.e rfl) rfl (by show _ ≤ 32; omega) ((n * 64 + k) / 4) rfl) ?_; clear F a; intro a F
   refine list_val F (wn rfl) rfl rfl (.int .u8 (((UInt8.ofNat ((n * 64 + k) / 4)).toNat : Nat) : Int)) (ex_conv _ _ _ rfl _ .u8 g2_cv_64_5_u8 _ (F.e rfl) _ (by rw [o8 _ (by omega)]; exact w_u8 (by omega) (by omega))) ?_; clear F a; intro a F
   refine list_do (wn rfl) (fun K hK => ?_)
   refine ow_bslice F M rfl rfl 28 1 _ rfl #[(0, .int .u8 (((UInt8.ofNat ((n * 64 + k) / 4)).toNat : Nat) : Int))] (parts1 (F.e rfl)) (([(UInt8.ofNat ((n * 64 + k) / 4))].flatMap ST.bc).toArray) 5 (newby1 (UInt8.ofNat ((n * 64 + k) / 4)) _) ?_
   clear F M a; intro a g46 v F M hb hg
   refine hK _ _ ?_
   clear hK K
   replace O_x := O_x.below hb
   clear hb hg; try clear u
   refine list_do (wn rfl) (fun K hK => ?_)
   have hxx := C_bytes (l := [(UInt8.ofNat ((n * 64 + k) / 4))]) (by simp) (M.at (i := 0) rfl)
   replace M : Mm w v [] := (by refine M.pick' [] _ ?_ (by decide); exact trivial)
   refine og_app F M Tryd.underlying28 i5 z5s (by decide) (by decide) (Nat.le_refl _) M.bel.size trivial rfl rfl rfl _ _ rfl (.slice A_o o.length c_o) o ([(UInt8.ofNat ((n * 64 + k) / 4))]) (o ++ [(UInt8.ofNat ((n * 64 + k) / 4))]) rfl (some ⟨g46, 0, none⟩) 1 1 (F.e rfl) (F.e rfl) O_x (hxx) (by have h_ := (out_len (i := i) hs hd).2; rw [List.length_take] at h_; omega) ?_
   clear F a; have Mo := M; clear M; intro a A_47 c_47 u F M Oz hgr
   refine hK _ _ ?_
   clear hK K
   clear O_x Mo hgr; have O_x := Oz; clear Oz; try clear v
   clear hxx
   refine list_val F (wn rfl) rfl rfl (.slice A_47 ((o ++ [(UInt8.ofNat ((n * 64 + k) / 4))]).length) c_47) (ex_assign _ rfl _ (F.e rfl)) ?_; clear F a; intro a F
   refine wpList_nil ?_
   replace F : Fr 61 a [(0, .string (ST.str s)), (1, .string (ST.str set)), (2, .bool right), (6, .slice none 0 0), (7, .int .i64 0), (8, .slice A_47 ((o ++ [(UInt8.ofNat ((n * 64 + k) / 4))]).length) c_47), (9, .int .u32 (((n * 64 + k) : Nat) : Int)), (10, .int .i64 ((2 : Nat) : Int)), (11, .int .i64 ((i : Nat) : Int)), (12, .int .i64 ((k : Nat) : Int)), (19, .int .i64 ((s.length : Nat) : Int)), (20, .int .i64 ((i : Nat) : Int)), (21, .bool true), (29, .bool false), (38, .bool true)] := F.keep ⟨rfl, rfl, rfl, rfl, rfl, rfl, rfl, rfl, rfl, rfl, rfl, rfl, rfl, rfl, rfl, trivial⟩
   refine then_n ?_
   refine wp_region_lit ?_
   refine list_val F (wn rfl) rfl rfl (.int .u32 (((n * 64 + k) : Nat) : Int)) (ex_move _ rfl _ (F.e rfl)) ?_; clear F a; intro a F
   refine list_val F (wn rfl) rfl rfl (.int .i64 ((2 : Nat) : Int)) (ex_move _ rfl _ (F.e rfl)) ?_; clear F a; intro a F
   refine list_val F (wn rfl) rfl rfl (.int .u32 ((4 : Nat) : Int)) (ST.ex_shlN _ _ _ _ rfl .u32 .i64 1 2 _ rfl (F.e rfl) rfl (by show _ ≤ 32; omega) 4 rfl (by decide)) ?_; clear F a; intro a F
   refine list_val F (wn rfl) rfl rfl (.int .u32 ((3 : Nat) : Int)) (ex_bin .sub _ _ _ _ rfl .u32 _ _ (F.e rfl) rfl _ (b_sub (by decide))) ?_; clear F a; intro a F
   refine list_val F (wn rfl) rfl rfl (.int .u32 ((((n * 64 + k) % 4) : Nat) : Int)) (ST.ex_andN _ _ _ _ rfl .u32 (n * 64 + k) 3 (F.e rfl) (F.e rfl) (by show _ < 4294967296; omega) (by show _ < 4294967296; omega) ((n * 64 + k) % 4) (and3 _) (w_u32 (by omega) (by omega))) ?_; clear F a; intro a F
   refine list_val F (wn rfl) rfl rfl (.int .u32 ((((n * 64 + k) % 4) : Nat) : Int)) (ex_assign _ rfl _ (F.e rfl)) ?_; clear F a; intro a F
   refine wpList_nil ?_
   replace F : Fr 61 a [(0, .string (ST.str s)), (1, .string (ST.str set)), (2, .bool right), (6, .slice none 0 0), (7, .int .i64 0), (8, .slice A_47 ((o ++ [(UInt8.ofNat ((n * 64 + k) / 4))]).length) c_47), (9, .int .u32 ((((n * 64 + k) % 4) : Nat) : Int)), (10, .int .i64 ((2 : Nat) : Int)), (11, .int .i64 ((i : Nat) : Int)), (12, .int .i64 ((k : Nat) : Int)), (19, .int .i64 ((s.length : Nat) : Int)), (20, .int .i64 ((i : Nat) : Int)), (21, .bool true), (29, .bool false), (38, .bool true)] := F.keep ⟨rfl, rfl, rfl, rfl, rfl, rfl, rfl, rfl, rfl, rfl, rfl, rfl, rfl, rfl, rfl, trivial⟩
   refine in_n ?_
   refine then_n ?_
   refine wp_region_lit ?_
   refine list_val F (wn rfl) rfl rfl (.int .i64 ((i + 1 : Nat) : Int)) (ex_bin .add _ _ _ _ rfl .i64 _ _ (F.e rfl) rfl _ (b_add ((w_i64 (by omega) (by omega)).trans (by omega)))) ?_; clear F a; intro a F
   refine list_val F (wn rfl) rfl rfl (.int .i64 ((i + 1 : Nat) : Int)) (ex_move _ rfl _ (F.e rfl)) ?_; clear F a; intro a F
   refine wpList_nil ?_
   replace F : Fr 61 a [(0, .string (ST.str s)), (1, .string (ST.str set)), (2, .bool right), (6, .slice none 0 0), (7, .int .i64 0), (8, .slice A_47 ((o ++ [(UInt8.ofNat ((n * 64 + k) / 4))]).length) c_47), (9, .int .u32 ((((n * 64 + k) % 4) : Nat) : Int)), (10, .int .i64 ((2 : Nat) : Int)), (11, .int .i64 ((i : Nat) : Int)), (12, .int .i64 ((k : Nat) : Int)), (19, .int .i64 ((s.length : Nat) : Int)), (20, .int .i64 ((i + 1 : Nat) : Int)), (21, .bool true), (29, .bool false), (38, .bool true)] := F.keep ⟨rfl, rfl, rfl, rfl, rfl, rfl, rfl, rfl, rfl, rfl, rfl, rfl, rfl, rfl, rfl, trivial⟩
   refine then_n ?_
   exact ⟨s.length - (i + 1), by omega, (i + 1), ((n * 64 + k) % 4), 2, A_47, c_47, (o ++ [UInt8.ofNat ((n * 64 + k) / 4)]), F.keep ⟨rfl, rfl, rfl, rfl, rfl, rfl, rfl, rfl, rfl, rfl, trivial⟩, (by refine M.pick' [] _ ?_ (by decide); exact trivial), O_x, (by omega), hdn, (by omega)⟩
  ·
   have hnb : n < 64 := hnb
   refine wp_region_lit ?_
   refine list_val F (wn rfl) rfl rfl (.int .u32 ((n : Nat) : Int)) (ex_move _ rfl _ (F.e rfl)) ?_; clear F a; intro a F
   refine list_val F (wn rfl) rfl rfl (.int .u32 (((n * 64) : Nat) : Int)) (ST.ex_shlN _ _ _ _ rfl .u32 .u64 n 6 _ (F.e rfl) rfl rfl (by show _ ≤ 32; omega) (n * 64) rfl (w_u32 (by omega) (by omega))) ?_; clear F a; intro a F
   refine list_val F (wn rfl) rfl rfl (.int .i64 ((k : Nat) : Int)) (ex_move _ rfl _ (F.e rfl)) ?_; clear F a; intro a F
   refine list_val F (wn rfl) rfl rfl (.int .u32 ((k : Nat) : Int)) (ex_conv _ _ _ rfl _ .u32 g2_cv_3_64_u32 _ (F.e rfl) _ (w_u32 (by omega) (by omega))) ?_; clear F a; intro a F
   refine list_val F (wn rfl) rfl rfl (.int .u32 (((n * 64 + k) : Nat) : Int)) (ST.ex_orN _ _ _ _ rfl .u32 (n * 64) k (F.e rfl) (F.e rfl) (by show _ < 4294967296; omega) (by show _ < 4294967296; omega) (n * 64 + k) (or6 _ _ hkl) (w_u32 (by omega) (by omega))) ?_; clear F a; intro a F
   refine list_val F (wn rfl) rfl rfl (.int .i64 ((6 : Nat) : Int)) (ex_move _ rfl _ (F.e rfl)) ?_; clear F a; intro a F
   refine list_val F (wn rfl) rfl rfl (.int .i64 ((12 : Nat) : Int)) (ex_bin .add _ _ _ _ rfl .i64 _ _ (F.e rfl) rfl _ (b_add (by decide))) ?_; clear F a; intro a F
   refine list_val F (wn rfl) rfl rfl (.int .u32 (((n * 64 + k) : Nat) : Int)) (ex_assign _ rfl _ (F.e rfl)) ?_; clear F a; intro a F
   refine list_val F (wn rfl) rfl rfl (.int .i64 ((12 : Nat) : Int)) (ex_assign _ rfl _ (F.e rfl)) ?_; clear F a; intro a F
   refine wpList_nil ?_
   replace F : Fr 61 a [(0, .string (ST.str s)), (1, .string (ST.str set)), (2, .bool right), (6, .slice none 0 0), (7, .int .i64 0), (8, .slice A_o o.length c_o), (9, .int .u32 (((n * 64 + k) : Nat) : Int)), (10, .int .i64 ((12 : Nat) : Int)), (11, .int .i64 ((i : Nat) : Int)), (12, .int .i64 ((k : Nat) : Int)), (19, .int .i64 ((s.length : Nat) : Int)), (20, .int .i64 ((i : Nat) : Int)), (21, .bool true), (29, .bool false)] := F.keep ⟨rfl, rfl, rfl, rfl, rfl, rfl, rfl, rfl, rfl, rfl, rfl, rfl, rfl, rfl, trivial⟩
   refine then_n ?_
   refine wp_seq ?_
   refine wp_region_lit ?_
   refine list_val F (wn rfl) rfl rfl (.int .i64 ((12 : Nat) : Int)) (ex_move _ rfl _ (F.e rfl)) ?_; clear F a; intro a F
   refine list_val F (wn rfl) rfl rfl (.bool true) (ex_bin .geq _ _ _ _ rfl .i64 _ _ (F.e rfl) rfl _ (b_geq (by decide))) ?_; clear F a; intro a F
   refine wpList_nil ?_
   replace F : Fr 61 a [(0, .string (ST.str s)), (1, .string (ST.str set)), (2, .bool right), (6, .slice none 0 0), (7, .int .i64 0), (8, .slice A_o o.length c_o), (9, .int .u32 (((n * 64 + k) : Nat) : Int)), (10, .int .i64 ((12 : Nat) : Int)), (11, .int .i64 ((i : Nat) : Int)), (12, .int .i64 ((k : Nat) : Int)), (19, .int .i64 ((s.length : Nat) : Int)), (20, .int .i64 ((i : Nat) : Int)), (21, .bool true), (29, .bool false), (38, .bool true)] := F.keep ⟨rfl, rfl, rfl, rfl, rfl, rfl, rfl, rfl, rfl, rfl, rfl, rfl, rfl, rfl, rfl, trivial⟩
   refine then_n ?_
   refine wp_cond_true (F.e rfl) ?_
   refine wp_seq ?_
   refine wp_region_lit ?_
   refine list_val F (wn rfl) rfl rfl (.int .i64 ((12 : Nat) : Int)) (ex_move _ rfl _ (F.e rfl)) ?_; clear F a; intro a F
   refine list_val F (wn rfl) rfl rfl (.int .i64 ((4 : Nat) : Int)) (ex_bin .sub _ _ _ _ rfl .i64 _ _ (F.e rfl) rfl _ (b_sub (by decide))) ?_; clear F a; intro a F
   refine list_val F (wn rfl) rfl rfl (.int .i64 ((4 : Nat) : Int)) (ex_assign _ rfl _ (F.e rfl)) ?_; clear F a; intro a F
   refine wpList_nil ?_
   replace F : Fr 61 a [(0, .string (ST.str s)), (1, .string (ST.str set)), (2, .bool right), (6, .slice none 0 0), (7, .int .i64 0), (8, .slice A_o o.length c_o), (9, .int .u32 (((n * 64 + k) : Nat) : Int)), (10, .int .i64 ((4 : Nat) : Int)), (11, .int .i64 ((i : Nat) : Int)), (12, .int .i64 ((k : Nat) : Int)), (19, .int .i64 ((s.length : Nat) : Int)), (20, .int .i64 ((i : Nat) : Int)), (21, .bool true), (29, .bool false), (38, .bool true)] := F.keep ⟨rfl, rfl, rfl, rfl, rfl, rfl, rfl, rfl, rfl, rfl, rfl, rfl, rfl, rfl, rfl, trivial⟩
   refine then_n ?_
   refine wp_seq ?_
   refine wp_region_lit ?_
   refine list_val F (wn rfl) rfl rfl (.slice A_o o.length c_o) (ex_move _ rfl _ (F.e rfl)) ?_; clear F a; intro a F
   refine list_val F (wn rfl) rfl rfl (.int .u32 (((n * 64 + k) : Nat) : Int)) (ex_move _ rfl _ (F.e rfl)) ?_; clear F a; intro a F
   refine list_val F (wn rfl) rfl rfl (.int .i64 ((4 : Nat) : Int)) (ex_move _ rfl _ (F.e rfl)) ?_; clear F a; intro a F
   refine list_val F (wn rfl) rfl rfl (.int .u32 ((((n * 64 + k) / 16) : Nat) : Int)) (ST.ex_shrN _ _ _ _ rfl .u32 .i64 (n * 64 + k) 4 _ (F.e rfl) (F.e rfl) rfl (by show _ ≤ 32; omega) ((n * 64 + k) / 16) rfl) ?_; clear F a; intro a F
   refine list_val F (wn rfl) rfl rfl (.int .u8 (((UInt8.ofNat ((n * 64 + k) / 16)).toNat : Nat) : Int)) (ex_conv _ _ _ rfl _ .u8 g2_cv_64_5_u8 _ (F.e rfl) _ (by rw [o8 _ (by omega)]; exact w_u8 (by omega) (by omega))) ?_; clear F a; intro a F
   refine list_do (wn rfl) (fun K hK => ?_)
   refine ow_bslice F M rfl rfl 28 1 _ rfl #[(0, .int .u8 (((UInt8.ofNat ((n * 64 + k) / 16)).toNat : Nat) : Int))] (parts1 (F.e rfl)) (([(UInt8.ofNat ((n * 64 + k) / 16))].flatMap ST.bc).toArray) 5 (newby1 (UInt8.ofNat ((n * 64 + k) / 16)) _) ?_
   clear F M a; intro a g46 v F M hb hg
   refine hK _ _ ?_
   clear hK K
   replace O_x := O_x.below hb
   clear hb hg; try clear u
   refine list_do (wn rfl) (fun K hK => ?_)
   have hxx := C_bytes (l := [(UInt8.ofNat ((n * 64 + k) / 16))]) (by simp) (M.at (i := 0) rfl)
   replace M : Mm w v [] := (by refine M.pick' [] _ ?_ (by decide); exact trivial)
   refine og_app F M Tryd.underlying28 i5 z5s (by decide) (by decide) (Nat.le_refl _) M.bel.size trivial rfl rfl rfl _ _ rfl (.slice A_o o.length c_o) o ([(UInt8.ofNat ((n * 64 + k) / 16))]) (o ++ [(UInt8.ofNat ((n * 64 + k) / 16))]) rfl (some ⟨g46, 0, none⟩) 1 1 (F.e rfl) (F.e rfl) O_x (hxx) (by have h_ := (out_len (i := i) hs hd).2; rw [List.length_take] at h_; omega) ?_
   clear F a; have Mo := M; clear M; intro a A_47 c_47 u F M Oz hgr
   refine hK _ _ ?_
   clear hK K
   clear O_x Mo hgr; have O_x := Oz; clear Oz; try clear v
   clear hxx
   refine list_val F (wn rfl) rfl rfl (.slice A_47 ((o ++ [(UInt8.ofNat ((n * 64 + k) / 16))]).length) c_47) (ex_assign _ rfl _ (F.e rfl)) ?_; clear F a; intro a F
   refine wpList_nil ?_
   replace F : Fr 61 a [(0, .string (ST.str s)), (1, .string (ST.str set)), (2, .bool right), (6, .slice none 0 0), (7, .int .i64 0), (8, .slice A_47 ((o ++ [(UInt8.ofNat ((n * 64 + k) / 16))]).length) c_47), (9, .int .u32 (((n * 64 + k) : Nat) : Int)), (10, .int .i64 ((4 : Nat) : Int)), (11, .int .i64 ((i : Nat) : Int)), (12, .int .i64 ((k : Nat) : Int)), (19, .int .i64 ((s.length : Nat) : Int)), (20, .int .i64 ((i : Nat) : Int)), (21, .bool true), (29, .bool false), (38, .bool true)] := F.keep ⟨rfl, rfl, rfl, rfl, rfl, rfl, rfl, rfl, rfl, rfl, rfl, rfl, rfl, rfl, rfl, trivial⟩
   refine then_n ?_
   refine wp_region_lit ?_
   refine list_val F (wn rfl) rfl rfl (.int .u32 (((n * 64 + k) : Nat) : Int)) (ex_move _ rfl _ (F.e rfl)) ?_; clear F a; intro a F
   refine list_val F (wn rfl) rfl rfl (.int .i64 ((4 : Nat) : Int)) (ex_move _ rfl _ (F.e rfl)) ?_; clear F a; intro a F
   refine list_val F (wn rfl) rfl rfl (.int .u32 ((16 : Nat) : Int)) (ST.ex_shlN _ _ _ _ rfl .u32 .i64 1 4 _ rfl (F.e rfl) rfl (by show _ ≤ 32; omega) 16 rfl (by decide)) ?_; clear F a; intro a F
   refine list_val F (wn rfl) rfl rfl (.int .u32 ((15 : Nat) : Int)) (ex_bin .sub _ _ _ _ rfl .u32 _ _ (F.e rfl) rfl _ (b_sub (by decide))) ?_; clear F a; intro a F
   refine list_val F (wn rfl) rfl rfl (.int .u32 ((((n * 64 + k) % 16) : Nat) : Int)) (ST.ex_andN _ _ _ _ rfl .u32 (n * 64 + k) 15 (F.e rfl) (F.e rfl) (by show _ < 4294967296; omega) (by show _ < 4294967296; omega) ((n * 64 + k) % 16) (and15 _) (w_u32 (by omega) (by omega))) ?_; clear F a; intro a F
   refine list_val F (wn rfl) rfl rfl (.int .u32 ((((n * 64 + k) % 16) : Nat) : Int)) (ex_assign _ rfl _ (F.e rfl)) ?_; clear F a; intro a F
   refine wpList_nil ?_
   replace F : Fr 61 a [(0, .string (ST.str s)), (1, .string (ST.str set)), (2, .bool right), (6, .slice none 0 0), (7, .int .i64 0), (8, .slice A_47 ((o ++ [(UInt8.ofNat ((n * 64 + k) / 16))]).length) c_47), (9, .int .u32 ((((n * 64 + k) % 16) : Nat) : Int)), (10, .int .i64 ((4 : Nat) : Int)), (11, .int .i64 ((i : Nat) : Int)), (12, .int .i64 ((k : Nat) : Int)), (19, .int .i64 ((s.length : Nat) : Int)), (20, .int .i64 ((i : Nat) : Int)), (21, .bool true), (29, .bool false), (38, .bool true)] := F.keep ⟨rfl, rfl, rfl, rfl, rfl, rfl, rfl, rfl, rfl, rfl, rfl, rfl, rfl, rfl, rfl, trivial⟩
   refine in_n ?_
   refine then_n ?_
   refine wp_region_lit ?_
   refine list_val F (wn rfl) rfl rfl (.int .i64 ((i + 1 : Nat) : Int)) (ex_bin .add _ _ _ _ rfl .i64 _ _ (F.e rfl) rfl _ (b_add ((w_i64 (by omega) (by omega)).trans (by omega)))) ?_; clear F a; intro a F
   refine list_val F (wn rfl) rfl rfl (.int .i64 ((i + 1 : Nat) : Int)) (ex_move _ rfl _ (F.e rfl)) ?_; clear F a; intro a F
   refine wpList_nil ?_
   replace F : Fr 61 a [(0, .string (ST.str s)), (1, .string (ST.str set)), (2, .bool right), (6, .slice none 0 0), (7, .int .i64 0), (8, .slice A_47 ((o ++ [(UInt8.ofNat ((n * 64 + k) / 16))]).length) c_47), (9, .int .u32 ((((n * 64 + k) % 16) : Nat) : Int)), (10, .int .i64 ((4 : Nat) : Int)), (11, .int .i64 ((i : Nat) : Int)), (12, .int .i64 ((k : Nat) : Int)), (19, .int .i64 ((s.length : Nat) : Int)), (20, .int .i64 ((i + 1 : Nat) : Int)), (21, .bool true), (29, .bool false), (38, .bool true)] := F.keep ⟨rfl, rfl, rfl, rfl, rfl, rfl, rfl, rfl, rfl, rfl, rfl, rfl, rfl, rfl, rfl, trivial⟩
   refine then_n ?_
   exact ⟨s.length - (i + 1), by omega, (i + 1), ((n * 64 + k) % 16), 4, A_47, c_47, (o ++ [UInt8.ofNat ((n * 64 + k) / 16)]), F.keep ⟨rfl, rfl, rfl, rfl, rfl, rfl, rfl, rfl, rfl, rfl, trivial⟩, (by refine M.pick' [] _ ?_ (by decide); exact trivial), O_x, (by omega), hdn, (by omega)⟩
 obtain rfl : i = s.length := by omega
 rw [List.take_length] at hd
 by_cases hri : right = true
 ·
  subst hri
  refine wp_seq ?_
  refine wp_region_lit ?_
  refine list_val F (wn rfl) rfl rfl (.bool false) (ex_bin .lss _ _ _ _ rfl .i64 _ _ (F.e rfl) (F.e rfl) _ (b_lss (decide_eq_false (by omega)))) ?_; clear F a; intro a F
  refine wpList_nil ?_
  replace F : Fr 61 a [(0, .string (ST.str s)), (1, .string (ST.str set)), (2, .bool true), (6, .slice none 0 0), (7, .int .i64 0), (8, .slice A_o o.length c_o), (9, .int .u32 ((n : Nat) : Int)), (10, .int .i64 ((b : Nat) : Int)), (19, .int .i64 ((s.length : Nat) : Int)), (20, .int .i64 ((s.length : Nat) : Int)), (21, .bool false)] := F.keep ⟨rfl, rfl, rfl, rfl, rfl, rfl, rfl, rfl, rfl, rfl, rfl, trivial⟩
  refine then_n ?_
  refine wp_seq ?_
  refine wp_cond_false (F.e rfl) ?_
  refine wp_exit ?_
  refine then_x ?_
  refine then_x ?_
  refine in_hit ?_
  refine then_n ?_
  refine wp_seq ?_
  refine wp_block ?_
  refine wp_seq ?_
  refine wp_region_lit ?_
  refine list_val F (wn rfl) rfl rfl (.bool true) (ex_move _ rfl _ (F.e rfl)) ?_; clear F a; intro a F
  refine list_val F (wn rfl) rfl rfl (.bool false) (ex_not _ _ rfl _ (F.e rfl) _ rfl) ?_; clear F a; intro a F
  refine list_val F (wn rfl) rfl rfl (.bool false) (ex_assign _ rfl _ (F.e rfl)) ?_; clear F a; intro a F
  refine wpList_nil ?_
  replace F : Fr 61 a [(0, .string (ST.str s)), (1, .string (ST.str set)), (2, .bool true), (6, .slice none 0 0), (7, .int .i64 0), (8, .slice A_o o.length c_o), (9, .int .u32 ((n : Nat) : Int)), (10, .int .i64 ((b : Nat) : Int)), (19, .int .i64 ((s.length : Nat) : Int)), (20, .int .i64 ((s.length : Nat) : Int)), (21, .bool false), (54, .bool false)] := F.keep ⟨rfl, rfl, rfl, rfl, rfl, rfl, rfl, rfl, rfl, rfl, rfl, rfl, trivial⟩
  refine then_n ?_
  refine wp_cond_false (F.e rfl) ?_
  refine wp_seq ?_
  by_cases hn0 : n = 0
  ·
   subst hn0
   refine wp_region_lit ?_
   refine list_val F (wn rfl) rfl rfl (.int .u32 ((0 : Nat) : Int)) (ex_move _ rfl _ (F.e rfl)) ?_; clear F a; intro a F
   refine list_val F (wn rfl) rfl rfl (.bool false) (ex_bin .neq _ _ _ _ rfl .u32 _ _ (F.e rfl) rfl _ (b_neq (by rfl))) ?_; clear F a; intro a F
   refine list_val F (wn rfl) rfl rfl (.bool false) (ex_assign _ rfl _ (F.e rfl)) ?_; clear F a; intro a F
   refine wpList_nil ?_
   replace F : Fr 61 a [(0, .string (ST.str s)), (1, .string (ST.str set)), (2, .bool true), (6, .slice none 0 0), (7, .int .i64 0), (8, .slice A_o o.length c_o), (9, .int .u32 ((0 : Nat) : Int)), (10, .int .i64 ((b : Nat) : Int)), (19, .int .i64 ((s.length : Nat) : Int)), (20, .int .i64 ((s.length : Nat) : Int)), (21, .bool false), (54, .bool false), (57, .bool false)] := F.keep ⟨rfl, rfl, rfl, rfl, rfl, rfl, rfl, rfl, rfl, rfl, rfl, rfl, rfl, trivial⟩
   refine then_n ?_
   refine wp_cond_false (F.e rfl) ?_
   refine wp_skip ?_
   refine in_n ?_
   refine then_n ?_
   refine wp_seq ?_
   refine wp_region_lit ?_
   refine list_val F (wn rfl) rfl rfl (.slice A_o o.length c_o) (ex_move _ rfl _ (F.e rfl)) ?_; clear F a; intro a F
   refine list_val F (wn rfl) rfl rfl (.slice A_o o.length c_o) (ex_assign _ rfl _ (F.e rfl)) ?_; clear F a; intro a F
   refine list_val F (wn rfl) rfl rfl (.int .i64 0) (ex_assign _ rfl _ rfl) ?_; clear F a; intro a F
   refine wpList_nil ?_
   replace F : Fr 61 a [(0, .string (ST.str s)), (1, .string (ST.str set)), (2, .bool true), (6, .slice A_o o.length c_o), (7, .int .i64 0), (8, .slice A_o o.length c_o), (9, .int .u32 ((0 : Nat) : Int)), (10, .int .i64 ((b : Nat) : Int)), (19, .int .i64 ((s.length : Nat) : Int)), (20, .int .i64 ((s.length : Nat) : Int)), (21, .bool false), (54, .bool false), (57, .bool false)] := F.keep ⟨rfl, rfl, rfl, rfl, rfl, rfl, rfl, rfl, rfl, rfl, rfl, rfl, rfl, trivial⟩
   refine then_n ?_
   refine wp_ret ?_
   rw [rdR_ok hd]
   exact ret_tmp2 F rfl rfl rfl ⟨_, _, rfl, O_x, M.bel⟩
  refine wp_region_lit ?_
  refine list_val F (wn rfl) rfl rfl (.int .u32 ((n : Nat) : Int)) (ex_move _ rfl _ (F.e rfl)) ?_; clear F a; intro a F
  refine list_val F (wn rfl) rfl rfl (.bool true) (ex_bin .neq _ _ _ _ rfl .u32 _ _ (F.e rfl) rfl _ (b_neq (by simp [hn0]))) ?_; clear F a; intro a F
  refine list_val F (wn rfl) rfl rfl (.bool true) (ex_assign _ rfl _ (F.e rfl)) ?_; clear F a; intro a F
  refine wpList_nil ?_
  replace F : Fr 61 a [(0, .string (ST.str s)), (1, .string (ST.str set)), (2, .bool true), (6, .slice none 0 0), (7, .int .i64 0), (8, .slice A_o o.length c_o), (9, .int .u32 ((n : Nat) : Int)), (10, .int .i64 ((b : Nat) : Int)), (19, .int .i64 ((s.length : Nat) : Int)), (20, .int .i64 ((s.length : Nat) : Int)), (21, .bool false), (54, .bool false), (57, .bool true)] := F.keep ⟨rfl, rfl, rfl, rfl, rfl, rfl, rfl, rfl, rfl, rfl, rfl, rfl, rfl, trivial⟩
  refine then_n ?_
  refine wp_cond_true (F.e rfl) ?_
  refine wp_seq ?_
  refine wp_region_lit ?_
  refine list_val F (wn rfl) rfl rfl (.slice none 0 0) (ex_assign _ rfl _ rfl) ?_; clear F a; intro a F
  refine list_val F (wn rfl) rfl rfl (.int .i64 12) (ex_assign _ rfl _ rfl) ?_; clear F a; intro a F
  refine wpList_nil ?_
  replace F : Fr 61 a [(0, .string (ST.str s)), (1, .string (ST.str set)), (2, .bool true), (6, .slice none 0 0), (7, .int .i64 12), (8, .slice A_o o.length c_o), (9, .int .u32 ((n : Nat) : Int)), (10, .int .i64 ((b : Nat) : Int)), (19, .int .i64 ((s.length : Nat) : Int)), (20, .int .i64 ((s.length : Nat) : Int)), (21, .bool false), (54, .bool false), (57, .bool true)] := F.keep ⟨rfl, rfl, rfl, rfl, rfl, rfl, rfl, rfl, rfl, rfl, rfl, rfl, rfl, trivial⟩
  refine then_n ?_
  refine wp_ret ?_
  refine in_r ?_
  refine then_r ?_
  rw [rdR_bits hd hn0]
  exact ret_tmp2 F rfl rfl rfl ⟨none, 0, rfl, Ow.nil _ _ _ _, M.bel⟩
 obtain rfl : right = false := Bool.eq_false_iff.2 hri
 refine wp_seq ?_
 refine wp_region_lit ?_
 refine list_val F (wn rfl) rfl rfl (.bool false) (ex_bin .lss _ _ _ _ rfl .i64 _ _ (F.e rfl) (F.e rfl) _ (b_lss (decide_eq_false (by omega)))) ?_; clear F a; intro a F
 refine wpList_nil ?_
 replace F : Fr 61 a [(0, .string (ST.str s)), (1, .string (ST.str set)), (2, .bool false), (6, .slice none 0 0), (7, .int .i64 0), (8, .slice A_o o.length c_o), (9, .int .u32 ((n : Nat) : Int)), (10, .int .i64 ((b : Nat) : Int)), (19, .int .i64 ((s.length : Nat) : Int)), (20, .int .i64 ((s.length : Nat) : Int)), (21, .bool false)] := F.keep ⟨rfl, rfl, rfl, rfl, rfl, rfl, rfl, rfl, rfl, rfl, rfl, trivial⟩
 refine then_n ?_
 refine wp_seq ?_
 refine wp_cond_false (F.e rfl) ?_
 refine wp_exit ?_
 refine then_x ?_
 refine then_x ?_
 refine in_hit ?_
 refine then_n ?_
 refine wp_seq ?_
 refine wp_block ?_
 refine wp_seq ?_
 refine wp_region_lit ?_
 refine list_val F (wn rfl) rfl rfl (.bool false) (ex_move _ rfl _ (F.e rfl)) ?_; clear F a; intro a F
 refine list_val F (wn rfl) rfl rfl (.bool true) (ex_not _ _ rfl _ (F.e rfl) _ rfl) ?_; clear F a; intro a F
 refine list_val F (wn rfl) rfl rfl (.bool true) (ex_assign _ rfl _ (F.e rfl)) ?_; clear F a; intro a F
 refine wpList_nil ?_
 replace F : Fr 61 a [(0, .string (ST.str s)), (1, .string (ST.str set)), (2, .bool false), (6, .slice none 0 0), (7, .int .i64 0), (8, .slice A_o o.length c_o), (9, .int .u32 ((n : Nat) : Int)), (10, .int .i64 ((b : Nat) : Int)), (19, .int .i64 ((s.length : Nat) : Int)), (20, .int .i64 ((s.length : Nat) : Int)), (21, .bool false), (54, .bool true)] := F.keep ⟨rfl, rfl, rfl, rfl, rfl, rfl, rfl, rfl, rfl, rfl, rfl, rfl, trivial⟩
 refine then_n ?_
 refine wp_cond_true (F.e rfl) ?_
 refine wp_seq ?_
 refine wp_region_lit ?_
 refine list_val F (wn rfl) rfl rfl (.slice none 0 0) (ex_assign _ rfl _ rfl) ?_; clear F a; intro a F
 refine list_val F (wn rfl) rfl rfl (.int .i64 11) (ex_assign _ rfl _ rfl) ?_; clear F a; intro a F
 refine wpList_nil ?_
 replace F : Fr 61 a [(0, .string (ST.str s)), (1, .string (ST.str set)), (2, .bool false), (6, .slice none 0 0), (7, .int .i64 11), (8, .slice A_o o.length c_o), (9, .int .u32 ((n : Nat) : Int)), (10, .int .i64 ((b : Nat) : Int)), (19, .int .i64 ((s.length : Nat) : Int)), (20, .int .i64 ((s.length : Nat) : Int)), (21, .bool false), (54, .bool true)] := F.keep ⟨rfl, rfl, rfl, rfl, rfl, rfl, rfl, rfl, rfl, rfl, rfl, rfl, trivial⟩
 refine then_n ?_
 refine wp_ret ?_
 refine in_r ?_
 refine then_r ?_
 rw [rdR_len hd]
 exact ret_tmp2 F rfl rfl rfl ⟨none, 0, rfl, Ow.nil _ _ _ _, M.bel⟩
theorem g2_ent_23 : ent? Tryd.prog 23 = true := by kernel_rfl
set_option maxHeartbeats 1000000 in
set_option maxRecDepth 100000 in
theorem bytes64_any (s : List UInt8) (w : World) (hmx : s.length ≤ 1000000) :
    Calls Tryd.prog 14 #[.string (ST.str s)] w fun r w' => ∃ A' c', r = .returned (.tuple #[.slice A' (rdR sUrl s (decide (s.length % 4 ≠ 1))).1.length c', .int .i64 (rdR sUrl s (decide (s.length % 4 ≠ 1))).2]) ∧ Ow ST.kB 5 w' w.heap.size (.slice A' (rdR sUrl s (decide (s.length % 4 ≠ 1))).1.length c') (rdR sUrl s (decide (s.length % 4 ≠ 1))).1 ∧ Below w.heap.size w w' := by
 refine calls_start Tryd.func14 rfl rfl rfl (fun a F => ?_)
 have M : Mm w w [] := Mm.nil w
 refine wp_seq ?_
 refine wp_region_lit ?_
 refine list_val F (wn rfl) rfl rfl (.slice none 0 0) (ex_assign _ rfl _ rfl) ?_; clear F a; intro a F
 refine list_val F (wn rfl) rfl rfl (.int .i64 0) (ex_assign _ rfl _ rfl) ?_; clear F a; intro a F
 refine wpList_nil ?_
 replace F : Fr 12 a [(0, .string (ST.str s)), (2, .slice none 0 0), (3, .int .i64 0)] := F.keep ⟨rfl, rfl, rfl, trivial⟩
 refine then_n ?_
 refine wp_seq ?_
 refine wp_region_lit ?_
 refine list_val F (wn rfl) rfl rfl (.string (ST.str s)) (ex_move _ rfl _ (F.e rfl)) ?_; clear F a; intro a F
 refine list_val F (wn rfl) rfl rfl (.string (ST.str s)) (ex_move _ rfl _ (F.e rfl)) ?_; clear F a; intro a F
 refine list_val F (wn rfl) rfl rfl (.int .i64 ((s.length : Nat) : Int)) (ST.ex_lens _ 9 rfl un9 s (F.e rfl)) ?_; clear F a; intro a F
 refine list_val F (wn rfl) rfl rfl (.int .i64 ((s.length % 4 : Nat) : Int)) (ex_bin .rem _ _ _ _ rfl .i64 _ _ (F.e rfl) rfl _ (b_rem (by decide) (i_rem _ 4))) ?_; clear F a; intro a F
 refine list_val F (wn rfl) rfl rfl (.bool (decide (s.length % 4 ≠ 1))) (ex_bin .neq _ _ _ _ rfl .i64 _ _ (F.e rfl) rfl _ (b_neq (by rw [Bool.eq_iff_iff]; simp; omega))) ?_; clear F a; intro a F
 refine list_do (wn rfl) (fun K hK => ?_)
 refine ow_call rfl rfl F 23 #[.string (ST.str s), .string (ST.str sUrl), .bool (decide (s.length % 4 ≠ 1))] (ex_call 23 _ _ rfl rfl g2_ent_23 _ (map3 (F.e rfl) rfl (F.e rfl))) (read_any sUrl rfl s (decide (s.length % 4 ≠ 1)) _ (hmx)) (fun e v hR => ?_)
 obtain ⟨A_9, c_9, he, O_x, hb⟩ := hR
 replace O_x := O_x.low M.bel.size
 refine ⟨.tuple #[.slice A_9 ((rdR sUrl s (decide (s.length % 4 ≠ 1))).1.length) c_9, .int .i64 ((rdR sUrl s (decide (s.length % 4 ≠ 1))).2)], he, ?_⟩; clear he F a; intro a F
 refine hK _ _ ?_
 clear hK K
 replace M := M.below hb; clear hb; try clear w
 refine list_val F (wn rfl) rfl rfl (.slice A_9 ((rdR sUrl s (decide (s.length % 4 ≠ 1))).1.length) c_9) (ex_extract _ _ rfl _ (F.e rfl) _ rfl) ?_; clear F a; intro a F
 refine list_val F (wn rfl) rfl rfl (.int .i64 ((rdR sUrl s (decide (s.length % 4 ≠ 1))).2)) (ex_extract _ _ rfl _ (F.e rfl) _ rfl) ?_; clear F a; intro a F
 refine list_val F (wn rfl) rfl rfl (.slice A_9 ((rdR sUrl s (decide (s.length % 4 ≠ 1))).1.length) c_9) (ex_assign _ rfl _ (F.e rfl)) ?_; clear F a; intro a F
 refine list_val F (wn rfl) rfl rfl (.int .i64 ((rdR sUrl s (decide (s.length % 4 ≠ 1))).2)) (ex_assign _ rfl _ (F.e rfl)) ?_; clear F a; intro a F
 refine wpList_nil ?_
 replace F : Fr 12 a [(0, .string (ST.str s)), (2, .slice A_9 ((rdR sUrl s (decide (s.length % 4 ≠ 1))).1.length) c_9), (3, .int .i64 ((rdR sUrl s (decide (s.length % 4 ≠ 1))).2))] := F.keep ⟨rfl, rfl, rfl, trivial⟩
 refine then_n ?_
 refine wp_ret ?_
 exact ret_tmp2 F rfl rfl rfl ⟨_, _, rfl, O_x, M.bel⟩
theorem g2_ent_24 : ent? Tryd.prog 24 = true := by kernel_rfl
set_option maxHeartbeats 1000000 in
set_option maxRecDepth 100000 in
theorem bytesPad_any (s : List UInt8) (w : World) (hmx : s.length ≤ 1000000) :
    Calls Tryd.prog 15 #[.string (ST.str s)] w fun r w' => ∃ A' c', r = .returned (.tuple #[.slice A' (rdR sPlain (trim2 s) (decide (s.length % 4 = 0))).1.length c', .int .i64 (rdR sPlain (trim2 s) (decide (s.length % 4 = 0))).2]) ∧ Ow ST.kB 5 w' w.heap.size (.slice A' (rdR sPlain (trim2 s) (decide (s.length % 4 = 0))).1.length c') (rdR sPlain (trim2 s) (decide (s.length % 4 = 0))).1 ∧ Below w.heap.size w w' := by
 refine calls_start Tryd.func15 rfl rfl rfl (fun a F => ?_)
 have M : Mm w w [] := Mm.nil w
 refine wp_seq ?_
 refine wp_region_lit ?_
 refine list_val F (wn rfl) rfl rfl (.slice none 0 0) (ex_assign _ rfl _ rfl) ?_; clear F a; intro a F
 refine list_val F (wn rfl) rfl rfl (.int .i64 0) (ex_assign _ rfl _ rfl) ?_; clear F a; intro a F
 refine wpList_nil ?_
 replace F : Fr 16 a [(0, .string (ST.str s)), (2, .slice none 0 0), (3, .int .i64 0)] := F.keep ⟨rfl, rfl, rfl, trivial⟩
 refine then_n ?_
 refine wp_seq ?_
 refine wp_region_lit ?_
 refine list_val F (wn rfl) rfl rfl (.string (ST.str s)) (ex_move _ rfl _ (F.e rfl)) ?_; clear F a; intro a F
 refine list_do (wn rfl) (fun K hK => ?_)
 refine ow_call rfl rfl F 24 #[.string (ST.str s), .string (ST.str ([61]))] (ex_call 24 _ _ rfl rfl g2_ent_24 _ (map2 (F.e rfl) rfl)) (Tryd.strings_TrimSuffix (ST.str s) (ST.str [61]) _ (by rw [ST.str_size]; omega)) (fun e v hR => ?_)
 obtain ⟨he, hw⟩ := hR
 rw [ST.str_data, ST.str_data] at he
 refine ⟨.string (ST.str (Lib.trimSuffix s [61])), he, ?_⟩; clear he F a; intro a F
 replace hw := hw.symm; subst hw
 refine hK _ _ ?_
 clear hK K
 refine list_do (wn rfl) (fun K hK => ?_)
 refine ow_call rfl rfl F 24 #[.string (ST.str (Lib.trimSuffix s [61])), .string (ST.str ([61]))] (ex_call 24 _ _ rfl rfl g2_ent_24 _ (map2 (F.e rfl) rfl)) (Tryd.strings_TrimSuffix (ST.str (Lib.trimSuffix s [61])) (ST.str [61]) _ (by rw [ST.str_size]; have := trimS_le s [61]; omega)) (fun e v hR => ?_)
 obtain ⟨he, hw⟩ := hR
 rw [ST.str_data, ST.str_data] at he
 refine ⟨.string (ST.str (Lib.trimSuffix (Lib.trimSuffix s [61]) [61])), he, ?_⟩; clear he F a; intro a F
 replace hw := hw.symm; subst hw
 refine hK _ _ ?_
 clear hK K
 refine list_val F (wn rfl) rfl rfl (.string (ST.str (Lib.trimSuffix (Lib.trimSuffix s [61]) [61]))) (ex_assign _ rfl _ (F.e rfl)) ?_; clear F a; intro a F
 refine wpList_nil ?_
 replace F : Fr 16 a [(0, .string (ST.str s)), (2, .slice none 0 0), (3, .int .i64 0), (4, .string (ST.str (Lib.trimSuffix (Lib.trimSuffix s [61]) [61])))] := F.keep ⟨rfl, rfl, rfl, rfl, trivial⟩
 refine then_n ?_
 refine wp_seq ?_
 refine wp_region_lit ?_
 refine list_val F (wn rfl) rfl rfl (.string (ST.str (Lib.trimSuffix (Lib.trimSuffix s [61]) [61]))) (ex_move _ rfl _ (F.e rfl)) ?_; clear F a; intro a F
 refine list_val F (wn rfl) rfl rfl (.string (ST.str s)) (ex_move _ rfl _ (F.e rfl)) ?_; clear F a; intro a F
 refine list_val F (wn rfl) rfl rfl (.int .i64 ((s.length : Nat) : Int)) (ST.ex_lens _ 9 rfl un9 s (F.e rfl)) ?_; clear F a; intro a F
 refine list_val F (wn rfl) rfl rfl (.int .i64 ((s.length % 4 : Nat) : Int)) (ex_bin .rem _ _ _ _ rfl .i64 _ _ (F.e rfl) rfl _ (b_rem (by decide) (i_rem _ 4))) ?_; clear F a; intro a F
 refine list_val F (wn rfl) rfl rfl (.bool (decide (s.length % 4 = 0))) (ex_bin .eql _ _ _ _ rfl .i64 _ _ (F.e rfl) rfl _ (b_eql (by rw [Bool.eq_iff_iff]; simp; omega))) ?_; clear F a; intro a F
 refine list_do (wn rfl) (fun K hK => ?_)
 refine ow_call rfl rfl F 23 #[.string (ST.str (Lib.trimSuffix (Lib.trimSuffix s [61]) [61])), .string (ST.str sPlain), .bool (decide (s.length % 4 = 0))] (ex_call 23 _ _ rfl rfl g2_ent_23 _ (map3 (F.e rfl) rfl (F.e rfl))) (read_any sPlain rfl (Lib.trimSuffix (Lib.trimSuffix s [61]) [61]) (decide (s.length % 4 = 0)) _ (by have := trim2_le s; unfold trim2 at this; omega)) (fun e v hR => ?_)
 obtain ⟨A_9, c_9, he, O_x, hb⟩ := hR
 replace O_x := O_x.low M.bel.size
 refine ⟨.tuple #[.slice A_9 ((rdR sPlain (trim2 s) (decide (s.length % 4 = 0))).1.length) c_9, .int .i64 ((rdR sPlain (trim2 s) (decide (s.length % 4 = 0))).2)], he, ?_⟩; clear he F a; intro a F
 refine hK _ _ ?_
 clear hK K
 replace M := M.below hb; clear hb; try clear w
 refine list_val F (wn rfl) rfl rfl (.slice A_9 ((rdR sPlain (trim2 s) (decide (s.length % 4 = 0))).1.length) c_9) (ex_extract _ _ rfl _ (F.e rfl) _ rfl) ?_; clear F a; intro a F
 refine list_val F (wn rfl) rfl rfl (.int .i64 ((rdR sPlain (trim2 s) (decide (s.length % 4 = 0))).2)) (ex_extract _ _ rfl _ (F.e rfl) _ rfl) ?_; clear F a; intro a F
 refine list_val F (wn rfl) rfl rfl (.slice A_9 ((rdR sPlain (trim2 s) (decide (s.length % 4 = 0))).1.length) c_9) (ex_assign _ rfl _ (F.e rfl)) ?_; clear F a; intro a F
 refine list_val F (wn rfl) rfl rfl (.int .i64 ((rdR sPlain (trim2 s) (decide (s.length % 4 = 0))).2)) (ex_assign _ rfl _ (F.e rfl)) ?_; clear F a; intro a F
 refine wpList_nil ?_
 replace F : Fr 16 a [(0, .string (ST.str s)), (2, .slice A_9 ((rdR sPlain (trim2 s) (decide (s.length % 4 = 0))).1.length) c_9), (3, .int .i64 ((rdR sPlain (trim2 s) (decide (s.length % 4 = 0))).2)), (4, .string (ST.str (Lib.trimSuffix (Lib.trimSuffix s [61]) [61])))] := F.keep ⟨rfl, rfl, rfl, rfl, trivial⟩
 refine then_n ?_
 refine wp_ret ?_
 exact ret_tmp2 F rfl rfl rfl ⟨_, _, rfl, O_x, M.bel⟩
theorem g2_ent_21 : ent? Tryd.prog 21 = true := by kernel_rfl
theorem g2_ent_22 : ent? Tryd.prog 22 = true := by kernel_rfl
set_option maxHeartbeats 1000000 in
set_option maxRecDepth 100000 in
theorem textPad_any (xs : List UInt8) (A : Option Addr) (c : Nat) (w : World) (hr : ST.kB.C w A xs.length xs) (hc : xs.length ≤ c) (hmx : xs.length ≤ 1000000) :
    Calls Tryd.prog 8 #[.slice A xs.length c] w fun e w' => e = .returned (.string (ST.str (encPad xs))) ∧ Below w.heap.size w w' := by
 refine calls_start Tryd.func8 rfl rfl rfl (fun a F => ?_)
 have M : Mm w w [] := Mm.nil w
 refine wp_seq ?_
 refine wp_region_lit ?_
 refine list_val F (wn rfl) rfl rfl (.string (ST.str ([] : List UInt8))) (ex_assign _ rfl _ rfl) ?_; clear F a; intro a F
 refine wpList_nil ?_
 replace F : Fr 14 a [(0, .slice A xs.length c), (2, .string (ST.str ([] : List UInt8)))] := F.keep ⟨rfl, rfl, trivial⟩
 refine then_n ?_
 refine wp_seq ?_
 refine wp_region_lit ?_
 refine list_val F (wn rfl) rfl rfl (.slice A xs.length c) (ex_move _ rfl _ (F.e rfl)) ?_; clear F a; intro a F
 refine list_do (wn rfl) (fun K hK => ?_)
 refine ow_call rfl rfl F 21 #[.slice A xs.length c, .string (ST.str sPlain)] (ex_call 21 _ _ rfl rfl g2_ent_21 _ (map2 (F.e rfl) rfl)) (text_any sPlain rfl xs _ _ _ (Kd.C_below hr M.bel) hc hmx) (fun e v hR => ?_)
 obtain ⟨he, hb⟩ := hR
 refine ⟨.string (ST.str (enc sPlain xs)), he, ?_⟩; clear he F a; intro a F
 refine hK _ _ ?_
 clear hK K
 replace M := M.below hb; clear hb; try clear w
 refine list_val F (wn rfl) rfl rfl (.string (ST.str (enc sPlain xs))) (ex_assign _ rfl _ (F.e rfl)) ?_; clear F a; intro a F
 refine wpList_nil ?_
 replace F : Fr 14 a [(0, .slice A xs.length c), (2, .string (ST.str ([] : List UInt8))), (3, .string (ST.str (enc sPlain xs)))] := F.keep ⟨rfl, rfl, rfl, trivial⟩
 refine then_n ?_
 refine wp_seq ?_
 refine wp_region_lit ?_
 refine list_val F (wn rfl) rfl rfl (.string (ST.str (enc sPlain xs))) (ex_move _ rfl _ (F.e rfl)) ?_; clear F a; intro a F
 refine list_val F (wn rfl) rfl rfl (.string (ST.str (enc sPlain xs))) (ex_move _ rfl _ (F.e rfl)) ?_; clear F a; intro a F
 refine list_val F (wn rfl) rfl rfl (.int .i64 (((enc sPlain xs).length : Nat) : Int)) (ST.ex_lens _ 9 rfl un9 (enc sPlain xs) (F.e rfl)) ?_; clear F a; intro a F
 refine list_val F (wn rfl) rfl rfl (.int .i64 (((enc sPlain xs).length % 4 : Nat) : Int)) (ex_bin .rem _ _ _ _ rfl .i64 _ _ (F.e rfl) rfl _ (b_rem (by decide) (i_rem _ 4))) ?_; clear F a; intro a F
 refine list_val F (wn rfl) rfl rfl (.int .i64 ((4 - (enc sPlain xs).length % 4 : Nat) : Int)) (ex_bin .sub _ _ _ _ rfl .i64 _ _ rfl (F.e rfl) _ (b_sub ((w_i64 (by omega) (by omega)).trans (by omega)))) ?_; clear F a; intro a F
 refine list_val F (wn rfl) rfl rfl (.int .i64 (((4 - (enc sPlain xs).length % 4) % 4 : Nat) : Int)) (ex_bin .rem _ _ _ _ rfl .i64 _ _ (F.e rfl) rfl _ (b_rem (by decide) (i_rem _ 4))) ?_; clear F a; intro a F
 refine list_do (wn rfl) (fun K hK => ?_)
 refine ow_call rfl rfl F 22 #[.string (ST.str ([61])), .int .i64 (((4 - (enc sPlain xs).length % 4) % 4 : Nat) : Int)] (ex_call 22 _ _ rfl rfl g2_ent_22 _ (map2 rfl (F.e rfl))) (Tryd.strings_Repeat (ST.str [61]) ((4 - (enc sPlain xs).length % 4) % 4) _ (by omega) (by rw [ST.str_size]; show 1 * _ ≤ _; omega)) (fun e u hR => ?_)
 obtain ⟨he, hb⟩ := hR
 rw [ST.str_data] at he
 refine ⟨.string (ST.str (padN (enc sPlain xs))), he, ?_⟩; clear he F a; intro a F
 refine hK _ _ ?_
 clear hK K
 replace M := M.below hb; clear hb; try clear v
 refine list_val F (wn rfl) rfl rfl (.string (ST.str ((enc sPlain xs) ++ (padN (enc sPlain xs))))) (ST.ex_adds _ _ _ _ rfl (enc sPlain xs) (padN (enc sPlain xs)) (F.e rfl) (F.e rfl) (by have := enc_len sPlain xs; unfold padN; rw [Lib.repeatL_length]; simp only [List.length_cons, List.length_nil]; omega) ((enc sPlain xs) ++ (padN (enc sPlain xs))) rfl) ?_; clear F a; intro a F
 refine list_val F (wn rfl) rfl rfl (.string (ST.str ((enc sPlain xs) ++ (padN (enc sPlain xs))))) (ex_assign _ rfl _ (F.e rfl)) ?_; clear F a; intro a F
 refine wpList_nil ?_
 replace F : Fr 14 a [(0, .slice A xs.length c), (2, .string (ST.str ((enc sPlain xs) ++ (padN (enc sPlain xs))))), (3, .string (ST.str (enc sPlain xs)))] := F.keep ⟨rfl, rfl, rfl, trivial⟩
 refine then_n ?_
 refine wp_ret ?_
 exact ret_tmp F rfl rfl ⟨rfl, M.bel⟩
theorem g2_sl_28_1 : sl? Tryd.prog 28 1 = true := by kernel_rfl
theorem g2_one_5 : one? Tryd.prog 5 = true := by kernel_rfl
theorem g2_follows_mixedOrders : Tryd.prog.follows .mixedOrders = true := by kernel_rfl
set_option maxHeartbeats 1000000 in
set_option maxRecDepth 100000 in
theorem text16_any (xs : List UInt8) (A : Option Addr) (c : Nat) (w : World) (hr : ST.kB.C w A xs.length xs) (hc : xs.length ≤ c) (hmx : xs.length ≤ 1000000) :
    Calls Tryd.prog 6 #[.slice A xs.length c] w fun e w' => e = .returned (.string (ST.str (hex16 xs))) ∧ Below w.heap.size w w' := by
 refine calls_start Tryd.func6 rfl rfl rfl (fun a F => ?_)
 have M : Mm w w [] := Mm.nil w
 refine wp_seq ?_
 refine wp_region_lit ?_
 refine list_val F (wn rfl) rfl rfl (.string (ST.str ([] : List UInt8))) (ex_assign _ rfl _ rfl) ?_; clear F a; intro a F
 refine wpList_nil ?_
 replace F : Fr 28 a [(0, .slice A xs.length c), (2, .string (ST.str ([] : List UInt8)))] := F.keep ⟨rfl, rfl, trivial⟩
 refine then_n ?_
 refine wp_seq ?_
 refine wp_region_lit ?_
 refine list_val F (wn rfl) rfl rfl (.slice A xs.length c) (ex_move _ rfl _ (F.e rfl)) ?_; clear F a; intro a F
 refine list_val F (wn rfl) rfl rfl (.int .i64 ((xs.length : Nat) : Int)) (ex_len _ _ rfl 1 g2_sl_28_1 _ _ _ (F.e rfl)) ?_; clear F a; intro a F
 refine list_val F (wn rfl) rfl rfl (.int .i64 ((2 * xs.length : Nat) : Int)) (ex_bin .mul _ _ _ _ rfl .i64 _ _ rfl (F.e rfl) _ (b_mul ((w_i64 (by omega) (by omega)).trans (by omega)))) ?_; clear F a; intro a F
 refine list_do (wn rfl) (fun K hK => ?_)
 refine ow_make0 (enc := ST.bc) (m := 1) (hl := ST.bc_len) (h1 := ST.bc_one) F M Tryd.underlying28 i5 rfl rfl _ _ rfl rfl _ (F.e rfl) (2 * xs.length) rfl (by omega) (by show _ ≤ 9223372036854775807; omega) ?_
 clear F M a; intro a g9 v F M O_x hb
 refine hK _ _ ?_
 clear hK K
 clear hb; try clear w
 refine list_val F (wn rfl) rfl rfl (.slice (some ⟨g9, 0, none⟩) 0 (2 * xs.length)) (ex_assign _ rfl _ (F.e rfl)) ?_; clear F a; intro a F
 refine wpList_nil ?_
 replace F : Fr 28 a [(0, .slice A xs.length c), (2, .string (ST.str ([] : List UInt8))), (3, .slice (some ⟨g9, 0, none⟩) 0 (2 * xs.length))] := F.keep ⟨rfl, rfl, rfl, trivial⟩
 refine then_n ?_
 refine wp_seq ?_
 refine wp_seq ?_
 refine wp_region_lit ?_
 refine list_val F (wn rfl) rfl rfl (.slice A xs.length c) (ex_move _ rfl _ (F.e rfl)) ?_; clear F a; intro a F
 refine list_val F (wn rfl) rfl rfl (.int .i64 ((xs.length : Nat) : Int)) (ex_len _ _ rfl 1 g2_sl_28_1 _ _ _ (F.e rfl)) ?_; clear F a; intro a F
 refine list_val F (wn rfl) rfl rfl (.int .i64 0) (ex_move _ rfl _ rfl) ?_; clear F a; intro a F
 refine wpList_nil ?_
 replace F : Fr 28 a [(0, .slice A xs.length c), (2, .string (ST.str ([] : List UInt8))), (3, .slice (some ⟨g9, 0, none⟩) 0 (2 * xs.length)), (10, .slice A xs.length c), (11, .int .i64 ((xs.length : Nat) : Int)), (12, .int .i64 0)] := F.keep ⟨rfl, rfl, rfl, rfl, rfl, rfl, trivial⟩
 refine then_n ?_
 refine wp_block ?_
 refine wp_loopN (fun mq ar wr => ∃ (i : Nat), ∃ (A_h : Option Addr), ∃ (c_h : Nat), Fr 28 ar [(0, .slice A xs.length c), (2, .string (ST.str ([] : List UInt8))), (3, .slice A_h ((hex16 (xs.take i)).length) c_h), (10, .slice A xs.length c), (11, .int .i64 ((xs.length : Nat) : Int)), (12, .int .i64 ((i : Nat) : Int))] ∧ Mm w wr [] ∧ Ow ST.kB 5 wr w.heap.size (.slice A_h ((hex16 (xs.take i)).length) c_h) (hex16 (xs.take i)) ∧ i ≤ xs.length ∧ mq + i = xs.length) xs.length ?_ ?_
 ·
  exact ⟨0, (some ⟨g9, 0, none⟩), (2 * xs.length), F.keep ⟨rfl, rfl, rfl, rfl, rfl, rfl, trivial⟩, M, O_x, (Nat.zero_le _), (by omega)⟩
 clear F M a O_x
 rintro mq a u ⟨i, A_h, c_h, F, M, O_x, hi, hq⟩; try clear v
 by_cases hin : i < xs.length
 ·
  obtain ⟨x, hx⟩ : ∃ x, xs[i]? = some x := ⟨_, List.getElem?_eq_getElem (by omega)⟩
  obtain ⟨ad, hA, z⟩ := C_ix (enc := ST.bc) (m := 1) (hl := ST.bc_len) (h1 := ST.bc_one) hr hx
  subst hA
  have hxb := UInt8.toNat_lt x
  refine wp_seq ?_
  refine wp_region_lit ?_
  refine list_val F (wn rfl) rfl rfl (.bool true) (ex_bin .lss _ _ _ _ rfl .i64 _ _ (F.e rfl) (F.e rfl) _ (b_lss (decide_eq_true (by omega)))) ?_; clear F a; intro a F
  refine wpList_nil ?_
  replace F : Fr 28 a [(0, .slice (some ad) xs.length c), (2, .string (ST.str ([] : List UInt8))), (3, .slice A_h ((hex16 (xs.take i)).length) c_h), (10, .slice (some ad) xs.length c), (11, .int .i64 ((xs.length : Nat) : Int)), (12, .int .i64 ((i : Nat) : Int)), (13, .bool true)] := F.keep ⟨rfl, rfl, rfl, rfl, rfl, rfl, rfl, trivial⟩
  refine then_n ?_
  refine wp_seq ?_
  refine wp_cond_true (F.e rfl) ?_
  refine wp_skip ?_
  refine then_n ?_
  refine wp_seq ?_
  refine wp_block ?_
  refine wp_seq ?_
  refine wp_region_lit ?_
  refine list_val F (wn rfl) rfl rfl (.pointer (some (ad.add (i * 1)))) (ex_ix _ _ _ rfl 1 g2_sl_28_1 ad _ _ (F.e rfl) .i64 _ (F.e rfl) i rfl (by omega) (ad.add (i * 1)) rfl) ?_; clear F a; intro a F
  refine list_val F (wn rfl) rfl rfl (.int .u8 ((x.toNat : Nat) : Int)) (ex_load _ _ rfl _ (F.e rfl) _ (lv1 g2_one_5 ((z.below M.bel).cell 0 _ rfl))) ?_; clear F a; intro a F
  refine list_val F (wn rfl) rfl rfl (.int .u8 ((x.toNat : Nat) : Int)) (ex_assign _ rfl _ (F.e rfl)) ?_; clear F a; intro a F
  refine wpList_nil ?_
  replace F : Fr 28 a [(0, .slice (some ad) xs.length c), (2, .string (ST.str ([] : List UInt8))), (3, .slice A_h ((hex16 (xs.take i)).length) c_h), (5, .int .u8 ((x.toNat : Nat) : Int)), (10, .slice (some ad) xs.length c), (11, .int .i64 ((xs.length : Nat) : Int)), (12, .int .i64 ((i : Nat) : Int)), (13, .bool true)] := F.keep ⟨rfl, rfl, rfl, rfl, rfl, rfl, rfl, rfl, trivial⟩
  refine then_n ?_
  refine wp_only (fun ar wr => ∃ (g23 : Nat), ∃ (A_24 : Option Addr), ∃ (c_24 : Nat), Fr 28 ar [(0, .slice (some ad) xs.length c), (2, .string (ST.str ([] : List UInt8))), (3, .slice A_24 ((hex16 (xs.take (i + 1))).length) c_24), (5, .int .u8 ((x.toNat : Nat) : Int)), (10, .slice (some ad) xs.length c), (11, .int .i64 ((xs.length : Nat) : Int)), (12, .int .i64 ((i : Nat) : Int)), (13, .bool true)] ∧ Mm w wr [] ∧ Ow ST.kB 5 wr w.heap.size (.slice A_24 ((hex16 (xs.take (i + 1))).length) c_24) (hex16 (xs.take (i + 1)))) ?_ ?_
  ·
   refine region_anyM g2_follows_mixedOrders M [] (fun w' M => (by refine M.pick' [] _ ?_ (by decide); exact trivial)) ?_; clear M; intro wD M hb
   replace O_x := O_x.below hb
   clear hb; try clear u
   have hS : Mm w wD [] := (by refine M.pick' [] _ ?_ (by decide); exact trivial)
   refine any_val F 0 rfl (by kernel_rfl) (wn rfl) rfl rfl (.slice A_h ((hex16 (xs.take i)).length) c_h) (fun w' hS' => ex_move _ rfl _ (F.e rfl)) hS ?_; clear F a; intro a F
   refine any_val F 1 rfl (by kernel_rfl) (wn rfl) rfl rfl (.int .u8 ((x.toNat : Nat) : Int)) (fun w' hS' => ex_move _ rfl _ (F.e rfl)) hS ?_; clear F a; intro a F
   refine any_val F 2 rfl (by kernel_rfl) (wn rfl) rfl rfl (.int .u8 (((x.toNat / 16) : Nat) : Int)) (fun w' hS' => ST.ex_shrN _ _ _ _ rfl .u8 .u64 x.toNat 4 _ (F.e rfl) rfl rfl (by show _ ≤ 8; omega) (x.toNat / 16) rfl) hS ?_; clear F a; intro a F
   refine any_val F 3 rfl (by kernel_rfl) (wn rfl) rfl rfl (.int .u8 (((hxL (x.toNat / 16)).toNat : Nat) : Int)) (fun w' hS' => ST.ex_ixs 9 _ _ rfl un9 sHex rfl .u8 _ (F.e rfl) (x.toNat / 16) rfl (hxL (x.toNat / 16)) (hx_get (by omega))) hS ?_; clear F a; intro a F
   refine any_val F 4 rfl (by kernel_rfl) (wn rfl) rfl rfl (.int .u8 ((x.toNat : Nat) : Int)) (fun w' hS' => ex_move _ rfl _ (F.e rfl)) hS ?_; clear F a; intro a F
   refine any_val F 5 rfl (by kernel_rfl) (wn rfl) rfl rfl (.int .u8 (((x.toNat % 16) : Nat) : Int)) (fun w' hS' => ST.ex_andN _ _ _ _ rfl .u8 x.toNat 15 (F.e rfl) rfl (by show _ < 256; omega) (by show _ < 256; omega) (x.toNat % 16) (and15 _) (w_u8 (by omega) (by omega))) hS ?_; clear F a; intro a F
   refine any_val F 6 rfl (by kernel_rfl) (wn rfl) rfl rfl (.int .u8 (((hxL (x.toNat % 16)).toNat : Nat) : Int)) (fun w' hS' => ST.ex_ixs 9 _ _ rfl un9 sHex rfl .u8 _ (F.e rfl) (x.toNat % 16) rfl (hxL (x.toNat % 16)) (hx_get (by omega))) hS ?_; clear F a; intro a F
   refine any_ready [7] (by kernel_rfl) (by simp) ?_
   refine ready_do rfl (wn rfl) (fun K hK => ?_) AllReadyH.nil
   refine ow_bslice F M rfl rfl 28 2 _ rfl #[(0, .int .u8 (((hxL (x.toNat / 16)).toNat : Nat) : Int)), (1, .int .u8 (((hxL (x.toNat % 16)).toNat : Nat) : Int))] (parts2 (F.e rfl) (F.e rfl)) (([(hxL (x.toNat / 16)), (hxL (x.toNat % 16))].flatMap ST.bc).toArray) 5 (newby2 (hxL (x.toNat / 16)) (hxL (x.toNat % 16)) _) ?_
   clear F M a; intro a g23 v F M hb hg
   replace hS : Mm w v [] := (by refine M.pick' [] _ ?_ (by decide); exact trivial)
   refine hK _ _ hS ?_
   clear hK K
   replace O_x := O_x.below hb
   clear hb hg; try clear wD
   refine any_ready [8] (by kernel_rfl) (by simp) ?_
   refine ready_do rfl (wn rfl) (fun K hK => ?_) AllReadyH.nil
   have hxx := C_bytes (l := [(hxL (x.toNat / 16)), (hxL (x.toNat % 16))]) (by simp) (M.at (i := 0) rfl)
   replace M : Mm w v [] := (by refine M.pick' [] _ ?_ (by decide); exact trivial)
   refine og_app F M Tryd.underlying28 i5 z5s (by decide) (by decide) (Nat.le_refl _) M.bel.size trivial rfl rfl rfl _ _ rfl (.slice A_h ((hex16 (xs.take i)).length) c_h) (hex16 (xs.take i)) ([(hxL (x.toNat / 16)), (hxL (x.toNat % 16))]) (hex16 (xs.take (i + 1))) (hex16_snoc hx).symm (some ⟨g23, 0, none⟩) 2 2 (F.e rfl) (F.e rfl) O_x (hxx) (by rw [hex16_len, List.length_take]; omega) ?_
   clear F a; have Mo := M; clear M; intro a A_24 c_24 u F M Oz hgr
   replace hS : Mm w u [] := (by refine M.pick' [] _ ?_ (by decide); exact trivial)
   refine hK _ _ hS ?_
   clear hK K
   clear O_x Mo hgr; have O_x := Oz; clear Oz; try clear v
   clear hxx
   refine any_val F 9 rfl (by kernel_rfl) (wn rfl) rfl rfl (.slice A_24 ((hex16 (xs.take (i + 1))).length) c_24) (fun w' hS' => ex_assign _ rfl _ (F.e rfl)) hS ?_; clear F a; intro a F
   refine any_done (by kernel_rfl) ?_
   exact ⟨g23, A_24, c_24, F.keep ⟨rfl, rfl, rfl, rfl, rfl, rfl, rfl, rfl, trivial⟩, (by refine M.pick' [] _ ?_ (by decide); exact trivial), O_x⟩
  clear F M a O_x
  intro a v hR; obtain ⟨g23, A_24, c_24, F, M, O_x⟩ := hR; try clear u
  refine in_n ?_
  refine then_n ?_
  refine wp_region_lit ?_
  refine list_val F (wn rfl) rfl rfl (.int .i64 ((i + 1 : Nat) : Int)) (ex_bin .add _ _ _ _ rfl .i64 _ _ (F.e rfl) rfl _ (b_add ((w_i64 (by omega) (by omega)).trans (by omega)))) ?_; clear F a; intro a F
  refine list_val F (wn rfl) rfl rfl (.int .i64 ((i + 1 : Nat) : Int)) (ex_move _ rfl _ (F.e rfl)) ?_; clear F a; intro a F
  refine wpList_nil ?_
  replace F : Fr 28 a [(0, .slice (some ad) xs.length c), (2, .string (ST.str ([] : List UInt8))), (3, .slice A_24 ((hex16 (xs.take (i + 1))).length) c_24), (5, .int .u8 ((x.toNat : Nat) : Int)), (10, .slice (some ad) xs.length c), (11, .int .i64 ((xs.length : Nat) : Int)), (12, .int .i64 ((i + 1 : Nat) : Int)), (13, .bool true)] := F.keep ⟨rfl, rfl, rfl, rfl, rfl, rfl, rfl, rfl, trivial⟩
  refine then_n ?_
  exact ⟨xs.length - (i + 1), by omega, (i + 1), A_24, c_24, F.keep ⟨rfl, rfl, rfl, rfl, rfl, rfl, trivial⟩, (by refine M.pick' [] _ ?_ (by decide); exact trivial), O_x, (by omega), (by omega)⟩
 obtain rfl : i = xs.length := by omega
 rw [List.take_length] at F O_x
 refine wp_seq ?_
 refine wp_region_lit ?_
 refine list_val F (wn rfl) rfl rfl (.bool false) (ex_bin .lss _ _ _ _ rfl .i64 _ _ (F.e rfl) (F.e rfl) _ (b_lss (decide_eq_false (by omega)))) ?_; clear F a; intro a F
 refine wpList_nil ?_
 replace F : Fr 28 a [(0, .slice A xs.length c), (2, .string (ST.str ([] : List UInt8))), (3, .slice A_h ((hex16 xs).length) c_h), (10, .slice A xs.length c), (11, .int .i64 ((xs.length : Nat) : Int)), (12, .int .i64 ((xs.length : Nat) : Int)), (13, .bool false)] := F.keep ⟨rfl, rfl, rfl, rfl, rfl, rfl, rfl, trivial⟩
 refine then_n ?_
 refine wp_seq ?_
 refine wp_cond_false (F.e rfl) ?_
 refine wp_exit ?_
 refine then_x ?_
 refine then_x ?_
 refine in_hit ?_
 refine then_n ?_
 refine wp_seq ?_
 refine wp_region_lit ?_
 refine list_val F (wn rfl) rfl rfl (.slice A_h ((hex16 xs).length) c_h) (ex_move _ rfl _ (F.e rfl)) ?_; clear F a; intro a F
 refine list_val F (wn rfl) rfl rfl (.string (ST.str (hex16 xs))) (ST.ex_tos 28 9 _ rfl 5 Tryd.underlying28 un5 un9 A_h ((hex16 xs).length) c_h (hex16 xs) (F.e rfl) (O_x.rd.1)) ?_; clear F a; intro a F
 refine list_val F (wn rfl) rfl rfl (.string (ST.str (hex16 xs))) (ex_assign _ rfl _ (F.e rfl)) ?_; clear F a; intro a F
 refine wpList_nil ?_
 replace F : Fr 28 a [(0, .slice A xs.length c), (2, .string (ST.str (hex16 xs))), (3, .slice A_h ((hex16 xs).length) c_h), (10, .slice A xs.length c), (11, .int .i64 ((xs.length : Nat) : Int)), (12, .int .i64 ((xs.length : Nat) : Int)), (13, .bool false)] := F.keep ⟨rfl, rfl, rfl, rfl, rfl, rfl, rfl, trivial⟩
 refine then_n ?_
 refine wp_ret ?_
 exact ret_tmp F rfl rfl ⟨rfl, M.bel⟩
set_option maxHeartbeats 1000000 in
set_option maxRecDepth 100000 in
theorem num_any (z : Int) (w : World) : Calls Tryd.prog 11 #[.int .i64 z] w fun e w' => e = .returned (.int .i64 z) ∧ Below w.heap.size w w' := by
 refine calls_start Tryd.func11 rfl rfl rfl (fun a F => ?_)
 have M : Mm w w [] := Mm.nil w
 refine wp_seq ?_
 refine wp_region_lit ?_
 refine list_val F (wn rfl) rfl rfl (.int .i64 0) (ex_assign _ rfl _ rfl) ?_; clear F a; intro a F
 refine wpList_nil ?_
 replace F : Fr 4 a [(0, .int .i64 z), (2, .int .i64 0)] := F.keep ⟨rfl, rfl, trivial⟩
 refine then_n ?_
 refine wp_seq ?_
 refine wp_region_lit ?_
 refine list_val F (wn rfl) rfl rfl (.int .i64 z) (ex_move _ rfl _ (F.e rfl)) ?_; clear F a; intro a F
 refine list_val F (wn rfl) rfl rfl (.int .i64 z) (ex_assign _ rfl _ (F.e rfl)) ?_; clear F a; intro a F
 refine wpList_nil ?_
 replace F : Fr 4 a [(0, .int .i64 z), (2, .int .i64 z)] := F.keep ⟨rfl, rfl, trivial⟩
 refine then_n ?_
 refine wp_ret ?_
 exact ret_tmp F rfl rfl ⟨rfl, M.bel⟩
end Go.Proofs.YtadaacoddfkalaaDoor
