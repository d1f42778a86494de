/- The walk of slices.Insert (26) of one entry into a row of one's own. Conditions: the entry lies in another block. -/
import Derived.Test.YtnjbjjmoglogeaaGreatR2
import Derived.Lib.AppendZerosOnto
import Derived.Laws.CopyRow
namespace Go.Proofs.YtnjbjjmoglogeaaGreat
open Go.RowKit Go.Proofs.YtnjbjjmoglogeaaGreatW.PrintWords KB WG RO
set_option linter.unusedVariables false
set_option linter.unusedSimpArgs false
set_option linter.unnecessarySimpa false
section
variable {P : Program} {op : Oper} {a : Act} {w w0 : World} {n : Nat} {L : List (Nat × Value)} {H : List Blk} {K : Act → World → Prop} {Q : Exit → Act → World → Prop} {ρ : Operand → Value}
theorem run_copy_rowm {m : Nat} (w : World) (dT sT ty elem : TypeId) (g o dLen dCap : Nat) (a : Addr) (sLen sCap : Nat) (cur : Array Value) (t : TypeId) (cs : List Value)
    (hu : P.underlying dT = some (.slice elem)) (hs : (P.info? elem).map (·.size) = some m)
    (hg : w.heap[g]? = some (.cells cur t (0, 0))) (hn : cs.length = Nat.min sLen dLen * m)
    (hsrc : ∀ j v, cs[j]? = some v → w.cell? (a.add j) = some v) (hfit : o + cs.length ≤ cur.size) (h1 : ∀ v ∈ cs, v.oneCell' = true) :
    (Builtin.copy_ #[dT, sT] ty #[.slice (some ⟨g, o, none⟩) dLen dCap, .slice (some a) sLen sCap]).run P w =
      .ok (goInt (Nat.min sLen dLen)) (w.setRow g (cur.toList.take o ++ cs ++ cur.toList.drop (o + cs.length)).toArray) := by
  have hl := run_loadCells_list (P := P) w a cs hsrc
  have hst := run_storeCells_at P g o t cs 0 cur w hg (by simpa using hfit) h1
  cases hq : P.info? elem with
  | none => simp [hq] at hs
  | some i =>
    have hi : i.size = m := by simpa [hq] using hs
    simp [Builtin.copy_, run_underlying hu, Builtin.lenOf, Builtin.firstCells, sizeOf, typeInfo, hq, hi, ← hn, hl, hst]
theorem ow_copyM (F : Fr n a L) (M : Mm w0 w H) {t e m : Nat} (hu : P.underlying t = some (.slice e)) (hs : (P.info? e).map (·.size) = some m) {d : Nat} (hd : op.dst = some d) (hlt : Nat.blt d n = true) (x y : Operand) (ho : op.op = .call { callee := .builtin .copy, args := #[x, y], argTypes := #[t, t] })
    (i g o dl dc : Nat) (cur : Array Value) (T : TypeId) (hi : H[i]? = some ⟨g, cur, T⟩) (hx : a.eval x = .slice (some ⟨g, o, none⟩) dl dc) (ad : Addr) (sl sc : Nat) (hy : a.eval y = .slice (some ad) sl sc) (cs : List Value) (hcs : cs.length = Nat.min sl dl * m) (hA : At w ad cs) (h1 : ∀ v ∈ cs, v.oneCell' = true) (hfit : o + cs.length ≤ cur.size)
    (cur' : Array Value) (hc' : (cur.toList.take o ++ cs ++ cur.toList.drop (o + cs.length)).toArray = cur')
    (h : ∀ a' w', Fr n a' ((d, .int .i64 (Nat.min sl dl : Nat)) :: L) → Mm w0 w' (H.set i ⟨g, cur', T⟩) → w.grownBy w' (some g) → K a' w') : op.wp P a w K Q := by
  subst hc'
  have hb := M.blk i _ hi
  have hr := run_copy_rowm (P := P) w t t op.type e g o dl dc ad sl sc cur T cs hu hs hb hcs hA hfit h1
  unfold Oper.wp execOp
  simp only [ho, resolve, invoke, builtin, Sem.run_bind, Sem.run_pure, Result.andThen_ok, List.map_toArray, List.map_cons, List.map_nil, hx, hy, hr]
  exact (by rw [hd]; exact h _ _ (F.put _ hlt) (M.grown (b := ⟨g, cur, T⟩) hi _ (setRow_grown w g _) (setRow_heap w g _ _ T (0, 0) hb)) (setRow_grown w g _) : K (a.put op.dst _) _)
/-- append(s[:q], make(S, k)...), where there is no room. -/
theorem ow_appzero (F : Fr n a L) (M : Mm w0 w H) {t ti e b : Nat} {z : Value} {m : Nat} {kk : IntKind} (hu : P.underlying t = some (.slice e)) (hti : P.underlying ti = some (.int kk)) (hz : (P.info? e).map (fun i => (i.zero, i.size, i.bytes)) = some (some z, m, b)) (hzs : z.cells.size = m) (hm : 0 < m)
    {d : Nat} (hd : op.dst = some d) (hlt : Nat.blt d n = true) (x y : Operand) (ho : op.op = .call { callee := .builtin .append, args := #[x, y], argTypes := #[t, ti] })
    (ad : Addr) (q c k : Nat) (hx : a.eval x = .slice (some ad) q c) (hy : a.eval y = .int .i64 (k : Int)) (olds : List Value) (hol : olds.length = q * m) (hA : At w ad olds) (hk : 0 < k) (hg : c < q + k) (hby : (q + k) * b ≤ 140737488355328) (hmx : q + k ≤ 1000000000)
    (h : ∀ a' g' c' sp' w', Fr n a' ((d, .slice (some ⟨g', 0, none⟩) (q + k) c') :: L) → Mm w0 w' (⟨g', (olds ++ sp').toArray, e⟩ :: H) → (olds ++ sp').length = c' * m → q + k ≤ c' → c' ≤ maxLen → Below w.heap.size w w' → w.heap.size ≤ g' → K a' w') : op.wp P a w K Q := by
  obtain ⟨i, hi, hzz⟩ := Option.map_eq_some_iff.1 hz
  simp only [Prod.mk.injEq] at hzz
  obtain ⟨hz0, hz1, hz2⟩ := hzz
  subst hz1 hz2
  have hold := run_firstCells_some (P := P) w.drew i.size q ad q c olds hol (fun j v hv => hA j v hv)
  have h1 : k * i.bytes ≤ (q + k) * i.bytes := Nat.mul_le_mul_right _ (by omega)
  have hr := Lib.run_append_grow_zeros (P := P) w t ti op.type e i z .i64 kk hu hti hi hz0 (some ad) q c olds hold k hk hm hg (by omega) (by omega) (growslice_fits (by omega) hby)
  have hge := grownCap_ge w (q + k) c e
  have hcm' := grownCap_le_maxLen w (q + k) c e (by simp only [maxLen]; omega)
  have hbl : Below w.heap.size w (w.drew.alloc (.cells (olds.toArray ++ Builtin.zeroCells z.cells k ++ Builtin.zeroCells z.cells (grownCap w (q + k) c e - (q + k))) e)) := (below_drew1 (Below.refl _ w)).alloc (Nat.le_refl _) _
  have earr : olds.toArray ++ Builtin.zeroCells z.cells k ++ Builtin.zeroCells z.cells (grownCap w (q + k) c e - (q + k)) = (olds ++ ((Builtin.zeroCells z.cells k).toList ++ (Builtin.zeroCells z.cells (grownCap w (q + k) c e - (q + k))).toList)).toArray := by
    apply Array.ext'
    simp
  have hnew := blk_of_alloc w.drew (olds.toArray ++ Builtin.zeroCells z.cells k ++ Builtin.zeroCells z.cells (grownCap w (q + k) c e - (q + k))) e
  unfold Oper.wp execOp
  simp only [ho, resolve, invoke, builtin, Sem.run_bind, Sem.run_pure, Result.andThen_ok, List.map_toArray, List.map_cons, List.map_nil, hx, hy, hr]
  rw [earr] at hnew hbl ⊢
  refine h _ w.heap.size (grownCap w (q + k) c e) _ _ (by rw [hd]; exact F.put _ hlt) (M.new ⟨w.heap.size, _, e⟩ hbl (Nat.le_refl _) hnew) ?_ hge hcm' hbl (Nat.le_refl _)
  simp only [List.length_append, Array.length_toList, size_zeroCells, hol, hzs, ← Nat.add_mul]
  congr 1
  omega
theorem ex_cutendB (t e m : Nat) (hu : P.underlying t = some (.slice e)) (hs : (P.info? e).map (·.size) = some m) (x y : Operand) (ho : op.op = .slice t x (some y) none none) (g q c : Nat) (hx : ρ x = .slice (some ⟨g, 0, none⟩) q c) (j : Int) (hy : ρ y = .int .i64 j) (k : Nat) (hk : j = (k : Int)) (hc : k ≤ q) (hne : c ≠ k) :
    (execOp ρ op).run P w = .ok (.value (.slice (some ⟨g, k * m, none⟩) (q - k) (c - k))) w := by
  have h := ex_cutend (w := w) t e m hu hs x y ho (some ⟨g, 0, none⟩) q c hx j hy k hk hc
  rw [show cutA m (some ⟨g, 0, none⟩) k c = some ⟨g, k * m, none⟩ by unfold cutA; rw [if_neg hne, Option.map_some, addr_add, Nat.zero_add]] at h
  exact h
theorem ex_cap (x : Operand) (t m : Nat) (ht : sl? P t m = true) (ho : op.op = .call { callee := .builtin .cap, args := #[x], argTypes := #[t] }) (A : Option Addr) (n c : Nat) (hx : ρ x = .slice A n c) : (execOp ρ op).run P w = .ok (.value (.int .i64 c)) w := by
  obtain ⟨e, hu, _⟩ := sl_split ht
  unfold execOp
  simp only [ho, resolve, List.map_toArray, List.map_cons, List.map_nil, hx, Sem.run_bind, Sem.run_pure, Result.andThen_ok, invoke, builtin, Builtin.cap_]
  simp [run_underlying hu w, goInt]
end
/-- Cells from an offset on are written anew. -/
theorem put_tail {F S cs : List Value} {o : Nat} (hF : F.length = o) : ((F ++ S).toArray.toList.take o ++ cs ++ (F ++ S).toArray.toList.drop (o + cs.length)).toArray = (F ++ cs ++ S.drop cs.length).toArray := by
  rw [List.toList_toArray, List.take_left' hF, List.drop_append, List.drop_eq_nil_of_le (by omega), List.nil_append, hF]
  congr 3
  omega
theorem flat_len (l : List Rv) : (l.flatMap Rv.cs).length = l.length * 19 := rows_len Rv.cs_len l
theorem flat_one (l : List Rv) : ∀ v ∈ l.flatMap Rv.cs, v.oneCell' = true := fun v hv => by
  obtain ⟨x, _, hx⟩ := List.mem_flatMap.1 hv
  exact Rv.cs_one x v hx
theorem flat_split (xs : List Rv) (q : Nat) : xs.flatMap Rv.cs = (xs.take q).flatMap Rv.cs ++ (xs.drop q).flatMap Rv.cs := by
  rw [← List.flatMap_append, List.take_append_drop]
theorem at_from {w : World} {g q : Nat} {xs : List Rv} {sp : List Value} (h : At w ⟨g, 0, none⟩ (xs.flatMap Rv.cs ++ sp)) (hq : q ≤ xs.length) : At w ⟨g, q * 19, none⟩ ((xs.drop q).flatMap Rv.cs) := fun j v hv => by
  have h1 : (xs.flatMap Rv.cs ++ sp)[q * 19 + j]? = some v := by
    rw [flat_split xs q, List.append_assoc, List.getElem?_append_right (by rw [flat_len, List.length_take]; omega), flat_len, List.length_take, Nat.min_eq_left hq, show q * 19 + j - q * 19 = j by omega, List.getElem?_append_left (List.getElem?_eq_some_iff.1 hv).1]
    exact hv
  have h2 := h _ _ h1
  rw [addr_add] at h2 ⊢
  rwa [Nat.zero_add] at h2
theorem at_to {w : World} {g q : Nat} {xs : List Rv} {sp : List Value} (h : At w ⟨g, 0, none⟩ (xs.flatMap Rv.cs ++ sp)) : At w ⟨g, 0, none⟩ ((xs.take q).flatMap Rv.cs) := fun j v hv => h j v (by
  rw [flat_split xs q, List.append_assoc, List.getElem?_append_left (List.getElem?_eq_some_iff.1 hv).1]
  exact hv)
theorem ins_flat (xs : List Rv) (q : Nat) (x : Rv) : (xs.take q ++ [x] ++ xs.drop q).flatMap Rv.cs = (xs.take q).flatMap Rv.cs ++ x.cs ++ (xs.drop q).flatMap Rv.cs := by simp
theorem shape_of {w : World} {g : Nat} {cs : Array Value} {t : TypeId} (h : w.heap[g]? = some (.cells cs t (0, 0))) : w.shape? g = some (t, cs.size) := by
  simp [World.shape?, h]
theorem run_over {w : World} {gx g o l c : Nat} {x : Rv} {cur : Array Value} (hx : w.heap[gx]? = some (.cells x.arr 85 (0, 0))) (hg : w.heap[g]? = some (.cells cur 85 (0, 0))) (hne : gx ≠ g) (hc : cur.size ≠ 0) : (callFunc 80 #[.slice (some ⟨gx, 0, none⟩) 1 1, .slice (some ⟨g, o, none⟩) l c]).run Tryz.prog w = .ok (.value (.bool false)) w := by
  have h := Lib.run_overlaps_apart (P := Tryz.prog) w 57 4 85 Tryz.underlying57 19 (size_run s85) ⟨gx, 0, none⟩ ⟨g, o, none⟩ 1 1 l c hne 85 85 19 cur.size (by rw [shape_of hx, Rv.arr_size]) (shape_of hg) hc (by simp [World.frozen?, hx]) (by simp [World.frozen?, hx])
  rw [run_callFunc_extern (e := Extern.SlicesOverlaps.overlaps #[57, 57] #[4]) Tryz.func80 (by kernel_rfl) (by kernel_rfl) (by kernel_rfl) (by kernel_rfl), h]
  rfl
theorem cut_q {xs : List Rv} {q : Nat} {sp : List Value} (hq : q < xs.length) : (xs.flatMap Rv.cs ++ sp).take ((q + 1) * 19) = (xs.take q).flatMap Rv.cs ++ ((xs.flatMap Rv.cs ++ sp).drop (q * 19)).take 19 := by
  have hf : ((xs.take q).flatMap Rv.cs).length = q * 19 := by rw [flat_len, List.length_take]; congr 1; omega
  have e : (xs.flatMap Rv.cs ++ sp).take (q * 19) = (xs.take q).flatMap Rv.cs := by
    rw [flat_split xs q, List.append_assoc, List.take_left' hf]
  rw [← e, ← List.take_add, show q * 19 + 19 = (q + 1) * 19 by omega]
theorem M_one {w0 w : World} {H : List Blk} (M : Mm w0 w H) {i : Nat} {b : Blk} (hi : H[i]? = some b) : Mm w0 w [b] :=
  M.pick' [i] [b] ⟨hi, trivial⟩ (by simp)
theorem M_two {w0 w : World} {a : Blk} {g : Nat} {cs : Array Value} {t : TypeId} (M : Mm w0 w [a]) (hg : w0.heap.size ≤ g) (hh : w.heap[g]? = some (.cells cs t (0, 0))) (hne : a.g ≠ g) : Mm w0 w [a, ⟨g, cs, t⟩] where
  bel := M.bel
  blk := fun i b h => by
    match i, h with
    | 0, h => exact M.blk 0 b h
    | 1, h => obtain rfl := Option.some.inj h; exact hh
    | i + 2, h => simp at h
  lo := fun i b h => by
    match i, h with
    | 0, h => exact M.lo 0 b h
    | 1, h => obtain rfl := Option.some.inj h; exact hg
    | i + 2, h => simp at h
  nd := fun i j b c hi hj e => by
    match i, j, hi, hj with
    | 0, 0, _, _ => rfl
    | 1, 1, _, _ => rfl
    | 0, 1, hi, hj => obtain rfl := Option.some.inj hi; obtain rfl := Option.some.inj hj; exact absurd e hne
    | 1, 0, hi, hj => obtain rfl := Option.some.inj hi; obtain rfl := Option.some.inj hj; exact absurd e.symm hne
    | i + 2, _, hi, _ => simp at hi
    | 0, j + 2, _, hj => simp at hj
    | 1, j + 2, _, hj => simp at hj
theorem r3_sl_57_19 : sl? Tryz.prog 57 19 = true := by kernel_rfl
set_option maxHeartbeats 1000000 in
set_option maxRecDepth 100000 in
theorem insert_end0 (xs : List Rv) (A : Option Addr) (c : Nat) (x : Rv) (gx : Nat) (w0 w : World) (hM : Mm w0 w [⟨gx, x.arr, 85⟩]) (O_x : Ow kRv 85 w w0.heap.size (.slice A xs.length c) xs) (hc : xs.length ≤ c) (hmx : xs.length ≤ 1000000) :
    Calls Tryz.prog 41 #[.slice A xs.length c, .int .i64 ((xs.length : Nat) : Int), .slice (some ⟨gx, 0, none⟩) 1 1] w fun e w' => ∃ A' c', e = .returned (.slice A' (xs ++ [x]).length c') ∧ Ow kRv 85 w' w0.heap.size (.slice A' (xs ++ [x]).length c') (xs ++ [x]) ∧ Below w0.heap.size w0 w' := by
 refine calls_start Tryz.func41 rfl rfl rfl (fun a F => ?_)
 have M : Mm w0 w [⟨gx, x.arr, 85⟩] := hM
 refine wp_seq ?_
 refine wp_region_lit ?_
 refine list_val F (wn rfl) rfl rfl (.slice none 0 0) (ex_assign _ rfl _ rfl) ?_; clear F a; intro a F
 refine wpList_nil ?_
 replace F : Fr 95 a [(0, .slice A xs.length c), (1, .int .i64 ((xs.length : Nat) : Int)), (2, .slice (some ⟨gx, 0, none⟩) 1 1), (6, .slice none 0 0)] := F.keep ⟨rfl, rfl, rfl, rfl, trivial⟩
 refine then_n ?_
 refine wp_seq ?_
 refine wp_region_lit ?_
 refine list_val F (wn rfl) rfl rfl (.slice A xs.length c) (ex_move _ rfl _ (F.e rfl)) ?_; clear F a; intro a F
 refine list_val F (wn rfl) rfl rfl (.int .i64 ((xs.length : Nat) : Int)) (ex_move _ rfl _ (F.e rfl)) ?_; clear F a; intro a F
 refine list_val F (wn rfl) rfl rfl (.slice (cutA 19 A xs.length c) (xs.length - xs.length) (c - xs.length)) (ex_cutend 57 85 19 Tryz.underlying57 s85 _ _ rfl A xs.length c (F.e rfl) _ (F.e rfl) xs.length rfl (by omega)) ?_; clear F a; intro a F
 refine wpList_nil ?_
 replace F : Fr 95 a [(0, .slice A xs.length c), (1, .int .i64 ((xs.length : Nat) : Int)), (2, .slice (some ⟨gx, 0, none⟩) 1 1), (6, .slice none 0 0)] := F.keep ⟨rfl, rfl, rfl, rfl, trivial⟩
 refine then_n ?_
 refine wp_seq ?_
 refine wp_region_lit ?_
 refine list_val F (wn rfl) rfl rfl (.slice (some ⟨gx, 0, none⟩) 1 1) (ex_move _ rfl _ (F.e rfl)) ?_; clear F a; intro a F
 refine list_val F (wn rfl) rfl rfl (.int .i64 1) (ex_len _ _ rfl 19 r3_sl_57_19 _ _ _ (F.e rfl)) ?_; clear F a; intro a F
 refine list_val F (wn rfl) rfl rfl (.int .i64 1) (ex_assign _ rfl _ (F.e rfl)) ?_; clear F a; intro a F
 refine wpList_nil ?_
 replace F : Fr 95 a [(0, .slice A xs.length c), (1, .int .i64 ((xs.length : Nat) : Int)), (2, .slice (some ⟨gx, 0, none⟩) 1 1), (6, .slice none 0 0), (7, .int .i64 1)] := F.keep ⟨rfl, rfl, rfl, rfl, rfl, trivial⟩
 refine then_n ?_
 refine wp_seq ?_
 refine wp_seq ?_
 refine wp_region_lit ?_
 refine list_val F (wn rfl) rfl rfl (.int .i64 1) (ex_move _ rfl _ (F.e rfl)) ?_; clear F a; intro a F
 refine list_val F (wn rfl) rfl rfl (.bool false) (ex_bin .eql _ _ _ _ rfl .i64 _ _ (F.e rfl) rfl _ (b_eql (by decide))) ?_; clear F a; intro a F
 refine wpList_nil ?_
 replace F : Fr 95 a [(0, .slice A xs.length c), (1, .int .i64 ((xs.length : Nat) : Int)), (2, .slice (some ⟨gx, 0, none⟩) 1 1), (6, .slice none 0 0), (7, .int .i64 1), (16, .bool false)] := F.keep ⟨rfl, rfl, rfl, rfl, rfl, rfl, trivial⟩
 refine then_n ?_
 refine wp_cond_false (F.e rfl) ?_
 refine wp_skip ?_
 refine then_n ?_
 refine wp_seq ?_
 refine wp_region_lit ?_
 refine list_val F (wn rfl) rfl rfl (.slice A xs.length c) (ex_move _ rfl _ (F.e rfl)) ?_; clear F a; intro a F
 refine list_val F (wn rfl) rfl rfl (.int .i64 ((xs.length : Nat) : Int)) (ex_len _ _ rfl 19 r3_sl_57_19 _ _ _ (F.e rfl)) ?_; clear F a; intro a F
 refine list_val F (wn rfl) rfl rfl (.int .i64 ((xs.length : Nat) : Int)) (ex_assign _ rfl _ (F.e rfl)) ?_; clear F a; intro a F
 refine wpList_nil ?_
 replace F : Fr 95 a [(0, .slice A xs.length c), (1, .int .i64 ((xs.length : Nat) : Int)), (2, .slice (some ⟨gx, 0, none⟩) 1 1), (6, .slice none 0 0), (7, .int .i64 1), (8, .int .i64 ((xs.length : Nat) : Int)), (16, .bool false)] := F.keep ⟨rfl, rfl, rfl, rfl, rfl, rfl, rfl, trivial⟩
 refine then_n ?_
 refine wp_seq ?_
 refine wp_seq ?_
 refine wp_region_lit ?_
 refine list_val F (wn rfl) rfl rfl (.int .i64 ((xs.length : Nat) : Int)) (ex_move _ rfl _ (F.e rfl)) ?_; clear F a; intro a F
 refine list_val F (wn rfl) rfl rfl (.int .i64 ((xs.length : Nat) : Int)) (ex_move _ rfl _ (F.e rfl)) ?_; clear F a; intro a F
 refine list_val F (wn rfl) rfl rfl (.bool true) (ex_bin .eql _ _ _ _ rfl .i64 _ _ (F.e rfl) (F.e rfl) _ (b_eql (by simp))) ?_; clear F a; intro a F
 refine wpList_nil ?_
 replace F : Fr 95 a [(0, .slice A xs.length c), (1, .int .i64 ((xs.length : Nat) : Int)), (2, .slice (some ⟨gx, 0, none⟩) 1 1), (6, .slice none 0 0), (7, .int .i64 1), (8, .int .i64 ((xs.length : Nat) : Int)), (16, .bool false), (22, .bool true)] := F.keep ⟨rfl, rfl, rfl, rfl, rfl, rfl, rfl, rfl, trivial⟩
 refine then_n ?_
 refine wp_cond_true (F.e rfl) ?_
 refine wp_seq ?_
 refine wp_region_lit ?_
 refine list_val F (wn rfl) rfl rfl (.slice A xs.length c) (ex_move _ rfl _ (F.e rfl)) ?_; clear F a; intro a F
 refine list_val F (wn rfl) rfl rfl (.slice (some ⟨gx, 0, none⟩) 1 1) (ex_move _ rfl _ (F.e rfl)) ?_; clear F a; intro a F
 refine list_do (wn rfl) (fun K hK => ?_)
 have hxx := C_one (enc := Rv.cs) (hl := Rv.cs_len) (h1 := Rv.cs_one) (M.at (i := 0) rfl)
 replace M : Mm w0 w [] := (by refine M.pick' [] _ ?_ (by decide); exact trivial)
 refine og_app F M Tryz.underlying57 i85 z85s (by decide) (by decide) (Nat.le_refl _) M.bel.size trivial rfl rfl rfl _ _ rfl (.slice A xs.length c) xs ([x]) (xs ++ [x]) rfl (some ⟨gx, 0, none⟩) 1 1 (F.e rfl) (F.e rfl) O_x (hxx) (by omega) ?_
 clear F a; have Mo := M; clear M; intro a A_25 c_25 v F M Oz hgr
 refine hK _ _ ?_
 clear hK K
 clear O_x Mo hgr; have O_x := Oz; clear Oz; try clear w
 refine list_val F (wn rfl) rfl rfl (.slice A_25 ((xs ++ [x]).length) c_25) (ex_assign _ rfl _ (F.e rfl)) ?_; clear F a; intro a F
 refine wpList_nil ?_
 replace F : Fr 95 a [(0, .slice A xs.length c), (1, .int .i64 ((xs.length : Nat) : Int)), (2, .slice (some ⟨gx, 0, none⟩) 1 1), (6, .slice A_25 ((xs ++ [x]).length) c_25), (7, .int .i64 1), (8, .int .i64 ((xs.length : Nat) : Int)), (16, .bool false), (22, .bool true)] := F.keep ⟨rfl, rfl, rfl, rfl, rfl, rfl, rfl, rfl, trivial⟩
 refine then_n ?_
 refine wp_ret ?_
 refine then_r ?_
 exact ret_tmp F rfl rfl ⟨A_25, c_25, rfl, by rw [List.length_append] at O_x ⊢; exact O_x, M.bel⟩
theorem r3_follows_mixedOrders : Tryz.prog.follows .mixedOrders = true := by kernel_rfl
set_option maxHeartbeats 1000000 in
set_option maxRecDepth 100000 in
theorem insert_mid0 (xs : List Rv) (g c q : Nat) (sp : List Value) (x : Rv) (gx : Nat) (w0 w : World) (hM : Mm w0 w [⟨gx, x.arr, 85⟩, ⟨g, (xs.flatMap Rv.cs ++ sp).toArray, 85⟩]) (hq : q < xs.length) (hsz : (xs.flatMap Rv.cs ++ sp).length = c * 19) (hc : xs.length ≤ c) (hcm : c ≤ maxLen) (hmx : xs.length ≤ 1000000) :
    Calls Tryz.prog 41 #[.slice (some ⟨g, 0, none⟩) xs.length c, .int .i64 ((q : Nat) : Int), .slice (some ⟨gx, 0, none⟩) 1 1] w fun e w' => ∃ A' c', e = .returned (.slice A' (xs.length + 1) c') ∧ Ow kRv 85 w' w0.heap.size (.slice A' (xs.length + 1) c') (xs.take q ++ [x] ++ xs.drop q) ∧ Below w0.heap.size w0 w' := by
 have hne : gx ≠ g := fun e => by have := hM.nd 0 1 _ _ rfl rfl e; omega
 refine calls_start Tryz.func41 rfl rfl rfl (fun a F => ?_)
 have M : Mm w0 w [⟨gx, x.arr, 85⟩, ⟨g, (xs.flatMap Rv.cs ++ sp).toArray, 85⟩] := hM
 refine wp_seq ?_
 refine wp_region_lit ?_
 refine list_val F (wn rfl) rfl rfl (.slice none 0 0) (ex_assign _ rfl _ rfl) ?_; clear F a; intro a F
 refine wpList_nil ?_
 replace F : Fr 95 a [(0, .slice (some ⟨g, 0, none⟩) xs.length c), (1, .int .i64 ((q : Nat) : Int)), (2, .slice (some ⟨gx, 0, none⟩) 1 1), (6, .slice none 0 0)] := F.keep ⟨rfl, rfl, rfl, rfl, trivial⟩
 refine then_n ?_
 refine wp_seq ?_
 refine wp_region_lit ?_
 refine list_val F (wn rfl) rfl rfl (.slice (some ⟨g, 0, none⟩) xs.length c) (ex_move _ rfl _ (F.e rfl)) ?_; clear F a; intro a F
 refine list_val F (wn rfl) rfl rfl (.int .i64 ((q : Nat) : Int)) (ex_move _ rfl _ (F.e rfl)) ?_; clear F a; intro a F
 refine list_val F (wn rfl) rfl rfl (.slice (some ⟨g, q * 19, none⟩) (xs.length - q) (c - q)) (ex_cutendB 57 85 19 Tryz.underlying57 s85 _ _ rfl g xs.length c (F.e rfl) _ (F.e rfl) q rfl (by omega) (by omega)) ?_; clear F a; intro a F
 refine wpList_nil ?_
 replace F : Fr 95 a [(0, .slice (some ⟨g, 0, none⟩) xs.length c), (1, .int .i64 ((q : Nat) : Int)), (2, .slice (some ⟨gx, 0, none⟩) 1 1), (6, .slice none 0 0)] := F.keep ⟨rfl, rfl, rfl, rfl, trivial⟩
 refine then_n ?_
 refine wp_seq ?_
 refine wp_region_lit ?_
 refine list_val F (wn rfl) rfl rfl (.slice (some ⟨gx, 0, none⟩) 1 1) (ex_move _ rfl _ (F.e rfl)) ?_; clear F a; intro a F
 refine list_val F (wn rfl) rfl rfl (.int .i64 1) (ex_len _ _ rfl 19 r3_sl_57_19 _ _ _ (F.e rfl)) ?_; clear F a; intro a F
 refine list_val F (wn rfl) rfl rfl (.int .i64 1) (ex_assign _ rfl _ (F.e rfl)) ?_; clear F a; intro a F
 refine wpList_nil ?_
 replace F : Fr 95 a [(0, .slice (some ⟨g, 0, none⟩) xs.length c), (1, .int .i64 ((q : Nat) : Int)), (2, .slice (some ⟨gx, 0, none⟩) 1 1), (6, .slice none 0 0), (7, .int .i64 1)] := F.keep ⟨rfl, rfl, rfl, rfl, rfl, trivial⟩
 refine then_n ?_
 refine wp_seq ?_
 refine wp_seq ?_
 refine wp_region_lit ?_
 refine list_val F (wn rfl) rfl rfl (.int .i64 1) (ex_move _ rfl _ (F.e rfl)) ?_; clear F a; intro a F
 refine list_val F (wn rfl) rfl rfl (.bool false) (ex_bin .eql _ _ _ _ rfl .i64 _ _ (F.e rfl) rfl _ (b_eql (by decide))) ?_; clear F a; intro a F
 refine wpList_nil ?_
 replace F : Fr 95 a [(0, .slice (some ⟨g, 0, none⟩) xs.length c), (1, .int .i64 ((q : Nat) : Int)), (2, .slice (some ⟨gx, 0, none⟩) 1 1), (6, .slice none 0 0), (7, .int .i64 1), (16, .bool false)] := F.keep ⟨rfl, rfl, rfl, rfl, rfl, rfl, trivial⟩
 refine then_n ?_
 refine wp_cond_false (F.e rfl) ?_
 refine wp_skip ?_
 refine then_n ?_
 refine wp_seq ?_
 refine wp_region_lit ?_
 refine list_val F (wn rfl) rfl rfl (.slice (some ⟨g, 0, none⟩) xs.length c) (ex_move _ rfl _ (F.e rfl)) ?_; clear F a; intro a F
 refine list_val F (wn rfl) rfl rfl (.int .i64 ((xs.length : Nat) : Int)) (ex_len _ _ rfl 19 r3_sl_57_19 _ _ _ (F.e rfl)) ?_; clear F a; intro a F
 refine list_val F (wn rfl) rfl rfl (.int .i64 ((xs.length : Nat) : Int)) (ex_assign _ rfl _ (F.e rfl)) ?_; clear F a; intro a F
 refine wpList_nil ?_
 replace F : Fr 95 a [(0, .slice (some ⟨g, 0, none⟩) xs.length c), (1, .int .i64 ((q : Nat) : Int)), (2, .slice (some ⟨gx, 0, none⟩) 1 1), (6, .slice none 0 0), (7, .int .i64 1), (8, .int .i64 ((xs.length : Nat) : Int)), (16, .bool false)] := F.keep ⟨rfl, rfl, rfl, rfl, rfl, rfl, rfl, trivial⟩
 refine then_n ?_
 refine wp_seq ?_
 refine wp_seq ?_
 refine wp_region_lit ?_
 refine list_val F (wn rfl) rfl rfl (.int .i64 ((q : Nat) : Int)) (ex_move _ rfl _ (F.e rfl)) ?_; clear F a; intro a F
 refine list_val F (wn rfl) rfl rfl (.int .i64 ((xs.length : Nat) : Int)) (ex_move _ rfl _ (F.e rfl)) ?_; clear F a; intro a F
 refine list_val F (wn rfl) rfl rfl (.bool false) (ex_bin .eql _ _ _ _ rfl .i64 _ _ (F.e rfl) (F.e rfl) _ (b_eql (by simp; omega))) ?_; clear F a; intro a F
 refine wpList_nil ?_
 replace F : Fr 95 a [(0, .slice (some ⟨g, 0, none⟩) xs.length c), (1, .int .i64 ((q : Nat) : Int)), (2, .slice (some ⟨gx, 0, none⟩) 1 1), (6, .slice none 0 0), (7, .int .i64 1), (8, .int .i64 ((xs.length : Nat) : Int)), (16, .bool false), (22, .bool false)] := F.keep ⟨rfl, rfl, rfl, rfl, rfl, rfl, rfl, rfl, trivial⟩
 refine then_n ?_
 refine wp_cond_false (F.e rfl) ?_
 refine wp_skip ?_
 refine then_n ?_
 refine wp_seq ?_
 refine wp_seq ?_
 by_cases hroom : c < xs.length + 1
 ·
  refine wp_region_lit ?_
  refine list_val F (wn rfl) rfl rfl (.int .i64 ((xs.length : Nat) : Int)) (ex_move _ rfl _ (F.e rfl)) ?_; clear F a; intro a F
  refine list_val F (wn rfl) rfl rfl (.int .i64 1) (ex_move _ rfl _ (F.e rfl)) ?_; clear F a; intro a F
  refine list_val F (wn rfl) rfl rfl (.int .i64 ((xs.length + 1 : Nat) : Int)) (ex_bin .add _ _ _ _ rfl .i64 _ _ (F.e rfl) (F.e rfl) _ (b_add ((w_i64 (by omega) (by omega)).trans (by omega)))) ?_; clear F a; intro a F
  refine list_val F (wn rfl) rfl rfl (.slice (some ⟨g, 0, none⟩) xs.length c) (ex_move _ rfl _ (F.e rfl)) ?_; clear F a; intro a F
  refine list_val F (wn rfl) rfl rfl (.int .i64 ((c : Nat) : Int)) (ex_cap _ 57 19 r3_sl_57_19 rfl (some ⟨g, 0, none⟩) xs.length c (F.e rfl)) ?_; clear F a; intro a F
  refine list_val F (wn rfl) rfl rfl (.bool true) (ex_bin .gtr _ _ _ _ rfl .i64 _ _ (F.e rfl) (F.e rfl) _ (b_gtr (decide_eq_true (by omega)))) ?_; clear F a; intro a F
  refine wpList_nil ?_
  replace F : Fr 95 a [(0, .slice (some ⟨g, 0, none⟩) xs.length c), (1, .int .i64 ((q : Nat) : Int)), (2, .slice (some ⟨gx, 0, none⟩) 1 1), (6, .slice none 0 0), (7, .int .i64 1), (8, .int .i64 ((xs.length : Nat) : Int)), (16, .bool false), (22, .bool false), (31, .bool true)] := F.keep ⟨rfl, rfl, rfl, rfl, rfl, rfl, rfl, rfl, rfl, trivial⟩
  refine then_n ?_
  refine wp_cond_true (F.e rfl) ?_
  refine wp_seq ?_
  refine wp_region_lit ?_
  refine list_val F (wn rfl) rfl rfl (.slice (some ⟨g, 0, none⟩) xs.length c) (ex_move _ rfl _ (F.e rfl)) ?_; clear F a; intro a F
  refine list_val F (wn rfl) rfl rfl (.int .i64 ((q : Nat) : Int)) (ex_move _ rfl _ (F.e rfl)) ?_; clear F a; intro a F
  refine list_val F (wn rfl) rfl rfl (.slice (some ⟨g, 0, none⟩) q c) (ex_cutto 57 85 19 Tryz.underlying57 s85 _ _ rfl (some ⟨g, 0, none⟩) xs.length c (F.e rfl) _ (F.e rfl) q rfl (by omega)) ?_; clear F a; intro a F
  refine list_val F (wn rfl) rfl rfl (.int .i64 ((xs.length : Nat) : Int)) (ex_move _ rfl _ (F.e rfl)) ?_; clear F a; intro a F
  refine list_val F (wn rfl) rfl rfl (.int .i64 1) (ex_move _ rfl _ (F.e rfl)) ?_; clear F a; intro a F
  refine list_val F (wn rfl) rfl rfl (.int .i64 ((xs.length + 1 : Nat) : Int)) (ex_bin .add _ _ _ _ rfl .i64 _ _ (F.e rfl) (F.e rfl) _ (b_add ((w_i64 (by omega) (by omega)).trans (by omega)))) ?_; clear F a; intro a F
  refine list_val F (wn rfl) rfl rfl (.int .i64 ((q : Nat) : Int)) (ex_move _ rfl _ (F.e rfl)) ?_; clear F a; intro a F
  refine list_val F (wn rfl) rfl rfl (.int .i64 ((xs.length + 1 - q : Nat) : Int)) (ex_bin .sub _ _ _ _ rfl .i64 _ _ (F.e rfl) (F.e rfl) _ (b_sub ((w_i64 (by omega) (by omega)).trans (by omega)))) ?_; clear F a; intro a F
  refine list_do (wn rfl) (fun K hK => ?_)
  refine ow_appzero F M Tryz.underlying57 (by kernel_rfl : Tryz.prog.underlying 3 = some (.int .i64)) i85 z85s (by decide) rfl rfl _ _ rfl ⟨g, 0, none⟩ q c (xs.length + 1 - q) (F.e rfl) (F.e rfl) ((xs.take q).flatMap Rv.cs) (by rw [flat_len, List.length_take]; congr 1; omega) (at_to (M.at (i := 1) rfl)) (by omega) (by omega) (by omega) (by omega) ?_
  clear F M a; intro a ga ca sp2 v F M hl2 hqc2 hcm2 hb hg2
  refine hK _ _ ?_
  clear hK K
  clear hb hg2; try clear w
  replace M : Mm w0 v [⟨ga, ((xs.take q).flatMap Rv.cs ++ sp2).toArray, 85⟩, ⟨gx, x.arr, 85⟩, ⟨g, (xs.flatMap Rv.cs ++ sp).toArray, 85⟩] := M
  have e1 : q + (xs.length + 1 - q) = xs.length + 1 := by omega
  rw [e1] at F hqc2
  have hft : ((xs.take q).flatMap Rv.cs).length = q * 19 := by rw [flat_len, List.length_take]; congr 1; omega
  refine list_val F (wn rfl) rfl rfl (.slice (some ⟨ga, 0, none⟩) (xs.length + 1) ca) (ex_assign _ rfl _ (F.e rfl)) ?_; clear F a; intro a F
  refine wpList_nil ?_
  replace F : Fr 95 a [(0, .slice (some ⟨g, 0, none⟩) xs.length c), (1, .int .i64 ((q : Nat) : Int)), (2, .slice (some ⟨gx, 0, none⟩) 1 1), (6, .slice none 0 0), (7, .int .i64 1), (8, .int .i64 ((xs.length : Nat) : Int)), (9, .slice (some ⟨ga, 0, none⟩) (xs.length + 1) ca), (16, .bool false), (22, .bool false), (31, .bool true)] := F.keep ⟨rfl, rfl, rfl, rfl, rfl, rfl, rfl, rfl, rfl, rfl, trivial⟩
  refine then_n ?_
  refine wp_seq ?_
  refine wp_region_lit ?_
  refine list_val F (wn rfl) rfl rfl (.slice (some ⟨ga, 0, none⟩) (xs.length + 1) ca) (ex_move _ rfl _ (F.e rfl)) ?_; clear F a; intro a F
  refine list_val F (wn rfl) rfl rfl (.int .i64 ((q : Nat) : Int)) (ex_move _ rfl _ (F.e rfl)) ?_; clear F a; intro a F
  refine list_val F (wn rfl) rfl rfl (.slice (some ⟨ga, q * 19, none⟩) ((xs.length + 1) - q) (ca - q)) (ex_cutendB 57 85 19 Tryz.underlying57 s85 _ _ rfl ga (xs.length + 1) ca (F.e rfl) _ (F.e rfl) q rfl (by omega) (by omega)) ?_; clear F a; intro a F
  refine list_val F (wn rfl) rfl rfl (.slice (some ⟨gx, 0, none⟩) 1 1) (ex_move _ rfl _ (F.e rfl)) ?_; clear F a; intro a F
  refine list_do (wn rfl) (fun K hK => ?_)
  refine ow_copyM F M Tryz.underlying57 s85 rfl rfl _ _ rfl 0 ga (q * 19) ((xs.length + 1) - q) (ca - q) ((xs.take q).flatMap Rv.cs ++ sp2).toArray 85 rfl (F.e rfl) ⟨gx, 0, none⟩ 1 1 (F.e rfl) (x.cs) (by rw [Rv.cs_len, show Nat.min 1 ((xs.length + 1) - q) = 1 from Nat.min_eq_left (by omega)]) ((M.at (i := 1) rfl)) (Rv.cs_one x) (by rw [List.size_toArray, hl2]; simp only [Rv.cs_len, flat_len, List.length_drop]; omega) _ (put_tail hft) ?_
  clear F a; have Mo := M; clear M; intro a u F M hgr
  refine hK _ _ ?_
  clear hK K
  clear Mo hgr; try clear v
  replace M : Mm w0 u [⟨ga, ((xs.take q).flatMap Rv.cs ++ x.cs ++ (sp2).drop (x.cs).length).toArray, 85⟩, ⟨gx, x.arr, 85⟩, ⟨g, (xs.flatMap Rv.cs ++ sp).toArray, 85⟩] := M
  refine wpList_nil ?_
  replace F : Fr 95 a [(0, .slice (some ⟨g, 0, none⟩) xs.length c), (1, .int .i64 ((q : Nat) : Int)), (2, .slice (some ⟨gx, 0, none⟩) 1 1), (6, .slice none 0 0), (7, .int .i64 1), (8, .int .i64 ((xs.length : Nat) : Int)), (9, .slice (some ⟨ga, 0, none⟩) (xs.length + 1) ca), (16, .bool false), (22, .bool false), (31, .bool true)] := F.keep ⟨rfl, rfl, rfl, rfl, rfl, rfl, rfl, rfl, rfl, rfl, trivial⟩
  refine then_n ?_
  refine wp_seq ?_
  refine region_tail 8 r3_follows_mixedOrders (by kernel_rfl) M ?_; clear M; intro v M hb
  clear hb; try clear u
  refine still_val F (wn rfl) rfl rfl (.slice (some ⟨ga, 0, none⟩) (xs.length + 1) ca) (ex_move _ rfl _ (F.e rfl)) ?_; clear F a; intro a F
  refine still_val F (wn rfl) rfl rfl (.int .i64 ((q : Nat) : Int)) (ex_move _ rfl _ (F.e rfl)) ?_; clear F a; intro a F
  refine still_val F (wn rfl) rfl rfl (.int .i64 1) (ex_move _ rfl _ (F.e rfl)) ?_; clear F a; intro a F
  refine still_val F (wn rfl) rfl rfl (.int .i64 ((q + 1 : Nat) : Int)) (ex_bin .add _ _ _ _ rfl .i64 _ _ (F.e rfl) (F.e rfl) _ (b_add ((w_i64 (by omega) (by omega)).trans (by omega)))) ?_; clear F a; intro a F
  refine still_val F (wn rfl) rfl rfl (.slice (some ⟨ga, (q + 1) * 19, none⟩) ((xs.length + 1) - (q + 1)) (ca - (q + 1))) (ex_cutendB 57 85 19 Tryz.underlying57 s85 _ _ rfl ga (xs.length + 1) ca (F.e rfl) _ (F.e rfl) (q + 1) rfl (by omega) (by omega)) ?_; clear F a; intro a F
  refine still_val F (wn rfl) rfl rfl (.slice (some ⟨g, 0, none⟩) xs.length c) (ex_move _ rfl _ (F.e rfl)) ?_; clear F a; intro a F
  refine still_val F (wn rfl) rfl rfl (.int .i64 ((q : Nat) : Int)) (ex_move _ rfl _ (F.e rfl)) ?_; clear F a; intro a F
  refine still_val F (wn rfl) rfl rfl (.slice (some ⟨g, q * 19, none⟩) (xs.length - q) (c - q)) (ex_cutendB 57 85 19 Tryz.underlying57 s85 _ _ rfl g xs.length c (F.e rfl) _ (F.e rfl) q rfl (by omega) (by omega)) ?_; clear F a; intro a F
  refine still_end ?_
  refine list_do (wn rfl) (fun K hK => ?_)
  have hft2 : ((xs.take q).flatMap Rv.cs ++ x.cs).length = (q + 1) * 19 := by rw [List.length_append, hft, Rv.cs_len]; omega
  have hl3 : ((xs.take q).flatMap Rv.cs ++ x.cs ++ sp2.drop x.cs.length).length = ca * 19 := by rw [List.length_append, hft2, List.length_drop, Rv.cs_len]; rw [List.length_append, hft] at hl2; omega
  refine ow_copyM F M Tryz.underlying57 s85 rfl rfl _ _ rfl 0 ga ((q + 1) * 19) ((xs.length + 1) - (q + 1)) (ca - (q + 1)) ((xs.take q).flatMap Rv.cs ++ x.cs ++ (sp2.drop x.cs.length)).toArray 85 rfl (F.e rfl) ⟨g, q * 19, none⟩ (xs.length - q) (c - q) (F.e rfl) ((xs.drop q).flatMap Rv.cs) (by rw [flat_len, List.length_drop, show Nat.min (xs.length - q) ((xs.length + 1) - (q + 1)) = xs.length - q from Nat.min_eq_left (by omega)]) ((at_from (M.at (i := 2) rfl) (by omega))) (flat_one _) (by rw [List.size_toArray, hl3]; simp only [Rv.cs_len, flat_len, List.length_drop]; omega) _ (put_tail hft2) ?_
  clear F a; have Mo := M; clear M; intro a u F M hgr
  refine hK _ _ ?_
  clear hK K
  clear Mo hgr; try clear v
  replace M : Mm w0 u [⟨ga, ((xs.take q).flatMap Rv.cs ++ x.cs ++ (xs.drop q).flatMap Rv.cs ++ (sp2.drop x.cs.length).drop ((xs.drop q).flatMap Rv.cs).length).toArray, 85⟩, ⟨gx, x.arr, 85⟩, ⟨g, (xs.flatMap Rv.cs ++ sp).toArray, 85⟩] := M
  refine wpList_nil ?_
  replace F : Fr 95 a [(0, .slice (some ⟨g, 0, none⟩) xs.length c), (1, .int .i64 ((q : Nat) : Int)), (2, .slice (some ⟨gx, 0, none⟩) 1 1), (6, .slice none 0 0), (7, .int .i64 1), (8, .int .i64 ((xs.length : Nat) : Int)), (9, .slice (some ⟨ga, 0, none⟩) (xs.length + 1) ca), (16, .bool false), (22, .bool false), (31, .bool true)] := F.keep ⟨rfl, rfl, rfl, rfl, rfl, rfl, rfl, rfl, rfl, rfl, trivial⟩
  refine then_n ?_
  refine wp_seq ?_
  refine wp_region_lit ?_
  refine list_val F (wn rfl) rfl rfl (.slice (some ⟨ga, 0, none⟩) (xs.length + 1) ca) (ex_move _ rfl _ (F.e rfl)) ?_; clear F a; intro a F
  refine list_val F (wn rfl) rfl rfl (.slice (some ⟨ga, 0, none⟩) (xs.length + 1) ca) (ex_assign _ rfl _ (F.e rfl)) ?_; clear F a; intro a F
  refine wpList_nil ?_
  replace F : Fr 95 a [(0, .slice (some ⟨g, 0, none⟩) xs.length c), (1, .int .i64 ((q : Nat) : Int)), (2, .slice (some ⟨gx, 0, none⟩) 1 1), (6, .slice (some ⟨ga, 0, none⟩) (xs.length + 1) ca), (7, .int .i64 1), (8, .int .i64 ((xs.length : Nat) : Int)), (9, .slice (some ⟨ga, 0, none⟩) (xs.length + 1) ca), (16, .bool false), (22, .bool false), (31, .bool true)] := F.keep ⟨rfl, rfl, rfl, rfl, rfl, rfl, rfl, rfl, rfl, rfl, trivial⟩
  refine then_n ?_
  refine wp_ret ?_
  refine then_r ?_
  exact ret_tmp F rfl rfl ⟨_, _, rfl, Ow.of_block (enc := Rv.cs) (m := 19) (sp := (sp2.drop x.cs.length).drop ((xs.drop q).flatMap Rv.cs).length) (by rw [ins_flat]; exact M.blk 0 _ rfl) (M.lo 0 _ rfl) (by simp; omega) (by omega) hcm2 (by rw [ins_flat]; simp only [List.length_append, List.length_drop, hft, flat_len, Rv.cs_len] at hl2 ⊢; omega), M.bel⟩
 refine wp_region_lit ?_
 refine list_val F (wn rfl) rfl rfl (.int .i64 ((xs.length : Nat) : Int)) (ex_move _ rfl _ (F.e rfl)) ?_; clear F a; intro a F
 refine list_val F (wn rfl) rfl rfl (.int .i64 1) (ex_move _ rfl _ (F.e rfl)) ?_; clear F a; intro a F
 refine list_val F (wn rfl) rfl rfl (.int .i64 ((xs.length + 1 : Nat) : Int)) (ex_bin .add _ _ _ _ rfl .i64 _ _ (F.e rfl) (F.e rfl) _ (b_add ((w_i64 (by omega) (by omega)).trans (by omega)))) ?_; clear F a; intro a F
 refine list_val F (wn rfl) rfl rfl (.slice (some ⟨g, 0, none⟩) xs.length c) (ex_move _ rfl _ (F.e rfl)) ?_; clear F a; intro a F
 refine list_val F (wn rfl) rfl rfl (.int .i64 ((c : Nat) : Int)) (ex_cap _ 57 19 r3_sl_57_19 rfl (some ⟨g, 0, none⟩) xs.length c (F.e rfl)) ?_; clear F a; intro a F
 refine list_val F (wn rfl) rfl rfl (.bool false) (ex_bin .gtr _ _ _ _ rfl .i64 _ _ (F.e rfl) (F.e rfl) _ (b_gtr (decide_eq_false (by omega)))) ?_; clear F a; intro a F
 refine wpList_nil ?_
 replace F : Fr 95 a [(0, .slice (some ⟨g, 0, none⟩) xs.length c), (1, .int .i64 ((q : Nat) : Int)), (2, .slice (some ⟨gx, 0, none⟩) 1 1), (6, .slice none 0 0), (7, .int .i64 1), (8, .int .i64 ((xs.length : Nat) : Int)), (16, .bool false), (22, .bool false), (31, .bool false)] := F.keep ⟨rfl, rfl, rfl, rfl, rfl, rfl, rfl, rfl, rfl, trivial⟩
 refine then_n ?_
 refine wp_cond_false (F.e rfl) ?_
 refine wp_skip ?_
 refine then_n ?_
 refine wp_seq ?_
 refine wp_region_lit ?_
 refine list_val F (wn rfl) rfl rfl (.slice (some ⟨g, 0, none⟩) xs.length c) (ex_move _ rfl _ (F.e rfl)) ?_; clear F a; intro a F
 refine list_val F (wn rfl) rfl rfl (.int .i64 ((xs.length : Nat) : Int)) (ex_move _ rfl _ (F.e rfl)) ?_; clear F a; intro a F
 refine list_val F (wn rfl) rfl rfl (.int .i64 1) (ex_move _ rfl _ (F.e rfl)) ?_; clear F a; intro a F
 refine list_val F (wn rfl) rfl rfl (.int .i64 ((xs.length + 1 : Nat) : Int)) (ex_bin .add _ _ _ _ rfl .i64 _ _ (F.e rfl) (F.e rfl) _ (b_add ((w_i64 (by omega) (by omega)).trans (by omega)))) ?_; clear F a; intro a F
 refine list_val F (wn rfl) rfl rfl (.slice (some ⟨g, 0, none⟩) (xs.length + 1) c) (ex_cutto 57 85 19 Tryz.underlying57 s85 _ _ rfl (some ⟨g, 0, none⟩) xs.length c (F.e rfl) _ (F.e rfl) (xs.length + 1) rfl (by omega)) ?_; clear F a; intro a F
 refine list_val F (wn rfl) rfl rfl (.slice (some ⟨g, 0, none⟩) (xs.length + 1) c) (ex_assign _ rfl _ (F.e rfl)) ?_; clear F a; intro a F
 refine wpList_nil ?_
 replace F : Fr 95 a [(0, .slice (some ⟨g, 0, none⟩) (xs.length + 1) c), (1, .int .i64 ((q : Nat) : Int)), (2, .slice (some ⟨gx, 0, none⟩) 1 1), (6, .slice none 0 0), (7, .int .i64 1), (8, .int .i64 ((xs.length : Nat) : Int)), (16, .bool false), (22, .bool false), (31, .bool false)] := F.keep ⟨rfl, rfl, rfl, rfl, rfl, rfl, rfl, rfl, rfl, trivial⟩
 refine then_n ?_
 refine wp_seq ?_
 refine wp_seq ?_
 refine wp_region_lit ?_
 refine list_val F (wn rfl) rfl rfl (.slice (some ⟨gx, 0, none⟩) 1 1) (ex_move _ rfl _ (F.e rfl)) ?_; clear F a; intro a F
 refine list_val F (wn rfl) rfl rfl (.slice (some ⟨g, 0, none⟩) (xs.length + 1) c) (ex_move _ rfl _ (F.e rfl)) ?_; clear F a; intro a F
 refine list_val F (wn rfl) rfl rfl (.int .i64 ((q : Nat) : Int)) (ex_move _ rfl _ (F.e rfl)) ?_; clear F a; intro a F
 refine list_val F (wn rfl) rfl rfl (.int .i64 1) (ex_move _ rfl _ (F.e rfl)) ?_; clear F a; intro a F
 refine list_val F (wn rfl) rfl rfl (.int .i64 ((q + 1 : Nat) : Int)) (ex_bin .add _ _ _ _ rfl .i64 _ _ (F.e rfl) (F.e rfl) _ (b_add ((w_i64 (by omega) (by omega)).trans (by omega)))) ?_; clear F a; intro a F
 refine list_val F (wn rfl) rfl rfl (.slice (some ⟨g, (q + 1) * 19, none⟩) (xs.length + 1 - (q + 1)) (c - (q + 1))) (ex_cutendB 57 85 19 Tryz.underlying57 s85 _ _ rfl g (xs.length + 1) c (F.e rfl) _ (F.e rfl) (q + 1) rfl (by omega) (by omega)) ?_; clear F a; intro a F
 refine list_do (wn rfl) (fun K hK => ?_)
 refine ow_val F rfl rfl (.bool false) (ex_callx 80 _ _ rfl rfl _ (map2 (F.e rfl) (F.e rfl)) _ (run_over (M.blk 0 _ rfl) (M.blk 1 _ rfl) hne (by rw [List.size_toArray, hsz]; omega))) ?_; clear F a; intro a F
 refine hK _ _ ?_
 clear hK K
 refine list_val F (wn rfl) rfl rfl (.bool true) (ex_not _ _ rfl _ (F.e rfl) _ rfl) ?_; clear F a; intro a F
 refine wpList_nil ?_
 replace F : Fr 95 a [(0, .slice (some ⟨g, 0, none⟩) (xs.length + 1) c), (1, .int .i64 ((q : Nat) : Int)), (2, .slice (some ⟨gx, 0, none⟩) 1 1), (6, .slice none 0 0), (7, .int .i64 1), (8, .int .i64 ((xs.length : Nat) : Int)), (16, .bool false), (22, .bool false), (31, .bool false), (68, .bool true)] := F.keep ⟨rfl, rfl, rfl, rfl, rfl, rfl, rfl, rfl, rfl, rfl, trivial⟩
 refine then_n ?_
 refine wp_cond_true (F.e rfl) ?_
 refine wp_seq ?_
 refine region_tail 8 r3_follows_mixedOrders (by kernel_rfl) M ?_; clear M; intro v M hb
 clear hb; try clear w
 refine still_val F (wn rfl) rfl rfl (.slice (some ⟨g, 0, none⟩) (xs.length + 1) c) (ex_move _ rfl _ (F.e rfl)) ?_; clear F a; intro a F
 refine still_val F (wn rfl) rfl rfl (.int .i64 ((q : Nat) : Int)) (ex_move _ rfl _ (F.e rfl)) ?_; clear F a; intro a F
 refine still_val F (wn rfl) rfl rfl (.int .i64 1) (ex_move _ rfl _ (F.e rfl)) ?_; clear F a; intro a F
 refine still_val F (wn rfl) rfl rfl (.int .i64 ((q + 1 : Nat) : Int)) (ex_bin .add _ _ _ _ rfl .i64 _ _ (F.e rfl) (F.e rfl) _ (b_add ((w_i64 (by omega) (by omega)).trans (by omega)))) ?_; clear F a; intro a F
 refine still_val F (wn rfl) rfl rfl (.slice (some ⟨g, (q + 1) * 19, none⟩) (xs.length + 1 - (q + 1)) (c - (q + 1))) (ex_cutendB 57 85 19 Tryz.underlying57 s85 _ _ rfl g (xs.length + 1) c (F.e rfl) _ (F.e rfl) (q + 1) rfl (by omega) (by omega)) ?_; clear F a; intro a F
 refine still_val F (wn rfl) rfl rfl (.slice (some ⟨g, 0, none⟩) (xs.length + 1) c) (ex_move _ rfl _ (F.e rfl)) ?_; clear F a; intro a F
 refine still_val F (wn rfl) rfl rfl (.int .i64 ((q : Nat) : Int)) (ex_move _ rfl _ (F.e rfl)) ?_; clear F a; intro a F
 refine still_val F (wn rfl) rfl rfl (.slice (some ⟨g, q * 19, none⟩) (xs.length + 1 - q) (c - q)) (ex_cutendB 57 85 19 Tryz.underlying57 s85 _ _ rfl g (xs.length + 1) c (F.e rfl) _ (F.e rfl) q rfl (by omega) (by omega)) ?_; clear F a; intro a F
 refine still_end ?_
 refine list_do (wn rfl) (fun K hK => ?_)
 have hsz' : ((xs.flatMap Rv.cs ++ sp).take ((q + 1) * 19) ++ (xs.flatMap Rv.cs ++ sp).drop ((q + 1) * 19)).length = c * 19 := by rw [List.take_append_drop]; exact hsz
 refine ow_copyM F M Tryz.underlying57 s85 rfl rfl _ _ rfl 1 g ((q + 1) * 19) (xs.length + 1 - (q + 1)) (c - (q + 1)) ((xs.flatMap Rv.cs ++ sp).take ((q + 1) * 19) ++ ((xs.flatMap Rv.cs ++ sp).drop ((q + 1) * 19))).toArray 85 (by rw [List.take_append_drop]; rfl) (F.e rfl) ⟨g, q * 19, none⟩ (xs.length + 1 - q) (c - q) (F.e rfl) ((xs.drop q).flatMap Rv.cs) (by rw [flat_len, List.length_drop, show Nat.min (xs.length + 1 - q) (xs.length + 1 - (q + 1)) = xs.length - q from (Nat.min_eq_right (by omega)).trans (by omega)]) ((at_from (M.at (i := 1) rfl) (by omega))) (flat_one _) (by rw [List.size_toArray, hsz']; simp only [Rv.cs_len, flat_len, List.length_drop]; omega) _ (put_tail (by rw [List.length_take, hsz]; omega)) ?_
 clear F a; have Mo := M; clear M; intro a u F M hgr
 refine hK _ _ ?_
 clear hK K
 clear Mo hgr; try clear v
 replace M : Mm w0 u [⟨gx, x.arr, 85⟩, ⟨g, ((xs.flatMap Rv.cs ++ sp).take ((q + 1) * 19) ++ (xs.drop q).flatMap Rv.cs ++ ((xs.flatMap Rv.cs ++ sp).drop ((q + 1) * 19)).drop ((xs.drop q).flatMap Rv.cs).length).toArray, 85⟩] := M
 refine wpList_nil ?_
 replace F : Fr 95 a [(0, .slice (some ⟨g, 0, none⟩) (xs.length + 1) c), (1, .int .i64 ((q : Nat) : Int)), (2, .slice (some ⟨gx, 0, none⟩) 1 1), (6, .slice none 0 0), (7, .int .i64 1), (8, .int .i64 ((xs.length : Nat) : Int)), (16, .bool false), (22, .bool false), (31, .bool false), (68, .bool true)] := F.keep ⟨rfl, rfl, rfl, rfl, rfl, rfl, rfl, rfl, rfl, rfl, trivial⟩
 refine then_n ?_
 refine wp_seq ?_
 refine wp_region_lit ?_
 refine list_val F (wn rfl) rfl rfl (.slice (some ⟨g, 0, none⟩) (xs.length + 1) c) (ex_move _ rfl _ (F.e rfl)) ?_; clear F a; intro a F
 refine list_val F (wn rfl) rfl rfl (.int .i64 ((q : Nat) : Int)) (ex_move _ rfl _ (F.e rfl)) ?_; clear F a; intro a F
 refine list_val F (wn rfl) rfl rfl (.slice (some ⟨g, q * 19, none⟩) (xs.length + 1 - q) (c - q)) (ex_cutendB 57 85 19 Tryz.underlying57 s85 _ _ rfl g (xs.length + 1) c (F.e rfl) _ (F.e rfl) q rfl (by omega) (by omega)) ?_; clear F a; intro a F
 refine list_val F (wn rfl) rfl rfl (.slice (some ⟨gx, 0, none⟩) 1 1) (ex_move _ rfl _ (F.e rfl)) ?_; clear F a; intro a F
 refine list_do (wn rfl) (fun K hK => ?_)
 have hft : ((xs.take q).flatMap Rv.cs).length = q * 19 := by rw [flat_len, List.length_take]; congr 1; omega
 have hcut := cut_q (sp := sp) hq
 have eL : (xs.flatMap Rv.cs ++ sp).take ((q + 1) * 19) ++ (xs.drop q).flatMap Rv.cs ++ ((xs.flatMap Rv.cs ++ sp).drop ((q + 1) * 19)).drop ((xs.drop q).flatMap Rv.cs).length = (xs.take q).flatMap Rv.cs ++ (((xs.flatMap Rv.cs ++ sp).drop (q * 19)).take 19 ++ (xs.drop q).flatMap Rv.cs ++ ((xs.flatMap Rv.cs ++ sp).drop ((q + 1) * 19)).drop ((xs.drop q).flatMap Rv.cs).length) := by rw [hcut, List.append_assoc, List.append_assoc, ← List.append_assoc (List.take 19 _)]
 have hl4 : ((xs.take q).flatMap Rv.cs ++ (((xs.flatMap Rv.cs ++ sp).drop (q * 19)).take 19 ++ (xs.drop q).flatMap Rv.cs ++ ((xs.flatMap Rv.cs ++ sp).drop ((q + 1) * 19)).drop ((xs.drop q).flatMap Rv.cs).length)).length = c * 19 := by rw [← eL]; simp only [List.length_append, List.length_take, List.length_drop, flat_len] at hsz ⊢; omega
 rw [eL] at M
 replace M : Mm w0 u [⟨gx, x.arr, 85⟩, ⟨g, ((xs.take q).flatMap Rv.cs ++ (((xs.flatMap Rv.cs ++ sp).drop (q * 19)).take 19 ++ (xs.drop q).flatMap Rv.cs ++ ((xs.flatMap Rv.cs ++ sp).drop ((q + 1) * 19)).drop ((xs.drop q).flatMap Rv.cs).length)).toArray, 85⟩] := M
 refine ow_copyM F M Tryz.underlying57 s85 rfl rfl _ _ rfl 1 g (q * 19) (xs.length + 1 - q) (c - q) ((xs.take q).flatMap Rv.cs ++ (((xs.flatMap Rv.cs ++ sp).drop (q * 19)).take 19 ++ (xs.drop q).flatMap Rv.cs ++ ((xs.flatMap Rv.cs ++ sp).drop ((q + 1) * 19)).drop ((xs.drop q).flatMap Rv.cs).length)).toArray 85 rfl (F.e rfl) ⟨gx, 0, none⟩ 1 1 (F.e rfl) (x.cs) (by rw [Rv.cs_len, show Nat.min 1 (xs.length + 1 - q) = 1 from Nat.min_eq_left (by omega)]) ((M.at (i := 0) rfl)) (Rv.cs_one x) (by rw [List.size_toArray, hl4]; simp only [Rv.cs_len, flat_len, List.length_drop]; omega) _ (put_tail hft) ?_
 clear F a; have Mo := M; clear M; intro a v F M hgr
 refine hK _ _ ?_
 clear hK K
 clear Mo hgr; try clear u
 replace M : Mm w0 v [⟨gx, x.arr, 85⟩, ⟨g, ((xs.take q).flatMap Rv.cs ++ x.cs ++ (((xs.flatMap Rv.cs ++ sp).drop (q * 19)).take 19 ++ (xs.drop q).flatMap Rv.cs ++ ((xs.flatMap Rv.cs ++ sp).drop ((q + 1) * 19)).drop ((xs.drop q).flatMap Rv.cs).length).drop (x.cs).length).toArray, 85⟩] := M
 refine wpList_nil ?_
 replace F : Fr 95 a [(0, .slice (some ⟨g, 0, none⟩) (xs.length + 1) c), (1, .int .i64 ((q : Nat) : Int)), (2, .slice (some ⟨gx, 0, none⟩) 1 1), (6, .slice none 0 0), (7, .int .i64 1), (8, .int .i64 ((xs.length : Nat) : Int)), (16, .bool false), (22, .bool false), (31, .bool false), (68, .bool true)] := F.keep ⟨rfl, rfl, rfl, rfl, rfl, rfl, rfl, rfl, rfl, rfl, trivial⟩
 refine then_n ?_
 refine wp_seq ?_
 refine wp_region_lit ?_
 refine list_val F (wn rfl) rfl rfl (.slice (some ⟨g, 0, none⟩) (xs.length + 1) c) (ex_move _ rfl _ (F.e rfl)) ?_; clear F a; intro a F
 refine list_val F (wn rfl) rfl rfl (.slice (some ⟨g, 0, none⟩) (xs.length + 1) c) (ex_assign _ rfl _ (F.e rfl)) ?_; clear F a; intro a F
 refine wpList_nil ?_
 replace F : Fr 95 a [(0, .slice (some ⟨g, 0, none⟩) (xs.length + 1) c), (1, .int .i64 ((q : Nat) : Int)), (2, .slice (some ⟨gx, 0, none⟩) 1 1), (6, .slice (some ⟨g, 0, none⟩) (xs.length + 1) c), (7, .int .i64 1), (8, .int .i64 ((xs.length : Nat) : Int)), (16, .bool false), (22, .bool false), (31, .bool false), (68, .bool true)] := F.keep ⟨rfl, rfl, rfl, rfl, rfl, rfl, rfl, rfl, rfl, rfl, trivial⟩
 refine then_n ?_
 refine wp_ret ?_
 refine then_r ?_
 have eT : (((xs.flatMap Rv.cs ++ sp).drop (q * 19)).take 19 ++ (xs.drop q).flatMap Rv.cs ++ ((xs.flatMap Rv.cs ++ sp).drop ((q + 1) * 19)).drop ((xs.drop q).flatMap Rv.cs).length).drop x.cs.length = (xs.drop q).flatMap Rv.cs ++ ((xs.flatMap Rv.cs ++ sp).drop ((q + 1) * 19)).drop ((xs.drop q).flatMap Rv.cs).length := by
   rw [List.append_assoc, List.drop_append, List.drop_eq_nil_of_le (by rw [List.length_take, List.length_drop, hsz, Rv.cs_len]; omega), List.nil_append, List.length_take, List.length_drop, hsz, Rv.cs_len, show 19 - min 19 (c * 19 - q * 19) = 0 by omega, List.drop_zero]
 rw [eT, ← List.append_assoc] at M
 exact ret_tmp F rfl rfl ⟨_, _, rfl, Ow.of_block (enc := Rv.cs) (m := 19) (sp := ((xs.flatMap Rv.cs ++ sp).drop ((q + 1) * 19)).drop ((xs.drop q).flatMap Rv.cs).length) (by rw [ins_flat]; exact M.blk 1 _ rfl) (M.lo 1 _ rfl) (by simp; omega) (by omega) hcm (by rw [ins_flat]; simp only [List.length_append, List.length_drop, List.length_take, hft, flat_len, Rv.cs_len] at hsz ⊢; omega), M.bel⟩
/-- Insert one entry: a row of one's own, told anew. -/
theorem insert_any (xs : List Rv) (A : Option Addr) (c q : Nat) (x : Rv) (gx : Nat) (w0 w : World) (H : List Blk) (hM : Mm w0 w H) {i : Nat} (hi : H[i]? = some ⟨gx, x.arr, 85⟩) (hO : Ow kRv 85 w w0.heap.size (.slice A xs.length c) xs) (hne : ∀ k, (Value.slice A xs.length c).ownBlock = some k → gx ≠ k) (hq : q ≤ xs.length) (hmx : xs.length ≤ 1000000) :
    Calls Tryz.prog 41 #[.slice A xs.length c, .int .i64 ((q : Nat) : Int), .slice (some ⟨gx, 0, none⟩) 1 1] w fun e w' => ∃ A' c', e = .returned (.slice A' (xs.length + 1) c') ∧ Ow kRv 85 w' w0.heap.size (.slice A' (xs.length + 1) c') (xs.take q ++ [x] ++ xs.drop q) ∧ Below w0.heap.size w0 w' := by
  have hx1 : Mm w0 w [⟨gx, x.arr, 85⟩] := M_one hM hi
  rcases Nat.lt_or_ge q xs.length with h | h
  · obtain ⟨g, sp, rfl, _, hg, hh, hsz, hc, hcm⟩ := hO.open (by decide) (by omega)
    have hgx := hne g rfl
    have M2 : Mm w0 w [⟨gx, x.arr, 85⟩, ⟨g, (xs.flatMap Rv.cs ++ sp).toArray, 85⟩] := M_two hx1 hg hh hgx
    exact insert_mid0 xs g c q sp x gx w0 w M2 h hsz hc hcm hmx
  · obtain rfl : q = xs.length := by omega
    refine (insert_end0 xs A c x gx w0 w hx1 hO hO.rd.2.2 hmx).mono fun e w' ⟨A', c', he, h2, h3⟩ => ?_
    rw [List.length_append] at he h2
    exact ⟨A', c', he, by rw [List.take_length, List.drop_length, List.append_nil]; exact h2, h3⟩
end Go.Proofs.YtnjbjjmoglogeaaGreat
